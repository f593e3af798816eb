/- Contracts of package cell's functions for a call entered alone, handed no thread: what each answers and what it leaves in the cell. -/
import Derived.Test.YtjbhhoajpahdlaaProg
import Derived.Test.YtjbhhoajpahdlaaLocks
import Derived.Test.YtjbhhoajpahdlaaBase
import Derived.Conc.MuLone
import Derived.WalkKit
import Derived.Laws.LoneSync
import Derived.KernelRfl
namespace Go.Proofs.Ytjbhhoajpahdlaa
open Go.RowKit (wrap32 wrap64)
open Go.MuLone

theorem run_add64 (w : World) (a : Addr) (x y : Int) (hc : w.cell? a = some (.int .i64 x)) (hz : w.frozen? a = false) :
    (callFunc 123 #[.pointer (some a), .int .i64 y]).run Try.prog w = .ok (.value (.int .i64 (wrap64 (x + y)))) (w.setCell a (.int .i64 (wrap64 (x + y)))) :=
  run_call_add Try.func123 (by kernel_rfl) (by kernel_rfl) (by kernel_rfl) .i64 (by kernel_rfl) hc hz (by simp [go_sem, wrap64, IntKind.wrap_i64])
theorem run_load64 (w : World) (a : Addr) (x : Int) (hc : w.cell? a = some (.int .i64 x)) :
    (callFunc 124 #[.pointer (some a)]).run Try.prog w = .ok (.value (.int .i64 x)) w :=
  run_call_load Try.func124 (by kernel_rfl) (by kernel_rfl) (by kernel_rfl) .i64 (by kernel_rfl) hc
theorem run_store64 (w : World) (a : Addr) (x y : Int) (hc : w.cell? a = some (.int .i64 x)) (hz : w.frozen? a = false) :
    (callFunc 125 #[.pointer (some a), .int .i64 y]).run Try.prog w = .ok (.value (.tuple #[])) (w.setCell a (.int .i64 y)) :=
  run_call_store Try.func125 (by kernel_rfl) (by kernel_rfl) (by kernel_rfl) (by kernel_rfl) hc hz
theorem run_cas64_hit (w : World) (a : Addr) (x y : Int) (hc : w.cell? a = some (.int .i64 x)) (hz : w.frozen? a = false) :
    (callFunc 158 #[.pointer (some a), .int .i64 x, .int .i64 y]).run Try.prog w = .ok (.value (.bool true)) (w.setCell a (.int .i64 y)) :=
  run_call_cas_hit Try.func158 (by kernel_rfl) (by kernel_rfl) (by kernel_rfl) .i64 (by kernel_rfl) hc hz
theorem run_cas64_miss (w : World) (a : Addr) (x o y : Int) (hc : w.cell? a = some (.int .i64 x)) (hz : w.frozen? a = false) (hne : ¬ x = o) :
    (callFunc 158 #[.pointer (some a), .int .i64 o, .int .i64 y]).run Try.prog w = .ok (.value (.bool false)) w :=
  run_call_cas_miss Try.func158 (by kernel_rfl) (by kernel_rfl) (by kernel_rfl) .i64 (by kernel_rfl) hc hz hne

theorem run_swap64 (w : World) (a : Addr) (x y : Int) (hc : w.cell? a = some (.int .i64 x)) (hz : w.frozen? a = false) :
    (callFunc 159 #[.pointer (some a), .int .i64 y]).run Try.prog w = .ok (.value (.int .i64 x)) (w.setCell a (.int .i64 y)) := by
  rw [run_callFunc_extern Try.func159 (by kernel_rfl) (by kernel_rfl) (by kernel_rfl) (show Extern.find Try.f159 = some (Extern.Atomic.swapT (.int .i64)) by kernel_rfl)]
  change (Sem.run Try.prog (do
    let a' ← asAddr (.pointer (some a))
    let old ← Extern.Atomic.read (.int .i64) a'
    store a' (.int .i64 y) .atomic
    pure old) w).andThen _ = _
  simp [Extern.Atomic.read, asAddr, store, Sem.run, hc, hz, Result.andThen]

/-- cell.New -/
theorem cell_new (v : Int) (w : World) :
    Calls Try.prog 40 #[.int .i64 v] w fun e w' => e = .returned (.pointer (some ⟨w.heap.size, 0, none⟩)) ∧ w' = w.alloc (.cells #[.int .i64 v, .bool true, .int .i32 0, .int .u32 0, .chan none] 184) := by
  have hs := run_store64
  go_enter Try.func40, Try.ntmps40
  go_wp2
  go_end0
  go_wp2
  go_ret
  exact ⟨rfl, rfl⟩

/-- (*cell.Cell).none, of one that New made. -/
theorem cell_none_made (b o : Nat) (w : World) (h1 : w.cell? ⟨b, o + 1, none⟩ = some (.bool true)) :
    Calls Try.prog 89 #[.pointer (some ⟨b, o, none⟩)] w fun e w' => e = .returned (.bool false) ∧ w = w' := by
  go_enter Try.func89, Try.ntmps89
  go_wp2
  go_ret
  exact ⟨rfl, rfl⟩

/-- (*gate.Thread).Live, of no thread. -/
theorem live_none (w : World) :
    Calls Try.prog 90 #[.pointer none] w fun e w' => e = .returned (.bool false) ∧ w = w' := by
  go_enter Try.func90, Try.ntmps90
  go_wp2
  go_ret
  exact ⟨rfl, rfl⟩

theorem run_chan_neq_none (w : World) : (binOp .neq 182 (.chan none) (.chan none)).run Try.prog w = .ok (.bool false) w := by kernel_rfl

set_option maxRecDepth 100000 in
set_option maxHeartbeats 800000 in
/-- (*cell.Cell).wakes, where nobody sleeps and the lock is free: the world is as it was. -/
theorem cell_wakes (b o : Nat) (w : World) (h2 : w.cell? ⟨b, o + 2, none⟩ = some (.int .i32 0)) (h4 : w.cell? ⟨b, o + 4, none⟩ = some (.chan none)) (f2 : w.frozen? ⟨b, o + 2, none⟩ = false) :
    Calls Try.prog 110 #[.pointer (some ⟨b, o, none⟩)] w fun e w' => e = .returned (.tuple #[]) ∧ w = w' := by
  have hcn := run_chan_neq_none
  go_enter_defers Try.func110, Try.ntmps110
  go_wp2_with (go_at_call 156; refine (lock_free Try.muLib ⟨b, o + 2, none⟩ _ h2 f2).mono ?_; rintro e w' ⟨rfl, rfl⟩)
  refine leaves_cons (f := 157) (args := #[.pointer (some ⟨b, o + 2, none⟩)]) (by simp) (by simp [go_sem]) ?_
  refine (unlock_deferred Try.muLib ⟨b, o + 2, none⟩ .returning _ ?_ ?_).mono ?_
  · exact World.cell?_setCell_same w ⟨b, o + 2, none⟩ (.int .i32 1) h2
  · simp [f2]
  rintro e u' w'' ⟨rfl, rfl, rfl⟩
  exact ⟨_, results_none rfl _ _ _, rfl, by rw [setCell_twice, setCell_id h2]⟩

set_option maxRecDepth 100000 in
set_option maxHeartbeats 800000 in
/-- (*cell.Cell).Load -/
theorem cell_load (b o : Nat) (v : Int) (w : World) (h0 : w.cell? ⟨b, o, none⟩ = some (.int .i64 v)) (h1 : w.cell? ⟨b, o + 1, none⟩ = some (.bool true)) :
    Calls Try.prog 46 #[.pointer (some ⟨b, o, none⟩), .pointer none] w fun e w' => e = .returned (.int .i64 v) ∧ w = w' := by
  have hl := run_load64
  go_enter Try.func46, Try.ntmps46
  go_wp2_with (first | (go_at_call 89; refine (cell_none_made b o _ h1).mono ?_; rintro e w' ⟨rfl, rfl⟩) | (go_at_call 90; refine (live_none _).mono ?_; rintro e w' ⟨rfl, rfl⟩) | (go_at_call 81; go_in))
  go_ret
  exact ⟨rfl, rfl⟩

set_option maxRecDepth 100000 in
set_option maxHeartbeats 800000 in
/-- (*cell.Cell).Add -/
theorem cell_add (b o : Nat) (v d : Int) (w : World) (h0 : w.cell? ⟨b, o, none⟩ = some (.int .i64 v)) (h1 : w.cell? ⟨b, o + 1, none⟩ = some (.bool true))
    (h2 : w.cell? ⟨b, o + 2, none⟩ = some (.int .i32 0)) (h4 : w.cell? ⟨b, o + 4, none⟩ = some (.chan none)) (f0 : w.frozen? ⟨b, o, none⟩ = false) (f2 : w.frozen? ⟨b, o + 2, none⟩ = false) :
    Calls Try.prog 59 #[.pointer (some ⟨b, o, none⟩), .pointer none, .int .i64 d] w fun e w' => e = .returned (.int .i64 (wrap64 (v + d))) ∧ w' = w.setCell ⟨b, o, none⟩ (.int .i64 (wrap64 (v + d))) := by
  have hl := run_add64
  go_enter Try.func59, Try.ntmps59
  go_wp2_with (first | (go_at_call 89; refine (cell_none_made b o _ h1).mono ?_; rintro e w' ⟨rfl, rfl⟩) | (go_at_call 90; refine (live_none _).mono ?_; rintro e w' ⟨rfl, rfl⟩) | (go_at_call 80; go_in))
  refine (cell_wakes b o _ ?_ ?_ ?_).mono ?_
  · exact (World.cell?_setCell_other _ ⟨b, o, none⟩ ⟨b, o + 2, none⟩ _ (by simp)).trans h2
  · exact (World.cell?_setCell_other _ ⟨b, o, none⟩ ⟨b, o + 4, none⟩ _ (by simp)).trans h4
  · simp [f2]
  rintro e w' ⟨rfl, rfl⟩
  go_wp2
  go_ret
  exact ⟨rfl, rfl⟩

set_option maxRecDepth 100000 in
set_option maxHeartbeats 800000 in
/-- (*cell.Cell).Swap -/
theorem cell_swap (b o : Nat) (v d : Int) (w : World) (h0 : w.cell? ⟨b, o, none⟩ = some (.int .i64 v)) (h1 : w.cell? ⟨b, o + 1, none⟩ = some (.bool true))
    (h2 : w.cell? ⟨b, o + 2, none⟩ = some (.int .i32 0)) (h4 : w.cell? ⟨b, o + 4, none⟩ = some (.chan none)) (f0 : w.frozen? ⟨b, o, none⟩ = false) (f2 : w.frozen? ⟨b, o + 2, none⟩ = false) :
    Calls Try.prog 61 #[.pointer (some ⟨b, o, none⟩), .pointer none, .int .i64 d] w fun e w' => e = .returned (.int .i64 v) ∧ w' = w.setCell ⟨b, o, none⟩ (.int .i64 d) := by
  have hl := run_swap64
  go_enter Try.func61, Try.ntmps61
  go_wp2_with (first | (go_at_call 89; refine (cell_none_made b o _ h1).mono ?_; rintro e w' ⟨rfl, rfl⟩) | (go_at_call 90; refine (live_none _).mono ?_; rintro e w' ⟨rfl, rfl⟩) | (go_at_call 112; go_in))
  refine (cell_wakes b o _ ?_ ?_ ?_).mono ?_
  · exact (World.cell?_setCell_other _ ⟨b, o, none⟩ ⟨b, o + 2, none⟩ _ (by simp)).trans h2
  · exact (World.cell?_setCell_other _ ⟨b, o, none⟩ ⟨b, o + 4, none⟩ _ (by simp)).trans h4
  · simp [f2]
  rintro e w' ⟨rfl, rfl⟩
  go_wp2
  go_ret
  exact ⟨rfl, rfl⟩

set_option maxRecDepth 100000 in
set_option maxHeartbeats 800000 in
/-- (*cell.Cell).Store -/
theorem cell_store (b o : Nat) (v d : Int) (w : World) (h0 : w.cell? ⟨b, o, none⟩ = some (.int .i64 v)) (h1 : w.cell? ⟨b, o + 1, none⟩ = some (.bool true))
    (h2 : w.cell? ⟨b, o + 2, none⟩ = some (.int .i32 0)) (h4 : w.cell? ⟨b, o + 4, none⟩ = some (.chan none)) (f0 : w.frozen? ⟨b, o, none⟩ = false) (f2 : w.frozen? ⟨b, o + 2, none⟩ = false) :
    Calls Try.prog 66 #[.pointer (some ⟨b, o, none⟩), .pointer none, .int .i64 d] w fun e w' => e = .returned (.tuple #[]) ∧ w' = w.setCell ⟨b, o, none⟩ (.int .i64 d) := by
  have hl := run_store64
  go_enter Try.func66, Try.ntmps66
  go_wp2_with (first | (go_at_call 89; refine (cell_none_made b o _ h1).mono ?_; rintro e w' ⟨rfl, rfl⟩) | (go_at_call 90; refine (live_none _).mono ?_; rintro e w' ⟨rfl, rfl⟩) | (go_at_call 83; go_in))
  go_end0
  go_wp2_with fail
  refine (cell_wakes b o _ ?_ ?_ ?_).mono ?_
  · exact (World.cell?_setCell_other _ ⟨b, o, none⟩ ⟨b, o + 2, none⟩ _ (by simp)).trans h2
  · exact (World.cell?_setCell_other _ ⟨b, o, none⟩ ⟨b, o + 4, none⟩ _ (by simp)).trans h4
  · simp [f2]
  rintro e w' ⟨rfl, rfl⟩
  go_wp2
  go_end0
  exact ⟨rfl, rfl⟩

set_option maxRecDepth 100000 in
set_option maxHeartbeats 800000 in
/-- (*cell.Cell).Cas, where the cell holds what is asked for. -/
theorem cell_cas_hit (b o : Nat) (v d : Int) (w : World) (h0 : w.cell? ⟨b, o, none⟩ = some (.int .i64 v)) (h1 : w.cell? ⟨b, o + 1, none⟩ = some (.bool true))
    (h2 : w.cell? ⟨b, o + 2, none⟩ = some (.int .i32 0)) (h4 : w.cell? ⟨b, o + 4, none⟩ = some (.chan none)) (f0 : w.frozen? ⟨b, o, none⟩ = false) (f2 : w.frozen? ⟨b, o + 2, none⟩ = false) :
    Calls Try.prog 60 #[.pointer (some ⟨b, o, none⟩), .pointer none, .int .i64 v, .int .i64 d] w fun e w' => e = .returned (.bool true) ∧ w' = w.setCell ⟨b, o, none⟩ (.int .i64 d) := by
  have hl := run_cas64_hit
  go_enter Try.func60, Try.ntmps60
  go_wp2_with (first | (go_at_call 89; refine (cell_none_made b o _ h1).mono ?_; rintro e w' ⟨rfl, rfl⟩) | (go_at_call 90; refine (live_none _).mono ?_; rintro e w' ⟨rfl, rfl⟩) | (go_at_call 111; go_in))
  refine (cell_wakes b o _ ?_ ?_ ?_).mono ?_
  · exact (World.cell?_setCell_other _ ⟨b, o, none⟩ ⟨b, o + 2, none⟩ _ (by simp)).trans h2
  · exact (World.cell?_setCell_other _ ⟨b, o, none⟩ ⟨b, o + 4, none⟩ _ (by simp)).trans h4
  · simp [f2]
  rintro e w' ⟨rfl, rfl⟩
  go_wp2
  go_ret
  exact ⟨rfl, rfl⟩

set_option maxRecDepth 100000 in
set_option maxHeartbeats 800000 in
/-- (*cell.Cell).Cas, where the cell holds something else. -/
theorem cell_cas_miss (b o : Nat) (v q d : Int) (w : World) (h0 : w.cell? ⟨b, o, none⟩ = some (.int .i64 v)) (h1 : w.cell? ⟨b, o + 1, none⟩ = some (.bool true))
    (f0 : w.frozen? ⟨b, o, none⟩ = false) (hne : ¬ v = q) :
    Calls Try.prog 60 #[.pointer (some ⟨b, o, none⟩), .pointer none, .int .i64 q, .int .i64 d] w fun e w' => e = .returned (.bool false) ∧ w = w' := by
  have hl := run_cas64_miss w ⟨b, o, none⟩ v q d h0 f0 hne
  go_enter Try.func60, Try.ntmps60
  go_wp2_with (first | (go_at_call 89; refine (cell_none_made b o _ h1).mono ?_; rintro e w' ⟨rfl, rfl⟩) | (go_at_call 90; refine (live_none _).mono ?_; rintro e w' ⟨rfl, rfl⟩) | (go_at_call 111; go_in))
  go_ret
  exact ⟨rfl, rfl⟩
end Go.Proofs.Ytjbhhoajpahdlaa
