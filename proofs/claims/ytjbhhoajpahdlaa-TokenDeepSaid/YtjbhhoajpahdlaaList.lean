/- Contracts of package list's functions at int64, for a call entered alone, handed no thread. -/
import Derived.Test.YtjbhhoajpahdlaaCells
import Derived.Deep.RegionWith
import Derived.Laws.MakeOwn
import Derived.Laws.NewBlocks
import Derived.Below
import Derived.IntWalk
namespace Go.Proofs.Ytjbhhoajpahdlaa
open Go.RowKit

def CellIs (w : World) (b : Nat) (v : Int) : Prop := w.heap[b]? = some (.cells #[.int .i64 v, .bool true, .int .i32 0, .int .u32 0, .chan none] 184)

theorem CellIs.c0 {w : World} {b : Nat} {v : Int} (h : CellIs w b v) : w.cell? ⟨b, 0, none⟩ = some (.int .i64 v) := by rw [cell_of_block h]; rfl
theorem CellIs.c1 {w : World} {b : Nat} {v : Int} (h : CellIs w b v) : w.cell? ⟨b, 0 + 1, none⟩ = some (.bool true) := by rw [cell_of_block h]; rfl
theorem CellIs.c2 {w : World} {b : Nat} {v : Int} (h : CellIs w b v) : w.cell? ⟨b, 0 + 2, none⟩ = some (.int .i32 0) := by rw [cell_of_block h]; rfl
theorem CellIs.c4 {w : World} {b : Nat} {v : Int} (h : CellIs w b v) : w.cell? ⟨b, 0 + 4, none⟩ = some (.chan none) := by rw [cell_of_block h]; rfl
theorem CellIs.free {w : World} {b : Nat} {v : Int} (h : CellIs w b v) (o : Nat) : w.frozen? ⟨b, o, none⟩ = false := free_of_block h o
theorem CellIs.set {w : World} {b : Nat} {v : Int} (h : CellIs w b v) (v' : Int) : CellIs (w.setCell ⟨b, 0, none⟩ (.int .i64 v')) b v' := by
  unfold CellIs; rw [block_setCell h]; rfl
theorem CellIs.other {w : World} {b b' : Nat} {v : Int} (h : CellIs w b v) (hne : b ≠ b') (o : Nat) (x : Value) : CellIs (w.setCell ⟨b', o, none⟩ x) b v := by
  unfold CellIs; rw [block_setCell_ne hne]; exact h

/-- The cell's operations, by CellIs. -/
theorem load_is {b : Nat} {v : Int} {w : World} (h : CellIs w b v) : Calls Try.prog 46 #[.pointer (some ⟨b, 0, none⟩), .pointer none] w fun e w' => e = .returned (.int .i64 v) ∧ w = w' :=
  cell_load b 0 v w h.c0 h.c1
theorem add_is {b : Nat} {v : Int} {w : World} (d : Int) (h : CellIs w b v) : Calls Try.prog 59 #[.pointer (some ⟨b, 0, none⟩), .pointer none, .int .i64 d] w fun e w' => e = .returned (.int .i64 (wrap64 (v + d))) ∧ w' = w.setCell ⟨b, 0, none⟩ (.int .i64 (wrap64 (v + d))) :=
  cell_add b 0 v d w h.c0 h.c1 h.c2 h.c4 (h.free _) (h.free _)
theorem swap_is {b : Nat} {v : Int} {w : World} (d : Int) (h : CellIs w b v) : Calls Try.prog 61 #[.pointer (some ⟨b, 0, none⟩), .pointer none, .int .i64 d] w fun e w' => e = .returned (.int .i64 v) ∧ w' = w.setCell ⟨b, 0, none⟩ (.int .i64 d) :=
  cell_swap b 0 v d w h.c0 h.c1 h.c2 h.c4 (h.free _) (h.free _)
theorem store_is {b : Nat} {v : Int} {w : World} (d : Int) (h : CellIs w b v) : Calls Try.prog 66 #[.pointer (some ⟨b, 0, none⟩), .pointer none, .int .i64 d] w fun e w' => e = .returned (.tuple #[]) ∧ w' = w.setCell ⟨b, 0, none⟩ (.int .i64 d) :=
  cell_store b 0 v d w h.c0 h.c1 h.c2 h.c4 (h.free _) (h.free _)
theorem cas_is {b : Nat} {v : Int} {w : World} (d : Int) (h : CellIs w b v) : Calls Try.prog 60 #[.pointer (some ⟨b, 0, none⟩), .pointer none, .int .i64 v, .int .i64 d] w fun e w' => e = .returned (.bool true) ∧ w' = w.setCell ⟨b, 0, none⟩ (.int .i64 d) :=
  cell_cas_hit b 0 v d w h.c0 h.c1 h.c2 h.c4 (h.free _) (h.free _)

/-- A list's blocks: lb the struct, L and H its two cells, pb its n places. -/
structure ListIs (w : World) (lb L H pb n : Nat) (lv hv : Int) (ps : Array Value) : Prop where
  list : w.heap[lb]? = some (.cells #[.pointer (some ⟨L, 0, none⟩), .pointer (some ⟨H, 0, none⟩), .slice (some ⟨pb, 0, none⟩) n n] 27)
  last : CellIs w L lv
  head : CellIs w H hv
  places : w.heap[pb]? = some (.cells ps 140)
  size : ps.size = 2 * n

set_option maxRecDepth 100000 in
theorem run_make_places (n : Nat) (hn : n ≤ 4097) (w : World) :
    (Instr.makeSlice 25 (.int .i64 (n : Int)) (.int .i64 (n : Int))).run Try.prog w = .ok (.slice (some ⟨w.heap.size, 0, none⟩) n n) (w.alloc (.cells (madeCells #[.int .i64 0, .int .i64 0] (n * 2)) 140)) := by
  obtain ⟨i, hi, hz⟩ := Option.map_eq_some_iff.1 (show (Try.prog.info? 140).map (fun i => (i.zero, i.size, i.bytes)) = some (some (.agg #[.int .i64 0, .int .i64 0]), 2, 16) by kernel_rfl)
  simp only [Prod.mk.injEq] at hz
  obtain ⟨hz, hs, hb⟩ := hz
  have hr := run_make (P := Try.prog) w 25 140 i (.agg #[.int .i64 0, .int .i64 0]) Try.underlying25 hi hz .i64 .i64 (n : Int) (n : Int) (by omega) (Int.le_refl _) (by rw [hb]; omega) (by omega)
  simp only [Int.toNat_natCast, hs] at hr
  exact hr

/-- list.New, a size that may not be. -/
theorem list_new_not (most : Int) (w : World) (h : most < 0 ∨ 4096 < most) :
    Calls Try.prog 12 #[.int .i64 most] w fun e w' => e = .returned (.pointer none) ∧ w = w' := by
  rcases h with h | h
  · have h' : decide (most < 0) = true := by simpa using h
    go_enter Try.func12, Try.ntmps12
    go_wp2
    go_ret
    exact ⟨rfl, rfl⟩
  · have h' : ¬ most < 0 := by omega
    go_enter Try.func12, Try.ntmps12
    go_wp2
    go_ret
    exact ⟨rfl, rfl⟩

theorem four_blocks (w : World) (o0 o1 o2 o3 : Obj) :
    let W := ((((w.alloc o0).alloc o1).alloc o2).alloc o3).drew
    W.heap[w.heap.size]? = some o0 ∧ W.heap[w.heap.size + 1]? = some o1 ∧ W.heap[w.heap.size + 1 + 1]? = some o2 ∧ W.heap[w.heap.size + 1 + 1 + 1]? = some o3 ∧ Below w.heap.size w W := by
  have s1 : (w.alloc o0).heap.size = w.heap.size + 1 := by simp
  have s2 : ((w.alloc o0).alloc o1).heap.size = w.heap.size + 1 + 1 := by simp
  have s3 : (((w.alloc o0).alloc o1).alloc o2).heap.size = w.heap.size + 1 + 1 + 1 := by simp
  refine ⟨?_, ?_, ?_, ?_, ?_⟩
  · show ((((w.alloc o0).alloc o1).alloc o2).alloc o3).heap[w.heap.size]? = _
    rw [block_alloc_lt (by omega), block_alloc_lt (by omega), block_alloc_lt (by omega), block_alloc_new]
  · show ((((w.alloc o0).alloc o1).alloc o2).alloc o3).heap[w.heap.size + 1]? = _
    rw [block_alloc_lt (by omega), block_alloc_lt (by omega), ← s1, block_alloc_new]
  · show ((((w.alloc o0).alloc o1).alloc o2).alloc o3).heap[w.heap.size + 1 + 1]? = _
    rw [block_alloc_lt (by omega), ← s2, block_alloc_new]
  · show ((((w.alloc o0).alloc o1).alloc o2).alloc o3).heap[w.heap.size + 1 + 1 + 1]? = _
    rw [← s3, block_alloc_new]
  · exact (((((Below.refl _ _).alloc (Nat.le_refl _) _).alloc (by simp) _).alloc (by simp; omega) _).alloc (by simp; omega) _).drew

def NewList (n : Nat) (w : World) (e : Ending) (w' : World) : Prop :=
  ∃ lb L H pb : Nat, e = .returned (.pointer (some ⟨lb, 0, none⟩)) ∧ Below w.heap.size w w' ∧ ListIs w' lb L H pb n 0 0 (madeCells #[.int .i64 0, .int .i64 0] (n * 2)) ∧ w.heap.size ≤ lb ∧ w.heap.size ≤ L ∧ w.heap.size ≤ H ∧ w.heap.size ≤ pb ∧ L ≠ H ∧ L ≠ pb ∧ H ≠ pb ∧ L ≠ lb ∧ H ≠ lb ∧ pb ≠ lb

set_option maxRecDepth 100000 in
set_option maxHeartbeats 800000 in
/-- list.New -/
theorem list_new (most : Int) (w : World) (h0 : 0 ≤ most) (h : most ≤ 4096) :
    Calls Try.prog 12 #[.int .i64 most] w (NewList (most.toNat + 1) w) := by
  obtain ⟨n, rfl⟩ := Int.eq_ofNat_of_zero_le h0
  have hmk : ∀ w, (Instr.makeSlice 25 (.int .i64 ((n : Int) + 1)) (.int .i64 ((n : Int) + 1))).run Try.prog w = .ok (.slice (some ⟨w.heap.size, 0, none⟩) (n + 1) (n + 1)) (w.alloc (.cells (madeCells #[.int .i64 0, .int .i64 0] ((n + 1) * 2)) 140)) := fun w => run_make_places (n + 1) (by omega) w
  have hwr : IntKind.i64.wrap ((n : Int) + 1) = (n : Int) + 1 := IntWalk.i64_in _ (by omega)
  go_enter Try.func12, Try.ntmps12
  go_wp2
  go_region_with (go_at_call 40; refine (cell_new _ _).mono ?_; rintro e w' ⟨rfl, rfl⟩)
  all_goals (go_wp2; go_ret)
  · obtain ⟨h0, h1, h2, h3, hB⟩ := four_blocks w (.cells #[.int .i64 0, .bool true, .int .i32 0, .int .u32 0, .chan none] 184) (.cells #[.int .i64 0, .bool true, .int .i32 0, .int .u32 0, .chan none] 184) (.cells (madeCells #[.int .i64 0, .int .i64 0] ((n + 1) * 2)) 140) (.cells #[.pointer (some ⟨w.heap.size, 0, none⟩), .pointer (some ⟨w.heap.size + 1, 0, none⟩), .slice (some ⟨w.heap.size + 1 + 1, 0, none⟩) (n + 1) (n + 1)] 27)
    exact ⟨w.heap.size + 1 + 1 + 1, w.heap.size, w.heap.size + 1, w.heap.size + 1 + 1, rfl, hB, ⟨h3, h0, h1, h2, by simp [madeCells]; omega⟩, by omega, by omega, by omega, by omega, by omega, by omega, by omega, by omega, by omega, by omega⟩
  · obtain ⟨h0, h1, h2, h3, hB⟩ := four_blocks w (.cells #[.int .i64 0, .bool true, .int .i32 0, .int .u32 0, .chan none] 184) (.cells (madeCells #[.int .i64 0, .int .i64 0] ((n + 1) * 2)) 140) (.cells #[.int .i64 0, .bool true, .int .i32 0, .int .u32 0, .chan none] 184) (.cells #[.pointer (some ⟨w.heap.size, 0, none⟩), .pointer (some ⟨w.heap.size + 1 + 1, 0, none⟩), .slice (some ⟨w.heap.size + 1, 0, none⟩) (n + 1) (n + 1)] 27)
    exact ⟨w.heap.size + 1 + 1 + 1, w.heap.size, w.heap.size + 1 + 1, w.heap.size + 1, rfl, hB, ⟨h3, h0, h2, h1, by simp [madeCells]; omega⟩, by omega, by omega, by omega, by omega, by omega, by omega, by omega, by omega, by omega, by omega⟩
  · obtain ⟨h0, h1, h2, h3, hB⟩ := four_blocks w (.cells (madeCells #[.int .i64 0, .int .i64 0] ((n + 1) * 2)) 140) (.cells #[.int .i64 0, .bool true, .int .i32 0, .int .u32 0, .chan none] 184) (.cells #[.int .i64 0, .bool true, .int .i32 0, .int .u32 0, .chan none] 184) (.cells #[.pointer (some ⟨w.heap.size + 1, 0, none⟩), .pointer (some ⟨w.heap.size + 1 + 1, 0, none⟩), .slice (some ⟨w.heap.size, 0, none⟩) (n + 1) (n + 1)] 27)
    exact ⟨w.heap.size + 1 + 1 + 1, w.heap.size + 1, w.heap.size + 1 + 1, w.heap.size, rfl, hB, ⟨h3, h1, h2, h0, by simp [madeCells]; omega⟩, by omega, by omega, by omega, by omega, by omega, by omega, by omega, by omega, by omega, by omega⟩

/-- (*list.List).made -/
theorem list_made (lb L H pb n : Nat) (lv hv : Int) (ps : Array Value) (w : World) (h : ListIs w lb L H pb n lv hv ps) :
    Calls Try.prog 58 #[.pointer (some ⟨lb, 0, none⟩)] w fun e w' => e = .returned (.bool true) ∧ w = w' := by
  have c1 : w.cell? ⟨lb, 0 + 1, none⟩ = some (.pointer (some ⟨H, 0, none⟩)) := by rw [cell_of_block h.list]; rfl
  go_enter Try.func58, Try.ntmps58
  go_wp2
  go_ret
  exact ⟨rfl, rfl⟩
theorem list_made_nil (w : World) :
    Calls Try.prog 58 #[.pointer none] w fun e w' => e = .returned (.bool false) ∧ w = w' := by
  go_enter Try.func58, Try.ntmps58
  go_wp2
  go_ret
  exact ⟨rfl, rfl⟩
theorem list_made_bare (b : Nat) (w : World) (h : w.cell? ⟨b, 0 + 1, none⟩ = some (.pointer none)) :
    Calls Try.prog 58 #[.pointer (some ⟨b, 0, none⟩)] w fun e w' => e = .returned (.bool false) ∧ w = w' := by
  go_enter Try.func58, Try.ntmps58
  go_wp2
  go_ret
  exact ⟨rfl, rfl⟩
end Go.Proofs.Ytjbhhoajpahdlaa
