/- Contracts of package token's functions for a call entered alone, handed no thread: New, Child, OnCancel, Reason, Wait. -/
import Derived.Test.YtjbhhoajpahdlaaErow
namespace Go.Proofs.Ytjbhhoajpahdlaa
open Go.RowKit

/-- A token's blocks: the struct, its reason's cell, its list's four. -/
structure Tok where
  tb : Nat
  R : Nat
  lb : Nat
  L : Nat
  H : Nat
  pb : Nat

structure Tok.Apart (T : Tok) : Prop where
  ap : Apart6 T.lb T.L T.H T.pb
  Rt : T.R ≠ T.tb
  Rl : T.R ≠ T.lb
  RL : T.R ≠ T.L
  RH : T.R ≠ T.H
  Rp : T.R ≠ T.pb
  tl : T.tb ≠ T.lb
  tL : T.tb ≠ T.L
  tH : T.tb ≠ T.H
  tp : T.tb ≠ T.pb

def Tok.has (T : Tok) (b : Nat) : Prop := b = T.tb ∨ b = T.R ∨ b = T.lb ∨ b = T.L ∨ b = T.H ∨ b = T.pb

structure TokIs (w : World) (T : Tok) (d r lv hv : Int) (ps : Array Value) : Prop where
  tok : w.heap[T.tb]? = some (.cells #[.pointer (some ⟨T.R, 0, none⟩), .pointer (some ⟨T.lb, 0, none⟩), .int .i64 d] 52)
  reason : CellIs w T.R r
  list : EList w T.lb T.L T.H T.pb 65 lv hv ps

theorem TokIs.cells {w : World} {T : Tok} {d r lv hv : Int} {ps : Array Value} (h : TokIs w T d r lv hv ps) :
    w.cell? ⟨T.tb, 0, none⟩ = some (.pointer (some ⟨T.R, 0, none⟩)) ∧ w.cell? ⟨T.tb, 0 + 1, none⟩ = some (.pointer (some ⟨T.lb, 0, none⟩)) ∧ w.cell? ⟨T.tb, 0 + 2, none⟩ = some (.int .i64 d) ∧ w.frozen? ⟨T.tb, 0 + 2, none⟩ = false := by
  refine ⟨?_, ?_, ?_, free_of_block h.tok _⟩ <;> (rw [cell_of_block h.tok]; rfl)

theorem TokIs.lt {w : World} {T : Tok} {d r lv hv : Int} {ps : Array Value} (h : TokIs w T d r lv hv ps) {b : Nat} (hb : T.has b) : b < w.heap.size := by
  rcases hb with rfl | rfl | rfl | rfl | rfl | rfl
  · exact lt_of_block h.tok
  · exact lt_of_block h.reason
  · exact lt_of_block h.list.list
  · exact lt_of_block h.list.last
  · exact lt_of_block h.list.head
  · exact lt_of_block h.list.places

theorem TokIs.chg {S : Nat → Prop} {w w' : World} {T : Tok} {d r lv hv : Int} {ps : Array Value} (h : TokIs w T d r lv hv ps) (c : Chg S w w') (hs : ∀ b, T.has b → ¬ S b) : TokIs w' T d r lv hv ps :=
  ⟨(c.block _ (lt_of_block h.tok) (hs _ (.inl rfl))).trans h.tok, (c.block _ (lt_of_block h.reason) (hs _ (.inr (.inl rfl)))).trans h.reason,
    h.list.chg c (hs _ (by simp [Tok.has])) (hs _ (by simp [Tok.has])) (hs _ (by simp [Tok.has])) (hs _ (by simp [Tok.has]))⟩

def NewTok (w : World) (e : Ending) (w' : World) : Prop :=
  ∃ T : Tok, e = .returned (.pointer (some ⟨T.tb, 0, none⟩)) ∧ Below w.heap.size w w' ∧ TokIs w' T 0 0 0 0 eplaces ∧ T.Apart ∧ ∀ b, T.has b → w.heap.size ≤ b

set_option maxRecDepth 100000 in
set_option maxHeartbeats 800000 in
theorem token_new (w : World) : Calls Try.prog 18 #[] w (NewTok w) := by
  go_enter Try.func18, Try.ntmps18
  go_wp2_with (go_at_call 40; refine (cell_new _ _).mono ?_; rintro e w' ⟨rfl, rfl⟩)
  refine (elist_new _).mono ?_
  rintro e w1 ⟨lb, L, H, pb, rfl, hB, hl, g1, g2, g3, g4, ap, k1, k2, k3, k4⟩
  have hs : (w.alloc (.cells #[.int .i64 0, .bool true, .int .i32 0, .int .u32 0, .chan none] 184)).heap.size = w.heap.size + 1 := by simp
  have hR : w1.heap[w.heap.size]? = some (.cells #[.int .i64 0, .bool true, .int .i32 0, .int .u32 0, .chan none] 184) := (hB.block _ (by omega)).trans (block_alloc_new _ _)
  have hRs := lt_of_block hR
  have HB := Lib.hid hB
  have HL := Lib.hid hl
  have HR := Lib.hid hR
  have HS := Lib.hid hs
  rw [hs] at g1 g2 g3 g4
  clear hB hl hR hs
  go_wp2
  go_ret
  refine ⟨⟨w1.heap.size, w.heap.size, lb, L, H, pb⟩, rfl, ?_, ⟨block_alloc_new _ _, (block_alloc_lt hRs _).trans HR.out, HL.out.alloc _⟩, ⟨ap, by dsimp only; omega, by dsimp only; omega, by dsimp only; omega, by dsimp only; omega, by dsimp only; omega, by dsimp only; omega, by dsimp only; omega, by dsimp only; omega, by dsimp only; omega⟩, ?_⟩
  · have hB := HB.out
    rw [HS.out] at hB
    exact (((Below.refl _ _).alloc (Nat.le_refl _) _).trans (hB.mono (by omega))).alloc (by omega) _
  · intro b hb
    rcases hb with h | h | h | h | h | h <;> simp only at h <;> omega

theorem token_made (T : Tok) (d r lv hv : Int) (ps : Array Value) (w : World) (h : TokIs w T d r lv hv ps) :
    Calls Try.prog 64 #[.pointer (some ⟨T.tb, 0, none⟩)] w fun e w' => e = .returned (.bool true) ∧ w = w' := by
  obtain ⟨c0, _, _, _⟩ := h.cells
  go_enter Try.func64, Try.ntmps64
  go_wp2
  go_ret
  exact ⟨rfl, rfl⟩
theorem token_made_nil (w : World) :
    Calls Try.prog 64 #[.pointer none] w fun e w' => e = .returned (.bool false) ∧ w = w' := by
  go_enter Try.func64, Try.ntmps64
  go_wp2
  go_ret
  exact ⟨rfl, rfl⟩
theorem token_made_bare (b : Nat) (w : World) (h : w.cell? ⟨b, 0, none⟩ = some (.pointer none)) :
    Calls Try.prog 64 #[.pointer (some ⟨b, 0, none⟩)] w fun e w' => e = .returned (.bool false) ∧ w = w' := by
  go_enter Try.func64, Try.ntmps64
  go_wp2
  go_ret
  exact ⟨rfl, rfl⟩

set_option maxRecDepth 100000 in
set_option maxHeartbeats 800000 in
theorem token_reason (T : Tok) (d r lv hv : Int) (ps : Array Value) (w : World) (h : TokIs w T d r lv hv ps) :
    Calls Try.prog 23 #[.pointer (some ⟨T.tb, 0, none⟩), .pointer none] w fun e w' => e = .returned (.int .i64 r) ∧ w = w' := by
  obtain ⟨c0, _, _, _⟩ := h.cells
  go_enter Try.func23, Try.ntmps23
  go_wp2_with (first | (go_at_call 64; refine (token_made T d r lv hv ps _ h).mono ?_; rintro e w' ⟨rfl, rfl⟩) | (go_at_call 46; refine (load_is h.reason).mono ?_; rintro e w' ⟨rfl, rfl⟩))
  go_ret
  exact ⟨rfl, rfl⟩
set_option maxRecDepth 100000 in
set_option maxHeartbeats 800000 in
theorem token_reason_nil (w : World) :
    Calls Try.prog 23 #[.pointer none, .pointer none] w fun e w' => e = .returned (.int .i64 0) ∧ w = w' := by
  go_enter Try.func23, Try.ntmps23
  go_wp2_with (go_at_call 64; refine (token_made_nil _).mono ?_; rintro e w' ⟨rfl, rfl⟩)
  go_ret
  exact ⟨rfl, rfl⟩
set_option maxRecDepth 100000 in
set_option maxHeartbeats 800000 in
theorem token_reason_bare (b : Nat) (w : World) (h : w.cell? ⟨b, 0, none⟩ = some (.pointer none)) :
    Calls Try.prog 23 #[.pointer (some ⟨b, 0, none⟩), .pointer none] w fun e w' => e = .returned (.int .i64 0) ∧ w = w' := by
  go_enter Try.func23, Try.ntmps23
  go_wp2_with (go_at_call 64; refine (token_made_bare b _ h).mono ?_; rintro e w' ⟨rfl, rfl⟩)
  go_ret
  exact ⟨rfl, rfl⟩

set_option maxRecDepth 100000 in
set_option maxHeartbeats 800000 in
/-- Wait, of one that has a reason. -/
theorem token_wait (T : Tok) (d r lv hv : Int) (ps : Array Value) (w : World) (h : TokIs w T d r lv hv ps) (hr : (r != 0) = true) :
    Calls Try.prog 24 #[.pointer (some ⟨T.tb, 0, none⟩), .pointer none] w fun e w' => e = .returned (.int .i64 r) ∧ w = w' := by
  obtain ⟨c0, _, _, _⟩ := h.cells
  go_enter Try.func24, Try.ntmps24
  go_wp2_with (first | (go_at_call 64; refine (token_made T d r lv hv ps _ h).mono ?_; rintro e w' ⟨rfl, rfl⟩) | (go_at_call 46; refine (load_is h.reason).mono ?_; rintro e w' ⟨rfl, rfl⟩))
  go_ret
  exact ⟨rfl, rfl⟩
set_option maxRecDepth 100000 in
set_option maxHeartbeats 800000 in
theorem token_wait_nil (w : World) :
    Calls Try.prog 24 #[.pointer none, .pointer none] w fun e w' => e = .returned (.int .i64 0) ∧ w = w' := by
  go_enter Try.func24, Try.ntmps24
  go_wp2_with (go_at_call 64; refine (token_made_nil _).mono ?_; rintro e w' ⟨rfl, rfl⟩)
  go_ret
  exact ⟨rfl, rfl⟩
set_option maxRecDepth 100000 in
set_option maxHeartbeats 800000 in
theorem token_wait_bare (b : Nat) (w : World) (h : w.cell? ⟨b, 0, none⟩ = some (.pointer none)) :
    Calls Try.prog 24 #[.pointer (some ⟨b, 0, none⟩), .pointer none] w fun e w' => e = .returned (.int .i64 0) ∧ w = w' := by
  go_enter Try.func24, Try.ntmps24
  go_wp2_with (go_at_call 64; refine (token_made_bare b _ h).mono ?_; rintro e w' ⟨rfl, rfl⟩)
  go_ret
  exact ⟨rfl, rfl⟩
end Go.Proofs.Ytjbhhoajpahdlaa
