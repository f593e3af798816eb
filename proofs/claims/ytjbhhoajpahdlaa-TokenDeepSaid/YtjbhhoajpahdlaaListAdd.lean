/- (*list.List).Add at int64, for a call entered alone: a value put on; a list that is full; one that is closed; one that New did not make. -/
import Derived.Test.YtjbhhoajpahdlaaList
import Derived.Lib.Hide
namespace Go.Proofs.Ytjbhhoajpahdlaa
open Go.RowKit

theorem ListIs.lcell {w : World} {lb L H pb n : Nat} {lv hv : Int} {ps : Array Value} (h : ListIs w lb L H pb n lv hv ps) : w.cell? ⟨lb, 0, none⟩ = some (.pointer (some ⟨L, 0, none⟩)) ∧ w.cell? ⟨lb, 0 + 1, none⟩ = some (.pointer (some ⟨H, 0, none⟩)) ∧ w.cell? ⟨lb, 0 + 2, none⟩ = some (.slice (some ⟨pb, 0, none⟩) n n) := by
  refine ⟨?_, ?_, ?_⟩ <;> (rw [cell_of_block h.list]; rfl)

structure Apart6 (lb L H pb : Nat) : Prop where
  LH : L ≠ H
  Lp : L ≠ pb
  Hp : H ≠ pb
  Ll : L ≠ lb
  Hl : H ≠ lb
  pl : pb ≠ lb

set_option maxRecDepth 100000 in
set_option maxHeartbeats 1600000 in
theorem list_add (lb L H pb n : Nat) (lv hv v : Int) (ps : Array Value) (w : World) (h : ListIs w lb L H pb n lv hv ps) (ap : Apart6 lb L H pb) (h0 : 0 ≤ lv) (h1 : lv + 1 < n) (hn : n ≤ 4097) (hh : (hv == -1) = false) :
    Calls Try.prog 13 #[.pointer (some ⟨lb, 0, none⟩), .pointer none, .int .i64 v] w fun e w' => e = .returned (.tuple #[.int .i64 (lv + 1), .int .i64 0]) ∧
      w' = (((w.setCell ⟨L, 0, none⟩ (.int .i64 (lv + 1))).setCell ⟨pb, (lv + 1).toNat * 2, none⟩ (.int .i64 v)).setCell ⟨pb, (lv + 1).toNat * 2 + 1, none⟩ (.int .i64 hv)).setCell ⟨H, 0, none⟩ (.int .i64 (lv + 1)) := by
  have hs : wrap64 (lv + 1) = lv + 1 := by unfold wrap64; omega
  obtain ⟨c0, c1, c2⟩ := h.lcell
  have HS := Lib.hid hs
  clear hs
  have hh2 : (hv != -1) = true := by simpa using hh
  go_enter Try.func13, Try.ntmps13
  go_wp2_with (first | (go_at_call 58; refine (list_made lb L H pb n lv hv ps _ h).mono ?_; rintro e w' ⟨rfl, rfl⟩) | (go_at_call 46; refine (load_is h.head).mono ?_; rintro e w' ⟨rfl, rfl⟩))
  refine (add_is 1 h.last).mono ?_
  rintro e w' ⟨rfl, rfl⟩
  rw [HS.out]
  have d1 := (World.cell?_setCell_other w ⟨L, 0, none⟩ ⟨lb, 0 + 1, none⟩ (.int .i64 (lv + 1)) (by simp)).trans c1
  have d2 := (World.cell?_setCell_other w ⟨L, 0, none⟩ ⟨lb, 0 + 2, none⟩ (.int .i64 (lv + 1)) (by simp)).trans c2
  have hk : (lv + 1).toNat * 2 + 1 < ps.size := by rw [h.size]; omega
  obtain ⟨x0, p0⟩ : ∃ x, (w.setCell ⟨L, 0, none⟩ (.int .i64 (lv + 1))).cell? ⟨pb, (lv + 1).toNat * 2, none⟩ = some x :=
    ⟨_, (World.cell?_setCell_other w ⟨L, 0, none⟩ ⟨pb, _, none⟩ (.int .i64 (lv + 1)) (by simp)).trans ((cell_of_block h.places _).trans (Array.getElem?_eq_getElem (by omega)))⟩
  obtain ⟨x1, p1⟩ : ∃ x, (w.setCell ⟨L, 0, none⟩ (.int .i64 (lv + 1))).cell? ⟨pb, (lv + 1).toNat * 2 + 1, none⟩ = some x :=
    ⟨_, (World.cell?_setCell_other w ⟨L, 0, none⟩ ⟨pb, _, none⟩ (.int .i64 (lv + 1)) (by simp)).trans ((cell_of_block h.places _).trans (Array.getElem?_eq_getElem (by omega)))⟩
  have pf : ∀ o, w.frozen? ⟨pb, o, none⟩ = false := free_of_block h.places
  go_wp2_with fail
  refine wp_loop_rounds 1 ?_
  rw [rounds_succ]
  go_wp2_with fail
  refine (cas_is (lv + 1) (((h.head.other ap.LH.symm 0 _).other ap.Hp _ _).other ap.Hp _ _)).mono ?_
  rintro e w' ⟨rfl, rfl⟩
  go_wp2
  go_ret2
  exact ⟨rfl, rfl⟩

set_option maxRecDepth 100000 in
set_option maxHeartbeats 1600000 in
theorem list_add_full (lb L H pb n : Nat) (lv hv v : Int) (ps : Array Value) (w : World) (h : ListIs w lb L H pb n lv hv ps) (h0 : 0 ≤ lv) (h1 : (n : Int) ≤ lv + 1) (hlv : lv ≤ 1000000) (hn : n ≤ 4097) (hh : (hv == -1) = false) :
    Calls Try.prog 13 #[.pointer (some ⟨lb, 0, none⟩), .pointer none, .int .i64 v] w fun e w' => e = .returned (.tuple #[.int .i64 0, .int .i64 12]) ∧
      w' = w.setCell ⟨L, 0, none⟩ (.int .i64 (lv + 1)) := by
  have hs : wrap64 (lv + 1) = lv + 1 := by unfold wrap64; omega
  obtain ⟨c0, c1, c2⟩ := h.lcell
  have HS := Lib.hid hs
  clear hs
  go_enter Try.func13, Try.ntmps13
  go_wp2_with (first | (go_at_call 58; refine (list_made lb L H pb n lv hv ps _ h).mono ?_; rintro e w' ⟨rfl, rfl⟩) | (go_at_call 46; refine (load_is h.head).mono ?_; rintro e w' ⟨rfl, rfl⟩))
  refine (add_is 1 h.last).mono ?_
  rintro e w' ⟨rfl, rfl⟩
  rw [HS.out]
  have d2 := (World.cell?_setCell_other w ⟨L, 0, none⟩ ⟨lb, 0 + 2, none⟩ (.int .i64 (lv + 1)) (by simp)).trans c2
  go_wp2
  go_ret2
  exact ⟨rfl, rfl⟩

set_option maxHeartbeats 800000 in
theorem list_add_nil (v : Int) (w : World) :
    Calls Try.prog 13 #[.pointer none, .pointer none, .int .i64 v] w fun e w' => e = .returned (.tuple #[.int .i64 0, .int .i64 2]) ∧ w = w' := by
  go_enter Try.func13, Try.ntmps13
  go_wp2_with (go_at_call 58; refine (list_made_nil _).mono ?_; rintro e w' ⟨rfl, rfl⟩)
  go_ret2
  exact ⟨rfl, rfl⟩
set_option maxHeartbeats 800000 in
theorem list_add_bare (b : Nat) (v : Int) (w : World) (h : w.cell? ⟨b, 0 + 1, none⟩ = some (.pointer none)) :
    Calls Try.prog 13 #[.pointer (some ⟨b, 0, none⟩), .pointer none, .int .i64 v] w fun e w' => e = .returned (.tuple #[.int .i64 0, .int .i64 2]) ∧ w = w' := by
  go_enter Try.func13, Try.ntmps13
  go_wp2_with (go_at_call 58; refine (list_made_bare b _ h).mono ?_; rintro e w' ⟨rfl, rfl⟩)
  go_ret2
  exact ⟨rfl, rfl⟩
set_option maxHeartbeats 800000 in
theorem list_close_nil (w : World) :
    Calls Try.prog 14 #[.pointer none, .pointer none] w fun e w' => e = .returned (.tuple #[.slice none 0 0, .int .i64 2]) ∧ w = w' := by
  go_enter Try.func14, Try.ntmps14
  go_wp2_with (go_at_call 58; refine (list_made_nil _).mono ?_; rintro e w' ⟨rfl, rfl⟩)
  go_ret2
  exact ⟨rfl, rfl⟩
set_option maxHeartbeats 800000 in
theorem list_close_bare (b : Nat) (w : World) (h : w.cell? ⟨b, 0 + 1, none⟩ = some (.pointer none)) :
    Calls Try.prog 14 #[.pointer (some ⟨b, 0, none⟩), .pointer none] w fun e w' => e = .returned (.tuple #[.slice none 0 0, .int .i64 2]) ∧ w = w' := by
  go_enter Try.func14, Try.ntmps14
  go_wp2_with (go_at_call 58; refine (list_made_bare b _ h).mono ?_; rintro e w' ⟨rfl, rfl⟩)
  go_ret2
  exact ⟨rfl, rfl⟩
set_option maxHeartbeats 800000 in
theorem list_each_nil (w : World) :
    Calls Try.prog 15 #[.pointer none, .pointer none] w fun e w' => e = .returned (.tuple #[.slice none 0 0, .bool false, .int .i64 2]) ∧ w = w' := by
  go_enter Try.func15, Try.ntmps15
  go_wp2_with (go_at_call 58; refine (list_made_nil _).mono ?_; rintro e w' ⟨rfl, rfl⟩)
  go_ret3
  exact ⟨rfl, rfl⟩
set_option maxHeartbeats 800000 in
theorem list_each_bare (b : Nat) (w : World) (h : w.cell? ⟨b, 0 + 1, none⟩ = some (.pointer none)) :
    Calls Try.prog 15 #[.pointer (some ⟨b, 0, none⟩), .pointer none] w fun e w' => e = .returned (.tuple #[.slice none 0 0, .bool false, .int .i64 2]) ∧ w = w' := by
  go_enter Try.func15, Try.ntmps15
  go_wp2_with (go_at_call 58; refine (list_made_bare b _ h).mono ?_; rintro e w' ⟨rfl, rfl⟩)
  go_ret3
  exact ⟨rfl, rfl⟩

set_option maxRecDepth 100000 in
set_option maxHeartbeats 1600000 in
/-- Close of a list that is closed. -/
theorem list_close_shut (lb L H pb n : Nat) (lv : Int) (ps : Array Value) (w : World) (h : ListIs w lb L H pb n lv (-1) ps) :
    Calls Try.prog 14 #[.pointer (some ⟨lb, 0, none⟩), .pointer none] w fun e w' => e = .returned (.tuple #[.slice none 0 0, .int .i64 13]) ∧ w = w' := by
  obtain ⟨c0, c1, c2⟩ := h.lcell
  go_enter Try.func14, Try.ntmps14
  go_wp2_with (first | (go_at_call 58; refine (list_made lb L H pb n lv (-1) ps _ h).mono ?_; rintro e w' ⟨rfl, rfl⟩) | (go_at_call 61; refine (swap_is (-1) h.head).mono ?_; rintro e w' ⟨rfl, rfl⟩))
  go_ret2
  exact ⟨rfl, (setCell_id h.head.c0).symm⟩
end Go.Proofs.Ytjbhhoajpahdlaa
