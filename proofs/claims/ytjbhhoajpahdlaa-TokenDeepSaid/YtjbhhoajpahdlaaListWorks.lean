/- treadlelaw09.works and treadlelaw09.ListNone, for a call entered alone: they answer true. -/
import Derived.Test.YtjbhhoajpahdlaaListRow
namespace Go.Proofs.Ytjbhhoajpahdlaa
open Go.RowKit

theorem ListIs.put {w : World} {lb L H pb n : Nat} {lv hv : Int} {ps : Array Value} (h : ListIs w lb L H pb n lv hv ps) (ap : Apart6 lb L H pb) (v : Int) (k : Nat) :
    ListIs ((((w.setCell ⟨L, 0, none⟩ (.int .i64 k)).setCell ⟨pb, k * 2, none⟩ (.int .i64 v)).setCell ⟨pb, k * 2 + 1, none⟩ (.int .i64 hv)).setCell ⟨H, 0, none⟩ (.int .i64 k))
      lb L H pb n k k ((ps.setIfInBounds (k * 2) (.int .i64 v)).setIfInBounds (k * 2 + 1) (.int .i64 hv)) := by
  refine ⟨?_, ?_, ?_, ?_, by simp [h.size]⟩
  · rw [block_setCell_ne ap.Hl.symm, block_setCell_ne ap.pl.symm, block_setCell_ne ap.pl.symm, block_setCell_ne ap.Ll.symm]; exact h.list
  · exact (((h.last.set k).other ap.Lp _ _).other ap.Lp _ _).other ap.LH _ _
  · exact (((h.head.other ap.LH.symm _ _).other ap.Hp _ _).other ap.Hp _ _).set k
  · rw [block_setCell_ne ap.Hp.symm]
    refine block_setCell ?_ _ _
    refine block_setCell ?_ _ _
    rw [block_setCell_ne ap.Lp.symm]; exact h.places

theorem below_put {B : Nat} {w0 w : World} (hb : Below B w0 w) {L H pb : Nat} (h1 : B ≤ L) (h2 : B ≤ H) (h3 : B ≤ pb) (x y z u : Value) (o o' : Nat) :
    Below B w0 ((((w.setCell ⟨L, 0, none⟩ x).setCell ⟨pb, o, none⟩ y).setCell ⟨pb, o', none⟩ z).setCell ⟨H, 0, none⟩ u) :=
  (((hb.setCell (p := ⟨L, 0, none⟩) h1 x).setCell (p := ⟨pb, o, none⟩) h3 y).setCell (p := ⟨pb, o', none⟩) h3 z).setCell (p := ⟨H, 0, none⟩) h2 u

theorem ListIs.counted {w : World} {lb L H pb n : Nat} {lv hv : Int} {ps : Array Value} (h : ListIs w lb L H pb n lv hv ps) (ap : Apart6 lb L H pb) (x : Int) : ListIs (w.setCell ⟨L, 0, none⟩ (.int .i64 x)) lb L H pb n x hv ps :=
  ⟨(block_setCell_ne ap.Ll.symm _ _).trans h.list, h.last.set x, h.head.other ap.LH.symm _ _, (block_setCell_ne ap.Lp.symm _ _).trans h.places, h.size⟩

theorem ListIs.below {w w' : World} {lb L H pb n B : Nat} {lv hv : Int} {ps : Array Value} (h : ListIs w lb L H pb n lv hv ps) (hb : Below B w w') (hB : w.heap.size ≤ B) : ListIs w' lb L H pb n lv hv ps :=
  have k := fun (b : Nat) (o : Obj) (e : w.heap[b]? = some o) => (hb.block b (Nat.lt_of_lt_of_le (lt_of_block e) hB)).trans e
  ⟨k _ _ h.list, k _ _ h.last, k _ _ h.head, k _ _ h.places, h.size⟩

theorem works_chain : Chain (((((madeCells #[Value.int IntKind.i64 0, Value.int IntKind.i64 0] ((Int.toNat 2 + 1) * 2)).setIfInBounds (1 * 2) (Value.int IntKind.i64 7)).setIfInBounds (1 * 2 + 1) (Value.int IntKind.i64 0)).setIfInBounds (2 * 2) (Value.int IntKind.i64 8)).setIfInBounds (2 * 2 + 1) (Value.int IntKind.i64 1)) 3 2 [8, 7] :=
  .cons 2 8 1 [7] (by omega) (by omega) (by simp [madeCells]) (by simp [madeCells]) (.cons 1 7 0 [] (by omega) (by omega) (by simp [madeCells]) (by simp [madeCells]) .nil)

def Yes (w : World) (e : Ending) (w' : World) : Prop := e = .returned (.bool true) ∧ Below w.heap.size w w'

set_option maxRecDepth 100000 in
set_option maxHeartbeats 3200000 in
theorem list_works (w : World) : Calls Try.prog 16 #[] w (Yes w) := by
  go_enter Try.func16, Try.ntmps16
  go_wp2_with fail
  refine (list_new 2 w (by omega) (by omega)).mono ?_
  rintro e w1 ⟨lb, L, H, pb, rfl, hB, h1, l1, l2, l3, l4, n1, n2, n3, n4, n5, n6⟩
  have ap : Apart6 lb L H pb := ⟨n1, n2, n3, n4, n5, n6⟩
  clear n1 n2 n3 n4 n5 n6
  have Hh1 := Lib.hid h1
  have HB := Lib.hid hB
  clear h1 hB
  have es : (World.heap w).size ≤ w1.heap.size := HB.out.size
  go_wp2_with fail
  refine (list_add lb L H pb 3 0 0 7 _ _ Hh1.out ap (by omega) (by omega) (by omega) (by rfl)).mono ?_
  rintro e w2 ⟨rfl, hw⟩
  have Hh2 := Lib.hid (hw ▸ (Hh1.out.put ap 7 1) : ListIs w2 lb L H pb 3 1 1 _)
  have HB2 := Lib.hid (hw ▸ (below_put HB.out l2 l3 l4 _ _ _ _ _ _) : Below w.heap.size w w2)
  clear hw Hh1 HB es
  go_wp2_with fail
  refine (list_add lb L H pb 3 1 1 8 _ _ Hh2.out ap (by omega) (by omega) (by omega) (by rfl)).mono ?_
  rintro e w3 ⟨rfl, hw⟩
  have Hh3 := Lib.hid (hw ▸ (Hh2.out.put ap 8 2) : ListIs w3 lb L H pb 3 2 2 _)
  have HB3 := Lib.hid (hw ▸ (below_put HB2.out l2 l3 l4 _ _ _ _ _ _) : Below w.heap.size w w3)
  clear hw Hh2 HB2
  go_wp2_with fail
  refine (list_add_full lb L H pb 3 2 2 9 _ _ Hh3.out (by omega) (by omega) (by omega) (by omega) (by rfl)).mono ?_
  rintro e w4 ⟨rfl, hw⟩
  have Hh4 := Lib.hid (hw ▸ (Hh3.out.counted ap 3) : ListIs w4 lb L H pb 3 3 2 _)
  have HB4 := Lib.hid (hw ▸ (HB3.out.setCell (p := ⟨L, 0, none⟩) l2 _) : Below w.heap.size w w4)
  clear hw Hh3 HB3
  go_wp2_with fail
  refine (list_close lb L H pb 3 3 2 [8, 7] _ _ Hh4.out ap ?_ (by simp) (by simp) (by rfl)).mono ?_
  · exact works_chain
  rintro e w5 ⟨v, rfl, ho, hb⟩
  have hsz : w4.heap.size ≤ w5.heap.size := by have := hb.size; simpa using this
  have Hh5 := Lib.hid ((Hh4.out.shut ap (-1)).below hb (by simp))
  have HB5 := Lib.hid ((HB4.out.setCell (p := ⟨H, 0, none⟩) l3 _).trans (hb.mono HB4.out.size))
  obtain ⟨g, cap, rfl⟩ : ∃ g cap, v = .slice (some ⟨g, 0, none⟩) 2 cap := by
    rcases ho.2 with ⟨_, h0⟩ | ⟨g, cap, cur, hv, _⟩
    · simp at h0
    · exact ⟨g, cap, hv⟩
  have r0 : w5.cell? ⟨g, 0, none⟩ = some (.int .i64 7) := by rw [ho.cellAt 0 (by simp)]; rfl
  have r1 : w5.cell? ⟨g, 1, none⟩ = some (.int .i64 8) := by rw [ho.cellAt 1 (by simp)]; rfl
  clear ho hb hsz Hh4 HB4
  go_wp2_with fail
  refine (list_close_shut lb L H pb 3 3 _ _ Hh5.out).mono ?_
  rintro e w6 ⟨rfl, rfl⟩
  go_wp2
  go_ret
  exact ⟨rfl, HB5.out⟩
end Go.Proofs.Ytjbhhoajpahdlaa
