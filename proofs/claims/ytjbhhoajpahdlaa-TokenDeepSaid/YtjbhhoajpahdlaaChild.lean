/- (*token.Token).Child and OnCancel, for a call entered alone, handed no thread. -/
import Derived.Test.YtjbhhoajpahdlaaToken
namespace Go.Proofs.Ytjbhhoajpahdlaa
open Go.RowKit

def ChildDone (w : World) (T : Tok) (d r : Int) (k : Nat) (ps : Array Value) (hv : Int) (e : Ending) (w' : World) : Prop :=
  ∃ T' : Tok, e = .returned (.tuple #[.pointer (some ⟨T'.tb, 0, none⟩), .int .i64 0]) ∧ Chg (fun b => b = T.L ∨ b = T.H ∨ b = T.pb) w w' ∧
    TokIs w' T d r k k (((ps.setIfInBounds (k * 3) (.pointer (some ⟨T'.tb, 0, none⟩))).setIfInBounds (k * 3 + 1) .nilFunc).setIfInBounds (k * 3 + 2) (.int .i64 hv)) ∧
    TokIs w' T' (d + 1) 0 0 0 eplaces ∧ T'.Apart ∧ ∀ b, T'.has b → w.heap.size ≤ b

theorem store_nilFunc (a : Addr) (w : World) (x : Value) (hc : w.cell? a = some x) (hz : w.frozen? a = false) : (store a .nilFunc).run Try.prog w = .ok () (w.setCell a .nilFunc) := Fine.store (.inl rfl) a w x hc hz

theorem Chg.one (w : World) (b o : Nat) (v : Value) : Chg (fun x => x = b) w (w.setCell ⟨b, o, none⟩ v) := (Chg.refl (fun x => x = b) w).set (b := b) (.inl rfl) o v

theorem TokIs.deep {w : World} {T : Tok} {d r lv hv : Int} {ps : Array Value} (h : TokIs w T d r lv hv ps) (ap : T.Apart) (d' : Int) : TokIs (w.setCell ⟨T.tb, 2, none⟩ (.int .i64 d')) T d' r lv hv ps :=
  ⟨by rw [block_setCell h.tok]; rfl, h.reason.other ap.Rt _ _, h.list.chg (S := fun b => b = T.tb) (Chg.one w T.tb _ _) (fun e => ap.tl e.symm) (fun e => ap.tL e.symm) (fun e => ap.tH e.symm) (fun e => ap.tp e.symm)⟩

set_option maxRecDepth 100000 in
set_option maxHeartbeats 3200000 in
theorem token_child (T : Tok) (d r lv hv : Int) (k : Nat) (ps : Array Value) (w : World) (h : TokIs w T d r lv hv ps) (ap : T.Apart) (hd : 0 ≤ d) (hd1 : d < 64) (hk : lv + 1 = k) (h1 : k < 65) (hh : (hv == -1) = false) :
    Calls Try.prog 19 #[.pointer (some ⟨T.tb, 0, none⟩), .pointer none] w (ChildDone w T d r k ps hv) := by
  obtain ⟨c0, c1, c2, _⟩ := h.cells
  have hd2 : (d == 64) = false := by rw [beq_eq_false_iff_ne]; omega
  have HK := Lib.hid hk
  clear hk
  go_enter Try.func19, Try.ntmps19
  go_wp2_with (go_at_call 64; refine (token_made T d r lv hv ps _ h).mono ?_; rintro e w' ⟨rfl, rfl⟩)
  refine (token_new _).mono ?_
  rintro e w1 ⟨T', rfl, hB, ht, ap', hin⟩
  have h' : TokIs w1 T d r lv hv ps := h.chg (S := fun _ => False) (Chg.of_below hB) (fun _ _ x => x)
  obtain ⟨e0, e1, e2, _⟩ := h'.cells
  obtain ⟨g0, g1, g2, gz⟩ := ht.cells
  have hne : ¬ T'.tb = T.tb := by have := hin T'.tb (.inl rfl); have := h.lt (b := T.tb) (.inl rfl); omega
  have HB := Lib.hid hB
  have HT := Lib.hid ht
  have H' := Lib.hid h'
  have HI := Lib.hid hin
  clear hB ht h' hin
  go_wp2_with fail
  have w2s : TokIs (w1.setCell ⟨T'.tb, 2, none⟩ (.int .i64 (d + 1))) T d r lv hv ps := H'.out.chg (S := fun b => b = T'.tb) (Chg.one w1 T'.tb _ _) (fun b hb e => by
    have := HI.out T'.tb (.inl rfl); have := h.lt hb; omega)
  refine (elist_add T.lb T.L T.H T.pb 65 k lv hv (some ⟨T'.tb, 0, none⟩) .nilFunc ps _ w2s.list ap.ap HK.out h1 (by omega) hh rfl store_nilFunc).mono ?_
  rintro e w3 ⟨rfl, hC, hL⟩
  have HC := Lib.hid hC
  have HL := Lib.hid hL
  have W2 := Lib.hid w2s
  clear hC hL w2s
  go_wp2
  go_ret2
  have c0w : Chg (fun b => b = T.L ∨ b = T.H ∨ b = T.pb) w (w1.setCell ⟨T'.tb, 2, none⟩ (.int .i64 (d + 1))) := (Chg.of_below HB.out).set (.inr (HI.out T'.tb (.inl rfl))) _ _
  refine ⟨T', rfl, c0w.trans HC.out, ?_, ?_, ap', HI.out⟩
  · exact ⟨(HC.out.block _ (lt_of_block W2.out.tok) (by simp only [not_or]; exact ⟨ap.tL, ap.tH, ap.tp⟩)).trans W2.out.tok, (HC.out.block _ (lt_of_block W2.out.reason) (by simp only [not_or]; exact ⟨ap.RL, ap.RH, ap.Rp⟩)).trans W2.out.reason, HL.out⟩
  · refine (HT.out.deep ap' (d + 1)).chg HC.out ?_
    intro b hb hs
    have := HI.out b hb
    rcases hs with e | e | e
    · have := h.lt (b := T.L) (by simp [Tok.has]); omega
    · have := h.lt (b := T.H) (by simp [Tok.has]); omega
    · have := h.lt (b := T.pb) (by simp [Tok.has]); omega
set_option maxRecDepth 100000 in
set_option maxHeartbeats 1600000 in
theorem token_child_deep (T : Tok) (r lv hv : Int) (ps : Array Value) (w : World) (h : TokIs w T 64 r lv hv ps) :
    Calls Try.prog 19 #[.pointer (some ⟨T.tb, 0, none⟩), .pointer none] w fun e w' => e = .returned (.tuple #[.pointer none, .int .i64 15]) ∧ w = w' := by
  obtain ⟨c0, c1, c2, _⟩ := h.cells
  go_enter Try.func19, Try.ntmps19
  go_wp2_with (go_at_call 64; refine (token_made T 64 r lv hv ps _ h).mono ?_; rintro e w' ⟨rfl, rfl⟩)
  go_ret2
  exact ⟨rfl, rfl⟩
set_option maxRecDepth 100000 in
set_option maxHeartbeats 1600000 in
theorem token_child_nil (w : World) :
    Calls Try.prog 19 #[.pointer none, .pointer none] w fun e w' => e = .returned (.tuple #[.pointer none, .int .i64 2]) ∧ w = w' := by
  go_enter Try.func19, Try.ntmps19
  go_wp2_with (go_at_call 64; refine (token_made_nil _).mono ?_; rintro e w' ⟨rfl, rfl⟩)
  go_ret2
  exact ⟨rfl, rfl⟩
set_option maxRecDepth 100000 in
set_option maxHeartbeats 1600000 in
theorem token_child_bare (b : Nat) (w : World) (h : w.cell? ⟨b, 0, none⟩ = some (.pointer none)) :
    Calls Try.prog 19 #[.pointer (some ⟨b, 0, none⟩), .pointer none] w fun e w' => e = .returned (.tuple #[.pointer none, .int .i64 2]) ∧ w = w' := by
  go_enter Try.func19, Try.ntmps19
  go_wp2_with (go_at_call 64; refine (token_made_bare b _ h).mono ?_; rintro e w' ⟨rfl, rfl⟩)
  go_ret2
  exact ⟨rfl, rfl⟩

set_option maxRecDepth 100000 in
set_option maxHeartbeats 1600000 in
theorem elist_add_shut (lb L H pb n : Nat) (lv : Int) (c f : Value) (ps : Array Value) (w : World) (h : EList w lb L H pb n lv (-1) ps) :
    Calls Try.prog 65 #[.pointer (some ⟨lb, 0, none⟩), .pointer none, .agg #[c, f]] w fun e w' => e = .returned (.tuple #[.int .i64 0, .int .i64 13]) ∧ w' = w.alloc (.cells #[c, f] 145) := by
  have hA := h.alloc (.cells #[c, f] 145)
  obtain ⟨a0, a1, a2⟩ := hA.lcell
  go_enter Try.func65, Try.ntmps65
  go_wp2_with (first | (go_at_call 114; refine (elist_made lb L H pb n lv (-1) ps _ hA).mono ?_; rintro e w' ⟨rfl, rfl⟩) | (go_at_call 46; refine (load_is hA.head).mono ?_; rintro e w' ⟨rfl, rfl⟩))
  go_ret2
  exact ⟨rfl, rfl⟩

def LateDone (w : World) (d r : Int) (e : Ending) (w' : World) : Prop :=
  ∃ T' : Tok, e = .returned (.tuple #[.pointer (some ⟨T'.tb, 0, none⟩), .int .i64 0]) ∧ Below w.heap.size w w' ∧ TokIs w' T' (d + 1) r 0 (-1) eplaces ∧ T'.Apart ∧ ∀ b, T'.has b → w.heap.size ≤ b

theorem TokIs.reasoned {w : World} {T : Tok} {d r lv hv : Int} {ps : Array Value} (h : TokIs w T d r lv hv ps) (ap : T.Apart) (x : Int) : TokIs (w.setCell ⟨T.R, 0, none⟩ (.int .i64 x)) T d x lv hv ps :=
  ⟨(block_setCell_ne ap.Rt.symm _ _).trans h.tok, h.reason.set x, h.list.chg (Chg.one w T.R _ _) (fun e => ap.Rl e.symm) (fun e => ap.RL e.symm) (fun e => ap.RH e.symm) (fun e => ap.Rp e.symm)⟩
theorem TokIs.closed {w : World} {T : Tok} {d r lv hv : Int} {ps : Array Value} (h : TokIs w T d r lv hv ps) (ap : T.Apart) (x : Int) : TokIs (w.setCell ⟨T.H, 0, none⟩ (.int .i64 x)) T d r lv x ps :=
  ⟨(block_setCell_ne ap.tH _ _).trans h.tok, h.reason.other ap.RH _ _, h.list.shut ap.ap x⟩
theorem TokIs.of_heap {w w' : World} {T : Tok} {d r lv hv : Int} {ps : Array Value} (h : TokIs w T d r lv hv ps) (e : w'.heap = w.heap) : TokIs w' T d r lv hv ps :=
  ⟨by rw [e]; exact h.tok, by unfold CellIs; rw [e]; exact h.reason, h.list.of_heap e⟩

set_option maxRecDepth 100000 in
set_option maxHeartbeats 3200000 in
/-- Child of one that is cancelled: the child is born cancelled. -/
theorem token_child_late (T : Tok) (d r lv : Int) (ps : Array Value) (w : World) (h : TokIs w T d r lv (-1) ps) (hd : 0 ≤ d) (hd1 : d < 64) :
    Calls Try.prog 19 #[.pointer (some ⟨T.tb, 0, none⟩), .pointer none] w (LateDone w d r) := by
  obtain ⟨c0, c1, c2, _⟩ := h.cells
  have hd2 : (d == 64) = false := by rw [beq_eq_false_iff_ne]; omega
  go_enter Try.func19, Try.ntmps19
  go_wp2_with (go_at_call 64; refine (token_made T d r lv (-1) ps _ h).mono ?_; rintro e w' ⟨rfl, rfl⟩)
  refine (token_new _).mono ?_
  rintro e w1 ⟨T', rfl, hB, ht, ap', hin⟩
  have h' : TokIs w1 T d r lv (-1) ps := h.chg (S := fun _ => False) (Chg.of_below hB) (fun _ _ x => x)
  obtain ⟨e0, e1, e2, _⟩ := h'.cells
  obtain ⟨g0, g1, g2, gz⟩ := ht.cells
  have hne : ¬ T'.tb = T.tb := by have := hin T'.tb (.inl rfl); have := h.lt (b := T.tb) (.inl rfl); omega
  have HB := Lib.hid hB
  have HT := Lib.hid ht
  have H' := Lib.hid h'
  have HI := Lib.hid hin
  clear hB ht h' hin
  go_wp2_with fail
  have w2s : TokIs (w1.setCell ⟨T'.tb, 2, none⟩ (.int .i64 (d + 1))) T d r lv (-1) ps := H'.out.chg (S := fun b => b = T'.tb) (Chg.one w1 T'.tb _ _) (fun b hb e => by
    have := HI.out T'.tb (.inl rfl); have := h.lt hb; omega)
  refine (elist_add_shut T.lb T.L T.H T.pb 65 lv _ _ ps _ w2s.list).mono ?_
  rintro e w3 ⟨rfl, hw3⟩
  have w3s : TokIs w3 T d r lv (-1) ps := by rw [hw3]; exact w2s.chg (S := fun _ => False) ((Chg.refl _ _).alloc _) (fun _ _ x => x)
  have w3t : TokIs w3 T' (d + 1) 0 0 0 eplaces := by rw [hw3]; exact (HT.out.deep ap' (d + 1)).chg (S := fun _ => False) ((Chg.refl _ _).alloc _) (fun _ _ x => x)
  have hB3 : Below w.heap.size w w3 := by rw [hw3]; exact (HB.out.setCell (p := ⟨T'.tb, 2, none⟩) (HI.out T'.tb (.inl rfl)) _).alloc (by have := HB.out.size; simpa using this) _
  obtain ⟨q0, q1, q2, _⟩ := w3s.cells
  obtain ⟨r0, r1, r2, _⟩ := w3t.cells
  have HB3 := Lib.hid hB3
  have W3S := Lib.hid w3s
  have W3T := Lib.hid w3t
  clear hw3 w2s w3s w3t hB3
  go_wp2
  go_region_with (first | (go_at_call 46; refine (load_is (w := w3.drew) W3S.out.reason).mono ?_; rintro e w' ⟨rfl, rfl⟩) | (go_at_call 66; refine (store_is (w := w3.drew) r W3T.out.reason).mono ?_; rintro e w' ⟨rfl, rfl⟩))
  all_goals
    have w4t : TokIs (w3.setCell ⟨T'.R, 0, none⟩ (.int .i64 r)).drew T' (d + 1) r 0 0 eplaces := (W3T.out.reasoned ap' r).of_heap rfl
    obtain ⟨s0, s1, s2, _⟩ := w4t.cells
    have W4T := Lib.hid w4t
    clear w4t
    go_wp2_with fail
    refine (elist_close T'.lb T'.L T'.H T'.pb 65 0 0 [] eplaces _ W4T.out.list ap'.ap .nil (by simp) (by rfl)).mono ?_
    rintro e w5 ⟨v, rfl, _, hb5⟩
    have HB5 := Lib.hid hb5
    clear hb5
    go_wp2
    go_ret2
    refine ⟨T', rfl, ?_, ?_, ap', HI.out⟩
    · have := ((HB3.out.setCell (p := ⟨T'.R, 0, none⟩) (HI.out T'.R (by simp [Tok.has])) (.int .i64 r)).drew.setCell (p := ⟨T'.H, 0, none⟩) (HI.out T'.H (by simp [Tok.has])) (.int .i64 (-1)))
      exact this.trans (HB5.out.mono (by have := HB3.out.size; simpa using this))
    · have := W4T.out.closed ap' (-1)
      exact this.chg (S := fun _ => False) (Chg.of_below (HB5.out.mono (by simp))) (fun _ _ x => x)
end Go.Proofs.Ytjbhhoajpahdlaa
