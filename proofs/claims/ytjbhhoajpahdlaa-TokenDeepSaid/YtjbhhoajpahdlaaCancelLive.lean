/- (*token.Token).Cancel of a live token, for a call entered alone: its list's entries are told, one behind the other. -/
import Derived.Test.YtjbhhoajpahdlaaCancel
namespace Go.Proofs.Ytjbhhoajpahdlaa
open Go.RowKit

/-- The token is cancelled; beside that the world is as it was, but for new blocks. -/
def Shut (w : World) (T : Tok) (d x lv : Int) (ps : Array Value) (w1 : World) : Prop := Chg (fun b => b = T.R ∨ b = T.H) w w1 ∧ TokIs w1 T d x lv (-1) ps

theorem Shut.more {w w1 w2 : World} {T : Tok} {d x lv : Int} {ps : Array Value} (h : Shut w T d x lv ps w1) (c : Chg (fun _ => False) w1 w2) : Shut w T d x lv ps w2 :=
  ⟨h.1.trans (c.mono fun _ _ x => x.elim), h.2.chg c fun _ _ x => x⟩


set_option maxRecDepth 100000 in
set_option maxHeartbeats 1600000 in
/-- Nothing hangs on it. -/
theorem cancel_0 (T : Tok) (d lv hv x : Int) (ps : Array Value) (w : World) (h : TokIs w T d 0 lv hv ps) (ap : T.Apart) (hx : 1 ≤ x) (hh : (hv == -1) = false) (hc : EChain ps 65 hv []) :
    Calls Try.prog 22 #[.pointer (some ⟨T.tb, 0, none⟩), .pointer none, .int .i64 x] w fun e w' => e = .returned (.bool true) ∧ Shut w T d x lv ps w' := by
  obtain ⟨c0, c1, c2, _⟩ := h.cells
  have hx' : ¬ x < 1 := by omega
  have a1 : TokIs (w.setCell ⟨T.R, 0, none⟩ (.int .i64 x)) T d x lv hv ps := h.reasoned ap x
  obtain ⟨d0, d1, d2, _⟩ := a1.cells
  have A1 := Lib.hid a1
  clear a1
  go_enter Try.func22, Try.ntmps22
  go_wp2_with (first | (go_at_call 64; refine (token_made T d 0 lv hv ps _ h).mono ?_; rintro e w' ⟨rfl, rfl⟩) | (go_at_call 60; refine (cas_is x h.reason).mono ?_; rintro e w' ⟨rfl, rfl⟩))
  refine (elist_close T.lb T.L T.H T.pb 65 lv hv ([] : List (Option Addr × Value)) ps _ A1.out.list ap.ap hc (by simp) hh).mono ?_
  rintro e w1 ⟨v, rfl, ho, hb⟩
  have hs1 : Shut w T d x lv ps w1 := by
    have hb' : Below w.heap.size ((w.setCell ⟨T.R, 0, none⟩ (.int .i64 x)).setCell ⟨T.H, 0, none⟩ (.int .i64 (-1))) w1 := by simpa using hb
    exact ⟨(((Chg.refl _ w).set (.inl (.inl rfl)) _ _).set (.inl (.inr rfl)) _ _).below hb' (Nat.le_refl _), (A1.out.closed ap (-1)).chg (S := fun _ => False) (Chg.of_below (by simpa using hb)) (fun _ _ x => x)⟩
  have hsz : w.heap.size ≤ w1.heap.size := hs1.1.size
  have ho' : w1.ownsRow w.heap.size 145 2 v (([] : List (Option Addr × Value))).length (flat (([] : List (Option Addr × Value))).reverse) := by simpa using ho
  have HS := Lib.hid hs1
  clear hb hs1 ho A1
  obtain ⟨a, cap, hv'⟩ : ∃ a cap, v = .slice a 0 cap := by
    rcases ho'.2 with ⟨hv, h0⟩ | ⟨g, cap, cur, hv, _⟩
    · exact ⟨none, 0, hv⟩
    · exact ⟨_, cap, hv⟩
  subst hv'
  clear ho'
  go_wp2
  refine wp_loop_rounds 1 ?_
  rw [rounds_succ]
  go_wp2
  go_ret
  exact ⟨rfl, HS.out⟩

set_option maxRecDepth 100000 in
set_option maxHeartbeats 3200000 in
/-- A child hangs on it, and nothing else. -/
theorem cancel_c (T : Tok) (d lv hv x : Int) (ps : Array Value) (w : World) (h : TokIs w T d 0 lv hv ps) (ap : T.Apart) (hx : 1 ≤ x) (hh : (hv == -1) = false) (c : Addr) (hc : EChain ps 65 hv [(some c, .nilFunc)])
    (I1 : World → Prop) (hchild : ∀ w1, Shut w T d x lv ps w1 → Calls Try.prog 22 #[.pointer (some c), .pointer none, .int .i64 x] w1 fun e w' => (∃ b, e = .returned (.bool b)) ∧ I1 w') :
    Calls Try.prog 22 #[.pointer (some ⟨T.tb, 0, none⟩), .pointer none, .int .i64 x] w fun e w' => e = .returned (.bool true) ∧ I1 w' := by
  have HC := Lib.hid hchild
  clear hchild
  obtain ⟨c0, c1, c2, _⟩ := h.cells
  have hx' : ¬ x < 1 := by omega
  have a1 : TokIs (w.setCell ⟨T.R, 0, none⟩ (.int .i64 x)) T d x lv hv ps := h.reasoned ap x
  obtain ⟨d0, d1, d2, _⟩ := a1.cells
  have A1 := Lib.hid a1
  clear a1
  go_enter Try.func22, Try.ntmps22
  go_wp2_with (first | (go_at_call 64; refine (token_made T d 0 lv hv ps _ h).mono ?_; rintro e w' ⟨rfl, rfl⟩) | (go_at_call 60; refine (cas_is x h.reason).mono ?_; rintro e w' ⟨rfl, rfl⟩))
  refine (elist_close T.lb T.L T.H T.pb 65 lv hv [(some c, Value.nilFunc)] ps _ A1.out.list ap.ap hc (by simp) hh).mono ?_
  rintro e w1 ⟨v, rfl, ho, hb⟩
  have hs1 : Shut w T d x lv ps w1 := by
    have hb' : Below w.heap.size ((w.setCell ⟨T.R, 0, none⟩ (.int .i64 x)).setCell ⟨T.H, 0, none⟩ (.int .i64 (-1))) w1 := by simpa using hb
    exact ⟨(((Chg.refl _ w).set (.inl (.inl rfl)) _ _).set (.inl (.inr rfl)) _ _).below hb' (Nat.le_refl _), (A1.out.closed ap (-1)).chg (S := fun _ => False) (Chg.of_below (by simpa using hb)) (fun _ _ x => x)⟩
  have hsz : w.heap.size ≤ w1.heap.size := hs1.1.size
  have ho' : w1.ownsRow w.heap.size 145 2 v ([(some c, Value.nilFunc)]).length (flat ([(some c, Value.nilFunc)]).reverse) := by simpa using ho
  have HS := Lib.hid hs1
  clear hb hs1 ho A1
  obtain ⟨g, cap, hv'⟩ : ∃ g cap, v = .slice (some ⟨g, 0, none⟩) 1 cap := by
    rcases ho'.2 with ⟨hv, h0⟩ | ⟨g, cap, cur, hv, _⟩
    · simp at h0
    · exact ⟨g, cap, hv⟩
  subst hv'
  have r0 : w1.cell? ⟨g, 0, none⟩ = some (.pointer (some c)) := by rw [ho'.cellAt 0 (by simp)]; rfl
  have r1 : w1.cell? ⟨g, 1, none⟩ = some .nilFunc := by rw [ho'.cellAt 1 (by simp)]; rfl
  clear ho'
  go_wp2
  refine wp_loop_rounds 2 ?_
  rw [rounds_succ]
  go_wp2_with fail
  refine (HC.out _ (HS.out.more ((Chg.refl _ _).alloc _))).mono ?_
  rintro e w2 ⟨⟨b, rfl⟩, hI⟩
  have HI := Lib.hid hI
  clear hI r0 r1
  go_wp2
  rw [rounds_succ]
  go_wp2
  go_ret
  exact ⟨rfl, HI.out⟩

set_option maxRecDepth 100000 in
set_option maxHeartbeats 3200000 in
/-- A function hangs on it, and nothing else. -/
theorem cancel_f (T : Tok) (d lv hv x : Int) (ps : Array Value) (w : World) (h : TokIs w T d 0 lv hv ps) (ap : T.Apart) (hx : 1 ≤ x) (hh : (hv == -1) = false) (cap : Array Value) (hc : EChain ps 65 hv [(none, .func (.func 21) #[] cap)])
    (I1 : World → Prop) (hfunc : ∀ w1, Shut w T d x lv ps w1 → Calls Try.prog 21 (#[.pointer none, .int .i64 x] ++ cap) w1 fun e w' => e = .returned (.tuple #[]) ∧ I1 w') :
    Calls Try.prog 22 #[.pointer (some ⟨T.tb, 0, none⟩), .pointer none, .int .i64 x] w fun e w' => e = .returned (.bool true) ∧ I1 w' := by
  have HC := Lib.hid hfunc
  clear hfunc
  obtain ⟨c0, c1, c2, _⟩ := h.cells
  have hx' : ¬ x < 1 := by omega
  have a1 : TokIs (w.setCell ⟨T.R, 0, none⟩ (.int .i64 x)) T d x lv hv ps := h.reasoned ap x
  obtain ⟨d0, d1, d2, _⟩ := a1.cells
  have A1 := Lib.hid a1
  clear a1
  go_enter Try.func22, Try.ntmps22
  go_wp2_with (first | (go_at_call 64; refine (token_made T d 0 lv hv ps _ h).mono ?_; rintro e w' ⟨rfl, rfl⟩) | (go_at_call 60; refine (cas_is x h.reason).mono ?_; rintro e w' ⟨rfl, rfl⟩))
  refine (elist_close T.lb T.L T.H T.pb 65 lv hv [((none : Option Addr), Value.func (.func 21) #[] cap)] ps _ A1.out.list ap.ap hc (by simp) hh).mono ?_
  rintro e w1 ⟨v, rfl, ho, hb⟩
  have hs1 : Shut w T d x lv ps w1 := by
    have hb' : Below w.heap.size ((w.setCell ⟨T.R, 0, none⟩ (.int .i64 x)).setCell ⟨T.H, 0, none⟩ (.int .i64 (-1))) w1 := by simpa using hb
    exact ⟨(((Chg.refl _ w).set (.inl (.inl rfl)) _ _).set (.inl (.inr rfl)) _ _).below hb' (Nat.le_refl _), (A1.out.closed ap (-1)).chg (S := fun _ => False) (Chg.of_below (by simpa using hb)) (fun _ _ x => x)⟩
  have hsz : w.heap.size ≤ w1.heap.size := hs1.1.size
  have ho' : w1.ownsRow w.heap.size 145 2 v ([((none : Option Addr), Value.func (.func 21) #[] cap)]).length (flat ([((none : Option Addr), Value.func (.func 21) #[] cap)]).reverse) := by simpa using ho
  have HS := Lib.hid hs1
  clear hb hs1 ho A1
  obtain ⟨g, cp, hv'⟩ : ∃ g cp, v = .slice (some ⟨g, 0, none⟩) 1 cp := by
    rcases ho'.2 with ⟨hv, h0⟩ | ⟨g, cap, cur, hv, _⟩
    · simp at h0
    · exact ⟨g, cap, hv⟩
  subst hv'
  have r0 : w1.cell? ⟨g, 0, none⟩ = some (.pointer none) := by rw [ho'.cellAt 0 (by simp)]; rfl
  have r1 : w1.cell? ⟨g, 1, none⟩ = some (.func (.func 21) #[] cap) := by rw [ho'.cellAt 1 (by simp)]; rfl
  clear ho'
  go_wp2
  refine wp_loop_rounds 2 ?_
  rw [rounds_succ]
  go_wp2_with fail
  refine (HC.out _ (HS.out.more ((Chg.refl _ _).alloc _))).mono ?_
  rintro e w2 ⟨rfl, hI⟩
  have HI := Lib.hid hI
  clear hI r0 r1
  go_wp2
  rw [rounds_succ]
  go_wp2
  go_ret
  exact ⟨rfl, HI.out⟩

set_option maxRecDepth 100000 in
set_option maxHeartbeats 3200000 in
/-- A child hangs on it, and a function behind it. -/
theorem cancel_cf (T : Tok) (d lv hv x : Int) (ps : Array Value) (w : World) (h : TokIs w T d 0 lv hv ps) (ap : T.Apart) (hx : 1 ≤ x) (hh : (hv == -1) = false) (c : Addr) (cap : Array Value)
    (hc : EChain ps 65 hv [(none, .func (.func 21) #[] cap), (some c, .nilFunc)]) (S : Nat → Prop) (hS : ∀ b, S b → b < w.heap.size)
    (I1 I2 : World → Prop) (hchild : ∀ w1, Shut w T d x lv ps w1 → Calls Try.prog 22 #[.pointer (some c), .pointer none, .int .i64 x] w1 fun e w' => (∃ b, e = .returned (.bool b)) ∧ I1 w' ∧ Chg S w1 w')
    (hst : ∀ w1 w2, I1 w1 → Chg (fun _ => False) w1 w2 → I1 w2)
    (hfunc : ∀ w1, I1 w1 → Calls Try.prog 21 (#[.pointer none, .int .i64 x] ++ cap) w1 fun e w' => e = .returned (.tuple #[]) ∧ I2 w') :
    Calls Try.prog 22 #[.pointer (some ⟨T.tb, 0, none⟩), .pointer none, .int .i64 x] w fun e w' => e = .returned (.bool true) ∧ I2 w' := by
  have HC := Lib.hid hchild
  have HF := Lib.hid hfunc
  have HST := Lib.hid hst
  have HSS := Lib.hid hS
  clear hchild hfunc hst hS
  obtain ⟨c0, c1, c2, _⟩ := h.cells
  have hx' : ¬ x < 1 := by omega
  have a1 : TokIs (w.setCell ⟨T.R, 0, none⟩ (.int .i64 x)) T d x lv hv ps := h.reasoned ap x
  obtain ⟨d0, d1, d2, _⟩ := a1.cells
  have A1 := Lib.hid a1
  clear a1
  go_enter Try.func22, Try.ntmps22
  go_wp2_with (first | (go_at_call 64; refine (token_made T d 0 lv hv ps _ h).mono ?_; rintro e w' ⟨rfl, rfl⟩) | (go_at_call 60; refine (cas_is x h.reason).mono ?_; rintro e w' ⟨rfl, rfl⟩))
  refine (elist_close T.lb T.L T.H T.pb 65 lv hv [((none : Option Addr), Value.func (.func 21) #[] cap), (some c, Value.nilFunc)] ps _ A1.out.list ap.ap hc (by simp) hh).mono ?_
  rintro e w1 ⟨v, rfl, ho, hb⟩
  have hs1 : Shut w T d x lv ps w1 := by
    have hb' : Below w.heap.size ((w.setCell ⟨T.R, 0, none⟩ (.int .i64 x)).setCell ⟨T.H, 0, none⟩ (.int .i64 (-1))) w1 := by simpa using hb
    exact ⟨(((Chg.refl _ w).set (.inl (.inl rfl)) _ _).set (.inl (.inr rfl)) _ _).below hb' (Nat.le_refl _), (A1.out.closed ap (-1)).chg (S := fun _ => False) (Chg.of_below (by simpa using hb)) (fun _ _ x => x)⟩
  have hsz : w.heap.size ≤ w1.heap.size := hs1.1.size
  have ho' : w1.ownsRow w.heap.size 145 2 v ([((none : Option Addr), Value.func (.func 21) #[] cap), (some c, Value.nilFunc)]).length (flat ([((none : Option Addr), Value.func (.func 21) #[] cap), (some c, Value.nilFunc)]).reverse) := by simpa using ho
  have HS := Lib.hid hs1
  clear hb hs1 ho A1
  obtain ⟨g, cp, hv'⟩ : ∃ g cp, v = .slice (some ⟨g, 0, none⟩) 2 cp := by
    rcases ho'.2 with ⟨hv, h0⟩ | ⟨g, cap, cur, hv, _⟩
    · simp at h0
    · exact ⟨g, cap, hv⟩
  subst hv'
  have r0 : w1.cell? ⟨g, 0, none⟩ = some (.pointer (some c)) := by rw [ho'.cellAt 0 (by simp)]; rfl
  have r1 : w1.cell? ⟨g, 1, none⟩ = some .nilFunc := by rw [ho'.cellAt 1 (by simp)]; rfl
  have r2 : w1.cell? ⟨g, 2, none⟩ = some (.pointer none) := by rw [ho'.cellAt 2 (by simp)]; rfl
  have r3 : w1.cell? ⟨g, 3, none⟩ = some (.func (.func 21) #[] cap) := by rw [ho'.cellAt 3 (by simp)]; rfl
  have hg := ho'.lt g rfl
  clear ho'
  go_wp2
  refine wp_loop_rounds 3 ?_
  rw [rounds_succ]
  go_wp2_with fail
  refine (HC.out _ (HS.out.more ((Chg.refl _ _).alloc _))).mono ?_
  rintro e w2 ⟨⟨b, rfl⟩, hI, hC⟩
  have hgs : ¬ S g := fun e => by have := HSS.out g e; omega
  have hbk : w2.heap[g]? = w1.heap[g]? := (hC.block g (by simp; omega) hgs).trans (block_alloc_lt hg.2 _)
  have s2 : w2.cell? ⟨g, 2, none⟩ = some (.pointer none) := (World.cell?_of_block (w := w1) hbk).trans r2
  have s3 : w2.cell? ⟨g, 3, none⟩ = some (.func (.func 21) #[] cap) := (World.cell?_of_block (w := w1) hbk).trans r3
  have HI := Lib.hid hI
  clear hI r0 r1 r2 r3 hC hbk
  go_wp2
  rw [rounds_succ]
  go_wp2_with fail
  refine (HF.out _ (HST.out _ _ HI.out ((Chg.refl _ _).alloc _))).mono ?_
  rintro e w3 ⟨rfl, hI2⟩
  have HI2 := Lib.hid hI2
  clear hI2 s2 s3
  go_wp2
  rw [rounds_succ]
  go_wp2
  go_ret
  exact ⟨rfl, HI2.out⟩
end Go.Proofs.Ytjbhhoajpahdlaa
