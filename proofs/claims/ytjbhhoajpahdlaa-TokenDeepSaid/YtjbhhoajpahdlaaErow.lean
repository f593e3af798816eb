/- (*list.List).row, slices.Reverse and Close at a token's entries, for a call entered alone. -/
import Derived.Test.YtjbhhoajpahdlaaElist
namespace Go.Proofs.Ytjbhhoajpahdlaa
open Go.RowKit

def flat (es : List (Option Addr × Value)) : List Value := es.flatMap fun e => [.pointer e.1, e.2]
theorem flat_length (es : List (Option Addr × Value)) : (flat es).length = es.length * 2 := by
  induction es with
  | nil => rfl
  | cons e l ih => simp [flat] at *; omega
theorem flat_append (a b : List (Option Addr × Value)) : flat (a ++ b) = flat a ++ flat b := by simp [flat]

/-- An entry's function: none, or a function value. -/
def Fine (f : Value) : Prop := f = .nilFunc ∨ ∃ fn a b, f = .func fn a b
theorem Fine.cells {f : Value} (h : Fine f) : f.cells = #[f] := by rcases h with rfl | ⟨_, _, _, rfl⟩ <;> rfl
theorem Fine.one {f : Value} (h : Fine f) : f.oneCell' = true := by rcases h with rfl | ⟨_, _, _, rfl⟩ <;> rfl
theorem Fine.store {f : Value} (h : Fine f) (a : Addr) (w : World) (x : Value) (hc : w.cell? a = some x) (hz : w.frozen? a = false) : (store a f).run Try.prog w = .ok () (w.setCell a f) := by
  rcases h with rfl | ⟨_, _, _, rfl⟩
  · rw [run_store_nilFunc]; unfold stored; simp [hc, hz]
  · rw [run_store_func]; unfold stored; simp [hc, hz]

inductive EChain (ps : Array Value) (n : Nat) : Int → List (Option Addr × Value) → Prop
  | nil : EChain ps n 0 []
  | cons (k : Nat) (c : Option Addr) (f : Value) (h : Int) (l : List (Option Addr × Value)) : 0 < k → k < n → Fine f → ps[k * 3]? = some (.pointer c) → ps[k * 3 + 1]? = some f → ps[k * 3 + 2]? = some (.int .i64 h) → EChain ps n h l → EChain ps n k ((c, f) :: l)

structure ERowRel (w wr : World) (lb pb n : Nat) (ps : Array Value) (k : Int) (v : Value) (acc rest : List (Option Addr × Value)) : Prop where
  chain : EChain ps n k rest
  own : wr.ownsRow w.heap.size 145 2 v acc.length (flat acc)
  below : Below w.heap.size w wr
  list : wr.cell? ⟨lb, 0 + 2, none⟩ = some (.slice (some ⟨pb, 0, none⟩) n n)
  places : wr.heap[pb]? = some (.cells ps 220)

set_option maxRecDepth 100000 in
set_option maxHeartbeats 1600000 in
theorem erev_short (a : Option Addr) (n cap : Nat) (w : World) (h : n ≤ 1) :
    Calls Try.prog 160 #[.slice a n cap] w fun e w' => e = .returned (.tuple #[]) ∧ w = w' := by
  have hn : ¬ (0 : Int) < (n : Int) - 1 := by omega
  go_enter Try.func160, Try.ntmps160
  go_wp2
  refine wp_loop_rounds 1 ?_
  rw [rounds_succ]
  go_wp2
  go_end0
  exact ⟨rfl, rfl⟩

set_option maxRecDepth 100000 in
set_option maxHeartbeats 1600000 in
theorem erev_two (base g cap : Nat) (c0 c1 : Option Addr) (f0 f1 : Value) (w : World) (h : w.ownsRow base 145 2 (.slice (some ⟨g, 0, none⟩) 2 cap) 2 (flat [(c0, f0), (c1, f1)])) (e0 : Fine f0) (e1 : Fine f1) :
    Calls Try.prog 160 #[.slice (some ⟨g, 0, none⟩) 2 cap] w fun e w' => e = .returned (.tuple #[]) ∧
      w'.ownsRow base 145 2 (.slice (some ⟨g, 0, none⟩) 2 cap) 2 (flat [(c1, f1), (c0, f0)]) ∧ Below base w w' := by
  have hbg : base ≤ g := (h.lt g rfl).1
  have x0 : w.cell? ⟨g, 0, none⟩ = some (.pointer c0) := by rw [h.cellAt 0 (by omega)]; rfl
  have x1 : w.cell? ⟨g, 1, none⟩ = some f0 := by rw [h.cellAt 1 (by omega)]; rfl
  have x2 : w.cell? ⟨g, 2, none⟩ = some (.pointer c1) := by rw [h.cellAt 2 (by omega)]; rfl
  have x3 : w.cell? ⟨g, 3, none⟩ = some f1 := by rw [h.cellAt 3 (by omega)]; rfl
  have z := h.frozenAt
  have s0 := e0.store
  have s1 := e1.store
  have k0 := e0.cells
  have k1 := e1.cells
  have HO := Lib.hid h
  clear h
  go_enter Try.func160, Try.ntmps160
  go_wp2
  refine wp_loop_rounds 2 ?_
  rw [rounds_succ]
  go_wp2
  go_region
  go_wp2
  rw [rounds_succ]
  go_wp2
  go_end0
  refine ⟨rfl, ?_, ?_⟩
  · have h := HO.out
    have h1 := ((h.drew).stored 0 (.pointer c1)).1
    have h2 := (h1.stored 1 f1).1
    have h3 := (h2.stored 2 (.pointer c0)).1
    have h4 := (h3.stored 3 f0).1
    exact h4
  · exact (((((Below.refl base w).drew.setCell (p := ⟨g, 0, none⟩) hbg _).setCell (p := ⟨g, 1, none⟩) hbg _).setCell (p := ⟨g, 2, none⟩) hbg _).setCell (p := ⟨g, 3, none⟩) hbg _)

def ERowDone (w : World) (l : List (Option Addr × Value)) (e : Ending) (w' : World) : Prop :=
  ∃ v, e = .returned v ∧ w'.ownsRow w.heap.size 145 2 v l.length (flat l.reverse) ∧ Below w.heap.size w w'

set_option maxRecDepth 100000 in
set_option maxHeartbeats 3200000 in
theorem elist_row (lb L H pb n : Nat) (lv hv k : Int) (l : List (Option Addr × Value)) (ps : Array Value) (w : World) (h : EList w lb L H pb n lv hv ps) (hc : EChain ps n k l) (hl : l.length ≤ 2) :
    Calls Try.prog 115 #[.pointer (some ⟨lb, 0, none⟩), .int .i64 k] w (ERowDone w l) := by
  obtain ⟨i0, hi, hz0, hz1, hz2⟩ := info_parts (show (Try.prog.info? 145).map (fun i => (i.zero, i.size, i.bytes)) = some (some (.agg #[.pointer none, .nilFunc]), 2, 16) by kernel_rfl)
  have hlb := lt_of_block h.list
  have hpb := lt_of_block h.places
  have HL := Lib.hid hl
  clear hl
  go_enter Try.func115, Try.ntmps115
  go_wp2
  go_loopg [1, 5] (l.length) (fun g kv v wr => ∃ (k : Int) (acc rest : List (Option Addr × Value)), kv = .int .i64 k ∧ ERowRel w wr lb pb n ps k v acc rest ∧ g = rest.length ∧ acc ++ rest = l ∧ (∀ x ∈ acc, Fine x.2))
  case atStart =>
    exact ⟨k, [], l, rfl, ⟨hc, ⟨by simp [flat], .inl ⟨rfl, rfl⟩⟩, Below.refl _ _, h.lcell.2.2, h.places⟩, rfl, rfl, by simp⟩
  case round =>
    obtain ⟨k, acc, rest, rfl, R, rfl, hacc, hfine⟩ := hrel
    cases R.chain with
    | nil =>
      have hacc' : acc = l := by simpa using hacc
      subst hacc'
      have hb := R.below
      have hbs := hb.size
      have RO := Lib.hid R.own
      have HF := Lib.hid hfine
      obtain ⟨a, cap, hv⟩ : ∃ a cap, u5 = .slice a acc.length cap := by
        rcases R.own.2 with ⟨hv, h0⟩ | ⟨g, cap, cur, hv, _⟩
        · exact ⟨none, 0, by rw [hv, h0]⟩
        · exact ⟨_, cap, hv⟩
      subst hv
      clear R hacc hbs hfine
      by_cases h1 : acc.length ≤ 1
      · go_wp2_with fail
        refine (erev_short a acc.length cap _ h1).mono ?_
        rintro e w1 ⟨rfl, rfl⟩
        have er : acc.reverse = acc := by
          match acc, h1 with
          | [], _ => rfl
          | [_], _ => rfl
        have ER := Lib.hid er
        clear er
        go_wp2
        go_ret
        exact ⟨_, rfl, by rw [ER.out]; exact RO.out, hb⟩
      · obtain ⟨e0, e1, rfl⟩ : ∃ e0 e1, acc = [e0, e1] := by
          match acc, HL, h1 with
          | [e0, e1], _, _ => exact ⟨e0, e1, rfl⟩
          | [], _, h1 => exact absurd (by simp) h1
          | [_], _, h1 => exact absurd (by simp) h1
          | _ :: _ :: _ :: _, HL, _ => have := HL.out; simp at this
        obtain ⟨g, rfl⟩ : ∃ g, a = some ⟨g, 0, none⟩ := by
          rcases RO.out.2 with ⟨hv, h0⟩ | ⟨g, cap', cur, hv, _⟩
          · simp at h0
          · simp only [Value.slice.injEq] at hv; exact ⟨g, hv.1⟩
        go_wp2_with fail
        refine (erev_two w.heap.size g cap e0.1 e1.1 e0.2 e1.2 _ RO.out (HF.out e0 (by simp)) (HF.out e1 (by simp))).mono ?_
        rintro e w1 ⟨rfl, ho, hb1⟩
        have HO := Lib.hid ho
        clear ho
        go_wp2
        go_ret
        exact ⟨_, rfl, HO.out, hb.trans hb1⟩
    | cons k c f h' l' hk0 hkn hf hv0 hv1 hh hch =>
      have c2 := R.list
      have cv0 : wr.cell? ⟨pb, k * 3, none⟩ = some (.pointer c) := (cell_of_block R.places _).trans hv0
      have cv1 : wr.cell? ⟨pb, k * 3 + 1, none⟩ = some f := (cell_of_block R.places _).trans hv1
      have ch : wr.cell? ⟨pb, k * 3 + 2, none⟩ = some (.int .i64 h') := (cell_of_block R.places _).trans hh
      have hne : ((k : Int) != 0) = true := by rw [bne_iff_ne]; omega
      have hlen : acc.length + 1 ≤ 2 := by
        have := congrArg List.length hacc
        have hh := HL.out
        simp at this
        omega
      have hB : w.heap.size ≤ (wr.alloc (.cells #[.pointer c, f] 145)).heap.size := by
        have := R.below.size
        simp
        omega
      have kf := hf.cells
      have HF := Lib.hid hf
      have HFA := Lib.hid hfine
      clear hf hfine
      go_wp2_with (at_builtin; refine wpList_append_own _ rfl _ _ 147 rfl w.heap.size 145 i0 (.agg #[.pointer none, .nilFunc]) 2 16 Try.underlying147 hi hz0 hz1 hz2 rfl (by decide) _ _ _ rfl (R.own.alloc _) ⟨wr.heap.size, 0, none⟩ 1 1 [.pointer c, f] rfl rfl ?c1 ?c2 ?c3 ?c4 hB ?_)
      case c1 =>
        intro j u hj
        match j, hj with
        | 0, hj => simp at hj; subst hj; simp [Addr.add]
        | 1, hj => simp at hj; subst hj; simp [Addr.add]
      case c2 => intro u hu; simp at hu; rcases hu with rfl | rfl; rfl; exact HF.out.one
      case c3 => unfold maxLen; omega
      case c4 => omega
      · intro v' w1 hown' hgrow _
        have hb1 : Below w.heap.size w w1 := (R.below.alloc R.below.size _).grown hgrow hB (fun k hk => (R.own.lt k hk).1)
        have dp : w1.heap[pb]? = some (.cells ps 220) := (hb1.block pb hpb).trans ((R.below.block pb hpb).symm.trans R.places)
        have d2 : w1.cell? ⟨lb, 0 + 2, none⟩ = some (.slice (some ⟨pb, 0, none⟩) n n) := (hb1.cell (p := ⟨lb, 0 + 2, none⟩) hlb).trans ((R.below.cell (p := ⟨lb, 0 + 2, none⟩) hlb).symm.trans R.list)
        have ch1 : w1.cell? ⟨pb, k * 3 + 2, none⟩ = some (.int .i64 h') := (cell_of_block dp _).trans hh
        have R' : ERowRel w w1 lb pb n ps h' v' (acc ++ [(c, f)]) l' := ⟨hch, by rw [flat_append]; simpa [flat] using hown', hb1, d2, dp⟩
        have RH := Lib.hid R'
        clear R' R hown' hgrow hb1 dp c2 cv0 cv1 ch
        have HA := Lib.hid hacc
        clear hacc hh hv0 hv1
        go_wp2
        go_roundg l'.length
        case measure => simp
        case rel => exact ⟨h', acc ++ [(c, f)], l', rfl, RH.out, rfl, by have := HA.out; simpa using this, by intro x hx; rcases List.mem_append.1 hx with hx | hx; exact HFA.out x hx; simp at hx; subst hx; exact HF.out⟩

def ECloseDone (w : World) (H : Nat) (l : List (Option Addr × Value)) (e : Ending) (w' : World) : Prop :=
  ∃ v, e = .returned (.tuple #[v, .int .i64 0]) ∧ w'.ownsRow w.heap.size 145 2 v l.length (flat l.reverse) ∧ Below w.heap.size (w.setCell ⟨H, 0, none⟩ (.int .i64 (-1))) w'

theorem EList.shut {w : World} {lb L H pb n : Nat} {lv hv : Int} {ps : Array Value} (h : EList w lb L H pb n lv hv ps) (ap : Apart6 lb L H pb) (x : Int) : EList (w.setCell ⟨H, 0, none⟩ (.int .i64 x)) lb L H pb n lv x ps :=
  ⟨(block_setCell_ne ap.Hl.symm _ _).trans h.list, h.last.other ap.LH _ _, h.head.set x, (block_setCell_ne ap.Hp.symm _ _).trans h.places, h.size⟩

set_option maxRecDepth 100000 in
set_option maxHeartbeats 1600000 in
/-- Close of a list that is not closed. -/
theorem elist_close (lb L H pb n : Nat) (lv hv : Int) (l : List (Option Addr × Value)) (ps : Array Value) (w : World) (h : EList w lb L H pb n lv hv ps) (ap : Apart6 lb L H pb) (hc : EChain ps n hv l) (hl : l.length ≤ 2) (hh : (hv == -1) = false) :
    Calls Try.prog 67 #[.pointer (some ⟨lb, 0, none⟩), .pointer none] w (ECloseDone w H l) := by
  obtain ⟨c0, c1, c2⟩ := h.lcell
  have HL := Lib.hid hl
  clear hl
  go_enter Try.func67, Try.ntmps67
  go_wp2_with (first | (go_at_call 114; refine (elist_made lb L H pb n lv hv ps _ h).mono ?_; rintro e w' ⟨rfl, rfl⟩) | (go_at_call 61; refine (swap_is (-1) h.head).mono ?_; rintro e w' ⟨rfl, rfl⟩))
  refine (elist_row lb L H pb n lv (-1) hv l ps _ (h.shut ap (-1)) hc HL.out).mono ?_
  rintro e w1 ⟨v, rfl, ho, hb⟩
  have HO := Lib.hid ho
  clear ho
  go_wp2
  go_ret2
  exact ⟨_, rfl, by simpa using HO.out, by simpa using hb⟩
end Go.Proofs.Ytjbhhoajpahdlaa
