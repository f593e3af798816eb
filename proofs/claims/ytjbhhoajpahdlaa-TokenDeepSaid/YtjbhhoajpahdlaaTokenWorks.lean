/- treadlelaw11.works and at, for a call entered alone: true; and a number cut to a range. -/
import Derived.Test.YtjbhhoajpahdlaaCancelLive
namespace Go.Proofs.Ytjbhhoajpahdlaa
open Go.RowKit

theorem Shut.below {w w1 : World} {T : Tok} {d x lv : Int} {ps : Array Value} {B : Nat} (h : Shut w T d x lv ps w1) (hB : B ≤ w.heap.size) (hT : ∀ b, T.has b → B ≤ b) : Below B w w1 :=
  h.1.to_below hB (fun b hb => by
    rcases hb with rfl | rfl
    · exact hT _ (by simp [Tok.has])
    · exact hT _ (by simp [Tok.has]))

theorem TokIs.shutOf {w w1 : World} {T T' : Tok} {d x lv d' r' lv' hv' : Int} {ps ps' : Array Value} (h : TokIs w T' d' r' lv' hv' ps') (s : Shut w T d x lv ps w1) (hne : ∀ b, T'.has b → ¬ T.has b) : TokIs w1 T' d' r' lv' hv' ps' :=
  h.chg s.1 (fun b hb e => hne b hb (by rcases e with rfl | rfl <;> simp [Tok.has]))

theorem one_chain (c : Addr) : EChain (((eplaces.setIfInBounds (1 * 3) (.pointer (some c))).setIfInBounds (1 * 3 + 1) .nilFunc).setIfInBounds (1 * 3 + 2) (.int .i64 0)) 65 (1 : Nat) [(some c, .nilFunc)] :=
  .cons 1 _ _ 0 [] (by omega) (by omega) (.inl rfl) (by simp [eplaces, madeCells]) (by simp [eplaces, madeCells]) (by simp [eplaces, madeCells]) .nil

set_option maxRecDepth 100000 in
set_option maxHeartbeats 6400000 in
theorem token_works (w : World) : Calls Try.prog 25 #[] w fun e w' => e = .returned (.bool true) ∧ Below w.heap.size w w' := by
  go_enter Try.func25, Try.ntmps25
  go_wp2_with fail
  refine (token_new _).mono ?_
  rintro e w1 ⟨a, rfl, hB, ha, apa, ia⟩
  have A1 := Lib.hid ha
  have B1 := Lib.hid hB
  have IA := Lib.hid ia
  clear ha hB ia
  go_wp2_with fail
  refine (token_child a 0 0 0 0 1 eplaces _ A1.out apa (by omega) (by omega) (by omega) (by omega) (by rfl)).mono ?_
  rintro e w2 ⟨b, rfl, hC, ha, hb, apb, ib⟩
  have A2 := Lib.hid ha
  have B2 := Lib.hid hb
  have C2 := Lib.hid hC
  have IB := Lib.hid ib
  clear ha hb hC ib
  go_wp2_with fail
  refine (token_child b (0 + 1) 0 0 0 1 eplaces _ B2.out apb (by omega) (by omega) (by omega) (by omega) (by rfl)).mono ?_
  rintro e w3 ⟨c, rfl, hC, hb, hc, apc, ic⟩
  have lta : ∀ x, a.has x → x < w1.heap.size := fun x hx => A1.out.lt hx
  have ltb : ∀ x, b.has x → x < w2.heap.size := fun x hx => B2.out.lt hx
  have ha : TokIs w3 a _ _ _ _ _ := A2.out.chg hC (fun x hx e => by
    have h1 := lta x hx
    have h2 := IB.out x (by rcases e with rfl | rfl | rfl <;> simp [Tok.has])
    omega)
  have hba : ∀ x, b.has x → ¬ a.has x := fun x hx hy => by have := IB.out x hx; have := lta x hy; omega
  have hca : ∀ x, c.has x → ¬ a.has x := fun x hx hy => by have := ic x hx; have := lta x hy; have := C2.out.size; omega
  have hcb : ∀ x, c.has x → ¬ b.has x := fun x hx hy => by have := ic x hx; have := ltb x hy; omega
  have loa : ∀ x, a.has x → w.heap.size ≤ x := IA.out
  have lob : ∀ x, b.has x → w.heap.size ≤ x := fun x hx => by have := IB.out x hx; have := B1.out.size; omega
  have loc : ∀ x, c.has x → w.heap.size ≤ x := fun x hx => by have := ic x hx; have := B1.out.size; have := C2.out.size; omega
  have b3 : Below w.heap.size w w3 := by
    refine B1.out.trans (Below.trans (C2.out.to_below B1.out.size ?_) (hC.to_below (by have := B1.out.size; have := C2.out.size; omega) ?_))
    · intro x hx; exact loa x (by rcases hx with rfl | rfl | rfl <;> simp [Tok.has])
    · intro x hx; exact lob x (by rcases hx with rfl | rfl | rfl <;> simp [Tok.has])
  have A3 := Lib.hid ha
  have B3 := Lib.hid hb
  have C3 := Lib.hid hc
  have D3 := Lib.hid b3
  have HA := Lib.hid hba
  have HC := Lib.hid hca
  have HD := Lib.hid hcb
  have LA := Lib.hid loa
  have LB := Lib.hid lob
  have LC := Lib.hid loc
  clear ha hb hc hC ic lta ltb hba hca hcb loa lob loc b3 A1 A2 B1 B2 C2 IA IB
  go_wp2_with fail
  refine (cancel_c b (0 + 1) _ _ 3 _ _ B3.out apb (by omega) (by rfl) ⟨c.tb, 0, none⟩ (one_chain ⟨c.tb, 0, none⟩)
    (fun w' => TokIs w' a 0 0 (1 : Nat) (1 : Nat) (((eplaces.setIfInBounds (1 * 3) (.pointer (some ⟨b.tb, 0, none⟩))).setIfInBounds (1 * 3 + 1) .nilFunc).setIfInBounds (1 * 3 + 2) (.int .i64 0)) ∧
      TokIs w' b (0 + 1) 3 (1 : Nat) (-1) (((eplaces.setIfInBounds (1 * 3) (.pointer (some ⟨c.tb, 0, none⟩))).setIfInBounds (1 * 3 + 1) .nilFunc).setIfInBounds (1 * 3 + 2) (.int .i64 0)) ∧ TokIs w' c (0 + 1 + 1) 3 0 (-1) eplaces ∧ Below w.heap.size w w') ?_).mono ?_
  · intro v1 s1
    refine (cancel_0 c (0 + 1 + 1) 0 0 3 eplaces v1 (C3.out.shutOf s1 HD.out) apc (by omega) (by rfl) .nil).mono ?_
    rintro e v2 ⟨rfl, s2⟩
    refine ⟨⟨_, rfl⟩, (A3.out.shutOf s1 (fun x hx hy => HA.out x hy hx)).shutOf s2 (fun x hx hy => HC.out x hy hx), s1.2.shutOf s2 (fun x hx hy => HD.out x hy hx), s2.2, ?_⟩
    exact (D3.out.trans (s1.below D3.out.size LB.out)).trans (s2.below (by have := D3.out.size; have := s1.1.size; omega) LC.out)
  rintro e w4 ⟨rfl, ha, hb, hc, hB⟩
  have A4 := Lib.hid ha
  have B4 := Lib.hid hb
  have C4 := Lib.hid hc
  have D4 := Lib.hid hB
  clear ha hb hc hB A3 B3 C3 D3
  go_wp2_with fail
  refine (cancel_c a 0 _ _ 5 _ _ A4.out apa (by omega) (by rfl) ⟨b.tb, 0, none⟩ (one_chain ⟨b.tb, 0, none⟩)
    (fun w' => TokIs w' a 0 5 (1 : Nat) (-1) (((eplaces.setIfInBounds (1 * 3) (.pointer (some ⟨b.tb, 0, none⟩))).setIfInBounds (1 * 3 + 1) .nilFunc).setIfInBounds (1 * 3 + 2) (.int .i64 0)) ∧
      TokIs w' b (0 + 1) 3 (1 : Nat) (-1) (((eplaces.setIfInBounds (1 * 3) (.pointer (some ⟨c.tb, 0, none⟩))).setIfInBounds (1 * 3 + 1) .nilFunc).setIfInBounds (1 * 3 + 2) (.int .i64 0)) ∧ TokIs w' c (0 + 1 + 1) 3 0 (-1) eplaces ∧ Below w.heap.size w w') ?_).mono ?_
  · intro v1 s1
    refine (cancel_late b (0 + 1) 3 _ _ 5 _ v1 (B4.out.shutOf s1 HA.out) (by omega) (by omega)).mono ?_
    rintro e v2 ⟨rfl, rfl⟩
    refine ⟨⟨_, rfl⟩, s1.2, B4.out.shutOf s1 HA.out, C4.out.shutOf s1 HC.out, ?_⟩
    exact D4.out.trans (s1.below D4.out.size LA.out)
  rintro e w5 ⟨rfl, ha, hb, hc, hB⟩
  have A5 := Lib.hid ha
  have B5 := Lib.hid hb
  have C5 := Lib.hid hc
  have D5 := Lib.hid hB
  clear ha hb hc hB A4 B4 C4 D4
  go_wp2_with fail
  refine (cancel_late a 0 5 _ _ 7 _ _ A5.out (by omega) (by omega)).mono ?_
  rintro e w' ⟨rfl, rfl⟩
  go_wp2_with fail
  refine (token_child_late a 0 5 _ _ _ A5.out (by omega) (by omega)).mono ?_
  rintro e w6 ⟨d, rfl, hB, hd, apd, _⟩
  have A6 := Lib.hid (A5.out.chg (S := fun _ => False) (Chg.of_below hB) (fun _ _ x => x))
  have B6 := Lib.hid (B5.out.chg (S := fun _ => False) (Chg.of_below hB) (fun _ _ x => x))
  have C6 := Lib.hid (C5.out.chg (S := fun _ => False) (Chg.of_below hB) (fun _ _ x => x))
  have D6 := Lib.hid (D5.out.trans (hB.mono D5.out.size))
  have E6 := Lib.hid hd
  clear hB hd A5 B5 C5 D5
  go_wp2_with fail
  refine (token_reason a _ _ _ _ _ _ A6.out).mono ?_
  rintro e w' ⟨rfl, rfl⟩
  go_wp2_with fail
  refine (token_reason b _ _ _ _ _ _ B6.out).mono ?_
  rintro e w' ⟨rfl, rfl⟩
  go_wp2_with fail
  refine (token_reason c _ _ _ _ _ _ C6.out).mono ?_
  rintro e w' ⟨rfl, rfl⟩
  go_wp2_with fail
  refine (token_reason d _ _ _ _ _ _ E6.out).mono ?_
  rintro e w' ⟨rfl, rfl⟩
  go_wp2_with fail
  refine (token_wait d _ _ _ _ _ _ E6.out (by rfl)).mono ?_
  rintro e w' ⟨rfl, rfl⟩
  go_wp2
  go_ret
  exact ⟨rfl, D6.out⟩
end Go.Proofs.Ytjbhhoajpahdlaa
