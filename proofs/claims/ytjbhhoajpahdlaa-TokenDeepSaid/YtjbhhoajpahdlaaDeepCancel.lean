/- Cancel down a row of tokens, each one's child, with a function on each: for a call entered alone. -/
import Derived.Test.YtjbhhoajpahdlaaTokenWorks
namespace Go.Proofs.Ytjbhhoajpahdlaa
open Go.RowKit

/-- A row of m tokens, their places, the variables of the functions that hang on them, and what these write. -/
structure DeepLay where
  m : Nat
  T : Nat → Tok
  ps : Nat → Array Value
  iv : Nat → Nat
  bo : Nat
  bc : Nat
  pc : Nat

namespace DeepLay
def cap (D : DeepLay) (i : Nat) : Array Value := #[.pointer (some ⟨D.bo, 0, none⟩), .pointer (some ⟨D.bc, 0, none⟩), .pointer (some ⟨D.iv i, 0, none⟩)]
def fn (D : DeepLay) (i : Nat) : Value := .func (.func 21) #[] (D.cap i)
def lv (D : DeepLay) (i : Nat) : Int := if i + 1 < D.m then 2 else 1
def kid (D : DeepLay) (i : Nat) : Addr := ⟨(D.T i).tb, 0, none⟩

structure Ok (D : DeepLay) : Prop where
  m1 : D.m ≤ 65
  apart : ∀ i, i < D.m → (D.T i).Apart
  dis : ∀ i k, i < D.m → k < D.m → i ≠ k → ∀ b, (D.T i).has b → ¬ (D.T k).has b
  lt : ∀ i, i < D.m → ∀ b, (D.T i).has b → b < D.bo
  op : D.bo < D.pc
  pb : D.pc < D.bc
  bi : ∀ i, i < D.m → D.bc < D.iv i
  chain : ∀ i, i + 1 < D.m → EChain (D.ps i) 65 2 [(none, D.fn i), (some (D.kid (i + 1)), .nilFunc)]
  last : ∀ i, i + 1 = D.m → EChain (D.ps i) 65 1 [(none, D.fn i)]

def turns (m c : Nat) : Array Value := ((List.range m).map fun k => Value.int .i64 (if c ≤ k then (m : Int) - k else 0)).toArray

structure Count (D : DeepLay) (c : Nat) (w : World) : Prop where
  order : w.heap[D.bo]? = some (.cells #[.int .i64 ((D.m : Int) - c)] 3)
  var : w.heap[D.bc]? = some (.cells #[.slice (some ⟨D.pc, 0, none⟩) D.m D.m] 44)
  cur : w.heap[D.pc]? = some (.cells (turns D.m c) 3)

def Lives (D : DeepLay) (i : Nat) (w : World) : Prop := ∀ k, i ≤ k → k < D.m → TokIs w (D.T k) k 0 (D.lv k) (D.lv k) (D.ps k)
def Deads (D : DeepLay) (i : Nat) (x : Int) (w : World) : Prop := ∀ k, i ≤ k → k < D.m → TokIs w (D.T k) k x (D.lv k) (-1) (D.ps k)
def Vars (D : DeepLay) (w : World) : Prop := ∀ k, k < D.m → w.heap[D.iv k]? = some (.cells #[.int .i64 k] 3)
def Part (D : DeepLay) (i : Nat) (b : Nat) : Prop := (∃ k, i ≤ k ∧ k < D.m ∧ (D.T k).has b) ∨ b = D.bo ∨ b = D.pc

theorem Vars.chg {D : DeepLay} {w w' : World} {S : Nat → Prop} (h : D.Vars w) (c : Chg S w w') (hs : ∀ k, k < D.m → ¬ S (D.iv k)) : D.Vars w' :=
  fun k hk => (c.block _ (lt_of_block (h k hk)) (hs k hk)).trans (h k hk)
theorem Count.chg {D : DeepLay} {n : Nat} {w w' : World} {S : Nat → Prop} (h : D.Count n w) (c : Chg S w w') (h1 : ¬ S D.bo) (h2 : ¬ S D.bc) (h3 : ¬ S D.pc) : D.Count n w' :=
  ⟨(c.block _ (lt_of_block h.order) h1).trans h.order, (c.block _ (lt_of_block h.var) h2).trans h.var, (c.block _ (lt_of_block h.cur) h3).trans h.cur⟩

theorem turns_size (m c : Nat) : (turns m c).size = m := by simp [turns]
theorem turns_put (m i : Nat) (hi : i < m) : (turns m (i + 1)).setIfInBounds i (.int .i64 ((m : Int) - i)) = turns m i := by
  apply Array.ext_getElem?
  intro k
  by_cases hk : i = k
  · subst hk
    rw [Array.getElem?_setIfInBounds_self_of_lt (by rw [turns_size]; exact hi)]
    simp [turns, hi]
  · rw [Array.getElem?_setIfInBounds_ne hk]
    by_cases hkm : k < m
    · simp only [turns, List.getElem?_toArray, List.getElem?_map, List.getElem?_range hkm, Option.map_some, Option.some.injEq, Value.int.injEq, true_and]
      by_cases h1 : i + 1 ≤ k
      · rw [if_pos h1, if_pos (by omega)]
      · rw [if_neg h1, if_neg (by omega)]
    · simp [turns, hkm]

end DeepLay

set_option maxRecDepth 100000 in
set_option maxHeartbeats 1600000 in
theorem told_raw (bo bc pc iv m i : Nat) (n n' x : Int) (y : Value) (w : World) (o0 : w.cell? ⟨bo, 0, none⟩ = some (.int .i64 n)) (oz : w.frozen? ⟨bo, 0, none⟩ = false)
    (b0 : w.cell? ⟨bc, 0, none⟩ = some (.slice (some ⟨pc, 0, none⟩) m m)) (i0 : w.cell? ⟨iv, 0, none⟩ = some (.int .i64 (i : Int))) (p0 : w.cell? ⟨pc, i, none⟩ = some y) (pz : w.frozen? ⟨pc, i, none⟩ = false)
    (n1 : ¬ bo = bc) (n2 : ¬ bo = iv) (n3 : ¬ bo = pc) (n4 : ¬ pc = bc) (hw : IntKind.i64.wrap (n + 1) = n') (k0 : (0 : Int) ≤ (i : Int)) (k1 : (i : Int) < (m : Int)) :
    Calls Try.prog 21 #[.pointer none, .int .i64 x, .pointer (some ⟨bo, 0, none⟩), .pointer (some ⟨bc, 0, none⟩), .pointer (some ⟨iv, 0, none⟩)] w
      fun e w' => e = .returned (.tuple #[]) ∧ Chg (fun b => b = bo ∨ b = pc) w w' ∧ w'.heap = ((w.setCell ⟨bo, 0, none⟩ (.int .i64 n')).setCell ⟨pc, i, none⟩ (.int .i64 n')).heap := by
  go_enter Try.func21, Try.ntmps21
  go_wp2
  go_end0
  refine ⟨rfl, ?_, ?_⟩
  · first
      | exact ((Chg.refl _ w).set (.inl (.inl rfl)) _ _).set (.inl (.inr rfl)) _ _
      | exact (((Chg.refl _ w).set (.inl (.inl rfl)) _ _).drew).set (.inl (.inr rfl)) _ _
      | exact (((Chg.refl _ w).drew).set (.inl (.inl rfl)) _ _).set (.inl (.inr rfl)) _ _
  · rfl

namespace DeepLay
/-- The function that hangs on the i-th token. -/
theorem told (D : DeepLay) (ok : D.Ok) (i : Nat) (hi : i < D.m) (x : Int) (w : World) (h : D.Count (i + 1) w) (hv : D.Vars w) :
    Calls Try.prog 21 (#[.pointer none, .int .i64 x] ++ D.cap i) w fun e w' => e = .returned (.tuple #[]) ∧ D.Count i w' ∧ Chg (fun b => b = D.bo ∨ b = D.pc) w w' := by
  have n1 : ¬ D.bo = D.bc := by have := ok.op; have := ok.pb; omega
  have n2 : ¬ D.bo = D.iv i := by have := ok.op; have := ok.pb; have := ok.bi i hi; omega
  have n3 : ¬ D.bo = D.pc := by have := ok.op; omega
  have n4 : ¬ D.pc = D.bc := by have := ok.pb; omega
  have hm := ok.m1
  refine (told_raw D.bo D.bc D.pc (D.iv i) D.m i ((D.m : Int) - (i + 1 : Nat)) ((D.m : Int) - i) x _ w (by rw [cell_of_block h.order]; rfl) (free_of_block h.order 0) (by rw [cell_of_block h.var]; rfl) (by rw [cell_of_block (hv i hi)]; rfl)
    ((cell_of_block h.cur _).trans (Array.getElem?_eq_getElem (by rw [turns_size]; exact hi))) (free_of_block h.cur i) n1 n2 n3 n4 (by rw [IntWalk.i64_in _ (by omega)]; omega) (by omega) (by omega)).mono ?_
  rintro e w' ⟨rfl, hc, hh⟩
  refine ⟨rfl, ⟨?_, ?_, ?_⟩, hc⟩
  · rw [hh, block_setCell_ne n3, block_setCell h.order]; rfl
  · rw [hh, block_setCell_ne (Ne.symm n4), block_setCell_ne (Ne.symm n1)]; exact h.var
  · rw [hh]
    have h1 : (w.setCell ⟨D.bo, 0, none⟩ (.int .i64 ((D.m : Int) - i))).heap[D.pc]? = _ := (block_setCell_ne (Ne.symm n3) _ _).trans h.cur
    rw [block_setCell h1, turns_put D.m i hi]

theorem not_part {D : DeepLay} (ok : D.Ok) {i j : Nat} (hj : j < D.m) (hij : j < i) {b : Nat} (hb : (D.T j).has b) : ¬ D.Part i b := by
  have hl := ok.lt j hj b hb
  rintro (⟨k, hk, hkm, hkb⟩ | rfl | rfl)
  · exact ok.dis j k hj hkm (by omega) b hb hkb
  · omega
  · have := ok.op; omega
theorem var_not_part {D : DeepLay} (ok : D.Ok) {i : Nat} {b : Nat} (hb : D.pc < b) : ¬ D.Part i b := by
  have := ok.op
  rintro (⟨k, hk, hkm, hkb⟩ | rfl | rfl)
  · have := ok.lt k hkm b hkb; omega
  · omega
  · omega

/-- From the i-th token down. -/
def Done (D : DeepLay) (i : Nat) (x : Int) (w w' : World) : Prop := D.Deads i x w' ∧ D.Count i w' ∧ D.Vars w' ∧ Chg (D.Part i) w w'

theorem shut_step {D : DeepLay} (ok : D.Ok) {i : Nat} (hi : i < D.m) {x : Int} {w w1 : World} (s : Shut w (D.T i) i x (D.lv i) (D.ps i) w1) (hl : D.Lives i w) (hc : D.Count D.m w) (hv : D.Vars w) :
    D.Lives (i + 1) w1 ∧ D.Count D.m w1 ∧ D.Vars w1 ∧ Chg (D.Part i) w w1 := by
  have hS : ∀ b, (b = (D.T i).R ∨ b = (D.T i).H) → (D.T i).has b := by rintro b (rfl | rfl) <;> simp [Tok.has]
  have hlt : ∀ b, (b = (D.T i).R ∨ b = (D.T i).H) → b < D.bo := fun b hb => ok.lt i hi b (hS b hb)
  have o1 := ok.op
  have o2 := ok.pb
  refine ⟨?_, ?_, ?_, ?_⟩
  · intro k hk hkm
    exact (hl k (by omega) hkm).shutOf s (fun b hb => ok.dis k i hkm hi (by omega) b hb)
  · exact hc.chg s.1 (fun h => by have := hlt _ h; omega) (fun h => by have := hlt _ h; omega) (fun h => by have := hlt _ h; omega)
  · exact hv.chg s.1 (fun k hk h => by have := hlt _ h; have := ok.bi k hk; omega)
  · exact s.1.mono fun b _ hb => .inl ⟨i, Nat.le_refl _, hi, hS b hb⟩

theorem told_step {D : DeepLay} (ok : D.Ok) {i : Nat} {x : Int} {w w1 w2 : World} (hd : D.Deads i x w1) (hv : D.Vars w1) (h0 : Chg (D.Part i) w w1) (hc : D.Count i w2) (h2 : Chg (fun b => b = D.bo ∨ b = D.pc) w1 w2) : D.Done i x w w2 := by
  have o1 := ok.op
  have o2 := ok.pb
  refine ⟨?_, hc, ?_, h0.trans (h2.mono fun b _ hb => .inr hb)⟩
  · intro k hk hkm
    exact (hd k hk hkm).chg h2 (fun b hb e => by have := ok.lt k hkm b hb; rcases e with rfl | rfl <;> omega)
  · exact hv.chg h2 (fun k hk h => by have := ok.bi k hk; rcases h with h | h <;> omega)

theorem deep_cancel (D : DeepLay) (ok : D.Ok) (x : Int) (hx : 1 ≤ x) (d : Nat) : ∀ i, i + d + 1 = D.m → ∀ w, D.Lives i w → D.Count D.m w → D.Vars w →
    Calls Try.prog 22 #[.pointer (some (D.kid i)), .pointer none, .int .i64 x] w fun e w' => e = .returned (.bool true) ∧ D.Done i x w w' := by
  induction d with
  | zero =>
    intro i hi w hl hc hv
    have him : i < D.m := by omega
    have hlv : D.lv i = 1 := by unfold lv; rw [if_neg (by omega)]
    have ht := hl i (Nat.le_refl _) him
    rw [hlv] at ht
    refine cancel_f (D.T i) i 1 1 x (D.ps i) w ht (ok.apart i him) hx (by rfl) (D.cap i) (ok.last i (by omega)) (fun w' => D.Done i x w w') ?_
    intro w1 s
    rw [← hlv] at s
    obtain ⟨_, h2, h3, h4⟩ := shut_step ok him s hl hc hv
    refine (told D ok i him x w1 (by rw [show i + 1 = D.m by omega]; exact h2) h3).mono ?_
    rintro e w' ⟨rfl, g1, g2⟩
    refine ⟨rfl, told_step ok ?_ h3 h4 g1 g2⟩
    intro k hk hkm
    rw [show k = i by omega]
    exact s.2
  | succ d ih =>
    intro i hi w hl hc hv
    have him : i < D.m := by omega
    have hlv : D.lv i = 2 := by unfold lv; rw [if_pos (by omega)]
    have ht := hl i (Nat.le_refl _) him
    rw [hlv] at ht
    have o1 := ok.op
    have o2 := ok.pb
    have hbo := lt_of_block hc.order
    have hpc := lt_of_block hc.cur
    refine cancel_cf (D.T i) i 2 2 x (D.ps i) w ht (ok.apart i him) hx (by rfl) (D.kid (i + 1)) (D.cap i) (ok.chain i (by omega)) (D.Part (i + 1)) ?_
      (fun w' => D.Deads i x w' ∧ D.Count (i + 1) w' ∧ D.Vars w' ∧ Chg (D.Part i) w w') (fun w' => D.Done i x w w') ?_ ?_ ?_
    · rintro b (⟨k, hk, hkm, hkb⟩ | rfl | rfl)
      · exact (hl k (by omega) hkm).lt hkb
      · exact hbo
      · exact hpc
    · intro w1 s
      rw [← hlv] at s
      obtain ⟨h1, h2, h3, h4⟩ := shut_step ok him s hl hc hv
      refine (ih (i + 1) (by omega) w1 h1 h2 h3).mono ?_
      rintro e w' ⟨rfl, g1, g2, g3, g4⟩
      refine ⟨⟨_, rfl⟩, ⟨?_, g2, g3, h4.trans (g4.mono fun b _ hb => ?_)⟩, g4⟩
      · intro k hk hkm
        by_cases hki : k = i
        · subst hki
          exact s.2.chg g4 (fun b hb => not_part ok hkm (by omega) hb)
        · exact g1 k (by omega) hkm
      · rcases hb with ⟨k, hk, hkm, hkb⟩ | hb
        · exact .inl ⟨k, by omega, hkm, hkb⟩
        · exact .inr hb
    · rintro w1 w2 ⟨g1, g2, g3, g4⟩ c
      exact ⟨fun k hk hkm => (g1 k hk hkm).chg c (fun _ _ x => x), g2.chg c (fun x => x) (fun x => x) (fun x => x), g3.chg c (fun _ _ x => x), g4.trans (c.mono fun _ _ x => x.elim)⟩
    · rintro w1 ⟨g1, g2, g3, g4⟩
      refine (told D ok i him x w1 g2 g3).mono ?_
      rintro e w' ⟨rfl, k1, k2⟩
      exact ⟨rfl, told_step ok g1 g3 g4 k1 k2⟩
end DeepLay
end Go.Proofs.Ytjbhhoajpahdlaa
