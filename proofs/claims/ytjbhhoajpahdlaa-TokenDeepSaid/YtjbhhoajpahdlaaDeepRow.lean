/- The rows that treadlelaw11.TokenDeep builds: its tokens, then the functions that hang on them. No walk. -/
import Derived.Test.YtjbhhoajpahdlaaDeepCancel
namespace Go.Proofs.Ytjbhhoajpahdlaa
open Go.RowKit

theorem Chg.of_grown {w w' : World} {row : Option Nat} (h : w.grownBy w' row) : Chg (fun b => some b = row) w w' :=
  ⟨h.os, h.tape, h.output, h.size, h.block⟩

theorem row_chg {w w' : World} {base : Nat} {e : TypeId} {size : Nat} {v : Value} {n : Nat} {xs : List Value} {S : Nat → Prop} (h : w.ownsRow base e size v n xs) (c : Chg S w w') (hs : ∀ b, S b → some b ≠ v.ownBlock) : w'.ownsRow base e size v n xs := by
  refine ⟨h.1, ?_⟩
  rcases h.2 with hn | ⟨g, cap, cur, rfl, hb, hg, rest⟩
  · exact .inl hn
  · refine .inr ⟨g, cap, cur, rfl, hb, ?_, rest⟩
    rw [c.block g (lt_of_block hg) (fun hS => hs g hS rfl)]
    exact hg

theorem row_slice {W : World} {base : Nat} {e : TypeId} {size : Nat} {v : Value} {k : Nat} {xs : List Value} (h : W.ownsRow base e size v (k + 1) xs) : ∃ g cap, v = .slice (some ⟨g, 0, none⟩) (k + 1) cap := by
  rcases h.2 with ⟨_, h0⟩ | ⟨g, cap, _, rfl, _⟩
  · omega
  · exact ⟨g, cap, rfl⟩

theorem TokIs.not_row {w : World} {T : Tok} {d r lv hv : Int} {ps : Array Value} (h : TokIs w T d r lv hv ps) {base n : Nat} {v : Value} {xs : List Value} (hr : w.ownsRow base 39 1 v n xs) {b : Nat} (hb : T.has b) : some b ≠ v.ownBlock := by
  rcases hr.2 with ⟨rfl, _⟩ | ⟨g, cap, cur, rfl, _, hg, _⟩
  · simp [Value.ownBlock]
  · intro e
    have e : b = g := by simpa [Value.ownBlock] using e
    subst e
    rcases hb with rfl | rfl | rfl | rfl | rfl | rfl
    · rw [h.tok] at hg; simp at hg
    · have := h.reason; unfold CellIs at this; rw [this] at hg; simp at hg
    · rw [h.list.list] at hg; simp at hg
    · have := h.list.last; unfold CellIs at this; rw [this] at hg; simp at hg
    · have := h.list.head; unfold CellIs at this; rw [this] at hg; simp at hg
    · rw [h.list.places] at hg; simp at hg

def kidOf (T : Nat → Tok) (n k : Nat) : Option Addr := if k + 1 < n then some ⟨(T (k + 1)).tb, 0, none⟩ else none
def P0 : Option Addr → Array Value
  | none => eplaces
  | some c => ((eplaces.setIfInBounds (1 * 3) (.pointer (some c))).setIfInBounds (1 * 3 + 1) .nilFunc).setIfInBounds (1 * 3 + 2) (.int .i64 0)
def L0 : Option Addr → Nat
  | none => 0
  | some _ => 1
theorem L0_le (c : Option Addr) : L0 c ≤ 1 := by cases c <;> simp [L0]
def P1 (c : Option Addr) (f : Value) : Array Value := (((P0 c).setIfInBounds ((L0 c + 1) * 3) (.pointer none)).setIfInBounds ((L0 c + 1) * 3 + 1) f).setIfInBounds ((L0 c + 1) * 3 + 2) (.int .i64 (L0 c))

/-- n tokens in a row, whose pointers lie in v. -/
structure KidRow (W w : World) (T : Nat → Tok) (n : Nat) (v : Value) : Prop where
  below : Below W.heap.size W w
  row : w.ownsRow W.heap.size 39 1 v n ((List.range n).map fun k => Value.pointer (some ⟨(T k).tb, 0, none⟩))
  apart : ∀ k, k < n → (T k).Apart
  dis : ∀ i k, i < n → k < n → i ≠ k → ∀ b, (T i).has b → ¬ (T k).has b
  lo : ∀ k, k < n → ∀ b, (T k).has b → W.heap.size ≤ b
  toks : ∀ k, k < n → TokIs w (T k) k 0 (L0 (kidOf T n k)) (L0 (kidOf T n k)) (P0 (kidOf T n k))

def upd (T : Nat → Tok) (n : Nat) (t : Tok) : Nat → Tok := fun k => if k = n then t else T k

theorem KidRow.next {W w w1 w2 : World} {T : Nat → Tok} {p : Nat} {v v' : Value} (h : KidRow W w T (p + 1) v) {T' : Tok}
    (c : Chg (fun b => b = (T p).L ∨ b = (T p).H ∨ b = (T p).pb) w w1) (h1 : TokIs w1 (T p) p 0 (1 : Nat) (1 : Nat) (P0 (some ⟨T'.tb, 0, none⟩))) (h2 : TokIs w1 T' ((p : Int) + 1) 0 0 0 eplaces) (ap : T'.Apart) (hin : ∀ b, T'.has b → w.heap.size ≤ b)
    (hown : (w1.alloc (.cells #[.pointer (some ⟨T'.tb, 0, none⟩)] 39)).ownsRow W.heap.size 39 1 v (p + 1) ((List.range (p + 1)).map fun k => Value.pointer (some ⟨(T k).tb, 0, none⟩)))
    (hown' : w2.ownsRow W.heap.size 39 1 v' (p + 1 + 1) (((List.range (p + 1)).map fun k => Value.pointer (some ⟨(T k).tb, 0, none⟩)) ++ [.pointer (some ⟨T'.tb, 0, none⟩)]))
    (hg : (w1.alloc (.cells #[.pointer (some ⟨T'.tb, 0, none⟩)] 39)).grownBy w2 v.ownBlock) :
    KidRow W w2 (upd T (p + 1) T') (p + 1 + 1) v' := by
  have hb := h.below.size
  have hS : ∀ b, (b = (T p).L ∨ b = (T p).H ∨ b = (T p).pb) → (T p).has b := by rintro b (rfl | rfl | rfl) <;> simp [Tok.has]
  have c1 : Chg (fun b => b = (T p).L ∨ b = (T p).H ∨ b = (T p).pb) w (w1.alloc (.cells #[.pointer (some ⟨T'.tb, 0, none⟩)] 39)) := c.alloc _
  have hsz := c1.size
  have up_lt : ∀ k, k < p + 1 → upd T (p + 1) T' k = T k := fun k hk => by unfold upd; rw [if_neg (by omega)]
  have up_eq : upd T (p + 1) T' (p + 1) = T' := by unfold upd; rw [if_pos rfl]
  -- a token that stands behind the append
  have keep : ∀ {t : Tok} {d r lv hv : Int} {ps : Array Value}, TokIs w1 t d r lv hv ps → TokIs w2 t d r lv hv ps := fun ht => by
    have ha := ht.chg (S := fun _ => False) ((Chg.refl _ w1).alloc (.cells #[.pointer (some ⟨T'.tb, 0, none⟩)] 39)) (fun _ _ x => x)
    exact ha.chg (Chg.of_grown hg) (fun b hb => ha.not_row hown hb)
  have hold : ∀ k, k < p + 1 → ∀ b, (T k).has b → b < w.heap.size := fun k hk b hb => (h.toks k hk).lt hb
  refine ⟨?_, ?_, ?_, ?_, ?_, ?_⟩
  · refine (h.below.trans (c1.to_below hb fun b hb => h.lo p (by omega) b (hS b hb))).grown hg (by omega) (fun k hk => (hown.lt k hk).1)
  · rw [List.range_succ, List.map_append]
    have e1 : ((List.range (p + 1)).map fun k => Value.pointer (some ⟨(upd T (p + 1) T' k).tb, 0, none⟩)) = (List.range (p + 1)).map fun k => Value.pointer (some ⟨(T k).tb, 0, none⟩) := by
      apply List.map_congr_left
      intro k hk
      rw [up_lt k (List.mem_range.1 hk)]
    rw [e1]
    simpa [up_eq] using hown'
  · intro k hk
    by_cases hk' : k < p + 1
    · rw [up_lt k hk']; exact h.apart k hk'
    · rw [show k = p + 1 by omega, up_eq]; exact ap
  · intro i k hi hk hik b hb1 hb2
    by_cases hi' : i < p + 1
    · rw [up_lt i hi'] at hb1
      by_cases hk' : k < p + 1
      · rw [up_lt k hk'] at hb2
        exact h.dis i k hi' hk' hik b hb1 hb2
      · rw [show k = p + 1 by omega, up_eq] at hb2
        have := hold i hi' b hb1; have := hin b hb2; omega
    · rw [show i = p + 1 by omega, up_eq] at hb1
      rw [up_lt k (by omega)] at hb2
      have := hold k (by omega) b hb2; have := hin b hb1; omega
  · intro k hk b hb1
    by_cases hk' : k < p + 1
    · rw [up_lt k hk'] at hb1; exact h.lo k hk' b hb1
    · rw [show k = p + 1 by omega, up_eq] at hb1; have := hin b hb1; omega
  · intro k hk
    by_cases hk0 : k < p
    · have e : kidOf (upd T (p + 1) T') (p + 1 + 1) k = kidOf T (p + 1) k := by
        unfold kidOf; rw [if_pos (by omega), if_pos (by omega), up_lt _ (by omega)]
      rw [e, up_lt k (by omega)]
      exact keep ((h.toks k (by omega)).chg c (fun b hb e => h.dis k p (by omega) (by omega) (by omega) b hb (hS b e)))
    · by_cases hk1 : k = p
      · subst hk1
        have e : kidOf (upd T (k + 1) T') (k + 1 + 1) k = some ⟨T'.tb, 0, none⟩ := by
          unfold kidOf; rw [if_pos (by omega), up_eq]
        rw [e, up_lt k (by omega)]
        exact keep h1
      · have hk2 : k = p + 1 := by omega
        subst hk2
        have e : kidOf (upd T (p + 1) T') (p + 1 + 1) (p + 1) = none := by
          unfold kidOf; rw [if_neg (by omega)]
        rw [e, up_eq]
        exact keep (by simpa [L0, P0] using h2)

theorem KidRow.first {W w1 : World} {T' : Tok} (hB : Below W.heap.size W w1) (h : TokIs w1 T' 0 0 0 0 eplaces) (ap : T'.Apart) (hin : ∀ b, T'.has b → W.heap.size ≤ b) :
    KidRow W (w1.alloc (.cells #[.pointer (some ⟨T'.tb, 0, none⟩)] 39)) (fun _ => T') 1 (.slice (some ⟨w1.heap.size, 0, none⟩) 1 1) := by
  refine ⟨hB.alloc hB.size _, ⟨by simp, .inr ⟨w1.heap.size, 1, _, rfl, hB.size, block_alloc_new _ _, by omega, by unfold maxLen; omega, by simp, by simp⟩⟩, fun _ _ => ap, fun i k hi hk hik => by omega, fun _ _ => hin, ?_⟩
  intro k hk
  have : k = 0 := by omega
  subst this
  have := h.chg (S := fun _ => False) ((Chg.refl _ w1).alloc (.cells #[.pointer (some ⟨T'.tb, 0, none⟩)] 39)) (fun _ _ x => x)
  simpa [kidOf, L0, P0] using this

def fnOf (bo bc iv : Nat) : Value := .func (.func 21) #[] #[.pointer (some ⟨bo, 0, none⟩), .pointer (some ⟨bc, 0, none⟩), .pointer (some ⟨iv, 0, none⟩)]

def layOf (T : Nat → Tok) (n bo bc pc : Nat) (iv : Nat → Nat) : DeepLay := ⟨n, T, fun k => P1 (kidOf T n k) (fnOf bo bc (iv k)), iv, bo, bc, pc⟩

theorem chain_two (c : Addr) (bo bc iv : Nat) : EChain (P1 (some c) (fnOf bo bc iv)) 65 2 [(none, fnOf bo bc iv), (some c, .nilFunc)] :=
  .cons 2 _ _ 1 _ (by omega) (by omega) (.inr ⟨_, _, _, rfl⟩) (by simp [P1, P0, L0, eplaces, madeCells]) (by simp [P1, P0, L0, eplaces, madeCells]) (by simp [P1, P0, L0, eplaces, madeCells])
    (.cons 1 _ _ 0 [] (by omega) (by omega) (.inl rfl) (by simp [P1, P0, L0, eplaces, madeCells]) (by simp [P1, P0, L0, eplaces, madeCells]) (by simp [P1, P0, L0, eplaces, madeCells]) .nil)
theorem chain_one (bo bc iv : Nat) : EChain (P1 none (fnOf bo bc iv)) 65 1 [(none, fnOf bo bc iv)] :=
  .cons 1 _ _ 0 [] (by omega) (by omega) (.inr ⟨_, _, _, rfl⟩) (by simp [P1, P0, L0, eplaces, madeCells]) (by simp [P1, P0, L0, eplaces, madeCells]) (by simp [P1, P0, L0, eplaces, madeCells]) .nil

/-- h of the n tokens bear a function. -/
structure HungRow (W w : World) (T : Nat → Tok) (n : Nat) (v : Value) (bo bc pc : Nat) (iv : Nat → Nat) (h : Nat) : Prop where
  below : Below W.heap.size W w
  row : w.ownsRow W.heap.size 39 1 v n ((List.range n).map fun k => Value.pointer (some ⟨(T k).tb, 0, none⟩))
  apart : ∀ k, k < n → (T k).Apart
  dis : ∀ i k, i < n → k < n → i ≠ k → ∀ b, (T i).has b → ¬ (T k).has b
  lo : ∀ k, k < n → ∀ b, (T k).has b → W.heap.size ≤ b
  lt : ∀ i, i < n → ∀ b, (T i).has b → b < bo
  op : bo < pc
  pb : pc < bc
  bi : ∀ i, i ≤ h → bc < iv i
  bare : ∀ k, h ≤ k → k < n → TokIs w (T k) k 0 (L0 (kidOf T n k)) (L0 (kidOf T n k)) (P0 (kidOf T n k))
  hung : ∀ k, k < h → k < n → TokIs w (T k) k 0 (L0 (kidOf T n k) + 1 : Nat) (L0 (kidOf T n k) + 1 : Nat) (P1 (kidOf T n k) (fnOf bo bc (iv k)))
  order : w.heap[bo]? = some (.cells #[.int .i64 0] 3)
  var : w.heap[bc]? = some (.cells #[.slice (some ⟨pc, 0, none⟩) n n] 44)
  cur : w.heap[pc]? = some (.cells (DeepLay.turns n n) 3)
  vars : ∀ k, k ≤ h → w.heap[iv k]? = some (.cells #[.int .i64 k] 3)

theorem HungRow.next {W w w2 w3 : World} {T : Nat → Tok} {n : Nat} {v : Value} {bo bc pc : Nat} {iv : Nat → Nat} {h : Nat} (H : HungRow W w T n v bc bo pc iv h) (hn : h < n) (nb : Nat)
    (c : Chg (fun b => b = (T h).L ∨ b = (T h).H ∨ b = (T h).pb) w w2) (h1 : TokIs w2 (T h) h 0 (L0 (kidOf T n h) + 1 : Nat) (L0 (kidOf T n h) + 1 : Nat) (P1 (kidOf T n h) (fnOf bc bo (iv h))))
    (c3 : Chg (fun _ => False) w2 w3) (hnb : w2.heap.size ≤ nb) (h3 : w3.heap[nb]? = some (.cells #[.int .i64 ((h : Int) + 1)] 3)) :
    HungRow W w3 T n v bc bo pc (fun k => if k = h + 1 then nb else iv k) (h + 1) := by
  have hS : ∀ b, (b = (T h).L ∨ b = (T h).H ∨ b = (T h).pb) → (T h).has b := by rintro b (rfl | rfl | rfl) <;> simp [Tok.has]
  have hb := H.below.size
  have hl : ∀ b, (b = (T h).L ∨ b = (T h).H ∨ b = (T h).pb) → b < bc := fun b hb => H.lt h hn b (hS b hb)
  have o1 := H.op
  have o2 := H.pb
  have c03 : Chg (fun b => b = (T h).L ∨ b = (T h).H ∨ b = (T h).pb) w w3 := c.trans (c3.mono fun _ _ x => x.elim)
  have ivo : ∀ k, k ≤ h → (if k = h + 1 then nb else iv k) = iv k := fun k hk => if_neg (by omega)
  have keep : ∀ {b : Nat} {o : Obj}, w.heap[b]? = some o → bc ≤ b → w3.heap[b]? = some o := fun {b} {o} e hbb => (c03.block _ (lt_of_block e) (fun hs => by have := hl _ hs; omega)).trans e
  refine ⟨?_, ?_, H.apart, H.dis, H.lo, H.lt, o1, o2, ?_, ?_, ?_, keep H.order (Nat.le_refl _), keep H.var (by omega), keep H.cur (by omega), ?_⟩
  · exact H.below.trans (c03.to_below hb fun b hb => H.lo h hn b (hS b hb))
  · exact row_chg H.row c03 (fun b hb => (H.bare h (Nat.le_refl _) hn).not_row H.row (hS b hb))
  · intro i hi
    by_cases hi' : i ≤ h
    · rw [ivo i hi']; exact H.bi i hi'
    · rw [if_pos (by omega)]
      have := lt_of_block H.var
      have := c.size
      omega
  · intro k hk hkn
    exact (H.bare k (by omega) hkn).chg c03 (fun b hb e => H.dis k h hkn hn (by omega) b hb (hS b e))
  · intro k hk hkn
    rw [ivo k (by omega)]
    by_cases hk' : k = h
    · subst hk'
      exact h1.chg c3 (fun _ _ x => x)
    · exact (H.hung k (by omega) hkn).chg c03 (fun b hb e => H.dis k h hkn hn (by omega) b hb (hS b e))
  · intro k hk
    by_cases hk' : k ≤ h
    · rw [ivo k hk']; exact keep (H.vars k hk') (by have := H.bi k hk'; omega)
    · have : k = h + 1 := by omega
      subst this
      rw [if_pos rfl]
      simpa using h3

/-- What Cancel left: the tokens from the c-th on have the reason, and their functions were called. -/
structure EndRow (W w : World) (T : Nat → Tok) (n : Nat) (v : Value) (bc pc c : Nat) (x : Int) : Prop where
  below : Below W.heap.size W w
  row : w.ownsRow W.heap.size 39 1 v n ((List.range n).map fun k => Value.pointer (some ⟨(T k).tb, 0, none⟩))
  toks : ∀ k, k < n → ∃ lv hv ps, TokIs w (T k) k (if c ≤ k then x else 0) lv hv ps
  var : w.heap[bc]? = some (.cells #[.slice (some ⟨pc, 0, none⟩) n n] 44)
  cur : w.heap[pc]? = some (.cells (DeepLay.turns n c) 3)

theorem HungRow.lay {W w : World} {T : Nat → Tok} {n : Nat} {v : Value} {bo bc pc : Nat} {iv : Nat → Nat} (H : HungRow W w T n v bo bc pc iv n) (hn : n ≤ 65) :
    (layOf T n bo bc pc iv).Ok ∧ (layOf T n bo bc pc iv).Lives 0 w ∧ (layOf T n bo bc pc iv).Count n w ∧ (layOf T n bo bc pc iv).Vars w := by
  refine ⟨⟨hn, H.apart, H.dis, H.lt, H.op, H.pb, fun i hi => H.bi i (Nat.le_of_lt hi), ?_, ?_⟩, ?_, ⟨?_, H.var, H.cur⟩, fun k hk => H.vars k (Nat.le_of_lt hk)⟩
  · intro i hi
    have hi : i + 1 < n := hi
    show EChain (P1 (kidOf T n i) (fnOf bo bc (iv i))) 65 2 _
    rw [show kidOf T n i = some ⟨(T (i + 1)).tb, 0, none⟩ from if_pos hi]
    exact chain_two _ _ _ _
  · intro i hi
    have hi : i + 1 = n := hi
    show EChain (P1 (kidOf T n i) (fnOf bo bc (iv i))) 65 1 _
    rw [show kidOf T n i = none from if_neg (by omega)]
    exact chain_one _ _ _
  · intro k _ hk
    have hk : k < n := hk
    have e : (layOf T n bo bc pc iv).lv k = ((L0 (kidOf T n k) + 1 : Nat) : Int) := by
      unfold DeepLay.lv layOf kidOf
      by_cases h : k + 1 < n
      · simp [h, L0]
      · simp [h, L0]
    rw [e]
    exact H.hung k hk hk
  · have := H.order
    simpa [layOf] using this

theorem HungRow.small {W w : World} {T : Nat → Tok} {n : Nat} {v : Value} {bo bc pc : Nat} {iv : Nat → Nat} (H : HungRow W w T n v bo bc pc iv n) (x : Int) : EndRow W w T n v bc pc n x :=
  ⟨H.below, H.row, fun k hk => ⟨_, _, _, by rw [if_neg (by omega)]; exact H.hung k hk hk⟩, H.var, H.cur⟩

theorem HungRow.told {W w w' : World} {T : Nat → Tok} {n : Nat} {v : Value} {bo bc pc : Nat} {iv : Nat → Nat} (H : HungRow W w T n v bo bc pc iv n) (hn : n ≤ 65) (hW : W.heap.size ≤ bo) {y : Nat} {x : Int}
    (hd : (layOf T n bo bc pc iv).Done y x w w') : EndRow W w' T n v bc pc y x := by
  have ok := (H.lay hn).1
  obtain ⟨d1, d2, d3, d4⟩ := hd
  have o1 := H.op
  have hpt : ∀ b, (layOf T n bo bc pc iv).Part y b → W.heap.size ≤ b := by
    rintro b (⟨k, _, hk, hb⟩ | hb | hb)
    · exact H.lo k hk b hb
    · rw [hb]; exact hW
    · rw [hb]; show W.heap.size ≤ pc; omega
  refine ⟨H.below.trans (d4.to_below H.below.size hpt), ?_, ?_, d2.var, d2.cur⟩
  · refine row_chg H.row d4 ?_
    rintro b (⟨k, _, hk, hb⟩ | hb | hb)
    · exact (H.hung k hk hk).not_row H.row hb
    · intro e
      rcases H.row.2 with ⟨rfl, _⟩ | ⟨g, cap, cur, rfl, _, hg, _⟩
      · simp [Value.ownBlock] at e
      · have e : bo = g := by rw [hb] at e; simpa [Value.ownBlock, layOf] using e
        subst e
        have := H.order
        rw [this] at hg
        simp at hg
    · intro e
      rcases H.row.2 with ⟨rfl, _⟩ | ⟨g, cap, cur, rfl, _, hg, _⟩
      · simp [Value.ownBlock] at e
      · have e : pc = g := by rw [hb] at e; simpa [Value.ownBlock, layOf] using e
        subst e
        have := H.cur
        rw [this] at hg
        simp at hg
  · intro k hk
    by_cases hyk : y ≤ k
    · rw [if_pos hyk]; exact ⟨_, _, _, d1 k hyk hk⟩
    · rw [if_neg hyk]
      exact ⟨_, _, _, (H.hung k hk hk).chg d4 (fun b hb => DeepLay.not_part ok hk (by omega) hb)⟩

theorem turns_zero (n : Nat) : DeepLay.turns n n = madeCells #[Value.int .i64 0] n := by
  apply Array.ext_getElem?
  intro k
  by_cases hk : k < n
  · have : ¬ n ≤ k := by omega
    simp [DeepLay.turns, madeCells, hk, this, Nat.mod_one]
  · simp [DeepLay.turns, madeCells, hk]

theorem KidRow.hang {W w w' : World} {T : Nat → Tok} {n : Nat} {v : Value} (h : KidRow W w T n v) (iv0 : Nat) (bo bc pc : Nat) (c : Chg (fun _ => False) w w') (b0 : w.heap.size ≤ bo) (op : bo < pc) (pb : pc < bc) (bi : bc < iv0)
    (o : w'.heap[bo]? = some (.cells #[.int .i64 0] 3)) (var : w'.heap[bc]? = some (.cells #[.slice (some ⟨pc, 0, none⟩) n n] 44)) (cur : w'.heap[pc]? = some (.cells (madeCells #[Value.int .i64 0] n) 3)) (i0 : w'.heap[iv0]? = some (.cells #[.int .i64 0] 3)) :
    HungRow W w' T n v bo bc pc (fun _ => iv0) 0 :=
  ⟨h.below.trans (c.to_below h.below.size fun _ x => x.elim), row_chg h.row c (fun _ x => x.elim), h.apart, h.dis, h.lo, fun i hi b hb => by have := (h.toks i hi).lt hb; omega, op, pb, fun _ _ => bi,
    fun k _ hk => (h.toks k hk).chg c (fun _ _ x => x), fun k hk => by omega, o, var, by rw [turns_zero]; exact cur, fun k hk => by
      have e : k = 0 := by omega
      rw [e]; exact i0⟩
end Go.Proofs.Ytjbhhoajpahdlaa
