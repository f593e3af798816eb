/- (*list.List).row at int64, for a call entered alone: the values up to a place, the first one that was put on first; and Close over it. -/
import Derived.Test.YtjbhhoajpahdlaaListAdd
import Derived.Deep.LoopGhost
import Derived.Laws.AppendOwn
import Derived.OwnWalk
namespace Go.Proofs.Ytjbhhoajpahdlaa
open Go.RowKit

/-- From place k on the places lead, newest first, over these values to the bottom. -/
inductive Chain (ps : Array Value) (n : Nat) : Int → List Int → Prop
  | nil : Chain ps n 0 []
  | cons (k : Nat) (v h : Int) (l : List Int) : 0 < k → k < n → ps[k * 2]? = some (.int .i64 v) → ps[k * 2 + 1]? = some (.int .i64 h) → Chain ps n h l → Chain ps n k (v :: l)

/-- The list in the midst of being turned round: its first i and last i values stand turned. -/
def turned (xs : List Int) (i : Nat) : List Int := (List.range xs.length).map fun p => if p < i ∨ xs.length ≤ p + i then xs.getD (xs.length - 1 - p) 0 else xs.getD p 0
theorem turned_length (xs : List Int) (i : Nat) : (turned xs i).length = xs.length := by simp [turned]
theorem turned_get (xs : List Int) (i p : Nat) (hp : p < xs.length) : (turned xs i)[p]? = some (if p < i ∨ xs.length ≤ p + i then xs.getD (xs.length - 1 - p) 0 else xs.getD p 0) := by
  simp [turned, hp]
theorem turned_zero (xs : List Int) : turned xs 0 = xs := by
  apply List.ext_getElem?
  intro p
  by_cases hp : p < xs.length
  · rw [turned_get xs 0 p hp, if_neg (by omega)]; simp [hp]
  · rw [List.getElem?_eq_none (by rw [turned_length]; omega), List.getElem?_eq_none (by omega)]
theorem turned_half (xs : List Int) (i : Nat) (h : xs.length ≤ 2 * i + 1) : turned xs i = xs.reverse := by
  apply List.ext_getElem?
  intro p
  by_cases hp : p < xs.length
  · rw [turned_get xs i p hp, List.getElem?_reverse hp]
    by_cases hc : p < i ∨ xs.length ≤ p + i
    · rw [if_pos hc]; simp; rw [List.getElem?_eq_getElem (by omega)]; simp
    · rw [if_neg hc, show xs.length - 1 - p = p by omega]; simp [hp]
  · rw [List.getElem?_eq_none (by rw [turned_length]; omega), List.getElem?_eq_none (by simp; omega)]
theorem turned_step (xs : List Int) (i : Nat) (h : 2 * i + 1 < xs.length) :
    turned xs (i + 1) = ((turned xs i).set i (xs.getD (xs.length - 1 - i) 0)).set (xs.length - 1 - i) (xs.getD i 0) := by
  apply List.ext_getElem?
  intro p
  by_cases hp : p < xs.length
  · rw [turned_get xs (i + 1) p hp, List.getElem?_set, List.getElem?_set, turned_get xs i p hp]
    simp only [List.length_set, turned_length]
    by_cases h1 : xs.length - 1 - i = p
    · subst h1
      rw [if_pos rfl, if_pos (by omega), if_pos (by omega), show xs.length - 1 - (xs.length - 1 - i) = i by omega]
    · rw [if_neg h1]
      by_cases h2 : i = p
      · subst h2
        rw [if_pos rfl, if_pos (by omega), if_pos (by omega)]
      · rw [if_neg h2]
        by_cases hc : p < i ∨ xs.length ≤ p + i
        · rw [if_pos hc, if_pos (by omega)]
        · rw [if_neg hc, if_neg (by omega)]
  · rw [List.getElem?_eq_none (by rw [turned_length]; omega), List.getElem?_eq_none (by simp [turned_length]; omega)]

set_option maxRecDepth 100000 in
set_option maxHeartbeats 1600000 in
theorem rev_any (base g cap : Nat) (xs : List Int) (w : World) (h : w.ownsRow base 2 1 (.slice (some ⟨g, 0, none⟩) xs.length cap) xs.length (xs.map (Value.int .i64))) (hl : xs.length ≤ 1000000) (hpos : 0 < xs.length) :
    Calls Try.prog 113 #[.slice (some ⟨g, 0, none⟩) xs.length cap] w fun e w' => e = .returned (.tuple #[]) ∧
      w'.ownsRow base 2 1 (.slice (some ⟨g, 0, none⟩) xs.length cap) xs.length (xs.reverse.map (Value.int .i64)) ∧ Below base w w' := by
  have hbg : base ≤ g := (h.lt g rfl).1
  go_enter Try.func113, Try.ntmps113
  go_wp2
  go_loopw [2, 3] (fun iv jv wr => ∃ i j : Nat, iv = .int .i64 i ∧ jv = .int .i64 j ∧ Hid (i + j + 1 = xs.length) ∧ wr.ownsRow base 2 1 (.slice (some ⟨g, 0, none⟩) xs.length cap) xs.length ((turned xs i).map (Value.int .i64)) ∧ Below base w wr) (fun iv _ _ => xs.length - (intOf iv).toNat)
  case atStart =>
    exact ⟨0, xs.length - 1, rfl, by congr 1; omega, by unfold Hid; omega, by rw [turned_zero]; exact h, Below.refl _ _⟩
  case round =>
    obtain ⟨i, j, rfl, rfl, hij, hown, hb⟩ := hrel
    have hi : i < xs.length := by have := hij.out; omega
    have hj : j < xs.length := by have := hij.out; omega
    by_cases hlt : (i : Int) < (j : Int)
    · have ci : wr.cell? ⟨g, i, none⟩ = some (.int .i64 (xs.getD i 0)) := by
        rw [hown.cellAt i (by omega), List.getElem?_map, turned_get xs i i hi, if_neg (by have := hij.out; omega)]; rfl
      have cj : wr.cell? ⟨g, j, none⟩ = some (.int .i64 (xs.getD j 0)) := by
        rw [hown.cellAt j (by omega), List.getElem?_map, turned_get xs i j hj, if_neg (by have := hij.out; omega)]; rfl
      have fi := hown.frozenAt i
      have fj := hown.frozenAt j
      have i0 : (0 : Int) ≤ (i : Int) := by omega
      have i1 : (i : Int) < (xs.length : Int) := by omega
      have j0 : (0 : Int) ≤ (j : Int) := by omega
      have j1 : (j : Int) < (xs.length : Int) := by omega
      have HO := Lib.hid hown
      clear hown
      go_wp2
      go_region
      go_wp2
      go_roundw
      case rel =>
        have hown := HO.out
        have ej : xs.length - 1 - i = j := by have := hij.out; omega
        have h1 := ((hown.drew).stored i (.int .i64 (xs.getD j 0))).1
        have h2 := (h1.stored j (.int .i64 (xs.getD i 0))).1
        refine ⟨i + 1, j - 1, by go_num, by congr 1; omega, by have := hij.out; unfold Hid; omega, ?_, ((hb.drew).setCell hbg _).setCell hbg _⟩
        have e1 : xs.getD i 0 = xs[i] := by simp [hi]
        have e2 : xs.getD j 0 = xs[j] := by simp [hj]
        rw [turned_step xs i (by have := hij.out; omega), ej, List.map_set, List.map_set, e1, e2]
        rw [e1, e2] at h2
        exact h2
      case measure => simp [intOf]; omega
    · go_wp2
      go_end0
      refine ⟨rfl, ?_, hb⟩
      rw [turned_half xs i (by have := hij.out; omega)] at hown
      simpa using hown

structure RowRel (w wr : World) (lb pb n : Nat) (ps : Array Value) (k : Int) (v : Value) (acc rest : List Int) : Prop where
  chain : Chain ps n k rest
  own : wr.ownsRow w.heap.size 2 1 v acc.length (acc.map (Value.int .i64))
  below : Below w.heap.size w wr
  list : wr.cell? ⟨lb, 0 + 2, none⟩ = some (.slice (some ⟨pb, 0, none⟩) n n)
  places : wr.heap[pb]? = some (.cells ps 140)

theorem ownsRow_empty {w : World} {base : Nat} {e : TypeId} {v : Value} {n : Nat} (h : w.ownsRow base e 1 v n []) : n = 0 := by
  have := h.1; simp at this; omega

def RowDone (w : World) (l : List Int) (e : Ending) (w' : World) : Prop :=
  ∃ v, e = .returned v ∧ w'.ownsRow w.heap.size 2 1 v l.length (l.reverse.map (Value.int .i64)) ∧ Below w.heap.size w w'

set_option maxRecDepth 100000 in
set_option maxHeartbeats 1600000 in
theorem list_row (lb L H pb n : Nat) (lv hv k : Int) (l : List Int) (ps : Array Value) (w : World) (h : ListIs w lb L H pb n lv hv ps) (hc : Chain ps n k l) (hl : l.length ≤ 4097) (hl0 : 0 < l.length) :
    Calls Try.prog 62 #[.pointer (some ⟨lb, 0, none⟩), .int .i64 k] w (RowDone w l) := by
  obtain ⟨i0, hi, hz0, hz1, hz2⟩ := info_parts (show (Try.prog.info? 2).map (fun i => (i.zero, i.size, i.bytes)) = some (some (.int .i64 0), 1, 8) by kernel_rfl)
  have hlb := lt_of_block h.list
  have hpb := lt_of_block h.places
  have HL0 := Lib.hid hl0
  have HL := Lib.hid hl
  clear hl0 hl
  go_enter Try.func62, Try.ntmps62
  go_wp2
  go_loopg [1, 5] (l.length) (fun g kv v wr => ∃ (k : Int) (acc rest : List Int), kv = .int .i64 k ∧ RowRel w wr lb pb n ps k v acc rest ∧ g = rest.length ∧ acc ++ rest = l)
  case atStart =>
    exact ⟨k, [], l, rfl, ⟨hc, ⟨by simp, .inl ⟨rfl, rfl⟩⟩, Below.refl _ _, h.lcell.2.2, h.places⟩, rfl, rfl⟩
  case round =>
    obtain ⟨k, acc, rest, rfl, R, rfl, hacc⟩ := hrel
    cases R.chain with
    | nil =>
      have hacc' : acc = l := by simpa using hacc
      subst hacc'
      obtain ⟨g, cap, hv⟩ : ∃ g cap, u5 = .slice (some ⟨g, 0, none⟩) acc.length cap := by
        rcases R.own.2 with ⟨_, h0⟩ | ⟨g, cap, cur, hv, _⟩
        · have := HL0.out; omega
        · exact ⟨g, cap, hv⟩
      subst hv
      have hb := R.below
      have hbs := hb.size
      have RO := Lib.hid R.own
      clear R hacc hbs
      go_wp2_with fail
      refine (rev_any w.heap.size g cap acc _ RO.out (by have := HL.out; omega) HL0.out).mono ?_
      rintro e w1 ⟨rfl, ho, hb1⟩
      have HO := Lib.hid ho
      clear ho
      go_wp2
      go_ret
      exact ⟨_, rfl, HO.out, hb.trans hb1⟩
    | cons k v h' l' hk0 hkn hv hh hch =>
      have c2 := R.list
      have cv : wr.cell? ⟨pb, k * 2, none⟩ = some (.int .i64 v) := (cell_of_block R.places _).trans hv
      have ch : wr.cell? ⟨pb, k * 2 + 1, none⟩ = some (.int .i64 h') := (cell_of_block R.places _).trans hh
      have hne : ((k : Int) != 0) = true := by rw [bne_iff_ne]; omega
      have hlen : acc.length + 1 ≤ 4097 := by
        have := congrArg List.length hacc
        have hh := HL.out
        simp at this
        omega
      have hB : w.heap.size ≤ (wr.alloc (.cells #[.int .i64 v] 2)).heap.size := by
        have := R.below.size
        simp
        omega
      go_wp2_with (at_builtin; refine wpList_append_own _ rfl _ _ 31 rfl w.heap.size 2 i0 (.int .i64 0) 1 8 Try.underlying31 hi hz0 hz1 hz2 rfl (by decide) _ _ _ rfl (R.own.alloc _) ⟨wr.heap.size, 0, none⟩ 1 1 [.int .i64 v] rfl rfl ?c1 ?c2 ?c3 ?c4 hB ?_)
      case c1 =>
        intro j u hj
        match j, hj with
        | 0, hj => simp at hj; subst hj; simp [Addr.add]
      case c2 => intro u hu; simp at hu; subst hu; rfl
      case c3 => unfold maxLen; omega
      case c4 => omega
      · intro v' w1 hown' hgrow _
        have hb1 : Below w.heap.size w w1 := (R.below.alloc R.below.size _).grown hgrow hB (fun k hk => (R.own.lt k hk).1)
        have dp : w1.heap[pb]? = some (.cells ps 140) := (hb1.block pb hpb).trans ((R.below.block pb hpb).symm.trans R.places)
        have d2 : w1.cell? ⟨lb, 0 + 2, none⟩ = some (.slice (some ⟨pb, 0, none⟩) n n) := (hb1.cell (p := ⟨lb, 0 + 2, none⟩) hlb).trans ((R.below.cell (p := ⟨lb, 0 + 2, none⟩) hlb).symm.trans R.list)
        have ch1 : w1.cell? ⟨pb, k * 2 + 1, none⟩ = some (.int .i64 h') := (cell_of_block dp _).trans hh
        have R' : RowRel w w1 lb pb n ps h' v' (acc ++ [v]) l' := ⟨hch, by simpa using hown', hb1, d2, dp⟩
        have RH := Lib.hid R'
        clear R' R hown' hgrow hb1 dp c2 cv ch
        have HA := Lib.hid hacc
        clear hacc hh hv
        go_wp2
        go_roundg l'.length
        case measure => simp
        case rel => exact ⟨h', acc ++ [v], l', rfl, RH.out, rfl, by have := HA.out; simpa using this⟩

def CloseDone (w : World) (H : Nat) (l : List Int) (e : Ending) (w' : World) : Prop :=
  ∃ v, e = .returned (.tuple #[v, .int .i64 0]) ∧ w'.ownsRow w.heap.size 2 1 v l.length (l.reverse.map (Value.int .i64)) ∧ Below w.heap.size (w.setCell ⟨H, 0, none⟩ (.int .i64 (-1))) w'

theorem ListIs.shut {w : World} {lb L H pb n : Nat} {lv hv : Int} {ps : Array Value} (h : ListIs w lb L H pb n lv hv ps) (ap : Apart6 lb L H pb) (x : Int) : ListIs (w.setCell ⟨H, 0, none⟩ (.int .i64 x)) lb L H pb n lv x ps :=
  ⟨(block_setCell_ne ap.Hl.symm _ _).trans h.list, h.last.other ap.LH _ _, h.head.set x, (block_setCell_ne ap.Hp.symm _ _).trans h.places, h.size⟩

set_option maxRecDepth 100000 in
set_option maxHeartbeats 1600000 in
/-- Close of a list that is not closed, and not empty. -/
theorem list_close (lb L H pb n : Nat) (lv hv : Int) (l : List Int) (ps : Array Value) (w : World) (h : ListIs w lb L H pb n lv hv ps) (ap : Apart6 lb L H pb) (hc : Chain ps n hv l) (hl : l.length ≤ 4097) (hl0 : 0 < l.length) (hh : (hv == -1) = false) :
    Calls Try.prog 14 #[.pointer (some ⟨lb, 0, none⟩), .pointer none] w (CloseDone w H l) := by
  obtain ⟨c0, c1, c2⟩ := h.lcell
  have HL0 := Lib.hid hl0
  have HL := Lib.hid hl
  clear hl0 hl
  go_enter Try.func14, Try.ntmps14
  go_wp2_with (first | (go_at_call 58; refine (list_made lb L H pb n lv hv ps _ h).mono ?_; rintro e w' ⟨rfl, rfl⟩) | (go_at_call 61; refine (swap_is (-1) h.head).mono ?_; rintro e w' ⟨rfl, rfl⟩))
  refine (list_row lb L H pb n lv (-1) hv l ps _ (h.shut ap (-1)) hc HL.out HL0.out).mono ?_
  rintro e w1 ⟨v, rfl, ho, hb⟩
  have HO := Lib.hid ho
  clear ho
  go_wp2
  go_ret2
  exact ⟨_, rfl, by simpa using HO.out, by simpa using hb⟩
end Go.Proofs.Ytjbhhoajpahdlaa
