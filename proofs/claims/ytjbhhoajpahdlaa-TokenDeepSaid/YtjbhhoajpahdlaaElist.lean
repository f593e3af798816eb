/- Contracts of package list's functions at a token's entries, for a call entered alone, handed no thread. -/
import Derived.Test.YtjbhhoajpahdlaaListWorks
import Derived.Laws.EntriesVeiled
namespace Go.Proofs.Ytjbhhoajpahdlaa
open Go.RowKit

/-- What stands at a place: a child or a function, and the place ahead. -/
structure EList (w : World) (lb L H pb n : Nat) (lv hv : Int) (ps : Array Value) : Prop where
  list : w.heap[lb]? = some (.cells #[.pointer (some ⟨L, 0, none⟩), .pointer (some ⟨H, 0, none⟩), .slice (some ⟨pb, 0, none⟩) n n] 218)
  last : CellIs w L lv
  head : CellIs w H hv
  places : w.heap[pb]? = some (.cells ps 220)
  size : ps.size = 3 * n

set_option maxRecDepth 100000 in
theorem run_make_eplaces (n : Nat) (hn : n ≤ 4097) (w : World) :
    (Instr.makeSlice 216 (.int .i64 (n : Int)) (.int .i64 (n : Int))).run Try.prog w = .ok (.slice (some ⟨w.heap.size, 0, none⟩) n n) (w.alloc (.cells (madeCells #[.pointer none, .nilFunc, .int .i64 0] (n * 3)) 220)) := by
  obtain ⟨i, hi, hz⟩ := Option.map_eq_some_iff.1 (show (Try.prog.info? 220).map (fun i => (i.zero, i.size, i.bytes)) = some (some (.agg #[.pointer none, .nilFunc, .int .i64 0]), 3, 24) by kernel_rfl)
  simp only [Prod.mk.injEq] at hz
  obtain ⟨hz, hs, hb⟩ := hz
  have hr := run_make (P := Try.prog) w 216 220 i (.agg #[.pointer none, .nilFunc, .int .i64 0]) Try.underlying216 hi hz .i64 .i64 (n : Int) (n : Int) (by omega) (Int.le_refl _) (by rw [hb]; omega) (by omega)
  simp only [Int.toNat_natCast, hs] at hr
  exact hr

def eplaces : Array Value := madeCells #[.pointer none, .nilFunc, .int .i64 0] (65 * 3)

def NewEList (w : World) (e : Ending) (w' : World) : Prop :=
  ∃ lb L H pb : Nat, e = .returned (.pointer (some ⟨lb, 0, none⟩)) ∧ Below w.heap.size w w' ∧ EList w' lb L H pb 65 0 0 eplaces ∧ w.heap.size ≤ lb ∧ w.heap.size ≤ L ∧ w.heap.size ≤ H ∧ w.heap.size ≤ pb ∧ Apart6 lb L H pb ∧ lb < w'.heap.size ∧ L < w'.heap.size ∧ H < w'.heap.size ∧ pb < w'.heap.size

set_option maxRecDepth 100000 in
set_option maxHeartbeats 800000 in
theorem elist_new (w : World) :
    Calls Try.prog 63 #[.int .i64 64] w (NewEList w) := by
  have hmk : ∀ w, (Instr.makeSlice 216 (.int .i64 65) (.int .i64 65)).run Try.prog w = .ok (.slice (some ⟨w.heap.size, 0, none⟩) 65 65) (w.alloc (.cells eplaces 220)) := fun w => run_make_eplaces 65 (by omega) w
  have hwr : IntKind.i64.wrap 65 = 65 := by decide
  go_enter Try.func63, Try.ntmps63
  go_wp2
  go_region_with (go_at_call 40; refine (cell_new _ _).mono ?_; rintro e w' ⟨rfl, rfl⟩)
  all_goals (go_wp2; go_ret)
  · obtain ⟨h0, h1, h2, h3, hB⟩ := four_blocks w (.cells #[.int .i64 0, .bool true, .int .i32 0, .int .u32 0, .chan none] 184) (.cells #[.int .i64 0, .bool true, .int .i32 0, .int .u32 0, .chan none] 184) (.cells eplaces 220) (.cells #[.pointer (some ⟨w.heap.size, 0, none⟩), .pointer (some ⟨w.heap.size + 1, 0, none⟩), .slice (some ⟨w.heap.size + 1 + 1, 0, none⟩) 65 65] 218)
    exact ⟨w.heap.size + 1 + 1 + 1, w.heap.size, w.heap.size + 1, w.heap.size + 1 + 1, rfl, hB, ⟨h3, h0, h1, h2, by simp [eplaces, madeCells]⟩, by omega, by omega, by omega, by omega, ⟨by omega, by omega, by omega, by omega, by omega, by omega⟩, lt_of_block h3, lt_of_block h0, lt_of_block h1, lt_of_block h2⟩
  · obtain ⟨h0, h1, h2, h3, hB⟩ := four_blocks w (.cells #[.int .i64 0, .bool true, .int .i32 0, .int .u32 0, .chan none] 184) (.cells eplaces 220) (.cells #[.int .i64 0, .bool true, .int .i32 0, .int .u32 0, .chan none] 184) (.cells #[.pointer (some ⟨w.heap.size, 0, none⟩), .pointer (some ⟨w.heap.size + 1 + 1, 0, none⟩), .slice (some ⟨w.heap.size + 1, 0, none⟩) 65 65] 218)
    exact ⟨w.heap.size + 1 + 1 + 1, w.heap.size, w.heap.size + 1 + 1, w.heap.size + 1, rfl, hB, ⟨h3, h0, h2, h1, by simp [eplaces, madeCells]⟩, by omega, by omega, by omega, by omega, ⟨by omega, by omega, by omega, by omega, by omega, by omega⟩, lt_of_block h3, lt_of_block h0, lt_of_block h2, lt_of_block h1⟩
  · obtain ⟨h0, h1, h2, h3, hB⟩ := four_blocks w (.cells eplaces 220) (.cells #[.int .i64 0, .bool true, .int .i32 0, .int .u32 0, .chan none] 184) (.cells #[.int .i64 0, .bool true, .int .i32 0, .int .u32 0, .chan none] 184) (.cells #[.pointer (some ⟨w.heap.size + 1, 0, none⟩), .pointer (some ⟨w.heap.size + 1 + 1, 0, none⟩), .slice (some ⟨w.heap.size, 0, none⟩) 65 65] 218)
    exact ⟨w.heap.size + 1 + 1 + 1, w.heap.size + 1, w.heap.size + 1 + 1, w.heap.size, rfl, hB, ⟨h3, h1, h2, h0, by simp [eplaces, madeCells]⟩, by omega, by omega, by omega, by omega, ⟨by omega, by omega, by omega, by omega, by omega, by omega⟩, lt_of_block h3, lt_of_block h1, lt_of_block h2, lt_of_block h0⟩

theorem elist_made (lb L H pb n : Nat) (lv hv : Int) (ps : Array Value) (w : World) (h : EList w lb L H pb n lv hv ps) :
    Calls Try.prog 114 #[.pointer (some ⟨lb, 0, none⟩)] w fun e w' => e = .returned (.bool true) ∧ w = w' := by
  have c1 : w.cell? ⟨lb, 0 + 1, none⟩ = some (.pointer (some ⟨H, 0, none⟩)) := by rw [cell_of_block h.list]; rfl
  go_enter Try.func114, Try.ntmps114
  go_wp2
  go_ret
  exact ⟨rfl, rfl⟩

theorem EList.lcell {w : World} {lb L H pb n : Nat} {lv hv : Int} {ps : Array Value} (h : EList w lb L H pb n lv hv ps) : w.cell? ⟨lb, 0, none⟩ = some (.pointer (some ⟨L, 0, none⟩)) ∧ w.cell? ⟨lb, 0 + 1, none⟩ = some (.pointer (some ⟨H, 0, none⟩)) ∧ w.cell? ⟨lb, 0 + 2, none⟩ = some (.slice (some ⟨pb, 0, none⟩) n n) := by
  refine ⟨?_, ?_, ?_⟩ <;> (rw [cell_of_block h.list]; rfl)

/-- w' is w with new blocks, and with what stands in the old blocks of S turned. -/
structure Chg (S : Nat → Prop) (w w' : World) : Prop where
  os : w'.os = w.os
  tape : w'.tape = w.tape
  output : w'.output = w.output
  size : w.heap.size ≤ w'.heap.size
  block : ∀ b, b < w.heap.size → ¬ S b → w'.heap[b]? = w.heap[b]?
theorem Chg.refl (S : Nat → Prop) (w : World) : Chg S w w := ⟨rfl, rfl, rfl, Nat.le_refl _, fun _ _ _ => rfl⟩
theorem Chg.trans {S : Nat → Prop} {a b c : World} (h : Chg S a b) (k : Chg S b c) : Chg S a c :=
  ⟨k.os.trans h.os, k.tape.trans h.tape, k.output.trans h.output, Nat.le_trans h.size k.size, fun x hx hs => (k.block x (Nat.lt_of_lt_of_le hx h.size) hs).trans (h.block x hx hs)⟩
theorem Chg.mono {S S' : Nat → Prop} {w w' : World} (h : Chg S w w') (hs : ∀ b, b < w.heap.size → S b → S' b) : Chg S' w w' :=
  ⟨h.os, h.tape, h.output, h.size, fun b hb hn => h.block b hb fun x => hn (hs b hb x)⟩
theorem Chg.alloc {S : Nat → Prop} {a w : World} (h : Chg S a w) (o : Obj) : Chg S a (w.alloc o) :=
  h.trans ⟨rfl, rfl, rfl, by simp, fun b hb _ => block_alloc_lt hb o⟩
theorem Chg.drew {S : Nat → Prop} {a w : World} (h : Chg S a w) : Chg S a w.drew := ⟨h.os, h.tape, h.output, h.size, h.block⟩
theorem Chg.set {S : Nat → Prop} {a w : World} (h : Chg S a w) {b : Nat} (hb : S b ∨ a.heap.size ≤ b) (o : Nat) (v : Value) : Chg S a (w.setCell ⟨b, o, none⟩ v) :=
  ⟨h.os, h.tape, h.output, by simpa using h.size, fun x hx hs => (block_setCell_ne (fun e => by subst e; rcases hb with hb | hb; exact hs hb; omega) o v).trans (h.block x hx hs)⟩
theorem Chg.below {S : Nat → Prop} {a w w' : World} (h : Chg S a w) {B : Nat} (hb : Below B w w') (hB : a.heap.size ≤ B) : Chg S a w' :=
  ⟨hb.os.trans h.os, hb.tape.trans h.tape, hb.output.trans h.output, Nat.le_trans h.size hb.size, fun x hx hs => (hb.block x (by omega)).trans (h.block x hx hs)⟩
theorem Chg.of_below {S : Nat → Prop} {w w' : World} (hb : Below w.heap.size w w') : Chg S w w' := (Chg.refl S w).below hb (Nat.le_refl _)
theorem Chg.to_below {S : Nat → Prop} {w w' : World} {B : Nat} (h : Chg S w w') (hB : B ≤ w.heap.size) (hs : ∀ b, S b → B ≤ b) : Below B w w' :=
  ⟨h.os, h.tape, h.output, h.size, fun b hb => h.block b (by omega) fun x => by have := hs b x; omega⟩

theorem CellIs.drew {w : World} {b : Nat} {v : Int} (h : CellIs w b v) : CellIs w.drew b v := h
theorem CellIs.alloc {w : World} {b : Nat} {v : Int} (h : CellIs w b v) (o : Obj) : CellIs (w.alloc o) b v := (block_alloc_lt (lt_of_block h) o).trans h
theorem EList.alloc {w : World} {lb L H pb n : Nat} {lv hv : Int} {ps : Array Value} (h : EList w lb L H pb n lv hv ps) (o : Obj) : EList (w.alloc o) lb L H pb n lv hv ps :=
  ⟨(block_alloc_lt (lt_of_block h.list) o).trans h.list, h.last.alloc o, h.head.alloc o, (block_alloc_lt (lt_of_block h.places) o).trans h.places, h.size⟩
theorem EList.of_heap {w w' : World} {lb L H pb n : Nat} {lv hv : Int} {ps : Array Value} (h : EList w lb L H pb n lv hv ps) (e : w'.heap = w.heap) : EList w' lb L H pb n lv hv ps :=
  ⟨by rw [e]; exact h.list, by unfold CellIs; rw [e]; exact h.last, by unfold CellIs; rw [e]; exact h.head, by rw [e]; exact h.places, h.size⟩
theorem EList.chg {S : Nat → Prop} {w w' : World} {lb L H pb n : Nat} {lv hv : Int} {ps : Array Value} (h : EList w lb L H pb n lv hv ps) (c : Chg S w w') (h1 : ¬ S lb) (h2 : ¬ S L) (h3 : ¬ S H) (h4 : ¬ S pb) : EList w' lb L H pb n lv hv ps :=
  ⟨(c.block _ (lt_of_block h.list) h1).trans h.list, (c.block _ (lt_of_block h.last) h2).trans h.last, (c.block _ (lt_of_block h.head) h3).trans h.head, (c.block _ (lt_of_block h.places) h4).trans h.places, h.size⟩

theorem EList.put {w : World} {lb L H pb n : Nat} {lv hv : Int} {ps : Array Value} (h : EList w lb L H pb n lv hv ps) (ap : Apart6 lb L H pb) (c f : Value) (k : Nat) :
    EList (((((w.setCell ⟨L, 0, none⟩ (.int .i64 k)).setCell ⟨pb, k * 3, none⟩ c).setCell ⟨pb, k * 3 + 1, none⟩ f).setCell ⟨pb, k * 3 + 2, none⟩ (.int .i64 hv)).setCell ⟨H, 0, none⟩ (.int .i64 k))
      lb L H pb n k k (((ps.setIfInBounds (k * 3) c).setIfInBounds (k * 3 + 1) f).setIfInBounds (k * 3 + 2) (.int .i64 hv)) := by
  refine ⟨?_, ?_, ?_, ?_, by simp [h.size]⟩
  · rw [block_setCell_ne ap.Hl.symm, block_setCell_ne ap.pl.symm, block_setCell_ne ap.pl.symm, block_setCell_ne ap.pl.symm, block_setCell_ne ap.Ll.symm]; exact h.list
  · exact ((((h.last.set k).other ap.Lp _ _).other ap.Lp _ _).other ap.Lp _ _).other ap.LH _ _
  · exact ((((h.head.other ap.LH.symm _ _).other ap.Hp _ _).other ap.Hp _ _).other ap.Hp _ _).set k
  · rw [block_setCell_ne ap.Hp.symm]
    refine block_setCell ?_ _ _
    refine block_setCell ?_ _ _
    refine block_setCell ?_ _ _
    rw [block_setCell_ne ap.Lp.symm]; exact h.places

/-- What Add leaves. -/
def EAdded (w : World) (lb L H pb n : Nat) (k : Nat) (ps : Array Value) (e : Ending) (w' : World) : Prop :=
  e = .returned (.tuple #[.int .i64 k, .int .i64 0]) ∧ Chg (fun b => b = L ∨ b = H ∨ b = pb) w w' ∧ EList w' lb L H pb n k k ps

set_option maxRecDepth 100000 in
set_option maxHeartbeats 3200000 in
theorem elist_add (lb L H pb n k : Nat) (lv hv : Int) (p : Option Addr) (f : Value) (ps : Array Value) (w : World) (h : EList w lb L H pb n lv hv ps) (ap : Apart6 lb L H pb) (hk : lv + 1 = k) (h1 : k < n) (hn : n ≤ 4097) (hh : (hv == -1) = false)
    (_hf : f.cells = #[f]) (hst : ∀ (a : Addr) (w : World) (x : Value), w.cell? a = some x → w.frozen? a = false → (store a f).run Try.prog w = .ok () (w.setCell a f)) :
    Calls Try.prog 65 #[.pointer (some ⟨lb, 0, none⟩), .pointer none, .agg #[.pointer p, f]] w (EAdded w lb L H pb n k (((ps.setIfInBounds (k * 3) (.pointer p)).setIfInBounds (k * 3 + 1) f).setIfInBounds (k * 3 + 2) (.int .i64 hv))) := by
  have hs : wrap64 (lv + 1) = (k : Int) := by unfold wrap64; omega
  have HS := Lib.hid hs
  have HK := Lib.hid hk
  clear hs hk
  have hA := h.alloc (.cells #[.pointer p, f] 145)
  have hbox : (w.alloc (.cells #[.pointer p, f] 145)).heap[w.heap.size]? = some (.cells #[.pointer p, f] 145) := block_alloc_new _ _
  have lL : L < w.heap.size := lt_of_block h.last
  obtain ⟨a0, a1, a2⟩ := hA.lcell
  go_enter Try.func65, Try.ntmps65
  go_wp2_with (first | (go_at_call 114; refine (elist_made lb L H pb n lv hv ps _ hA).mono ?_; rintro e w' ⟨rfl, rfl⟩) | (go_at_call 46; refine (load_is hA.head).mono ?_; rintro e w' ⟨rfl, rfl⟩))
  refine (add_is 1 hA.last).mono ?_
  rintro e w1 ⟨rfl, hw1⟩
  rw [HS.out] at hw1 ⊢
  have c1 : w1.cell? ⟨lb, 0 + 1, none⟩ = some (.pointer (some ⟨H, 0, none⟩)) := by
    rw [hw1]; exact (World.cell?_setCell_other _ ⟨L, 0, none⟩ ⟨lb, 0 + 1, none⟩ _ (by simp)).trans a1
  have c2 : w1.cell? ⟨lb, 0 + 2, none⟩ = some (.slice (some ⟨pb, 0, none⟩) n n) := by
    rw [hw1]; exact (World.cell?_setCell_other _ ⟨L, 0, none⟩ ⟨lb, 0 + 2, none⟩ _ (by simp)).trans a2
  have hb1 : w1.heap[w.heap.size]? = some (.cells #[.pointer p, f] 145) := by
    rw [hw1, block_setCell_ne (by omega)]; exact hbox
  have b0 : w1.cell? ⟨w.heap.size, 0, none⟩ = some (.pointer p) := by rw [cell_of_block hb1]; rfl
  have b1 : w1.cell? ⟨w.heap.size, 0 + 1, none⟩ = some f := by rw [cell_of_block hb1]; rfl
  have hp1 : w1.heap[pb]? = some (.cells ps 220) := by
    rw [hw1, block_setCell_ne ap.Lp.symm]; exact hA.places
  have hks : k * 3 + 2 < ps.size := by rw [h.size]; omega
  obtain ⟨x0, p0⟩ : ∃ x, w1.cell? ⟨pb, k * 3, none⟩ = some x := ⟨_, (cell_of_block hp1 _).trans (Array.getElem?_eq_getElem (by omega))⟩
  obtain ⟨x1, p1⟩ : ∃ x, w1.cell? ⟨pb, k * 3 + 1, none⟩ = some x := ⟨_, (cell_of_block hp1 _).trans (Array.getElem?_eq_getElem (by omega))⟩
  obtain ⟨x2, p2⟩ : ∃ x, w1.cell? ⟨pb, k * 3 + 2, none⟩ = some x := ⟨_, (cell_of_block hp1 _).trans (Array.getElem?_eq_getElem (by omega))⟩
  have pf : ∀ o, w1.frozen? ⟨pb, o, none⟩ = false := free_of_block hp1
  have hh2 : (hv != -1) = true := by simpa using hh
  have HW1 := Lib.hid hw1
  have HP := Lib.hid hp1
  clear hw1 hp1 hb1 hks
  go_wp2_with fail
  refine wp_loop_rounds 1 ?_
  rw [rounds_succ]
  go_wp2_with fail
  have k0 : (0 : Int) ≤ (k : Int) := by omega
  have k1 : (k : Int) < (n : Int) := by omega
  have hpl : ¬ pb = lb := ap.pl
  have hH1 : CellIs w1 H hv := by rw [HW1.out]; exact hA.head.other ap.LH.symm 0 _
  go_region
  go_wp2_with fail
  refine (cas_is (k : Int) (((CellIs.other (w := w1) hH1 ap.Hp _ _).other ap.Hp _ _).other ap.Hp _ _).drew).mono ?_
  rintro e w2 ⟨rfl, hw2⟩
  have HW2 := Lib.hid hw2
  clear hw2
  go_wp2
  go_ret2
  refine ⟨rfl, ?_, ?_⟩
  · rw [HW2.out]
    refine (Chg.set (Chg.drew (Chg.set (Chg.set (Chg.set (w := w1) ?_ (.inl (.inr (.inr rfl))) _ _) (.inl (.inr (.inr rfl))) _ _) (.inl (.inr (.inr rfl))) _ _)) (.inl (.inr (.inl rfl))) _ _)
    rw [HW1.out]
    exact ((Chg.refl _ w).alloc _).set (.inl (.inl rfl)) _ _
  · rw [HW2.out]
    have := hA.put ap (.pointer p) f k
    rw [← HW1.out] at this
    exact this.of_heap rfl
end Go.Proofs.Ytjbhhoajpahdlaa
