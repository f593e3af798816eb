/- treadlelaw11.TokenDeep, for a call entered alone. -/
import Derived.Test.YtjbhhoajpahdlaaDeepRow
import Derived.Deep.LoopGhost
import Derived.Deep.CutBlock
import Derived.Deep.DeepCutAuto
namespace Go.Proofs.Ytjbhhoajpahdlaa
open Go.RowKit

set_option maxRecDepth 100000 in
theorem law_at (a n : Int) (w : World) (hn : 0 < n) (hn1 : n ≤ 9223372036854775807) :
    Calls Try.prog 17 #[.int .i64 a, .int .i64 n] w fun e w' => (∃ r : Int, 0 ≤ r ∧ r < n ∧ e = .returned (.int .i64 r)) ∧ w = w' := by
  have h0 : ¬ n = 0 := by omega
  have t1 := Int.tmod_lt_of_pos a hn
  have t2 : -n < a.tmod n := by have := Int.lt_tmod_of_pos a hn; omega
  have T1 := Lib.hid t1
  have T2 := Lib.hid t2
  clear t1 t2
  go_enter Try.func17, Try.ntmps17
  go_wp2
  · go_ret
    have := T2.out
    refine ⟨⟨_, ?_, ?_, rfl⟩, rfl⟩ <;> (unfold wrap64; omega)
  · go_ret
    have := T1.out
    exact ⟨⟨_, by omega, this, rfl⟩, rfl⟩

set_option maxRecDepth 100000 in
theorem run_make_ints (n : Nat) (hn : n ≤ 65) (w : World) :
    (Instr.makeSlice 44 (.int .i64 (n : Int)) (.int .i64 (n : Int))).run Try.prog w = .ok (.slice (some ⟨w.heap.size, 0, none⟩) n n) (w.alloc (.cells (madeCells #[.int .i64 0] n) 3)) := by
  obtain ⟨i, hi, hz⟩ := Option.map_eq_some_iff.1 (show (Try.prog.info? 3).map (fun i => (i.zero, i.size, i.bytes)) = some (some (.int .i64 0), 1, 8) by kernel_rfl)
  simp only [Prod.mk.injEq] at hz
  obtain ⟨hz, hs, hb⟩ := hz
  have hr := run_make (P := Try.prog) w 44 3 i (.int .i64 0) Try.underlying44 hi hz .i64 .i64 (n : Int) (n : Int) (by omega) (Int.le_refl _) (by rw [hb]; omega) (by omega)
  simp only [Int.toNat_natCast, hs, Nat.mul_one] at hr
  exact hr

set_option maxRecDepth 100000 in
set_option maxHeartbeats 3200000 in
theorem deep_any (many wher reason : Int) (w : World) :
    Calls Try.prog 4 #[.int .i64 many, .int .i64 wher, .int .i64 reason] w fun e w' => e = .returned (.bool true) ∧ Below w.heap.size w w' := by
  obtain ⟨i0, hi, hz0, hz1, hz2⟩ := info_parts (show (Try.prog.info? 39).map (fun i => (i.zero, i.size, i.bytes)) = some (some (.pointer none), 1, 8) by kernel_rfl)
  go_enter Try.func4, Try.ntmps4
  go_wp2_with fail
  refine (law_at many 80 _ (by omega) (by omega)).mono ?_
  rintro e w' ⟨⟨r, r0, r1, rfl⟩, rfl⟩
  go_wp2_with fail
  refine (token_new _).mono ?_
  rintro e w1 ⟨T', rfl, hB, h, ap, hin⟩
  have HB := Lib.hid hB
  have HT := Lib.hid h
  have HI := Lib.hid hin
  clear hB h hin
  have hk1 : KidRow w (w1.alloc (.cells #[.pointer (some ⟨T'.tb, 0, none⟩)] 39)) (fun _ => T') 1 (.slice (some ⟨w1.heap.size, 0, none⟩) 1 1) := KidRow.first HB.out HT.out ap HI.out
  have HK1 := Lib.hid hk1
  clear hk1 ap
  go_upto_block 0 with fail
  go_cut [7, 8, 9, 10] from 28 to 65 (fun v7 v8 v9 v10 wr => ∃ (p : Nat) (T : Nat → Tok), p ≤ 64 ∧ KidRow w wr T (p + 1) v7)
  case first =>
    go_wp2_with fail
    go_loopg [7, 8, 9, 10] (r.toNat) (fun g v7 v8 v9 v10 wr => ∃ (p : Nat) (T : Nat → Tok), p ≤ 64 ∧ KidRow w wr T (p + 1) v7 ∧ v8 = .int .i64 (p : Int) ∧ g + p = r.toNat)
    case atStart => exact ⟨0, fun _ => T', by omega, HK1.out, rfl, by omega⟩
    case round =>
      obtain ⟨p, T, hp, hk, rfl, hg⟩ := hrel
      have HK := Lib.hid hk
      obtain ⟨g', cap, rfl⟩ := row_slice hk.row
      have hc : wr.cell? ⟨g', p, none⟩ = some (.pointer (some ⟨(T p).tb, 0, none⟩)) := by rw [hk.row.cellAt p (by simp)]; simp
      have HG := Lib.hid hg
      have hwr : IntKind.i64.wrap (p : Int) = (p : Int) := IntWalk.i64_in _ (by omega)
      have hwr1 : IntKind.i64.wrap ((p : Int) + 1) = (p : Int) + 1 := IntWalk.i64_in _ (by omega)
      have p0 : (0 : Int) ≤ (p : Int) := by omega
      have p1 : (p : Int) < (p : Int) + 1 := by omega
      clear hk hg
      by_cases hr : (p : Int) < r
      · by_cases h64 : p = 64
        · subst h64
          go_wp2_with fail
          refine (token_child_deep (T 64) _ _ _ _ _ (HK.out.toks 64 (by omega))).mono ?_
          rintro e w' ⟨rfl, rfl⟩
          go_wp2_with fail
          go_meet
          case rel => exact ⟨64, T, by omega, HK.out⟩
        · have p64 : (p : Int) < 64 := by omega
          have hp' : p < 64 := by omega
          have hkn : kidOf T (p + 1) p = none := by unfold kidOf; rw [if_neg (by omega)]
          have ht := HK.out.toks p (by omega)
          rw [hkn] at ht
          go_wp2_with fail
          refine (token_child (T p) p 0 (0 : Nat) (0 : Nat) 1 eplaces _ ht (HK.out.apart p (by omega)) (by omega) (by omega) (by omega) (by omega) (by rfl)).mono ?_
          rintro e w2 ⟨T2, rfl, hC, h1, h2, ap2, hin2⟩
          have hrow : w2.ownsRow w.heap.size 39 1 (.slice (some ⟨g', 0, none⟩) (p + 1) cap) (p + 1) ((List.range (p + 1)).map fun k => Value.pointer (some ⟨(T k).tb, 0, none⟩)) :=
            row_chg HK.out.row hC (fun b hb => ht.not_row HK.out.row (by rcases hb with rfl | rfl | rfl <;> simp [Tok.has]))
          have hown := hrow.kept (w' := w2.alloc (.cells #[.pointer (some ⟨T2.tb, 0, none⟩)] 39)) (row := none) ⟨rfl, rfl, rfl, by simp, fun k hk _ => block_alloc_lt hk _⟩ (.inr (by simp [Value.ownBlock]))
          have hB2 : w.heap.size ≤ (w2.alloc (.cells #[.pointer (some ⟨T2.tb, 0, none⟩)] 39)).heap.size := by
            have := HK.out.below.size; have := hC.size; simp; omega
          have HC := Lib.hid hC
          have H1 := Lib.hid h1
          have H2 := Lib.hid h2
          have HI2 := Lib.hid hin2
          have HO := Lib.hid hown
          clear hC h1 h2 hin2 hrow hown ht hkn
          go_wp2_with (at_builtin; refine wpList_append_own _ rfl _ _ 41 rfl w.heap.size 39 i0 (.pointer none) 1 8 Try.underlying41 hi hz0 hz1 hz2 rfl (by decide) _ _ _ rfl HO.out ⟨w2.heap.size, 0, none⟩ 1 1 [.pointer (some ⟨T2.tb, 0, none⟩)] rfl rfl ?c1 ?c2 ?c3 ?c4 hB2 ?_)
          case c1 =>
            intro j u hj
            match j, hj with
            | 0, hj => simp at hj; subst hj; simp [Addr.add]
          case c2 => intro u hu; simp at hu; subst hu; rfl
          case c3 => unfold maxLen; omega
          case c4 => omega
          · intro v' w3 hown' hgrow _
            have hk' := HK.out.next HC.out H1.out (by simpa using H2.out) ap2 HI2.out HO.out (by rw [List.range_succ, List.map_append, List.append_assoc]; simpa using hown') hgrow
            have HK' := Lib.hid hk'
            clear hk' hown' hgrow
            go_wp2
            go_roundg (gk - 1)
            case measure => have := HG.out; omega
            case rel => exact ⟨p + 1, _, by omega, HK'.out, rfl, by have := HG.out; omega⟩
      · go_wp2_with fail
        go_meet
        case rel => exact ⟨p, T, by omega, HK.out⟩
  case rest =>
    rename World => wa
    obtain ⟨p, T, hp, hk⟩ := hcut
    have HK := Lib.hid hk
    clear HK1 HB HT HI
    have hlen : (0 : Int) ≤ (p : Int) + 1 := by omega
    obtain ⟨g, cap, rfl⟩ := row_slice hk.row
    go_wp2_with fail
    refine (law_at wher ((p : Int) + 1) _ (by omega) (by omega)).mono ?_
    rintro e w' ⟨⟨y, y0, y1, rfl⟩, rfl⟩
    clear hk
    have hmk : ∀ w, (Instr.makeSlice 44 (.int .i64 ((p : Int) + 1)) (.int .i64 ((p : Int) + 1))).run Try.prog w = .ok (.slice (some ⟨w.heap.size, 0, none⟩) (p + 1) (p + 1)) (w.alloc (.cells (madeCells #[.int .i64 0] (p + 1)) 3)) := run_make_ints (p + 1) (by omega)
    go_upto_block 2 with fail
    have hh0 : HungRow w ((((wa.alloc (Obj.cells #[Value.int IntKind.i64 0] 3)).alloc (Obj.cells (madeCells #[Value.int IntKind.i64 0] (p + 1)) 3)).alloc (Obj.cells #[Value.slice (some ⟨wa.heap.size + 1, 0, none⟩) (p + 1) (p + 1)] 44)).alloc (Obj.cells #[Value.int IntKind.i64 0] 3))
        T (p + 1) (.slice (some ⟨g, 0, none⟩) (p + 1) cap) wa.heap.size (wa.heap.size + 1 + 1) (wa.heap.size + 1) (fun _ => wa.heap.size + 1 + 1 + 1) 0 := by
      refine HK.out.hang _ _ _ _ ((((Chg.refl _ wa).alloc _).alloc _).alloc _ |>.alloc _) (Nat.le_refl _) (by omega) (by omega) (by omega) ?_ ?_ ?_ ?_
      · rw [block_alloc_lt (by simp; omega), block_alloc_lt (by simp; omega), block_alloc_lt (by simp)]; exact block_alloc_new _ _
      · rw [block_alloc_lt (by simp)]
        have := block_alloc_new ((wa.alloc (Obj.cells #[Value.int IntKind.i64 0] 3)).alloc (Obj.cells (madeCells #[Value.int IntKind.i64 0] (p + 1)) 3)) (Obj.cells #[Value.slice (some ⟨wa.heap.size + 1, 0, none⟩) (p + 1) (p + 1)] 44)
        simpa using this
      · rw [block_alloc_lt (by simp), block_alloc_lt (by simp)]
        have := block_alloc_new (wa.alloc (Obj.cells #[Value.int IntKind.i64 0] 3)) (Obj.cells (madeCells #[Value.int IntKind.i64 0] (p + 1)) 3)
        simpa using this
      · have := block_alloc_new (((wa.alloc (Obj.cells #[Value.int IntKind.i64 0] 3)).alloc (Obj.cells (madeCells #[Value.int IntKind.i64 0] (p + 1)) 3)).alloc (Obj.cells #[Value.slice (some ⟨wa.heap.size + 1, 0, none⟩) (p + 1) (p + 1)] 44)) (Obj.cells #[Value.int IntKind.i64 0] 3)
        simpa using this
    have HH := Lib.hid hh0
    clear hh0
    go_wp2_with fail
    go_loopg [13, 14] (p + 1) (fun g2 v13 v14 wr => ∃ (h : Nat) (iv : Nat → Nat), v13 = .pointer (some ⟨iv h, 0, none⟩) ∧ HungRow w wr T (p + 1) (.slice (some ⟨g, 0, none⟩) (p + 1) cap) wa.heap.size (wa.heap.size + 1 + 1) (wa.heap.size + 1) iv h ∧ g2 + h = p + 1)
    case atStart => exact ⟨0, _, rfl, HH.out, rfl⟩
    case round =>
      obtain ⟨h, iv, rfl, hr, hg⟩ := hrel
      have HR := Lib.hid hr
      have HG := Lib.hid hg
      clear HH
      have ci : wr.cell? ⟨iv h, 0, none⟩ = some (.int .i64 (h : Int)) := by rw [cell_of_block (hr.vars h (Nat.le_refl _))]; rfl
      by_cases hh : (h : Int) < (p : Int) + 1
      · have hc : wr.cell? ⟨g, h, none⟩ = some (.pointer (some ⟨(T h).tb, 0, none⟩)) := by
          have hh' : h < p + 1 := by omega
          rw [hr.row.cellAt h (by simp; omega)]; simp [hh']
        have h0 : (0 : Int) ≤ (h : Int) := by omega
        have ht := hr.bare h (Nat.le_refl _) (by omega)
        have hap := hr.apart h (by omega)
        have hwr1 : IntKind.i64.wrap ((h : Int) + 1) = (h : Int) + 1 := IntWalk.i64_in _ (by omega)
        clear hr hg
        go_wp2_with fail
        refine (token_hang (T h) h 0 _ _ (L0 (kidOf T (p + 1) h) + 1) _ _ _ _ _ ht hap (by omega) (by have : L0 (kidOf T (p + 1) h) ≤ 1 := L0_le _; omega) (by rw [beq_eq_false_iff_ne]; omega)).mono ?_
        rintro e w2 ⟨rfl, hC, h1⟩
        have HC := Lib.hid hC
        have H1 := Lib.hid h1
        have ci2 : w2.cell? ⟨iv h, 0, none⟩ = some (.int .i64 (h : Int)) := by
          rw [← ci]
          refine World.cell?_of_block (w := wr) (hC.block _ (lt_of_block (HR.out.vars h (Nat.le_refl _))) ?_)
          have b1 := HR.out.bi h (Nat.le_refl _)
          have b2 := HR.out.op
          have b3 := HR.out.pb
          have b4 := HR.out.lt h (by omega)
          have b5 := b4 (T h).L (by simp [Tok.has])
          have b6 := b4 (T h).H (by simp [Tok.has])
          have b7 := b4 (T h).pb (by simp [Tok.has])
          show ¬ (iv h = (T h).L ∨ iv h = (T h).H ∨ iv h = (T h).pb)
          omega
        clear hC h1 ht hap
        go_wp2_with fail
        go_roundg (gk - 1)
        case measure => have := HG.out; omega
        case rel =>
          refine ⟨h + 1, fun k => if k = h + 1 then w2.heap.size else iv k, by simp, HR.out.next (by omega) w2.heap.size HC.out H1.out ((Chg.refl _ w2).alloc _) (Nat.le_refl _) (block_alloc_new _ _), by have := HG.out; omega⟩
      · obtain ⟨yn, rfl⟩ : ∃ yn : Nat, y = yn := ⟨y.toNat, by omega⟩
        obtain rfl : h = p + 1 := by omega
        have hc : wr.cell? ⟨g, yn, none⟩ = some (.pointer (some ⟨(T yn).tb, 0, none⟩)) := by
          have hh' : yn < p + 1 := by omega
          rw [hr.row.cellAt yn (by simp; omega)]; simp [hh']
        clear hr hg
        go_upto_region 22 with fail
        go_cut [96] from 88 to 95 (fun v96 wr => v96 = .bool false ∧ EndRow w wr T (p + 1) (.slice (some ⟨g, 0, none⟩) (p + 1) cap) (wa.heap.size + 1 + 1) (wa.heap.size + 1) (if 1 ≤ reason then yn else p + 1) reason)
        case first =>
          obtain ⟨ok, hl, hcn, hv⟩ := HR.out.lay (by omega)
          by_cases hx : 1 ≤ reason
          · go_wp2_with fail
            refine (DeepLay.deep_cancel _ ok reason hx (p - yn) yn (by show yn + (p - yn) + 1 = p + 1; omega) _ (fun k _ hk => hl k (Nat.zero_le _) hk) hcn hv).mono ?_
            rintro e w' ⟨rfl, hd⟩
            have HD := Lib.hid (HR.out.told (by omega) HK.out.below.size hd)
            clear hd ok hl hcn hv
            go_wp2
            go_meet
            case rel => exact ⟨rfl, by rw [if_pos hx]; exact HD.out⟩
          · have hx' : reason < 1 := by omega
            go_wp2_with fail
            refine (cancel_small (T yn) _ _ _ _ reason _ _ (HR.out.hung yn (by omega) (by omega)) hx').mono ?_
            rintro e w' ⟨rfl, rfl⟩
            clear ok hl hcn hv
            go_wp2
            go_meet
            case rel => exact ⟨by rw [decide_eq_false (by omega)], by rw [if_neg (by omega)]; exact HR.out.small reason⟩
        case rest =>
          obtain ⟨rfl, he⟩ := hcut
          clear hc ci HR HG hmk hh
          obtain ⟨c, hcd⟩ : ∃ c, c = if 1 ≤ reason then yn else p + 1 := ⟨_, rfl⟩
          rw [← hcd] at he
          have HE := Lib.hid he
          have HC := Lib.hid hcd
          clear he hcd
          generalize wa.heap.size = bo at HE ⊢
          go_wp2_with fail
          go_loopg [15, 16, 17] (p + 1) (fun g3 v15 v16 v17 wr => ∃ (h : Nat), v15 = .int .i64 (h : Int) ∧ EndRow w wr T (p + 1) (.slice (some ⟨g, 0, none⟩) (p + 1) cap) (bo + 1 + 1) (bo + 1) c reason ∧ g3 + h = p + 1)
          case atStart => exact ⟨0, rfl, HE.out, rfl⟩
          case round =>
            obtain ⟨h, rfl, he, hg⟩ := hrel
            have HG := Lib.hid hg
            have HR := Lib.hid he
            clear HE
            by_cases hh : (h : Int) < (p : Int) + 1
            · have hh' : h < p + 1 := by omega
              have hc : wr.cell? ⟨g, h, none⟩ = some (.pointer (some ⟨(T h).tb, 0, none⟩)) := by
                rw [he.row.cellAt h (by simp; omega)]; simp [hh']
              obtain ⟨lv, hv, ps, ht⟩ := he.toks h hh'
              have b0 : wr.cell? ⟨bo + 1 + 1, 0, none⟩ = some (.slice (some ⟨bo + 1, 0, none⟩) (p + 1) (p + 1)) := by rw [cell_of_block he.var]; rfl
              have k0 : wr.cell? ⟨bo + 1, h, none⟩ = some (.int .i64 (if c ≤ h then ((p : Int) + 1) - h else 0)) := by
                rw [cell_of_block he.cur]; simp [DeepLay.turns, hh']
              have h0 : (0 : Int) ≤ (h : Int) := by omega
              have hwr1 : IntKind.i64.wrap ((h : Int) + 1) = (h : Int) + 1 := IntWalk.i64_in _ (by omega)
              have hwr2 : IntKind.i64.wrap ((p : Int) + 1 - (h : Int)) = (p : Int) + 1 - (h : Int) := IntWalk.i64_in _ (by omega)
              clear he hg
              by_cases hch : c ≤ h
              · rw [if_pos hch] at k0 ht
                have hx : 1 ≤ reason := by
                  by_cases hx : 1 ≤ reason
                  · exact hx
                  · have := HC.out; rw [if_neg hx] at this; omega
                have hy : (yn : Int) ≤ (h : Int) := by
                  have := HC.out; rw [if_pos hx] at this; omega
                go_wp2_with fail
                refine (token_reason (T h) _ _ _ _ _ _ ht).mono ?_
                rintro e w' ⟨rfl, rfl⟩
                go_wp2_with fail
                go_roundg (gk - 1)
                case measure => have := HG.out; omega
                case rel => exact ⟨h + 1, by simp, HR.out, by have := HG.out; omega⟩
              · rw [if_neg hch] at k0 ht
                by_cases hx : 1 ≤ reason
                · have hy : (h : Int) < (yn : Int) := by
                    have := HC.out; rw [if_pos hx] at this; omega
                  go_wp2_with fail
                  refine (token_reason (T h) _ _ _ _ _ _ ht).mono ?_
                  rintro e w' ⟨rfl, rfl⟩
                  go_wp2_with fail
                  go_roundg (gk - 1)
                  case measure => have := HG.out; omega
                  case rel => exact ⟨h + 1, by simp, HR.out, by have := HG.out; omega⟩
                · have hx' : reason < 1 := by omega
                  go_wp2_with fail
                  refine (token_reason (T h) _ _ _ _ _ _ ht).mono ?_
                  rintro e w' ⟨rfl, rfl⟩
                  go_wp2_with fail
                  go_roundg (gk - 1)
                  case measure => have := HG.out; omega
                  case rel => exact ⟨h + 1, by simp, HR.out, by have := HG.out; omega⟩
            · have hc0 : (wr.alloc (.cells #[.pointer none, .pointer none, .int .i64 0] 52)).cell? ⟨g, 0, none⟩ = some (.pointer (some ⟨(T 0).tb, 0, none⟩)) := by
                rw [World.cell?_of_block (w := wr) (block_alloc_lt (he.row.lt g rfl).2 _), he.row.cellAt 0 (by simp)]; simp
              obtain ⟨lv, hv, ps, ht⟩ := he.toks 0 (by omega)
              have hp0 : (0 : Int) < (p : Int) + 1 := by omega
              clear he hg HC
              have hbare : (wr.alloc (.cells #[.pointer none, .pointer none, .int .i64 0] 52)).cell? ⟨wr.heap.size, 0, none⟩ = some (.pointer none) := by
                rw [cell_of_block (block_alloc_new _ _)]; rfl
              have ht' := ht.chg (S := fun _ => False) ((Chg.refl _ wr).alloc (.cells #[.pointer none, .pointer none, .int .i64 0] 52)) (fun _ _ x => x)
              have HB := Lib.hid (HR.out.below.alloc HR.out.below.size (.cells #[.pointer none, .pointer none, .int .i64 0] 52))
              clear ht HR HK
              go_wp2_with fail
              refine (token_child_nil _).mono ?_
              rintro e w' ⟨rfl, rfl⟩
              go_wp2_with fail
              refine (token_child_bare _ _ hbare).mono ?_
              rintro e w' ⟨rfl, rfl⟩
              go_wp2_with fail
              refine (cancel_nil 1 _).mono ?_
              rintro e w' ⟨rfl, rfl⟩
              go_wp2_with fail
              refine (cancel_bare _ 1 _ hbare).mono ?_
              rintro e w' ⟨rfl, rfl⟩
              go_wp2_with fail
              refine (token_reason_nil _).mono ?_
              rintro e w' ⟨rfl, rfl⟩
              go_wp2_with fail
              refine (token_reason_bare _ _ hbare).mono ?_
              rintro e w' ⟨rfl, rfl⟩
              go_wp2_with fail
              refine (token_wait_nil _).mono ?_
              rintro e w' ⟨rfl, rfl⟩
              go_wp2_with fail
              refine (token_wait_bare _ _ hbare).mono ?_
              rintro e w' ⟨rfl, rfl⟩
              go_wp2_with fail
              refine (token_hang_nil _).mono ?_
              rintro e w' ⟨rfl, rfl⟩
              go_wp2_with fail
              refine (token_hang_bare _ _ hbare).mono ?_
              rintro e w' ⟨rfl, rfl⟩
              go_wp2_with fail
              refine (token_hang_arg (T 0) _ _ _ _ _ _ ht').mono ?_
              rintro e w' ⟨rfl, rfl⟩
              go_wp2_with fail
              refine (token_works _).mono ?_
              rintro e w' ⟨rfl, hb⟩
              have HB2 := Lib.hid hb
              clear hb
              go_wp2
              go_ret
              exact ⟨rfl, HB.out.trans (HB2.out.mono HB.out.size)⟩
end Go.Proofs.Ytjbhhoajpahdlaa
