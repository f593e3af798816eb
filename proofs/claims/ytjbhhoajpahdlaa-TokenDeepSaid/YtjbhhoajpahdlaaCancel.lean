/- (*token.Token).OnCancel and Cancel, for a call entered alone, handed no thread. -/
import Derived.Test.YtjbhhoajpahdlaaChild
namespace Go.Proofs.Ytjbhhoajpahdlaa
open Go.RowKit

theorem run_func_eql_nil (fn : Fn) (a b : Array Value) (w : World) : (binOp .eql 47 (.func fn a b) .nilFunc).run Try.prog w = .ok (.bool false) w := by kernel_rfl
theorem run_nil_eql_nil (w : World) : (binOp .eql 47 .nilFunc .nilFunc).run Try.prog w = .ok (.bool true) w := by kernel_rfl

def HungDone (w : World) (T : Tok) (d r : Int) (k : Nat) (ps : Array Value) (hv : Int) (f : Value) (e : Ending) (w' : World) : Prop :=
  e = .returned (.int .i64 0) ∧ Chg (fun b => b = T.L ∨ b = T.H ∨ b = T.pb) w w' ∧
    TokIs w' T d r k k (((ps.setIfInBounds (k * 3) (.pointer none)).setIfInBounds (k * 3 + 1) f).setIfInBounds (k * 3 + 2) (.int .i64 hv))

set_option maxRecDepth 100000 in
set_option maxHeartbeats 3200000 in
theorem token_hang (T : Tok) (d r lv hv : Int) (k : Nat) (ps : Array Value) (fn : Fn) (a b : Array Value) (w : World) (h : TokIs w T d r lv hv ps) (ap : T.Apart) (hk : lv + 1 = k) (h1 : k < 65) (hh : (hv == -1) = false) :
    Calls Try.prog 20 #[.pointer (some ⟨T.tb, 0, none⟩), .pointer none, .func fn a b] w (HungDone w T d r k ps hv (.func fn a b)) := by
  obtain ⟨c0, c1, c2, _⟩ := h.cells
  have hq := run_func_eql_nil fn a b
  have HK := Lib.hid hk
  clear hk
  go_enter Try.func20, Try.ntmps20
  go_wp2_with (go_at_call 64; refine (token_made T d r lv hv ps _ h).mono ?_; rintro e w' ⟨rfl, rfl⟩)
  refine (elist_add T.lb T.L T.H T.pb 65 k lv hv none (.func fn a b) ps _ h.list ap.ap HK.out h1 (by omega) hh rfl (Fine.store (.inr ⟨fn, a, b, rfl⟩))).mono ?_
  rintro e w3 ⟨rfl, hC, hL⟩
  have HC := Lib.hid hC
  have HL := Lib.hid hL
  clear hC hL
  go_wp2
  go_ret
  exact ⟨rfl, HC.out, ⟨(HC.out.block _ (lt_of_block h.tok) (by simp only [not_or]; exact ⟨ap.tL, ap.tH, ap.tp⟩)).trans h.tok, (HC.out.block _ (lt_of_block h.reason) (by simp only [not_or]; exact ⟨ap.RL, ap.RH, ap.Rp⟩)).trans h.reason, HL.out⟩⟩

set_option maxRecDepth 100000 in
set_option maxHeartbeats 800000 in
theorem token_hang_arg (T : Tok) (d r lv hv : Int) (ps : Array Value) (w : World) (h : TokIs w T d r lv hv ps) :
    Calls Try.prog 20 #[.pointer (some ⟨T.tb, 0, none⟩), .pointer none, .nilFunc] w fun e w' => e = .returned (.int .i64 1) ∧ w = w' := by
  have hq := run_nil_eql_nil
  go_enter Try.func20, Try.ntmps20
  go_wp2_with (go_at_call 64; refine (token_made T d r lv hv ps _ h).mono ?_; rintro e w' ⟨rfl, rfl⟩)
  go_ret
  exact ⟨rfl, rfl⟩
set_option maxRecDepth 100000 in
set_option maxHeartbeats 800000 in
theorem token_hang_nil (w : World) :
    Calls Try.prog 20 #[.pointer none, .pointer none, .nilFunc] w fun e w' => e = .returned (.int .i64 2) ∧ w = w' := by
  go_enter Try.func20, Try.ntmps20
  go_wp2_with (go_at_call 64; refine (token_made_nil _).mono ?_; rintro e w' ⟨rfl, rfl⟩)
  go_ret
  exact ⟨rfl, rfl⟩
set_option maxRecDepth 100000 in
set_option maxHeartbeats 800000 in
theorem token_hang_bare (b : Nat) (w : World) (h : w.cell? ⟨b, 0, none⟩ = some (.pointer none)) :
    Calls Try.prog 20 #[.pointer (some ⟨b, 0, none⟩), .pointer none, .nilFunc] w fun e w' => e = .returned (.int .i64 2) ∧ w = w' := by
  go_enter Try.func20, Try.ntmps20
  go_wp2_with (go_at_call 64; refine (token_made_bare b _ h).mono ?_; rintro e w' ⟨rfl, rfl⟩)
  go_ret
  exact ⟨rfl, rfl⟩

set_option maxRecDepth 100000 in
set_option maxHeartbeats 1600000 in
theorem cancel_nil (x : Int) (w : World) :
    Calls Try.prog 22 #[.pointer none, .pointer none, .int .i64 x] w fun e w' => e = .returned (.bool false) ∧ w = w' := by
  go_enter Try.func22, Try.ntmps22
  go_wp2_with (go_at_call 64; refine (token_made_nil _).mono ?_; rintro e w' ⟨rfl, rfl⟩)
  go_ret
  exact ⟨rfl, rfl⟩
set_option maxRecDepth 100000 in
set_option maxHeartbeats 1600000 in
theorem cancel_bare (b : Nat) (x : Int) (w : World) (h : w.cell? ⟨b, 0, none⟩ = some (.pointer none)) :
    Calls Try.prog 22 #[.pointer (some ⟨b, 0, none⟩), .pointer none, .int .i64 x] w fun e w' => e = .returned (.bool false) ∧ w = w' := by
  go_enter Try.func22, Try.ntmps22
  go_wp2_with (go_at_call 64; refine (token_made_bare b _ h).mono ?_; rintro e w' ⟨rfl, rfl⟩)
  go_ret
  exact ⟨rfl, rfl⟩
set_option maxRecDepth 100000 in
set_option maxHeartbeats 1600000 in
theorem cancel_small (T : Tok) (d r lv hv x : Int) (ps : Array Value) (w : World) (h : TokIs w T d r lv hv ps) (hx : x < 1) :
    Calls Try.prog 22 #[.pointer (some ⟨T.tb, 0, none⟩), .pointer none, .int .i64 x] w fun e w' => e = .returned (.bool false) ∧ w = w' := by
  go_enter Try.func22, Try.ntmps22
  go_wp2_with (go_at_call 64; refine (token_made T d r lv hv ps _ h).mono ?_; rintro e w' ⟨rfl, rfl⟩)
  go_ret
  exact ⟨rfl, rfl⟩
set_option maxRecDepth 100000 in
set_option maxHeartbeats 1600000 in
theorem cancel_late (T : Tok) (d r lv hv x : Int) (ps : Array Value) (w : World) (h : TokIs w T d r lv hv ps) (hx : ¬ x < 1) (hr : ¬ r = 0) :
    Calls Try.prog 22 #[.pointer (some ⟨T.tb, 0, none⟩), .pointer none, .int .i64 x] w fun e w' => e = .returned (.bool false) ∧ w = w' := by
  obtain ⟨c0, c1, c2, _⟩ := h.cells
  go_enter Try.func22, Try.ntmps22
  go_wp2_with (go_at_call 64; refine (token_made T d r lv hv ps _ h).mono ?_; rintro e w' ⟨rfl, rfl⟩)
  refine (cell_cas_miss T.R 0 r 0 x _ h.reason.c0 h.reason.c1 (h.reason.free _) hr).mono ?_
  rintro e w' ⟨rfl, rfl⟩
  go_wp2
  go_ret
  exact ⟨rfl, rfl⟩
end Go.Proofs.Ytjbhhoajpahdlaa
