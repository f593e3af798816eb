/- From a contract of a call entered alone to the one good run that a row of 'leaving' and 'timePasses' asks. No walk. -/
import Derived.Conc.HoldsTime
import Derived.WalkKit
import Derived.ProofKit
import Derived.OpenShut
namespace Go.Proofs.Ytjbhhoajpahdlaa
open Go.Conc Go.ConcM

theorem good_of_calls {P : Program} {f : FuncId} {args : Array Value} {W : World} {Post : Value → World → Prop} (noInit : P.inits.idxOf? f = none)
    (h : Calls P f args W fun e W' => ∃ v, e = .returned v ∧ Post v W') :
    ∃ M last o w' t', runNT P (M + 1) (solo (G (Frame.enter P f args .normal) []) W) #[] = (.ended o w', t') ∧ runN P M (solo (G (Frame.enter P f args .normal) []) W) = .next last ∧
      step P last = .ended o w' ∧ Conc.Good P Post last o w' t' := by
  have h' : Calls P f args W fun | .returned v, w' => Post v w' | _, _ => False := h.mono fun e W' ⟨v, he, hp⟩ => by subst he; exact hp
  obtain ⟨n, v, w', fr, hn, hend, hp⟩ := h'.done_lone noInit
  have hrun : runNT P (n + 1) (lone (Frame.enter P f args .normal) [] W) #[] = (.ended (.done v) w', (runNT P (n + 1) (lone (Frame.enter P f args .normal) [] W) #[]).2) :=
    Prod.ext (by rw [runNT_fst, hend]) rfl
  refine ⟨n, lone fr [] w', .done v, w', _, hrun, hn, step_of_runs hn hend, v, rfl, hp, ?_, handedOver_of_lone hn, onlyLeaving_of_quiet (quiet_lone ..), ?_⟩
  · exact fun said => not_race_of_allBy (allBy_of_lone P n _ _ hn (by simp [lone]) rfl)
  · intro i g hg hi
    cases i with
    | zero => exact absurd rfl hi
    | succ k => simp [lone] at hg

theorem osLater_refl (os : Os) : OsLater os os := ⟨0, by cases os; simp⟩
end Go.Proofs.Ytjbhhoajpahdlaa
