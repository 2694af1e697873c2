/- What the law FnExactValidState answers, the size of whose arguments it looks at first: true. The statement is drawn from it in the next text. -/
import Derived.Test.YtphdicamabjbbaaPiU1
import Derived.Test.YtphdicamabjbbaaPiFValidState
namespace Go.Proofs.Ytphdicamabjbbaa.Pi
open Go
set_option maxRecDepth 10000
set_option linter.unusedVariables false

theorem sat_law (xs : List Setting) (o_xs : Enc.ok xs) : Sat Try.prog 5 [(false, Enc.enc xs)] (.one (.c (.bool true)), []) := by
  refine Sat.intro tok mixed Try.func5 rfl rfl ?_
  conv => whnf
  have hz := z_SettingS xs 1048576 o_xs (by omega) (by omega)
  have hq1 := szR_or 1048576 (Enc.wt xs)
  generalize szR 1048576 (Enc.wt xs) = q1 at hz hq1
  refine Pick.mk _ hz ?_
  conv => whnf
  refine Br.mk (fun h1 => ?_) (fun h1 => ?_) <;> conv => whnf
  · exact ResOK.same rfl
  simp at h1
  have hb_xs : Enc.wt xs ≤ 1048576 := by omega
  repeat first
    | (refine Pick.mk _ (c_SettingS xs hb_xs) ?_; conv => whnf)
    | (refine Pick.mk _ (e_SettingS xs hb_xs) ?_; conv => whnf)
    | (refine Pick.mk _ (s_spec_ValidState xs o_xs) ?_; conv => whnf)
    | (refine Pick.mk _ (s_impl_ValidState xs o_xs) ?_; conv => whnf)
    | (refine Br.no ?_; conv => whnf)
    | (refine Br.mk (fun h => absurd h (by simp)) (fun _ => ?_); conv => whnf)
  exact ResOK.same rfl

end Go.Proofs.Ytphdicamabjbbaa.Pi
