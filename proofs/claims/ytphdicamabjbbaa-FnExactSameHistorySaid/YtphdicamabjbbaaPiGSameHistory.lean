/- What the law FnExactSameHistory answers, the size of whose arguments it looks at first: true. The statement is drawn from it in the next text. -/
import Derived.Test.YtphdicamabjbbaaPiU1
import Derived.Test.YtphdicamabjbbaaPiFSameHistory
namespace Go.Proofs.Ytphdicamabjbbaa.Pi
open Go
set_option maxRecDepth 10000
set_option linter.unusedVariables false

theorem sat_law (xs : List Version) (ys : List Version) (o_xs : Enc.ok xs) (o_ys : Enc.ok ys) : Sat Try.prog 7 [(false, Enc.enc xs), (false, Enc.enc ys)] (.one (.c (.bool true)), []) := by
  refine Sat.intro tok mixed Try.func7 rfl rfl ?_
  conv => whnf
  have hz := z_VersionS xs 1048576 o_xs (by omega) (by omega)
  have hq1 := szR_or 1048576 (Enc.wt xs)
  generalize szR 1048576 (Enc.wt xs) = q1 at hz hq1
  refine Pick.mk _ hz ?_
  conv => whnf
  refine Br.mk (fun h1 => ?_) (fun h1 => ?_) <;> conv => whnf
  · exact ResOK.same rfl
  simp at h1
  have hz := z_VersionS ys q1 o_ys (by omega) (by omega)
  have hq2 := szR_or q1 (Enc.wt ys)
  generalize szR q1 (Enc.wt ys) = q2 at hz hq2
  refine Pick.mk _ hz ?_
  conv => whnf
  refine Br.mk (fun h2 => ?_) (fun h2 => ?_) <;> conv => whnf
  · exact ResOK.same rfl
  simp at h2
  have hb_xs : Enc.wt xs ≤ 1048576 := by omega
  have hb_ys : Enc.wt ys ≤ 1048576 := by omega
  repeat first
    | (refine Pick.mk _ (c_VersionS xs hb_xs) ?_; conv => whnf)
    | (refine Pick.mk _ (e_VersionS xs hb_xs) ?_; conv => whnf)
    | (refine Pick.mk _ (c_VersionS ys hb_ys) ?_; conv => whnf)
    | (refine Pick.mk _ (e_VersionS ys hb_ys) ?_; conv => whnf)
    | (refine Pick.mk _ (s_spec_SameHistory xs ys o_xs.1 o_xs) ?_; conv => whnf)
    | (refine Pick.mk _ (s_impl_SameHistory xs ys o_xs.1 o_xs) ?_; conv => whnf)
    | (refine Br.no ?_; conv => whnf)
    | (refine Br.mk (fun h => absurd h (by simp)) (fun _ => ?_); conv => whnf)
  exact ResOK.same rfl

end Go.Proofs.Ytphdicamabjbbaa.Pi
