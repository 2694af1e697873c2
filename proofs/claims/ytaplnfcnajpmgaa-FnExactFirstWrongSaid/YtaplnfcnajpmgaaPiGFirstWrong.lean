/- What the law FnExactFirstWrong answers, the size of whose arguments it looks at first: true. The statement is drawn from it in the next text. -/
import Derived.Test.YtaplnfcnajpmgaaPiFCheck2
import Derived.Test.YtaplnfcnajpmgaaPiU3
namespace Go.Proofs.Ytaplnfcnajpmgaa.Pi
open Go
set_option maxRecDepth 10000
set_option linter.unusedVariables false

theorem sat_law (xs : List Proof) (o_xs : Enc.ok xs) : Sat Try.prog 9 [(false, Enc.enc xs)] (.one (.c (.bool true)), []) := by
  refine Sat.intro tok mixed Try.func9 rfl rfl ?_
  ((conv => whnf); repeat first | (refine Br.no ?_; conv => whnf) | (refine Br.yes ?_; conv => whnf) | (refine Pick.draw rfl (by kernel_rfl) ?_; conv => whnf) | (refine Pick.drawM (by kernel_rfl) ?_; conv => whnf) | (refine CallC.r ?_; conv => whnf))
  have hz := z_ProofS xs 1048576 o_xs (by omega) (by omega)
  have hq1 := szR_or 1048576 (Enc.wt xs)
  generalize szR 1048576 (Enc.wt xs) = q1 at hz hq1
  refine Pick.mk _ hz ?_
  ((conv => whnf); repeat first | (refine Br.no ?_; conv => whnf) | (refine Br.yes ?_; conv => whnf) | (refine Pick.draw rfl (by kernel_rfl) ?_; conv => whnf) | (refine Pick.drawM (by kernel_rfl) ?_; conv => whnf) | (refine CallC.r ?_; conv => whnf))
  refine Br.mk (fun h1 => ?_) (fun h1 => ?_) <;> ((conv => whnf); repeat first | (refine Br.no ?_; conv => whnf) | (refine Br.yes ?_; conv => whnf) | (refine Pick.draw rfl (by kernel_rfl) ?_; conv => whnf) | (refine Pick.drawM (by kernel_rfl) ?_; conv => whnf) | (refine CallC.r ?_; conv => whnf))
  · exact ResOK.same rfl
  simp at h1
  have hb_xs : Enc.wt xs ≤ 1048576 := by omega
  repeat first
    | (refine Pick.mk _ (c_ProofS xs hb_xs) ?_; ((conv => whnf); repeat first | (refine Br.no ?_; conv => whnf) | (refine Br.yes ?_; conv => whnf) | (refine Pick.draw rfl (by kernel_rfl) ?_; conv => whnf) | (refine Pick.drawM (by kernel_rfl) ?_; conv => whnf) | (refine CallC.r ?_; conv => whnf)))
    | (refine Pick.mk _ (e_ProofS xs (by omega)) ?_; ((conv => whnf); repeat first | (refine Br.no ?_; conv => whnf) | (refine Br.yes ?_; conv => whnf) | (refine Pick.draw rfl (by kernel_rfl) ?_; conv => whnf) | (refine Pick.drawM (by kernel_rfl) ?_; conv => whnf) | (refine CallC.r ?_; conv => whnf)))
    | (refine Pick.mk _ (s_spec_FirstWrong xs o_xs) ?_; ((conv => whnf); repeat first | (refine Br.no ?_; conv => whnf) | (refine Br.yes ?_; conv => whnf) | (refine Pick.draw rfl (by kernel_rfl) ?_; conv => whnf) | (refine Pick.drawM (by kernel_rfl) ?_; conv => whnf) | (refine CallC.r ?_; conv => whnf)))
    | (refine Pick.mk _ (s_impl_FirstWrong xs o_xs) ?_; ((conv => whnf); repeat first | (refine Br.no ?_; conv => whnf) | (refine Br.yes ?_; conv => whnf) | (refine Pick.draw rfl (by kernel_rfl) ?_; conv => whnf) | (refine Pick.drawM (by kernel_rfl) ?_; conv => whnf) | (refine CallC.r ?_; conv => whnf)))
    | (refine Br.no ?_; ((conv => whnf); repeat first | (refine Br.no ?_; conv => whnf) | (refine Br.yes ?_; conv => whnf) | (refine Pick.draw rfl (by kernel_rfl) ?_; conv => whnf) | (refine Pick.drawM (by kernel_rfl) ?_; conv => whnf) | (refine CallC.r ?_; conv => whnf)))
    | (refine Br.mk (fun h => absurd h (by simp)) (fun _ => ?_); ((conv => whnf); repeat first | (refine Br.no ?_; conv => whnf) | (refine Br.yes ?_; conv => whnf) | (refine Pick.draw rfl (by kernel_rfl) ?_; conv => whnf) | (refine Pick.drawM (by kernel_rfl) ?_; conv => whnf) | (refine CallC.r ?_; conv => whnf)))
  exact ResOK.same rfl

end Go.Proofs.Ytaplnfcnajpmgaa.Pi
