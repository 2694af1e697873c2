/- What the law FnExactSameWorld answers, the size of whose arguments it looks at first: true. The statement is drawn from it in the next text. -/
import Derived.Test.YtcgoalegobkgaaaPiU2
import Derived.Test.YtcgoalegobkgaaaPiFSameWorld
namespace Go.Proofs.Ytcgoalegobkgaaa.Pi
open Go
set_option maxRecDepth 10000
set_option linter.unusedVariables false

theorem sat_law (x : World) (y : World) (o_x : Enc.ok x) (o_y : Enc.ok y) : Sat Try.prog 13 [(true, Enc.enc x), (true, Enc.enc y)] (.one (.c (.bool true)), []) := by
  refine Sat.intro tok mixed Try.func13 rfl rfl ?_
  ((conv => whnf); repeat first | (refine Br.no ?_; conv => whnf) | (refine Br.yes ?_; conv => whnf) | (refine Pick.draw (by kernel_rfl) ?_; conv => whnf))
  have hz := z_World x 1048576 o_x (by omega) (by omega)
  have hq1 := szR_or 1048576 (Enc.wt x)
  generalize szR 1048576 (Enc.wt x) = q1 at hz hq1
  refine Pick.mk _ hz ?_
  ((conv => whnf); repeat first | (refine Br.no ?_; conv => whnf) | (refine Br.yes ?_; conv => whnf) | (refine Pick.draw (by kernel_rfl) ?_; conv => whnf))
  refine Br.mk (fun h1 => ?_) (fun h1 => ?_) <;> ((conv => whnf); repeat first | (refine Br.no ?_; conv => whnf) | (refine Br.yes ?_; conv => whnf) | (refine Pick.draw (by kernel_rfl) ?_; conv => whnf))
  · exact ResOK.same rfl
  simp at h1
  have hz := z_World y q1 o_y (by omega) (by omega)
  have hq2 := szR_or q1 (Enc.wt y)
  generalize szR q1 (Enc.wt y) = q2 at hz hq2
  refine Pick.mk _ hz ?_
  ((conv => whnf); repeat first | (refine Br.no ?_; conv => whnf) | (refine Br.yes ?_; conv => whnf) | (refine Pick.draw (by kernel_rfl) ?_; conv => whnf))
  refine Br.mk (fun h2 => ?_) (fun h2 => ?_) <;> ((conv => whnf); repeat first | (refine Br.no ?_; conv => whnf) | (refine Br.yes ?_; conv => whnf) | (refine Pick.draw (by kernel_rfl) ?_; conv => whnf))
  · exact ResOK.same rfl
  simp at h2
  have hb_x : Enc.wt x ≤ 1048576 := by omega
  have hb_y : Enc.wt y ≤ 1048576 := by omega
  repeat first
    | (refine Pick.mk _ (c_World x hb_x) ?_; ((conv => whnf); repeat first | (refine Br.no ?_; conv => whnf) | (refine Br.yes ?_; conv => whnf) | (refine Pick.draw (by kernel_rfl) ?_; conv => whnf)))
    | (refine Pick.mk _ (e_World x (by omega)) ?_; ((conv => whnf); repeat first | (refine Br.no ?_; conv => whnf) | (refine Br.yes ?_; conv => whnf) | (refine Pick.draw (by kernel_rfl) ?_; conv => whnf)))
    | (refine Pick.mk _ (c_World y hb_y) ?_; ((conv => whnf); repeat first | (refine Br.no ?_; conv => whnf) | (refine Br.yes ?_; conv => whnf) | (refine Pick.draw (by kernel_rfl) ?_; conv => whnf)))
    | (refine Pick.mk _ (e_World y (by omega)) ?_; ((conv => whnf); repeat first | (refine Br.no ?_; conv => whnf) | (refine Br.yes ?_; conv => whnf) | (refine Pick.draw (by kernel_rfl) ?_; conv => whnf)))
    | (refine Pick.mk _ (s_spec_SameWorld x y o_x) ?_; ((conv => whnf); repeat first | (refine Br.no ?_; conv => whnf) | (refine Br.yes ?_; conv => whnf) | (refine Pick.draw (by kernel_rfl) ?_; conv => whnf)))
    | (refine Pick.mk _ (s_impl_SameWorld x y o_x) ?_; ((conv => whnf); repeat first | (refine Br.no ?_; conv => whnf) | (refine Br.yes ?_; conv => whnf) | (refine Pick.draw (by kernel_rfl) ?_; conv => whnf)))
    | (refine Br.no ?_; ((conv => whnf); repeat first | (refine Br.no ?_; conv => whnf) | (refine Br.yes ?_; conv => whnf) | (refine Pick.draw (by kernel_rfl) ?_; conv => whnf)))
    | (refine Br.mk (fun h => absurd h (by simp)) (fun _ => ?_); ((conv => whnf); repeat first | (refine Br.no ?_; conv => whnf) | (refine Br.yes ?_; conv => whnf) | (refine Pick.draw (by kernel_rfl) ?_; conv => whnf)))
  exact ResOK.same rfl

end Go.Proofs.Ytcgoalegobkgaaa.Pi
