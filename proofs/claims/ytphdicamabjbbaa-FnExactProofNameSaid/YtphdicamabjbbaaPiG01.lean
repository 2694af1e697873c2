/- What the law's function over ProofName answers: true. The statement itself is drawn from it in the next text. -/
import Derived.Test.YtphdicamabjbbaaPiEnc
import Derived.Test.YtphdicamabjbbaaPiF01
namespace Go.Proofs.Ytphdicamabjbbaa.Pi
open Go
set_option maxRecDepth 10000

theorem sat_law (k : Int) (h : Enc.ok k) : Sat Try.prog 3 [(false, Enc.enc k)] (.one (.c (.bool true)), []) := by
  refine Sat.intro tok mixed Try.func3 rfl rfl ?_
  conv => whnf
  refine Pick.mk _ (s_spec_ProofName k) ?_
  conv => whnf
  refine Pick.mk _ (s_impl_ProofName k h.1 h.2) ?_
  conv => whnf
  refine Br.mk (fun h => ?_) (fun h => ?_) <;> conv => whnf
  · simp at h
  · exact ResOK.same rfl

end Go.Proofs.Ytphdicamabjbbaa.Pi
