/- What the law FnExactDepthOf answers, the size of whose arguments it looks at first: true. The statement is drawn from it in the next text. -/
import Derived.Test.YtcgoalegobkgaaaPiFDepth
import Derived.Test.YtcgoalegobkgaaaPiM4
namespace Go.Proofs.Ytcgoalegobkgaaa.Pi
open Go
set_option maxRecDepth 10000
set_option linter.unusedVariables false

theorem sat_law (xs : List Item) (t : ByteArray) (o_xs : Enc.ok xs) (o_t : Enc.ok t) : Sat Try.prog 10 [(false, Enc.enc xs), (false, Enc.enc t)] (.one (.c (.bool true)), []) := by
  refine Sat.intro tok mixed Try.func10 rfl rfl ?_
  ((conv => whnf); repeat first | (refine Br.no ?_; conv => whnf) | (refine Br.yes ?_; conv => whnf) | (refine Pick.draw (by kernel_rfl) ?_; conv => whnf))
  have m_t : t.size ≤ maxLen := o_t
  simp only [maxLen] at m_t
  refine Br.mk (fun g1 => ?_) (fun g1 => ?_) <;> ((conv => whnf); repeat first | (refine Br.no ?_; conv => whnf) | (refine Br.yes ?_; conv => whnf) | (refine Pick.draw (by kernel_rfl) ?_; conv => whnf))
  · exact ResOK.same rfl
  simp at g1
  have hb_t : t.size ≤ 1048576 := by omega
  have hz := z_ItemS xs 1048576 o_xs (by omega) (by omega)
  have hq2 := szR_or 1048576 (Enc.wt xs)
  generalize szR 1048576 (Enc.wt xs) = q2 at hz hq2
  refine Pick.mk _ hz ?_
  ((conv => whnf); repeat first | (refine Br.no ?_; conv => whnf) | (refine Br.yes ?_; conv => whnf) | (refine Pick.draw (by kernel_rfl) ?_; conv => whnf))
  refine Br.mk (fun h2 => ?_) (fun h2 => ?_) <;> ((conv => whnf); repeat first | (refine Br.no ?_; conv => whnf) | (refine Br.yes ?_; conv => whnf) | (refine Pick.draw (by kernel_rfl) ?_; conv => whnf))
  · exact ResOK.same rfl
  simp at h2
  have hb_xs : Enc.wt xs ≤ 1048576 := by omega
  repeat first
    | (refine Pick.mk _ (c_ItemS xs hb_xs) ?_; ((conv => whnf); repeat first | (refine Br.no ?_; conv => whnf) | (refine Br.yes ?_; conv => whnf) | (refine Pick.draw (by kernel_rfl) ?_; conv => whnf)))
    | (refine Pick.mk _ (e_ItemS xs (by omega)) ?_; ((conv => whnf); repeat first | (refine Br.no ?_; conv => whnf) | (refine Br.yes ?_; conv => whnf) | (refine Pick.draw (by kernel_rfl) ?_; conv => whnf)))
    | (refine Pick.mk _ (s_spec_DepthOf xs o_xs t) ?_; ((conv => whnf); repeat first | (refine Br.no ?_; conv => whnf) | (refine Br.yes ?_; conv => whnf) | (refine Pick.draw (by kernel_rfl) ?_; conv => whnf)))
    | (refine Pick.mk _ (s_impl_DepthOf xs o_xs (Nat.le_trans (lenwt_ItemS xs) hb_xs) t) ?_; ((conv => whnf); repeat first | (refine Br.no ?_; conv => whnf) | (refine Br.yes ?_; conv => whnf) | (refine Pick.draw (by kernel_rfl) ?_; conv => whnf)))
    | (refine Br.no ?_; ((conv => whnf); repeat first | (refine Br.no ?_; conv => whnf) | (refine Br.yes ?_; conv => whnf) | (refine Pick.draw (by kernel_rfl) ?_; conv => whnf)))
    | (refine Br.mk (fun h => absurd h (by simp)) (fun _ => ?_); ((conv => whnf); repeat first | (refine Br.no ?_; conv => whnf) | (refine Br.yes ?_; conv => whnf) | (refine Pick.draw (by kernel_rfl) ?_; conv => whnf)))
  exact ResOK.same rfl

end Go.Proofs.Ytcgoalegobkgaaa.Pi
