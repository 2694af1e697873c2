/- What the law FnExactCommitState answers, the size of whose arguments it looks at first: true. The statement is drawn from it in the next text. -/
import Derived.Test.YtcgoalegobkgaaaPiFCommit
import Derived.Test.YtcgoalegobkgaaaPiM4
namespace Go.Proofs.Ytcgoalegobkgaaa.Pi
open Go
set_option maxRecDepth 10000
set_option linter.unusedVariables false

theorem sat_law (xs : List Version) (parent : Int) (memo : ByteArray) (st : List Setting) (o_xs : Enc.ok xs) (o_parent : Enc.ok parent) (o_memo : Enc.ok memo) (o_st : Enc.ok st) : Sat Try.prog 11 [(false, Enc.enc xs), (false, Enc.enc parent), (false, Enc.enc memo), (false, Enc.enc st)] (.one (.c (.bool true)), []) := by
  refine Sat.intro tok mixed Try.func11 rfl rfl ?_
  ((conv => whnf); repeat first | (refine Br.no ?_; conv => whnf) | (refine Br.yes ?_; conv => whnf) | (refine Pick.draw (by kernel_rfl) ?_; conv => whnf))
  have m_memo : memo.size ≤ maxLen := o_memo
  simp only [maxLen] at m_memo
  refine Br.mk (fun g1 => ?_) (fun g1 => ?_) <;> ((conv => whnf); repeat first | (refine Br.no ?_; conv => whnf) | (refine Br.yes ?_; conv => whnf) | (refine Pick.draw (by kernel_rfl) ?_; conv => whnf))
  · exact ResOK.same rfl
  simp at g1
  have hb_memo : memo.size ≤ 1048576 := by omega
  have hz := z_VersionS xs 1048576 o_xs (by omega) (by omega)
  have hq2 := szR_or 1048576 (Enc.wt xs)
  generalize szR 1048576 (Enc.wt xs) = q2 at hz hq2
  refine Pick.mk _ hz ?_
  ((conv => whnf); repeat first | (refine Br.no ?_; conv => whnf) | (refine Br.yes ?_; conv => whnf) | (refine Pick.draw (by kernel_rfl) ?_; conv => whnf))
  refine Br.mk (fun g2 => ?_) (fun g2 => ?_) <;> ((conv => whnf); repeat first | (refine Br.no ?_; conv => whnf) | (refine Br.yes ?_; conv => whnf) | (refine Pick.draw (by kernel_rfl) ?_; conv => whnf))
  · exact ResOK.same rfl
  simp at g2
  have hz := z_SettingS st q2 o_st (by omega) (by omega)
  have hq3 := szR_or q2 (Enc.wt st)
  generalize szR q2 (Enc.wt st) = q3 at hz hq3
  refine Pick.mk _ hz ?_
  ((conv => whnf); repeat first | (refine Br.no ?_; conv => whnf) | (refine Br.yes ?_; conv => whnf) | (refine Pick.draw (by kernel_rfl) ?_; conv => whnf))
  refine Br.mk (fun g3 => ?_) (fun g3 => ?_) <;> ((conv => whnf); repeat first | (refine Br.no ?_; conv => whnf) | (refine Br.yes ?_; conv => whnf) | (refine Pick.draw (by kernel_rfl) ?_; conv => whnf))
  · exact ResOK.same rfl
  simp at g3
  have hb_xs : Enc.wt xs ≤ 1048576 := by omega
  have hc_xs := cntwt_VersionS xs
  have hl_xs := lenwt_VersionS xs
  have hb_st : Enc.wt st ≤ 1048576 := by omega
  have hc_st := cntwt_SettingS st
  have hl_st := lenwt_SettingS st
  have hr1 := commitOf_wt xs parent memo st hb_memo hb_xs hb_st
  have hr2 := cntwt_VersionS (commitOf xs parent memo st).1
  have hr3 := lenwt_VersionS (commitOf xs parent memo st).1
  refine Pick.mk _ (c_VersionS xs hb_xs) ?_
  ((conv => whnf); repeat first | (refine Br.no ?_; conv => whnf) | (refine Br.yes ?_; conv => whnf) | (refine Pick.draw (by kernel_rfl) ?_; conv => whnf))
  refine Pick.mk _ (c_SettingS st hb_st) ?_
  ((conv => whnf); repeat first | (refine Br.no ?_; conv => whnf) | (refine Br.yes ?_; conv => whnf) | (refine Pick.draw (by kernel_rfl) ?_; conv => whnf))
  refine Pick.mk _ (s_spec_CommitState xs o_xs hb_xs parent memo o_memo st o_st) ?_
  ((conv => whnf); repeat first | (refine Br.no ?_; conv => whnf) | (refine Br.yes ?_; conv => whnf) | (refine Pick.draw (by kernel_rfl) ?_; conv => whnf))
  refine Pick.mk _ (d_VersionS xs hb_xs) ?_
  ((conv => whnf); repeat first | (refine Br.no ?_; conv => whnf) | (refine Br.yes ?_; conv => whnf) | (refine Pick.draw (by kernel_rfl) ?_; conv => whnf))
  refine Pick.mk _ (d_SettingS st hb_st) ?_
  ((conv => whnf); repeat first | (refine Br.no ?_; conv => whnf) | (refine Br.yes ?_; conv => whnf) | (refine Pick.draw (by kernel_rfl) ?_; conv => whnf))
  refine Pick.mk false trivial ?_
  ((conv => whnf); repeat first | (refine Br.no ?_; conv => whnf) | (refine Br.yes ?_; conv => whnf) | (refine Pick.draw (by kernel_rfl) ?_; conv => whnf))
  refine Pick.mk _ (s_impl_CommitState xs o_xs hb_xs parent memo o_memo st o_st) ?_
  ((conv => whnf); repeat first | (refine Br.no ?_; conv => whnf) | (refine Br.yes ?_; conv => whnf) | (refine Pick.draw (by kernel_rfl) ?_; conv => whnf))
  refine Pick.mk false trivial ?_
  ((conv => whnf); repeat first | (refine Br.no ?_; conv => whnf) | (refine Br.yes ?_; conv => whnf) | (refine Pick.draw (by kernel_rfl) ?_; conv => whnf))
  refine Pick.mk _ (e_VersionS (commitOf xs parent memo st).1 (by omega)) ?_
  ((conv => whnf); repeat first | (refine Br.no ?_; conv => whnf) | (refine Br.yes ?_; conv => whnf) | (refine Pick.draw (by kernel_rfl) ?_; conv => whnf))
  repeat (refine Br.mk (fun h => absurd h (by first | (simp; done) | (simp <;> omega))) (fun _ => ?_); ((conv => whnf); repeat first | (refine Br.no ?_; conv => whnf) | (refine Br.yes ?_; conv => whnf) | (refine Pick.draw (by kernel_rfl) ?_; conv => whnf)))
  refine Pick.mk _ (c_VersionS xs hb_xs) ?_
  ((conv => whnf); repeat first | (refine Br.no ?_; conv => whnf) | (refine Br.yes ?_; conv => whnf) | (refine Pick.draw (by kernel_rfl) ?_; conv => whnf))
  refine Pick.mk false trivial ?_
  ((conv => whnf); repeat first | (refine Br.no ?_; conv => whnf) | (refine Br.yes ?_; conv => whnf) | (refine Pick.draw (by kernel_rfl) ?_; conv => whnf))
  refine Pick.mk _ (e_VersionS xs (by omega)) ?_
  ((conv => whnf); repeat first | (refine Br.no ?_; conv => whnf) | (refine Br.yes ?_; conv => whnf) | (refine Pick.draw (by kernel_rfl) ?_; conv => whnf))
  refine Pick.mk _ (c_SettingS st hb_st) ?_
  ((conv => whnf); repeat first | (refine Br.no ?_; conv => whnf) | (refine Br.yes ?_; conv => whnf) | (refine Pick.draw (by kernel_rfl) ?_; conv => whnf))
  refine Pick.mk false trivial ?_
  ((conv => whnf); repeat first | (refine Br.no ?_; conv => whnf) | (refine Br.yes ?_; conv => whnf) | (refine Pick.draw (by kernel_rfl) ?_; conv => whnf))
  refine Pick.mk _ (e_SettingS st (by omega)) ?_
  ((conv => whnf); repeat first | (refine Br.no ?_; conv => whnf) | (refine Br.yes ?_; conv => whnf) | (refine Pick.draw (by kernel_rfl) ?_; conv => whnf))
  refine Pick.mk true trivial ?_
  ((conv => whnf); repeat first | (refine Br.no ?_; conv => whnf) | (refine Br.yes ?_; conv => whnf) | (refine Pick.draw (by kernel_rfl) ?_; conv => whnf))
  refine Pick.mk _ (m_VersionS true xs (1) (by omega) (by omega) (by omega) (bigwt_VersionS xs (by omega))) ?_
  ((conv => whnf); repeat first | (refine Br.no ?_; conv => whnf) | (refine Br.yes ?_; conv => whnf) | (refine Pick.draw (by kernel_rfl) ?_; conv => whnf))
  refine Side.mk (by simp [mkL_length]) ?_
  ((conv => whnf); repeat first | (refine Br.no ?_; conv => whnf) | (refine Br.yes ?_; conv => whnf) | (refine Pick.draw (by kernel_rfl) ?_; conv => whnf))
  refine Pick.mk true trivial ?_
  ((conv => whnf); repeat first | (refine Br.no ?_; conv => whnf) | (refine Br.yes ?_; conv => whnf) | (refine Pick.draw (by kernel_rfl) ?_; conv => whnf))
  refine Pick.mk _ (m_SettingS true st (1 + Mk.cnt xs) (by omega) (by omega) (by omega)) ?_
  ((conv => whnf); repeat first | (refine Br.no ?_; conv => whnf) | (refine Br.yes ?_; conv => whnf) | (refine Pick.draw (by kernel_rfl) ?_; conv => whnf))
  refine Side.mk (by simp [mkL_length]) ?_
  ((conv => whnf); repeat first | (refine Br.no ?_; conv => whnf) | (refine Br.yes ?_; conv => whnf) | (refine Pick.draw (by kernel_rfl) ?_; conv => whnf))
  repeat (refine Br.mk (fun h => absurd h (by first | (simp; done) | (simp <;> omega))) (fun _ => ?_); ((conv => whnf); repeat first | (refine Br.no ?_; conv => whnf) | (refine Br.yes ?_; conv => whnf) | (refine Pick.draw (by kernel_rfl) ?_; conv => whnf)))
  refine Pick.mk false trivial ?_
  ((conv => whnf); repeat first | (refine Br.no ?_; conv => whnf) | (refine Br.yes ?_; conv => whnf) | (refine Pick.draw (by kernel_rfl) ?_; conv => whnf))
  refine Pick.mk _ (e_VersionS (commitOf xs parent memo st).1 (by omega)) ?_
  ((conv => whnf); repeat first | (refine Br.no ?_; conv => whnf) | (refine Br.yes ?_; conv => whnf) | (refine Pick.draw (by kernel_rfl) ?_; conv => whnf))
  repeat (refine Br.mk (fun h => absurd h (by first | (simp; done) | (simp <;> omega))) (fun _ => ?_); ((conv => whnf); repeat first | (refine Br.no ?_; conv => whnf) | (refine Br.yes ?_; conv => whnf) | (refine Pick.draw (by kernel_rfl) ?_; conv => whnf)))
  refine Pick.mk true trivial ?_
  ((conv => whnf); repeat first | (refine Br.no ?_; conv => whnf) | (refine Br.yes ?_; conv => whnf) | (refine Pick.draw (by kernel_rfl) ?_; conv => whnf))
  refine Pick.mk _ (m_VersionS true (commitOf xs parent memo st).1 (1) (by omega) (by omega) (by omega) (bigwt_VersionS (commitOf xs parent memo st).1 (by omega))) ?_
  ((conv => whnf); repeat first | (refine Br.no ?_; conv => whnf) | (refine Br.yes ?_; conv => whnf) | (refine Pick.draw (by kernel_rfl) ?_; conv => whnf))
  refine Side.mk (by simp [mkL_length]) ?_
  ((conv => whnf); repeat first | (refine Br.no ?_; conv => whnf) | (refine Br.yes ?_; conv => whnf) | (refine Pick.draw (by kernel_rfl) ?_; conv => whnf))
  refine Pick.mk false trivial ?_
  ((conv => whnf); repeat first | (refine Br.no ?_; conv => whnf) | (refine Br.yes ?_; conv => whnf) | (refine Pick.draw (by kernel_rfl) ?_; conv => whnf))
  refine Pick.mk _ (h_VersionS (commitOf xs parent memo st).1 (1) (by omega) (by omega) (by omega) (bigwt_VersionS (commitOf xs parent memo st).1 (by omega))) ?_
  ((conv => whnf); repeat first | (refine Br.no ?_; conv => whnf) | (refine Br.yes ?_; conv => whnf) | (refine Pick.draw (by kernel_rfl) ?_; conv => whnf))
  repeat (refine Br.mk (fun h => absurd h (by first | (simp; done) | (simp <;> omega))) (fun _ => ?_); ((conv => whnf); repeat first | (refine Br.no ?_; conv => whnf) | (refine Br.yes ?_; conv => whnf) | (refine Pick.draw (by kernel_rfl) ?_; conv => whnf)))
  repeat (refine Br.mk (fun h => absurd h (by first | (simp; done) | (simp <;> omega))) (fun _ => ?_); ((conv => whnf); repeat first | (refine Br.no ?_; conv => whnf) | (refine Br.yes ?_; conv => whnf) | (refine Pick.draw (by kernel_rfl) ?_; conv => whnf)))
  refine Pick.mk _ (c_VersionS xs hb_xs) ?_
  ((conv => whnf); repeat first | (refine Br.no ?_; conv => whnf) | (refine Br.yes ?_; conv => whnf) | (refine Pick.draw (by kernel_rfl) ?_; conv => whnf))
  refine Pick.mk _ (c_SettingS st hb_st) ?_
  ((conv => whnf); repeat first | (refine Br.no ?_; conv => whnf) | (refine Br.yes ?_; conv => whnf) | (refine Pick.draw (by kernel_rfl) ?_; conv => whnf))
  refine Pick.mk _ (s_impl_CommitState xs o_xs hb_xs parent memo o_memo st o_st) ?_
  ((conv => whnf); repeat first | (refine Br.no ?_; conv => whnf) | (refine Br.yes ?_; conv => whnf) | (refine Pick.draw (by kernel_rfl) ?_; conv => whnf))
  refine Pick.mk false trivial ?_
  ((conv => whnf); repeat first | (refine Br.no ?_; conv => whnf) | (refine Br.yes ?_; conv => whnf) | (refine Pick.draw (by kernel_rfl) ?_; conv => whnf))
  refine Pick.mk _ (e_VersionS (commitOf xs parent memo st).1 (by omega)) ?_
  ((conv => whnf); repeat first | (refine Br.no ?_; conv => whnf) | (refine Br.yes ?_; conv => whnf) | (refine Pick.draw (by kernel_rfl) ?_; conv => whnf))
  repeat (refine Br.mk (fun h => absurd h (by first | (simp; done) | (simp <;> omega))) (fun _ => ?_); ((conv => whnf); repeat first | (refine Br.no ?_; conv => whnf) | (refine Br.yes ?_; conv => whnf) | (refine Pick.draw (by kernel_rfl) ?_; conv => whnf)))
  refine Pick.mk false trivial ?_
  ((conv => whnf); repeat first | (refine Br.no ?_; conv => whnf) | (refine Br.yes ?_; conv => whnf) | (refine Pick.draw (by kernel_rfl) ?_; conv => whnf))
  refine Pick.mk _ (h_VersionS (commitOf xs parent memo st).1 (1) (by omega) (by omega) (by omega) (bigwt_VersionS (commitOf xs parent memo st).1 (by omega))) ?_
  ((conv => whnf); repeat first | (refine Br.no ?_; conv => whnf) | (refine Br.yes ?_; conv => whnf) | (refine Pick.draw (by kernel_rfl) ?_; conv => whnf))
  repeat (refine Br.mk (fun h => absurd h (by first | (simp; done) | (simp <;> omega))) (fun _ => ?_); ((conv => whnf); repeat first | (refine Br.no ?_; conv => whnf) | (refine Br.yes ?_; conv => whnf) | (refine Pick.draw (by kernel_rfl) ?_; conv => whnf)))
  repeat (refine Br.mk (fun h => absurd h (by first | (simp; done) | (simp <;> omega))) (fun _ => ?_); ((conv => whnf); repeat first | (refine Br.no ?_; conv => whnf) | (refine Br.yes ?_; conv => whnf) | (refine Pick.draw (by kernel_rfl) ?_; conv => whnf)))
  exact ResOK.same rfl

end Go.Proofs.Ytcgoalegobkgaaa.Pi
