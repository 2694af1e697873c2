/- What the law's function over SameState answers: true. No statement of the seat is proved here. -/
import Derived.Test.YtphdicamabjbbaaPiFSameState
namespace Go.Proofs.Ytphdicamabjbbaa.Pi
open Go
set_option maxRecDepth 10000
set_option linter.unusedVariables false

theorem sat_law (xs ys : List Setting) (hx : Enc.ok xs) (hy : Enc.ok ys) : Sat Try.prog 4 [(false, Enc.enc xs), (false, Enc.enc ys)] (.one (.c (.bool true)), []) := by
  refine Sat.intro tok mixed Try.func4 rfl rfl ?_
  conv => whnf
  have hz := z_SettingS xs 1048576 hx (by omega) (by omega)
  have hq := szR_or 1048576 (Enc.wt xs)
  generalize szR 1048576 (Enc.wt xs) = q at hz hq
  refine Pick.mk _ hz ?_
  conv => whnf
  refine Br.mk (fun h => ?_) (fun h => ?_) <;> conv => whnf
  · exact ResOK.same rfl
  simp at h
  have hz := z_SettingS ys q hy (by omega) (by omega)
  have hq2 := szR_or q (Enc.wt ys)
  generalize szR q (Enc.wt ys) = q2 at hz hq2
  refine Pick.mk _ hz ?_
  conv => whnf
  refine Br.mk (fun h2 => ?_) (fun h2 => ?_) <;> conv => whnf
  · exact ResOK.same rfl
  simp at h2
  have hbx : xs.length ≤ 1048576 := by have := wt_list xs; omega
  have hby : ys.length ≤ 1048576 := by have := wt_list ys; omega
  refine Pick.mk _ (c_SettingS xs hbx) ?_
  conv => whnf
  refine Pick.mk _ (c_SettingS ys hby) ?_
  conv => whnf
  refine Pick.mk _ (s_spec_SameState xs ys hbx) ?_
  conv => whnf
  refine Pick.mk _ (c_SettingS xs hbx) ?_
  conv => whnf
  refine Pick.mk _ (c_SettingS ys hby) ?_
  conv => whnf
  refine Pick.mk _ (s_impl_SameState xs ys hbx) ?_
  conv => whnf
  refine Br.mk (fun h => ?_) (fun h => ?_) <;> conv => whnf
  · simp at h
  refine Pick.mk _ (c_SettingS xs hbx) ?_
  conv => whnf
  refine Pick.mk _ (e_SettingS xs hbx) ?_
  conv => whnf
  refine Br.no ?_
  conv => whnf
  refine Pick.mk _ (c_SettingS ys hby) ?_
  conv => whnf
  refine Pick.mk _ (e_SettingS ys hby) ?_
  conv => whnf
  refine Br.no ?_
  conv => whnf
  exact ResOK.same rfl
end Go.Proofs.Ytphdicamabjbbaa.Pi
