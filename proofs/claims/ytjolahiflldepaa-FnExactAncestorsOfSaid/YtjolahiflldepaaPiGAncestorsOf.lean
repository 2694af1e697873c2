/- What the law FnExactAncestorsOf answers, the size of whose arguments it looks at first: true. The statement is drawn from it in the next text. -/
import Derived.Test.YtjolahiflldepaaPiFAnc
import Derived.Test.YtjolahiflldepaaPiM4
namespace Go.Proofs.Ytjolahiflldepaa.Pi
open Go
set_option maxRecDepth 10000
set_option linter.unusedVariables false

theorem m_Int64SU (z : Int) (xs : List Int) (k : Int) (hk : k + Mk.cnt xs ≤ 1099511627776) (h0 : 0 ≤ k) (hb : xs.length ≤ 1099511627776) :
    SatM Try.prog 13 [.one (.ru 1000000 1 (xs.map (Enc.enc (α := Int))).length), .one (.c (.int .i64 k))] [(1000000, .arr 1 (Enc.enc z :: xs.map Enc.enc))] (.one (.c (.int .i64 (k + Mk.cnt xs))), [(1000000, .arr 1 (Enc.enc z :: (mkL xs k).map Enc.enc))]) := by
  have hc := cnt_list xs
  refine SatM.intro tok mixed Try.func13 rfl rfl ?_
  ((conv => whnf); repeat first | (refine Br.no ?_; conv => whnf) | (refine Br.yes ?_; conv => whnf) | (refine Pick.draw rfl (by kernel_rfl) ?_; conv => whnf) | (refine Pick.drawM (by kernel_rfl) ?_; conv => whnf) | (refine CallC.r ?_; conv => whnf))
  refine Pick.mk [0, 1, 5] trivial ?_
  ((conv => whnf); repeat first | (refine Br.no ?_; conv => whnf) | (refine Br.yes ?_; conv => whnf) | (refine Pick.draw rfl (by kernel_rfl) ?_; conv => whnf) | (refine Pick.drawM (by kernel_rfl) ?_; conv => whnf) | (refine CallC.r ?_; conv => whnf))
  refine LoopL.run (fun i : Nat => St.mk [.one (.ru 1000000 1 (xs.map (Enc.enc (α := Int))).length), .one (.c (.int .i64 (k + cnts xs i))), .one .dead, .one .dead, .one .dead, .one (.c (.int .i64 i)), .one .dead, .one .dead, .one .dead, .one .dead, .one .dead, .one .dead, .one .dead, .one .dead, .one .dead, .one .dead, .one .dead, .one .dead, .one .dead] [(1000000, .arr 1 (Enc.enc z :: part xs k i))]) (fun i => xs.length - i) (fun i => i ≤ xs.length) ?_ 0 (Nat.zero_le _) (by rw [part_zero, cnts_zero]; simp only [Int.natCast_zero, Int.add_zero] <;> rfl)
  intro i h2 ih
  have hpl := part_length xs k i
  refine pwp_cut fun K hK => ?_
  ((conv => whnf); repeat first | (refine Br.no ?_; conv => whnf) | (refine Br.yes ?_; conv => whnf) | (refine Pick.draw rfl (by kernel_rfl) ?_; conv => whnf) | (refine Pick.drawM (by kernel_rfl) ?_; conv => whnf) | (refine CallC.r ?_; conv => whnf))
  refine Br.mk (fun h => ?_) (fun h => ?_) <;> ((conv => whnf); repeat first | (refine Br.no ?_; conv => whnf) | (refine Br.yes ?_; conv => whnf) | (refine Pick.draw rfl (by kernel_rfl) ?_; conv => whnf) | (refine Pick.drawM (by kernel_rfl) ?_; conv => whnf) | (refine CallC.r ?_; conv => whnf))
  · simp at h
    have e1 := cnts_succ xs i h
    have e2 := cnts_le xs (i + 1)
    have e3 : Mk.cnt xs[i] = 1 := rfl
    refine hK _ ?_
    refine pwp_cut fun K1 hK1 => pwp_into (pwp_cut fun K2 hK2 => ?_)
    ((conv => whnf); repeat first | (refine Br.no ?_; conv => whnf) | (refine Br.yes ?_; conv => whnf) | (refine Pick.draw rfl (by kernel_rfl) ?_; conv => whnf) | (refine Pick.drawM (by kernel_rfl) ?_; conv => whnf) | (refine CallC.r ?_; conv => whnf))
    refine Side.mk (by simp [hpl] <;> omega) ?_
    ((conv => whnf); repeat first | (refine Br.no ?_; conv => whnf) | (refine Br.yes ?_; conv => whnf) | (refine Pick.draw rfl (by kernel_rfl) ?_; conv => whnf) | (refine Pick.drawM (by kernel_rfl) ?_; conv => whnf) | (refine CallC.r ?_; conv => whnf))
    refine hK2 _ ?_
    ((conv => whnf); repeat first | (refine Br.no ?_; conv => whnf) | (refine Br.yes ?_; conv => whnf) | (refine Pick.draw rfl (by kernel_rfl) ?_; conv => whnf) | (refine Pick.drawM (by kernel_rfl) ?_; conv => whnf) | (refine CallC.r ?_; conv => whnf))
    refine Pick.at64 (z := k + cnts xs (i + 1)) (by omega) (by omega) ?_
    ((conv => whnf); repeat first | (refine Br.no ?_; conv => whnf) | (refine Br.yes ?_; conv => whnf) | (refine Pick.draw rfl (by kernel_rfl) ?_; conv => whnf) | (refine Pick.drawM (by kernel_rfl) ?_; conv => whnf) | (refine CallC.r ?_; conv => whnf))
    refine hK1 _ ?_
    ((conv => whnf); repeat first | (refine Br.no ?_; conv => whnf) | (refine Br.yes ?_; conv => whnf) | (refine Pick.draw rfl (by kernel_rfl) ?_; conv => whnf) | (refine Pick.drawM (by kernel_rfl) ?_; conv => whnf) | (refine CallC.r ?_; conv => whnf))
    refine Pick.at64 (z := (i + 1 : Nat)) (by simp) (by omega) ?_
    ((conv => whnf); repeat first | (refine Br.no ?_; conv => whnf) | (refine Br.yes ?_; conv => whnf) | (refine Pick.draw rfl (by kernel_rfl) ?_; conv => whnf) | (refine Pick.drawM (by kernel_rfl) ?_; conv => whnf) | (refine CallC.r ?_; conv => whnf))
    have e : (Enc.enc z :: part xs k i).set (1 + (i : Int).toNat) ([.int .i64 (k + cnts xs i)]) = Enc.enc z :: part xs k (i + 1) := by
      rw [← part_set xs k i h, show 1 + ((i : Int).toNat) = i + 1 by omega]
      rfl
    refine cast (congrArg (fun r => LoopL _ _ _ ⟨_, [(_, .arr 1 r)]⟩) e.symm) (ih (i + 1) (by omega) (by omega))
  · simp at h
    have e1 := part_all xs k i (by omega)
    have e2 := cnts_all xs i (by omega)
    rw [e1, e2, ← hc]

theorem sat_no (xs : List Version) (o_xs : Enc.ok xs) (n : Int) (h : ¬ askC xs [n] = 0) : Sat Try.prog 3 [(false, Enc.enc xs), (false, [.int .i64 n])] (.one (.c (.bool true)), []) := by
  refine Sat.intro tok mixed Try.func3 rfl rfl ?_
  ((conv => whnf); repeat first | (refine Br.no ?_; conv => whnf) | (refine Br.yes ?_; conv => whnf) | (refine Pick.draw rfl (by kernel_rfl) ?_; conv => whnf) | (refine Pick.drawM (by kernel_rfl) ?_; conv => whnf) | (refine CallC.r ?_; conv => whnf))
  have hz := z_VersionS xs 1048576 o_xs (by omega) (by omega)
  have hq1 := szR_or 1048576 (Enc.wt xs)
  generalize szR 1048576 (Enc.wt xs) = q1 at hz hq1
  refine Pick.mk _ hz ?_
  ((conv => whnf); repeat first | (refine Br.no ?_; conv => whnf) | (refine Br.yes ?_; conv => whnf) | (refine Pick.draw rfl (by kernel_rfl) ?_; conv => whnf) | (refine Pick.drawM (by kernel_rfl) ?_; conv => whnf) | (refine CallC.r ?_; conv => whnf))
  refine Br.mk (fun g1 => ?_) (fun g1 => ?_) <;> ((conv => whnf); repeat first | (refine Br.no ?_; conv => whnf) | (refine Br.yes ?_; conv => whnf) | (refine Pick.draw rfl (by kernel_rfl) ?_; conv => whnf) | (refine Pick.drawM (by kernel_rfl) ?_; conv => whnf) | (refine CallC.r ?_; conv => whnf))
  · exact ResOK.same rfl
  simp at g1
  have hb_xs : Enc.wt xs ≤ 1048576 := by omega
  have hc_xs := cntwt_VersionS xs
  have hl_xs := lenwt_VersionS xs
  have hs := s_spec_AncestorsOf xs o_xs n
  rw [ancOf_no h] at hs
  refine Pick.mk _ (c_VersionS xs hb_xs) ?_
  ((conv => whnf); repeat first | (refine Br.no ?_; conv => whnf) | (refine Br.yes ?_; conv => whnf) | (refine Pick.draw rfl (by kernel_rfl) ?_; conv => whnf) | (refine Pick.drawM (by kernel_rfl) ?_; conv => whnf) | (refine CallC.r ?_; conv => whnf))
  refine Pick.mk _ (hs) ?_
  ((conv => whnf); repeat first | (refine Br.no ?_; conv => whnf) | (refine Br.yes ?_; conv => whnf) | (refine Pick.draw rfl (by kernel_rfl) ?_; conv => whnf) | (refine Pick.drawM (by kernel_rfl) ?_; conv => whnf) | (refine CallC.r ?_; conv => whnf))
  refine Pick.mk _ (d_VersionS xs hb_xs) ?_
  ((conv => whnf); repeat first | (refine Br.no ?_; conv => whnf) | (refine Br.yes ?_; conv => whnf) | (refine Pick.draw rfl (by kernel_rfl) ?_; conv => whnf) | (refine Pick.drawM (by kernel_rfl) ?_; conv => whnf) | (refine CallC.r ?_; conv => whnf))
  refine Pick.mk false trivial ?_
  ((conv => whnf); repeat first | (refine Br.no ?_; conv => whnf) | (refine Br.yes ?_; conv => whnf) | (refine Pick.draw rfl (by kernel_rfl) ?_; conv => whnf) | (refine Pick.drawM (by kernel_rfl) ?_; conv => whnf) | (refine CallC.r ?_; conv => whnf))
  refine Pick.mk _ (s_impl_AncNo xs o_xs n h) ?_
  ((conv => whnf); repeat first | (refine Br.no ?_; conv => whnf) | (refine Br.yes ?_; conv => whnf) | (refine Pick.draw rfl (by kernel_rfl) ?_; conv => whnf) | (refine Pick.drawM (by kernel_rfl) ?_; conv => whnf) | (refine CallC.r ?_; conv => whnf))
  refine Pick.mk false trivial ?_
  ((conv => whnf); repeat first | (refine Br.no ?_; conv => whnf) | (refine Br.yes ?_; conv => whnf) | (refine Pick.draw rfl (by kernel_rfl) ?_; conv => whnf) | (refine Pick.drawM (by kernel_rfl) ?_; conv => whnf) | (refine CallC.r ?_; conv => whnf))
  refine Pick.mk _ (e_Int64S [] (by decide)) ?_
  ((conv => whnf); repeat first | (refine Br.no ?_; conv => whnf) | (refine Br.yes ?_; conv => whnf) | (refine Pick.draw rfl (by kernel_rfl) ?_; conv => whnf) | (refine Pick.drawM (by kernel_rfl) ?_; conv => whnf) | (refine CallC.r ?_; conv => whnf))
  repeat (refine Br.mk (fun h => absurd h (by first | (simp; done) | (simp <;> omega))) (fun _ => ?_); ((conv => whnf); repeat first | (refine Br.no ?_; conv => whnf) | (refine Br.yes ?_; conv => whnf) | (refine Pick.draw rfl (by kernel_rfl) ?_; conv => whnf) | (refine Pick.drawM (by kernel_rfl) ?_; conv => whnf) | (refine CallC.r ?_; conv => whnf)))
  refine Pick.mk _ (c_VersionS xs hb_xs) ?_
  ((conv => whnf); repeat first | (refine Br.no ?_; conv => whnf) | (refine Br.yes ?_; conv => whnf) | (refine Pick.draw rfl (by kernel_rfl) ?_; conv => whnf) | (refine Pick.drawM (by kernel_rfl) ?_; conv => whnf) | (refine CallC.r ?_; conv => whnf))
  refine Pick.mk false trivial ?_
  ((conv => whnf); repeat first | (refine Br.no ?_; conv => whnf) | (refine Br.yes ?_; conv => whnf) | (refine Pick.draw rfl (by kernel_rfl) ?_; conv => whnf) | (refine Pick.drawM (by kernel_rfl) ?_; conv => whnf) | (refine CallC.r ?_; conv => whnf))
  refine Pick.mk _ (e_VersionS xs (by omega)) ?_
  ((conv => whnf); repeat first | (refine Br.no ?_; conv => whnf) | (refine Br.yes ?_; conv => whnf) | (refine Pick.draw rfl (by kernel_rfl) ?_; conv => whnf) | (refine Pick.drawM (by kernel_rfl) ?_; conv => whnf) | (refine CallC.r ?_; conv => whnf))
  refine Pick.mk true trivial ?_
  ((conv => whnf); repeat first | (refine Br.no ?_; conv => whnf) | (refine Br.yes ?_; conv => whnf) | (refine Pick.draw rfl (by kernel_rfl) ?_; conv => whnf) | (refine Pick.drawM (by kernel_rfl) ?_; conv => whnf) | (refine CallC.r ?_; conv => whnf))
  refine Pick.mk _ (m_VersionS true xs (1) (by omega) (by omega) (by omega) (bigwt_VersionS xs (by omega))) ?_
  ((conv => whnf); repeat first | (refine Br.no ?_; conv => whnf) | (refine Br.yes ?_; conv => whnf) | (refine Pick.draw rfl (by kernel_rfl) ?_; conv => whnf) | (refine Pick.drawM (by kernel_rfl) ?_; conv => whnf) | (refine CallC.r ?_; conv => whnf))
  refine Side.mk (by simp [mkL_length]) ?_
  ((conv => whnf); repeat first | (refine Br.no ?_; conv => whnf) | (refine Br.yes ?_; conv => whnf) | (refine Pick.draw rfl (by kernel_rfl) ?_; conv => whnf) | (refine Pick.drawM (by kernel_rfl) ?_; conv => whnf) | (refine CallC.r ?_; conv => whnf))
  repeat (refine Br.mk (fun h => absurd h (by first | (simp; done) | (simp <;> omega))) (fun _ => ?_); ((conv => whnf); repeat first | (refine Br.no ?_; conv => whnf) | (refine Br.yes ?_; conv => whnf) | (refine Pick.draw rfl (by kernel_rfl) ?_; conv => whnf) | (refine Pick.drawM (by kernel_rfl) ?_; conv => whnf) | (refine CallC.r ?_; conv => whnf)))
  refine Pick.mk false trivial ?_
  ((conv => whnf); repeat first | (refine Br.no ?_; conv => whnf) | (refine Br.yes ?_; conv => whnf) | (refine Pick.draw rfl (by kernel_rfl) ?_; conv => whnf) | (refine Pick.drawM (by kernel_rfl) ?_; conv => whnf) | (refine CallC.r ?_; conv => whnf))
  refine Pick.mk _ (e_Int64S [] (by decide)) ?_
  ((conv => whnf); repeat first | (refine Br.no ?_; conv => whnf) | (refine Br.yes ?_; conv => whnf) | (refine Pick.draw rfl (by kernel_rfl) ?_; conv => whnf) | (refine Pick.drawM (by kernel_rfl) ?_; conv => whnf) | (refine CallC.r ?_; conv => whnf))
  repeat (refine Br.mk (fun h => absurd h (by first | (simp; done) | (simp <;> omega))) (fun _ => ?_); ((conv => whnf); repeat first | (refine Br.no ?_; conv => whnf) | (refine Br.yes ?_; conv => whnf) | (refine Pick.draw rfl (by kernel_rfl) ?_; conv => whnf) | (refine Pick.drawM (by kernel_rfl) ?_; conv => whnf) | (refine CallC.r ?_; conv => whnf)))
  refine Pick.mk true trivial ?_
  ((conv => whnf); repeat first | (refine Br.no ?_; conv => whnf) | (refine Br.yes ?_; conv => whnf) | (refine Pick.draw rfl (by kernel_rfl) ?_; conv => whnf) | (refine Pick.drawM (by kernel_rfl) ?_; conv => whnf) | (refine CallC.r ?_; conv => whnf))
  refine Pick.mk _ (m_Int64S true [] (1) (by simp [cnt_list]) (by omega) (by simp)) ?_
  ((conv => whnf); repeat first | (refine Br.no ?_; conv => whnf) | (refine Br.yes ?_; conv => whnf) | (refine Pick.draw rfl (by kernel_rfl) ?_; conv => whnf) | (refine Pick.drawM (by kernel_rfl) ?_; conv => whnf) | (refine CallC.r ?_; conv => whnf))
  refine Side.mk (by simp [mkL_length]) ?_
  ((conv => whnf); repeat first | (refine Br.no ?_; conv => whnf) | (refine Br.yes ?_; conv => whnf) | (refine Pick.draw rfl (by kernel_rfl) ?_; conv => whnf) | (refine Pick.drawM (by kernel_rfl) ?_; conv => whnf) | (refine CallC.r ?_; conv => whnf))
  refine Pick.mk false trivial ?_
  ((conv => whnf); repeat first | (refine Br.no ?_; conv => whnf) | (refine Br.yes ?_; conv => whnf) | (refine Pick.draw rfl (by kernel_rfl) ?_; conv => whnf) | (refine Pick.drawM (by kernel_rfl) ?_; conv => whnf) | (refine CallC.r ?_; conv => whnf))
  refine Pick.mk _ (h_Int64S [] (1) (by simp [cnt_list]) (by omega) (by simp)) ?_
  ((conv => whnf); repeat first | (refine Br.no ?_; conv => whnf) | (refine Br.yes ?_; conv => whnf) | (refine Pick.draw rfl (by kernel_rfl) ?_; conv => whnf) | (refine Pick.drawM (by kernel_rfl) ?_; conv => whnf) | (refine CallC.r ?_; conv => whnf))
  repeat (refine Br.mk (fun h => absurd h (by first | (simp; done) | (simp <;> omega))) (fun _ => ?_); ((conv => whnf); repeat first | (refine Br.no ?_; conv => whnf) | (refine Br.yes ?_; conv => whnf) | (refine Pick.draw rfl (by kernel_rfl) ?_; conv => whnf) | (refine Pick.drawM (by kernel_rfl) ?_; conv => whnf) | (refine CallC.r ?_; conv => whnf)))
  repeat (refine Br.mk (fun h => absurd h (by first | (simp; done) | (simp <;> omega))) (fun _ => ?_); ((conv => whnf); repeat first | (refine Br.no ?_; conv => whnf) | (refine Br.yes ?_; conv => whnf) | (refine Pick.draw rfl (by kernel_rfl) ?_; conv => whnf) | (refine Pick.drawM (by kernel_rfl) ?_; conv => whnf) | (refine CallC.r ?_; conv => whnf)))
  refine Pick.mk _ (c_VersionS xs hb_xs) ?_
  ((conv => whnf); repeat first | (refine Br.no ?_; conv => whnf) | (refine Br.yes ?_; conv => whnf) | (refine Pick.draw rfl (by kernel_rfl) ?_; conv => whnf) | (refine Pick.drawM (by kernel_rfl) ?_; conv => whnf) | (refine CallC.r ?_; conv => whnf))
  refine Pick.mk _ (s_impl_AncNo xs o_xs n h) ?_
  ((conv => whnf); repeat first | (refine Br.no ?_; conv => whnf) | (refine Br.yes ?_; conv => whnf) | (refine Pick.draw rfl (by kernel_rfl) ?_; conv => whnf) | (refine Pick.drawM (by kernel_rfl) ?_; conv => whnf) | (refine CallC.r ?_; conv => whnf))
  refine Pick.mk false trivial ?_
  ((conv => whnf); repeat first | (refine Br.no ?_; conv => whnf) | (refine Br.yes ?_; conv => whnf) | (refine Pick.draw rfl (by kernel_rfl) ?_; conv => whnf) | (refine Pick.drawM (by kernel_rfl) ?_; conv => whnf) | (refine CallC.r ?_; conv => whnf))
  refine Pick.mk _ (e_Int64S [] (by decide)) ?_
  ((conv => whnf); repeat first | (refine Br.no ?_; conv => whnf) | (refine Br.yes ?_; conv => whnf) | (refine Pick.draw rfl (by kernel_rfl) ?_; conv => whnf) | (refine Pick.drawM (by kernel_rfl) ?_; conv => whnf) | (refine CallC.r ?_; conv => whnf))
  repeat (refine Br.mk (fun h => absurd h (by first | (simp; done) | (simp <;> omega))) (fun _ => ?_); ((conv => whnf); repeat first | (refine Br.no ?_; conv => whnf) | (refine Br.yes ?_; conv => whnf) | (refine Pick.draw rfl (by kernel_rfl) ?_; conv => whnf) | (refine Pick.drawM (by kernel_rfl) ?_; conv => whnf) | (refine CallC.r ?_; conv => whnf)))
  refine Pick.mk false trivial ?_
  ((conv => whnf); repeat first | (refine Br.no ?_; conv => whnf) | (refine Br.yes ?_; conv => whnf) | (refine Pick.draw rfl (by kernel_rfl) ?_; conv => whnf) | (refine Pick.drawM (by kernel_rfl) ?_; conv => whnf) | (refine CallC.r ?_; conv => whnf))
  refine Pick.mk _ (h_Int64S [] (1) (by simp [cnt_list]) (by omega) (by simp)) ?_
  ((conv => whnf); repeat first | (refine Br.no ?_; conv => whnf) | (refine Br.yes ?_; conv => whnf) | (refine Pick.draw rfl (by kernel_rfl) ?_; conv => whnf) | (refine Pick.drawM (by kernel_rfl) ?_; conv => whnf) | (refine CallC.r ?_; conv => whnf))
  repeat (refine Br.mk (fun h => absurd h (by first | (simp; done) | (simp <;> omega))) (fun _ => ?_); ((conv => whnf); repeat first | (refine Br.no ?_; conv => whnf) | (refine Br.yes ?_; conv => whnf) | (refine Pick.draw rfl (by kernel_rfl) ?_; conv => whnf) | (refine Pick.drawM (by kernel_rfl) ?_; conv => whnf) | (refine CallC.r ?_; conv => whnf)))
  repeat (refine Br.mk (fun h => absurd h (by first | (simp; done) | (simp <;> omega))) (fun _ => ?_); ((conv => whnf); repeat first | (refine Br.no ?_; conv => whnf) | (refine Br.yes ?_; conv => whnf) | (refine Pick.draw rfl (by kernel_rfl) ?_; conv => whnf) | (refine Pick.drawM (by kernel_rfl) ?_; conv => whnf) | (refine CallC.r ?_; conv => whnf)))
  exact ResOK.same rfl

theorem sat_ok (xs : List Version) (o_xs : Enc.ok xs) (n : Int) (h : askC xs [n] = 0) : Sat Try.prog 3 [(false, Enc.enc xs), (false, [.int .i64 n])] (.one (.c (.bool true)), []) := by
  refine Sat.intro tok mixed Try.func3 rfl rfl ?_
  ((conv => whnf); repeat first | (refine Br.no ?_; conv => whnf) | (refine Br.yes ?_; conv => whnf) | (refine Pick.draw rfl (by kernel_rfl) ?_; conv => whnf) | (refine Pick.drawM (by kernel_rfl) ?_; conv => whnf) | (refine CallC.r ?_; conv => whnf))
  have hz := z_VersionS xs 1048576 o_xs (by omega) (by omega)
  have hq1 := szR_or 1048576 (Enc.wt xs)
  generalize szR 1048576 (Enc.wt xs) = q1 at hz hq1
  refine Pick.mk _ hz ?_
  ((conv => whnf); repeat first | (refine Br.no ?_; conv => whnf) | (refine Br.yes ?_; conv => whnf) | (refine Pick.draw rfl (by kernel_rfl) ?_; conv => whnf) | (refine Pick.drawM (by kernel_rfl) ?_; conv => whnf) | (refine CallC.r ?_; conv => whnf))
  refine Br.mk (fun g1 => ?_) (fun g1 => ?_) <;> ((conv => whnf); repeat first | (refine Br.no ?_; conv => whnf) | (refine Br.yes ?_; conv => whnf) | (refine Pick.draw rfl (by kernel_rfl) ?_; conv => whnf) | (refine Pick.drawM (by kernel_rfl) ?_; conv => whnf) | (refine CallC.r ?_; conv => whnf))
  · exact ResOK.same rfl
  simp at g1
  have hb_xs : Enc.wt xs ≤ 1048576 := by omega
  have hc_xs := cntwt_VersionS xs
  have hl_xs := lenwt_VersionS xs
  have hs := s_spec_AncestorsOf xs o_xs n
  rw [ancOf_ok h] at hs
  have hal := ancs_len xs n
  have hcn := cnt_list (ancs xs n)
  have hci : Mk.cnt (ancs xs n) = (ancs xs n).length := by
    rw [hcn]
    induction ancs xs n with
    | nil => rfl
    | cons x xs ih => simp only [List.map_cons, List.sum_cons, ih, List.length_cons]; show 1 + _ = _; omega
  have hwa : Enc.wt (ancs xs n) ≤ 1099511627776 := by rw [wt_list, wt_ints]; omega
  have ed : ∀ ys : List Int, ys.length = (ancs xs n).length → (((Enc.enc n :: ys.map (Enc.enc (α := Int))).drop 1).take ((ancs xs n).map (Enc.enc (α := Int))).length) = ys.map Enc.enc := fun ys hy => by
    rw [List.drop_succ_cons, List.drop_zero, List.length_map, ← hy, ← List.length_map (f := Enc.enc (α := Int)), List.take_length]
  have he : Sat Try.prog 10 [(false, [.slice 1 (((Enc.enc n :: (ancs xs n).map Enc.enc).drop 1).take ((ancs xs n).map (Enc.enc (α := Int))).length)]), (false, Enc.enc (ancs xs n))] (.one (.c (.bool true)), []) := by
    rw [ed _ rfl]; exact e_Int64S (ancs xs n) hwa
  have hscl : sclRows (Enc.enc n :: (ancs xs n).map (Enc.enc (α := Int))) := fun r hr c hc => by
    rcases List.mem_cons.1 hr with rfl | hr
    · simp only [Enc.enc, List.mem_singleton] at hc; subst hc; rfl
    · obtain ⟨y, _, rfl⟩ := List.mem_map.1 hr
      simp only [Enc.enc, List.mem_singleton] at hc; subst hc; rfl
  have hh : Sat Try.prog 14 [(false, [.slice 1 (((Enc.enc n :: (mkL (ancs xs n) 1).map Enc.enc).drop 1).take ((ancs xs n).map (Enc.enc (α := Int))).length)]), (false, [.int .i64 1])] (.one (.c (.int .i64 (1 + Mk.cnt (ancs xs n)))), []) := by
    rw [ed _ (mkL_length _ _)]; exact h_Int64S (ancs xs n) 1 (by omega) (by omega) (by omega)
  refine Pick.mk _ (c_VersionS xs hb_xs) ?_
  ((conv => whnf); repeat first | (refine Br.no ?_; conv => whnf) | (refine Br.yes ?_; conv => whnf) | (refine Pick.draw rfl (by kernel_rfl) ?_; conv => whnf) | (refine Pick.drawM (by kernel_rfl) ?_; conv => whnf) | (refine CallC.r ?_; conv => whnf))
  refine Pick.mk _ (hs) ?_
  ((conv => whnf); repeat first | (refine Br.no ?_; conv => whnf) | (refine Br.yes ?_; conv => whnf) | (refine Pick.draw rfl (by kernel_rfl) ?_; conv => whnf) | (refine Pick.drawM (by kernel_rfl) ?_; conv => whnf) | (refine CallC.r ?_; conv => whnf))
  refine Pick.mk _ (d_VersionS xs hb_xs) ?_
  ((conv => whnf); repeat first | (refine Br.no ?_; conv => whnf) | (refine Br.yes ?_; conv => whnf) | (refine Pick.draw rfl (by kernel_rfl) ?_; conv => whnf) | (refine Pick.drawM (by kernel_rfl) ?_; conv => whnf) | (refine CallC.r ?_; conv => whnf))
  refine Pick.mk false trivial ?_
  ((conv => whnf); repeat first | (refine Br.no ?_; conv => whnf) | (refine Br.yes ?_; conv => whnf) | (refine Pick.draw rfl (by kernel_rfl) ?_; conv => whnf) | (refine Pick.drawM (by kernel_rfl) ?_; conv => whnf) | (refine CallC.r ?_; conv => whnf))
  refine Pick.mk _ (s_impl_AncOk xs o_xs n h) ?_
  ((conv => whnf); repeat first | (refine Br.no ?_; conv => whnf) | (refine Br.yes ?_; conv => whnf) | (refine Pick.draw rfl (by kernel_rfl) ?_; conv => whnf) | (refine Pick.drawM (by kernel_rfl) ?_; conv => whnf) | (refine CallC.r ?_; conv => whnf))
  refine Side.mk hscl ?_
  ((conv => whnf); repeat first | (refine Br.no ?_; conv => whnf) | (refine Br.yes ?_; conv => whnf) | (refine Pick.draw rfl (by kernel_rfl) ?_; conv => whnf) | (refine Pick.drawM (by kernel_rfl) ?_; conv => whnf) | (refine CallC.r ?_; conv => whnf))
  refine Pick.mk _ (he) ?_
  ((conv => whnf); repeat first | (refine Br.no ?_; conv => whnf) | (refine Br.yes ?_; conv => whnf) | (refine Pick.draw rfl (by kernel_rfl) ?_; conv => whnf) | (refine Pick.drawM (by kernel_rfl) ?_; conv => whnf) | (refine CallC.r ?_; conv => whnf))
  repeat (refine Br.mk (fun h => absurd h (by first | (simp; done) | (simp <;> omega))) (fun _ => ?_); ((conv => whnf); repeat first | (refine Br.no ?_; conv => whnf) | (refine Br.yes ?_; conv => whnf) | (refine Pick.draw rfl (by kernel_rfl) ?_; conv => whnf) | (refine Pick.drawM (by kernel_rfl) ?_; conv => whnf) | (refine CallC.r ?_; conv => whnf)))
  refine Pick.mk _ (c_VersionS xs hb_xs) ?_
  ((conv => whnf); repeat first | (refine Br.no ?_; conv => whnf) | (refine Br.yes ?_; conv => whnf) | (refine Pick.draw rfl (by kernel_rfl) ?_; conv => whnf) | (refine Pick.drawM (by kernel_rfl) ?_; conv => whnf) | (refine CallC.r ?_; conv => whnf))
  refine Pick.mk false trivial ?_
  ((conv => whnf); repeat first | (refine Br.no ?_; conv => whnf) | (refine Br.yes ?_; conv => whnf) | (refine Pick.draw rfl (by kernel_rfl) ?_; conv => whnf) | (refine Pick.drawM (by kernel_rfl) ?_; conv => whnf) | (refine CallC.r ?_; conv => whnf))
  refine Pick.mk _ (e_VersionS xs (by omega)) ?_
  ((conv => whnf); repeat first | (refine Br.no ?_; conv => whnf) | (refine Br.yes ?_; conv => whnf) | (refine Pick.draw rfl (by kernel_rfl) ?_; conv => whnf) | (refine Pick.drawM (by kernel_rfl) ?_; conv => whnf) | (refine CallC.r ?_; conv => whnf))
  refine Pick.mk true trivial ?_
  ((conv => whnf); repeat first | (refine Br.no ?_; conv => whnf) | (refine Br.yes ?_; conv => whnf) | (refine Pick.draw rfl (by kernel_rfl) ?_; conv => whnf) | (refine Pick.drawM (by kernel_rfl) ?_; conv => whnf) | (refine CallC.r ?_; conv => whnf))
  refine Pick.mk _ (m_VersionS true xs (1) (by omega) (by omega) (by omega) (bigwt_VersionS xs (by omega))) ?_
  ((conv => whnf); repeat first | (refine Br.no ?_; conv => whnf) | (refine Br.yes ?_; conv => whnf) | (refine Pick.draw rfl (by kernel_rfl) ?_; conv => whnf) | (refine Pick.drawM (by kernel_rfl) ?_; conv => whnf) | (refine CallC.r ?_; conv => whnf))
  refine Side.mk (by simp [mkL_length]) ?_
  ((conv => whnf); repeat first | (refine Br.no ?_; conv => whnf) | (refine Br.yes ?_; conv => whnf) | (refine Pick.draw rfl (by kernel_rfl) ?_; conv => whnf) | (refine Pick.drawM (by kernel_rfl) ?_; conv => whnf) | (refine CallC.r ?_; conv => whnf))
  repeat (refine Br.mk (fun h => absurd h (by first | (simp; done) | (simp <;> omega))) (fun _ => ?_); ((conv => whnf); repeat first | (refine Br.no ?_; conv => whnf) | (refine Br.yes ?_; conv => whnf) | (refine Pick.draw rfl (by kernel_rfl) ?_; conv => whnf) | (refine Pick.drawM (by kernel_rfl) ?_; conv => whnf) | (refine CallC.r ?_; conv => whnf)))
  refine Pick.mk _ (he) ?_
  ((conv => whnf); repeat first | (refine Br.no ?_; conv => whnf) | (refine Br.yes ?_; conv => whnf) | (refine Pick.draw rfl (by kernel_rfl) ?_; conv => whnf) | (refine Pick.drawM (by kernel_rfl) ?_; conv => whnf))
  repeat (refine Br.mk (fun h => absurd h (by first | (simp; done) | (simp <;> omega))) (fun _ => ?_); ((conv => whnf); repeat first | (refine Br.no ?_; conv => whnf) | (refine Br.yes ?_; conv => whnf) | (refine Pick.draw rfl (by kernel_rfl) ?_; conv => whnf) | (refine Pick.drawM (by kernel_rfl) ?_; conv => whnf)))
  refine CallC.x ?_
  ((conv => whnf); repeat first | (refine Br.no ?_; conv => whnf) | (refine Br.yes ?_; conv => whnf) | (refine Pick.draw rfl (by kernel_rfl) ?_; conv => whnf) | (refine Pick.drawM (by kernel_rfl) ?_; conv => whnf) | (refine CallC.r ?_; conv => whnf))
  refine Pick.mk _ (m_Int64SU n (ancs xs n) 1 (by omega) (by omega) (by omega)) ?_
  ((conv => whnf); repeat first | (refine Br.no ?_; conv => whnf) | (refine Br.yes ?_; conv => whnf) | (refine Pick.draw rfl (by kernel_rfl) ?_; conv => whnf) | (refine Pick.drawM (by kernel_rfl) ?_; conv => whnf) | (refine CallC.r ?_; conv => whnf))
  refine Side.mk (by simp [mkL_length]) ?_
  ((conv => whnf); repeat first | (refine Br.no ?_; conv => whnf) | (refine Br.yes ?_; conv => whnf) | (refine Pick.draw rfl (by kernel_rfl) ?_; conv => whnf) | (refine Pick.drawM (by kernel_rfl) ?_; conv => whnf) | (refine CallC.r ?_; conv => whnf))
  refine Pick.mk _ (hh) ?_
  ((conv => whnf); repeat first | (refine Br.no ?_; conv => whnf) | (refine Br.yes ?_; conv => whnf) | (refine Pick.draw rfl (by kernel_rfl) ?_; conv => whnf) | (refine Pick.drawM (by kernel_rfl) ?_; conv => whnf) | (refine CallC.r ?_; conv => whnf))
  repeat (refine Br.mk (fun h => absurd h (by first | (simp; done) | (simp <;> omega))) (fun _ => ?_); ((conv => whnf); repeat first | (refine Br.no ?_; conv => whnf) | (refine Br.yes ?_; conv => whnf) | (refine Pick.draw rfl (by kernel_rfl) ?_; conv => whnf) | (refine Pick.drawM (by kernel_rfl) ?_; conv => whnf) | (refine CallC.r ?_; conv => whnf)))
  repeat (refine Br.mk (fun h => absurd h (by first | (simp; done) | (simp <;> omega))) (fun _ => ?_); ((conv => whnf); repeat first | (refine Br.no ?_; conv => whnf) | (refine Br.yes ?_; conv => whnf) | (refine Pick.draw rfl (by kernel_rfl) ?_; conv => whnf) | (refine Pick.drawM (by kernel_rfl) ?_; conv => whnf) | (refine CallC.r ?_; conv => whnf)))
  refine Pick.mk _ (c_VersionS xs hb_xs) ?_
  ((conv => whnf); repeat first | (refine Br.no ?_; conv => whnf) | (refine Br.yes ?_; conv => whnf) | (refine Pick.draw rfl (by kernel_rfl) ?_; conv => whnf) | (refine Pick.drawM (by kernel_rfl) ?_; conv => whnf) | (refine CallC.r ?_; conv => whnf))
  refine Pick.mk _ (s_impl_AncOk xs o_xs n h) ?_
  ((conv => whnf); repeat first | (refine Br.no ?_; conv => whnf) | (refine Br.yes ?_; conv => whnf) | (refine Pick.draw rfl (by kernel_rfl) ?_; conv => whnf) | (refine Pick.drawM (by kernel_rfl) ?_; conv => whnf) | (refine CallC.r ?_; conv => whnf))
  refine Side.mk hscl ?_
  ((conv => whnf); repeat first | (refine Br.no ?_; conv => whnf) | (refine Br.yes ?_; conv => whnf) | (refine Pick.draw rfl (by kernel_rfl) ?_; conv => whnf) | (refine Pick.drawM (by kernel_rfl) ?_; conv => whnf) | (refine CallC.r ?_; conv => whnf))
  refine Pick.mk _ (he) ?_
  ((conv => whnf); repeat first | (refine Br.no ?_; conv => whnf) | (refine Br.yes ?_; conv => whnf) | (refine Pick.draw rfl (by kernel_rfl) ?_; conv => whnf) | (refine Pick.drawM (by kernel_rfl) ?_; conv => whnf) | (refine CallC.r ?_; conv => whnf))
  repeat (refine Br.mk (fun h => absurd h (by first | (simp; done) | (simp <;> omega))) (fun _ => ?_); ((conv => whnf); repeat first | (refine Br.no ?_; conv => whnf) | (refine Br.yes ?_; conv => whnf) | (refine Pick.draw rfl (by kernel_rfl) ?_; conv => whnf) | (refine Pick.drawM (by kernel_rfl) ?_; conv => whnf) | (refine CallC.r ?_; conv => whnf)))
  refine Pick.mk _ (hh) ?_
  ((conv => whnf); repeat first | (refine Br.no ?_; conv => whnf) | (refine Br.yes ?_; conv => whnf) | (refine Pick.draw rfl (by kernel_rfl) ?_; conv => whnf) | (refine Pick.drawM (by kernel_rfl) ?_; conv => whnf) | (refine CallC.r ?_; conv => whnf))
  repeat (refine Br.mk (fun h => absurd h (by first | (simp; done) | (simp <;> omega))) (fun _ => ?_); ((conv => whnf); repeat first | (refine Br.no ?_; conv => whnf) | (refine Br.yes ?_; conv => whnf) | (refine Pick.draw rfl (by kernel_rfl) ?_; conv => whnf) | (refine Pick.drawM (by kernel_rfl) ?_; conv => whnf) | (refine CallC.r ?_; conv => whnf)))
  repeat (refine Br.mk (fun h => absurd h (by first | (simp; done) | (simp <;> omega))) (fun _ => ?_); ((conv => whnf); repeat first | (refine Br.no ?_; conv => whnf) | (refine Br.yes ?_; conv => whnf) | (refine Pick.draw rfl (by kernel_rfl) ?_; conv => whnf) | (refine Pick.drawM (by kernel_rfl) ?_; conv => whnf) | (refine CallC.r ?_; conv => whnf)))
  exact ResOK.same rfl

theorem sat_law (xs : List Version) (n : Int) (o_xs : Enc.ok xs) (o_n : Enc.ok n) : Sat Try.prog 3 [(false, Enc.enc xs), (false, [.int .i64 n])] (.one (.c (.bool true)), []) := by
  by_cases h : askC xs [n] = 0
  · exact sat_ok xs o_xs n h
  · exact sat_no xs o_xs n h

end Go.Proofs.Ytjolahiflldepaa.Pi
