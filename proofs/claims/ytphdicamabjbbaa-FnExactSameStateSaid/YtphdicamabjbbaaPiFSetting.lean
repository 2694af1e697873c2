/- Sizes, copies and comparisons of settings, as the laws make them. No statement of the seat is proved here. -/
import Derived.Test.YtphdicamabjbbaaPiEnc
namespace Go.Proofs.Ytphdicamabjbbaa.Pi
open Go
set_option maxRecDepth 10000
set_option linter.unusedVariables false

theorem z_Setting (x : Setting) (n : Int) (hx : Enc.ok x) (h0 : 0 ≤ n) (h1 : n ≤ 1048576) : Sat Try.prog 36 [(true, Enc.enc x), (false, [.int .i64 n])] (.one (.c (.int .i64 (szR n (Enc.wt x)))), []) := by
  obtain ⟨o1, o2⟩ := hx
  have hw : Enc.wt x = x.name.size := by simp [Enc.wt]
  have hm : x.name.size ≤ maxLen := o1
  simp only [maxLen] at hm
  refine Sat.intro tok mixed Try.func36 rfl rfl ?_
  conv => whnf
  refine Pick.w64 (by omega) ?_
  conv => whnf
  refine Br.mk (fun h => ?_) (fun h => ?_) <;> conv => whnf
  all_goals simp at h
  · exact ResOK.same (by rw [szR_lt (by omega)])
  · exact ResOK.same (by rw [szR_ge (by omega), hw])

theorem z_SettingS (xs : List Setting) (n : Int) (hx : Enc.ok xs) (h0 : 0 ≤ n) (h1 : n ≤ 1048576) : Sat Try.prog 11 [(false, Enc.enc xs), (false, [.int .i64 n])] (.one (.c (.int .i64 (szR n (Enc.wt xs)))), []) := by
  obtain ⟨o1, o2⟩ := hx
  simp only [maxLen] at o1
  have hl : (xs.map (Enc.enc (α := Setting))).length = xs.length := by simp
  have hw := wt_list xs
  refine Sat.intro tok mixed Try.func11 rfl rfl ?_
  conv => whnf
  refine Pick.w64 (by omega) ?_
  conv => whnf
  refine Br.mk (fun h => ?_) (fun h => ?_) <;> conv => whnf
  · simp at h
    exact ResOK.same (by rw [szR_lt (by omega)])
  · simp at h
    refine Pick.mk [0, 1, 5] trivial ?_
    conv => whnf
    refine LoopL.run (fun a : Nat × Int => stOf 27 [(0, .one (.c (.slice 2 (xs.map Enc.enc)))), (1, .one (.c (.int .i64 a.2))), (5, .one (.c (.int .i64 a.1)))] [])
      (fun a => xs.length - a.1) (fun a => a.1 ≤ xs.length ∧ 0 ≤ a.2 ∧ a.2 = n - xs.length - wts xs a.1) ?_ (0, _) ?_
    · intro ⟨i, m⟩ ⟨h2, h3, h4⟩ ih
      simp only at h2 h3 h4
      conv => whnf
      refine Br.mk (fun h => ?_) (fun h => ?_) <;> conv => whnf
      · simp at h
        refine Pick.ix h ?_
        conv => whnf
        have hz := z_Setting xs[i] m (o2 _ (List.getElem_mem h)) h3 (by omega)
        have hq := szR_or m (Enc.wt xs[i])
        generalize szR m (Enc.wt xs[i]) = q at hz hq
        refine Pick.mk _ hz ?_
        conv => whnf
        have e1 := wts_succ xs i h
        have e2 := wts_le xs (i + 1)
        refine Br.mk (fun h5 => ?_) (fun h5 => ?_) <;> conv => whnf
        · simp at h5
          exact ResOK.same (by rw [szR_lt (by omega)])
        · simp at h5
          refine Pick.at64 (z := (i + 1 : Nat)) (by simp) (by omega) ?_
          conv => whnf
          exact ih (i + 1, q) ⟨by simp; omega, by simp; omega, by simp; omega⟩ (by simp; omega)
      · simp at h
        have e1 := wts_all xs i (by omega)
        exact ResOK.same (by rw [szR_ge (by omega)]; congr; omega)
    · exact ⟨by simp, by omega, by rw [wts_zero]; simp⟩

theorem c_Setting (x : Setting) : Sat Try.prog 38 [(true, Enc.enc x)] (.agg ((Enc.enc x).map .c), []) := by
  refine Sat.intro tok mixed Try.func38 rfl rfl ?_
  conv => whnf
  exact ResOK.same rfl

theorem c_SettingS (xs : List Setting) (hb : xs.length ≤ 1048576) : Sat Try.prog 13 [(false, Enc.enc xs)] (.one (.c (.slice 2 (xs.map Enc.enc))), []) := by
  have hl : (xs.map (Enc.enc (α := Setting))).length = xs.length := by simp
  refine Sat.intro tok mixed Try.func13 rfl rfl ?_
  conv => whnf
  refine Side.mk (by omega) ?_
  conv => whnf
  refine Pick.mk [0, 3, 4] trivial ?_
  conv => whnf
  refine LoopL.run (fun i : Nat => stOf 23 [(0, .one (.c (.slice 2 (xs.map Enc.enc)))), (3, .one (.rs 192)), (4, .one (.c (.int .i64 i)))] [(192, .arr 2 (upTo [.str ⟨#[]⟩, .int .i64 0] xs i))])
      (fun i => xs.length - i) (fun i => i ≤ xs.length) ?_ 0 (Nat.zero_le _) ?_
  · intro i h2 ih
    conv => whnf
    refine Br.mk (fun h => ?_) (fun h => ?_) <;> conv => whnf
    · simp at h
      refine Pick.ix h ?_
      conv => whnf
      refine Pick.mk _ (c_Setting xs[i]) ?_
      conv => whnf
      refine Side.mk (by rw [upTo_length _ _ _ h2]; omega) ?_
      conv => whnf
      refine Pick.at64 (z := (i + 1 : Nat)) (by simp) (by omega) ?_
      conv => whnf
      refine cast (congrArg (fun r => LoopL _ _ _ ⟨_, [(_, .arr 2 r)]⟩) (upTo_set [.str ⟨#[]⟩, .int .i64 0] xs i h).symm) (ih (i + 1) (by omega) (by omega))
    · simp at h
      have e := upTo_all [.str ⟨#[]⟩, .int .i64 0] xs i (by omega)
      refine ResOK.frz ?_ rfl
      rw [e]
      rfl
  · rw [upTo_zero, hl]; rfl

theorem e_Setting (x : Setting) : Sat Try.prog 40 [(true, Enc.enc x), (true, Enc.enc x)] (.one (.c (.bool true)), []) := by
  refine Sat.intro tok mixed Try.func40 rfl rfl ?_
  conv => whnf
  repeat' first | (refine Br.mk (fun _ => ?_) (fun _ => ?_) <;> conv => whnf)
  all_goals first | exact ResOK.same rfl | (simp_all; done)

theorem e_SettingS (xs : List Setting) (hb : xs.length ≤ 1048576) : Sat Try.prog 15 [(false, Enc.enc xs), (false, Enc.enc xs)] (.one (.c (.bool true)), []) := by
  have hl : (xs.map (Enc.enc (α := Setting))).length = xs.length := by simp
  refine Sat.intro tok mixed Try.func15 rfl rfl ?_
  conv => whnf
  refine Br.mk (fun h => ?_) (fun h => ?_) <;> conv => whnf
  · simp at h
  · refine Pick.mk [0, 1, 5] trivial ?_
    conv => whnf
    refine LoopL.run (fun i : Nat => stOf 27 [(0, .one (.c (.slice 2 (xs.map Enc.enc)))), (1, .one (.c (.slice 2 (xs.map Enc.enc)))), (5, .one (.c (.int .i64 i)))] []) (fun i => xs.length - i) (fun i => i ≤ xs.length) ?_ 0 (Nat.zero_le _)
    intro i h2 ih
    conv => whnf
    refine Br.mk (fun h => ?_) (fun h => ?_) <;> conv => whnf
    · simp at h
      refine Pick.mk 10 (by kernel_rfl) ?_
      conv => whnf
      refine Pick.ix h ?_
      conv => whnf
      refine Pick.ix h ?_
      conv => whnf
      refine Pick.mk _ (e_Setting xs[i]) ?_
      conv => whnf
      refine Br.mk (fun h5 => ?_) (fun h5 => ?_) <;> conv => whnf
      · simp at h5
      · refine Pick.at64 (z := (i + 1 : Nat)) (by simp) (by omega) ?_
        conv => whnf
        exact ih (i + 1) (by omega) (by omega)
    · exact ResOK.same rfl

end Go.Proofs.Ytphdicamabjbbaa.Pi
