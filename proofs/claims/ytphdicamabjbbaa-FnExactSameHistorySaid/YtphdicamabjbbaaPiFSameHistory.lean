/- SameHistory, the reference and the program. No statement of the seat is proved here. -/
import Derived.Test.YtphdicamabjbbaaPiFSameState
namespace Go.Proofs.Ytphdicamabjbbaa.Pi
open Go
set_option maxRecDepth 10000
set_option linter.unusedVariables false

theorem s_SameVersion (x y : Version) (o : Enc.ok x) : Sat Try.prog 53 [(true, Enc.enc x), (true, Enc.enc y)] (.one (.c (.bool (sameVersion x y))), []) := by
  refine Sat.intro tok mixed Try.func53 rfl rfl ?_
  ((conv => whnf); repeat first | (refine Br.no ?_; conv => whnf) | (refine Br.yes ?_; conv => whnf) | (refine Pick.draw (by kernel_rfl) ?_; conv => whnf))
  repeat' first
    | (refine Pick.mk _ (s_impl_SameState x.state y.state o.2.2.2.1) ?_; ((conv => whnf); repeat first | (refine Br.no ?_; conv => whnf) | (refine Br.yes ?_; conv => whnf) | (refine Pick.draw (by kernel_rfl) ?_; conv => whnf)))
    | (refine Br.mk (fun h => ?_) (fun h => ?_) <;> ((conv => whnf); repeat first | (refine Br.no ?_; conv => whnf) | (refine Br.yes ?_; conv => whnf) | (refine Pick.draw (by kernel_rfl) ?_; conv => whnf)))
  all_goals exact ResOK.same (by simp_all [sameVersion, sameStr, sameInt])

theorem s_spec_SameHistory (xs ys : List Version) (hb : xs.length ≤ maxLen) (o : Enc.ok xs) : Sat Try.prog 24 [(false, Enc.enc xs), (false, Enc.enc ys)] (.one (.c (.bool (sameBy sameVersion xs ys))), []) := by
  simp only [maxLen] at hb
  have hl : (xs.map (Enc.enc (α := Version))).length = xs.length := by simp
  refine Sat.intro tok mixed Try.func24 rfl rfl ?_
  ((conv => whnf); repeat first | (refine Br.no ?_; conv => whnf) | (refine Br.yes ?_; conv => whnf) | (refine Pick.draw (by kernel_rfl) ?_; conv => whnf))
  refine Br.mk (fun h => ?_) (fun h => ?_) <;> ((conv => whnf); repeat first | (refine Br.no ?_; conv => whnf) | (refine Br.yes ?_; conv => whnf) | (refine Pick.draw (by kernel_rfl) ?_; conv => whnf))
  · simp at h
    exact ResOK.same (by rw [sameBy_len (by omega)])
  simp at h
  refine Pick.mk [0, 1, 5] trivial ?_
  ((conv => whnf); repeat first | (refine Br.no ?_; conv => whnf) | (refine Br.yes ?_; conv => whnf) | (refine Pick.draw (by kernel_rfl) ?_; conv => whnf))
  refine LoopL.run (fun i : Nat => stOf 68 [(0, .one (.c (.slice 4 (xs.map Enc.enc)))), (1, .one (.c (.slice 4 (ys.map Enc.enc)))), (5, .one (.c (.int .i64 i)))] []) (fun i => xs.length - i) (fun i => i ≤ xs.length ∧ ∀ (j : Nat) (h1 : j < xs.length) (h2 : j < ys.length), j < i → sameVersion xs[j] ys[j] = true) ?_ 0 ⟨Nat.zero_le _, by intros; omega⟩
  intro i ⟨h2, h3⟩ ih
  ((conv => whnf); repeat first | (refine Br.no ?_; conv => whnf) | (refine Br.yes ?_; conv => whnf) | (refine Pick.draw (by kernel_rfl) ?_; conv => whnf))
  refine Br.mk (fun h => ?_) (fun h => ?_) <;> ((conv => whnf); repeat first | (refine Br.no ?_; conv => whnf) | (refine Br.yes ?_; conv => whnf) | (refine Pick.draw (by kernel_rfl) ?_; conv => whnf))
  · simp at h
    have h2y : i < ys.length := by omega
    have no : sameVersion xs[i] ys[i] = false → sameBy sameVersion xs ys = false := fun e => sameBy_no i h h2y e
    have next : sameVersion xs[i] ys[i] = true → ∀ (j : Nat) (h1 : j < xs.length) (h2 : j < ys.length), j < i + 1 → sameVersion xs[j] ys[j] = true := fun e j h1 h2 h6 => by
      by_cases hj : j < i
      · exact h3 j h1 h2 hj
      · obtain rfl : j = i := by omega
        exact e
    have hix := h
    repeat' first
      | (refine Pick.ix hix ?_; ((conv => whnf); repeat first | (refine Br.no ?_; conv => whnf) | (refine Br.yes ?_; conv => whnf) | (refine Pick.draw (by kernel_rfl) ?_; conv => whnf)))
      | (refine Pick.ix h2y ?_; ((conv => whnf); repeat first | (refine Br.no ?_; conv => whnf) | (refine Br.yes ?_; conv => whnf) | (refine Pick.draw (by kernel_rfl) ?_; conv => whnf)))
      | (refine Pick.mk _ (s_l27Same xs[i].state ys[i].state (o.2 _ (List.getElem_mem hix)).2.2.2.1) ?_; ((conv => whnf); repeat first | (refine Br.no ?_; conv => whnf) | (refine Br.yes ?_; conv => whnf) | (refine Pick.draw (by kernel_rfl) ?_; conv => whnf)))
      | (refine Br.mk (fun h => ?_) (fun h => ?_) <;> ((conv => whnf); repeat first | (refine Br.no ?_; conv => whnf) | (refine Br.yes ?_; conv => whnf) | (refine Pick.draw (by kernel_rfl) ?_; conv => whnf)))
    all_goals first
      | exact ResOK.same (by rw [no (by clear ih no next h3; simp_all [sameVersion, sameStr, sameInt])])
      | (refine Pick.at64 (z := (i + 1 : Nat)) (by simp) (by omega) ?_
         ((conv => whnf); repeat first | (refine Br.no ?_; conv => whnf) | (refine Br.yes ?_; conv => whnf) | (refine Pick.draw (by kernel_rfl) ?_; conv => whnf))
         exact ih (i + 1) ⟨by omega, next (by clear ih no next h3; simp_all [sameVersion, sameStr, sameInt])⟩ (by omega))
  · simp at h
    exact ResOK.same (by rw [sameBy_yes (by omega) fun j h1 h2 => h3 j h1 h2 (by omega)])

theorem s_EqualVersion (xs ys : List Version) (hb : xs.length ≤ maxLen) (o : Enc.ok xs) : Sat Try.prog 52 [(false, Enc.enc xs), (false, Enc.enc ys), (false, [.fn 53 []])] (.one (.c (.bool (sameBy sameVersion xs ys))), []) := by
  simp only [maxLen] at hb
  have hl : (xs.map (Enc.enc (α := Version))).length = xs.length := by simp
  refine Sat.intro tok mixed Try.func52 rfl rfl ?_
  ((conv => whnf); repeat first | (refine Br.no ?_; conv => whnf) | (refine Br.yes ?_; conv => whnf) | (refine Pick.draw (by kernel_rfl) ?_; conv => whnf))
  refine Br.mk (fun h => ?_) (fun h => ?_) <;> ((conv => whnf); repeat first | (refine Br.no ?_; conv => whnf) | (refine Br.yes ?_; conv => whnf) | (refine Pick.draw (by kernel_rfl) ?_; conv => whnf))
  · simp at h
    exact ResOK.same (by rw [sameBy_len (by omega)])
  simp at h
  refine Pick.mk [0, 1, 2, 15, 16, 17] trivial ?_
  ((conv => whnf); repeat first | (refine Br.no ?_; conv => whnf) | (refine Br.yes ?_; conv => whnf) | (refine Pick.draw (by kernel_rfl) ?_; conv => whnf))
  refine LoopL.run (fun i : Nat => stOf 32 [(0, .one (.c (.slice 4 (xs.map Enc.enc)))), (1, .one (.c (.slice 4 (ys.map Enc.enc)))), (2, .one (.c (.fn 53 []))), (15, .one (.c (.slice 4 (xs.map Enc.enc)))), (16, .one (.c (.int .i64 (xs.map (Enc.enc (α := Version))).length))), (17, .one (.c (.int .i64 i)))] []) (fun i => xs.length - i) (fun i => i ≤ xs.length ∧ ∀ (j : Nat) (h1 : j < xs.length) (h2 : j < ys.length), j < i → sameVersion xs[j] ys[j] = true) ?_ 0 ⟨Nat.zero_le _, by intros; omega⟩
  intro i ⟨h2, h3⟩ ih
  ((conv => whnf); repeat first | (refine Br.no ?_; conv => whnf) | (refine Br.yes ?_; conv => whnf) | (refine Pick.draw (by kernel_rfl) ?_; conv => whnf))
  refine Br.mk (fun h => ?_) (fun h => ?_) <;> ((conv => whnf); repeat first | (refine Br.no ?_; conv => whnf) | (refine Br.yes ?_; conv => whnf) | (refine Pick.draw (by kernel_rfl) ?_; conv => whnf))
  · simp at h
    have h2y : i < ys.length := by omega
    have no : sameVersion xs[i] ys[i] = false → sameBy sameVersion xs ys = false := fun e => sameBy_no i h h2y e
    have next : sameVersion xs[i] ys[i] = true → ∀ (j : Nat) (h1 : j < xs.length) (h2 : j < ys.length), j < i + 1 → sameVersion xs[j] ys[j] = true := fun e j h1 h2 h6 => by
      by_cases hj : j < i
      · exact h3 j h1 h2 hj
      · obtain rfl : j = i := by omega
        exact e
    refine Pick.ix h ?_
    ((conv => whnf); repeat first | (refine Br.no ?_; conv => whnf) | (refine Br.yes ?_; conv => whnf) | (refine Pick.draw (by kernel_rfl) ?_; conv => whnf))
    refine Pick.ix h2y ?_
    ((conv => whnf); repeat first | (refine Br.no ?_; conv => whnf) | (refine Br.yes ?_; conv => whnf) | (refine Pick.draw (by kernel_rfl) ?_; conv => whnf))
    refine Pick.mk _ (s_SameVersion xs[i] ys[i] (o.2 _ (List.getElem_mem h))) ?_
    ((conv => whnf); repeat first | (refine Br.no ?_; conv => whnf) | (refine Br.yes ?_; conv => whnf) | (refine Pick.draw (by kernel_rfl) ?_; conv => whnf))
    refine Br.mk (fun h5 => ?_) (fun h5 => ?_) <;> ((conv => whnf); repeat first | (refine Br.no ?_; conv => whnf) | (refine Br.yes ?_; conv => whnf) | (refine Pick.draw (by kernel_rfl) ?_; conv => whnf))
    · have h5 : (!sameVersion xs[i] ys[i]) = true := h5
      exact ResOK.same (by rw [no (by simpa using h5)])
    · have h5 : (!sameVersion xs[i] ys[i]) = false := h5
      refine Pick.at64 (z := (i + 1 : Nat)) (by simp) (by omega) ?_
      ((conv => whnf); repeat first | (refine Br.no ?_; conv => whnf) | (refine Br.yes ?_; conv => whnf) | (refine Pick.draw (by kernel_rfl) ?_; conv => whnf))
      exact ih (i + 1) ⟨by omega, next (by simpa using h5)⟩ (by omega)
  · simp at h
    exact ResOK.same (by rw [sameBy_yes (by omega) fun j h1 h2 => h3 j h1 h2 (by omega)])

theorem s_impl_SameHistory (xs ys : List Version) (hb : xs.length ≤ maxLen) (o : Enc.ok xs) : Sat Try.prog 26 [(false, Enc.enc xs), (false, Enc.enc ys)] (.one (.c (.bool (sameBy sameVersion xs ys))), []) := by
  refine Sat.intro tok mixed Try.func26 rfl rfl ?_
  ((conv => whnf); repeat first | (refine Br.no ?_; conv => whnf) | (refine Br.yes ?_; conv => whnf) | (refine Pick.draw (by kernel_rfl) ?_; conv => whnf))
  refine Pick.mk _ (s_EqualVersion xs ys hb o) ?_
  ((conv => whnf); repeat first | (refine Br.no ?_; conv => whnf) | (refine Br.yes ?_; conv => whnf) | (refine Pick.draw (by kernel_rfl) ?_; conv => whnf))
  exact ResOK.same rfl

end Go.Proofs.Ytphdicamabjbbaa.Pi
