/- SameItems, the reference and the program. No statement of the seat is proved here. -/
import Derived.Test.YtphdicamabjbbaaPiFSameDef
namespace Go.Proofs.Ytphdicamabjbbaa.Pi
open Go
set_option maxRecDepth 10000
set_option linter.unusedVariables false

theorem s_l28Words (xs ys : List ByteArray) (hb : xs.length ≤ maxLen) : Sat Try.prog 44 [(false, Enc.enc xs), (false, Enc.enc ys)] (.one (.c (.bool (sameBy sameStr xs ys))), []) := by
  simp only [maxLen] at hb
  have hl : (xs.map (Enc.enc (α := ByteArray))).length = xs.length := by simp
  refine Sat.intro tok mixed Try.func44 rfl rfl ?_
  ((conv => whnf); repeat first | (refine Br.no ?_; conv => whnf) | (refine Br.yes ?_; conv => whnf) | (refine Pick.draw (by kernel_rfl) ?_; conv => whnf))
  refine Br.mk (fun h => ?_) (fun h => ?_) <;> ((conv => whnf); repeat first | (refine Br.no ?_; conv => whnf) | (refine Br.yes ?_; conv => whnf) | (refine Pick.draw (by kernel_rfl) ?_; conv => whnf))
  · simp at h
    exact ResOK.same (by rw [sameBy_len (by omega)])
  simp at h
  refine Pick.mk [0, 1, 5] trivial ?_
  ((conv => whnf); repeat first | (refine Br.no ?_; conv => whnf) | (refine Br.yes ?_; conv => whnf) | (refine Pick.draw (by kernel_rfl) ?_; conv => whnf))
  refine LoopL.run (fun i : Nat => stOf 26 [(0, .one (.c (.slice 1 (xs.map Enc.enc)))), (1, .one (.c (.slice 1 (ys.map Enc.enc)))), (5, .one (.c (.int .i64 i)))] []) (fun i => xs.length - i) (fun i => i ≤ xs.length ∧ ∀ (j : Nat) (h1 : j < xs.length) (h2 : j < ys.length), j < i → sameStr xs[j] ys[j] = true) ?_ 0 ⟨Nat.zero_le _, by intros; omega⟩
  intro i ⟨h2, h3⟩ ih
  ((conv => whnf); repeat first | (refine Br.no ?_; conv => whnf) | (refine Br.yes ?_; conv => whnf) | (refine Pick.draw (by kernel_rfl) ?_; conv => whnf))
  refine Br.mk (fun h => ?_) (fun h => ?_) <;> ((conv => whnf); repeat first | (refine Br.no ?_; conv => whnf) | (refine Br.yes ?_; conv => whnf) | (refine Pick.draw (by kernel_rfl) ?_; conv => whnf))
  · simp at h
    have h2y : i < ys.length := by omega
    have no : sameStr xs[i] ys[i] = false → sameBy sameStr xs ys = false := fun e => sameBy_no i h h2y e
    have next : sameStr xs[i] ys[i] = true → ∀ (j : Nat) (h1 : j < xs.length) (h2 : j < ys.length), j < i + 1 → sameStr xs[j] ys[j] = true := fun e j h1 h2 h6 => by
      by_cases hj : j < i
      · exact h3 j h1 h2 hj
      · obtain rfl : j = i := by omega
        exact e
    refine Pick.ix h ?_
    ((conv => whnf); repeat first | (refine Br.no ?_; conv => whnf) | (refine Br.yes ?_; conv => whnf) | (refine Pick.draw (by kernel_rfl) ?_; conv => whnf))
    refine Pick.ix h2y ?_
    ((conv => whnf); repeat first | (refine Br.no ?_; conv => whnf) | (refine Br.yes ?_; conv => whnf) | (refine Pick.draw (by kernel_rfl) ?_; conv => whnf))
    refine Br.mk (fun h5 => ?_) (fun h5 => ?_) <;> ((conv => whnf); repeat first | (refine Br.no ?_; conv => whnf) | (refine Br.yes ?_; conv => whnf) | (refine Pick.draw (by kernel_rfl) ?_; conv => whnf))
    · have h5 : (!sameStr xs[i] ys[i]) = true := h5
      exact ResOK.same (by rw [no (by simpa using h5)])
    · have h5 : (!sameStr xs[i] ys[i]) = false := h5
      refine Pick.at64 (z := (i + 1 : Nat)) (by simp) (by omega) ?_
      ((conv => whnf); repeat first | (refine Br.no ?_; conv => whnf) | (refine Br.yes ?_; conv => whnf) | (refine Pick.draw (by kernel_rfl) ?_; conv => whnf))
      exact ih (i + 1) ⟨by omega, next (by simpa using h5)⟩ (by omega)
  · simp at h
    exact ResOK.same (by rw [sameBy_yes (by omega) fun j h1 h2 => h3 j h1 h2 (by omega)])

theorem s_EqualString (xs ys : List ByteArray) (hb : xs.length ≤ maxLen) : Sat Try.prog 48 [(false, Enc.enc xs), (false, Enc.enc ys)] (.one (.c (.bool (sameBy sameStr xs ys))), []) := by
  simp only [maxLen] at hb
  have hl : (xs.map (Enc.enc (α := ByteArray))).length = xs.length := by simp
  refine Sat.intro tok mixed Try.func48 rfl rfl ?_
  ((conv => whnf); repeat first | (refine Br.no ?_; conv => whnf) | (refine Br.yes ?_; conv => whnf) | (refine Pick.draw (by kernel_rfl) ?_; conv => whnf))
  refine Br.mk (fun h => ?_) (fun h => ?_) <;> ((conv => whnf); repeat first | (refine Br.no ?_; conv => whnf) | (refine Br.yes ?_; conv => whnf) | (refine Pick.draw (by kernel_rfl) ?_; conv => whnf))
  · simp at h
    exact ResOK.same (by rw [sameBy_len (by omega)])
  simp at h
  refine Pick.mk [0, 1, 12, 13] trivial ?_
  ((conv => whnf); repeat first | (refine Br.no ?_; conv => whnf) | (refine Br.yes ?_; conv => whnf) | (refine Pick.draw (by kernel_rfl) ?_; conv => whnf))
  refine LoopL.run (fun i : Nat => stOf 26 [(0, .one (.c (.slice 1 (xs.map Enc.enc)))), (1, .one (.c (.slice 1 (ys.map Enc.enc)))), (12, .one (.c (.int .i64 (xs.map (Enc.enc (α := ByteArray))).length))), (13, .one (.c (.int .i64 i)))] []) (fun i => xs.length - i) (fun i => i ≤ xs.length ∧ ∀ (j : Nat) (h1 : j < xs.length) (h2 : j < ys.length), j < i → sameStr xs[j] ys[j] = true) ?_ 0 ⟨Nat.zero_le _, by intros; omega⟩
  intro i ⟨h2, h3⟩ ih
  ((conv => whnf); repeat first | (refine Br.no ?_; conv => whnf) | (refine Br.yes ?_; conv => whnf) | (refine Pick.draw (by kernel_rfl) ?_; conv => whnf))
  refine Br.mk (fun h => ?_) (fun h => ?_) <;> ((conv => whnf); repeat first | (refine Br.no ?_; conv => whnf) | (refine Br.yes ?_; conv => whnf) | (refine Pick.draw (by kernel_rfl) ?_; conv => whnf))
  · simp at h
    have h2y : i < ys.length := by omega
    have no : sameStr xs[i] ys[i] = false → sameBy sameStr xs ys = false := fun e => sameBy_no i h h2y e
    have next : sameStr xs[i] ys[i] = true → ∀ (j : Nat) (h1 : j < xs.length) (h2 : j < ys.length), j < i + 1 → sameStr xs[j] ys[j] = true := fun e j h1 h2 h6 => by
      by_cases hj : j < i
      · exact h3 j h1 h2 hj
      · obtain rfl : j = i := by omega
        exact e
    refine Pick.ix h ?_
    ((conv => whnf); repeat first | (refine Br.no ?_; conv => whnf) | (refine Br.yes ?_; conv => whnf) | (refine Pick.draw (by kernel_rfl) ?_; conv => whnf))
    refine Pick.ix h2y ?_
    ((conv => whnf); repeat first | (refine Br.no ?_; conv => whnf) | (refine Br.yes ?_; conv => whnf) | (refine Pick.draw (by kernel_rfl) ?_; conv => whnf))
    refine Br.mk (fun h5 => ?_) (fun h5 => ?_) <;> ((conv => whnf); repeat first | (refine Br.no ?_; conv => whnf) | (refine Br.yes ?_; conv => whnf) | (refine Pick.draw (by kernel_rfl) ?_; conv => whnf))
    · have h5 : (!sameStr xs[i] ys[i]) = true := h5
      exact ResOK.same (by rw [no (by simpa using h5)])
    · have h5 : (!sameStr xs[i] ys[i]) = false := h5
      refine Pick.at64 (z := (i + 1 : Nat)) (by simp) (by omega) ?_
      ((conv => whnf); repeat first | (refine Br.no ?_; conv => whnf) | (refine Br.yes ?_; conv => whnf) | (refine Pick.draw (by kernel_rfl) ?_; conv => whnf))
      exact ih (i + 1) ⟨by omega, next (by simpa using h5)⟩ (by omega)
  · simp at h
    exact ResOK.same (by rw [sameBy_yes (by omega) fun j h1 h2 => h3 j h1 h2 (by omega)])

theorem s_SameItem (x y : Item) (o : Enc.ok x) : Sat Try.prog 47 [(true, Enc.enc x), (true, Enc.enc y)] (.one (.c (.bool (sameItem x y))), []) := by
  refine Sat.intro tok mixed Try.func47 rfl rfl ?_
  ((conv => whnf); repeat first | (refine Br.no ?_; conv => whnf) | (refine Br.yes ?_; conv => whnf) | (refine Pick.draw (by kernel_rfl) ?_; conv => whnf))
  repeat' first
    | (refine Pick.mk _ (s_EqualString x.needs y.needs o.2.1.1) ?_; ((conv => whnf); repeat first | (refine Br.no ?_; conv => whnf) | (refine Br.yes ?_; conv => whnf) | (refine Pick.draw (by kernel_rfl) ?_; conv => whnf)))
    | (refine Br.mk (fun h => ?_) (fun h => ?_) <;> ((conv => whnf); repeat first | (refine Br.no ?_; conv => whnf) | (refine Br.yes ?_; conv => whnf) | (refine Pick.draw (by kernel_rfl) ?_; conv => whnf)))
  all_goals exact ResOK.same (by simp_all [sameItem, sameStr, sameInt])

theorem s_spec_SameItems (xs ys : List Item) (hb : xs.length ≤ maxLen) (o : Enc.ok xs) : Sat Try.prog 19 [(false, Enc.enc xs), (false, Enc.enc ys)] (.one (.c (.bool (sameBy sameItem xs ys))), []) := by
  simp only [maxLen] at hb
  have hl : (xs.map (Enc.enc (α := Item))).length = xs.length := by simp
  refine Sat.intro tok mixed Try.func19 rfl rfl ?_
  ((conv => whnf); repeat first | (refine Br.no ?_; conv => whnf) | (refine Br.yes ?_; conv => whnf) | (refine Pick.draw (by kernel_rfl) ?_; conv => whnf))
  refine Br.mk (fun h => ?_) (fun h => ?_) <;> ((conv => whnf); repeat first | (refine Br.no ?_; conv => whnf) | (refine Br.yes ?_; conv => whnf) | (refine Pick.draw (by kernel_rfl) ?_; conv => whnf))
  · simp at h
    exact ResOK.same (by rw [sameBy_len (by omega)])
  simp at h
  refine Pick.mk [0, 1, 5] trivial ?_
  ((conv => whnf); repeat first | (refine Br.no ?_; conv => whnf) | (refine Br.yes ?_; conv => whnf) | (refine Pick.draw (by kernel_rfl) ?_; conv => whnf))
  refine LoopL.run (fun i : Nat => stOf 68 [(0, .one (.c (.slice 4 (xs.map Enc.enc)))), (1, .one (.c (.slice 4 (ys.map Enc.enc)))), (5, .one (.c (.int .i64 i)))] []) (fun i => xs.length - i) (fun i => i ≤ xs.length ∧ ∀ (j : Nat) (h1 : j < xs.length) (h2 : j < ys.length), j < i → sameItem xs[j] ys[j] = true) ?_ 0 ⟨Nat.zero_le _, by intros; omega⟩
  intro i ⟨h2, h3⟩ ih
  ((conv => whnf); repeat first | (refine Br.no ?_; conv => whnf) | (refine Br.yes ?_; conv => whnf) | (refine Pick.draw (by kernel_rfl) ?_; conv => whnf))
  refine Br.mk (fun h => ?_) (fun h => ?_) <;> ((conv => whnf); repeat first | (refine Br.no ?_; conv => whnf) | (refine Br.yes ?_; conv => whnf) | (refine Pick.draw (by kernel_rfl) ?_; conv => whnf))
  · simp at h
    have h2y : i < ys.length := by omega
    have no : sameItem xs[i] ys[i] = false → sameBy sameItem xs ys = false := fun e => sameBy_no i h h2y e
    have next : sameItem xs[i] ys[i] = true → ∀ (j : Nat) (h1 : j < xs.length) (h2 : j < ys.length), j < i + 1 → sameItem xs[j] ys[j] = true := fun e j h1 h2 h6 => by
      by_cases hj : j < i
      · exact h3 j h1 h2 hj
      · obtain rfl : j = i := by omega
        exact e
    have hix := h
    repeat' first
      | (refine Pick.ix hix ?_; ((conv => whnf); repeat first | (refine Br.no ?_; conv => whnf) | (refine Br.yes ?_; conv => whnf) | (refine Pick.draw (by kernel_rfl) ?_; conv => whnf)))
      | (refine Pick.ix h2y ?_; ((conv => whnf); repeat first | (refine Br.no ?_; conv => whnf) | (refine Br.yes ?_; conv => whnf) | (refine Pick.draw (by kernel_rfl) ?_; conv => whnf)))
      | (refine Pick.mk _ (s_l28Words xs[i].needs ys[i].needs (o.2 _ (List.getElem_mem hix)).2.1.1) ?_; ((conv => whnf); repeat first | (refine Br.no ?_; conv => whnf) | (refine Br.yes ?_; conv => whnf) | (refine Pick.draw (by kernel_rfl) ?_; conv => whnf)))
      | (refine Br.mk (fun h => ?_) (fun h => ?_) <;> ((conv => whnf); repeat first | (refine Br.no ?_; conv => whnf) | (refine Br.yes ?_; conv => whnf) | (refine Pick.draw (by kernel_rfl) ?_; conv => whnf)))
    all_goals first
      | exact ResOK.same (by rw [no (by clear ih no next h3; simp_all [sameItem, sameStr, sameInt])])
      | (refine Pick.at64 (z := (i + 1 : Nat)) (by simp) (by omega) ?_
         ((conv => whnf); repeat first | (refine Br.no ?_; conv => whnf) | (refine Br.yes ?_; conv => whnf) | (refine Pick.draw (by kernel_rfl) ?_; conv => whnf))
         exact ih (i + 1) ⟨by omega, next (by clear ih no next h3; simp_all [sameItem, sameStr, sameInt])⟩ (by omega))
  · simp at h
    exact ResOK.same (by rw [sameBy_yes (by omega) fun j h1 h2 => h3 j h1 h2 (by omega)])

theorem s_EqualItem (xs ys : List Item) (hb : xs.length ≤ maxLen) (o : Enc.ok xs) : Sat Try.prog 46 [(false, Enc.enc xs), (false, Enc.enc ys), (false, [.fn 47 []])] (.one (.c (.bool (sameBy sameItem xs ys))), []) := by
  simp only [maxLen] at hb
  have hl : (xs.map (Enc.enc (α := Item))).length = xs.length := by simp
  refine Sat.intro tok mixed Try.func46 rfl rfl ?_
  ((conv => whnf); repeat first | (refine Br.no ?_; conv => whnf) | (refine Br.yes ?_; conv => whnf) | (refine Pick.draw (by kernel_rfl) ?_; conv => whnf))
  refine Br.mk (fun h => ?_) (fun h => ?_) <;> ((conv => whnf); repeat first | (refine Br.no ?_; conv => whnf) | (refine Br.yes ?_; conv => whnf) | (refine Pick.draw (by kernel_rfl) ?_; conv => whnf))
  · simp at h
    exact ResOK.same (by rw [sameBy_len (by omega)])
  simp at h
  refine Pick.mk [0, 1, 2, 15, 16, 17] trivial ?_
  ((conv => whnf); repeat first | (refine Br.no ?_; conv => whnf) | (refine Br.yes ?_; conv => whnf) | (refine Pick.draw (by kernel_rfl) ?_; conv => whnf))
  refine LoopL.run (fun i : Nat => stOf 32 [(0, .one (.c (.slice 4 (xs.map Enc.enc)))), (1, .one (.c (.slice 4 (ys.map Enc.enc)))), (2, .one (.c (.fn 47 []))), (15, .one (.c (.slice 4 (xs.map Enc.enc)))), (16, .one (.c (.int .i64 (xs.map (Enc.enc (α := Item))).length))), (17, .one (.c (.int .i64 i)))] []) (fun i => xs.length - i) (fun i => i ≤ xs.length ∧ ∀ (j : Nat) (h1 : j < xs.length) (h2 : j < ys.length), j < i → sameItem xs[j] ys[j] = true) ?_ 0 ⟨Nat.zero_le _, by intros; omega⟩
  intro i ⟨h2, h3⟩ ih
  ((conv => whnf); repeat first | (refine Br.no ?_; conv => whnf) | (refine Br.yes ?_; conv => whnf) | (refine Pick.draw (by kernel_rfl) ?_; conv => whnf))
  refine Br.mk (fun h => ?_) (fun h => ?_) <;> ((conv => whnf); repeat first | (refine Br.no ?_; conv => whnf) | (refine Br.yes ?_; conv => whnf) | (refine Pick.draw (by kernel_rfl) ?_; conv => whnf))
  · simp at h
    have h2y : i < ys.length := by omega
    have no : sameItem xs[i] ys[i] = false → sameBy sameItem xs ys = false := fun e => sameBy_no i h h2y e
    have next : sameItem xs[i] ys[i] = true → ∀ (j : Nat) (h1 : j < xs.length) (h2 : j < ys.length), j < i + 1 → sameItem xs[j] ys[j] = true := fun e j h1 h2 h6 => by
      by_cases hj : j < i
      · exact h3 j h1 h2 hj
      · obtain rfl : j = i := by omega
        exact e
    refine Pick.ix h ?_
    ((conv => whnf); repeat first | (refine Br.no ?_; conv => whnf) | (refine Br.yes ?_; conv => whnf) | (refine Pick.draw (by kernel_rfl) ?_; conv => whnf))
    refine Pick.ix h2y ?_
    ((conv => whnf); repeat first | (refine Br.no ?_; conv => whnf) | (refine Br.yes ?_; conv => whnf) | (refine Pick.draw (by kernel_rfl) ?_; conv => whnf))
    refine Pick.mk _ (s_SameItem xs[i] ys[i] (o.2 _ (List.getElem_mem h))) ?_
    ((conv => whnf); repeat first | (refine Br.no ?_; conv => whnf) | (refine Br.yes ?_; conv => whnf) | (refine Pick.draw (by kernel_rfl) ?_; conv => whnf))
    refine Br.mk (fun h5 => ?_) (fun h5 => ?_) <;> ((conv => whnf); repeat first | (refine Br.no ?_; conv => whnf) | (refine Br.yes ?_; conv => whnf) | (refine Pick.draw (by kernel_rfl) ?_; conv => whnf))
    · have h5 : (!sameItem xs[i] ys[i]) = true := h5
      exact ResOK.same (by rw [no (by simpa using h5)])
    · have h5 : (!sameItem xs[i] ys[i]) = false := h5
      refine Pick.at64 (z := (i + 1 : Nat)) (by simp) (by omega) ?_
      ((conv => whnf); repeat first | (refine Br.no ?_; conv => whnf) | (refine Br.yes ?_; conv => whnf) | (refine Pick.draw (by kernel_rfl) ?_; conv => whnf))
      exact ih (i + 1) ⟨by omega, next (by simpa using h5)⟩ (by omega)
  · simp at h
    exact ResOK.same (by rw [sameBy_yes (by omega) fun j h1 h2 => h3 j h1 h2 (by omega)])

theorem s_impl_SameItems (xs ys : List Item) (hb : xs.length ≤ maxLen) (o : Enc.ok xs) : Sat Try.prog 21 [(false, Enc.enc xs), (false, Enc.enc ys)] (.one (.c (.bool (sameBy sameItem xs ys))), []) := by
  refine Sat.intro tok mixed Try.func21 rfl rfl ?_
  ((conv => whnf); repeat first | (refine Br.no ?_; conv => whnf) | (refine Br.yes ?_; conv => whnf) | (refine Pick.draw (by kernel_rfl) ?_; conv => whnf))
  refine Pick.mk _ (s_EqualItem xs ys hb o) ?_
  ((conv => whnf); repeat first | (refine Br.no ?_; conv => whnf) | (refine Br.yes ?_; conv => whnf) | (refine Pick.draw (by kernel_rfl) ?_; conv => whnf))
  exact ResOK.same rfl

end Go.Proofs.Ytphdicamabjbbaa.Pi
