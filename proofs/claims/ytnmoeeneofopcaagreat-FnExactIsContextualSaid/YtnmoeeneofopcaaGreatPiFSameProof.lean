/- SameMatrix and SameProof, the reference and the program. No statement of the seat is proved here. -/
import Derived.Test.YtnmoeeneofopcaaGreatPiFSameDef
namespace Go.Proofs.YtnmoeeneofopcaaGreat.Pi
open Go
set_option maxRecDepth 10000
set_option linter.unusedVariables false

theorem s_l00Same (xs ys : List Int) (hb : xs.length ≤ maxLen) : Sat Tryz.prog 276 [(false, Enc.enc xs), (false, Enc.enc ys)] (.one (.c (.bool (sameBy sameInt xs ys))), []) := by
  simp only [maxLen] at hb
  have hl : (xs.map (Enc.enc (α := Int))).length = xs.length := by simp
  refine Sat.intro tok mixed Tryz.func276 rfl rfl ?_
  ((conv => whnf); repeat ((first | refine B0 ?_ | refine B1 ?_ | refine D1 ?_ | refine D2 ?_ | refine CallC.r ?_); conv => whnf))
  refine Br.mk (fun h => ?_) (fun h => ?_) <;> ((conv => whnf); repeat ((first | refine B0 ?_ | refine B1 ?_ | refine D1 ?_ | refine D2 ?_ | refine CallC.r ?_); conv => whnf))
  · simp at h
    exact ResOK.same (by rw [sameBy_len (by omega)])
  simp at h
  refine Pick.mk [0, 1, 5] trivial ?_
  ((conv => whnf); repeat ((first | refine B0 ?_ | refine B1 ?_ | refine D1 ?_ | refine D2 ?_ | refine CallC.r ?_); conv => whnf))
  refine LoopL.run (fun i : Nat => St.mk [.one (.c (.slice 1 (xs.map Enc.enc))), .one (.c (.slice 1 (ys.map Enc.enc))), .one .dead, .one .dead, .one .dead, .one (.c (.int .i64 i)), .one .dead, .one .dead, .one .dead, .one .dead, .one .dead, .one .dead, .one .dead, .one .dead, .one .dead, .one .dead, .one .dead, .one .dead, .one .dead, .one .dead, .one .dead, .one .dead, .one .dead, .one .dead, .one .dead, .one .dead] []) (fun i => xs.length - i) (fun i => i ≤ xs.length ∧ ∀ (j : Nat) (h1 : j < xs.length) (h2 : j < ys.length), j < i → sameInt xs[j] ys[j] = true) ?_ 0 ⟨Nat.zero_le _, by intros; omega⟩
  intro i ⟨h2, h3⟩ ih
  ((conv => whnf); repeat ((first | refine B0 ?_ | refine B1 ?_ | refine D1 ?_ | refine D2 ?_ | refine CallC.r ?_); conv => whnf))
  refine Br.mk (fun h => ?_) (fun h => ?_) <;> ((conv => whnf); repeat ((first | refine B0 ?_ | refine B1 ?_ | refine D1 ?_ | refine D2 ?_ | refine CallC.r ?_); conv => whnf))
  · simp at h
    have h2y : i < ys.length := by omega
    have no : sameInt xs[i] ys[i] = false → sameBy sameInt xs ys = false := fun e => sameBy_no i h h2y e
    have next : sameInt xs[i] ys[i] = true → ∀ (j : Nat) (h1 : j < xs.length) (h2 : j < ys.length), j < i + 1 → sameInt xs[j] ys[j] = true := fun e j h1 h2 h6 => by
      by_cases hj : j < i
      · exact h3 j h1 h2 hj
      · obtain rfl : j = i := by omega
        exact e
    refine Pick.ix h ?_
    ((conv => whnf); repeat ((first | refine B0 ?_ | refine B1 ?_ | refine D1 ?_ | refine D2 ?_ | refine CallC.r ?_); conv => whnf))
    refine Pick.ix h2y ?_
    ((conv => whnf); repeat ((first | refine B0 ?_ | refine B1 ?_ | refine D1 ?_ | refine D2 ?_ | refine CallC.r ?_); conv => whnf))
    refine Br.mk (fun h5 => ?_) (fun h5 => ?_) <;> ((conv => whnf); repeat ((first | refine B0 ?_ | refine B1 ?_ | refine D1 ?_ | refine D2 ?_ | refine CallC.r ?_); conv => whnf))
    · have h5 : (!sameInt xs[i] ys[i]) = true := h5
      exact ResOK.same (by rw [no (by simpa using h5)])
    · have h5 : (!sameInt xs[i] ys[i]) = false := h5
      refine Pick.at64 (z := (i + 1 : Nat)) (by simp) (by omega) ?_
      ((conv => whnf); repeat ((first | refine B0 ?_ | refine B1 ?_ | refine D1 ?_ | refine D2 ?_ | refine CallC.r ?_); conv => whnf))
      exact ih (i + 1) ⟨by omega, next (by simpa using h5)⟩ (by omega)
  · simp at h
    exact ResOK.same (by rw [sameBy_yes (by omega) fun j h1 h2 => h3 j h1 h2 (by omega)])

theorem s_EqualInt (xs ys : List Int) (hb : xs.length ≤ maxLen) : Sat Tryz.prog 101 [(false, Enc.enc xs), (false, Enc.enc ys)] (.one (.c (.bool (sameBy sameInt xs ys))), []) := by
  simp only [maxLen] at hb
  have hl : (xs.map (Enc.enc (α := Int))).length = xs.length := by simp
  refine Sat.intro tok mixed Tryz.func101 rfl rfl ?_
  ((conv => whnf); repeat ((first | refine B0 ?_ | refine B1 ?_ | refine D1 ?_ | refine D2 ?_ | refine CallC.r ?_); conv => whnf))
  refine Br.mk (fun h => ?_) (fun h => ?_) <;> ((conv => whnf); repeat ((first | refine B0 ?_ | refine B1 ?_ | refine D1 ?_ | refine D2 ?_ | refine CallC.r ?_); conv => whnf))
  · simp at h
    exact ResOK.same (by rw [sameBy_len (by omega)])
  simp at h
  refine Pick.mk [0, 1, 12, 13] trivial ?_
  ((conv => whnf); repeat ((first | refine B0 ?_ | refine B1 ?_ | refine D1 ?_ | refine D2 ?_ | refine CallC.r ?_); conv => whnf))
  refine LoopL.run (fun i : Nat => St.mk [.one (.c (.slice 1 (xs.map Enc.enc))), .one (.c (.slice 1 (ys.map Enc.enc))), .one .dead, .one .dead, .one .dead, .one .dead, .one .dead, .one .dead, .one .dead, .one .dead, .one .dead, .one .dead, .one (.c (.int .i64 (xs.map (Enc.enc (α := Int))).length)), .one (.c (.int .i64 i)), .one .dead, .one .dead, .one .dead, .one .dead, .one .dead, .one .dead, .one .dead, .one .dead, .one .dead, .one .dead, .one .dead, .one .dead] []) (fun i => xs.length - i) (fun i => i ≤ xs.length ∧ ∀ (j : Nat) (h1 : j < xs.length) (h2 : j < ys.length), j < i → sameInt xs[j] ys[j] = true) ?_ 0 ⟨Nat.zero_le _, by intros; omega⟩
  intro i ⟨h2, h3⟩ ih
  ((conv => whnf); repeat ((first | refine B0 ?_ | refine B1 ?_ | refine D1 ?_ | refine D2 ?_ | refine CallC.r ?_); conv => whnf))
  refine Br.mk (fun h => ?_) (fun h => ?_) <;> ((conv => whnf); repeat ((first | refine B0 ?_ | refine B1 ?_ | refine D1 ?_ | refine D2 ?_ | refine CallC.r ?_); conv => whnf))
  · simp at h
    have h2y : i < ys.length := by omega
    have no : sameInt xs[i] ys[i] = false → sameBy sameInt xs ys = false := fun e => sameBy_no i h h2y e
    have next : sameInt xs[i] ys[i] = true → ∀ (j : Nat) (h1 : j < xs.length) (h2 : j < ys.length), j < i + 1 → sameInt xs[j] ys[j] = true := fun e j h1 h2 h6 => by
      by_cases hj : j < i
      · exact h3 j h1 h2 hj
      · obtain rfl : j = i := by omega
        exact e
    refine Pick.ix h ?_
    ((conv => whnf); repeat ((first | refine B0 ?_ | refine B1 ?_ | refine D1 ?_ | refine D2 ?_ | refine CallC.r ?_); conv => whnf))
    refine Pick.ix h2y ?_
    ((conv => whnf); repeat ((first | refine B0 ?_ | refine B1 ?_ | refine D1 ?_ | refine D2 ?_ | refine CallC.r ?_); conv => whnf))
    refine Br.mk (fun h5 => ?_) (fun h5 => ?_) <;> ((conv => whnf); repeat ((first | refine B0 ?_ | refine B1 ?_ | refine D1 ?_ | refine D2 ?_ | refine CallC.r ?_); conv => whnf))
    · have h5 : (!sameInt xs[i] ys[i]) = true := h5
      exact ResOK.same (by rw [no (by simpa using h5)])
    · have h5 : (!sameInt xs[i] ys[i]) = false := h5
      refine Pick.at64 (z := (i + 1 : Nat)) (by simp) (by omega) ?_
      ((conv => whnf); repeat ((first | refine B0 ?_ | refine B1 ?_ | refine D1 ?_ | refine D2 ?_ | refine CallC.r ?_); conv => whnf))
      exact ih (i + 1) ⟨by omega, next (by simpa using h5)⟩ (by omega)
  · simp at h
    exact ResOK.same (by rw [sameBy_yes (by omega) fun j h1 h2 => h3 j h1 h2 (by omega)])

theorem s_l04SameRows (xs ys : List (List Int)) (hb : xs.length ≤ maxLen) (o : Enc.ok xs) : Sat Tryz.prog 303 [(false, Enc.enc xs), (false, Enc.enc ys)] (.one (.c (.bool (sameBy (sameBy sameInt) xs ys))), []) := by
  simp only [maxLen] at hb
  have hl : (xs.map (Enc.enc (α := List Int))).length = xs.length := by simp
  refine Sat.intro tok mixed Tryz.func303 rfl rfl ?_
  ((conv => whnf); repeat ((first | refine B0 ?_ | refine B1 ?_ | refine D1 ?_ | refine D2 ?_ | refine CallC.r ?_); conv => whnf))
  refine Br.mk (fun h => ?_) (fun h => ?_) <;> ((conv => whnf); repeat ((first | refine B0 ?_ | refine B1 ?_ | refine D1 ?_ | refine D2 ?_ | refine CallC.r ?_); conv => whnf))
  · simp at h
    exact ResOK.same (by rw [sameBy_len (by omega)])
  simp at h
  refine Pick.mk [0, 1, 5] trivial ?_
  ((conv => whnf); repeat ((first | refine B0 ?_ | refine B1 ?_ | refine D1 ?_ | refine D2 ?_ | refine CallC.r ?_); conv => whnf))
  refine LoopL.run (fun i : Nat => St.mk [.one (.c (.slice 1 (xs.map Enc.enc))), .one (.c (.slice 1 (ys.map Enc.enc))), .one .dead, .one .dead, .one .dead, .one (.c (.int .i64 i)), .one .dead, .one .dead, .one .dead, .one .dead, .one .dead, .one .dead, .one .dead, .one .dead, .one .dead, .one .dead, .one .dead, .one .dead, .one .dead, .one .dead, .one .dead, .one .dead, .one .dead, .one .dead, .one .dead, .one .dead, .one .dead] []) (fun i => xs.length - i) (fun i => i ≤ xs.length ∧ ∀ (j : Nat) (h1 : j < xs.length) (h2 : j < ys.length), j < i → (sameBy sameInt) xs[j] ys[j] = true) ?_ 0 ⟨Nat.zero_le _, by intros; omega⟩
  intro i ⟨h2, h3⟩ ih
  ((conv => whnf); repeat ((first | refine B0 ?_ | refine B1 ?_ | refine D1 ?_ | refine D2 ?_ | refine CallC.r ?_); conv => whnf))
  refine Br.mk (fun h => ?_) (fun h => ?_) <;> ((conv => whnf); repeat ((first | refine B0 ?_ | refine B1 ?_ | refine D1 ?_ | refine D2 ?_ | refine CallC.r ?_); conv => whnf))
  · simp at h
    have h2y : i < ys.length := by omega
    have no : (sameBy sameInt) xs[i] ys[i] = false → sameBy (sameBy sameInt) xs ys = false := fun e => sameBy_no i h h2y e
    have next : (sameBy sameInt) xs[i] ys[i] = true → ∀ (j : Nat) (h1 : j < xs.length) (h2 : j < ys.length), j < i + 1 → (sameBy sameInt) xs[j] ys[j] = true := fun e j h1 h2 h6 => by
      by_cases hj : j < i
      · exact h3 j h1 h2 hj
      · obtain rfl : j = i := by omega
        exact e
    refine Pick.ix h ?_
    ((conv => whnf); repeat ((first | refine B0 ?_ | refine B1 ?_ | refine D1 ?_ | refine D2 ?_ | refine CallC.r ?_); conv => whnf))
    refine Pick.ix h2y ?_
    ((conv => whnf); repeat ((first | refine B0 ?_ | refine B1 ?_ | refine D1 ?_ | refine D2 ?_ | refine CallC.r ?_); conv => whnf))
    refine Pick.mk _ (s_l00Same xs[i] ys[i] (o.2 _ (List.getElem_mem h)).1) ?_
    ((conv => whnf); repeat ((first | refine B0 ?_ | refine B1 ?_ | refine D1 ?_ | refine D2 ?_ | refine CallC.r ?_); conv => whnf))
    refine Br.mk (fun h5 => ?_) (fun h5 => ?_) <;> ((conv => whnf); repeat ((first | refine B0 ?_ | refine B1 ?_ | refine D1 ?_ | refine D2 ?_ | refine CallC.r ?_); conv => whnf))
    · have h5 : (!(sameBy sameInt) xs[i] ys[i]) = true := h5
      exact ResOK.same (by rw [no (by simpa using h5)])
    · have h5 : (!(sameBy sameInt) xs[i] ys[i]) = false := h5
      refine Pick.at64 (z := (i + 1 : Nat)) (by simp) (by omega) ?_
      ((conv => whnf); repeat ((first | refine B0 ?_ | refine B1 ?_ | refine D1 ?_ | refine D2 ?_ | refine CallC.r ?_); conv => whnf))
      exact ih (i + 1) ⟨by omega, next (by simpa using h5)⟩ (by omega)
  · simp at h
    exact ResOK.same (by rw [sameBy_yes (by omega) fun j h1 h2 => h3 j h1 h2 (by omega)])

theorem s_EqualInts (xs ys : List (List Int)) (hb : xs.length ≤ maxLen) (o : Enc.ok xs) : Sat Tryz.prog 339 [(false, Enc.enc xs), (false, Enc.enc ys), (false, [.fn 101 []])] (.one (.c (.bool (sameBy (sameBy sameInt) xs ys))), []) := by
  simp only [maxLen] at hb
  have hl : (xs.map (Enc.enc (α := List Int))).length = xs.length := by simp
  refine Sat.intro tok mixed Tryz.func339 rfl rfl ?_
  ((conv => whnf); repeat ((first | refine B0 ?_ | refine B1 ?_ | refine D1 ?_ | refine D2 ?_ | refine CallC.r ?_); conv => whnf))
  refine Br.mk (fun h => ?_) (fun h => ?_) <;> ((conv => whnf); repeat ((first | refine B0 ?_ | refine B1 ?_ | refine D1 ?_ | refine D2 ?_ | refine CallC.r ?_); conv => whnf))
  · simp at h
    exact ResOK.same (by rw [sameBy_len (by omega)])
  simp at h
  refine Pick.mk [0, 1, 2, 15, 16, 17] trivial ?_
  ((conv => whnf); repeat ((first | refine B0 ?_ | refine B1 ?_ | refine D1 ?_ | refine D2 ?_ | refine CallC.r ?_); conv => whnf))
  refine LoopL.run (fun i : Nat => St.mk [.one (.c (.slice 1 (xs.map Enc.enc))), .one (.c (.slice 1 (ys.map Enc.enc))), .one (.c (.fn 101 [])), .one .dead, .one .dead, .one .dead, .one .dead, .one .dead, .one .dead, .one .dead, .one .dead, .one .dead, .one .dead, .one .dead, .one .dead, .one (.c (.slice 1 (xs.map Enc.enc))), .one (.c (.int .i64 (xs.map (Enc.enc (α := List Int))).length)), .one (.c (.int .i64 i)), .one .dead, .one .dead, .one .dead, .one .dead, .one .dead, .one .dead, .one .dead, .one .dead, .one .dead, .one .dead, .one .dead, .one .dead, .one .dead, .one .dead] []) (fun i => xs.length - i) (fun i => i ≤ xs.length ∧ ∀ (j : Nat) (h1 : j < xs.length) (h2 : j < ys.length), j < i → (sameBy sameInt) xs[j] ys[j] = true) ?_ 0 ⟨Nat.zero_le _, by intros; omega⟩
  intro i ⟨h2, h3⟩ ih
  ((conv => whnf); repeat ((first | refine B0 ?_ | refine B1 ?_ | refine D1 ?_ | refine D2 ?_ | refine CallC.r ?_); conv => whnf))
  refine Br.mk (fun h => ?_) (fun h => ?_) <;> ((conv => whnf); repeat ((first | refine B0 ?_ | refine B1 ?_ | refine D1 ?_ | refine D2 ?_ | refine CallC.r ?_); conv => whnf))
  · simp at h
    have h2y : i < ys.length := by omega
    have no : (sameBy sameInt) xs[i] ys[i] = false → sameBy (sameBy sameInt) xs ys = false := fun e => sameBy_no i h h2y e
    have next : (sameBy sameInt) xs[i] ys[i] = true → ∀ (j : Nat) (h1 : j < xs.length) (h2 : j < ys.length), j < i + 1 → (sameBy sameInt) xs[j] ys[j] = true := fun e j h1 h2 h6 => by
      by_cases hj : j < i
      · exact h3 j h1 h2 hj
      · obtain rfl : j = i := by omega
        exact e
    refine Pick.ix h ?_
    ((conv => whnf); repeat ((first | refine B0 ?_ | refine B1 ?_ | refine D1 ?_ | refine D2 ?_ | refine CallC.r ?_); conv => whnf))
    refine Pick.ix h2y ?_
    ((conv => whnf); repeat ((first | refine B0 ?_ | refine B1 ?_ | refine D1 ?_ | refine D2 ?_ | refine CallC.r ?_); conv => whnf))
    refine Pick.mk _ (s_EqualInt xs[i] ys[i] (o.2 _ (List.getElem_mem h)).1) ?_
    ((conv => whnf); repeat ((first | refine B0 ?_ | refine B1 ?_ | refine D1 ?_ | refine D2 ?_ | refine CallC.r ?_); conv => whnf))
    refine Br.mk (fun h5 => ?_) (fun h5 => ?_) <;> ((conv => whnf); repeat ((first | refine B0 ?_ | refine B1 ?_ | refine D1 ?_ | refine D2 ?_ | refine CallC.r ?_); conv => whnf))
    · have h5 : (!(sameBy sameInt) xs[i] ys[i]) = true := h5
      exact ResOK.same (by rw [no (by simpa using h5)])
    · have h5 : (!(sameBy sameInt) xs[i] ys[i]) = false := h5
      refine Pick.at64 (z := (i + 1 : Nat)) (by simp) (by omega) ?_
      ((conv => whnf); repeat ((first | refine B0 ?_ | refine B1 ?_ | refine D1 ?_ | refine D2 ?_ | refine CallC.r ?_); conv => whnf))
      exact ih (i + 1) ⟨by omega, next (by simpa using h5)⟩ (by omega)
  · simp at h
    exact ResOK.same (by rw [sameBy_yes (by omega) fun j h1 h2 => h3 j h1 h2 (by omega)])

def sameMatrix (x y : Matrix) : Bool := sameInt x.prime y.prime && (sameInt x.rows y.rows && (sameInt x.columns y.columns && sameBy sameInt x.cells y.cells))
def sameProof (x y : Proof) : Bool := sameInt x.kind y.kind && (sameMatrix x.claim y.claim && sameBy (sameBy sameInt) x.vectors y.vectors)

theorem s_impl_SameMatrix (x y : Matrix) (o : Enc.ok x) : Sat Tryz.prog 299 [(true, Enc.enc x), (true, Enc.enc y)] (.one (.c (.bool (sameMatrix x y))), []) := by
  refine Sat.intro tok mixed Tryz.func299 rfl rfl ?_
  ((conv => whnf); repeat ((first | refine B0 ?_ | refine B1 ?_ | refine D1 ?_ | refine D2 ?_ | refine CallC.r ?_); conv => whnf))
  repeat' first
    | (refine Pick.mk _ (s_EqualInt x.cells y.cells o.2.2.2.1) ?_; ((conv => whnf); repeat ((first | refine B0 ?_ | refine B1 ?_ | refine D1 ?_ | refine D2 ?_ | refine CallC.r ?_); conv => whnf)))
    | (refine Br.mk (fun h => ?_) (fun h => ?_) <;> ((conv => whnf); repeat ((first | refine B0 ?_ | refine B1 ?_ | refine D1 ?_ | refine D2 ?_ | refine CallC.r ?_); conv => whnf)))
  all_goals exact ResOK.same (by simp_all [sameMatrix, sameInt])

theorem s_areSame (xs ys : List (List Int)) (o : Enc.ok xs) : Sat Tryz.prog 310 [(false, Enc.enc xs), (false, Enc.enc ys)] (.one (.c (.bool (sameBy (sameBy sameInt) xs ys))), []) := by
  refine Sat.intro tok mixed Tryz.func310 rfl rfl ?_
  ((conv => whnf); repeat ((first | refine B0 ?_ | refine B1 ?_ | refine D1 ?_ | refine D2 ?_ | refine CallC.r ?_); conv => whnf))
  refine Pick.mk _ (s_EqualInts xs ys o.1 o) ?_
  ((conv => whnf); repeat ((first | refine B0 ?_ | refine B1 ?_ | refine D1 ?_ | refine D2 ?_ | refine CallC.r ?_); conv => whnf))
  exact ResOK.same rfl

theorem s_l03Same (x y : Matrix) (o : Enc.ok x) : Sat Tryz.prog 286 [(false, [.ptr 4 (Enc.enc x)]), (false, [.ptr 4 (Enc.enc y)])] (.one (.c (.bool (sameMatrix x y))), []) := by
  obtain ⟨_, _, _, o1, _⟩ := o
  simp only [maxLen] at o1
  have hl : (x.cells.map (Enc.enc (α := Int))).length = x.cells.length := by simp
  refine Sat.intro tok mixed Tryz.func286 rfl rfl ?_
  ((conv => whnf); repeat ((first | refine B0 ?_ | refine B1 ?_ | refine D1 ?_ | refine D2 ?_ | refine CallC.r ?_); conv => whnf))
  refine Br.mk (fun ha => ?_) (fun ha => ?_) <;> ((conv => whnf); repeat ((first | refine B0 ?_ | refine B1 ?_ | refine D1 ?_ | refine D2 ?_ | refine CallC.r ?_); conv => whnf))
  · exact ResOK.same (by simp at ha; simp [sameMatrix, sameInt, ha])
  refine Br.mk (fun hb => ?_) (fun hb => ?_) <;> ((conv => whnf); repeat ((first | refine B0 ?_ | refine B1 ?_ | refine D1 ?_ | refine D2 ?_ | refine CallC.r ?_); conv => whnf))
  · exact ResOK.same (by simp at hb; simp [sameMatrix, sameInt, hb])
  refine Br.mk (fun hc => ?_) (fun hc => ?_) <;> ((conv => whnf); repeat ((first | refine B0 ?_ | refine B1 ?_ | refine D1 ?_ | refine D2 ?_ | refine CallC.r ?_); conv => whnf))
  · exact ResOK.same (by simp at hc; simp [sameMatrix, sameInt, hc])
  refine Br.mk (fun h => ?_) (fun h => ?_) <;> ((conv => whnf); repeat ((first | refine B0 ?_ | refine B1 ?_ | refine D1 ?_ | refine D2 ?_ | refine CallC.r ?_); conv => whnf))
  · exact ResOK.same (by simp at h; simp [sameMatrix, sameBy_len (g := sameInt) (xs := x.cells) (ys := y.cells) (by omega)])
  simp at ha hb hc h
  have hm : sameMatrix x y = sameBy sameInt x.cells y.cells := by simp [sameMatrix, sameInt, ha, hb, hc]
  refine Pick.mk [0, 1, 5] trivial ?_
  ((conv => whnf); repeat ((first | refine B0 ?_ | refine B1 ?_ | refine D1 ?_ | refine D2 ?_ | refine CallC.r ?_); conv => whnf))
  refine LoopL.run (fun i : Nat => St.mk [.one (.c (.ptr 4 (Enc.enc x))), .one (.c (.ptr 4 (Enc.enc y))), .one .dead, .one .dead, .one .dead, .one (.c (.int .i64 i)), .one .dead, .one .dead, .one .dead, .one .dead, .one .dead, .one .dead, .one .dead, .one .dead, .one .dead, .one .dead, .one .dead, .one .dead, .one .dead, .one .dead, .one .dead, .one .dead, .one .dead, .one .dead, .one .dead, .one .dead, .one .dead, .one .dead, .one .dead, .one .dead, .one .dead, .one .dead, .one .dead, .one .dead, .one .dead, .one .dead, .one .dead, .one .dead, .one .dead, .one .dead, .one .dead, .one .dead, .one .dead, .one .dead, .one .dead, .one .dead, .one .dead, .one .dead, .one .dead, .one .dead, .one .dead, .one .dead, .one .dead, .one .dead, .one .dead, .one .dead, .one .dead, .one .dead, .one .dead, .one .dead, .one .dead, .one .dead, .one .dead, .one .dead, .one .dead, .one .dead, .one .dead, .one .dead, .one .dead, .one .dead, .one .dead, .one .dead, .one .dead, .one .dead] []) (fun i => x.cells.length - i) (fun i => i ≤ x.cells.length ∧ ∀ (j : Nat) (h1 : j < x.cells.length) (h2 : j < y.cells.length), j < i → sameInt x.cells[j] y.cells[j] = true) ?_ 0 ⟨Nat.zero_le _, by intros; omega⟩
  intro i ⟨h2, h3⟩ ih
  ((conv => whnf); repeat ((first | refine B0 ?_ | refine B1 ?_ | refine D1 ?_ | refine D2 ?_ | refine CallC.r ?_); conv => whnf))
  refine Br.mk (fun h => ?_) (fun h => ?_) <;> ((conv => whnf); repeat ((first | refine B0 ?_ | refine B1 ?_ | refine D1 ?_ | refine D2 ?_ | refine CallC.r ?_); conv => whnf))
  · simp at h
    have h2y : i < y.cells.length := by omega
    refine Pick.ix h ?_
    ((conv => whnf); repeat ((first | refine B0 ?_ | refine B1 ?_ | refine D1 ?_ | refine D2 ?_ | refine CallC.r ?_); conv => whnf))
    refine Pick.ix h2y ?_
    ((conv => whnf); repeat ((first | refine B0 ?_ | refine B1 ?_ | refine D1 ?_ | refine D2 ?_ | refine CallC.r ?_); conv => whnf))
    refine Br.mk (fun h5 => ?_) (fun h5 => ?_) <;> ((conv => whnf); repeat ((first | refine B0 ?_ | refine B1 ?_ | refine D1 ?_ | refine D2 ?_ | refine CallC.r ?_); conv => whnf))
    · have h5 : (!sameInt x.cells[i] y.cells[i]) = true := h5
      exact ResOK.same (by rw [hm, sameBy_no i h h2y (by simpa using h5)])
    · have h5 : (!sameInt x.cells[i] y.cells[i]) = false := h5
      refine Pick.at64 (z := (i + 1 : Nat)) (by simp) (by omega) ?_
      ((conv => whnf); repeat ((first | refine B0 ?_ | refine B1 ?_ | refine D1 ?_ | refine D2 ?_ | refine CallC.r ?_); conv => whnf))
      refine ih (i + 1) ⟨by omega, fun j h1 h2 h6 => ?_⟩ (by omega)
      by_cases hj : j < i
      · exact h3 j h1 h2 hj
      · obtain rfl : j = i := by omega
        simpa using h5
  · simp at h
    exact ResOK.same (by rw [hm, sameBy_yes (by omega) fun j h1 h2 => h3 j h1 h2 (by omega)])

end Go.Proofs.YtnmoeeneofopcaaGreat.Pi
