/- Worlds that are alike, the reference and the program. No statement of the seat is proved here. -/
import Derived.Test.YtcgoalegobkgaaaPiFSameProof
import Derived.Test.YtcgoalegobkgaaaPiEncW
namespace Go.Proofs.Ytcgoalegobkgaaa.Pi
open Go
set_option maxRecDepth 10000
set_option linter.unusedVariables false

def sameNC (x y : NamedComplex) : Bool := sameStr x.name y.name && sameBy (sameBy sameInt) x.value.simplices y.value.simplices
def sameSheaf (x y : Sheaf) : Bool := sameBy (sameBy sameInt) x.base.simplices y.base.simplices && (sameInt x.prime y.prime && (sameBy sameInt x.stalks y.stalks && sameBy sameMatrix x.maps y.maps))
def sameNS (x y : NamedSheaf) : Bool := sameStr x.name y.name && sameSheaf x.value y.value
def sameWorld (x y : World) : Bool := sameBy sameNC x.complexes y.complexes && sameBy sameNS x.sheaves y.sheaves

theorem s_impl_SameComplex (x y : Complex) (o : Enc.ok x) : Sat Try.prog 131 [(true, Enc.enc x), (true, Enc.enc y)] (.one (.c (.bool (sameBy (sameBy sameInt) x.simplices y.simplices))), []) := by
  refine Sat.intro tok mixed Try.func131 rfl rfl ?_
  ((conv => whnf); repeat first | (refine Br.no ?_; conv => whnf) | (refine Br.yes ?_; conv => whnf) | (refine Pick.draw (by kernel_rfl) ?_; conv => whnf))
  refine Pick.mk _ (s_areSame x.simplices y.simplices o) ?_
  ((conv => whnf); repeat first | (refine Br.no ?_; conv => whnf) | (refine Br.yes ?_; conv => whnf) | (refine Pick.draw (by kernel_rfl) ?_; conv => whnf))
  exact ResOK.same rfl

theorem s_EqualMatrix (xs ys : List Matrix) (hb : xs.length ≤ maxLen) (o : Enc.ok xs) : Sat Try.prog 185 [(false, Enc.enc xs), (false, Enc.enc ys), (false, [.fn 186 []])] (.one (.c (.bool (sameBy sameMatrix xs ys))), []) := by
  simp only [maxLen] at hb
  have hl : (xs.map (Enc.enc (α := Matrix))).length = xs.length := by simp
  refine Sat.intro tok mixed Try.func185 rfl rfl ?_
  ((conv => whnf); repeat first | (refine Br.no ?_; conv => whnf) | (refine Br.yes ?_; conv => whnf) | (refine Pick.draw (by kernel_rfl) ?_; conv => whnf))
  refine Br.mk (fun h => ?_) (fun h => ?_) <;> ((conv => whnf); repeat first | (refine Br.no ?_; conv => whnf) | (refine Br.yes ?_; conv => whnf) | (refine Pick.draw (by kernel_rfl) ?_; conv => whnf))
  · simp at h
    exact ResOK.same (by rw [sameBy_len (by omega)])
  simp at h
  refine Pick.mk [0, 1, 2, 15, 16, 17] trivial ?_
  ((conv => whnf); repeat first | (refine Br.no ?_; conv => whnf) | (refine Br.yes ?_; conv => whnf) | (refine Pick.draw (by kernel_rfl) ?_; conv => whnf))
  refine LoopL.run (fun i : Nat => St.mk [.one (.c (.slice 4 (xs.map Enc.enc))), .one (.c (.slice 4 (ys.map Enc.enc))), .one (.c (.fn 186 [])), .one .dead, .one .dead, .one .dead, .one .dead, .one .dead, .one .dead, .one .dead, .one .dead, .one .dead, .one .dead, .one .dead, .one .dead, .one (.c (.slice 4 (xs.map Enc.enc))), .one (.c (.int .i64 (xs.map (Enc.enc (α := Matrix))).length)), .one (.c (.int .i64 i)), .one .dead, .one .dead, .one .dead, .one .dead, .one .dead, .one .dead, .one .dead, .one .dead, .one .dead, .one .dead, .one .dead, .one .dead, .one .dead, .one .dead] []) (fun i => xs.length - i) (fun i => i ≤ xs.length ∧ ∀ (j : Nat) (h1 : j < xs.length) (h2 : j < ys.length), j < i → sameMatrix xs[j] ys[j] = true) ?_ 0 ⟨Nat.zero_le _, by intros; omega⟩
  intro i ⟨h2, h3⟩ ih
  ((conv => whnf); repeat first | (refine Br.no ?_; conv => whnf) | (refine Br.yes ?_; conv => whnf) | (refine Pick.draw (by kernel_rfl) ?_; conv => whnf))
  refine Br.mk (fun h => ?_) (fun h => ?_) <;> ((conv => whnf); repeat first | (refine Br.no ?_; conv => whnf) | (refine Br.yes ?_; conv => whnf) | (refine Pick.draw (by kernel_rfl) ?_; conv => whnf))
  · simp at h
    have h2y : i < ys.length := by omega
    have no : sameMatrix xs[i] ys[i] = false → sameBy sameMatrix xs ys = false := fun e => sameBy_no i h h2y e
    have next : sameMatrix xs[i] ys[i] = true → ∀ (j : Nat) (h1 : j < xs.length) (h2 : j < ys.length), j < i + 1 → sameMatrix xs[j] ys[j] = true := fun e j h1 h2 h6 => by
      by_cases hj : j < i
      · exact h3 j h1 h2 hj
      · obtain rfl : j = i := by omega
        exact e
    refine Pick.ix h ?_
    ((conv => whnf); repeat first | (refine Br.no ?_; conv => whnf) | (refine Br.yes ?_; conv => whnf) | (refine Pick.draw (by kernel_rfl) ?_; conv => whnf))
    refine Pick.ix h2y ?_
    ((conv => whnf); repeat first | (refine Br.no ?_; conv => whnf) | (refine Br.yes ?_; conv => whnf) | (refine Pick.draw (by kernel_rfl) ?_; conv => whnf))
    refine Pick.mk _ (s_impl_SameMatrix xs[i] ys[i] (o.2 _ (List.getElem_mem h))) ?_
    ((conv => whnf); repeat first | (refine Br.no ?_; conv => whnf) | (refine Br.yes ?_; conv => whnf) | (refine Pick.draw (by kernel_rfl) ?_; conv => whnf))
    refine Br.mk (fun h5 => ?_) (fun h5 => ?_) <;> ((conv => whnf); repeat first | (refine Br.no ?_; conv => whnf) | (refine Br.yes ?_; conv => whnf) | (refine Pick.draw (by kernel_rfl) ?_; conv => whnf))
    · have h5 : (!sameMatrix xs[i] ys[i]) = true := h5
      exact ResOK.same (by rw [no (by simpa using h5)])
    · have h5 : (!sameMatrix xs[i] ys[i]) = false := h5
      refine Pick.at64 (z := (i + 1 : Nat)) (by simp) (by omega) ?_
      ((conv => whnf); repeat first | (refine Br.no ?_; conv => whnf) | (refine Br.yes ?_; conv => whnf) | (refine Pick.draw (by kernel_rfl) ?_; conv => whnf))
      exact ih (i + 1) ⟨by omega, next (by simpa using h5)⟩ (by omega)
  · simp at h
    exact ResOK.same (by rw [sameBy_yes (by omega) fun j h1 h2 => h3 j h1 h2 (by omega)])

theorem s_impl_SameSheaf (x y : Sheaf) (o : Enc.ok x) : Sat Try.prog 134 [(true, Enc.enc x), (true, Enc.enc y)] (.one (.c (.bool (sameSheaf x y))), []) := by
  refine Sat.intro tok mixed Try.func134 rfl rfl ?_
  ((conv => whnf); repeat first | (refine Br.no ?_; conv => whnf) | (refine Br.yes ?_; conv => whnf) | (refine Pick.draw (by kernel_rfl) ?_; conv => whnf))
  repeat' first
    | (refine Pick.mk _ (s_impl_SameComplex x.base y.base o.1) ?_; ((conv => whnf); repeat first | (refine Br.no ?_; conv => whnf) | (refine Br.yes ?_; conv => whnf) | (refine Pick.draw (by kernel_rfl) ?_; conv => whnf)))
    | (refine Pick.mk _ (s_EqualInt x.stalks y.stalks o.2.2.1.1) ?_; ((conv => whnf); repeat first | (refine Br.no ?_; conv => whnf) | (refine Br.yes ?_; conv => whnf) | (refine Pick.draw (by kernel_rfl) ?_; conv => whnf)))
    | (refine Pick.mk _ (s_EqualMatrix x.maps y.maps o.2.2.2.1 o.2.2.2) ?_; ((conv => whnf); repeat first | (refine Br.no ?_; conv => whnf) | (refine Br.yes ?_; conv => whnf) | (refine Pick.draw (by kernel_rfl) ?_; conv => whnf)))
    | (refine Br.mk (fun h => ?_) (fun h => ?_) <;> ((conv => whnf); repeat first | (refine Br.no ?_; conv => whnf) | (refine Br.yes ?_; conv => whnf) | (refine Pick.draw (by kernel_rfl) ?_; conv => whnf)))
  all_goals exact ResOK.same (by simp_all [sameSheaf, sameInt])

theorem s_SameWorld1 (x y : NamedComplex) (o : Enc.ok x) : Sat Try.prog 130 [(true, Enc.enc x), (true, Enc.enc y)] (.one (.c (.bool (sameNC x y))), []) := by
  refine Sat.intro tok mixed Try.func130 rfl rfl ?_
  ((conv => whnf); repeat first | (refine Br.no ?_; conv => whnf) | (refine Br.yes ?_; conv => whnf) | (refine Pick.draw (by kernel_rfl) ?_; conv => whnf))
  repeat' first
    | (refine Pick.mk _ (s_impl_SameComplex x.value y.value o.2) ?_; ((conv => whnf); repeat first | (refine Br.no ?_; conv => whnf) | (refine Br.yes ?_; conv => whnf) | (refine Pick.draw (by kernel_rfl) ?_; conv => whnf)))
    | (refine Br.mk (fun h => ?_) (fun h => ?_) <;> ((conv => whnf); repeat first | (refine Br.no ?_; conv => whnf) | (refine Br.yes ?_; conv => whnf) | (refine Pick.draw (by kernel_rfl) ?_; conv => whnf)))
  all_goals exact ResOK.same (by simp_all [sameNC, sameStr])

theorem s_SameWorld2 (x y : NamedSheaf) (o : Enc.ok x) : Sat Try.prog 133 [(true, Enc.enc x), (true, Enc.enc y)] (.one (.c (.bool (sameNS x y))), []) := by
  refine Sat.intro tok mixed Try.func133 rfl rfl ?_
  ((conv => whnf); repeat first | (refine Br.no ?_; conv => whnf) | (refine Br.yes ?_; conv => whnf) | (refine Pick.draw (by kernel_rfl) ?_; conv => whnf))
  repeat' first
    | (refine Pick.mk _ (s_impl_SameSheaf x.value y.value o.2) ?_; ((conv => whnf); repeat first | (refine Br.no ?_; conv => whnf) | (refine Br.yes ?_; conv => whnf) | (refine Pick.draw (by kernel_rfl) ?_; conv => whnf)))
    | (refine Br.mk (fun h => ?_) (fun h => ?_) <;> ((conv => whnf); repeat first | (refine Br.no ?_; conv => whnf) | (refine Br.yes ?_; conv => whnf) | (refine Pick.draw (by kernel_rfl) ?_; conv => whnf)))
  all_goals exact ResOK.same (by simp_all [sameNS, sameStr])

theorem s_EqualNamedComplex (xs ys : List NamedComplex) (hb : xs.length ≤ maxLen) (o : Enc.ok xs) : Sat Try.prog 129 [(false, Enc.enc xs), (false, Enc.enc ys), (false, [.fn 130 []])] (.one (.c (.bool (sameBy sameNC xs ys))), []) := by
  simp only [maxLen] at hb
  have hl : (xs.map (Enc.enc (α := NamedComplex))).length = xs.length := by simp
  refine Sat.intro tok mixed Try.func129 rfl rfl ?_
  ((conv => whnf); repeat first | (refine Br.no ?_; conv => whnf) | (refine Br.yes ?_; conv => whnf) | (refine Pick.draw (by kernel_rfl) ?_; conv => whnf))
  refine Br.mk (fun h => ?_) (fun h => ?_) <;> ((conv => whnf); repeat first | (refine Br.no ?_; conv => whnf) | (refine Br.yes ?_; conv => whnf) | (refine Pick.draw (by kernel_rfl) ?_; conv => whnf))
  · simp at h
    exact ResOK.same (by rw [sameBy_len (by omega)])
  simp at h
  refine Pick.mk [0, 1, 2, 15, 16, 17] trivial ?_
  ((conv => whnf); repeat first | (refine Br.no ?_; conv => whnf) | (refine Br.yes ?_; conv => whnf) | (refine Pick.draw (by kernel_rfl) ?_; conv => whnf))
  refine LoopL.run (fun i : Nat => St.mk [.one (.c (.slice 2 (xs.map Enc.enc))), .one (.c (.slice 2 (ys.map Enc.enc))), .one (.c (.fn 130 [])), .one .dead, .one .dead, .one .dead, .one .dead, .one .dead, .one .dead, .one .dead, .one .dead, .one .dead, .one .dead, .one .dead, .one .dead, .one (.c (.slice 2 (xs.map Enc.enc))), .one (.c (.int .i64 (xs.map (Enc.enc (α := NamedComplex))).length)), .one (.c (.int .i64 i)), .one .dead, .one .dead, .one .dead, .one .dead, .one .dead, .one .dead, .one .dead, .one .dead, .one .dead, .one .dead, .one .dead, .one .dead, .one .dead, .one .dead] []) (fun i => xs.length - i) (fun i => i ≤ xs.length ∧ ∀ (j : Nat) (h1 : j < xs.length) (h2 : j < ys.length), j < i → sameNC xs[j] ys[j] = true) ?_ 0 ⟨Nat.zero_le _, by intros; omega⟩
  intro i ⟨h2, h3⟩ ih
  ((conv => whnf); repeat first | (refine Br.no ?_; conv => whnf) | (refine Br.yes ?_; conv => whnf) | (refine Pick.draw (by kernel_rfl) ?_; conv => whnf))
  refine Br.mk (fun h => ?_) (fun h => ?_) <;> ((conv => whnf); repeat first | (refine Br.no ?_; conv => whnf) | (refine Br.yes ?_; conv => whnf) | (refine Pick.draw (by kernel_rfl) ?_; conv => whnf))
  · simp at h
    have h2y : i < ys.length := by omega
    have no : sameNC xs[i] ys[i] = false → sameBy sameNC xs ys = false := fun e => sameBy_no i h h2y e
    have next : sameNC xs[i] ys[i] = true → ∀ (j : Nat) (h1 : j < xs.length) (h2 : j < ys.length), j < i + 1 → sameNC xs[j] ys[j] = true := fun e j h1 h2 h6 => by
      by_cases hj : j < i
      · exact h3 j h1 h2 hj
      · obtain rfl : j = i := by omega
        exact e
    refine Pick.ix h ?_
    ((conv => whnf); repeat first | (refine Br.no ?_; conv => whnf) | (refine Br.yes ?_; conv => whnf) | (refine Pick.draw (by kernel_rfl) ?_; conv => whnf))
    refine Pick.ix h2y ?_
    ((conv => whnf); repeat first | (refine Br.no ?_; conv => whnf) | (refine Br.yes ?_; conv => whnf) | (refine Pick.draw (by kernel_rfl) ?_; conv => whnf))
    refine Pick.mk _ (s_SameWorld1 xs[i] ys[i] (o.2 _ (List.getElem_mem h))) ?_
    ((conv => whnf); repeat first | (refine Br.no ?_; conv => whnf) | (refine Br.yes ?_; conv => whnf) | (refine Pick.draw (by kernel_rfl) ?_; conv => whnf))
    refine Br.mk (fun h5 => ?_) (fun h5 => ?_) <;> ((conv => whnf); repeat first | (refine Br.no ?_; conv => whnf) | (refine Br.yes ?_; conv => whnf) | (refine Pick.draw (by kernel_rfl) ?_; conv => whnf))
    · have h5 : (!sameNC xs[i] ys[i]) = true := h5
      exact ResOK.same (by rw [no (by simpa using h5)])
    · have h5 : (!sameNC xs[i] ys[i]) = false := h5
      refine Pick.at64 (z := (i + 1 : Nat)) (by simp) (by omega) ?_
      ((conv => whnf); repeat first | (refine Br.no ?_; conv => whnf) | (refine Br.yes ?_; conv => whnf) | (refine Pick.draw (by kernel_rfl) ?_; conv => whnf))
      exact ih (i + 1) ⟨by omega, next (by simpa using h5)⟩ (by omega)
  · simp at h
    exact ResOK.same (by rw [sameBy_yes (by omega) fun j h1 h2 => h3 j h1 h2 (by omega)])

theorem s_EqualNamedSheaf (xs ys : List NamedSheaf) (hb : xs.length ≤ maxLen) (o : Enc.ok xs) : Sat Try.prog 132 [(false, Enc.enc xs), (false, Enc.enc ys), (false, [.fn 133 []])] (.one (.c (.bool (sameBy sameNS xs ys))), []) := by
  simp only [maxLen] at hb
  have hl : (xs.map (Enc.enc (α := NamedSheaf))).length = xs.length := by simp
  refine Sat.intro tok mixed Try.func132 rfl rfl ?_
  ((conv => whnf); repeat first | (refine Br.no ?_; conv => whnf) | (refine Br.yes ?_; conv => whnf) | (refine Pick.draw (by kernel_rfl) ?_; conv => whnf))
  refine Br.mk (fun h => ?_) (fun h => ?_) <;> ((conv => whnf); repeat first | (refine Br.no ?_; conv => whnf) | (refine Br.yes ?_; conv => whnf) | (refine Pick.draw (by kernel_rfl) ?_; conv => whnf))
  · simp at h
    exact ResOK.same (by rw [sameBy_len (by omega)])
  simp at h
  refine Pick.mk [0, 1, 2, 15, 16, 17] trivial ?_
  ((conv => whnf); repeat first | (refine Br.no ?_; conv => whnf) | (refine Br.yes ?_; conv => whnf) | (refine Pick.draw (by kernel_rfl) ?_; conv => whnf))
  refine LoopL.run (fun i : Nat => St.mk [.one (.c (.slice 5 (xs.map Enc.enc))), .one (.c (.slice 5 (ys.map Enc.enc))), .one (.c (.fn 133 [])), .one .dead, .one .dead, .one .dead, .one .dead, .one .dead, .one .dead, .one .dead, .one .dead, .one .dead, .one .dead, .one .dead, .one .dead, .one (.c (.slice 5 (xs.map Enc.enc))), .one (.c (.int .i64 (xs.map (Enc.enc (α := NamedSheaf))).length)), .one (.c (.int .i64 i)), .one .dead, .one .dead, .one .dead, .one .dead, .one .dead, .one .dead, .one .dead, .one .dead, .one .dead, .one .dead, .one .dead, .one .dead, .one .dead, .one .dead] []) (fun i => xs.length - i) (fun i => i ≤ xs.length ∧ ∀ (j : Nat) (h1 : j < xs.length) (h2 : j < ys.length), j < i → sameNS xs[j] ys[j] = true) ?_ 0 ⟨Nat.zero_le _, by intros; omega⟩
  intro i ⟨h2, h3⟩ ih
  ((conv => whnf); repeat first | (refine Br.no ?_; conv => whnf) | (refine Br.yes ?_; conv => whnf) | (refine Pick.draw (by kernel_rfl) ?_; conv => whnf))
  refine Br.mk (fun h => ?_) (fun h => ?_) <;> ((conv => whnf); repeat first | (refine Br.no ?_; conv => whnf) | (refine Br.yes ?_; conv => whnf) | (refine Pick.draw (by kernel_rfl) ?_; conv => whnf))
  · simp at h
    have h2y : i < ys.length := by omega
    have no : sameNS xs[i] ys[i] = false → sameBy sameNS xs ys = false := fun e => sameBy_no i h h2y e
    have next : sameNS xs[i] ys[i] = true → ∀ (j : Nat) (h1 : j < xs.length) (h2 : j < ys.length), j < i + 1 → sameNS xs[j] ys[j] = true := fun e j h1 h2 h6 => by
      by_cases hj : j < i
      · exact h3 j h1 h2 hj
      · obtain rfl : j = i := by omega
        exact e
    refine Pick.ix h ?_
    ((conv => whnf); repeat first | (refine Br.no ?_; conv => whnf) | (refine Br.yes ?_; conv => whnf) | (refine Pick.draw (by kernel_rfl) ?_; conv => whnf))
    refine Pick.ix h2y ?_
    ((conv => whnf); repeat first | (refine Br.no ?_; conv => whnf) | (refine Br.yes ?_; conv => whnf) | (refine Pick.draw (by kernel_rfl) ?_; conv => whnf))
    refine Pick.mk _ (s_SameWorld2 xs[i] ys[i] (o.2 _ (List.getElem_mem h))) ?_
    ((conv => whnf); repeat first | (refine Br.no ?_; conv => whnf) | (refine Br.yes ?_; conv => whnf) | (refine Pick.draw (by kernel_rfl) ?_; conv => whnf))
    refine Br.mk (fun h5 => ?_) (fun h5 => ?_) <;> ((conv => whnf); repeat first | (refine Br.no ?_; conv => whnf) | (refine Br.yes ?_; conv => whnf) | (refine Pick.draw (by kernel_rfl) ?_; conv => whnf))
    · have h5 : (!sameNS xs[i] ys[i]) = true := h5
      exact ResOK.same (by rw [no (by simpa using h5)])
    · have h5 : (!sameNS xs[i] ys[i]) = false := h5
      refine Pick.at64 (z := (i + 1 : Nat)) (by simp) (by omega) ?_
      ((conv => whnf); repeat first | (refine Br.no ?_; conv => whnf) | (refine Br.yes ?_; conv => whnf) | (refine Pick.draw (by kernel_rfl) ?_; conv => whnf))
      exact ih (i + 1) ⟨by omega, next (by simpa using h5)⟩ (by omega)
  · simp at h
    exact ResOK.same (by rw [sameBy_yes (by omega) fun j h1 h2 => h3 j h1 h2 (by omega)])


theorem s_impl_SameWorld (x y : World) (o : Enc.ok x) : Sat Try.prog 63 [(true, Enc.enc x), (true, Enc.enc y)] (.one (.c (.bool (sameWorld x y))), []) := by
  refine Sat.intro tok mixed Try.func63 rfl rfl ?_
  ((conv => whnf); repeat first | (refine Br.no ?_; conv => whnf) | (refine Br.yes ?_; conv => whnf) | (refine Pick.draw (by kernel_rfl) ?_; conv => whnf))
  repeat' first
    | (refine Pick.mk _ (s_EqualNamedComplex x.complexes y.complexes o.1.1 o.1) ?_; ((conv => whnf); repeat first | (refine Br.no ?_; conv => whnf) | (refine Br.yes ?_; conv => whnf) | (refine Pick.draw (by kernel_rfl) ?_; conv => whnf)))
    | (refine Pick.mk _ (s_EqualNamedSheaf x.sheaves y.sheaves o.2.1 o.2) ?_; ((conv => whnf); repeat first | (refine Br.no ?_; conv => whnf) | (refine Br.yes ?_; conv => whnf) | (refine Pick.draw (by kernel_rfl) ?_; conv => whnf)))
    | (refine Br.mk (fun h => ?_) (fun h => ?_) <;> ((conv => whnf); repeat first | (refine Br.no ?_; conv => whnf) | (refine Br.yes ?_; conv => whnf) | (refine Pick.draw (by kernel_rfl) ?_; conv => whnf)))
  all_goals exact ResOK.same (by simp_all [sameWorld])

theorem s_l05Same (x y : Complex) (o : Enc.ok x) : Sat Try.prog 125 [(false, [.ptr 1 (Enc.enc x)]), (false, [.ptr 1 (Enc.enc y)])] (.one (.c (.bool (sameBy (sameBy sameInt) x.simplices y.simplices))), []) := by
  obtain ⟨o1, o2⟩ : x.simplices.length ≤ maxLen ∧ ∀ s ∈ x.simplices, Enc.ok s := o
  simp only [maxLen] at o1
  have hl : (x.simplices.map (Enc.enc (α := List Int))).length = x.simplices.length := by simp
  refine Sat.intro tok mixed Try.func125 rfl rfl ?_
  ((conv => whnf); repeat first | (refine Br.no ?_; conv => whnf) | (refine Br.yes ?_; conv => whnf) | (refine Pick.draw (by kernel_rfl) ?_; conv => whnf))
  refine Br.mk (fun h => ?_) (fun h => ?_) <;> ((conv => whnf); repeat first | (refine Br.no ?_; conv => whnf) | (refine Br.yes ?_; conv => whnf) | (refine Pick.draw (by kernel_rfl) ?_; conv => whnf))
  · exact ResOK.same (by simp at h; rw [sameBy_len (by omega)])
  simp at h
  refine Pick.mk [0, 1, 5] trivial ?_
  ((conv => whnf); repeat first | (refine Br.no ?_; conv => whnf) | (refine Br.yes ?_; conv => whnf) | (refine Pick.draw (by kernel_rfl) ?_; conv => whnf))
  refine LoopL.run (fun i : Nat => St.mk [.one (.c (.ptr 1 (Enc.enc x))), .one (.c (.ptr 1 (Enc.enc y))), .one .dead, .one .dead, .one .dead, .one (.c (.int .i64 i)), .one .dead, .one .dead, .one .dead, .one .dead, .one .dead, .one .dead, .one .dead, .one .dead, .one .dead, .one .dead, .one .dead, .one .dead, .one .dead, .one .dead, .one .dead, .one .dead, .one .dead, .one .dead, .one .dead, .one .dead, .one .dead, .one .dead, .one .dead, .one .dead, .one .dead, .one .dead, .one .dead, .one .dead, .one .dead, .one .dead, .one .dead, .one .dead, .one .dead, .one .dead, .one .dead, .one .dead] []) (fun i => x.simplices.length - i) (fun i => i ≤ x.simplices.length ∧ ∀ (j : Nat) (h1 : j < x.simplices.length) (h2 : j < y.simplices.length), j < i → (sameBy sameInt) x.simplices[j] y.simplices[j] = true) ?_ 0 ⟨Nat.zero_le _, by intros; omega⟩
  intro i ⟨h2, h3⟩ ih
  ((conv => whnf); repeat first | (refine Br.no ?_; conv => whnf) | (refine Br.yes ?_; conv => whnf) | (refine Pick.draw (by kernel_rfl) ?_; conv => whnf))
  refine Br.mk (fun h => ?_) (fun h => ?_) <;> ((conv => whnf); repeat first | (refine Br.no ?_; conv => whnf) | (refine Br.yes ?_; conv => whnf) | (refine Pick.draw (by kernel_rfl) ?_; conv => whnf))
  · simp at h
    have h2y : i < y.simplices.length := by omega
    refine Pick.ix h ?_
    ((conv => whnf); repeat first | (refine Br.no ?_; conv => whnf) | (refine Br.yes ?_; conv => whnf) | (refine Pick.draw (by kernel_rfl) ?_; conv => whnf))
    refine Pick.ix h2y ?_
    ((conv => whnf); repeat first | (refine Br.no ?_; conv => whnf) | (refine Br.yes ?_; conv => whnf) | (refine Pick.draw (by kernel_rfl) ?_; conv => whnf))
    refine Pick.mk _ (s_l00Same x.simplices[i] y.simplices[i] (o2 _ (List.getElem_mem h)).1) ?_
    ((conv => whnf); repeat first | (refine Br.no ?_; conv => whnf) | (refine Br.yes ?_; conv => whnf) | (refine Pick.draw (by kernel_rfl) ?_; conv => whnf))
    refine Br.mk (fun h5 => ?_) (fun h5 => ?_) <;> ((conv => whnf); repeat first | (refine Br.no ?_; conv => whnf) | (refine Br.yes ?_; conv => whnf) | (refine Pick.draw (by kernel_rfl) ?_; conv => whnf))
    · exact ResOK.same (by rw [sameBy_no i h h2y (by simpa using h5)])
    · refine Pick.at64 (z := (i + 1 : Nat)) (by simp) (by omega) ?_
      ((conv => whnf); repeat first | (refine Br.no ?_; conv => whnf) | (refine Br.yes ?_; conv => whnf) | (refine Pick.draw (by kernel_rfl) ?_; conv => whnf))
      refine ih (i + 1) ⟨by omega, fun j h1 h2 h6 => ?_⟩ (by omega)
      by_cases hj : j < i
      · exact h3 j h1 h2 hj
      · obtain rfl : j = i := by omega
        simpa using h5
  · simp at h
    exact ResOK.same (by rw [sameBy_yes (by omega) fun j h1 h2 => h3 j h1 h2 (by omega)])

theorem s_l09Same (x y : Sheaf) (o : Enc.ok x) : Sat Try.prog 126 [(false, [.ptr 4 (Enc.enc x)]), (false, [.ptr 4 (Enc.enc y)])] (.one (.c (.bool (sameSheaf x y))), []) := by
  obtain ⟨ob, _, os, o1, o2⟩ := o
  simp only [maxLen] at o1
  have hl : (x.maps.map (Enc.enc (α := Matrix))).length = x.maps.length := by simp
  refine Sat.intro tok mixed Try.func126 rfl rfl ?_
  ((conv => whnf); repeat first | (refine Br.no ?_; conv => whnf) | (refine Br.yes ?_; conv => whnf) | (refine Pick.draw (by kernel_rfl) ?_; conv => whnf))
  refine Pick.mk _ (s_l05Same x.base y.base ob) ?_
  ((conv => whnf); repeat first | (refine Br.no ?_; conv => whnf) | (refine Br.yes ?_; conv => whnf) | (refine Pick.draw (by kernel_rfl) ?_; conv => whnf))
  refine Br.mk (fun ha => ?_) (fun ha => ?_) <;> ((conv => whnf); repeat first | (refine Br.no ?_; conv => whnf) | (refine Br.yes ?_; conv => whnf) | (refine Pick.draw (by kernel_rfl) ?_; conv => whnf))
  · exact ResOK.same (by simp at ha; simp [sameSheaf, ha])
  refine Br.mk (fun hb => ?_) (fun hb => ?_) <;> ((conv => whnf); repeat first | (refine Br.no ?_; conv => whnf) | (refine Br.yes ?_; conv => whnf) | (refine Pick.draw (by kernel_rfl) ?_; conv => whnf))
  · exact ResOK.same (by simp at hb; simp [sameSheaf, sameInt, hb])
  refine Pick.mk _ (s_l00Same x.stalks y.stalks os.1) ?_
  ((conv => whnf); repeat first | (refine Br.no ?_; conv => whnf) | (refine Br.yes ?_; conv => whnf) | (refine Pick.draw (by kernel_rfl) ?_; conv => whnf))
  refine Br.mk (fun hc => ?_) (fun hc => ?_) <;> ((conv => whnf); repeat first | (refine Br.no ?_; conv => whnf) | (refine Br.yes ?_; conv => whnf) | (refine Pick.draw (by kernel_rfl) ?_; conv => whnf))
  · exact ResOK.same (by simp at hc; simp [sameSheaf, hc])
  refine Br.mk (fun h => ?_) (fun h => ?_) <;> ((conv => whnf); repeat first | (refine Br.no ?_; conv => whnf) | (refine Br.yes ?_; conv => whnf) | (refine Pick.draw (by kernel_rfl) ?_; conv => whnf))
  · exact ResOK.same (by simp at h; simp [sameSheaf, sameBy_len (g := sameMatrix) (xs := x.maps) (ys := y.maps) (by omega)])
  simp at ha hb hc h
  have hm : sameSheaf x y = sameBy sameMatrix x.maps y.maps := by simp [sameSheaf, sameInt, ha, hb, hc]
  refine Pick.mk [0, 1, 5] trivial ?_
  ((conv => whnf); repeat first | (refine Br.no ?_; conv => whnf) | (refine Br.yes ?_; conv => whnf) | (refine Pick.draw (by kernel_rfl) ?_; conv => whnf))
  refine LoopL.run (fun i : Nat => St.mk [.one (.c (.ptr 4 (Enc.enc x))), .one (.c (.ptr 4 (Enc.enc y))), .one .dead, .one .dead, .one .dead, .one (.c (.int .i64 i)), .one .dead, .one .dead, .one .dead, .one .dead, .one .dead, .one .dead, .one .dead, .one .dead, .one .dead, .one .dead, .one .dead, .one .dead, .one .dead, .one .dead, .one .dead, .one .dead, .one .dead, .one .dead, .one .dead, .one .dead, .one .dead, .one .dead, .one .dead, .one .dead, .one .dead, .one .dead, .one .dead, .one .dead, .one .dead, .one .dead, .one .dead, .one .dead, .one .dead, .one .dead, .one .dead, .one .dead, .one .dead, .one .dead, .one .dead, .one .dead, .one .dead, .one .dead, .one .dead, .one .dead, .one .dead, .one .dead, .one .dead, .one .dead, .one .dead, .one .dead, .one .dead, .one .dead, .one .dead, .one .dead, .one .dead, .one .dead, .one .dead, .one .dead, .one .dead, .one .dead, .one .dead, .one .dead, .one .dead, .one .dead, .one .dead, .one .dead, .one .dead] []) (fun i => x.maps.length - i) (fun i => i ≤ x.maps.length ∧ ∀ (j : Nat) (h1 : j < x.maps.length) (h2 : j < y.maps.length), j < i → sameMatrix x.maps[j] y.maps[j] = true) ?_ 0 ⟨Nat.zero_le _, by intros; omega⟩
  intro i ⟨h2, h3⟩ ih
  ((conv => whnf); repeat first | (refine Br.no ?_; conv => whnf) | (refine Br.yes ?_; conv => whnf) | (refine Pick.draw (by kernel_rfl) ?_; conv => whnf))
  refine Br.mk (fun h => ?_) (fun h => ?_) <;> ((conv => whnf); repeat first | (refine Br.no ?_; conv => whnf) | (refine Br.yes ?_; conv => whnf) | (refine Pick.draw (by kernel_rfl) ?_; conv => whnf))
  · simp at h
    have h2y : i < y.maps.length := by omega
    refine Pick.ix h ?_
    ((conv => whnf); repeat first | (refine Br.no ?_; conv => whnf) | (refine Br.yes ?_; conv => whnf) | (refine Pick.draw (by kernel_rfl) ?_; conv => whnf))
    refine Pick.ix h2y ?_
    ((conv => whnf); repeat first | (refine Br.no ?_; conv => whnf) | (refine Br.yes ?_; conv => whnf) | (refine Pick.draw (by kernel_rfl) ?_; conv => whnf))
    refine Pick.mk _ (s_l03Same x.maps[i] y.maps[i] (o2 _ (List.getElem_mem h))) ?_
    ((conv => whnf); repeat first | (refine Br.no ?_; conv => whnf) | (refine Br.yes ?_; conv => whnf) | (refine Pick.draw (by kernel_rfl) ?_; conv => whnf))
    refine Br.mk (fun h5 => ?_) (fun h5 => ?_) <;> ((conv => whnf); repeat first | (refine Br.no ?_; conv => whnf) | (refine Br.yes ?_; conv => whnf) | (refine Pick.draw (by kernel_rfl) ?_; conv => whnf))
    · exact ResOK.same (by rw [hm, sameBy_no i h h2y (by simpa using h5)])
    · refine Pick.at64 (z := (i + 1 : Nat)) (by simp) (by omega) ?_
      ((conv => whnf); repeat first | (refine Br.no ?_; conv => whnf) | (refine Br.yes ?_; conv => whnf) | (refine Pick.draw (by kernel_rfl) ?_; conv => whnf))
      refine ih (i + 1) ⟨by omega, fun j h1 h2 h6 => ?_⟩ (by omega)
      by_cases hj : j < i
      · exact h3 j h1 h2 hj
      · obtain rfl : j = i := by omega
        simpa using h5
  · simp at h
    exact ResOK.same (by rw [hm, sameBy_yes (by omega) fun j h1 h2 => h3 j h1 h2 (by omega)])

theorem s_spec_SameWorld (x y : World) (o : Enc.ok x) : Sat Try.prog 61 [(true, Enc.enc x), (true, Enc.enc y)] (.one (.c (.bool (sameWorld x y))), []) := by
  obtain ⟨⟨o1, o2⟩, o3, o4⟩ := o
  simp only [maxLen] at o1 o3
  have hl : (x.complexes.map (Enc.enc (α := NamedComplex))).length = x.complexes.length := by simp
  have hl2 : (x.sheaves.map (Enc.enc (α := NamedSheaf))).length = x.sheaves.length := by simp
  refine Sat.intro tok mixed Try.func61 rfl rfl ?_
  ((conv => whnf); repeat first | (refine Br.no ?_; conv => whnf) | (refine Br.yes ?_; conv => whnf) | (refine Pick.draw (by kernel_rfl) ?_; conv => whnf))
  refine Br.mk (fun ha => ?_) (fun ha => ?_) <;> ((conv => whnf); repeat first | (refine Br.no ?_; conv => whnf) | (refine Br.yes ?_; conv => whnf) | (refine Pick.draw (by kernel_rfl) ?_; conv => whnf))
  · exact ResOK.same (by simp at ha; simp [sameWorld, sameBy_len (g := sameNC) (xs := x.complexes) (ys := y.complexes) (by omega)])
  refine Br.mk (fun hb => ?_) (fun hb => ?_) <;> ((conv => whnf); repeat first | (refine Br.no ?_; conv => whnf) | (refine Br.yes ?_; conv => whnf) | (refine Pick.draw (by kernel_rfl) ?_; conv => whnf))
  · exact ResOK.same (by simp at hb; simp [sameWorld, sameBy_len (g := sameNS) (xs := x.sheaves) (ys := y.sheaves) (by omega)])
  simp at ha hb
  refine Pick.mk [2, 3, 5, 1000128, 1000192] trivial ?_
  ((conv => whnf); repeat first | (refine Br.no ?_; conv => whnf) | (refine Br.yes ?_; conv => whnf) | (refine Pick.draw (by kernel_rfl) ?_; conv => whnf))
  refine LoopL.run (fun i : Nat => St.mk [.one .dead, .one .dead, .one (.c (.ptr 2 (Enc.enc x))), .one (.c (.ptr 2 (Enc.enc y))), .one .dead, .one (.c (.int .i64 i)), .one .dead, .one .dead, .one .dead, .one .dead, .one .dead, .one .dead, .one .dead, .one .dead, .one .dead, .one .dead, .one .dead, .one .dead, .one .dead, .one .dead, .one .dead, .one .dead, .one .dead, .one .dead, .one .dead, .one .dead, .one .dead, .one .dead, .one .dead, .one .dead, .one .dead, .one .dead, .one .dead, .one .dead, .one .dead, .one .dead, .one .dead, .one .dead, .one .dead, .one .dead, .one .dead, .one .dead, .one .dead, .one .dead, .one .dead, .one .dead, .one .dead, .one .dead, .one .dead, .one .dead, .one .dead, .one .dead, .one .dead, .one .dead, .one .dead, .one .dead, .one .dead, .one .dead, .one .dead, .one .dead, .one .dead, .one .dead, .one .dead, .one .dead, .one .dead, .one .dead, .one .dead, .one .dead, .one .dead, .one .dead, .one .dead, .one .dead, .one .dead, .one .dead, .one .dead, .one .dead, .one .dead, .one .dead, .one .dead, .one .dead, .one .dead, .one .dead, .one .dead, .one .dead, .one .dead, .one .dead, .one .dead, .one .dead, .one .dead, .one .dead, .one .dead] []) (fun i => x.complexes.length - i) (fun i => i ≤ x.complexes.length ∧ ∀ (j : Nat) (h1 : j < x.complexes.length) (h2 : j < y.complexes.length), j < i → sameNC x.complexes[j] y.complexes[j] = true) ?_ 0 ⟨Nat.zero_le _, by intros; omega⟩
  intro i ⟨h2, h3⟩ ih
  ((conv => whnf); repeat first | (refine Br.no ?_; conv => whnf) | (refine Br.yes ?_; conv => whnf) | (refine Pick.draw (by kernel_rfl) ?_; conv => whnf))
  refine Br.mk (fun h => ?_) (fun h => ?_) <;> ((conv => whnf); repeat first | (refine Br.no ?_; conv => whnf) | (refine Br.yes ?_; conv => whnf) | (refine Pick.draw (by kernel_rfl) ?_; conv => whnf))
  · simp at h
    have h2y : i < y.complexes.length := by omega
    have no : sameNC x.complexes[i] y.complexes[i] = false → sameWorld x y = false := fun e => by simp [sameWorld, sameBy_no i h h2y e]
    refine Pick.ix h ?_
    ((conv => whnf); repeat first | (refine Br.no ?_; conv => whnf) | (refine Br.yes ?_; conv => whnf) | (refine Pick.draw (by kernel_rfl) ?_; conv => whnf))
    refine Pick.ix h2y ?_
    ((conv => whnf); repeat first | (refine Br.no ?_; conv => whnf) | (refine Br.yes ?_; conv => whnf) | (refine Pick.draw (by kernel_rfl) ?_; conv => whnf))
    refine Br.mk (fun h5 => ?_) (fun h5 => ?_) <;> ((conv => whnf); repeat first | (refine Br.no ?_; conv => whnf) | (refine Br.yes ?_; conv => whnf) | (refine Pick.draw (by kernel_rfl) ?_; conv => whnf))
    · have h5 : (!sameStr x.complexes[i].name y.complexes[i].name) = true := h5
      exact ResOK.same (by rw [no (by simp at h5; simp [sameNC, h5])])
    have h5 : (!sameStr x.complexes[i].name y.complexes[i].name) = false := h5
    refine Pick.ix h ?_
    ((conv => whnf); repeat first | (refine Br.no ?_; conv => whnf) | (refine Br.yes ?_; conv => whnf) | (refine Pick.draw (by kernel_rfl) ?_; conv => whnf))
    refine Pick.ix h2y ?_
    ((conv => whnf); repeat first | (refine Br.no ?_; conv => whnf) | (refine Br.yes ?_; conv => whnf) | (refine Pick.draw (by kernel_rfl) ?_; conv => whnf))
    refine Pick.mk _ (s_l05Same x.complexes[i].value y.complexes[i].value (o2 _ (List.getElem_mem h)).2) ?_
    ((conv => whnf); repeat first | (refine Br.no ?_; conv => whnf) | (refine Br.yes ?_; conv => whnf) | (refine Pick.draw (by kernel_rfl) ?_; conv => whnf))
    refine Br.mk (fun h6 => ?_) (fun h6 => ?_) <;> ((conv => whnf); repeat first | (refine Br.no ?_; conv => whnf) | (refine Br.yes ?_; conv => whnf) | (refine Pick.draw (by kernel_rfl) ?_; conv => whnf))
    · exact ResOK.same (by rw [no (by simp at h6; simp [sameNC, h6])])
    · refine Pick.at64 (z := (i + 1 : Nat)) (by simp) (by omega) ?_
      ((conv => whnf); repeat first | (refine Br.no ?_; conv => whnf) | (refine Br.yes ?_; conv => whnf) | (refine Pick.draw (by kernel_rfl) ?_; conv => whnf))
      refine ih (i + 1) ⟨by omega, fun j h1 h2 h7 => ?_⟩ (by omega)
      by_cases hj : j < i
      · exact h3 j h1 h2 hj
      · obtain rfl : j = i := by omega
        simp at h5 h6
        simp [sameNC, h5, h6]
  · simp at h
    have e1 := sameBy_yes (g := sameNC) (xs := x.complexes) (ys := y.complexes) (by omega) fun j h1 h2 => h3 j h1 h2 (by omega)
    refine Pick.mk [2, 3, 6] trivial ?_
    ((conv => whnf); repeat first | (refine Br.no ?_; conv => whnf) | (refine Br.yes ?_; conv => whnf) | (refine Pick.draw (by kernel_rfl) ?_; conv => whnf))
    refine LoopL.run (fun i : Nat => St.mk [.one .dead, .one .dead, .one (.c (.ptr 2 (Enc.enc x))), .one (.c (.ptr 2 (Enc.enc y))), .one .dead, .one .dead, .one (.c (.int .i64 i)), .one .dead, .one .dead, .one .dead, .one .dead, .one .dead, .one .dead, .one .dead, .one .dead, .one .dead, .one .dead, .one .dead, .one .dead, .one .dead, .one .dead, .one .dead, .one .dead, .one .dead, .one .dead, .one .dead, .one .dead, .one .dead, .one .dead, .one .dead, .one .dead, .one .dead, .one .dead, .one .dead, .one .dead, .one .dead, .one .dead, .one .dead, .one .dead, .one .dead, .one .dead, .one .dead, .one .dead, .one .dead, .one .dead, .one .dead, .one .dead, .one .dead, .one .dead, .one .dead, .one .dead, .one .dead, .one .dead, .one .dead, .one .dead, .one .dead, .one .dead, .one .dead, .one .dead, .one .dead, .one .dead, .one .dead, .one .dead, .one .dead, .one .dead, .one .dead, .one .dead, .one .dead, .one .dead, .one .dead, .one .dead, .one .dead, .one .dead, .one .dead, .one .dead, .one .dead, .one .dead, .one .dead, .one .dead, .one .dead, .one .dead, .one .dead, .one .dead, .one .dead, .one .dead, .one .dead, .one .dead, .one .dead, .one .dead, .one .dead, .one .dead] []) (fun i => x.sheaves.length - i) (fun i => i ≤ x.sheaves.length ∧ ∀ (j : Nat) (h1 : j < x.sheaves.length) (h2 : j < y.sheaves.length), j < i → sameNS x.sheaves[j] y.sheaves[j] = true) ?_ 0 ⟨Nat.zero_le _, by intros; omega⟩
    intro i ⟨h2, h3⟩ ih
    ((conv => whnf); repeat first | (refine Br.no ?_; conv => whnf) | (refine Br.yes ?_; conv => whnf) | (refine Pick.draw (by kernel_rfl) ?_; conv => whnf))
    refine Br.mk (fun h => ?_) (fun h => ?_) <;> ((conv => whnf); repeat first | (refine Br.no ?_; conv => whnf) | (refine Br.yes ?_; conv => whnf) | (refine Pick.draw (by kernel_rfl) ?_; conv => whnf))
    · simp at h
      have h2y : i < y.sheaves.length := by omega
      have no : sameNS x.sheaves[i] y.sheaves[i] = false → sameWorld x y = false := fun e => by simp [sameWorld, sameBy_no i h h2y e]
      refine Pick.ix h ?_
      ((conv => whnf); repeat first | (refine Br.no ?_; conv => whnf) | (refine Br.yes ?_; conv => whnf) | (refine Pick.draw (by kernel_rfl) ?_; conv => whnf))
      refine Pick.ix h2y ?_
      ((conv => whnf); repeat first | (refine Br.no ?_; conv => whnf) | (refine Br.yes ?_; conv => whnf) | (refine Pick.draw (by kernel_rfl) ?_; conv => whnf))
      refine Br.mk (fun h5 => ?_) (fun h5 => ?_) <;> ((conv => whnf); repeat first | (refine Br.no ?_; conv => whnf) | (refine Br.yes ?_; conv => whnf) | (refine Pick.draw (by kernel_rfl) ?_; conv => whnf))
      · have h5 : (!sameStr x.sheaves[i].name y.sheaves[i].name) = true := h5
        exact ResOK.same (by rw [no (by simp at h5; simp [sameNS, h5])])
      have h5 : (!sameStr x.sheaves[i].name y.sheaves[i].name) = false := h5
      refine Pick.ix h ?_
      ((conv => whnf); repeat first | (refine Br.no ?_; conv => whnf) | (refine Br.yes ?_; conv => whnf) | (refine Pick.draw (by kernel_rfl) ?_; conv => whnf))
      refine Pick.ix h2y ?_
      ((conv => whnf); repeat first | (refine Br.no ?_; conv => whnf) | (refine Br.yes ?_; conv => whnf) | (refine Pick.draw (by kernel_rfl) ?_; conv => whnf))
      refine Pick.mk _ (s_l09Same x.sheaves[i].value y.sheaves[i].value (o4 _ (List.getElem_mem h)).2) ?_
      ((conv => whnf); repeat first | (refine Br.no ?_; conv => whnf) | (refine Br.yes ?_; conv => whnf) | (refine Pick.draw (by kernel_rfl) ?_; conv => whnf))
      refine Br.mk (fun h6 => ?_) (fun h6 => ?_) <;> ((conv => whnf); repeat first | (refine Br.no ?_; conv => whnf) | (refine Br.yes ?_; conv => whnf) | (refine Pick.draw (by kernel_rfl) ?_; conv => whnf))
      · exact ResOK.same (by rw [no (by simp at h6; simp [sameNS, h6])])
      · refine Pick.at64 (z := (i + 1 : Nat)) (by simp) (by omega) ?_
        ((conv => whnf); repeat first | (refine Br.no ?_; conv => whnf) | (refine Br.yes ?_; conv => whnf) | (refine Pick.draw (by kernel_rfl) ?_; conv => whnf))
        refine ih (i + 1) ⟨by omega, fun j h1 h2 h7 => ?_⟩ (by omega)
        by_cases hj : j < i
        · exact h3 j h1 h2 hj
        · obtain rfl : j = i := by omega
          simp at h5 h6
          simp [sameNS, h5, h6]
    · simp at h
      have e2 := sameBy_yes (g := sameNS) (xs := x.sheaves) (ys := y.sheaves) (by omega) fun j h1 h2 => h3 j h1 h2 (by omega)
      exact ResOK.same (by simp only [sameWorld, e1, e2]; rfl)

end Go.Proofs.Ytcgoalegobkgaaa.Pi
