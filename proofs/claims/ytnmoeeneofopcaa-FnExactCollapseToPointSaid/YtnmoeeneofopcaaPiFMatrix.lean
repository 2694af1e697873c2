/- Primes, vectors and matrices that are valid, the reference and the program. No statement of the seat is proved here. -/
import Derived.Test.YtnmoeeneofopcaaPiFName
import Derived.Test.YtnmoeeneofopcaaPiFSlices
namespace Go.Proofs.Ytnmoeeneofopcaa.Pi
open Go
set_option maxRecDepth 10000
set_option maxHeartbeats 1600000
set_option linter.unusedVariables false

def primeAt (p : Int) (k : Nat) : Bool := !(decide (2 ≤ k) && (decide ((k : Int) * k ≤ p) && (p.tmod k == 0)))
def okPrime (p : Int) : Bool := (decide (2 ≤ p) && decide (p ≤ 251)) && (List.range 16).all (primeAt p)
theorem okPrime_le {p : Int} (h : okPrime p = true) : 2 ≤ p ∧ p ≤ 251 := by
  simp only [okPrime, Bool.and_eq_true, decide_eq_true_eq] at h; exact h.1
theorem square_lt {d : Nat} {p : Int} (hp : p ≤ 251) (h : (d : Int) * d ≤ p) : d < 16 := by
  rcases Nat.lt_or_ge d 16 with h1 | h1
  · exact h1
  · have : 16 * 16 ≤ d * d := Nat.mul_le_mul h1 h1
    have e : ((d * d : Nat) : Int) = (d : Int) * d := by push_cast; rfl
    omega

def okEl (p x : Int) : Bool := decide (0 ≤ x) && decide (x ≤ p - 1)
def okEls (p : Int) (xs : List Int) : Bool := xs.all (okEl p)

theorem s_isElement (x p : Int) (hp : 0 ≤ p ∧ p ≤ 9223372036854775807) : Sat Try.prog 75 [(false, [.int .i64 x]), (false, [.int .i64 p])] (.one (.c (.bool (okEl p x))), []) := by
  refine Sat.intro tok mixed Try.func75 rfl rfl ?_
  ((conv => whnf); repeat ((first | refine B0 ?_ | refine B1 ?_ | refine D1 ?_ | refine D2 ?_ | refine CallC.r ?_); conv => whnf))
  refine Pick.at64 (z := p - 1) rfl (by omega) ?_
  ((conv => whnf); repeat ((first | refine B0 ?_ | refine B1 ?_ | refine D1 ?_ | refine D2 ?_ | refine CallC.r ?_); conv => whnf))
  refine Pick.mk _ (s_within x 0 (p - 1)) ?_
  ((conv => whnf); repeat ((first | refine B0 ?_ | refine B1 ?_ | refine D1 ?_ | refine D2 ?_ | refine CallC.r ?_); conv => whnf))
  exact ResOK.same rfl

theorem s_areElements1 (x p : Int) (hp : 0 ≤ p ∧ p ≤ 9223372036854775807) : Sat Try.prog 167 ((false, Enc.enc x) :: [CV.ptr 1 [.int .i64 p]].map fun y => (false, [y])) (.one (.c (.bool (!okEl p x))), []) := by
  refine Sat.intro tok mixed Try.func167 rfl rfl ?_
  ((conv => whnf); repeat ((first | refine B0 ?_ | refine B1 ?_ | refine D1 ?_ | refine D2 ?_ | refine CallC.r ?_); conv => whnf))
  refine Pick.mk _ (s_isElement x p hp) ?_
  ((conv => whnf); repeat ((first | refine B0 ?_ | refine B1 ?_ | refine D1 ?_ | refine D2 ?_ | refine CallC.r ?_); conv => whnf))
  exact ResOK.same rfl

theorem not_any_not {α : Type} (f : α → Bool) (xs : List α) : (!(xs.any fun x => !f x)) = xs.all f := by
  rw [Bool.eq_iff_iff, Bool.not_eq_true', List.any_eq_false, List.all_eq_true]
  simp

theorem s_areElements (xs : List Int) (hb : xs.length ≤ maxLen) (p : Int) (hp : 0 ≤ p ∧ p ≤ 9223372036854775807) : Sat Try.prog 148 [(false, Enc.enc xs), (false, [.int .i64 p])] (.one (.c (.bool (okEls p xs))), []) := by
  refine Sat.intro tok mixed Try.func148 rfl rfl ?_
  ((conv => whnf); repeat ((first | refine B0 ?_ | refine B1 ?_ | refine D1 ?_ | refine D2 ?_ | refine CallC.r ?_); conv => whnf))
  refine Pick.mk _ (s_ContainsFuncInt64 xs 167 [CV.ptr 1 [.int .i64 p]] (fun x => !okEl p x) hb fun x _ => s_areElements1 x p hp) ?_
  ((conv => whnf); repeat ((first | refine B0 ?_ | refine B1 ?_ | refine D1 ?_ | refine D2 ?_ | refine CallC.r ?_); conv => whnf))
  exact ResOK.same (by rw [okEls, ← not_any_not])

def okMatrix (m : Matrix) : Bool := okPrime m.prime && ((decide (0 ≤ m.rows) && decide (m.rows ≤ 32)) && ((decide (0 ≤ m.columns) && decide (m.columns ≤ 32)) && (((m.cells.length : Int) == m.rows * m.columns) && okEls m.prime m.cells)))
theorem sides_mul {a b : Int} (h1 : 0 ≤ a ∧ a ≤ 32) (h2 : 0 ≤ b ∧ b ≤ 32) : 0 ≤ a * b ∧ a * b ≤ 1024 := by
  refine ⟨Int.mul_nonneg h1.1 h2.1, ?_⟩
  have := Int.mul_le_mul h1.2 h2.2 h2.1 (by omega)
  omega
theorem okMatrix_of {m : Matrix} (h : okMatrix m = true) : (2 ≤ m.prime ∧ m.prime ≤ 251) ∧ (0 ≤ m.rows ∧ m.rows ≤ 32) ∧ (0 ≤ m.columns ∧ m.columns ≤ 32) := by
  simp only [okMatrix, Bool.and_eq_true, decide_eq_true_eq] at h
  exact ⟨okPrime_le h.1, h.2.1, h.2.2.1⟩

def okColumn (p n : Int) (xs : List Int) : Bool := okEls p xs && ((xs.length : Int) == n)

/-! ### vectors -/
def okVec (p n : Int) (x : List Int) : Bool := ((x.length : Int) == n) && okEls p x
def okVecs (p n : Int) (xs : List (List Int)) : Bool := xs.all (okVec p n)

theorem s_sizeInts (xs : List (List Int)) : Sat Try.prog 72 [(false, Enc.enc xs)] (.one (.c (.int .i64 xs.length)), []) := by
  have hl : (xs.map (Enc.enc (α := List Int))).length = xs.length := by simp
  refine Sat.intro tok mixed Try.func72 rfl rfl ?_
  ((conv => whnf); repeat ((first | refine B0 ?_ | refine B1 ?_ | refine D1 ?_ | refine D2 ?_ | refine CallC.r ?_); conv => whnf))
  exact ResOK.same (by rw [hl])

end Go.Proofs.Ytnmoeeneofopcaa.Pi
