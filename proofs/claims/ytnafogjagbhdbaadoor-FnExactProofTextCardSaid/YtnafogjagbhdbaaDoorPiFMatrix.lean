/- Primes, vectors and matrices that are valid, the reference and the program. No statement of the seat is proved here. -/
import Derived.Test.YtnafogjagbhdbaaDoorPiFName
import Derived.Test.YtnafogjagbhdbaaDoorPiFSlices
namespace Go.Proofs.YtnafogjagbhdbaaDoor.Pi
open Go
set_option maxRecDepth 10000
set_option maxHeartbeats 1600000
set_option linter.unusedVariables false

def primeAt (p : Int) (k : Nat) : Bool := !(decide (2 ≤ k) && (decide ((k : Int) * k ≤ p) && (p.tmod k == 0)))
def okPrime (p : Int) : Bool := (decide (2 ≤ p) && decide (p ≤ 251)) && (List.range 16).all (primeAt p)
theorem okPrime_le {p : Int} (h : okPrime p = true) : 2 ≤ p ∧ p ≤ 251 := by
  simp only [okPrime, Bool.and_eq_true, decide_eq_true_eq] at h; exact h.1
theorem square_lt {d : Nat} {p : Int} (hp : p ≤ 251) (h : (d : Int) * d ≤ p) : d < 16 := by
  rcases Nat.lt_or_ge d 16 with h1 | h1
  · exact h1
  · have : 16 * 16 ≤ d * d := Nat.mul_le_mul h1 h1
    have e : ((d * d : Nat) : Int) = (d : Int) * d := by push_cast; rfl
    omega

theorem s_impl_ValidPrime (p : Int) : Sat Tryd.prog 49 [(false, [.int .i64 p])] (.one (.c (.bool (okPrime p))), []) := by
  refine Sat.intro tok mixed Tryd.func49 rfl rfl ?_
  ((conv => whnf); repeat ((first | refine B0 ?_ | refine B1 ?_ | refine D1 ?_ | refine D2 ?_ | refine CallC.r ?_); conv => whnf))
  refine Pick.mk _ (s_within p 2 251) ?_
  ((conv => whnf); repeat ((first | refine B0 ?_ | refine B1 ?_ | refine D1 ?_ | refine D2 ?_ | refine CallC.r ?_); conv => whnf))
  refine Br.mk (fun h => ?_) (fun h => ?_) <;> ((conv => whnf); repeat ((first | refine B0 ?_ | refine B1 ?_ | refine D1 ?_ | refine D2 ?_ | refine CallC.r ?_); conv => whnf))
  · rw [Bool.not_eq_true'] at h
    exact ResOK.same (by simp only [okPrime, h, Bool.false_and])
  rw [Bool.not_eq_false'] at h
  have hr := h
  simp only [Bool.and_eq_true, decide_eq_true_eq] at hr
  refine Pick.mk [0, 3] trivial ?_
  ((conv => whnf); repeat ((first | refine B0 ?_ | refine B1 ?_ | refine D1 ?_ | refine D2 ?_ | refine CallC.r ?_); conv => whnf))
  refine LoopL.run (fun d : Nat => St.mk [.one (.c (.int .i64 p)), .one .dead, .one .dead, .one (.c (.int .i64 d)), .one .dead, .one .dead, .one .dead, .one .dead, .one .dead, .one .dead, .one .dead, .one .dead, .one .dead, .one .dead, .one .dead, .one .dead, .one .dead, .one .dead] []) (fun d => 17 - d) (fun d => 2 ≤ d ∧ d ≤ 16 ∧ ∀ (k : Nat), 2 ≤ k → k < d → (p.tmod k == 0) = false) ?_ 2 ⟨by omega, by omega, by intros; omega⟩
  intro d ⟨h2, h3, h4⟩ ih
  have hdd : d * d ≤ 16 * 16 := Nat.mul_le_mul h3 h3
  have e : ((d * d : Nat) : Int) = (d : Int) * d := by push_cast; rfl
  ((conv => whnf); repeat ((first | refine B0 ?_ | refine B1 ?_ | refine D1 ?_ | refine D2 ?_ | refine CallC.r ?_); conv => whnf))
  refine Pick.at64 (z := ((d * d : Nat) : Int)) e.symm (by omega) ?_
  ((conv => whnf); repeat ((first | refine B0 ?_ | refine B1 ?_ | refine D1 ?_ | refine D2 ?_ | refine CallC.r ?_); conv => whnf))
  refine Br.mk (fun h5 => ?_) (fun h5 => ?_) <;> ((conv => whnf); repeat ((first | refine B0 ?_ | refine B1 ?_ | refine D1 ?_ | refine D2 ?_ | refine CallC.r ?_); conv => whnf))
  · simp only [decide_eq_true_eq] at h5
    rw [e] at h5
    have hd := square_lt hr.2 h5
    refine Side.mk (by omega) ?_
    ((conv => whnf); repeat ((first | refine B0 ?_ | refine B1 ?_ | refine D1 ?_ | refine D2 ?_ | refine CallC.r ?_); conv => whnf))
    refine Br.mk (fun h6 => ?_) (fun h6 => ?_) <;> ((conv => whnf); repeat ((first | refine B0 ?_ | refine B1 ?_ | refine D1 ?_ | refine D2 ?_ | refine CallC.r ?_); conv => whnf))
    · refine ResOK.same ?_
      have : (List.range 16).all (primeAt p) = false := by
        rw [List.all_eq_false]
        exact ⟨d, List.mem_range.2 hd, by simp only [primeAt, h2, h5, decide_true, Bool.true_and, h6]; simp⟩
      simp only [okPrime, this, Bool.and_false]
    · refine Pick.at64 (z := (d + 1 : Nat)) (by simp) (by omega) ?_
      ((conv => whnf); repeat ((first | refine B0 ?_ | refine B1 ?_ | refine D1 ?_ | refine D2 ?_ | refine CallC.r ?_); conv => whnf))
      refine ih (d + 1) ⟨by omega, by omega, fun k hk hlt => ?_⟩ (by omega)
      by_cases ek : k = d
      · subst ek; exact h6
      · exact h4 k hk (by omega)
  · simp only [decide_eq_false_iff_not] at h5
    rw [e] at h5
    refine ResOK.same ?_
    have : (List.range 16).all (primeAt p) = true := by
      rw [List.all_eq_true]
      intro k _
      simp only [primeAt, Bool.not_eq_true', Bool.and_eq_false_iff, decide_eq_false_iff_not]
      by_cases hk : 2 ≤ k
      · by_cases hkk : (k : Int) * k ≤ p
        · right; right
          refine h4 k hk ?_
          rcases Nat.lt_or_ge k d with hlt | hge
          · exact hlt
          · have h7 : d * d ≤ k * k := Nat.mul_le_mul hge hge
            have e2 : ((k * k : Nat) : Int) = (k : Int) * k := by push_cast; rfl
            omega
        · exact Or.inr (Or.inl hkk)
      · exact Or.inl hk
    simp only [okPrime, h, this, Bool.and_true]

theorem s_spec_l02Prime (p : Int) : Sat Tryd.prog 63 [(false, [.int .i64 p])] (.one (.c (.bool (okPrime p))), []) := by
  refine Sat.intro tok mixed Tryd.func63 rfl rfl ?_
  ((conv => whnf); repeat ((first | refine B0 ?_ | refine B1 ?_ | refine D1 ?_ | refine D2 ?_ | refine CallC.r ?_); conv => whnf))
  refine Pick.mk _ (s_l00In p 2 251) ?_
  ((conv => whnf); repeat ((first | refine B0 ?_ | refine B1 ?_ | refine D1 ?_ | refine D2 ?_ | refine CallC.r ?_); conv => whnf))
  refine Br.mk (fun h => ?_) (fun h => ?_) <;> ((conv => whnf); repeat ((first | refine B0 ?_ | refine B1 ?_ | refine D1 ?_ | refine D2 ?_ | refine CallC.r ?_); conv => whnf))
  · rw [Bool.not_eq_true'] at h
    exact ResOK.same (by simp only [okPrime, h, Bool.false_and])
  rw [Bool.not_eq_false'] at h
  have hr := h
  simp only [Bool.and_eq_true, decide_eq_true_eq] at hr
  refine Pick.mk [0, 3] trivial ?_
  ((conv => whnf); repeat ((first | refine B0 ?_ | refine B1 ?_ | refine D1 ?_ | refine D2 ?_ | refine CallC.r ?_); conv => whnf))
  refine LoopL.run (fun d : Nat => St.mk [.one (.c (.int .i64 p)), .one .dead, .one .dead, .one (.c (.int .i64 d)), .one .dead, .one .dead, .one .dead, .one .dead, .one .dead, .one .dead, .one .dead, .one .dead, .one .dead, .one .dead, .one .dead, .one .dead, .one .dead, .one .dead] []) (fun d => 17 - d) (fun d => 2 ≤ d ∧ d ≤ 16 ∧ ∀ (k : Nat), 2 ≤ k → k < d → (p.tmod k == 0) = false) ?_ 2 ⟨by omega, by omega, by intros; omega⟩
  intro d ⟨h2, h3, h4⟩ ih
  have hdd : d * d ≤ 16 * 16 := Nat.mul_le_mul h3 h3
  have e : ((d * d : Nat) : Int) = (d : Int) * d := by push_cast; rfl
  ((conv => whnf); repeat ((first | refine B0 ?_ | refine B1 ?_ | refine D1 ?_ | refine D2 ?_ | refine CallC.r ?_); conv => whnf))
  refine Pick.at64 (z := ((d * d : Nat) : Int)) e.symm (by omega) ?_
  ((conv => whnf); repeat ((first | refine B0 ?_ | refine B1 ?_ | refine D1 ?_ | refine D2 ?_ | refine CallC.r ?_); conv => whnf))
  refine Br.mk (fun h5 => ?_) (fun h5 => ?_) <;> ((conv => whnf); repeat ((first | refine B0 ?_ | refine B1 ?_ | refine D1 ?_ | refine D2 ?_ | refine CallC.r ?_); conv => whnf))
  · simp only [decide_eq_true_eq] at h5
    rw [e] at h5
    have hd := square_lt hr.2 h5
    refine Side.mk (by omega) ?_
    ((conv => whnf); repeat ((first | refine B0 ?_ | refine B1 ?_ | refine D1 ?_ | refine D2 ?_ | refine CallC.r ?_); conv => whnf))
    refine Br.mk (fun h6 => ?_) (fun h6 => ?_) <;> ((conv => whnf); repeat ((first | refine B0 ?_ | refine B1 ?_ | refine D1 ?_ | refine D2 ?_ | refine CallC.r ?_); conv => whnf))
    · refine ResOK.same ?_
      have : (List.range 16).all (primeAt p) = false := by
        rw [List.all_eq_false]
        exact ⟨d, List.mem_range.2 hd, by simp only [primeAt, h2, h5, decide_true, Bool.true_and, h6]; simp⟩
      simp only [okPrime, this, Bool.and_false]
    · refine Pick.at64 (z := (d + 1 : Nat)) (by simp) (by omega) ?_
      ((conv => whnf); repeat ((first | refine B0 ?_ | refine B1 ?_ | refine D1 ?_ | refine D2 ?_ | refine CallC.r ?_); conv => whnf))
      refine ih (d + 1) ⟨by omega, by omega, fun k hk hlt => ?_⟩ (by omega)
      by_cases ek : k = d
      · subst ek; exact h6
      · exact h4 k hk (by omega)
  · simp only [decide_eq_false_iff_not] at h5
    rw [e] at h5
    refine ResOK.same ?_
    have : (List.range 16).all (primeAt p) = true := by
      rw [List.all_eq_true]
      intro k _
      simp only [primeAt, Bool.not_eq_true', Bool.and_eq_false_iff, decide_eq_false_iff_not]
      by_cases hk : 2 ≤ k
      · by_cases hkk : (k : Int) * k ≤ p
        · right; right
          refine h4 k hk ?_
          rcases Nat.lt_or_ge k d with hlt | hge
          · exact hlt
          · have h7 : d * d ≤ k * k := Nat.mul_le_mul hge hge
            have e2 : ((k * k : Nat) : Int) = (k : Int) * k := by push_cast; rfl
            omega
        · exact Or.inr (Or.inl hkk)
      · exact Or.inl hk
    simp only [okPrime, h, this, Bool.and_true]

theorem s_spec_ValidPrime (p : Int) : Sat Tryd.prog 43 [(false, [.int .i64 p])] (.one (.c (.bool (okPrime p))), []) := by
  refine Sat.intro tok mixed Tryd.func43 rfl rfl ?_
  ((conv => whnf); repeat ((first | refine B0 ?_ | refine B1 ?_ | refine D1 ?_ | refine D2 ?_ | refine CallC.r ?_); conv => whnf))
  refine Pick.mk _ (s_spec_l02Prime p) ?_
  ((conv => whnf); repeat ((first | refine B0 ?_ | refine B1 ?_ | refine D1 ?_ | refine D2 ?_ | refine CallC.r ?_); conv => whnf))
  exact ResOK.same rfl

def okEl (p x : Int) : Bool := decide (0 ≤ x) && decide (x ≤ p - 1)
def okEls (p : Int) (xs : List Int) : Bool := xs.all (okEl p)

theorem s_isElement (x p : Int) (hp : 0 ≤ p ∧ p ≤ 9223372036854775807) : Sat Tryd.prog 65 [(false, [.int .i64 x]), (false, [.int .i64 p])] (.one (.c (.bool (okEl p x))), []) := by
  refine Sat.intro tok mixed Tryd.func65 rfl rfl ?_
  ((conv => whnf); repeat ((first | refine B0 ?_ | refine B1 ?_ | refine D1 ?_ | refine D2 ?_ | refine CallC.r ?_); conv => whnf))
  refine Pick.at64 (z := p - 1) rfl (by omega) ?_
  ((conv => whnf); repeat ((first | refine B0 ?_ | refine B1 ?_ | refine D1 ?_ | refine D2 ?_ | refine CallC.r ?_); conv => whnf))
  refine Pick.mk _ (s_within x 0 (p - 1)) ?_
  ((conv => whnf); repeat ((first | refine B0 ?_ | refine B1 ?_ | refine D1 ?_ | refine D2 ?_ | refine CallC.r ?_); conv => whnf))
  exact ResOK.same rfl

theorem s_areElements1 (x p : Int) (hp : 0 ≤ p ∧ p ≤ 9223372036854775807) : Sat Tryd.prog 64 ((false, Enc.enc x) :: [CV.ptr 1 [.int .i64 p]].map fun y => (false, [y])) (.one (.c (.bool (!okEl p x))), []) := by
  refine Sat.intro tok mixed Tryd.func64 rfl rfl ?_
  ((conv => whnf); repeat ((first | refine B0 ?_ | refine B1 ?_ | refine D1 ?_ | refine D2 ?_ | refine CallC.r ?_); conv => whnf))
  refine Pick.mk _ (s_isElement x p hp) ?_
  ((conv => whnf); repeat ((first | refine B0 ?_ | refine B1 ?_ | refine D1 ?_ | refine D2 ?_ | refine CallC.r ?_); conv => whnf))
  exact ResOK.same rfl

theorem not_any_not {α : Type} (f : α → Bool) (xs : List α) : (!(xs.any fun x => !f x)) = xs.all f := by
  rw [Bool.eq_iff_iff, Bool.not_eq_true', List.any_eq_false, List.all_eq_true]
  simp

theorem s_areElements (xs : List Int) (hb : xs.length ≤ maxLen) (p : Int) (hp : 0 ≤ p ∧ p ≤ 9223372036854775807) : Sat Tryd.prog 52 [(false, Enc.enc xs), (false, [.int .i64 p])] (.one (.c (.bool (okEls p xs))), []) := by
  refine Sat.intro tok mixed Tryd.func52 rfl rfl ?_
  ((conv => whnf); repeat ((first | refine B0 ?_ | refine B1 ?_ | refine D1 ?_ | refine D2 ?_ | refine CallC.r ?_); conv => whnf))
  refine Pick.mk _ (s_ContainsFuncInt64 xs 64 [CV.ptr 1 [.int .i64 p]] (fun x => !okEl p x) hb fun x _ => s_areElements1 x p hp) ?_
  ((conv => whnf); repeat ((first | refine B0 ?_ | refine B1 ?_ | refine D1 ?_ | refine D2 ?_ | refine CallC.r ?_); conv => whnf))
  exact ResOK.same (by rw [okEls, ← not_any_not])

theorem s_sizeInt (xs : List Int) : Sat Tryd.prog 51 [(false, Enc.enc xs)] (.one (.c (.int .i64 xs.length)), []) := by
  have hl : (xs.map (Enc.enc (α := Int))).length = xs.length := by simp
  refine Sat.intro tok mixed Tryd.func51 rfl rfl ?_
  ((conv => whnf); repeat ((first | refine B0 ?_ | refine B1 ?_ | refine D1 ?_ | refine D2 ?_ | refine CallC.r ?_); conv => whnf))
  exact ResOK.same (by rw [hl])

theorem s_isSide (n : Int) : Sat Tryd.prog 50 [(false, [.int .i64 n])] (.one (.c (.bool (decide (0 ≤ n) && decide (n ≤ 32)))), []) := by
  refine Sat.intro tok mixed Tryd.func50 rfl rfl ?_
  ((conv => whnf); repeat ((first | refine B0 ?_ | refine B1 ?_ | refine D1 ?_ | refine D2 ?_ | refine CallC.r ?_); conv => whnf))
  refine Pick.mk _ (s_within n 0 32) ?_
  ((conv => whnf); repeat ((first | refine B0 ?_ | refine B1 ?_ | refine D1 ?_ | refine D2 ?_ | refine CallC.r ?_); conv => whnf))
  exact ResOK.same rfl

def okMatrix (m : Matrix) : Bool := okPrime m.prime && ((decide (0 ≤ m.rows) && decide (m.rows ≤ 32)) && ((decide (0 ≤ m.columns) && decide (m.columns ≤ 32)) && (((m.cells.length : Int) == m.rows * m.columns) && okEls m.prime m.cells)))
theorem sides_mul {a b : Int} (h1 : 0 ≤ a ∧ a ≤ 32) (h2 : 0 ≤ b ∧ b ≤ 32) : 0 ≤ a * b ∧ a * b ≤ 1024 := by
  refine ⟨Int.mul_nonneg h1.1 h2.1, ?_⟩
  have := Int.mul_le_mul h1.2 h2.2 h2.1 (by omega)
  omega
theorem okMatrix_of {m : Matrix} (h : okMatrix m = true) : (2 ≤ m.prime ∧ m.prime ≤ 251) ∧ (0 ≤ m.rows ∧ m.rows ≤ 32) ∧ (0 ≤ m.columns ∧ m.columns ≤ 32) := by
  simp only [okMatrix, Bool.and_eq_true, decide_eq_true_eq] at h
  exact ⟨okPrime_le h.1, h.2.1, h.2.2.1⟩

theorem s_impl_ValidMatrix (m : Matrix) (o : Enc.ok m) : Sat Tryd.prog 29 [(true, Enc.enc m)] (.one (.c (.bool (okMatrix m))), []) := by
  refine Sat.intro tok mixed Tryd.func29 rfl rfl ?_
  ((conv => whnf); repeat ((first | refine B0 ?_ | refine B1 ?_ | refine D1 ?_ | refine D2 ?_ | refine CallC.r ?_); conv => whnf))
  refine Pick.mk _ (s_impl_ValidPrime m.prime) ?_
  ((conv => whnf); repeat ((first | refine B0 ?_ | refine B1 ?_ | refine D1 ?_ | refine D2 ?_ | refine CallC.r ?_); conv => whnf))
  refine Br.mk (fun h1 => ?_) (fun h1 => ?_) <;> ((conv => whnf); repeat ((first | refine B0 ?_ | refine B1 ?_ | refine D1 ?_ | refine D2 ?_ | refine CallC.r ?_); conv => whnf))
  rotate_left
  · exact ResOK.same (by simp only [okMatrix, h1, Bool.false_and])
  refine Pick.mk _ (s_isSide m.rows) ?_
  ((conv => whnf); repeat ((first | refine B0 ?_ | refine B1 ?_ | refine D1 ?_ | refine D2 ?_ | refine CallC.r ?_); conv => whnf))
  refine Br.mk (fun h2 => ?_) (fun h2 => ?_) <;> ((conv => whnf); repeat ((first | refine B0 ?_ | refine B1 ?_ | refine D1 ?_ | refine D2 ?_ | refine CallC.r ?_); conv => whnf))
  rotate_left
  · exact ResOK.same (by simp only [okMatrix, h2, Bool.false_and, Bool.and_false])
  refine Pick.mk _ (s_isSide m.columns) ?_
  ((conv => whnf); repeat ((first | refine B0 ?_ | refine B1 ?_ | refine D1 ?_ | refine D2 ?_ | refine CallC.r ?_); conv => whnf))
  refine Br.mk (fun h3 => ?_) (fun h3 => ?_) <;> ((conv => whnf); repeat ((first | refine B0 ?_ | refine B1 ?_ | refine D1 ?_ | refine D2 ?_ | refine CallC.r ?_); conv => whnf))
  rotate_left
  · exact ResOK.same (by simp only [okMatrix, h3, Bool.false_and, Bool.and_false])
  have hp := okPrime_le h1
  have g2 := h2
  have g3 := h3
  simp only [Bool.and_eq_true, decide_eq_true_eq] at g2 g3
  have hm := sides_mul g2 g3
  refine Pick.mk _ (s_sizeInt m.cells) ?_
  ((conv => whnf); repeat ((first | refine B0 ?_ | refine B1 ?_ | refine D1 ?_ | refine D2 ?_ | refine CallC.r ?_); conv => whnf))
  refine Pick.at64 (z := m.rows * m.columns) rfl (by omega) ?_
  ((conv => whnf); repeat ((first | refine B0 ?_ | refine B1 ?_ | refine D1 ?_ | refine D2 ?_ | refine CallC.r ?_); conv => whnf))
  refine Br.mk (fun h4 => ?_) (fun h4 => ?_) <;> ((conv => whnf); repeat ((first | refine B0 ?_ | refine B1 ?_ | refine D1 ?_ | refine D2 ?_ | refine CallC.r ?_); conv => whnf))
  rotate_left
  · exact ResOK.same (by simp only [okMatrix, h4, Bool.false_and, Bool.and_false])
  refine Pick.mk _ (s_areElements m.cells o.2.2.2.1 m.prime (by omega)) ?_
  ((conv => whnf); repeat ((first | refine B0 ?_ | refine B1 ?_ | refine D1 ?_ | refine D2 ?_ | refine CallC.r ?_); conv => whnf))
  exact ResOK.same (by simp only [okMatrix, h1, h2, h3, h4, Bool.true_and])

def okColumn (p n : Int) (xs : List Int) : Bool := okEls p xs && ((xs.length : Int) == n)

theorem s_l03Column (xs : List Int) (hb : xs.length ≤ maxLen) (n : Int) (p : Int) (hp : 0 ≤ p ∧ p ≤ 9223372036854775807) : Sat Tryd.prog 45 [(false, Enc.enc xs), (false, [.int .i64 n]), (false, [.int .i64 p])] (.one (.c (.bool (okColumn p n xs))), []) := by
  simp only [maxLen] at hb
  have hl : (xs.map (Enc.enc (α := Int))).length = xs.length := by simp
  refine Sat.intro tok mixed Tryd.func45 rfl rfl ?_
  ((conv => whnf); repeat ((first | refine B0 ?_ | refine B1 ?_ | refine D1 ?_ | refine D2 ?_ | refine CallC.r ?_); conv => whnf))
  refine Pick.mk [0, 1, 2, 7] trivial ?_
  ((conv => whnf); repeat ((first | refine B0 ?_ | refine B1 ?_ | refine D1 ?_ | refine D2 ?_ | refine CallC.r ?_); conv => whnf))
  refine LoopL.run (fun i : Nat => St.mk [.one (.c (.slice 1 (xs.map Enc.enc))), .one (.c (.int .i64 n)), .one (.c (.int .i64 p)), .one .dead, .one .dead, .one .dead, .one .dead, .one (.c (.int .i64 i)), .one .dead, .one .dead, .one .dead, .one .dead, .one .dead, .one .dead, .one .dead, .one .dead, .one .dead, .one .dead, .one .dead, .one .dead, .one .dead, .one .dead, .one .dead, .one .dead, .one .dead, .one .dead] []) (fun i => xs.length - i) (fun i => i ≤ xs.length ∧ ∀ (k : Nat) (h : k < xs.length), k < i → okEl p xs[k] = true) ?_ 0 ⟨Nat.zero_le _, by intros; omega⟩
  intro i ⟨h2, h3⟩ ih
  ((conv => whnf); repeat ((first | refine B0 ?_ | refine B1 ?_ | refine D1 ?_ | refine D2 ?_ | refine CallC.r ?_); conv => whnf))
  refine Br.mk (fun h => ?_) (fun h => ?_) <;> ((conv => whnf); repeat ((first | refine B0 ?_ | refine B1 ?_ | refine D1 ?_ | refine D2 ?_ | refine CallC.r ?_); conv => whnf))
  · simp at h
    refine Pick.ix h ?_
    ((conv => whnf); repeat ((first | refine B0 ?_ | refine B1 ?_ | refine D1 ?_ | refine D2 ?_ | refine CallC.r ?_); conv => whnf))
    refine Pick.at64 (z := p - 1) rfl (by omega) ?_
    ((conv => whnf); repeat ((first | refine B0 ?_ | refine B1 ?_ | refine D1 ?_ | refine D2 ?_ | refine CallC.r ?_); conv => whnf))
    refine Pick.mk _ (s_l00In xs[i] 0 (p - 1)) ?_
    ((conv => whnf); repeat ((first | refine B0 ?_ | refine B1 ?_ | refine D1 ?_ | refine D2 ?_ | refine CallC.r ?_); conv => whnf))
    refine Br.mk (fun h4 => ?_) (fun h4 => ?_) <;> ((conv => whnf); repeat ((first | refine B0 ?_ | refine B1 ?_ | refine D1 ?_ | refine D2 ?_ | refine CallC.r ?_); conv => whnf))
    · have h4 : (!okEl p xs[i]) = true := h4
      have : okEls p xs = false := List.all_eq_false.2 ⟨xs[i], List.getElem_mem h, by simpa using h4⟩
      exact ResOK.same (by simp only [okColumn, this, Bool.false_and])
    · have h4 : (!okEl p xs[i]) = false := h4
      refine Pick.at64 (z := (i + 1 : Nat)) (by simp) (by omega) ?_
      ((conv => whnf); repeat ((first | refine B0 ?_ | refine B1 ?_ | refine D1 ?_ | refine D2 ?_ | refine CallC.r ?_); conv => whnf))
      refine ih (i + 1) ⟨by omega, fun k hk hlt => ?_⟩ (by omega)
      by_cases e : k = i
      · subst e; simpa using h4
      · exact h3 k hk (by omega)
  · simp at h
    have : okEls p xs = true := List.all_eq_true.2 fun x hx => by
      obtain ⟨k, hk, rfl⟩ := List.mem_iff_getElem.1 hx
      exact h3 k hk (by omega)
    exact ResOK.same (by simp only [okColumn, this, Bool.true_and, hl])

theorem s_l02Numbers (xs : List Int) (hb : xs.length ≤ maxLen) (p : Int) (hp : 0 ≤ p ∧ p ≤ 9223372036854775807) : Sat Tryd.prog 46 [(false, Enc.enc xs), (false, [.int .i64 p])] (.one (.c (.bool (okEls p xs && decide ((xs.length : Int) ≤ 64)))), []) := by
  simp only [maxLen] at hb
  have hl : (xs.map (Enc.enc (α := Int))).length = xs.length := by simp
  refine Sat.intro tok mixed Tryd.func46 rfl rfl ?_
  ((conv => whnf); repeat ((first | refine B0 ?_ | refine B1 ?_ | refine D1 ?_ | refine D2 ?_ | refine CallC.r ?_); conv => whnf))
  refine Pick.mk [0, 1, 5] trivial ?_
  ((conv => whnf); repeat ((first | refine B0 ?_ | refine B1 ?_ | refine D1 ?_ | refine D2 ?_ | refine CallC.r ?_); conv => whnf))
  refine LoopL.run (fun i : Nat => St.mk [.one (.c (.slice 1 (xs.map Enc.enc))), .one (.c (.int .i64 p)), .one .dead, .one .dead, .one .dead, .one (.c (.int .i64 i)), .one .dead, .one .dead, .one .dead, .one .dead, .one .dead, .one .dead, .one .dead, .one .dead, .one .dead, .one .dead, .one .dead, .one .dead, .one .dead, .one .dead, .one .dead, .one .dead, .one .dead] []) (fun i => xs.length - i) (fun i => i ≤ xs.length ∧ ∀ (k : Nat) (h : k < xs.length), k < i → okEl p xs[k] = true) ?_ 0 ⟨Nat.zero_le _, by intros; omega⟩
  intro i ⟨h2, h3⟩ ih
  ((conv => whnf); repeat ((first | refine B0 ?_ | refine B1 ?_ | refine D1 ?_ | refine D2 ?_ | refine CallC.r ?_); conv => whnf))
  refine Br.mk (fun h => ?_) (fun h => ?_) <;> ((conv => whnf); repeat ((first | refine B0 ?_ | refine B1 ?_ | refine D1 ?_ | refine D2 ?_ | refine CallC.r ?_); conv => whnf))
  · simp at h
    refine Pick.ix h ?_
    ((conv => whnf); repeat ((first | refine B0 ?_ | refine B1 ?_ | refine D1 ?_ | refine D2 ?_ | refine CallC.r ?_); conv => whnf))
    refine Pick.at64 (z := p - 1) rfl (by omega) ?_
    ((conv => whnf); repeat ((first | refine B0 ?_ | refine B1 ?_ | refine D1 ?_ | refine D2 ?_ | refine CallC.r ?_); conv => whnf))
    refine Pick.mk _ (s_l00In xs[i] 0 (p - 1)) ?_
    ((conv => whnf); repeat ((first | refine B0 ?_ | refine B1 ?_ | refine D1 ?_ | refine D2 ?_ | refine CallC.r ?_); conv => whnf))
    refine Br.mk (fun h4 => ?_) (fun h4 => ?_) <;> ((conv => whnf); repeat ((first | refine B0 ?_ | refine B1 ?_ | refine D1 ?_ | refine D2 ?_ | refine CallC.r ?_); conv => whnf))
    · have h4 : (!okEl p xs[i]) = true := h4
      have : okEls p xs = false := List.all_eq_false.2 ⟨xs[i], List.getElem_mem h, by simpa using h4⟩
      exact ResOK.same (by simp only [this, Bool.false_and])
    · have h4 : (!okEl p xs[i]) = false := h4
      refine Pick.at64 (z := (i + 1 : Nat)) (by simp) (by omega) ?_
      ((conv => whnf); repeat ((first | refine B0 ?_ | refine B1 ?_ | refine D1 ?_ | refine D2 ?_ | refine CallC.r ?_); conv => whnf))
      refine ih (i + 1) ⟨by omega, fun k hk hlt => ?_⟩ (by omega)
      by_cases e : k = i
      · subst e; simpa using h4
      · exact h3 k hk (by omega)
  · simp at h
    have : okEls p xs = true := List.all_eq_true.2 fun x hx => by
      obtain ⟨k, hk, rfl⟩ := List.mem_iff_getElem.1 hx
      exact h3 k hk (by omega)
    exact ResOK.same (by simp only [this, Bool.true_and, hl])

theorem s_l03Ok (m : Matrix) (o : Enc.ok m) : Sat Tryd.prog 23 [(false, [.ptr 4 (Enc.enc m)])] (.one (.c (.bool (okMatrix m))), []) := by
  refine Sat.intro tok mixed Tryd.func23 rfl rfl ?_
  ((conv => whnf); repeat ((first | refine B0 ?_ | refine B1 ?_ | refine D1 ?_ | refine D2 ?_ | refine CallC.r ?_); conv => whnf))
  refine Pick.mk _ (s_spec_ValidPrime m.prime) ?_
  ((conv => whnf); repeat ((first | refine B0 ?_ | refine B1 ?_ | refine D1 ?_ | refine D2 ?_ | refine CallC.r ?_); conv => whnf))
  refine Br.mk (fun h1 => ?_) (fun h1 => ?_) <;> ((conv => whnf); repeat ((first | refine B0 ?_ | refine B1 ?_ | refine D1 ?_ | refine D2 ?_ | refine CallC.r ?_); conv => whnf))
  rotate_left
  · exact ResOK.same (by simp only [okMatrix, h1, Bool.false_and])
  refine Pick.mk _ (s_l00In m.rows 0 32) ?_
  ((conv => whnf); repeat ((first | refine B0 ?_ | refine B1 ?_ | refine D1 ?_ | refine D2 ?_ | refine CallC.r ?_); conv => whnf))
  refine Br.mk (fun h2 => ?_) (fun h2 => ?_) <;> ((conv => whnf); repeat ((first | refine B0 ?_ | refine B1 ?_ | refine D1 ?_ | refine D2 ?_ | refine CallC.r ?_); conv => whnf))
  rotate_left
  · exact ResOK.same (by simp only [okMatrix, h2, Bool.false_and, Bool.and_false])
  refine Pick.mk _ (s_l00In m.columns 0 32) ?_
  ((conv => whnf); repeat ((first | refine B0 ?_ | refine B1 ?_ | refine D1 ?_ | refine D2 ?_ | refine CallC.r ?_); conv => whnf))
  refine Br.mk (fun h3 => ?_) (fun h3 => ?_) <;> ((conv => whnf); repeat ((first | refine B0 ?_ | refine B1 ?_ | refine D1 ?_ | refine D2 ?_ | refine CallC.r ?_); conv => whnf))
  rotate_left
  · exact ResOK.same (by simp only [okMatrix, h3, Bool.false_and, Bool.and_false])
  have hp := okPrime_le h1
  have g2 := h2
  have g3 := h3
  simp only [Bool.and_eq_true, decide_eq_true_eq] at g2 g3
  have hm := sides_mul g2 g3
  refine Pick.at64 (z := m.rows * m.columns) rfl (by omega) ?_
  ((conv => whnf); repeat ((first | refine B0 ?_ | refine B1 ?_ | refine D1 ?_ | refine D2 ?_ | refine CallC.r ?_); conv => whnf))
  refine Pick.mk _ (s_l03Column m.cells o.2.2.2.1 (m.rows * m.columns) m.prime (by omega)) ?_
  ((conv => whnf); repeat ((first | refine B0 ?_ | refine B1 ?_ | refine D1 ?_ | refine D2 ?_ | refine CallC.r ?_); conv => whnf))
  exact ResOK.same (by simp only [okMatrix, h1, h2, h3, Bool.true_and, okColumn]; rw [Bool.and_comm])

/-! ### vectors -/
def okVec (p n : Int) (x : List Int) : Bool := ((x.length : Int) == n) && okEls p x
def okVecs (p n : Int) (xs : List (List Int)) : Bool := xs.all (okVec p n)

theorem s_isVector (x : List Int) (hb : x.length ≤ maxLen) (n p : Int) (hp : 0 ≤ p ∧ p ≤ 9223372036854775807) : Sat Tryd.prog 68 [(false, Enc.enc x), (false, [.int .i64 n]), (false, [.int .i64 p])] (.one (.c (.bool (okVec p n x))), []) := by
  refine Sat.intro tok mixed Tryd.func68 rfl rfl ?_
  ((conv => whnf); repeat ((first | refine B0 ?_ | refine B1 ?_ | refine D1 ?_ | refine D2 ?_ | refine CallC.r ?_); conv => whnf))
  refine Pick.mk _ (s_sizeInt x) ?_
  ((conv => whnf); repeat ((first | refine B0 ?_ | refine B1 ?_ | refine D1 ?_ | refine D2 ?_ | refine CallC.r ?_); conv => whnf))
  refine Br.mk (fun h => ?_) (fun h => ?_) <;> ((conv => whnf); repeat ((first | refine B0 ?_ | refine B1 ?_ | refine D1 ?_ | refine D2 ?_ | refine CallC.r ?_); conv => whnf))
  · refine Pick.mk _ (s_areElements x hb p hp) ?_
    ((conv => whnf); repeat ((first | refine B0 ?_ | refine B1 ?_ | refine D1 ?_ | refine D2 ?_ | refine CallC.r ?_); conv => whnf))
    exact ResOK.same (by simp only [okVec, h, Bool.true_and])
  · exact ResOK.same (by simp only [okVec, h, Bool.false_and])

theorem s_areVectors1 (x : List Int) (hb : x.length ≤ maxLen) (n p : Int) (hp : 0 ≤ p ∧ p ≤ 9223372036854775807) : Sat Tryd.prog 67 ((false, Enc.enc x) :: [CV.ptr 1 [.int .i64 n], CV.ptr 1 [.int .i64 p]].map fun y => (false, [y])) (.one (.c (.bool (!okVec p n x))), []) := by
  refine Sat.intro tok mixed Tryd.func67 rfl rfl ?_
  ((conv => whnf); repeat ((first | refine B0 ?_ | refine B1 ?_ | refine D1 ?_ | refine D2 ?_ | refine CallC.r ?_); conv => whnf))
  refine Pick.mk _ (s_isVector x hb n p hp) ?_
  ((conv => whnf); repeat ((first | refine B0 ?_ | refine B1 ?_ | refine D1 ?_ | refine D2 ?_ | refine CallC.r ?_); conv => whnf))
  exact ResOK.same rfl

theorem s_areVectors (xs : List (List Int)) (o : Enc.ok xs) (n p : Int) (hp : 0 ≤ p ∧ p ≤ 9223372036854775807) : Sat Tryd.prog 54 [(false, Enc.enc xs), (false, [.int .i64 n]), (false, [.int .i64 p])] (.one (.c (.bool (okVecs p n xs))), []) := by
  refine Sat.intro tok mixed Tryd.func54 rfl rfl ?_
  ((conv => whnf); repeat ((first | refine B0 ?_ | refine B1 ?_ | refine D1 ?_ | refine D2 ?_ | refine CallC.r ?_); conv => whnf))
  refine Pick.mk _ (s_ContainsFuncInt64S xs 67 [CV.ptr 1 [.int .i64 n], CV.ptr 1 [.int .i64 p]] (fun x => !okVec p n x) o.1 fun x hx => s_areVectors1 x (o.2 x hx).1 n p hp) ?_
  ((conv => whnf); repeat ((first | refine B0 ?_ | refine B1 ?_ | refine D1 ?_ | refine D2 ?_ | refine CallC.r ?_); conv => whnf))
  exact ResOK.same (by rw [okVecs, ← not_any_not])

theorem s_l04Vector (x : List Int) (hb : x.length ≤ maxLen) (n p : Int) (hp : 0 ≤ p ∧ p ≤ 9223372036854775807) (hn : n ≤ 64) : Sat Tryd.prog 24 [(false, [.int .i64 p]), (false, [.int .i64 n]), (false, Enc.enc x)] (.one (.c (.bool (okVec p n x))), []) := by
  have hl : (x.map (Enc.enc (α := Int))).length = x.length := by simp
  refine Sat.intro tok mixed Tryd.func24 rfl rfl ?_
  ((conv => whnf); repeat ((first | refine B0 ?_ | refine B1 ?_ | refine D1 ?_ | refine D2 ?_ | refine CallC.r ?_); conv => whnf))
  refine Pick.mk _ (s_l02Numbers x hb p hp) ?_
  ((conv => whnf); repeat ((first | refine B0 ?_ | refine B1 ?_ | refine D1 ?_ | refine D2 ?_ | refine CallC.r ?_); conv => whnf))
  refine Br.mk (fun h => ?_) (fun h => ?_) <;> ((conv => whnf); repeat ((first | refine B0 ?_ | refine B1 ?_ | refine D1 ?_ | refine D2 ?_ | refine CallC.r ?_); conv => whnf))
  · simp only [Bool.and_eq_true] at h
    exact ResOK.same (by simp only [okVec, h.1, Bool.and_true, hl])
  · refine ResOK.same ?_
    have : okVec p n x = false := by
      cases hb2 : okVec p n x with
      | false => rfl
      | true =>
        simp only [okVec, Bool.and_eq_true, beq_iff_eq] at hb2
        rw [hb2.2] at h
        simp at h
        omega
    rw [this]

theorem s_sizeInts (xs : List (List Int)) : Sat Tryd.prog 56 [(false, Enc.enc xs)] (.one (.c (.int .i64 xs.length)), []) := by
  have hl : (xs.map (Enc.enc (α := List Int))).length = xs.length := by simp
  refine Sat.intro tok mixed Tryd.func56 rfl rfl ?_
  ((conv => whnf); repeat ((first | refine B0 ?_ | refine B1 ?_ | refine D1 ?_ | refine D2 ?_ | refine CallC.r ?_); conv => whnf))
  exact ResOK.same (by rw [hl])

end Go.Proofs.YtnafogjagbhdbaaDoor.Pi
