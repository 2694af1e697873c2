/- Simplices and complexes that are valid, the reference and the program. No statement of the seat is proved here. -/
import Derived.Test.YtnmoeeneofopcaaGreatPiCx
import Derived.Test.YtnmoeeneofopcaaGreatPiFMatrix
import Derived.Test.YtnmoeeneofopcaaGreatPiFSameProof
import Derived.Test.YtnmoeeneofopcaaGreatPiFMat2
namespace Go.Proofs.YtnmoeeneofopcaaGreat.Pi
open Go
set_option maxRecDepth 10000
set_option maxHeartbeats 1600000
set_option linter.unusedVariables false

theorem sameI {xs ys : List Int} : sameBy sameInt xs ys = decide (xs = ys) := by
  cases h : sameBy sameInt xs ys with
  | true => exact (decide_eq_true (sameInts_iff.1 h)).symm
  | false => exact (decide_eq_false fun e => by
      have h2 : sameBy sameInt xs ys = true := sameInts_iff.2 e
      rw [h] at h2; cases h2).symm

theorem s_isRising (xs : List Int) (hb : xs.length ≤ maxLen) : Sat Tryz.prog 208 [(false, Enc.enc xs)] (.one (.c (.bool (rises xs))), []) := by
  simp only [maxLen] at hb
  refine Sat.intro tok mixed Tryz.func208 rfl rfl ?_
  ((conv => whnf); repeat ((first | refine B0 ?_ | refine B1 ?_ | refine D1 ?_ | refine D2 ?_ | refine CallC.r ?_); conv => whnf))
  refine Pick.mk [0, 3] trivial ?_
  ((conv => whnf); repeat ((first | refine B0 ?_ | refine B1 ?_ | refine D1 ?_ | refine D2 ?_ | refine CallC.r ?_); conv => whnf))
  refine LoopL.over (fun (i : Nat) => [(3, .one (.c (.int .i64 ((i : Int)))))]) (fun (i : Nat) => []) (fun (i : Nat) => xs.length + 1 - i) (fun (i : Nat) => 1 ≤ i ∧ i ≤ xs.length + 1 ∧ ∀ (j : Nat) (h : j < xs.length), j < i → riseStep xs j xs[j] = true) ?_ 1 ⟨Nat.le_refl _, by omega, fun j h hj => by
      have : j = 0 := by omega
      subst this; simp [riseStep]⟩
  intro i ⟨h1, h2, h3⟩ ih
  ((conv => whnf); repeat ((first | refine B0 ?_ | refine B1 ?_ | refine D1 ?_ | refine D2 ?_ | refine CallC.r ?_); conv => whnf))
  refine Br.mk (fun h => ?_) (fun h => ?_) <;> ((conv => whnf); repeat ((first | refine B0 ?_ | refine B1 ?_ | refine D1 ?_ | refine D2 ?_ | refine CallC.r ?_); conv => whnf))
  · have h : i < xs.length := by simp only [List.length_map, decide_eq_true_eq] at h; omega
    refine Pick.at64 (z := ((i - 1 : Nat) : Int)) (by omega) (by omega) ?_
    ((conv => whnf); repeat ((first | refine B0 ?_ | refine B1 ?_ | refine D1 ?_ | refine D2 ?_ | refine CallC.r ?_); conv => whnf))
    refine Pick.ix ((by omega : i - 1 < xs.length)) ?_
    ((conv => whnf); repeat ((first | refine B0 ?_ | refine B1 ?_ | refine D1 ?_ | refine D2 ?_ | refine CallC.r ?_); conv => whnf))
    refine Pick.ix (h) ?_
    ((conv => whnf); repeat ((first | refine B0 ?_ | refine B1 ?_ | refine D1 ?_ | refine D2 ?_ | refine CallC.r ?_); conv => whnf))
    have he : riseStep xs i xs[i] = decide (xs[i - 1] < xs[i]) := by
      have : ¬ i = 0 := by omega
      simp [riseStep, this, List.getElem?_eq_getElem (by omega : i - 1 < xs.length)]
    refine Br.mk (fun h5 => ?_) (fun h5 => ?_) <;> ((conv => whnf); repeat ((first | refine B0 ?_ | refine B1 ?_ | refine D1 ?_ | refine D2 ?_ | refine CallC.r ?_); conv => whnf))
    · refine ResOK.same ?_
      have : rises xs = false := allIx_no (i := i) (List.getElem?_eq_getElem h) (by rw [Nat.zero_add, he]; simpa using h5)
      rw [this]
    · refine Pick.at64 (z := (i + 1 : Nat)) (by simp) (by omega) ?_
      ((conv => whnf); repeat ((first | refine B0 ?_ | refine B1 ?_ | refine D1 ?_ | refine D2 ?_ | refine CallC.r ?_); conv => whnf))
      refine ih (i + 1) ⟨by omega, by omega, fun j hj hlt => ?_⟩ (by omega)
      by_cases e : j = i
      · subst e; rw [he]; simpa using h5
      · exact h3 j hj (by omega)
  · have h : xs.length ≤ i := by simp only [List.length_map, decide_eq_false_iff_not] at h; omega
    refine ResOK.same ?_
    have : rises xs = true := allIx_iff.2 fun j hj => h3 j hj (by omega)
    rw [this]

theorem s_isVertex (x : Int) : Sat Tryz.prog 288 [(false, [.int .i64 x])] (.one (.c (.bool (okVert x))), []) := by
  refine Sat.intro tok mixed Tryz.func288 rfl rfl ?_
  ((conv => whnf); repeat ((first | refine B0 ?_ | refine B1 ?_ | refine D1 ?_ | refine D2 ?_ | refine CallC.r ?_); conv => whnf))
  refine Pick.mk _ (s_within x 0 9) ?_
  ((conv => whnf); repeat ((first | refine B0 ?_ | refine B1 ?_ | refine D1 ?_ | refine D2 ?_ | refine CallC.r ?_); conv => whnf))
  exact ResOK.same rfl
theorem s_ValidSimplex1 (x : Int) : Sat Tryz.prog 287 ((false, Enc.enc x) :: ([] : List CV).map fun y => (false, [y])) (.one (.c (.bool (!okVert x))), []) := by
  refine Sat.intro tok mixed Tryz.func287 rfl rfl ?_
  ((conv => whnf); repeat ((first | refine B0 ?_ | refine B1 ?_ | refine D1 ?_ | refine D2 ?_ | refine CallC.r ?_); conv => whnf))
  refine Pick.mk _ (s_isVertex x) ?_
  ((conv => whnf); repeat ((first | refine B0 ?_ | refine B1 ?_ | refine D1 ?_ | refine D2 ?_ | refine CallC.r ?_); conv => whnf))
  exact ResOK.same rfl
theorem s_ValidSimplex (s : List Int) (hb : s.length ≤ maxLen) : Sat Tryz.prog 232 [(false, Enc.enc s)] (.one (.c (.bool (okSimp s))), []) := by
  have hc := s_ContainsFuncInt64 s 287 [] (fun x => !okVert x) hb (fun x _ => s_ValidSimplex1 x)
  have e : (!(s.any fun x => !okVert x)) = s.all okVert := not_any_not okVert s
  refine Sat.intro tok mixed Tryz.func232 rfl rfl ?_
  ((conv => whnf); repeat ((first | refine B0 ?_ | refine B1 ?_ | refine D1 ?_ | refine D2 ?_ | refine CallC.r ?_); conv => whnf))
  refine Br.mk (fun h1 => ?_) (fun h1 => ?_) <;> ((conv => whnf); repeat ((first | refine B0 ?_ | refine B1 ?_ | refine D1 ?_ | refine D2 ?_ | refine CallC.r ?_); conv => whnf))
  · have h1 : 1 ≤ s.length := by simp only [List.length_map, decide_eq_true_eq] at h1; omega
    refine Br.mk (fun h2 => ?_) (fun h2 => ?_) <;> ((conv => whnf); repeat ((first | refine B0 ?_ | refine B1 ?_ | refine D1 ?_ | refine D2 ?_ | refine CallC.r ?_); conv => whnf))
    · have h2 : s.length ≤ 4 := by simp only [List.length_map, decide_eq_true_eq] at h2; omega
      refine Pick.mk _ (s_isRising s hb) ?_
      ((conv => whnf); repeat ((first | refine B0 ?_ | refine B1 ?_ | refine D1 ?_ | refine D2 ?_ | refine CallC.r ?_); conv => whnf))
      refine Br.mk (fun h3 => ?_) (fun h3 => ?_) <;> ((conv => whnf); repeat ((first | refine B0 ?_ | refine B1 ?_ | refine D1 ?_ | refine D2 ?_ | refine CallC.r ?_); conv => whnf))
      · refine Pick.mk _ hc ?_
        ((conv => whnf); repeat ((first | refine B0 ?_ | refine B1 ?_ | refine D1 ?_ | refine D2 ?_ | refine CallC.r ?_); conv => whnf))
        exact ResOK.same (by rw [e]; simp [okSimp, h1, h2, h3])
      · exact ResOK.same (by simp [okSimp, h1, h2, h3])
    · have h2 : ¬ s.length ≤ 4 := by simp only [List.length_map, decide_eq_false_iff_not] at h2; omega
      exact ResOK.same (by simp [okSimp, h1, h2])
  · have h1 : ¬ 1 ≤ s.length := by simp only [List.length_map, decide_eq_false_iff_not] at h1; omega
    exact ResOK.same (by rw [okSimp, decide_eq_false h1]; rfl)

theorem s_l00Rises (xs : List Int) (lo hi : Int) (hb : xs.length ≤ maxLen) : Sat Tryz.prog 266 [(false, Enc.enc xs), (false, [.int .i64 lo]), (false, [.int .i64 hi])] (.one (.c (.bool (allIx (fun i x => (decide (lo ≤ x) && decide (x ≤ hi)) && riseStep xs i x) 0 xs))), []) := by
  simp only [maxLen] at hb
  refine Sat.intro tok mixed Tryz.func266 rfl rfl ?_
  ((conv => whnf); repeat ((first | refine B0 ?_ | refine B1 ?_ | refine D1 ?_ | refine D2 ?_ | refine CallC.r ?_); conv => whnf))
  refine Pick.mk [0, 1, 2, 7] trivial ?_
  ((conv => whnf); repeat ((first | refine B0 ?_ | refine B1 ?_ | refine D1 ?_ | refine D2 ?_ | refine CallC.r ?_); conv => whnf))
  refine LoopL.over (fun (i : Nat) => [(7, .one (.c (.int .i64 ((i : Int)))))]) (fun (i : Nat) => []) (fun (i : Nat) => xs.length - i) (fun (i : Nat) => i ≤ xs.length ∧ ∀ (j : Nat) (h : j < xs.length), j < i → ((decide (lo ≤ xs[j]) && decide (xs[j] ≤ hi)) && riseStep xs j xs[j]) = true) ?_ 0 ⟨Nat.zero_le _, by intros; omega⟩
  intro i ⟨h2, h3⟩ ih
  ((conv => whnf); repeat ((first | refine B0 ?_ | refine B1 ?_ | refine D1 ?_ | refine D2 ?_ | refine CallC.r ?_); conv => whnf))
  refine Br.mk (fun h => ?_) (fun h => ?_) <;> ((conv => whnf); repeat ((first | refine B0 ?_ | refine B1 ?_ | refine D1 ?_ | refine D2 ?_ | refine CallC.r ?_); conv => whnf))
  · have h : i < xs.length := by simp only [List.length_map, decide_eq_true_eq] at h; omega
    have no : ((decide (lo ≤ xs[i]) && decide (xs[i] ≤ hi)) && riseStep xs i xs[i]) = false → allIx (fun i x => (decide (lo ≤ x) && decide (x ≤ hi)) && riseStep xs i x) 0 xs = false := fun e => allIx_no (i := i) (List.getElem?_eq_getElem h) (by rw [Nat.zero_add]; exact e)
    have yes : ((decide (lo ≤ xs[i]) && decide (xs[i] ≤ hi)) && riseStep xs i xs[i]) = true → ∀ (j : Nat) (h : j < xs.length), j < i + 1 → ((decide (lo ≤ xs[j]) && decide (xs[j] ≤ hi)) && riseStep xs j xs[j]) = true := fun e j hj hlt => by
      by_cases e2 : j = i
      · subst e2; exact e
      · exact h3 j hj (by omega)
    refine Pick.ix (h) ?_
    ((conv => whnf); repeat ((first | refine B0 ?_ | refine B1 ?_ | refine D1 ?_ | refine D2 ?_ | refine CallC.r ?_); conv => whnf))
    refine Pick.mk _ (s_l00In xs[i] lo hi) ?_
    ((conv => whnf); repeat ((first | refine B0 ?_ | refine B1 ?_ | refine D1 ?_ | refine D2 ?_ | refine CallC.r ?_); conv => whnf))
    refine Br.mk (fun h4 => ?_) (fun h4 => ?_) <;> ((conv => whnf); repeat ((first | refine B0 ?_ | refine B1 ?_ | refine D1 ?_ | refine D2 ?_ | refine CallC.r ?_); conv => whnf))
    · exact ResOK.same (by rw [no (by simp at h4 ⊢; intro a b; omega)])
    · simp only [Bool.not_eq_false'] at h4
      refine Br.mk (fun h5 => ?_) (fun h5 => ?_) <;> ((conv => whnf); repeat ((first | refine B0 ?_ | refine B1 ?_ | refine D1 ?_ | refine D2 ?_ | refine CallC.r ?_); conv => whnf))
      · have h5 : 0 < i := by simp only [decide_eq_true_eq] at h5; omega
        have he : riseStep xs i xs[i] = decide (xs[i - 1] < xs[i]) := by
          have : ¬ i = 0 := by omega
          simp [riseStep, this, List.getElem?_eq_getElem (by omega : i - 1 < xs.length)]
        refine Pick.at64 (z := ((i - 1 : Nat) : Int)) (by omega) (by omega) ?_
        ((conv => whnf); repeat ((first | refine B0 ?_ | refine B1 ?_ | refine D1 ?_ | refine D2 ?_ | refine CallC.r ?_); conv => whnf))
        refine Pick.ix ((by omega : i - 1 < xs.length)) ?_
        ((conv => whnf); repeat ((first | refine B0 ?_ | refine B1 ?_ | refine D1 ?_ | refine D2 ?_ | refine CallC.r ?_); conv => whnf))
        refine Pick.ix (h) ?_
        ((conv => whnf); repeat ((first | refine B0 ?_ | refine B1 ?_ | refine D1 ?_ | refine D2 ?_ | refine CallC.r ?_); conv => whnf))
        refine Br.mk (fun h6 => ?_) (fun h6 => ?_) <;> ((conv => whnf); repeat ((first | refine B0 ?_ | refine B1 ?_ | refine D1 ?_ | refine D2 ?_ | refine CallC.r ?_); conv => whnf))
        · exact ResOK.same (by rw [no (by rw [h4, he, Bool.true_and]; simpa using h6)])
        · refine Pick.at64 (z := (i + 1 : Nat)) (by simp) (by omega) ?_
          ((conv => whnf); repeat ((first | refine B0 ?_ | refine B1 ?_ | refine D1 ?_ | refine D2 ?_ | refine CallC.r ?_); conv => whnf))
          exact ih (i + 1) ⟨by omega, yes (by rw [h4, he, Bool.true_and]; simpa using h6)⟩ (by omega)
      · have h5 : i = 0 := by simp only [decide_eq_false_iff_not] at h5; omega
        refine Pick.at64 (z := (i + 1 : Nat)) (by simp) (by omega) ?_
        ((conv => whnf); repeat ((first | refine B0 ?_ | refine B1 ?_ | refine D1 ?_ | refine D2 ?_ | refine CallC.r ?_); conv => whnf))
        exact ih (i + 1) ⟨by omega, yes (by rw [h4]; simp [riseStep, h5])⟩ (by omega)
  · have h : i = xs.length := by simp only [List.length_map, decide_eq_false_iff_not] at h; omega
    refine ResOK.same ?_
    have : allIx (fun i x => (decide (lo ≤ x) && decide (x ≤ hi)) && riseStep xs i x) 0 xs = true := allIx_iff.2 fun j hj => h3 j hj (by omega)
    rw [this]
theorem rises_same (xs : List Int) : allIx (fun i x => (decide (0 ≤ x) && decide (x ≤ 9)) && riseStep xs i x) 0 xs = (rises xs && xs.all okVert) := by
  rw [Bool.eq_iff_iff, allIx_iff, Bool.and_eq_true, rises, allIx_iff, List.all_eq_true]
  constructor
  · intro h
    refine ⟨fun i hi => by have := h i hi; rw [Bool.and_eq_true] at this; exact this.2, fun x hx => ?_⟩
    obtain ⟨i, hi, rfl⟩ := List.mem_iff_getElem.1 hx
    have := h i hi
    rw [Bool.and_eq_true] at this; exact this.1
  · intro ⟨h1, h2⟩ i hi
    rw [Bool.and_eq_true]
    exact ⟨h2 _ (List.getElem_mem hi), h1 i hi⟩
theorem s_l05Simplex (s : List Int) (hb : s.length ≤ maxLen) : Sat Tryz.prog 202 [(false, Enc.enc s)] (.one (.c (.bool (okSimp s))), []) := by
  have hr := s_l00Rises s 0 9 hb
  rw [rises_same] at hr
  have e : (decide (1 ≤ ((s.map (Enc.enc (α := Int))).length : Int)) && decide (((s.map (Enc.enc (α := Int))).length : Int) ≤ 4)) = (decide (1 ≤ s.length) && decide (s.length ≤ 4)) := by
    rw [List.length_map]
    congr 1 <;> (apply decide_eq_decide.2; omega)
  refine Sat.intro tok mixed Tryz.func202 rfl rfl ?_
  ((conv => whnf); repeat ((first | refine B0 ?_ | refine B1 ?_ | refine D1 ?_ | refine D2 ?_ | refine CallC.r ?_); conv => whnf))
  refine Pick.mk _ (s_l00In ((s.map (Enc.enc (α := Int))).length : Int) 1 4) ?_
  ((conv => whnf); repeat ((first | refine B0 ?_ | refine B1 ?_ | refine D1 ?_ | refine D2 ?_ | refine CallC.r ?_); conv => whnf))
  rw [e]
  refine Br.mk (fun h1 => ?_) (fun h1 => ?_) <;> ((conv => whnf); repeat ((first | refine B0 ?_ | refine B1 ?_ | refine D1 ?_ | refine D2 ?_ | refine CallC.r ?_); conv => whnf))
  · refine Pick.mk _ hr ?_
    ((conv => whnf); repeat ((first | refine B0 ?_ | refine B1 ?_ | refine D1 ?_ | refine D2 ?_ | refine CallC.r ?_); conv => whnf))
    exact ResOK.same (by rw [okSimp, h1, Bool.true_and])
  · exact ResOK.same (by rw [okSimp, h1, Bool.false_and])

theorem s_l05Find (c : Complex) (t : List Int) (hc : c.simplices.length ≤ maxLen) (ht : t.length ≤ maxLen) (ho : ∀ x ∈ c.simplices, x.length ≤ maxLen) : Sat Tryz.prog 204 [(false, [.ptr 1 (Enc.enc c)]), (false, Enc.enc t)] (.one (.c (.int .i64 (ixS c.simplices t))), []) := by
  obtain ⟨xs⟩ := c
  simp only at hc ho ⊢
  simp only [maxLen] at hc
  refine Sat.intro tok mixed Tryz.func204 rfl rfl ?_
  ((conv => whnf); repeat ((first | refine B0 ?_ | refine B1 ?_ | refine D1 ?_ | refine D2 ?_ | refine CallC.r ?_); conv => whnf))
  refine Pick.mk [0, 1, 5] trivial ?_
  ((conv => whnf); repeat ((first | refine B0 ?_ | refine B1 ?_ | refine D1 ?_ | refine D2 ?_ | refine CallC.r ?_); conv => whnf))
  refine LoopL.over (fun (i : Nat) => [(5, .one (.c (.int .i64 ((i : Int)))))]) (fun (i : Nat) => []) (fun (i : Nat) => xs.length - i) (fun (i : Nat) => i ≤ xs.length ∧ ∀ (j : Nat) (h : j < xs.length), j < i → decide (xs[j] = t) = false) ?_ 0 ⟨Nat.zero_le _, by intros; omega⟩
  intro i ⟨h2, h3⟩ ih
  ((conv => whnf); repeat ((first | refine B0 ?_ | refine B1 ?_ | refine D1 ?_ | refine D2 ?_ | refine CallC.r ?_); conv => whnf))
  refine Br.mk (fun h => ?_) (fun h => ?_) <;> ((conv => whnf); repeat ((first | refine B0 ?_ | refine B1 ?_ | refine D1 ?_ | refine D2 ?_ | refine CallC.r ?_); conv => whnf))
  · have h : i < xs.length := by simp only [List.length_map, decide_eq_true_eq] at h; omega
    refine Pick.ix (h) ?_
    ((conv => whnf); repeat ((first | refine B0 ?_ | refine B1 ?_ | refine D1 ?_ | refine D2 ?_ | refine CallC.r ?_); conv => whnf))
    refine Pick.mk _ (s_l00Same xs[i] t (ho _ (List.getElem_mem h))) ?_
    ((conv => whnf); repeat ((first | refine B0 ?_ | refine B1 ?_ | refine D1 ?_ | refine D2 ?_ | refine CallC.r ?_); conv => whnf))
    rw [sameI]
    refine Br.mk (fun h5 => ?_) (fun h5 => ?_) <;> ((conv => whnf); repeat ((first | refine B0 ?_ | refine B1 ?_ | refine D1 ?_ | refine D2 ?_ | refine CallC.r ?_); conv => whnf))
    · exact ResOK.same (by rw [ixS, firstIx_at h h5 h3, Nat.zero_add])
    · refine Pick.at64 (z := (i + 1 : Nat)) (by simp) (by omega) ?_
      ((conv => whnf); repeat ((first | refine B0 ?_ | refine B1 ?_ | refine D1 ?_ | refine D2 ?_ | refine CallC.r ?_); conv => whnf))
      refine ih (i + 1) ⟨by omega, fun j hj hlt => ?_⟩ (by omega)
      by_cases e : j = i
      · subst e; exact h5
      · exact h3 j hj (by omega)
  · have h : i = xs.length := by simp only [List.length_map, decide_eq_false_iff_not] at h; omega
    exact ResOK.same (by rw [ixS, firstIx_none fun j hj => h3 j hj (by omega)])

theorem s_ownInt (xs : List Int) (hb : xs.length ≤ 16777216) : Sat Tryz.prog 77 [(false, Enc.enc xs)] (.one (.rs 0), [(0, .arr 1 (xs.map Enc.enc))]) := by
  refine Sat.intro tok mixed Tryz.func77 rfl rfl ?_
  ((conv => whnf); repeat ((first | refine B0 ?_ | refine B1 ?_ | refine D1 ?_ | refine D2 ?_ | refine CallC.r ?_); conv => whnf))
  refine Side.mk (by simp; omega) ?_
  ((conv => whnf); repeat ((first | refine B0 ?_ | refine B1 ?_ | refine D1 ?_ | refine D2 ?_ | refine CallC.r ?_); conv => whnf))
  exact ResOK.same rfl
theorem s_l05Drop (s : List Int) (k : Nat) (hk : k < s.length) (hb : s.length ≤ 1048576) : Sat Tryz.prog 205 [(false, Enc.enc s), (false, [.int .i64 k])] (.one (.rs 0), [(0, .arr 1 ((dropAt s k).map Enc.enc))]) := by
  have hl : (s.map (Enc.enc (α := Int))).length = s.length := by simp
  refine Sat.intro tok mixed Tryz.func205 rfl rfl ?_
  ((conv => whnf); repeat ((first | refine B0 ?_ | refine B1 ?_ | refine D1 ?_ | refine D2 ?_ | refine CallC.r ?_); conv => whnf))
  refine Side.mk (by rw [hl]; omega) ?_
  ((conv => whnf); repeat ((first | refine B0 ?_ | refine B1 ?_ | refine D1 ?_ | refine D2 ?_ | refine CallC.r ?_); conv => whnf))
  rw [show ((List.map (Enc.enc (α := Int)) s).take (k : Int).toNat).drop 0 = (s.take k).map Enc.enc by simp [List.map_take]]
  refine Pick.mk _ (s_ownInt (s.take k) (by rw [List.length_take]; omega)) ?_
  ((conv => whnf); repeat ((first | refine B0 ?_ | refine B1 ?_ | refine D1 ?_ | refine D2 ?_ | refine CallC.r ?_); conv => whnf))
  refine Pick.at64 (z := ((k + 1 : Nat) : Int)) (by simp) (by omega) ?_
  ((conv => whnf); repeat ((first | refine B0 ?_ | refine B1 ?_ | refine D1 ?_ | refine D2 ?_ | refine CallC.r ?_); conv => whnf))
  refine Side.mk (by rw [hl]; omega) ?_
  ((conv => whnf); repeat ((first | refine B0 ?_ | refine B1 ?_ | refine D1 ?_ | refine D2 ?_ | refine CallC.r ?_); conv => whnf))
  refine Side.mk (by simp; omega) ?_
  ((conv => whnf); repeat ((first | refine B0 ?_ | refine B1 ?_ | refine D1 ?_ | refine D2 ?_ | refine CallC.r ?_); conv => whnf))
  have e9 : (List.map (Enc.enc (α := Int)) s).take s.length = s.map Enc.enc := List.take_of_length_le (by simp)
  exact ResOK.same (by simp [dropAt, List.map_take, List.map_drop, e9])

theorem cmpL_drop {a b : List Int} {i : Nat} (ha : i < a.length) (hb : i < b.length) : cmpL (a.drop i) (b.drop i) = if cmpI a[i] b[i] ≠ 0 then cmpI a[i] b[i] else cmpL (a.drop (i + 1)) (b.drop (i + 1)) := by
  rw [List.drop_eq_getElem_cons ha, List.drop_eq_getElem_cons hb]; rfl
theorem s_l05Before (a b : List Int) (ha : a.length ≤ 1048576) : Sat Tryz.prog 203 [(false, Enc.enc a), (false, Enc.enc b)] (.one (.c (.bool (decide (cmpS a b < 0)))), []) := by
  refine Sat.intro tok mixed Tryz.func203 rfl rfl ?_
  ((conv => whnf); repeat ((first | refine B0 ?_ | refine B1 ?_ | refine D1 ?_ | refine D2 ?_ | refine CallC.r ?_); conv => whnf))
  refine Br.mk (fun h => ?_) (fun h => ?_) <;> ((conv => whnf); repeat ((first | refine B0 ?_ | refine B1 ?_ | refine D1 ?_ | refine D2 ?_ | refine CallC.r ?_); conv => whnf))
  · have h : a.length ≠ b.length := by simp at h; omega
    refine ResOK.same ?_
    have hc : cmpI a.length b.length ≠ 0 := fun e => h (by have := cmpI_eq.1 e; omega)
    have e : (cmpS a b < 0) ↔ a.length < b.length := by
      unfold cmpS; rw [if_pos hc, cmpI_lt]; omega
    simp [e]
  · have h : a.length = b.length := by simp at h; omega
    have e0 : cmpS a b = cmpL a b := by unfold cmpS; rw [if_neg (by rw [h]; simp [cmpI_self])]
    rw [e0]
    refine Pick.mk [0, 1, 5] trivial ?_
    ((conv => whnf); repeat ((first | refine B0 ?_ | refine B1 ?_ | refine D1 ?_ | refine D2 ?_ | refine CallC.r ?_); conv => whnf))
    refine LoopL.over (fun (i : Nat) => [(5, .one (.c (.int .i64 ((i : Int)))))]) (fun (i : Nat) => []) (fun (i : Nat) => a.length - i) (fun (i : Nat) => i ≤ a.length ∧ cmpL (a.drop i) (b.drop i) = cmpL a b) ?_ 0 ⟨Nat.zero_le _, by simp⟩
    intro i ⟨h2, h3⟩ ih
    ((conv => whnf); repeat ((first | refine B0 ?_ | refine B1 ?_ | refine D1 ?_ | refine D2 ?_ | refine CallC.r ?_); conv => whnf))
    refine Br.mk (fun h4 => ?_) (fun h4 => ?_) <;> ((conv => whnf); repeat ((first | refine B0 ?_ | refine B1 ?_ | refine D1 ?_ | refine D2 ?_ | refine CallC.r ?_); conv => whnf))
    · have h4 : i < a.length := by simp only [List.length_map, decide_eq_true_eq] at h4; omega
      rw [cmpL_drop h4 (by omega)] at h3
      refine Pick.ix (h4) ?_
      ((conv => whnf); repeat ((first | refine B0 ?_ | refine B1 ?_ | refine D1 ?_ | refine D2 ?_ | refine CallC.r ?_); conv => whnf))
      refine Pick.ix ((by omega : i < b.length)) ?_
      ((conv => whnf); repeat ((first | refine B0 ?_ | refine B1 ?_ | refine D1 ?_ | refine D2 ?_ | refine CallC.r ?_); conv => whnf))
      refine Br.mk (fun h5 => ?_) (fun h5 => ?_) <;> ((conv => whnf); repeat ((first | refine B0 ?_ | refine B1 ?_ | refine D1 ?_ | refine D2 ?_ | refine CallC.r ?_); conv => whnf))
      · have h5 : a[i] ≠ b[i] := by simpa using h5
        rw [if_pos (fun e => h5 (cmpI_eq.1 e))] at h3
        refine Pick.ix (h4) ?_
        ((conv => whnf); repeat ((first | refine B0 ?_ | refine B1 ?_ | refine D1 ?_ | refine D2 ?_ | refine CallC.r ?_); conv => whnf))
        refine Pick.ix ((by omega : i < b.length)) ?_
        ((conv => whnf); repeat ((first | refine B0 ?_ | refine B1 ?_ | refine D1 ?_ | refine D2 ?_ | refine CallC.r ?_); conv => whnf))
        exact ResOK.same (by rw [← h3]; simp only [cmpI_lt])
      · have h5 : a[i] = b[i]'(by omega) := by simpa using h5
        rw [if_neg (by rw [h5]; simp [cmpI_self])] at h3
        refine Pick.at64 (z := (i + 1 : Nat)) (by simp) (by omega) ?_
        ((conv => whnf); repeat ((first | refine B0 ?_ | refine B1 ?_ | refine D1 ?_ | refine D2 ?_ | refine CallC.r ?_); conv => whnf))
        exact ih (i + 1) ⟨by omega, h3⟩ (by omega)
    · have h4 : i = a.length := by simp only [List.length_map, decide_eq_false_iff_not] at h4; omega
      subst h4
      rw [List.drop_length, h, List.drop_length] at h3
      exact ResOK.same (by rw [← h3]; rfl)

theorem s_isNaNint (a : Int) : Sat Tryz.prog 320 [(false, [.int .i64 a])] (.one (.c (.bool false)), []) := by
  refine Sat.intro tok mixed Tryz.func320 rfl rfl ?_
  ((conv => whnf); repeat ((first | refine B0 ?_ | refine B1 ?_ | refine D1 ?_ | refine D2 ?_ | refine CallC.r ?_); conv => whnf))
  exact ResOK.same (by simp)
theorem s_isNaNint64 (a : Int) : Sat Tryz.prog 343 [(false, [.int .i64 a])] (.one (.c (.bool false)), []) := by
  refine Sat.intro tok mixed Tryz.func343 rfl rfl ?_
  ((conv => whnf); repeat ((first | refine B0 ?_ | refine B1 ?_ | refine D1 ?_ | refine D2 ?_ | refine CallC.r ?_); conv => whnf))
  exact ResOK.same (by simp)
theorem s_CompareInt (a b : Int) : Sat Tryz.prog 290 [(false, [.int .i64 a]), (false, [.int .i64 b])] (.one (.c (.int .i64 (cmpI a b))), []) := by
  refine Sat.intro tok mixed Tryz.func290 rfl rfl ?_
  ((conv => whnf); repeat ((first | refine B0 ?_ | refine B1 ?_ | refine D1 ?_ | refine D2 ?_ | refine CallC.r ?_); conv => whnf))
  refine Pick.mk _ (s_isNaNint a) ?_
  ((conv => whnf); repeat ((first | refine B0 ?_ | refine B1 ?_ | refine D1 ?_ | refine D2 ?_ | refine CallC.r ?_); conv => whnf))
  refine Pick.mk _ (s_isNaNint b) ?_
  ((conv => whnf); repeat ((first | refine B0 ?_ | refine B1 ?_ | refine D1 ?_ | refine D2 ?_ | refine CallC.r ?_); conv => whnf))
  refine Br.mk (fun h => ?_) (fun h => ?_) <;> ((conv => whnf); repeat ((first | refine B0 ?_ | refine B1 ?_ | refine D1 ?_ | refine D2 ?_ | refine CallC.r ?_); conv => whnf))
  · exact ResOK.same (by simp only [decide_eq_true_eq] at h; rw [cmpI, if_pos h])
  · refine Br.mk (fun h2 => ?_) (fun h2 => ?_) <;> ((conv => whnf); repeat ((first | refine B0 ?_ | refine B1 ?_ | refine D1 ?_ | refine D2 ?_ | refine CallC.r ?_); conv => whnf))
    · exact ResOK.same (by simp only [decide_eq_true_eq, decide_eq_false_iff_not] at h h2; rw [cmpI, if_neg h, if_neg (by omega)])
    · exact ResOK.same (by simp only [decide_eq_false_iff_not] at h h2; rw [cmpI, if_neg h, if_pos (by omega)])
theorem s_CompareInt64 (a b : Int) : Sat Tryz.prog 321 [(false, [.int .i64 a]), (false, [.int .i64 b])] (.one (.c (.int .i64 (cmpI a b))), []) := by
  refine Sat.intro tok mixed Tryz.func321 rfl rfl ?_
  ((conv => whnf); repeat ((first | refine B0 ?_ | refine B1 ?_ | refine D1 ?_ | refine D2 ?_ | refine CallC.r ?_); conv => whnf))
  refine Pick.mk _ (s_isNaNint64 a) ?_
  ((conv => whnf); repeat ((first | refine B0 ?_ | refine B1 ?_ | refine D1 ?_ | refine D2 ?_ | refine CallC.r ?_); conv => whnf))
  refine Pick.mk _ (s_isNaNint64 b) ?_
  ((conv => whnf); repeat ((first | refine B0 ?_ | refine B1 ?_ | refine D1 ?_ | refine D2 ?_ | refine CallC.r ?_); conv => whnf))
  refine Br.mk (fun h => ?_) (fun h => ?_) <;> ((conv => whnf); repeat ((first | refine B0 ?_ | refine B1 ?_ | refine D1 ?_ | refine D2 ?_ | refine CallC.r ?_); conv => whnf))
  · exact ResOK.same (by simp only [decide_eq_true_eq] at h; rw [cmpI, if_pos h])
  · refine Br.mk (fun h2 => ?_) (fun h2 => ?_) <;> ((conv => whnf); repeat ((first | refine B0 ?_ | refine B1 ?_ | refine D1 ?_ | refine D2 ?_ | refine CallC.r ?_); conv => whnf))
    · exact ResOK.same (by simp only [decide_eq_true_eq, decide_eq_false_iff_not] at h h2; rw [cmpI, if_neg h, if_neg (by omega)])
    · exact ResOK.same (by simp only [decide_eq_false_iff_not] at h h2; rw [cmpI, if_neg h, if_pos (by omega)])
theorem s_CompareInts (a b : List Int) (ha : a.length ≤ 1048576) : Sat Tryz.prog 291 [(false, Enc.enc a), (false, Enc.enc b)] (.one (.c (.int .i64 (cmpL a b))), []) := by
  refine Sat.intro tok mixed Tryz.func291 rfl rfl ?_
  ((conv => whnf); repeat ((first | refine B0 ?_ | refine B1 ?_ | refine D1 ?_ | refine D2 ?_ | refine CallC.r ?_); conv => whnf))
  refine Pick.mk [0, 1, 9, 10, 11] trivial ?_
  ((conv => whnf); repeat ((first | refine B0 ?_ | refine B1 ?_ | refine D1 ?_ | refine D2 ?_ | refine CallC.r ?_); conv => whnf))
  refine LoopL.over (fun (i : Nat) => [(11, .one (.c (.int .i64 ((i : Int)))))]) (fun (i : Nat) => []) (fun (i : Nat) => a.length - i) (fun (i : Nat) => i ≤ a.length ∧ i ≤ b.length ∧ cmpL (a.drop i) (b.drop i) = cmpL a b) ?_ 0 ⟨Nat.zero_le _, Nat.zero_le _, by simp⟩
  intro i ⟨h2, h2b, h3⟩ ih
  ((conv => whnf); repeat ((first | refine B0 ?_ | refine B1 ?_ | refine D1 ?_ | refine D2 ?_ | refine CallC.r ?_); conv => whnf))
  refine Br.mk (fun h4 => ?_) (fun h4 => ?_) <;> ((conv => whnf); repeat ((first | refine B0 ?_ | refine B1 ?_ | refine D1 ?_ | refine D2 ?_ | refine CallC.r ?_); conv => whnf))
  · have h4 : i < a.length := by simp only [List.length_map, decide_eq_true_eq] at h4; omega
    refine Pick.ix (h4) ?_
    ((conv => whnf); repeat ((first | refine B0 ?_ | refine B1 ?_ | refine D1 ?_ | refine D2 ?_ | refine CallC.r ?_); conv => whnf))
    refine Br.mk (fun h6 => ?_) (fun h6 => ?_) <;> ((conv => whnf); repeat ((first | refine B0 ?_ | refine B1 ?_ | refine D1 ?_ | refine D2 ?_ | refine CallC.r ?_); conv => whnf))
    · have h6 : i = b.length := by simp only [List.length_map, decide_eq_true_eq] at h6; omega
      subst h6
      rw [List.drop_length, List.drop_eq_getElem_cons h4] at h3
      exact ResOK.same (by rw [← h3]; rfl)
    · have h6 : i < b.length := by simp only [List.length_map, decide_eq_false_iff_not] at h6; omega
      rw [cmpL_drop h4 h6] at h3
      refine Pick.ix (h6) ?_
      ((conv => whnf); repeat ((first | refine B0 ?_ | refine B1 ?_ | refine D1 ?_ | refine D2 ?_ | refine CallC.r ?_); conv => whnf))
      refine Pick.mk _ (s_CompareInt64 a[i] b[i]) ?_
      ((conv => whnf); repeat ((first | refine B0 ?_ | refine B1 ?_ | refine D1 ?_ | refine D2 ?_ | refine CallC.r ?_); conv => whnf))
      refine Br.mk (fun h7 => ?_) (fun h7 => ?_) <;> ((conv => whnf); repeat ((first | refine B0 ?_ | refine B1 ?_ | refine D1 ?_ | refine D2 ?_ | refine CallC.r ?_); conv => whnf))
      · rw [if_pos (by simpa using h7)] at h3
        exact ResOK.same (by rw [← h3])
      · rw [if_neg (by simpa using h7)] at h3
        refine Pick.at64 (z := (i + 1 : Nat)) (by simp) (by omega) ?_
        ((conv => whnf); repeat ((first | refine B0 ?_ | refine B1 ?_ | refine D1 ?_ | refine D2 ?_ | refine CallC.r ?_); conv => whnf))
        exact ih (i + 1) ⟨by omega, by omega, h3⟩ (by omega)
  · have h4 : i = a.length := by simp only [List.length_map, decide_eq_false_iff_not] at h4; omega
    subst h4
    rw [List.drop_length] at h3
    refine Br.mk (fun h5 => ?_) (fun h5 => ?_) <;> ((conv => whnf); repeat ((first | refine B0 ?_ | refine B1 ?_ | refine D1 ?_ | refine D2 ?_ | refine CallC.r ?_); conv => whnf))
    · have h5 : a.length < b.length := by simp only [List.length_map, decide_eq_true_eq] at h5; omega
      rw [List.drop_eq_getElem_cons h5] at h3
      exact ResOK.same (by rw [← h3]; rfl)
    · have h5 : b.length ≤ a.length := by simp only [List.length_map, decide_eq_false_iff_not] at h5; omega
      rw [List.drop_of_length_le h5] at h3
      exact ResOK.same (by rw [← h3]; rfl)
theorem s_OrInt (a b : Int) : Sat Tryz.prog 289 [(false, [.slice 1 [[.int .i64 a], [.int .i64 b]]])] (.one (.c (.int .i64 (if a ≠ 0 then a else b))), []) := by
  refine Sat.intro tok mixed Tryz.func289 rfl rfl ?_
  ((conv => whnf); repeat ((first | refine B0 ?_ | refine B1 ?_ | refine D1 ?_ | refine D2 ?_ | refine CallC.r ?_); conv => whnf))
  refine Pick.mk [3, 6, 7, 8] trivial ?_
  ((conv => whnf); repeat ((first | refine B0 ?_ | refine B1 ?_ | refine D1 ?_ | refine D2 ?_ | refine CallC.r ?_); conv => whnf))
  refine LoopL.over (fun (i : Nat) => [(8, .one (.c (.int .i64 ((i : Int)))))]) (fun (i : Nat) => []) (fun (i : Nat) => 2 - i) (fun (i : Nat) => i ≤ 2 ∧ (1 ≤ i → a = 0) ∧ (2 ≤ i → b = 0)) ?_ 0 ⟨by omega, by omega, by omega⟩
  intro i ⟨h1, h2, h3⟩ ih
  ((conv => whnf); repeat ((first | refine B0 ?_ | refine B1 ?_ | refine D1 ?_ | refine D2 ?_ | refine CallC.r ?_); conv => whnf))
  refine Br.mk (fun h => ?_) (fun h => ?_) <;> ((conv => whnf); repeat ((first | refine B0 ?_ | refine B1 ?_ | refine D1 ?_ | refine D2 ?_ | refine CallC.r ?_); conv => whnf))
  · have h : i < 2 := by simp at h; omega
    by_cases e : i = 0
    · subst e
      refine Pick.mk [.int .i64 a] ⟨by omega, rfl⟩ ?_
      ((conv => whnf); repeat ((first | refine B0 ?_ | refine B1 ?_ | refine D1 ?_ | refine D2 ?_ | refine CallC.r ?_); conv => whnf))
      refine Br.mk (fun h5 => ?_) (fun h5 => ?_) <;> ((conv => whnf); repeat ((first | refine B0 ?_ | refine B1 ?_ | refine D1 ?_ | refine D2 ?_ | refine CallC.r ?_); conv => whnf))
      · exact ResOK.same (by rw [if_pos (by simpa using h5)])
      · refine Pick.at64 (z := (0 + 1 : Nat)) (by simp) (by omega) ?_
        ((conv => whnf); repeat ((first | refine B0 ?_ | refine B1 ?_ | refine D1 ?_ | refine D2 ?_ | refine CallC.r ?_); conv => whnf))
        exact ih 1 ⟨by omega, fun _ => by simpa using h5, by omega⟩ (by omega)
    · obtain rfl : i = 1 := by omega
      refine Pick.mk [.int .i64 b] ⟨by omega, rfl⟩ ?_
      ((conv => whnf); repeat ((first | refine B0 ?_ | refine B1 ?_ | refine D1 ?_ | refine D2 ?_ | refine CallC.r ?_); conv => whnf))
      have ha : a = 0 := h2 (by omega)
      refine Br.mk (fun h5 => ?_) (fun h5 => ?_) <;> ((conv => whnf); repeat ((first | refine B0 ?_ | refine B1 ?_ | refine D1 ?_ | refine D2 ?_ | refine CallC.r ?_); conv => whnf))
      · exact ResOK.same (by rw [if_neg (by omega)])
      · refine Pick.at64 (z := (1 + 1 : Nat)) (by simp) (by omega) ?_
        ((conv => whnf); repeat ((first | refine B0 ?_ | refine B1 ?_ | refine D1 ?_ | refine D2 ?_ | refine CallC.r ?_); conv => whnf))
        exact ih 2 ⟨by omega, fun _ => ha, fun _ => by simpa using h5⟩ (by omega)
  · have h : i = 2 := by have : ¬ (i : Int) < 2 := by simpa using h
                         omega
    subst h
    have ha := h2 (by omega)
    have hb := h3 (by omega)
    exact ResOK.same (by rw [if_neg (by omega), hb])
theorem s_compareSimplices (a b : List Int) (ha : a.length ≤ 1048576) : Sat Tryz.prog 233 [(false, Enc.enc a), (false, Enc.enc b)] (.one (.c (.int .i64 (cmpS a b))), []) := by
  have hl : ((a.map (Enc.enc (α := Int))).length : Int) = a.length := by simp
  have hl2 : ((b.map (Enc.enc (α := Int))).length : Int) = b.length := by simp
  refine Sat.intro tok mixed Tryz.func233 rfl rfl ?_
  ((conv => whnf); repeat ((first | refine B0 ?_ | refine B1 ?_ | refine D1 ?_ | refine D2 ?_ | refine CallC.r ?_); conv => whnf))
  rw [hl, hl2]
  refine Pick.mk _ (s_CompareInt a.length b.length) ?_
  ((conv => whnf); repeat ((first | refine B0 ?_ | refine B1 ?_ | refine D1 ?_ | refine D2 ?_ | refine CallC.r ?_); conv => whnf))
  refine Pick.mk _ (s_CompareInts a b ha) ?_
  ((conv => whnf); repeat ((first | refine B0 ?_ | refine B1 ?_ | refine D1 ?_ | refine D2 ?_ | refine CallC.r ?_); conv => whnf))
  refine Pick.mk _ (s_OrInt (cmpI a.length b.length) (cmpL a b)) ?_
  ((conv => whnf); repeat ((first | refine B0 ?_ | refine B1 ?_ | refine D1 ?_ | refine D2 ?_ | refine CallC.r ?_); conv => whnf))
  exact ResOK.same rfl

theorem s_BinarySearchInts (xs : List (List Int)) (t : List Int) (g : Nat) (c : List Int → Int) (hb : xs.length ≤ 1048576) (hp : ∀ x ∈ xs, Sat Tryz.prog g [(false, Enc.enc x), (false, Enc.enc t)] (.one (.c (.int .i64 (c x))), []))
    (hm : ∀ (i j : Nat) (hi : i < xs.length) (hj : j < xs.length), i ≤ j → c xs[j] < 0 → c xs[i] < 0) :
    Sat Tryz.prog 293 [(false, Enc.enc xs), (false, Enc.enc t), (false, [.fn g []])] (.tup [(false, [.c (.int .i64 (posOf c xs))]), (false, [.c (.bool (hitOf c xs))])], []) := by
  have hl : (xs.map (Enc.enc (α := List Int))).length = xs.length := by simp
  refine Sat.intro tok mixed Tryz.func293 rfl rfl ?_
  ((conv => whnf); repeat ((first | refine B0 ?_ | refine B1 ?_ | refine D1 ?_ | refine D2 ?_ | refine CallC.r ?_); conv => whnf))
  refine Pick.mk [0, 1, 2, 8, 9, 10] trivial ?_
  ((conv => whnf); repeat ((first | refine B0 ?_ | refine B1 ?_ | refine D1 ?_ | refine D2 ?_ | refine CallC.r ?_); conv => whnf))
  refine LoopL.run (fun p : Nat × Nat => St.mk [.one (.c (.slice 1 (xs.map Enc.enc))), .one (.c (.slice 1 (t.map Enc.enc))), .one (.c (.fn g [])), .one .dead, .one .dead, .one .dead, .one .dead, .one .dead, .one (.c (.int .i64 (xs.map (Enc.enc (α := List Int))).length)), .one (.c (.int .i64 p.1)), .one (.c (.int .i64 p.2)), .one .dead, .one .dead, .one .dead, .one .dead, .one .dead, .one .dead, .one .dead, .one .dead, .one .dead, .one .dead, .one .dead, .one .dead, .one .dead, .one .dead, .one .dead, .one .dead, .one .dead, .one .dead, .one .dead, .one .dead, .one .dead, .one .dead, .one .dead, .one .dead, .one .dead, .one .dead, .one .dead, .one .dead, .one .dead, .one .dead, .one .dead, .one .dead, .one .dead, .one .dead, .one .dead, .one .dead, .one .dead, .one .dead] []) (fun p => p.2 - p.1)
    (fun p => p.1 ≤ p.2 ∧ p.2 ≤ xs.length ∧ (∀ (k : Nat) (h : k < xs.length), k < p.1 → c xs[k] < 0) ∧ (∀ (k : Nat) (h : k < xs.length), p.2 ≤ k → ¬ c xs[k] < 0)) ?_ (0, xs.length) ⟨Nat.zero_le _, Nat.le_refl _, by intros; omega, by intros; omega⟩ (by simp only [hl]; rfl)
  intro ⟨i, j⟩ ⟨h2, h3, h4, h5⟩ ih
  simp only at h2 h3 h4 h5
  ((conv => whnf); repeat ((first | refine B0 ?_ | refine B1 ?_ | refine D1 ?_ | refine D2 ?_ | refine CallC.r ?_); conv => whnf))
  refine Br.mk (fun h => ?_) (fun h => ?_) <;> ((conv => whnf); repeat ((first | refine B0 ?_ | refine B1 ?_ | refine D1 ?_ | refine D2 ?_ | refine CallC.r ?_); conv => whnf))
  · simp at h
    have hh : (i + j) / 2 < xs.length := by omega
    refine Pick.at64 (z := ((i + j : Nat) : Int)) (by simp) (by omega) ?_
    ((conv => whnf); repeat ((first | refine B0 ?_ | refine B1 ?_ | refine D1 ?_ | refine D2 ?_ | refine CallC.r ?_); conv => whnf))
    refine Pick.mk ((i + j : Nat) : Int) (by simp only [IntKind.wrap, IntKind.bits, IntKind.signed]; simp; omega) ?_
    ((conv => whnf); repeat ((first | refine B0 ?_ | refine B1 ?_ | refine D1 ?_ | refine D2 ?_ | refine CallC.r ?_); conv => whnf))
    refine Side.mk (by omega) ?_
    ((conv => whnf); repeat ((first | refine B0 ?_ | refine B1 ?_ | refine D1 ?_ | refine D2 ?_ | refine CallC.r ?_); conv => whnf))
    refine Pick.at64 (z := (((i + j) / 2 : Nat) : Int)) (by
      show (((i + j : Nat) : Int)).fdiv 2 = _
      rw [Int.fdiv_eq_ediv_of_nonneg _ (by omega)]; omega) (by omega) ?_
    ((conv => whnf); repeat ((first | refine B0 ?_ | refine B1 ?_ | refine D1 ?_ | refine D2 ?_ | refine CallC.r ?_); conv => whnf))
    refine Pick.ix hh ?_
    ((conv => whnf); repeat ((first | refine B0 ?_ | refine B1 ?_ | refine D1 ?_ | refine D2 ?_ | refine CallC.r ?_); conv => whnf))
    refine Pick.mk _ (hp xs[(i + j) / 2] (List.getElem_mem hh)) ?_
    ((conv => whnf); repeat ((first | refine B0 ?_ | refine B1 ?_ | refine D1 ?_ | refine D2 ?_ | refine CallC.r ?_); conv => whnf))
    refine Br.mk (fun h6 => ?_) (fun h6 => ?_) <;> ((conv => whnf); repeat ((first | refine B0 ?_ | refine B1 ?_ | refine D1 ?_ | refine D2 ?_ | refine CallC.r ?_); conv => whnf))
    · simp only [decide_eq_true_eq] at h6
      refine Pick.at64 (z := (((i + j) / 2 + 1 : Nat) : Int)) (by omega) (by omega) ?_
      ((conv => whnf); repeat ((first | refine B0 ?_ | refine B1 ?_ | refine D1 ?_ | refine D2 ?_ | refine CallC.r ?_); conv => whnf))
      exact ih ((i + j) / 2 + 1, j) ⟨by simp only []; omega, h3, fun k hk hlt => hm k ((i + j) / 2) hk hh (by simp only [] at hlt; omega) h6, h5⟩ (by simp only []; omega)
    · simp only [decide_eq_false_iff_not] at h6
      exact ih (i, (i + j) / 2) ⟨by simp only []; omega, by simp only []; omega, h4, fun k hk hle h7 => h6 (hm ((i + j) / 2) k hh hk hle h7)⟩ (by simp only []; omega)
  · simp at h
    have hij : i = j := by omega
    subst hij
    have e : posOf c xs = i := posOf_at h3 (fun k hk hlt => h4 k hk hlt) (fun hk => h5 i hk (Nat.le_refl _))
    refine Br.mk (fun h6 => ?_) (fun h6 => ?_) <;> ((conv => whnf); repeat ((first | refine B0 ?_ | refine B1 ?_ | refine D1 ?_ | refine D2 ?_ | refine CallC.r ?_); conv => whnf))
    · simp at h6
      refine Pick.ix h6 ?_
      ((conv => whnf); repeat ((first | refine B0 ?_ | refine B1 ?_ | refine D1 ?_ | refine D2 ?_ | refine CallC.r ?_); conv => whnf))
      refine Pick.mk _ (hp xs[i] (List.getElem_mem h6)) ?_
      ((conv => whnf); repeat ((first | refine B0 ?_ | refine B1 ?_ | refine D1 ?_ | refine D2 ?_ | refine CallC.r ?_); conv => whnf))
      exact ResOK.same (by simp only [hitOf, e, List.getElem?_eq_getElem h6])
    · simp at h6
      exact ResOK.same (by simp only [hitOf, e, List.getElem?_eq_none h6])


theorem s_indexOf (c : Complex) (t : List Int) (ho : OrdS c.simplices) (hb : c.simplices.length ≤ 1048576) (hc : ∀ x ∈ c.simplices, x.length ≤ 1048576) : Sat Tryz.prog 236 [(true, Enc.enc c), (false, Enc.enc t)] (.one (.c (.int .i64 (ixS c.simplices t))), []) := by
  obtain ⟨xs⟩ := c
  simp only at ho hb hc ⊢
  have hh := hitS ho t
  refine Sat.intro tok mixed Tryz.func236 rfl rfl ?_
  ((conv => whnf); repeat ((first | refine B0 ?_ | refine B1 ?_ | refine D1 ?_ | refine D2 ?_ | refine CallC.r ?_); conv => whnf))
  refine Pick.mk _ (s_BinarySearchInts xs t 233 (fun x => cmpS x t) hb (fun x hx => s_compareSimplices x t (hc x hx)) (fun i j hi hj hij h => ordS_mono ho t i j hi hj hij h)) ?_
  ((conv => whnf); repeat ((first | refine B0 ?_ | refine B1 ?_ | refine D1 ?_ | refine D2 ?_ | refine CallC.r ?_); conv => whnf))
  refine Br.mk (fun h => ?_) (fun h => ?_) <;> ((conv => whnf); repeat ((first | refine B0 ?_ | refine B1 ?_ | refine D1 ?_ | refine D2 ?_ | refine CallC.r ?_); conv => whnf))
  · simp only [Bool.not_eq_true'] at h
    rcases hh with h2 | h2
    · rw [h] at h2; cases h2.1
    · exact ResOK.same (by rw [h2.2])
  · simp only [Bool.not_eq_false'] at h
    rcases hh with h2 | h2
    · exact ResOK.same (by rw [h2.2.1])
    · rw [h] at h2; cases h2.1
end Go.Proofs.YtnmoeeneofopcaaGreat.Pi
