/- Tables that are valid, rows that fit; the reference and the program. No statement of the seat is proved here. -/
import Derived.Test.YtnmoeeneofopcaaGreatPiTab
import Derived.Test.YtnmoeeneofopcaaGreatPiFBud
namespace Go.Proofs.YtnmoeeneofopcaaGreat.Pi
open Go
set_option maxRecDepth 10000
set_option maxHeartbeats 1600000
set_option linter.unusedVariables false

theorem s_IndexFuncTable (xs : List Table) (g : Nat) (caps : List CV) (p : Table → Bool) (hb : xs.length ≤ maxLen) (hp : ∀ x ∈ xs, Sat Tryz.prog g ((true, Enc.enc x) :: caps.map fun y => (false, [y])) (.one (.c (.bool (p x))), [])) :
    Sat Tryz.prog 304 [(false, Enc.enc xs), (false, [.fn g caps])] (.one (.c (.int .i64 (firstIx p xs 0))), []) := by
  simp only [maxLen] at hb
  refine Sat.intro tok mixed Tryz.func304 rfl rfl ?_
  ((conv => whnf); repeat ((first | refine B0 ?_ | refine B1 ?_ | refine D1 ?_ | refine D2 ?_ | refine CallC.r ?_); conv => whnf))
  refine Pick.mk [0, 1, 7, 8] trivial ?_
  ((conv => whnf); repeat ((first | refine B0 ?_ | refine B1 ?_ | refine D1 ?_ | refine D2 ?_ | refine CallC.r ?_); conv => whnf))
  refine LoopL.over (fun (i : Nat) => [(8, .one (.c (.int .i64 ((i : Int)))))]) (fun (i : Nat) => []) (fun (i : Nat) => xs.length - i) (fun (i : Nat) => i ≤ xs.length ∧ ∀ (j : Nat) (h : j < xs.length), j < i → p xs[j] = false) ?_ 0 ⟨Nat.zero_le _, by intros; omega⟩
  intro i ⟨h2, h3⟩ ih
  ((conv => whnf); repeat ((first | refine B0 ?_ | refine B1 ?_ | refine D1 ?_ | refine D2 ?_ | refine CallC.r ?_); conv => whnf))
  refine Br.mk (fun h => ?_) (fun h => ?_) <;> ((conv => whnf); repeat ((first | refine B0 ?_ | refine B1 ?_ | refine D1 ?_ | refine D2 ?_ | refine CallC.r ?_); conv => whnf))
  · have h : i < xs.length := by simp only [List.length_map, decide_eq_true_eq] at h; omega
    refine Pick.ix (h) ?_
    ((conv => whnf); repeat ((first | refine B0 ?_ | refine B1 ?_ | refine D1 ?_ | refine D2 ?_ | refine CallC.r ?_); conv => whnf))
    refine Pick.mk _ (hp xs[i] (List.getElem_mem h)) ?_
    ((conv => whnf); repeat ((first | refine B0 ?_ | refine B1 ?_ | refine D1 ?_ | refine D2 ?_ | refine CallC.r ?_); conv => whnf))
    refine Br.mk (fun h5 => ?_) (fun h5 => ?_) <;> ((conv => whnf); repeat ((first | refine B0 ?_ | refine B1 ?_ | refine D1 ?_ | refine D2 ?_ | refine CallC.r ?_); conv => whnf))
    · exact ResOK.same (by rw [firstIx_at h h5 h3, Nat.zero_add])
    · refine Pick.at64 (z := (i + 1 : Nat)) (by simp) (by omega) ?_
      ((conv => whnf); repeat ((first | refine B0 ?_ | refine B1 ?_ | refine D1 ?_ | refine D2 ?_ | refine CallC.r ?_); conv => whnf))
      refine ih (i + 1) ⟨by omega, fun j h1 h6 => ?_⟩ (by omega)
      by_cases hj : j < i
      · exact h3 j h1 hj
      · obtain rfl : j = i := by omega
        exact h5
  · have h : xs.length ≤ i := by simp only [List.length_map, decide_eq_false_iff_not] at h; omega
    exact ResOK.same (by rw [firstIx_none fun j h1 => h3 j h1 (by omega)])
theorem s_ContainsFuncTable (xs : List Table) (g : Nat) (caps : List CV) (p : Table → Bool) (hb : xs.length ≤ maxLen) (hp : ∀ x ∈ xs, Sat Tryz.prog g ((true, Enc.enc x) :: caps.map fun y => (false, [y])) (.one (.c (.bool (p x))), [])) :
    Sat Tryz.prog 255 [(false, Enc.enc xs), (false, [.fn g caps])] (.one (.c (.bool (xs.any p))), []) := by
  refine Sat.intro tok mixed Tryz.func255 rfl rfl ?_
  ((conv => whnf); repeat ((first | refine B0 ?_ | refine B1 ?_ | refine D1 ?_ | refine D2 ?_ | refine CallC.r ?_); conv => whnf))
  refine Pick.mk _ (s_IndexFuncTable xs g caps p hb hp) ?_
  ((conv => whnf); repeat ((first | refine B0 ?_ | refine B1 ?_ | refine D1 ?_ | refine D2 ?_ | refine CallC.r ?_); conv => whnf))
  exact ResOK.same (by rw [firstIx_any])

theorem els8 (xs : List Int) : okEls 8 xs = xs.all okCol := rfl
theorem els4 (xs : List Int) : okEls 4 xs = xs.all okCell := rfl
theorem tab_ok {t : Table} (o : Enc.ok t) : t.columns.length ≤ maxLen ∧ t.rows.length ≤ maxLen ∧ ∀ r ∈ t.rows, r.length ≤ maxLen := ⟨o.1.1, o.2.1, fun r hr => (o.2.2 r hr).1⟩
theorem s_ValidTable (t : Table) (o : Enc.ok t) (hr : ∀ r ∈ t.rows, r.length ≤ 1048576) : Sat Tryz.prog 257 [(true, Enc.enc t)] (.one (.c (.bool (okTable t))), []) := by
  obtain ⟨o1, o2, o3⟩ := tab_ok o
  have o2' := o2
  simp only [maxLen] at o2'
  refine Sat.intro tok mixed Tryz.func257 rfl rfl ?_
  ((conv => whnf); repeat ((first | refine B0 ?_ | refine B1 ?_ | refine D1 ?_ | refine D2 ?_ | refine CallC.r ?_); conv => whnf))
  refine Pick.mk _ (s_isRising t.columns o1) ?_
  ((conv => whnf); repeat ((first | refine B0 ?_ | refine B1 ?_ | refine D1 ?_ | refine D2 ?_ | refine CallC.r ?_); conv => whnf))
  refine Br.mk (fun h1 => ?_) (fun h1 => ?_) <;> ((conv => whnf); repeat ((first | refine B0 ?_ | refine B1 ?_ | refine D1 ?_ | refine D2 ?_ | refine CallC.r ?_); conv => whnf))
  · exact ResOK.same (by simp at h1; simp [okTable, h1])
  refine Pick.mk _ (s_areElements t.columns o1 8 (by omega)) ?_
  ((conv => whnf); repeat ((first | refine B0 ?_ | refine B1 ?_ | refine D1 ?_ | refine D2 ?_ | refine CallC.r ?_); conv => whnf))
  rw [els8]
  refine Br.mk (fun h2 => ?_) (fun h2 => ?_) <;> ((conv => whnf); repeat ((first | refine B0 ?_ | refine B1 ?_ | refine D1 ?_ | refine D2 ?_ | refine CallC.r ?_); conv => whnf))
  · exact ResOK.same (by simp only [Bool.not_eq_true'] at h2; simp only [okTable, h2, Bool.false_and, Bool.and_false])
  simp only [Bool.not_eq_false'] at h1 h2
  refine Br.mk (fun h3 => ?_) (fun h3 => ?_) <;> ((conv => whnf); repeat ((first | refine B0 ?_ | refine B1 ?_ | refine D1 ?_ | refine D2 ?_ | refine CallC.r ?_); conv => whnf))
  · have h3 : ¬ t.rows.length ≤ 24 := by simp only [List.length_map, decide_eq_true_eq] at h3; omega
    exact ResOK.same (by rw [okTable, decide_eq_false h3, Bool.and_false, Bool.and_false, Bool.false_and])
  have h3 : t.rows.length ≤ 24 := by simp only [List.length_map, decide_eq_false_iff_not] at h3; omega
  have e0 : okTable t = allIx (rowStep t) 0 t.rows := by rw [okTable, h1, h2, decide_eq_true h3]; rfl
  rw [e0]
  refine Pick.mk [1, 22, 23, 24] trivial ?_
  ((conv => whnf); repeat ((first | refine B0 ?_ | refine B1 ?_ | refine D1 ?_ | refine D2 ?_ | refine CallC.r ?_); conv => whnf))
  refine LoopL.over (fun (i : Nat) => [(24, .one (.c (.int .i64 ((i : Int)))))]) (fun (i : Nat) => []) (fun (i : Nat) => t.rows.length - i) (fun (i : Nat) => i ≤ t.rows.length ∧ ∀ (j : Nat) (h : j < t.rows.length), j < i → rowStep t j t.rows[j] = true) ?_ 0 ⟨Nat.zero_le _, by intros; omega⟩
  intro i ⟨g1, g2⟩ ih
  ((conv => whnf); repeat ((first | refine B0 ?_ | refine B1 ?_ | refine D1 ?_ | refine D2 ?_ | refine CallC.r ?_); conv => whnf))
  refine Br.mk (fun h => ?_) (fun h => ?_) <;> ((conv => whnf); repeat ((first | refine B0 ?_ | refine B1 ?_ | refine D1 ?_ | refine D2 ?_ | refine CallC.r ?_); conv => whnf))
  · have h : i < t.rows.length := by simp only [List.length_map, decide_eq_true_eq] at h; omega
    have no : rowStep t i t.rows[i] = false → allIx (rowStep t) 0 t.rows = false := fun e => allIx_no (i := i) (List.getElem?_eq_getElem h) (by rw [Nat.zero_add]; exact e)
    have yes : rowStep t i t.rows[i] = true → ∀ (j : Nat) (h : j < t.rows.length), j < i + 1 → rowStep t j t.rows[j] = true := fun e j hj hlt => by
      by_cases e2 : j = i
      · subst e2; exact e
      · exact g2 j hj (by omega)
    refine Pick.ix (h) ?_
    ((conv => whnf); repeat ((first | refine B0 ?_ | refine B1 ?_ | refine D1 ?_ | refine D2 ?_ | refine CallC.r ?_); conv => whnf))
    refine Br.mk (fun h4 => ?_) (fun h4 => ?_) <;> ((conv => whnf); repeat ((first | refine B0 ?_ | refine B1 ?_ | refine D1 ?_ | refine D2 ?_ | refine CallC.r ?_); conv => whnf))
    · have h4 : ¬ t.rows[i].length = t.columns.length := by simp only [List.length_map, bne_iff_ne, ne_eq] at h4; omega
      exact ResOK.same (by rw [no (by rw [rowStep, decide_eq_false h4]; rfl)])
    have h4 : t.rows[i].length = t.columns.length := by simp only [List.length_map, bne_eq_false_iff_eq] at h4; omega
    refine Pick.mk _ (s_areElements t.rows[i] (o3 _ (List.getElem_mem h)) 4 (by omega)) ?_
    ((conv => whnf); repeat ((first | refine B0 ?_ | refine B1 ?_ | refine D1 ?_ | refine D2 ?_ | refine CallC.r ?_); conv => whnf))
    rw [els4]
    refine Br.mk (fun h5 => ?_) (fun h5 => ?_) <;> ((conv => whnf); repeat ((first | refine B0 ?_ | refine B1 ?_ | refine D1 ?_ | refine D2 ?_ | refine CallC.r ?_); conv => whnf))
    · exact ResOK.same (by simp only [Bool.not_eq_true'] at h5; rw [no (by rw [rowStep, h5]; simp)])
    simp only [Bool.not_eq_false'] at h5
    refine Br.mk (fun h6 => ?_) (fun h6 => ?_) <;> ((conv => whnf); repeat ((first | refine B0 ?_ | refine B1 ?_ | refine D1 ?_ | refine D2 ?_ | refine CallC.r ?_); conv => whnf))
    · have h6 : 0 < i := by simp only [decide_eq_true_eq] at h6; omega
      refine Pick.at64 (z := ((i - 1 : Nat) : Int)) (by omega) (by omega) ?_
      ((conv => whnf); repeat ((first | refine B0 ?_ | refine B1 ?_ | refine D1 ?_ | refine D2 ?_ | refine CallC.r ?_); conv => whnf))
      refine Pick.ix ((by omega : i - 1 < t.rows.length)) ?_
      ((conv => whnf); repeat ((first | refine B0 ?_ | refine B1 ?_ | refine D1 ?_ | refine D2 ?_ | refine CallC.r ?_); conv => whnf))
      refine Pick.mk _ (s_CompareInts t.rows[i - 1] t.rows[i] (hr _ (List.getElem_mem _))) ?_
      ((conv => whnf); repeat ((first | refine B0 ?_ | refine B1 ?_ | refine D1 ?_ | refine D2 ?_ | refine CallC.r ?_); conv => whnf))
      have he : rowStep t i t.rows[i] = decide (cmpL t.rows[i - 1] t.rows[i] < 0) := by
        rw [rowStep, h5, decide_eq_true h4]
        have : ¬ i = 0 := by omega
        simp [rowBefore, this, List.getElem?_eq_getElem (by omega : i - 1 < t.rows.length)]
      refine Br.mk (fun h7 => ?_) (fun h7 => ?_) <;> ((conv => whnf); repeat ((first | refine B0 ?_ | refine B1 ?_ | refine D1 ?_ | refine D2 ?_ | refine CallC.r ?_); conv => whnf))
      · exact ResOK.same (by rw [no (by rw [he]; simpa using h7)])
      · refine Pick.at64 (z := (i + 1 : Nat)) (by simp) (by omega) ?_
        ((conv => whnf); repeat ((first | refine B0 ?_ | refine B1 ?_ | refine D1 ?_ | refine D2 ?_ | refine CallC.r ?_); conv => whnf))
        exact ih (i + 1) ⟨by omega, yes (by rw [he]; simpa using h7)⟩ (by omega)
    · have h6 : i = 0 := by simp only [decide_eq_false_iff_not] at h6; omega
      have he : rowStep t i t.rows[i] = true := by
        rw [rowStep, h5, decide_eq_true h4]
        simp [rowBefore, h6]
      refine Pick.at64 (z := (i + 1 : Nat)) (by simp) (by omega) ?_
      ((conv => whnf); repeat ((first | refine B0 ?_ | refine B1 ?_ | refine D1 ?_ | refine D2 ?_ | refine CallC.r ?_); conv => whnf))
      exact ih (i + 1) ⟨by omega, yes he⟩ (by omega)
  · have h : t.rows.length ≤ i := by simp only [List.length_map, decide_eq_false_iff_not] at h; omega
    refine ResOK.same ?_
    have : allIx (rowStep t) 0 t.rows = true := allIx_iff.2 fun j hj => g2 j hj (by omega)
    rw [this]
theorem s_ValidTables1 (t : Table) (o : Enc.ok t) (hr : ∀ r ∈ t.rows, r.length ≤ 1048576) : Sat Tryz.prog 256 ((true, Enc.enc t) :: ([] : List CV).map fun y => (false, [y])) (.one (.c (.bool (!okTable t))), []) := by
  refine Sat.intro tok mixed Tryz.func256 rfl rfl ?_
  ((conv => whnf); repeat ((first | refine B0 ?_ | refine B1 ?_ | refine D1 ?_ | refine D2 ?_ | refine CallC.r ?_); conv => whnf))
  refine Pick.mk _ (s_ValidTable t o hr) ?_
  ((conv => whnf); repeat ((first | refine B0 ?_ | refine B1 ?_ | refine D1 ?_ | refine D2 ?_ | refine CallC.r ?_); conv => whnf))
  exact ResOK.same rfl
theorem s_ValidTables (l : List Table) (o : Enc.ok l) (hr : ∀ t ∈ l, ∀ r ∈ t.rows, r.length ≤ 1048576) : Sat Tryz.prog 178 [(false, Enc.enc l)] (.one (.c (.bool (okTables l))), []) := by
  have hc := s_ContainsFuncTable l 256 [] (fun x => !okTable x) o.1 (fun x hx => s_ValidTables1 x (o.2 x hx) (hr x hx))
  have e : (!(l.any fun x => !okTable x)) = l.all okTable := not_any_not okTable l
  refine Sat.intro tok mixed Tryz.func178 rfl rfl ?_
  ((conv => whnf); repeat ((first | refine B0 ?_ | refine B1 ?_ | refine D1 ?_ | refine D2 ?_ | refine CallC.r ?_); conv => whnf))
  refine Br.mk (fun h1 => ?_) (fun h1 => ?_) <;> ((conv => whnf); repeat ((first | refine B0 ?_ | refine B1 ?_ | refine D1 ?_ | refine D2 ?_ | refine CallC.r ?_); conv => whnf))
  · have h1 : l.length ≤ 6 := by simp only [List.length_map, decide_eq_true_eq] at h1; omega
    refine Pick.mk _ hc ?_
    ((conv => whnf); repeat ((first | refine B0 ?_ | refine B1 ?_ | refine D1 ?_ | refine D2 ?_ | refine CallC.r ?_); conv => whnf))
    exact ResOK.same (by rw [e, okTables, decide_eq_true h1]; rfl)
  · have h1 : ¬ l.length ≤ 6 := by simp only [List.length_map, decide_eq_false_iff_not] at h1; omega
    exact ResOK.same (by rw [okTables, decide_eq_false h1]; rfl)

theorem s_l16Before (a b : List Int) (ha : a.length ≤ 1048576) (hb : b.length ≤ 1048576) : Sat Tryz.prog 267 [(false, Enc.enc a), (false, Enc.enc b)] (.one (.c (.bool (decide (cmpL a b < 0)))), []) := by
  refine Sat.intro tok mixed Tryz.func267 rfl rfl ?_
  ((conv => whnf); repeat ((first | refine B0 ?_ | refine B1 ?_ | refine D1 ?_ | refine D2 ?_ | refine CallC.r ?_); conv => whnf))
  refine Pick.mk [0, 1, 5] trivial ?_
  ((conv => whnf); repeat ((first | refine B0 ?_ | refine B1 ?_ | refine D1 ?_ | refine D2 ?_ | refine CallC.r ?_); conv => whnf))
  refine LoopL.over (fun (i : Nat) => [(5, .one (.c (.int .i64 ((i : Int)))))]) (fun (i : Nat) => []) (fun (i : Nat) => a.length - i) (fun (i : Nat) => i ≤ a.length ∧ i ≤ b.length ∧ cmpL (a.drop i) (b.drop i) = cmpL a b) ?_ 0 ⟨Nat.zero_le _, Nat.zero_le _, by simp⟩
  intro i ⟨h2, h2b, h3⟩ ih
  have fin : (i = a.length ∨ i = b.length) → cmpL a b = cmpI a.length b.length := fun h => by
    rw [← h3]
    rcases h with h | h
    · subst h
      rw [List.drop_length]
      rcases Nat.lt_or_ge a.length b.length with h | h
      · rw [List.drop_eq_getElem_cons h, cmpI, if_pos (by omega)]; rfl
      · rw [List.drop_of_length_le h, cmpI, if_neg (by omega), if_pos (by omega)]; rfl
    · subst h
      rw [List.drop_length]
      rcases Nat.lt_or_ge b.length a.length with h | h
      · rw [List.drop_eq_getElem_cons h, cmpI, if_neg (by omega), if_neg (by omega)]; rfl
      · rw [List.drop_of_length_le h, cmpI, if_neg (by omega), if_pos (by omega)]; rfl
  ((conv => whnf); repeat ((first | refine B0 ?_ | refine B1 ?_ | refine D1 ?_ | refine D2 ?_ | refine CallC.r ?_); conv => whnf))
  refine Br.mk (fun h4 => ?_) (fun h4 => ?_) <;> ((conv => whnf); repeat ((first | refine B0 ?_ | refine B1 ?_ | refine D1 ?_ | refine D2 ?_ | refine CallC.r ?_); conv => whnf))
  · have h4 : i < a.length := by simp only [List.length_map, decide_eq_true_eq] at h4; omega
    refine Br.mk (fun h6 => ?_) (fun h6 => ?_) <;> ((conv => whnf); repeat ((first | refine B0 ?_ | refine B1 ?_ | refine D1 ?_ | refine D2 ?_ | refine CallC.r ?_); conv => whnf))
    · have h6 : i < b.length := by simp only [List.length_map, decide_eq_true_eq] at h6; omega
      rw [cmpL_drop h4 h6] at h3
      refine Pick.ix (h4) ?_
      ((conv => whnf); repeat ((first | refine B0 ?_ | refine B1 ?_ | refine D1 ?_ | refine D2 ?_ | refine CallC.r ?_); conv => whnf))
      refine Pick.ix (h6) ?_
      ((conv => whnf); repeat ((first | refine B0 ?_ | refine B1 ?_ | refine D1 ?_ | refine D2 ?_ | refine CallC.r ?_); conv => whnf))
      refine Br.mk (fun h7 => ?_) (fun h7 => ?_) <;> ((conv => whnf); repeat ((first | refine B0 ?_ | refine B1 ?_ | refine D1 ?_ | refine D2 ?_ | refine CallC.r ?_); conv => whnf))
      · have h7 : a[i] ≠ b[i] := by simpa using h7
        rw [if_pos (by rw [Ne, cmpI_eq]; exact h7)] at h3
        refine Pick.ix (h4) ?_
        ((conv => whnf); repeat ((first | refine B0 ?_ | refine B1 ?_ | refine D1 ?_ | refine D2 ?_ | refine CallC.r ?_); conv => whnf))
        refine Pick.ix (h6) ?_
        ((conv => whnf); repeat ((first | refine B0 ?_ | refine B1 ?_ | refine D1 ?_ | refine D2 ?_ | refine CallC.r ?_); conv => whnf))
        exact ResOK.same (by rw [← h3, show decide (cmpI a[i] b[i] < 0) = decide (a[i] < b[i]) from decide_eq_decide.2 cmpI_lt])
      · have h7 : a[i] = b[i] := by simpa using h7
        rw [if_neg (by rw [Ne, cmpI_eq]; exact fun h => h h7)] at h3
        refine Pick.at64 (z := (i + 1 : Nat)) (by simp) (by omega) ?_
        ((conv => whnf); repeat ((first | refine B0 ?_ | refine B1 ?_ | refine D1 ?_ | refine D2 ?_ | refine CallC.r ?_); conv => whnf))
        exact ih (i + 1) ⟨by omega, by omega, h3⟩ (by omega)
    · have h6 : ¬ (i : Int) < b.length := by simp only [List.length_map, decide_eq_false_iff_not] at h6; omega
      exact ResOK.same (by simp only [List.length_map]; rw [fin (.inr (by omega)), show decide (cmpI a.length b.length < 0) = decide ((a.length : Int) < b.length) from decide_eq_decide.2 cmpI_lt])
  · have h4 : ¬ (i : Int) < a.length := by simp only [List.length_map, decide_eq_false_iff_not] at h4; omega
    exact ResOK.same (by simp only [List.length_map]; rw [fin (.inl (by omega)), show decide (cmpI a.length b.length < 0) = decide ((a.length : Int) < b.length) from decide_eq_decide.2 cmpI_lt])

theorem rises_of {xs : List Int} (p : Int → Bool) : allIx (fun i x => p x && riseStep xs i x) 0 xs = (rises xs && xs.all p) := by
  rw [Bool.eq_iff_iff, Bool.and_eq_true, allIx_iff, rises, allIx_iff, List.all_eq_true]
  simp only [Bool.and_eq_true]
  constructor
  · intro h
    refine ⟨fun i hi => (h i hi).2, fun x hx => ?_⟩
    obtain ⟨i, hi, rfl⟩ := List.getElem_of_mem hx
    exact (h i hi).1
  · intro h i hi
    exact ⟨h.2 _ (List.getElem_mem hi), h.1 i hi⟩

def okRowS (t : Table) (i : Nat) (r : List Int) : Bool := decide (r.length = t.columns.length) && rowBefore t.rows i r
theorem s_l20Ok (t : Table) (o : Enc.ok t) (hr : ∀ r ∈ t.rows, r.length ≤ 1048576) : Sat Tryz.prog 188 [(false, [.ptr 2 (Enc.enc t)])] (.one (.c (.bool (okTable t))), []) := by
  obtain ⟨o1, o2, o3⟩ := tab_ok o
  have o2' := o2
  simp only [maxLen] at o2'
  refine Sat.intro tok mixed Tryz.func188 rfl rfl ?_
  ((conv => whnf); repeat ((first | refine B0 ?_ | refine B1 ?_ | refine D1 ?_ | refine D2 ?_ | refine CallC.r ?_); conv => whnf))
  refine Pick.mk _ (s_l00Rises t.columns 0 7 o1) ?_
  ((conv => whnf); repeat ((first | refine B0 ?_ | refine B1 ?_ | refine D1 ?_ | refine D2 ?_ | refine CallC.r ?_); conv => whnf))
  have er := rises_of (xs := t.columns) okCol
  simp only [okCol] at er
  rw [er]
  refine Br.mk (fun h1 => ?_) (fun h1 => ?_) <;> ((conv => whnf); repeat ((first | refine B0 ?_ | refine B1 ?_ | refine D1 ?_ | refine D2 ?_ | refine CallC.r ?_); conv => whnf))
  · refine ResOK.same ?_
    simp only [Bool.not_eq_true'] at h1
    have : okTable t = false := by
      rw [okTable, ← Bool.and_assoc (rises t.columns), h1]; rfl
    rw [this]
  simp only [Bool.not_eq_false'] at h1
  refine Br.mk (fun h3 => ?_) (fun h3 => ?_) <;> ((conv => whnf); repeat ((first | refine B0 ?_ | refine B1 ?_ | refine D1 ?_ | refine D2 ?_ | refine CallC.r ?_); conv => whnf))
  · have h3 : ¬ t.rows.length ≤ 24 := by simp only [List.length_map, decide_eq_true_eq] at h3; omega
    exact ResOK.same (by rw [okTable, decide_eq_false h3, Bool.and_false, Bool.and_false, Bool.false_and])
  have h3 : t.rows.length ≤ 24 := by simp only [List.length_map, decide_eq_false_iff_not] at h3; omega
  have e0 : okTable t = allIx (rowStep t) 0 t.rows := by
    rw [okTable, ← Bool.and_assoc (rises t.columns), h1, decide_eq_true h3]; rfl
  rw [e0]
  refine Pick.mk [0, 3] trivial ?_
  ((conv => whnf); repeat ((first | refine B0 ?_ | refine B1 ?_ | refine D1 ?_ | refine D2 ?_ | refine CallC.r ?_); conv => whnf))
  refine LoopL.over (fun (i : Nat) => [(3, .one (.c (.int .i64 ((i : Int)))))]) (fun (i : Nat) => []) (fun (i : Nat) => t.rows.length - i) (fun (i : Nat) => i ≤ t.rows.length ∧ ∀ (j : Nat) (h : j < t.rows.length), j < i → rowStep t j t.rows[j] = true) ?_ 0 ⟨Nat.zero_le _, by intros; omega⟩
  intro i ⟨g1, g2⟩ ih
  ((conv => whnf); repeat ((first | refine B0 ?_ | refine B1 ?_ | refine D1 ?_ | refine D2 ?_ | refine CallC.r ?_); conv => whnf))
  refine Br.mk (fun h => ?_) (fun h => ?_) <;> ((conv => whnf); repeat ((first | refine B0 ?_ | refine B1 ?_ | refine D1 ?_ | refine D2 ?_ | refine CallC.r ?_); conv => whnf))
  · have h : i < t.rows.length := by simp only [List.length_map, decide_eq_true_eq] at h; omega
    have no : rowStep t i t.rows[i] = false → allIx (rowStep t) 0 t.rows = false := fun e => allIx_no (i := i) (List.getElem?_eq_getElem h) (by rw [Nat.zero_add]; exact e)
    have yes : rowStep t i t.rows[i] = true → ∀ (j : Nat) (h : j < t.rows.length), j < i + 1 → rowStep t j t.rows[j] = true := fun e j hj hlt => by
      by_cases e2 : j = i
      · subst e2; exact e
      · exact g2 j hj (by omega)
    have hri := hr _ (List.getElem_mem h)
    refine Pick.ix (h) ?_
    ((conv => whnf); repeat ((first | refine B0 ?_ | refine B1 ?_ | refine D1 ?_ | refine D2 ?_ | refine CallC.r ?_); conv => whnf))
    refine Br.mk (fun h4 => ?_) (fun h4 => ?_) <;> ((conv => whnf); repeat ((first | refine B0 ?_ | refine B1 ?_ | refine D1 ?_ | refine D2 ?_ | refine CallC.r ?_); conv => whnf))
    · have h4 : ¬ t.rows[i].length = t.columns.length := by simp only [List.length_map, bne_iff_ne, ne_eq] at h4; omega
      exact ResOK.same (by rw [no (by rw [rowStep, decide_eq_false h4]; rfl)])
    have h4 : t.rows[i].length = t.columns.length := by simp only [List.length_map, bne_eq_false_iff_eq] at h4; omega
    have o3i := o3 _ (List.getElem_mem h)
    refine Br.mk (fun h6 => ?_) (fun h6 => ?_) <;> ((conv => whnf); repeat ((first | refine B0 ?_ | refine B1 ?_ | refine D1 ?_ | refine D2 ?_ | refine CallC.r ?_); conv => whnf))
    · have h6 : 0 < i := by simp only [decide_eq_true_eq] at h6; omega
      refine Pick.at64 (z := ((i - 1 : Nat) : Int)) (by omega) (by omega) ?_
      ((conv => whnf); repeat ((first | refine B0 ?_ | refine B1 ?_ | refine D1 ?_ | refine D2 ?_ | refine CallC.r ?_); conv => whnf))
      refine Pick.ix ((by omega : i - 1 < t.rows.length)) ?_
      ((conv => whnf); repeat ((first | refine B0 ?_ | refine B1 ?_ | refine D1 ?_ | refine D2 ?_ | refine CallC.r ?_); conv => whnf))
      refine Pick.ix (h) ?_
      ((conv => whnf); repeat ((first | refine B0 ?_ | refine B1 ?_ | refine D1 ?_ | refine D2 ?_ | refine CallC.r ?_); conv => whnf))
      refine Pick.mk _ (s_l16Before t.rows[i - 1] t.rows[i] (hr _ (List.getElem_mem _)) (hr _ (List.getElem_mem h))) ?_
      ((conv => whnf); repeat ((first | refine B0 ?_ | refine B1 ?_ | refine D1 ?_ | refine D2 ?_ | refine CallC.r ?_); conv => whnf))
      have he : rowBefore t.rows i t.rows[i] = decide (cmpL t.rows[i - 1] t.rows[i] < 0) := by
        have : ¬ i = 0 := by omega
        simp [rowBefore, this, List.getElem?_eq_getElem (by omega : i - 1 < t.rows.length)]
      refine Br.mk (fun h7 => ?_) (fun h7 => ?_) <;> ((conv => whnf); repeat ((first | refine B0 ?_ | refine B1 ?_ | refine D1 ?_ | refine D2 ?_ | refine CallC.r ?_); conv => whnf))
      · exact ResOK.same (by rw [no (by rw [rowStep, he]; simp only [Bool.not_eq_true'] at h7; rw [h7]; simp)])
      · simp only [Bool.not_eq_false'] at h7
        refine Pick.mk [0, 3, 4] trivial ?_
        ((conv => whnf); repeat ((first | refine B0 ?_ | refine B1 ?_ | refine D1 ?_ | refine D2 ?_ | refine CallC.r ?_); conv => whnf))
        refine LoopL.over (fun (k : Nat) => [(4, .one (.c (.int .i64 ((k : Int)))))]) (fun (k : Nat) => []) (fun (k : Nat) => t.rows[i].length - k) (fun (k : Nat) => k ≤ t.rows[i].length ∧ ∀ (j : Nat) (h9 : j < t.rows[i].length), j < k → okCell t.rows[i][j] = true) ?_ 0 ⟨Nat.zero_le _, by intros; omega⟩
        intro k ⟨f1, f2⟩ ih2
        ((conv => whnf); repeat ((first | refine B0 ?_ | refine B1 ?_ | refine D1 ?_ | refine D2 ?_ | refine CallC.r ?_); conv => whnf))
        refine Pick.ix (h) ?_
        ((conv => whnf); repeat ((first | refine B0 ?_ | refine B1 ?_ | refine D1 ?_ | refine D2 ?_ | refine CallC.r ?_); conv => whnf))
        refine Br.mk (fun h8 => ?_) (fun h8 => ?_) <;> ((conv => whnf); repeat ((first | refine B0 ?_ | refine B1 ?_ | refine D1 ?_ | refine D2 ?_ | refine CallC.r ?_); conv => whnf))
        · have h8 : k < t.rows[i].length := by simp only [List.length_map, decide_eq_true_eq] at h8; omega
          refine Pick.ix (h) ?_
          ((conv => whnf); repeat ((first | refine B0 ?_ | refine B1 ?_ | refine D1 ?_ | refine D2 ?_ | refine CallC.r ?_); conv => whnf))
          refine Pick.ix (h8) ?_
          ((conv => whnf); repeat ((first | refine B0 ?_ | refine B1 ?_ | refine D1 ?_ | refine D2 ?_ | refine CallC.r ?_); conv => whnf))
          refine Pick.mk _ (s_l00In t.rows[i][k] 0 3) ?_
          ((conv => whnf); repeat ((first | refine B0 ?_ | refine B1 ?_ | refine D1 ?_ | refine D2 ?_ | refine CallC.r ?_); conv => whnf))
          have ek : (decide (0 ≤ t.rows[i][k]) && decide (t.rows[i][k] ≤ 3)) = okCell t.rows[i][k] := rfl
          rw [ek]
          refine Br.mk (fun h10 => ?_) (fun h10 => ?_) <;> ((conv => whnf); repeat ((first | refine B0 ?_ | refine B1 ?_ | refine D1 ?_ | refine D2 ?_ | refine CallC.r ?_); conv => whnf))
          · simp only [Bool.not_eq_true'] at h10
            have : t.rows[i].all okCell = false := by
              rw [← Bool.not_eq_true, List.all_eq_true]
              intro hall
              rw [hall _ (List.getElem_mem h8)] at h10; cases h10
            exact ResOK.same (by rw [no (by rw [rowStep, this]; simp)])
          · simp only [Bool.not_eq_false'] at h10
            refine Pick.at64 (z := (k + 1 : Nat)) (by simp) (by omega) ?_
            ((conv => whnf); repeat ((first | refine B0 ?_ | refine B1 ?_ | refine D1 ?_ | refine D2 ?_ | refine CallC.r ?_); conv => whnf))
            refine ih2 (k + 1) ⟨by omega, fun j hj hlt => ?_⟩ (by omega)
            by_cases e2 : j = k
            · subst e2; exact h10
            · exact f2 j hj (by omega)
        · have h8 : k = t.rows[i].length := by simp only [List.length_map, decide_eq_false_iff_not] at h8; omega
          have hall : t.rows[i].all okCell = true := by
            rw [List.all_eq_true]
            intro x hx
            obtain ⟨j, hj, rfl⟩ := List.getElem_of_mem hx
            exact f2 j hj (by omega)
          refine Pick.at64 (z := (i + 1 : Nat)) (by simp) (by omega) ?_
          ((conv => whnf); repeat ((first | refine B0 ?_ | refine B1 ?_ | refine D1 ?_ | refine D2 ?_ | refine CallC.r ?_); conv => whnf))
          exact ih (i + 1) ⟨by omega, yes (by rw [rowStep, hall, decide_eq_true h4, he]; rw [h7]; rfl)⟩ (by omega)
    · have h6 : i = 0 := by simp only [decide_eq_false_iff_not] at h6; omega
      have he : rowBefore t.rows i t.rows[i] = true := by simp [rowBefore, h6]
      refine Pick.mk [0, 3, 4] trivial ?_
      ((conv => whnf); repeat ((first | refine B0 ?_ | refine B1 ?_ | refine D1 ?_ | refine D2 ?_ | refine CallC.r ?_); conv => whnf))
      refine LoopL.over (fun (k : Nat) => [(4, .one (.c (.int .i64 ((k : Int)))))]) (fun (k : Nat) => []) (fun (k : Nat) => t.rows[i].length - k) (fun (k : Nat) => k ≤ t.rows[i].length ∧ ∀ (j : Nat) (h9 : j < t.rows[i].length), j < k → okCell t.rows[i][j] = true) ?_ 0 ⟨Nat.zero_le _, by intros; omega⟩
      intro k ⟨f1, f2⟩ ih2
      ((conv => whnf); repeat ((first | refine B0 ?_ | refine B1 ?_ | refine D1 ?_ | refine D2 ?_ | refine CallC.r ?_); conv => whnf))
      refine Pick.ix (h) ?_
      ((conv => whnf); repeat ((first | refine B0 ?_ | refine B1 ?_ | refine D1 ?_ | refine D2 ?_ | refine CallC.r ?_); conv => whnf))
      refine Br.mk (fun h8 => ?_) (fun h8 => ?_) <;> ((conv => whnf); repeat ((first | refine B0 ?_ | refine B1 ?_ | refine D1 ?_ | refine D2 ?_ | refine CallC.r ?_); conv => whnf))
      · have h8 : k < t.rows[i].length := by simp only [List.length_map, decide_eq_true_eq] at h8; omega
        refine Pick.ix (h) ?_
        ((conv => whnf); repeat ((first | refine B0 ?_ | refine B1 ?_ | refine D1 ?_ | refine D2 ?_ | refine CallC.r ?_); conv => whnf))
        refine Pick.ix (h8) ?_
        ((conv => whnf); repeat ((first | refine B0 ?_ | refine B1 ?_ | refine D1 ?_ | refine D2 ?_ | refine CallC.r ?_); conv => whnf))
        refine Pick.mk _ (s_l00In t.rows[i][k] 0 3) ?_
        ((conv => whnf); repeat ((first | refine B0 ?_ | refine B1 ?_ | refine D1 ?_ | refine D2 ?_ | refine CallC.r ?_); conv => whnf))
        have ek : (decide (0 ≤ t.rows[i][k]) && decide (t.rows[i][k] ≤ 3)) = okCell t.rows[i][k] := rfl
        rw [ek]
        refine Br.mk (fun h10 => ?_) (fun h10 => ?_) <;> ((conv => whnf); repeat ((first | refine B0 ?_ | refine B1 ?_ | refine D1 ?_ | refine D2 ?_ | refine CallC.r ?_); conv => whnf))
        · simp only [Bool.not_eq_true'] at h10
          have : t.rows[i].all okCell = false := by
            rw [← Bool.not_eq_true, List.all_eq_true]
            intro hall
            rw [hall _ (List.getElem_mem h8)] at h10; cases h10
          exact ResOK.same (by rw [no (by rw [rowStep, this]; simp)])
        · simp only [Bool.not_eq_false'] at h10
          refine Pick.at64 (z := (k + 1 : Nat)) (by simp) (by omega) ?_
          ((conv => whnf); repeat ((first | refine B0 ?_ | refine B1 ?_ | refine D1 ?_ | refine D2 ?_ | refine CallC.r ?_); conv => whnf))
          refine ih2 (k + 1) ⟨by omega, fun j hj hlt => ?_⟩ (by omega)
          by_cases e2 : j = k
          · subst e2; exact h10
          · exact f2 j hj (by omega)
      · have h8 : k = t.rows[i].length := by simp only [List.length_map, decide_eq_false_iff_not] at h8; omega
        have hall : t.rows[i].all okCell = true := by
          rw [List.all_eq_true]
          intro x hx
          obtain ⟨j, hj, rfl⟩ := List.getElem_of_mem hx
          exact f2 j hj (by omega)
        refine Pick.at64 (z := (i + 1 : Nat)) (by simp) (by omega) ?_
        ((conv => whnf); repeat ((first | refine B0 ?_ | refine B1 ?_ | refine D1 ?_ | refine D2 ?_ | refine CallC.r ?_); conv => whnf))
        exact ih (i + 1) ⟨by omega, yes (by rw [rowStep, hall, decide_eq_true h4, he]; rfl)⟩ (by omega)
  · have h : t.rows.length ≤ i := by simp only [List.length_map, decide_eq_false_iff_not] at h; omega
    refine ResOK.same ?_
    have : allIx (rowStep t) 0 t.rows = true := allIx_iff.2 fun j hj => g2 j hj (by omega)
    rw [this]
end Go.Proofs.YtnmoeeneofopcaaGreat.Pi
