/- Names in order; places of names. No statement of the seat is proved here. -/
import Derived.Test.YtjolahiflldepaaDoorPiFSearch
namespace Go.Proofs.YtjolahiflldepaaDoor.Pi
open Go
set_option maxRecDepth 10000
set_option linter.unusedVariables false

theorem bytes_inj {a b : ByteArray} (h : a.toList = b.toList) : a = b := by
  rw [ByteArray.toList_eq, ByteArray.toList_eq] at h
  cases a; cases b
  simp only [ByteArray.mk.injEq]
  exact Array.toList_inj.1 h
theorem allIx_iff {α : Type} {p : Nat → α → Bool} {l : List α} : allIx p 0 l = true ↔ ∀ (i : Nat) (h : i < l.length), p i l[i] = true := by
  constructor
  · intro h i hi
    cases hb : p i l[i] with
    | true => rfl
    | false => rw [allIx_no (i := i) (List.getElem?_eq_getElem hi) (by simpa using hb)] at h; cases h
  · intro h
    refine allIx_yes fun i x hx => ?_
    obtain ⟨hi, rfl⟩ := List.getElem?_eq_some_iff.1 hx
    simpa using h i hi

section
variable {α : Type}
/-- The first of a kind. -/
theorem first_cases (p : α → Bool) (xs : List α) : (firstIx p xs 0 = -1 ∧ xs.find? p = none ∧ ∀ (k : Nat) (h : k < xs.length), p xs[k] = false) ∨ ∃ (k : Nat) (h : k < xs.length), firstIx p xs 0 = k ∧ xs.find? p = some xs[k] ∧ p xs[k] = true ∧ ∀ (j : Nat) (hj : j < xs.length), j < k → p xs[j] = false := by
  have : ∀ (xs : List α) (n : Nat), (firstIx p xs n = -1 ∧ xs.find? p = none ∧ ∀ (k : Nat) (h : k < xs.length), p xs[k] = false) ∨ ∃ (k : Nat) (h : k < xs.length), firstIx p xs n = ((n + k : Nat) : Int) ∧ xs.find? p = some xs[k] ∧ p xs[k] = true ∧ ∀ (j : Nat) (hj : j < xs.length), j < k → p xs[j] = false := fun xs => by
    induction xs with
    | nil => intro n; left; exact ⟨rfl, rfl, fun k h => by simp at h⟩
    | cons x xs ih =>
      intro n
      cases h : p x with
      | true => right; exact ⟨0, by simp, by simp [firstIx, h], by simp [List.find?, h], by simpa using h, fun j _ hj => by omega⟩
      | false =>
        have e2 : firstIx p (x :: xs) n = firstIx p xs (n + 1) := by simp [firstIx, h]
        have e3 : (x :: xs).find? p = xs.find? p := by simp [List.find?, h]
        rw [e2, e3]
        rcases ih (n + 1) with ⟨h1, h2, h3⟩ | ⟨k, hk, h1, h2, h3, h4⟩
        · refine Or.inl ⟨h1, h2, fun k hk => ?_⟩
          cases k with
          | zero => simpa using h
          | succ k => simpa using h3 k (by simpa using hk)
        · refine Or.inr ⟨k + 1, by simpa using hk, by rw [h1]; omega, by simpa using h2, by simpa using h3, fun j hj hlt => ?_⟩
          cases j with
          | zero => simpa using h
          | succ j => simpa using h4 j (by simpa using hj) (by omega)
  have := this xs 0
  simp only [Nat.zero_add] at this
  exact this

theorem name_cases (f : α → ByteArray) (xs : List α) (t : ByteArray) : (atName f xs t = -1 ∧ ∀ (k : Nat) (h : k < xs.length), f xs[k] ≠ t) ∨ ∃ (k : Nat) (h : k < xs.length), atName f xs t = k ∧ f xs[k] = t := by
  rcases first_cases (fun x => (f x).toList == t.toList) xs with ⟨h1, _, h3⟩ | ⟨k, hk, h1, _, h3, _⟩
  · refine Or.inl ⟨h1, fun k hk e => ?_⟩
    have := h3 k hk
    simp [e] at this
  · exact Or.inr ⟨k, hk, h1, bytes_inj (by simpa using h3)⟩

theorem ord_inj {f : α → ByteArray} {xs : List α} (ho : Ord f xs) {i j : Nat} (hi : i < xs.length) (hj : j < xs.length) (e : f xs[i] = f xs[j]) : i = j := by
  by_cases h1 : i < j
  · have := ho i j hi hj h1
    rw [e, less_irrefl] at this; cases this
  · by_cases h2 : j < i
    · have := ho j i hj hi h2
      rw [e, less_irrefl] at this; cases this
    · omega
theorem name_at {f : α → ByteArray} {xs : List α} (ho : Ord f xs) {i : Nat} (hi : i < xs.length) : atName f xs (f xs[i]) = i := by
  rcases name_cases f xs (f xs[i]) with ⟨_, h⟩ | ⟨k, hk, h1, h2⟩
  · exact absurd rfl (h i hi)
  · rw [h1, ord_inj ho hk hi h2]
end

/-- Ordered names among others that are ordered are not more. -/
theorem ord_sub : ∀ {B A : List ByteArray}, Ord id A → Ord id B → (∀ a ∈ A, a ∈ B) → A.length ≤ B.length
  | [], [], _, _, _ => Nat.le_refl _
  | [], a :: A, _, _, h => by have := h a (by simp); simp at this
  | b :: B, [], _, _, _ => by simp
  | b :: B, a :: A, hA, hB, h => by
    have hA' : Ord id A := fun i j hi hj hlt => hA (i + 1) (j + 1) (Nat.succ_lt_succ hi) (Nat.succ_lt_succ hj) (by omega)
    have hB' : Ord id B := fun i j hi hj hlt => hB (i + 1) (j + 1) (Nat.succ_lt_succ hi) (Nat.succ_lt_succ hj) (by omega)
    have up : ∀ x ∈ A, less a x = true := fun x hx => by
      obtain ⟨i, hi, rfl⟩ := List.mem_iff_getElem.1 hx
      exact hA 0 (i + 1) (by simp) (Nat.succ_lt_succ hi) (by omega)
    have upB : ∀ x ∈ B, less b x = true := fun x hx => by
      obtain ⟨i, hi, rfl⟩ := List.mem_iff_getElem.1 hx
      exact hB 0 (i + 1) (by simp) (Nat.succ_lt_succ hi) (by omega)
    have ha := h a (by simp)
    have hsub : ∀ x ∈ A, x ∈ B := fun x hx => by
      have h1 := h x (by simp [hx])
      rcases List.mem_cons.1 h1 with e | h1
      · subst e
        have h2 := up _ hx
        rcases List.mem_cons.1 ha with e | ha
        · subst e; rw [less_irrefl] at h2; cases h2
        · have := less_trans h2 (upB _ ha)
          rw [less_irrefl] at this; cases this
      · exact h1
    have := ord_sub hA' hB' hsub
    simpa using this

def nameStep (xs : List ByteArray) (i : Nat) (x : ByteArray) : Bool := isName x && (decide (i = 0) || match xs[i - 1]? with | some y => less y x | none => true)
def okNames (xs : List ByteArray) : Bool := allIx (nameStep xs) 0 xs
theorem okNames_iff {xs : List ByteArray} : okNames xs = true ↔ Ord id xs ∧ ∀ x ∈ xs, isName x = true := by
  unfold okNames
  rw [allIx_iff]
  constructor
  · intro h
    refine ⟨ord_of_steps fun i hi => ?_, fun x hx => ?_⟩
    · have := h (i + 1) hi
      have e : xs[i]? = some (xs[i]'(by omega)) := List.getElem?_eq_getElem (by omega)
      simp only [nameStep, Bool.and_eq_true, Nat.add_sub_cancel, e] at this
      simpa using this.2
    · obtain ⟨i, hi, rfl⟩ := List.mem_iff_getElem.1 hx
      have := h i hi
      simp only [nameStep, Bool.and_eq_true] at this
      exact this.1
  · intro ⟨h1, h2⟩ i hi
    have e3 := h2 _ (List.getElem_mem hi)
    cases i with
    | zero => simp [nameStep, e3]
    | succ i =>
      have e : xs[i]? = some (xs[i]'(by omega)) := List.getElem?_eq_getElem (by omega)
      have := h1 i (i + 1) (by omega) hi (by omega)
      simp only [id] at this
      simp only [nameStep, Bool.and_eq_true, Nat.add_sub_cancel, e, e3, this, Bool.or_true, and_self]

theorem s_areNames (xs : List ByteArray) (o : Enc.ok xs) (n : Int) : Sat Tryd.prog 66 [(false, Enc.enc xs), (false, [.int .i64 n])] (.one (.c (.bool (okNames xs && decide ((xs.length : Int) ≤ n)))), []) := by
  obtain ⟨o1, o2⟩ := o
  simp only [maxLen] at o1
  have hl : (xs.map (Enc.enc (α := ByteArray))).length = xs.length := by simp
  refine Sat.intro tok mixed Tryd.func66 rfl rfl ?_
  ((conv => whnf); repeat ((first | refine B0 ?_ | refine B1 ?_ | refine D1 ?_ | refine D2 ?_ | refine CallC.r ?_); conv => whnf))
  refine Pick.mk [0, 1, 7, 8, 9] trivial ?_
  ((conv => whnf); repeat ((first | refine B0 ?_ | refine B1 ?_ | refine D1 ?_ | refine D2 ?_ | refine CallC.r ?_); conv => whnf))
  refine LoopL.run (fun i : Nat => St.mk [.one (.c (.slice 1 (xs.map Enc.enc))), .one (.c (.int .i64 n)), .one .dead, .one .dead, .one .dead, .one .dead, .one .dead, .one (.c (.slice 1 (xs.map Enc.enc))), .one (.c (.int .i64 (xs.map (Enc.enc (α := ByteArray))).length)), .one (.c (.int .i64 i)), .one .dead, .one .dead, .one .dead, .one .dead, .one .dead, .one .dead, .one .dead, .one .dead, .one .dead, .one .dead, .one .dead, .one .dead, .one .dead, .one .dead, .one .dead, .one .dead, .one .dead, .one .dead, .one .dead, .one .dead, .one .dead, .one .dead, .one .dead, .one .dead, .one .dead] []) (fun i => xs.length - i) (fun i => i ≤ xs.length ∧ ∀ (j : Nat) (x : ByteArray), j < i → xs[j]? = some x → nameStep xs j x = true) ?_ 0 ⟨Nat.zero_le _, by intros; omega⟩
  intro i ⟨h3, h4⟩ ih
  ((conv => whnf); repeat ((first | refine B0 ?_ | refine B1 ?_ | refine D1 ?_ | refine D2 ?_ | refine CallC.r ?_); conv => whnf))
  refine Br.mk (fun h => ?_) (fun h => ?_) <;> ((conv => whnf); repeat ((first | refine B0 ?_ | refine B1 ?_ | refine D1 ?_ | refine D2 ?_ | refine CallC.r ?_); conv => whnf))
  · simp at h
    have no : nameStep xs i xs[i] = false → (okNames xs && decide ((xs.length : Int) ≤ n)) = false := fun hok => by
      have e : allIx (nameStep xs) 0 xs = false := allIx_no (i := i) (List.getElem?_eq_getElem h) (by simpa using hok)
      simp [okNames, e]
    have next : nameStep xs i xs[i] = true → ∀ (j : Nat) (x : ByteArray), j < i + 1 → xs[j]? = some x → nameStep xs j x = true := fun ok j x hj hx => by
      by_cases hji : j < i
      · exact h4 j x hji hx
      · obtain rfl : j = i := by omega
        rw [List.getElem?_eq_getElem h] at hx
        cases hx
        exact ok
    refine Pick.ix h ?_
    ((conv => whnf); repeat ((first | refine B0 ?_ | refine B1 ?_ | refine D1 ?_ | refine D2 ?_ | refine CallC.r ?_); conv => whnf))
    refine Pick.mk _ (s_IsName xs[i] (o2 _ (List.getElem_mem h))) ?_
    ((conv => whnf); repeat ((first | refine B0 ?_ | refine B1 ?_ | refine D1 ?_ | refine D2 ?_ | refine CallC.r ?_); conv => whnf))
    refine Br.mk (fun h5 => ?_) (fun h5 => ?_) <;> ((conv => whnf); repeat ((first | refine B0 ?_ | refine B1 ?_ | refine D1 ?_ | refine D2 ?_ | refine CallC.r ?_); conv => whnf))
    · exact ResOK.same (by rw [no (by simp at h5; simp [nameStep, h5])])
    have h5 : isName xs[i] = true := by simpa using h5
    refine Br.mk (fun h6 => ?_) (fun h6 => ?_) <;> ((conv => whnf); repeat ((first | refine B0 ?_ | refine B1 ?_ | refine D1 ?_ | refine D2 ?_ | refine CallC.r ?_); conv => whnf))
    · simp at h6
      refine Pick.at64 (z := (i - 1 : Nat)) (by omega) (by omega) ?_
      ((conv => whnf); repeat ((first | refine B0 ?_ | refine B1 ?_ | refine D1 ?_ | refine D2 ?_ | refine CallC.r ?_); conv => whnf))
      refine Pick.ix (i := i - 1) (by omega) ?_
      ((conv => whnf); repeat ((first | refine B0 ?_ | refine B1 ?_ | refine D1 ?_ | refine D2 ?_ | refine CallC.r ?_); conv => whnf))
      have e1 : xs[i - 1]? = some (xs[i - 1]'(by omega)) := List.getElem?_eq_getElem (by omega)
      have e2 := bytesLess_total (xs[i - 1]'(by omega)).toList xs[i].toList
      refine Br.mk (fun h7 => ?_) (fun h7 => ?_) <;> ((conv => whnf); repeat ((first | refine B0 ?_ | refine B1 ?_ | refine D1 ?_ | refine D2 ?_ | refine CallC.r ?_); conv => whnf))
      · have h7 : (!less (xs[i - 1]'(by omega)) xs[i]) = true := e2.trans h7
        exact ResOK.same (by rw [no (by simp only [nameStep, e1]; simp at h7; simp [h5, h7]; omega)])
      · have h7 : (!less (xs[i - 1]'(by omega)) xs[i]) = false := e2.trans h7
        refine Pick.at64 (z := (i + 1 : Nat)) (by simp) (by omega) ?_
        ((conv => whnf); repeat ((first | refine B0 ?_ | refine B1 ?_ | refine D1 ?_ | refine D2 ?_ | refine CallC.r ?_); conv => whnf))
        exact ih (i + 1) ⟨by omega, next (by simp only [nameStep, e1]; simp at h7; simp [h5, h7])⟩ (by omega)
    · simp at h6
      refine Pick.at64 (z := (i + 1 : Nat)) (by simp) (by omega) ?_
      ((conv => whnf); repeat ((first | refine B0 ?_ | refine B1 ?_ | refine D1 ?_ | refine D2 ?_ | refine CallC.r ?_); conv => whnf))
      exact ih (i + 1) ⟨by omega, next (by subst h6; simpa [nameStep] using h5)⟩ (by omega)
  · simp at h
    have e : okNames xs = true := allIx_yes fun j x hx => by
      have : j < xs.length := (List.getElem?_eq_some_iff.1 hx).1
      rw [Nat.zero_add]
      exact h4 j x (by omega) hx
    exact ResOK.same (by rw [e, hl]; rfl)

theorem s_IndexString (xs : List ByteArray) (v : ByteArray) (hb : xs.length ≤ maxLen) : Sat Tryd.prog 86 [(false, Enc.enc xs), (false, [.str v])] (.one (.c (.int .i64 (firstIx (fun x => v.toList == x.toList) xs 0))), []) := by
  simp only [maxLen] at hb
  have hl : (xs.map (Enc.enc (α := ByteArray))).length = xs.length := by simp
  refine Sat.intro tok mixed Tryd.func86 rfl rfl ?_
  ((conv => whnf); repeat ((first | refine B0 ?_ | refine B1 ?_ | refine D1 ?_ | refine D2 ?_ | refine CallC.r ?_); conv => whnf))
  refine Pick.mk [0, 1, 7, 8] trivial ?_
  ((conv => whnf); repeat ((first | refine B0 ?_ | refine B1 ?_ | refine D1 ?_ | refine D2 ?_ | refine CallC.r ?_); conv => whnf))
  refine LoopL.run (fun i : Nat => St.mk [.one (.c (.slice 1 (xs.map Enc.enc))), .one (.c (.str v)), .one .dead, .one .dead, .one .dead, .one .dead, .one .dead, .one (.c (.int .i64 (xs.map (Enc.enc (α := ByteArray))).length)), .one (.c (.int .i64 i)), .one .dead, .one .dead, .one .dead, .one .dead, .one .dead, .one .dead, .one .dead, .one .dead, .one .dead, .one .dead] []) (fun i => xs.length - i) (fun i => i ≤ xs.length ∧ ∀ (j : Nat) (h : j < xs.length), j < i → (v.toList == xs[j].toList) = false) ?_ 0 ⟨Nat.zero_le _, by intros; omega⟩
  intro i ⟨h2, h3⟩ ih
  ((conv => whnf); repeat ((first | refine B0 ?_ | refine B1 ?_ | refine D1 ?_ | refine D2 ?_ | refine CallC.r ?_); conv => whnf))
  refine Br.mk (fun h => ?_) (fun h => ?_) <;> ((conv => whnf); repeat ((first | refine B0 ?_ | refine B1 ?_ | refine D1 ?_ | refine D2 ?_ | refine CallC.r ?_); conv => whnf))
  · simp at h
    refine Pick.ix h ?_
    ((conv => whnf); repeat ((first | refine B0 ?_ | refine B1 ?_ | refine D1 ?_ | refine D2 ?_ | refine CallC.r ?_); conv => whnf))
    refine Br.mk (fun h5 => ?_) (fun h5 => ?_) <;> ((conv => whnf); repeat ((first | refine B0 ?_ | refine B1 ?_ | refine D1 ?_ | refine D2 ?_ | refine CallC.r ?_); conv => whnf))
    · exact ResOK.same (by rw [firstIx_at h h5 h3, Nat.zero_add])
    · refine Pick.at64 (z := (i + 1 : Nat)) (by simp) (by omega) ?_
      ((conv => whnf); repeat ((first | refine B0 ?_ | refine B1 ?_ | refine D1 ?_ | refine D2 ?_ | refine CallC.r ?_); conv => whnf))
      refine ih (i + 1) ⟨by omega, fun j h1 h6 => ?_⟩ (by omega)
      by_cases hj : j < i
      · exact h3 j h1 hj
      · obtain rfl : j = i := by omega
        exact h5
  · simp at h
    exact ResOK.same (by rw [firstIx_none fun j h1 => h3 j h1 (by omega)])

theorem s_ContainsString (xs : List ByteArray) (v : ByteArray) (hb : xs.length ≤ maxLen) : Sat Tryd.prog 69 [(false, Enc.enc xs), (false, [.str v])] (.one (.c (.bool (xs.any fun x => v.toList == x.toList))), []) := by
  refine Sat.intro tok mixed Tryd.func69 rfl rfl ?_
  ((conv => whnf); repeat ((first | refine B0 ?_ | refine B1 ?_ | refine D1 ?_ | refine D2 ?_ | refine CallC.r ?_); conv => whnf))
  refine Pick.mk _ (s_IndexString xs v hb) ?_
  ((conv => whnf); repeat ((first | refine B0 ?_ | refine B1 ?_ | refine D1 ?_ | refine D2 ?_ | refine CallC.r ?_); conv => whnf))
  exact ResOK.same (by rw [firstIx_any])

end Go.Proofs.YtjolahiflldepaaDoor.Pi
