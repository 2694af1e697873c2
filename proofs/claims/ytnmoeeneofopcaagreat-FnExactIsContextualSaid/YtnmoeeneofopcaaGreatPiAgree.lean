/- Rows in order, each once; tables that agree. No statement of the seat is proved here. -/
import Derived.Test.YtnmoeeneofopcaaGreatPiFCompact
import Derived.Test.YtnmoeeneofopcaaGreatPiFSortF
import Derived.Test.YtnmoeeneofopcaaGreatPiTab
namespace Go.Proofs.YtnmoeeneofopcaaGreat.Pi
open Go
set_option linter.unusedVariables false

def SrtL (xs : List (List Int)) : Prop := xs.Pairwise fun a b => cmpL a b < 0
theorem cmpL_irr (a : List Int) : ¬ cmpL a a < 0 := by rw [cmpL_eq.2 rfl]; omega
theorem cmpL_tot {a b : List Int} (h1 : ¬ cmpL a b < 0) (h2 : a ≠ b) : cmpL b a < 0 := by
  have := cmpL_anti a b
  have : cmpL a b ≠ 0 := fun e => h2 (cmpL_eq.1 e)
  omega
theorem tot_cmpL (x y : List Int) (h1 : ltOf cmpL x y = false) (h2 : ltOf cmpL y x = false) : x = y := by
  have h1 := of_decide_eq_false h1
  have h2 := of_decide_eq_false h2
  have := cmpL_anti x y
  exact cmpL_eq.1 (by omega)
theorem swo_cmpL : Sort.SWO (ltOf cmpL) where
  irrefl x := decide_eq_false (cmpL_irr x)
  trans x y z h1 h2 := decide_eq_true (cmpL_trans (of_decide_eq_true h1) (of_decide_eq_true h2))
  ntrans x y z h1 h2 := decide_eq_false fun h => by
    have h1 := of_decide_eq_false h1
    have h2 := of_decide_eq_false h2
    by_cases e1 : x = y
    · subst e1; exact h2 h
    by_cases e2 : y = z
    · subst e2; exact h1 h
    exact cmpL_irr x (cmpL_trans (cmpL_trans h (cmpL_tot h2 e2)) (cmpL_tot h1 e1))
/-- Rows in order. -/
def srtL (xs : List (List Int)) : List (List Int) := xs.mergeSort fun x y => !(ltOf cmpL) y x
theorem srtL_len (xs : List (List Int)) : (srtL xs).length = xs.length := by simp [srtL]
theorem srtL_mem {xs : List (List Int)} {x : List Int} : x ∈ srtL xs ↔ x ∈ xs := by simp [srtL]
theorem srtL_sorted (xs : List (List Int)) : (srtL xs).Pairwise fun a b => ¬ cmpL b a < 0 := by
  have : (srtL xs).Pairwise fun x y => (!(ltOf cmpL) y x) = true := by
    refine List.pairwise_mergeSort (fun x y z h1 h2 => ?_) (fun x y => ?_) xs
    · simp only [Bool.not_eq_true'] at h1 h2 ⊢
      exact swo_cmpL.ntrans _ _ _ h2 h1
    · simp only [Bool.or_eq_true, Bool.not_eq_true']
      cases h : ltOf cmpL y x with
      | false => exact .inl rfl
      | true => exact .inr (swo_cmpL.asymmA h)
  refine this.imp fun {a b} h => ?_
  simpa [ltOf] using h

theorem ext_sorted : ∀ {a b : List (List Int)}, SrtL a → SrtL b → (∀ x, x ∈ a ↔ x ∈ b) → a = b
  | [], [], _, _, _ => rfl
  | [], y :: b, _, _, h => absurd ((h y).2 (by simp)) (by simp)
  | x :: a, [], _, _, h => absurd ((h x).1 (by simp)) (by simp)
  | x :: a, y :: b, ha, hb, h => by
    obtain ⟨h1, h2⟩ := List.pairwise_cons.1 ha
    obtain ⟨h3, h4⟩ := List.pairwise_cons.1 hb
    have e : x = y := by
      rcases List.mem_cons.1 ((h x).1 (by simp)) with e | e
      · exact e
      rcases List.mem_cons.1 ((h y).2 (by simp)) with e2 | e2
      · exact e2.symm
      exact absurd (cmpL_trans (h3 x e) (h1 y e2)) (cmpL_irr y)
    subst e
    rw [ext_sorted h2 h4 fun z => ?_]
    constructor
    · intro hz
      rcases List.mem_cons.1 ((h z).1 (by simp [hz])) with e | e
      · subst e; exact absurd (h1 z hz) (cmpL_irr z)
      · exact e
    · intro hz
      rcases List.mem_cons.1 ((h z).2 (by simp [hz])) with e | e
      · subst e; exact absurd (h3 z hz) (cmpL_irr z)
      · exact e

/-- The rows in order, each once. -/
theorem cptN_mem {xs : List (List Int)} : ∀ {n : Nat}, n ≤ xs.length → ∀ x, x ∈ cptN xs n ↔ x ∈ xs.take n
  | 0, _, x => by simp [cptN]
  | n + 1, hn, x => by
    have h : n < xs.length := by omega
    have ih := cptN_mem (xs := xs) (n := n) (by omega) x
    have e : xs.getD n [] = xs[n] := by simp [List.getD_eq_getElem?_getD, h]
    rw [cptN_succ, List.take_add_one, List.getElem?_eq_getElem h, Option.toList_some, List.mem_append, List.mem_singleton, ← ih, e]
    split
    · simp
    · rename_i hnew
      by_cases h0 : n = 0
      · exact absurd (by simp [newAt, h0]) hnew
      have h1 : xs[n] = xs[n - 1] := by
        by_cases e : xs[n] = xs[n - 1]
        · exact e
        · exact absurd ((newAt_iff (by omega) h).2 e) hnew
      constructor
      · exact .inl
      · rintro (h2 | h2)
        · exact h2
        · rw [ih, h2, h1]
          exact List.mem_iff_getElem.2 ⟨n - 1, by simp; omega, by simp⟩
theorem cptN_sorted {xs : List (List Int)} (hs : xs.Pairwise fun a b => ¬ cmpL b a < 0) : ∀ {n : Nat}, n ≤ xs.length → SrtL (cptN xs n)
  | 0, _ => by simp [cptN, SrtL]
  | n + 1, hn => by
    have h : n < xs.length := by omega
    have ih := cptN_sorted hs (n := n) (by omega)
    have e : xs.getD n [] = xs[n] := by simp [List.getD_eq_getElem?_getD, h]
    rw [cptN_succ, e]
    split
    · rename_i hnew
      refine List.pairwise_append.2 ⟨ih, by simp, fun y hy z hz => ?_⟩
      simp only [List.mem_singleton] at hz
      subst hz
      rw [cptN_mem (by omega)] at hy
      obtain ⟨i, hi, rfl⟩ := List.getElem_of_mem hy
      have hi2 : i < n := by simp at hi; omega
      rw [List.getElem_take]
      have hne := (newAt_iff (by omega) h).1 hnew
      rw [List.pairwise_iff_getElem] at hs
      have h1 : cmpL xs[n - 1] xs[n] < 0 := cmpL_tot (hs (n - 1) n (by omega) h (by omega)) hne
      by_cases e1 : i = n - 1
      · subst e1; exact h1
      have h2 := hs i (n - 1) (by omega) (by omega) (by omega)
      by_cases e2 : xs[i] = xs[n - 1]
      · rw [e2]; exact h1
      · exact cmpL_trans (cmpL_tot h2 (fun e => e2 e.symm)) h1
    · exact ih
def onceL (xs : List (List Int)) : List (List Int) := cptL (srtL xs)
theorem once_sorted (xs : List (List Int)) : SrtL (onceL xs) := cptN_sorted (srtL_sorted xs) (Nat.le_refl _)
theorem once_mem {xs : List (List Int)} {x : List Int} : x ∈ onceL xs ↔ x ∈ xs := by
  rw [onceL, cptL, cptN_mem (Nat.le_refl _), List.take_length, srtL_mem]

/-- As the reference does: rows are put to their places one after the other. -/
def stepPut (r : List Int) (s : List (List Int) × Bool) (x : List Int) : List (List Int) × Bool :=
  if s.2 = true ∨ x = r then (s.1 ++ [x], true) else if cmpL r x < 0 then (s.1 ++ [r] ++ [x], true) else (s.1 ++ [x], false)
def finPut (r : List Int) (s : List (List Int) × Bool) : List (List Int) := if s.2 = true then s.1 else s.1 ++ [r]
def putR (rows : List (List Int)) (r : List Int) : List (List Int) := finPut r (rows.foldl (stepPut r) ([], false))
theorem put_ok (r : List Int) : ∀ (post out : List (List Int)) (d : Bool), SrtL (out ++ post) → (d = true → r ∈ out) → (d = false → ∀ y ∈ out, cmpL y r < 0) →
    SrtL (finPut r (post.foldl (stepPut r) (out, d))) ∧ ∀ z, z ∈ finPut r (post.foldl (stepPut r) (out, d)) ↔ z ∈ out ∨ z ∈ post ∨ z = r
  | [], out, d, hs, h1, h2 => by
    rw [List.append_nil] at hs
    cases d with
    | true =>
      show SrtL out ∧ ∀ z, z ∈ out ↔ _
      refine ⟨hs, fun z => ⟨.inl, ?_⟩⟩
      rintro (h | h | h)
      · exact h
      · cases h
      · subst h; exact h1 rfl
    | false =>
      show SrtL (out ++ [r]) ∧ ∀ z, z ∈ out ++ [r] ↔ _
      refine ⟨List.pairwise_append.2 ⟨hs, by simp, fun y hy z hz => ?_⟩, fun z => by simp⟩
      simp only [List.mem_singleton] at hz
      subst hz
      exact h2 rfl y hy
  | x :: post, out, d, hs, h1, h2 => by
    obtain ⟨s1, s2, s3⟩ := List.pairwise_append.1 hs
    obtain ⟨s4, s5⟩ := List.pairwise_cons.1 s2
    simp only [List.foldl_cons, stepPut]
    split
    · rename_i hd
      have ih := put_ok r post (out ++ [x]) true (by rw [List.append_assoc]; exact hs) (fun _ => by
        rcases hd with hd | hd
        · exact List.mem_append_left _ (h1 hd)
        · subst hd; simp) (fun h => by cases h)
      exact ⟨ih.1, fun z => by rw [ih.2]; simp only [List.mem_append, List.mem_cons, or_assoc, List.not_mem_nil, false_or]⟩
    · rename_i hd
      have hd1 : d = false := by cases d with | false => rfl | true => exact absurd (.inl rfl) hd
      have hd2 : x ≠ r := fun e => hd (.inr e)
      split
      · rename_i hlt
        have ih := put_ok r post (out ++ [r] ++ [x]) true (by
          rw [List.append_assoc, List.append_assoc]
          refine List.pairwise_append.2 ⟨s1, ?_, fun y hy z hz => ?_⟩
          · refine List.pairwise_cons.2 ⟨fun z hz => ?_, s2⟩
            rcases List.mem_cons.1 hz with e | e
            · subst e; exact hlt
            · exact cmpL_trans hlt (s4 z e)
          · rcases List.mem_cons.1 hz with e | e
            · subst e; exact h2 hd1 y hy
            · exact s3 y hy z e) (fun _ => by simp) (fun h => by cases h)
        refine ⟨ih.1, fun z => ?_⟩
        rw [ih.2]; simp only [List.mem_append, List.mem_cons, or_assoc, List.not_mem_nil, false_or]
        constructor
        · rintro (h | h | h | h | h)
          · exact .inl h
          · exact .inr (.inr (.inr h))
          · exact .inr (.inl h)
          · exact .inr (.inr (.inl h))
          · exact .inr (.inr (.inr h))
        · rintro (h | h | h | h)
          · exact .inl h
          · exact .inr (.inr (.inl h))
          · exact .inr (.inr (.inr (.inl h)))
          · exact .inr (.inl h)
      · rename_i hlt
        have ih := put_ok r post (out ++ [x]) false (by rw [List.append_assoc]; exact hs) (fun h => by cases h) (fun _ y hy => by
          rcases List.mem_append.1 hy with h | h
          · exact h2 hd1 y h
          · simp only [List.mem_singleton] at h
            subst h; exact cmpL_tot hlt (fun e => hd2 e.symm))
        exact ⟨ih.1, fun z => by rw [ih.2]; simp only [List.mem_append, List.mem_cons, or_assoc, List.not_mem_nil, false_or]⟩
theorem putR_ok {rows : List (List Int)} (h : SrtL rows) (r : List Int) : SrtL (putR rows r) ∧ ∀ z, z ∈ putR rows r ↔ z ∈ rows ∨ z = r := by
  have := put_ok r rows [] false (by simpa using h) (fun h => by cases h) (fun _ y hy => by cases hy)
  exact ⟨this.1, fun z => by have h2 := this.2 z; rw [putR, h2]; simp⟩
theorem putAll_ok : ∀ (xs acc : List (List Int)), SrtL acc → SrtL (xs.foldl putR acc) ∧ ∀ z, z ∈ xs.foldl putR acc ↔ z ∈ acc ∨ z ∈ xs
  | [], acc, h => ⟨h, fun z => by simp⟩
  | x :: xs, acc, h => by
    obtain ⟨h1, h2⟩ := putR_ok h x
    obtain ⟨h3, h4⟩ := putAll_ok xs (putR acc x) h1
    exact ⟨h3, fun z => by rw [List.foldl_cons, h4, h2]; simp only [List.mem_cons, or_assoc]⟩
theorem put_once (xs : List (List Int)) : xs.foldl putR [] = onceL xs := by
  obtain ⟨h1, h2⟩ := putAll_ok xs [] (by simp [SrtL])
  exact ext_sorted h1 (once_sorted xs) fun x => by rw [h2, once_mem]; simp
theorem stepPut_len (r : List Int) (s : List (List Int) × Bool) (x : List Int) : (stepPut r s x).1.length ≤ s.1.length + 2 := by
  unfold stepPut; split
  · simp
  · split <;> simp
theorem foldPut_len (r : List Int) : ∀ (xs : List (List Int)) (s : List (List Int) × Bool), (xs.foldl (stepPut r) s).1.length ≤ s.1.length + 2 * xs.length
  | [], s => by simp
  | x :: xs, s => by
    have h1 := foldPut_len r xs (stepPut r s x)
    have h2 := stepPut_len r s x
    simp only [List.foldl_cons, List.length_cons]; omega

/-- A table's cells in some columns. -/
def projRows (t : Table) (cs : List Int) : List (List Int) := t.rows.map fun r => cs.map (cellOf t.columns r)
def agreeT (a b : Table) (cs : List Int) : Bool := decide (onceL (projRows a cs) = onceL (projRows b cs))
/-- The first that does not hold, in a row from 'j'; in a table from 'i'. -/
def rowF (q : Nat → Bool) : Nat → Nat → Option Nat
  | 0, _ => none
  | c + 1, j => if q j = true then some j else rowF q c (j + 1)
def tabF (q : Nat → Nat → Bool) (n : Nat) : Nat → Nat → Option (Nat × Nat)
  | 0, _ => none
  | c + 1, i => match rowF (q i) (n - (i + 1)) (i + 1) with
    | some j => some (i, j)
    | none => tabF q n c (i + 1)
end Go.Proofs.YtnmoeeneofopcaaGreat.Pi
