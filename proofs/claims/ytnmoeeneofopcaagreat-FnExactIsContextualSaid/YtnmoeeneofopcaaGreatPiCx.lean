/- Simplices in order, complexes; plain. No statement of the seat is proved here. -/
import Derived.Test.YtnmoeeneofopcaaGreatPiFNames
namespace Go.Proofs.YtnmoeeneofopcaaGreat.Pi
open Go
set_option linter.unusedVariables false

def cmpI (a b : Int) : Int := if a < b then -1 else if a = b then 0 else 1
theorem cmpI_lt {a b : Int} : cmpI a b < 0 ↔ a < b := by
  unfold cmpI; split
  · omega
  · split <;> omega
theorem cmpI_eq {a b : Int} : cmpI a b = 0 ↔ a = b := by
  unfold cmpI; split
  · omega
  · split <;> omega
theorem cmpI_self (a : Int) : cmpI a a = 0 := cmpI_eq.2 rfl
def cmpL : List Int → List Int → Int
  | [], [] => 0
  | [], _ :: _ => -1
  | _ :: _, [] => 1
  | x :: xs, y :: ys => if cmpI x y ≠ 0 then cmpI x y else cmpL xs ys
theorem cmpL_eq : ∀ {a b : List Int}, cmpL a b = 0 ↔ a = b
  | [], [] => by simp [cmpL]
  | [], _ :: _ => by simp [cmpL]
  | _ :: _, [] => by simp [cmpL]
  | x :: xs, y :: ys => by
    have ih := cmpL_eq (a := xs) (b := ys)
    simp only [cmpL, List.cons.injEq]
    split
    · rename_i h
      exact ⟨fun e => absurd e h, fun e => absurd (cmpI_eq.2 e.1) h⟩
    · rename_i h
      have h : cmpI x y = 0 := Classical.not_not.1 h
      rw [ih]
      exact ⟨fun e => ⟨cmpI_eq.1 h, e⟩, fun e => e.2⟩
theorem cmpL_trans : ∀ {a b c : List Int}, cmpL a b < 0 → cmpL b c < 0 → cmpL a c < 0
  | [], [], c, h, _ => by simp [cmpL] at h
  | _ :: _, [], c, h, _ => by simp [cmpL] at h
  | a, _ :: _, [], _, h => by simp [cmpL] at h
  | [], _ :: _, _ :: _, _, _ => by simp [cmpL]
  | x :: xs, y :: ys, z :: zs, h1, h2 => by
    have ih := cmpL_trans (a := xs) (b := ys) (c := zs)
    simp only [cmpL] at h1 h2 ⊢
    by_cases e1 : x = y
    · subst e1
      rw [if_neg (by simp [cmpI_self])] at h1
      by_cases e2 : x = z
      · subst e2
        rw [if_neg (by simp [cmpI_self])] at h2 ⊢
        exact ih h1 h2
      · rw [if_pos (fun e => e2 (cmpI_eq.1 e))] at h2 ⊢
        exact h2
    · rw [if_pos (fun e => e1 (cmpI_eq.1 e)), cmpI_lt] at h1
      by_cases e2 : y = z
      · subst e2
        rw [if_pos (fun e => e1 (cmpI_eq.1 e)), cmpI_lt]
        exact h1
      · rw [if_pos (fun e => e2 (cmpI_eq.1 e)), cmpI_lt] at h2
        rw [if_pos (fun e => by have := cmpI_eq.1 e; omega), cmpI_lt]
        omega
def cmpS (a b : List Int) : Int := if cmpI a.length b.length ≠ 0 then cmpI a.length b.length else cmpL a b
theorem cmpS_eq {a b : List Int} : cmpS a b = 0 ↔ a = b := by
  unfold cmpS
  split
  · rename_i h
    exact ⟨fun e => absurd e h, fun e => absurd (by rw [e]; exact cmpI_self _) h⟩
  · exact cmpL_eq
theorem cmpS_len {a b : List Int} (h : cmpS a b < 0) : a.length ≤ b.length := by
  unfold cmpS at h
  split at h
  · rw [cmpI_lt] at h; omega
  · rename_i h2
    have := cmpI_eq.1 (Classical.not_not.1 h2); omega
theorem cmpS_trans {a b c : List Int} (h1 : cmpS a b < 0) (h2 : cmpS b c < 0) : cmpS a c < 0 := by
  have l1 := cmpS_len h1
  have l2 := cmpS_len h2
  unfold cmpS at h1 h2 ⊢
  by_cases e1 : a.length = b.length
  · rw [if_neg (by rw [e1]; simp [cmpI_self])] at h1
    by_cases e2 : b.length = c.length
    · rw [if_neg (by rw [e2]; simp [cmpI_self])] at h2
      rw [if_neg (by rw [e1, e2]; simp [cmpI_self])]
      exact cmpL_trans h1 h2
    · rw [if_pos (fun e => by have := cmpI_eq.1 e; omega), cmpI_lt]
      omega
  · rw [if_pos (fun e => by have := cmpI_eq.1 e; omega), cmpI_lt]
    omega

/-- In order. -/
def OrdS (xs : List (List Int)) : Prop := ∀ (i j : Nat) (hi : i < xs.length) (hj : j < xs.length), i < j → cmpS xs[i] xs[j] < 0
theorem ordS_of_steps {xs : List (List Int)} (h : ∀ (i : Nat) (hi : i + 1 < xs.length), cmpS xs[i] xs[i + 1] < 0) : OrdS xs := by
  have : ∀ (d i : Nat) (hi : i < xs.length) (hj : i + 1 + d < xs.length), cmpS xs[i] xs[i + 1 + d] < 0 := fun d => by
    induction d with
    | zero => exact fun i hi hj => h i hj
    | succ d ih => exact fun i hi hj => cmpS_trans (ih i hi (by omega)) (h (i + 1 + d) (by omega))
  intro i j hi hj hlt
  have := this (j - i - 1) i hi (by omega)
  simpa only [show i + 1 + (j - i - 1) = j by omega] using this
theorem OrdS.take {xs : List (List Int)} (h : OrdS xs) (n : Nat) : OrdS (xs.take n) := fun i j hi hj hlt => by
  rw [List.length_take] at hi hj
  have := h i j (by omega) (by omega) hlt
  simpa using this
theorem ordS_mono {xs : List (List Int)} (ho : OrdS xs) (t : List Int) (i j : Nat) (hi : i < xs.length) (hj : j < xs.length) (hij : i ≤ j) (h : cmpS xs[j] t < 0) : cmpS xs[i] t < 0 := by
  by_cases e : i = j
  · subst e; exact h
  · exact cmpS_trans (ho i j hi hj (by omega)) h

/-- Where a list stands, or -1. -/
def ixS (xs : List (List Int)) (t : List Int) : Int := firstIx (fun x => decide (x = t)) xs 0
theorem ixS_cases (xs : List (List Int)) (t : List Int) : (ixS xs t = -1 ∧ ∀ (k : Nat) (h : k < xs.length), xs[k] ≠ t) ∨ ∃ (k : Nat) (h : k < xs.length), ixS xs t = k ∧ xs[k] = t := by
  rcases first_cases (fun x => decide (x = t)) xs with ⟨h1, _, h3⟩ | ⟨k, hk, h1, _, h3⟩
  · exact Or.inl ⟨h1, fun k h e => by have := h3 k h; simp [e] at this⟩
  · refine Or.inr ⟨k, hk, h1, ?_⟩
    have := h3.1
    simpa using this
theorem hitS {xs : List (List Int)} (ho : OrdS xs) (t : List Int) : (hitOf (fun x => cmpS x t) xs = true ∧ ixS xs t = posOf (fun x => cmpS x t) xs ∧ posOf (fun x => cmpS x t) xs < xs.length) ∨ (hitOf (fun x => cmpS x t) xs = false ∧ ixS xs t = -1) := by
  obtain ⟨i, hi, h1, h2⟩ : ∃ i, i ≤ xs.length ∧ (∀ (k : Nat) (h : k < xs.length), k < i → cmpS xs[k] t < 0) ∧ (∀ (h : i < xs.length), ¬ cmpS xs[i] t < 0) := by
    have : ∀ (n : Nat), n ≤ xs.length → (∀ (k : Nat) (h : k < xs.length), k < n → cmpS xs[k] t < 0) → ∃ i, i ≤ xs.length ∧ (∀ (k : Nat) (h : k < xs.length), k < i → cmpS xs[k] t < 0) ∧ (∀ (h : i < xs.length), ¬ cmpS xs[i] t < 0) := fun n => by
      induction hd : xs.length - n generalizing n with
      | zero => intro h1 h2; exact ⟨n, h1, h2, fun h => by omega⟩
      | succ d ih =>
        intro h1 h2
        by_cases hc : cmpS (xs[n]'(by omega)) t < 0
        · refine ih (n + 1) (by omega) (by omega) fun k hk hlt => ?_
          by_cases e : k = n
          · subst e; exact hc
          · exact h2 k hk (by omega)
        · exact ⟨n, h1, h2, fun _ => hc⟩
    exact this 0 (Nat.zero_le _) (by intros; omega)
  have hp := posOf_at (c := fun x => cmpS x t) hi h1 h2
  have hbefore : ∀ (k : Nat) (h : k < xs.length), k < i → decide (xs[k] = t) = false := fun k hk hlt => by
    have := h1 k hk hlt
    cases hb : decide (xs[k] = t) with
    | false => rfl
    | true => rw [cmpS_eq.2 (of_decide_eq_true hb)] at this; omega
  by_cases hlt : i < xs.length
  · by_cases hz : cmpS xs[i] t = 0
    · refine Or.inl ⟨by simp only [hitOf, hp, List.getElem?_eq_getElem hlt]; simpa using hz, ?_, by omega⟩
      rw [hp]
      unfold ixS
      rw [firstIx_at hlt (by simpa using cmpS_eq.1 hz) (fun j hj hji => hbefore j hj hji), Nat.zero_add]
    · refine Or.inr ⟨by simp only [hitOf, hp, List.getElem?_eq_getElem hlt]; simpa using hz, ?_⟩
      unfold ixS
      refine firstIx_none fun j hj => ?_
      by_cases hji : j < i
      · exact hbefore j hj hji
      · cases hb : decide (xs[j] = t) with
        | false => rfl
        | true =>
          exfalso
          have hjt : xs[j] = t := of_decide_eq_true hb
          by_cases e : j = i
          · subst e; exact hz (cmpS_eq.2 hjt)
          · have h3 := ho i j hlt hj (by omega)
            rw [hjt] at h3
            exact h2 hlt h3
  · refine Or.inr ⟨by simp only [hitOf, hp]; rw [List.getElem?_eq_none (by omega)], ?_⟩
    unfold ixS
    exact firstIx_none fun j hj => hbefore j hj (by omega)

def okVert (v : Int) : Bool := decide (0 ≤ v) && decide (v ≤ 9)
def riseStep (xs : List Int) (i : Nat) (x : Int) : Bool := decide (i = 0) || match xs[i - 1]? with | some y => decide (y < x) | none => true
def rises (xs : List Int) : Bool := allIx (riseStep xs) 0 xs
def okSimp (s : List Int) : Bool := (decide (1 ≤ s.length) && decide (s.length ≤ 4)) && (rises s && s.all okVert)
def dropAt (s : List Int) (k : Nat) : List Int := s.take k ++ s.drop (k + 1)
theorem dropAt_len {s : List Int} {k : Nat} (h : k < s.length) : (dropAt s k).length = s.length - 1 := by simp [dropAt]; omega
def facesL (s : List Int) : List (List Int) := if 1 < s.length then (List.range s.length).map (dropAt s) else []
theorem facesL_len (s : List Int) : (facesL s).length = if 1 < s.length then s.length else 0 := by unfold facesL; split <;> simp
theorem facesL_get {s : List Int} {k : Nat} (h1 : 1 < s.length) (h : k < s.length) : (facesL s)[k]? = some (dropAt s k) := by
  unfold facesL; rw [if_pos h1]; simp [h]
theorem facesL_mem {s f : List Int} (h : f ∈ facesL s) : f.length + 1 = s.length := by
  unfold facesL at h
  split at h
  · obtain ⟨k, hk, rfl⟩ := List.mem_map.1 h
    rw [List.mem_range] at hk
    rw [dropAt_len hk]; omega
  · simp at h
def before (xs : List (List Int)) (i : Nat) (s : List Int) : Bool := decide (i = 0) || match xs[i - 1]? with | some y => decide (cmpS y s < 0) | none => true
def simpStep (xs : List (List Int)) (i : Nat) (s : List Int) : Bool := okSimp s && (before xs i s && (facesL s).all fun f => decide (0 ≤ ixS (xs.take i) f))
def simpStepW (xs : List (List Int)) (i : Nat) (s : List Int) : Bool := okSimp s && (before xs i s && (facesL s).all fun f => decide (0 ≤ ixS xs f))
def okSimps (xs : List (List Int)) : Bool := allIx (simpStep xs) 0 xs && decide (xs.length ≤ 48)
def okComplex (c : Complex) : Bool := okSimps c.simplices
theorem before_ord {xs : List (List Int)} {n : Nat} (hn : n ≤ xs.length) (h : ∀ (i : Nat) (hi : i < xs.length), i < n → before xs i xs[i] = true) : OrdS (xs.take n) := by
  refine ordS_of_steps fun i hi => ?_
  rw [List.length_take] at hi
  have := h (i + 1) (by omega) (by omega)
  have e : xs[i]? = some (xs[i]'(by omega)) := List.getElem?_eq_getElem (by omega)
  simp only [before, Nat.add_sub_cancel, e] at this
  simpa using this
theorem ixS_nonneg {xs : List (List Int)} {t : List Int} : 0 ≤ ixS xs t ↔ t ∈ xs := by
  rcases ixS_cases xs t with ⟨h1, h2⟩ | ⟨k, hk, h1, h2⟩
  · rw [h1]
    refine ⟨fun h => by omega, fun h => ?_⟩
    obtain ⟨k, hk, e⟩ := List.mem_iff_getElem.1 h
    exact absurd e (h2 k hk)
  · exact ⟨fun _ => h2 ▸ List.getElem_mem hk, fun _ => by omega⟩
/-- The reference looks in the whole list; it comes to the same. -/
theorem simps_same (xs : List (List Int)) : allIx (simpStepW xs) 0 xs = allIx (simpStep xs) 0 xs := by
  rw [Bool.eq_iff_iff, allIx_iff, allIx_iff]
  constructor
  · intro h i hi
    have hw := h i hi
    simp only [simpStepW, simpStep, Bool.and_eq_true] at hw ⊢
    refine ⟨hw.1, hw.2.1, ?_⟩
    have ho : OrdS xs := by
      have := before_ord (Nat.le_refl xs.length) fun i hi _ => by
        have := h i hi
        simp only [simpStepW, Bool.and_eq_true] at this
        exact this.2.1
      rwa [List.take_length] at this
    rw [List.all_eq_true]
    intro f hf
    have h1 := List.all_eq_true.1 hw.2.2 f hf
    simp only [decide_eq_true_eq] at h1 ⊢
    rw [ixS_nonneg] at h1 ⊢
    obtain ⟨j, hj, e⟩ := List.mem_iff_getElem.1 h1
    have hl := facesL_mem hf
    by_cases hji : j < i
    · rw [← e]
      have : xs[j] = (xs.take i)[j]'(by rw [List.length_take]; omega) := by simp
      rw [this]; exact List.getElem_mem _
    · exfalso
      have : (xs[i]).length ≤ (xs[j]).length := by
        by_cases e2 : i = j
        · subst e2; exact Nat.le_refl _
        · exact cmpS_len (ho i j hi hj (by omega))
      rw [e] at this; omega
  · intro h i hi
    have hw := h i hi
    simp only [simpStepW, simpStep, Bool.and_eq_true] at hw ⊢
    refine ⟨hw.1, hw.2.1, ?_⟩
    rw [List.all_eq_true]
    intro f hf
    have h1 := List.all_eq_true.1 hw.2.2 f hf
    simp only [decide_eq_true_eq] at h1 ⊢
    rw [ixS_nonneg] at h1 ⊢
    exact List.mem_of_mem_take h1
theorem okSimps_ord {xs : List (List Int)} (h : okSimps xs = true) : OrdS xs := by
  simp only [okSimps, Bool.and_eq_true] at h
  have := before_ord (Nat.le_refl xs.length) fun i hi _ => by
    have := (allIx_iff.1 h.1) i hi
    simp only [simpStep, Bool.and_eq_true] at this
    exact this.2.1
  rwa [List.take_length] at this
theorem okSimps_get {xs : List (List Int)} (h : okSimps xs = true) (i : Nat) (hi : i < xs.length) : okSimp xs[i] = true := by
  simp only [okSimps, Bool.and_eq_true] at h
  have := (allIx_iff.1 h.1) i hi
  simp only [simpStep, Bool.and_eq_true] at this
  exact this.1
theorem okSimp_len {s : List Int} (h : okSimp s = true) : 1 ≤ s.length ∧ s.length ≤ 4 := by
  simp only [okSimp, Bool.and_eq_true, decide_eq_true_eq] at h; exact h.1
theorem okSimps_len {xs : List (List Int)} (h : okSimps xs = true) : xs.length ≤ 48 := by
  simp only [okSimps, Bool.and_eq_true, decide_eq_true_eq] at h; exact h.2
/-- The faces of a simplex of a complex stand in it, ahead of it. -/
theorem okSimps_face {xs : List (List Int)} (h : okSimps xs = true) {i : Nat} (hi : i < xs.length) {f : List Int} (hf : f ∈ facesL xs[i]) : ∃ (k : Nat) (hk : k < xs.length), k < i ∧ ixS xs f = k ∧ xs[k] = f := by
  have h0 := h
  simp only [okSimps, Bool.and_eq_true] at h
  have := (allIx_iff.1 h.1) i hi
  simp only [simpStep, Bool.and_eq_true] at this
  have h1 := List.all_eq_true.1 this.2.2 f hf
  simp only [decide_eq_true_eq] at h1
  rw [ixS_nonneg] at h1
  obtain ⟨j, hj, e⟩ := List.mem_iff_getElem.1 h1
  rw [List.length_take] at hj
  rw [List.getElem_take] at e
  rcases ixS_cases xs f with ⟨_, h2⟩ | ⟨k, hk, h3, h4⟩
  · exact absurd e (h2 j (by omega))
  · refine ⟨k, hk, ?_, h3, h4⟩
    rcases Nat.lt_trichotomy j k with hlt | heq | hgt
    · have := okSimps_ord h0 j k (by omega) hk hlt
      rw [e, h4, cmpS_eq.2 rfl] at this; omega
    · omega
    · omega
end Go.Proofs.YtnmoeeneofopcaaGreat.Pi
