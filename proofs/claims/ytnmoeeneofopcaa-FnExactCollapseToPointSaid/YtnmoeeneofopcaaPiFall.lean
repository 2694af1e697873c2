/- Collapses of a complex, plain. No statement of the seat is proved here. -/
import Derived.Test.YtnmoeeneofopcaaPiCx
namespace Go.Proofs.Ytnmoeeneofopcaa.Pi
open Go
set_option linter.unusedVariables false

def hasL (b : List Int) (v : Int) : Bool := b.any fun x => v == x
def faceL (a b : List Int) : Bool := a.all (hasL b)
/-- The places below 'n' of the simplices that contain 's'. -/
def starL (xs : List (List Int)) (s : List Int) (n : Nat) : List Int := ((List.range n).filter fun j => faceL s (xs.getD j [])).map fun (j : Nat) => (j : Int)
def pairOf (xs : List (List Int)) (k : Nat) : List (List Int) := if (starL xs (xs.getD k []) xs.length).length = 2 then [[(k : Int), (starL xs (xs.getD k []) xs.length).getD 1 0]] else []
/-- The free pairs below 'n'. -/
def freeL (xs : List (List Int)) (n : Nat) : List (List Int) := (List.range n).flatMap (pairOf xs)
/-- What is left below 'n' without a pair. -/
def dropL (xs : List (List Int)) (pair : List Int) (n : Nat) : List (List Int) := ((List.range n).filter fun (j : Nat) => !hasL pair (j : Int)).map fun j => xs.getD j []

theorem gD_lt {α : Type} {xs : List α} {d : α} {i : Nat} (h : i < xs.length) : xs.getD i d = xs[i] := by simp [List.getD_eq_getElem?_getD, h]
theorem starL_succ (xs : List (List Int)) (s : List Int) {n : Nat} (h : n < xs.length) : starL xs s (n + 1) = if faceL s xs[n] = true then starL xs s n ++ [(n : Int)] else starL xs s n := by
  simp only [starL, List.range_succ, List.filter_append, List.filter_cons, List.filter_nil, gD_lt h]
  cases faceL s xs[n] <;> simp
theorem starL_len (xs : List (List Int)) (s : List Int) (n : Nat) : (starL xs s n).length ≤ n := by
  have := List.length_filter_le (fun j => faceL s (xs.getD j [])) (List.range n)
  rw [List.length_range] at this
  simpa [starL] using this
theorem freeL_succ (xs : List (List Int)) (n : Nat) : freeL xs (n + 1) = freeL xs n ++ pairOf xs n := by
  simp only [freeL, List.range_succ, List.flatMap_append, List.flatMap_cons, List.flatMap_nil, List.append_nil]
theorem pairOf_len (xs : List (List Int)) (k : Nat) : (pairOf xs k).length ≤ 1 := by
  unfold pairOf; split <;> simp
theorem freeL_len (xs : List (List Int)) : ∀ n, (freeL xs n).length ≤ n
  | 0 => by simp [freeL]
  | n + 1 => by
    rw [freeL_succ, List.length_append]
    have := freeL_len xs n
    have := pairOf_len xs n
    omega
theorem dropL_succ (xs : List (List Int)) (p : List Int) {n : Nat} (h : n < xs.length) : dropL xs p (n + 1) = if hasL p (n : Int) = true then dropL xs p n else dropL xs p n ++ [xs[n]] := by
  simp only [dropL, List.range_succ, List.filter_append, List.filter_cons, List.filter_nil]
  cases hasL p (n : Int) <;> simp [h]
theorem dropL_len (xs : List (List Int)) (p : List Int) (n : Nat) : (dropL xs p n).length ≤ n := by
  have := List.length_filter_le (fun (j : Nat) => !hasL p (j : Int)) (List.range n)
  rw [List.length_range] at this
  simpa [dropL] using this
theorem range_getD (xs : List (List Int)) : (List.range xs.length).map (fun j => xs.getD j []) = xs := by
  refine List.ext_getElem (by simp) fun i h1 h2 => ?_
  simp [h2]
theorem dropL_sub (xs : List (List Int)) (p : List Int) : (dropL xs p xs.length).Sublist xs := by
  have : ((List.range xs.length).filter fun (j : Nat) => !hasL p (j : Int)).Sublist (List.range xs.length) := List.filter_sublist
  have := this.map fun j => xs.getD j []
  rwa [range_getD] at this
theorem ordS_pair {xs : List (List Int)} : OrdS xs ↔ xs.Pairwise fun a b => cmpS a b < 0 := by
  rw [List.pairwise_iff_getElem]; rfl
theorem dropL_ord {xs : List (List Int)} (h : OrdS xs) (p : List Int) : OrdS (dropL xs p xs.length) := ordS_pair.2 ((ordS_pair.1 h).sublist (dropL_sub xs p))
/-- A free pair names two simplices. -/
theorem free_ok {xs : List (List Int)} {p : List Int} {n : Nat} (hn : n ≤ xs.length) (h : p ∈ freeL xs n) : ∃ (k : Nat) (b : Int), k < xs.length ∧ p = [(k : Int), b] := by
  simp only [freeL, List.mem_flatMap, List.mem_range, pairOf] at h
  obtain ⟨k, hk, h⟩ := h
  split at h
  · simp at h
    exact ⟨k, _, by omega, h⟩
  · simp at h
theorem dropL_less {xs : List (List Int)} {k : Nat} {b : Int} (hk : k < xs.length) : (dropL xs [(k : Int), b] xs.length).length < xs.length := by
  simp only [dropL, List.length_map]
  have h1 : ((List.range xs.length).filter fun (j : Nat) => !hasL [(k : Int), b] (j : Int)).length < (List.range xs.length).length := by
    refine List.length_filter_lt_length_iff_exists.2 ⟨k, List.mem_range.2 hk, ?_⟩
    simp [hasL]
  simpa using h1

/-- A search for a collapse to a vertex: what is left of the budget, whether it is spent, the faces. -/
structure Fall where
  left : Int
  spent : Bool
  faces : List (List Int)
def tries (rec : List (List Int) → Fall → Bool × Fall) (c : List (List Int)) : List (List Int) → Fall → Bool × Fall
  | [], s => (false, s)
  | p :: ps, s =>
    if s.spent = true then (false, s)
    else if s.left = 0 then (false, { s with spent := true })
    else
      let r := rec (dropL c p c.length) { s with left := s.left - 1, faces := s.faces ++ [c.getD (p.getD 0 0).toNat []] }
      if r.1 = true then r else tries rec c ps { r.2 with faces := s.faces }
def fall : Nat → List (List Int) → Fall → Bool × Fall
  | 0, c, s => (decide (c.length = 1), s)
  | f + 1, c, s => if c.length = 1 then (true, s) else tries (fall f) c (freeL c c.length) s

/-- What a search keeps: what is left falls, no new faces where it fails, not many where it does not. -/
def Kept' (m : Nat) (s : Fall) (r : Bool × Fall) : Prop := 0 ≤ r.2.left ∧ r.2.left ≤ s.left ∧ (r.1 = false → r.2.faces = s.faces) ∧ r.2.faces.length ≤ s.faces.length + m
theorem tries_kept {rec : List (List Int) → Fall → Bool × Fall} {m : Nat} (hrec : ∀ c s, 0 ≤ s.left → Kept' m s (rec c s)) (c : List (List Int)) : ∀ (ps : List (List Int)) (s : Fall), 0 ≤ s.left → Kept' (m + 1) s (tries rec c ps s)
  | [], s, h => ⟨h, Int.le_refl _, fun _ => rfl, by simp [tries]⟩
  | p :: ps, s, h => by
    simp only [tries]
    split
    · exact ⟨h, Int.le_refl _, fun _ => rfl, by simp⟩
    · split
      · exact ⟨h, Int.le_refl _, fun _ => rfl, by simp⟩
      · obtain ⟨k1, k2, k3, k4⟩ := hrec (dropL c p c.length) { s with left := s.left - 1, faces := s.faces ++ [c.getD (p.getD 0 0).toNat []] } (by show 0 ≤ s.left - 1; omega)
        simp only [List.length_append, List.length_cons, List.length_nil] at k2 k4
        split
        · rename_i hr
          exact ⟨k1, by omega, fun h => absurd hr (by rw [h]; simp), by omega⟩
        · obtain ⟨j1, j2, j3, j4⟩ := tries_kept hrec c ps { (rec (dropL c p c.length) { s with left := s.left - 1, faces := s.faces ++ [c.getD (p.getD 0 0).toNat []] }).2 with faces := s.faces } k1
          exact ⟨j1, by simp only at j2; omega, j3, j4⟩
theorem fall_kept : ∀ (f : Nat) (c : List (List Int)) (s : Fall), 0 ≤ s.left → Kept' f s (fall f c s)
  | 0, c, s, h => ⟨h, Int.le_refl _, fun _ => rfl, by simp [fall]⟩
  | f + 1, c, s, h => by
    simp only [fall]
    split
    · exact ⟨h, Int.le_refl _, fun _ => rfl, by simp⟩
    · exact tries_kept (fun c s h => fall_kept f c s h) c _ s h
/-- Faces that are kept are simplices. -/
theorem tries_all {P : List Int → Prop} {rec : List (List Int) → Fall → Bool × Fall} (c : List (List Int)) (hc : ∀ x ∈ c, P x) (h0 : P []) (hrec : ∀ p s, (∀ x ∈ s.faces, P x) → ∀ x ∈ (rec (dropL c p c.length) s).2.faces, P x) : ∀ (ps : List (List Int)) (s : Fall), (∀ x ∈ s.faces, P x) → ∀ x ∈ (tries rec c ps s).2.faces, P x
  | [], s, h => h
  | p :: ps, s, h => by
    simp only [tries]
    split
    · exact h
    · split
      · exact h
      · split
        · refine hrec p _ fun x hx => ?_
          rcases List.mem_append.1 hx with hx | hx
          · exact h x hx
          · simp only [List.mem_singleton] at hx
            subst hx
            rw [List.getD_eq_getElem?_getD]
            cases hg : c[(p.getD 0 0).toNat]? with
            | none => exact h0
            | some y => exact hc y (List.mem_of_getElem? hg)
        · exact tries_all c hc h0 hrec ps _ h
theorem fall_all {P : List Int → Prop} (h0 : P []) : ∀ (f : Nat) (c : List (List Int)) (s : Fall), (∀ x ∈ c, P x) → (∀ x ∈ s.faces, P x) → ∀ x ∈ (fall f c s).2.faces, P x
  | 0, c, s, _, h => h
  | f + 1, c, s, hc, h => by
    simp only [fall]
    split
    · exact h
    · exact tries_all c hc h0 (fun p s2 h2 => fall_all h0 f _ s2 (fun x hx => hc x ((dropL_sub c p).subset hx)) h2) _ s h
end Go.Proofs.Ytnmoeeneofopcaa.Pi
