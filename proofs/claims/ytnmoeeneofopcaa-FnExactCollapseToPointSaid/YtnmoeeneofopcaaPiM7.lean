/- Weights and leaves of complexes, sheaves and worlds. No statement of the seat is proved here. -/
import Derived.Test.YtnmoeeneofopcaaPiM6
namespace Go.Proofs.Ytnmoeeneofopcaa.Pi
open Go
set_option maxRecDepth 10000
set_option linter.unusedVariables false

theorem cntwt_l {α : Type} [Enc α] [Mk α] (h : ∀ x : α, Mk.cnt x ≤ 8 * Enc.wt x + 8) (xs : List α) : Mk.cnt xs ≤ 8 * Enc.wt xs := by
  rw [cnt_list, wt_list]
  induction xs with
  | nil => simp
  | cons x xs ih =>
    have := h x
    simp only [List.map_cons, List.sum_cons, List.length_cons]
    omega
theorem lenwt_l {α : Type} [Enc α] (xs : List α) : xs.length ≤ Enc.wt xs := by rw [wt_list]; omega
theorem wt_memX {α : Type} [Enc α] {xs : List α} {x : α} (h : x ∈ xs) : Enc.wt x ≤ Enc.wt xs := by
  obtain ⟨i, hi, rfl⟩ := List.getElem_of_mem h
  have := wt_get xs i hi; omega
theorem cnt_il (xs : List Int) : Mk.cnt xs ≤ 8 * Enc.wt xs := cntwt_l (fun x => by show 1 ≤ _; omega) xs
theorem cnt_ill (xs : List (List Int)) : Mk.cnt xs ≤ 8 * Enc.wt xs := cntwt_l (fun x => by have := cnt_il x; omega) xs
theorem cnt_ml (xs : List Matrix) : Mk.cnt xs ≤ 8 * Enc.wt xs := cntwt_l (fun x => by
  have h1 := cnt_il x.cells
  have h2 : Enc.wt x = Enc.wt x.prime + Enc.wt x.rows + Enc.wt x.columns + Enc.wt x.cells := rfl
  show 3 + Mk.cnt x.cells ≤ _; omega) xs
theorem cnt_ncl (xs : List NamedComplex) : Mk.cnt xs ≤ 8 * Enc.wt xs := cntwt_l (fun x => by
  have h1 := cnt_ill x.value.simplices
  have h2 : Enc.wt x = Enc.wt x.name + Enc.wt x.value.simplices := rfl
  show 1 + Mk.cnt x.value.simplices ≤ _; omega) xs
theorem cnt_nsl (xs : List NamedSheaf) : Mk.cnt xs ≤ 8 * Enc.wt xs := cntwt_l (fun x => by
  have h1 := cnt_ill x.value.base.simplices
  have h3 := cnt_il x.value.stalks
  have h4 := cnt_ml x.value.maps
  have h2 : Enc.wt x = Enc.wt x.name + (Enc.wt x.value.base.simplices + Enc.wt x.value.prime + Enc.wt x.value.stalks + Enc.wt x.value.maps) := rfl
  show 2 + Mk.cnt x.value.base.simplices + Mk.cnt x.value.stalks + Mk.cnt x.value.maps ≤ _; omega) xs
theorem big_ill {xs : List (List Int)} (h : Enc.wt xs ≤ 1099511627776) : ∀ x ∈ xs, bigL x := fun x hx => by
  have h1 := wt_memX hx
  have h3 := lenwt_l x
  show x.length ≤ _; omega
theorem big_ml {xs : List Matrix} (h : Enc.wt xs ≤ 1099511627776) : ∀ x ∈ xs, bigL x := fun x hx => by
  have h1 := wt_memX hx
  have h2 : Enc.wt x = Enc.wt x.prime + Enc.wt x.rows + Enc.wt x.columns + Enc.wt x.cells := rfl
  have h3 := lenwt_l x.cells
  show x.cells.length ≤ _; omega
theorem big_ncl {xs : List NamedComplex} (h : Enc.wt xs ≤ 1099511627776) : ∀ x ∈ xs, bigL x := fun x hx => by
  have h1 := wt_memX hx
  have h2 : Enc.wt x = Enc.wt x.name + Enc.wt x.value.simplices := rfl
  have h3 := lenwt_l x.value.simplices
  exact ⟨by omega, big_ill (by omega)⟩
theorem big_nsl {xs : List NamedSheaf} (h : Enc.wt xs ≤ 1099511627776) : ∀ x ∈ xs, bigL x := fun x hx => by
  have h1 := wt_memX hx
  have h2 : Enc.wt x = Enc.wt x.name + (Enc.wt x.value.base.simplices + Enc.wt x.value.prime + Enc.wt x.value.stalks + Enc.wt x.value.maps) := rfl
  have h3 := lenwt_l x.value.base.simplices
  have h4 := lenwt_l x.value.stalks
  have h5 := lenwt_l x.value.maps
  exact ⟨by omega, big_ill (by omega), by omega, by omega, big_ml (by omega)⟩
end Go.Proofs.Ytnmoeeneofopcaa.Pi
