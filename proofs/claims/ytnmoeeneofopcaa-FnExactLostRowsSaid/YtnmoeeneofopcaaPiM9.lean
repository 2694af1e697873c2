/- Weights and leaves of tables. No statement of the seat is proved here. -/
import Derived.Test.YtnmoeeneofopcaaPiM8
namespace Go.Proofs.Ytnmoeeneofopcaa.Pi
open Go
set_option maxRecDepth 10000
set_option linter.unusedVariables false

theorem cntwt_l {α : Type} [Enc α] [Mk α] (h : ∀ x : α, Mk.cnt x ≤ 8 * Enc.wt x + 8) (xs : List α) : Mk.cnt xs ≤ 8 * Enc.wt xs := by
  rw [cnt_list, wt_list]
  induction xs with
  | nil => simp
  | cons x xs ih =>
    have := h x
    simp only [List.map_cons, List.sum_cons, List.length_cons]
    omega
theorem lenwt_l {α : Type} [Enc α] (xs : List α) : xs.length ≤ Enc.wt xs := by rw [wt_list]; omega
theorem wt_memX {α : Type} [Enc α] {xs : List α} {x : α} (h : x ∈ xs) : Enc.wt x ≤ Enc.wt xs := by
  obtain ⟨i, hi, rfl⟩ := List.getElem_of_mem h
  have := wt_get xs i hi; omega
theorem cnt_il (xs : List Int) : Mk.cnt xs ≤ 8 * Enc.wt xs := cntwt_l (fun x => by show 1 ≤ _; omega) xs
theorem cnt_ill (xs : List (List Int)) : Mk.cnt xs ≤ 8 * Enc.wt xs := cntwt_l (fun x => by have := cnt_il x; omega) xs
theorem wt_tab (x : Table) : Enc.wt x = Enc.wt x.columns + Enc.wt x.rows := rfl
theorem cnt_tl (xs : List Table) : Mk.cnt xs ≤ 8 * Enc.wt xs := cntwt_l (fun x => by
  have h1 := cnt_il x.columns
  have h3 := cnt_ill x.rows
  have h2 := wt_tab x
  show 0 + Mk.cnt x.columns + Mk.cnt x.rows ≤ _; omega) xs
theorem big_ill {xs : List (List Int)} (h : Enc.wt xs ≤ 1099511627776) : ∀ x ∈ xs, bigL x := fun x hx => by
  have h1 := wt_memX hx
  have h3 := lenwt_l x
  show x.length ≤ _; omega
theorem big_tl {xs : List Table} (h : Enc.wt xs ≤ 1099511627776) : ∀ x ∈ xs, bigL x := fun x hx => by
  have h1 := wt_memX hx
  have h2 := wt_tab x
  have h3 := lenwt_l x.columns
  have h4 := lenwt_l x.rows
  exact ⟨by omega, by omega, big_ill (by omega)⟩
theorem rows_small {xs : List Table} (h : Enc.wt xs ≤ 1048576) : ∀ t ∈ xs, ∀ r ∈ t.rows, r.length ≤ 1048576 := fun t ht r hr => by
  have h1 := wt_memX ht
  have h2 := wt_tab t
  have h3 := wt_memX hr
  have h4 := lenwt_l r
  omega
end Go.Proofs.Ytnmoeeneofopcaa.Pi
