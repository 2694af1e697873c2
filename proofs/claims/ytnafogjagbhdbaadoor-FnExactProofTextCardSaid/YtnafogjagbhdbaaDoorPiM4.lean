/- Weights and leaves. No statement of the seat is proved here. -/
import Derived.Test.YtnafogjagbhdbaaDoorPiU1
import Derived.Test.YtnafogjagbhdbaaDoorPiM2
import Derived.Test.YtnafogjagbhdbaaDoorPiM3
namespace Go.Proofs.YtnafogjagbhdbaaDoor.Pi
open Go
set_option maxRecDepth 10000
set_option linter.unusedVariables false

theorem cntwt_list {α : Type} [Enc α] [Mk α] (h : ∀ x : α, Mk.cnt x ≤ 8 * Enc.wt x + 8) (xs : List α) : Mk.cnt xs ≤ 8 * Enc.wt xs := by
  rw [cnt_list, wt_list]
  induction xs with
  | nil => simp
  | cons x xs ih =>
    have := h x
    simp only [List.map_cons, List.sum_cons, List.length_cons]
    omega
theorem lenwt_list {α : Type} [Enc α] (xs : List α) : xs.length ≤ Enc.wt xs := by rw [wt_list]; omega
theorem wt_mem {α : Type} [Enc α] {xs : List α} {x : α} (h : x ∈ xs) : Enc.wt x ≤ Enc.wt xs := by
  obtain ⟨i, hi, rfl⟩ := List.getElem_of_mem h
  have := wt_get xs i hi; omega

theorem cntwt_Int64S (xs : List Int) : Mk.cnt xs ≤ 8 * Enc.wt xs := cntwt_list (fun x => by show 1 ≤ _; omega) xs
theorem cntwt_StringS (xs : List ByteArray) : Mk.cnt xs ≤ 8 * Enc.wt xs := cntwt_list (fun x => by show 1 ≤ _; omega) xs
theorem cntwt_SettingS (xs : List Setting) : Mk.cnt xs ≤ 8 * Enc.wt xs := cntwt_list (fun x => by show 2 ≤ _; omega) xs
theorem cntwt_ChangeS (xs : List Change) : Mk.cnt xs ≤ 8 * Enc.wt xs := cntwt_list (fun x => by show 3 ≤ _; omega) xs
theorem cntwt_VersionS (xs : List Version) : Mk.cnt xs ≤ 8 * Enc.wt xs := cntwt_list (fun x => by
  have h1 := cntwt_SettingS x.state
  have h2 : Enc.wt x = Enc.wt x.number + Enc.wt x.parent + Enc.wt x.memo + Enc.wt x.state := rfl
  show 3 + Mk.cnt x.state ≤ _; omega) xs
theorem cntwt_ItemS (xs : List Item) : Mk.cnt xs ≤ 8 * Enc.wt xs := cntwt_list (fun x => by
  have h1 := cntwt_StringS x.needs
  have h2 : Enc.wt x = Enc.wt x.name + Enc.wt x.needs + Enc.wt x.made + Enc.wt x.cost := rfl
  show 3 + Mk.cnt x.needs ≤ _; omega) xs
theorem lenwt_Int64S (xs : List Int) : xs.length ≤ Enc.wt xs := lenwt_list xs
theorem lenwt_StringS (xs : List ByteArray) : xs.length ≤ Enc.wt xs := lenwt_list xs
theorem lenwt_SettingS (xs : List Setting) : xs.length ≤ Enc.wt xs := lenwt_list xs
theorem lenwt_ChangeS (xs : List Change) : xs.length ≤ Enc.wt xs := lenwt_list xs
theorem lenwt_VersionS (xs : List Version) : xs.length ≤ Enc.wt xs := lenwt_list xs
theorem lenwt_ItemS (xs : List Item) : xs.length ≤ Enc.wt xs := lenwt_list xs
theorem bigwt_VersionS (xs : List Version) (h : Enc.wt xs ≤ 1099511627776) : ∀ x ∈ xs, bigL x := fun x hx => by
  have h1 := wt_mem hx
  have h2 : Enc.wt x = Enc.wt x.number + Enc.wt x.parent + Enc.wt x.memo + Enc.wt x.state := rfl
  have h3 := lenwt_list x.state
  show x.state.length ≤ _; omega
theorem bigwt_ItemS (xs : List Item) (h : Enc.wt xs ≤ 1099511627776) : ∀ x ∈ xs, bigL x := fun x hx => by
  have h1 := wt_mem hx
  have h2 : Enc.wt x = Enc.wt x.name + Enc.wt x.needs + Enc.wt x.made + Enc.wt x.cost := rfl
  have h3 := lenwt_list x.needs
  show x.needs.length ≤ _; omega

end Go.Proofs.YtnafogjagbhdbaaDoor.Pi
