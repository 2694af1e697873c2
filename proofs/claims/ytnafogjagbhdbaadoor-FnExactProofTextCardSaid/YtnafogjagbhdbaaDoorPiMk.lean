/- What the marks of the laws leave. No statement of the seat is proved here. -/
import Derived.Test.YtnafogjagbhdbaaDoorPiM0
namespace Go.Proofs.YtnafogjagbhdbaaDoor.Pi
open Go
set_option linter.unusedVariables false

class Mk (α : Type) where
  set : α → Int → α
  cnt : α → Nat

instance : Mk Int := ⟨fun _ k => k, fun _ => 1⟩
instance : Mk ByteArray := ⟨fun _ k => tx k, fun _ => 1⟩
def mkL {α : Type} [Mk α] : List α → Int → List α
  | [], _ => []
  | x :: xs, k => Mk.set x k :: mkL xs (k + Mk.cnt x)
instance {α : Type} [Mk α] : Mk (List α) := ⟨mkL, fun xs => (xs.map Mk.cnt).sum⟩

/-- How many leaves the first 'i' have. -/
def cnts {α : Type} [Mk α] (xs : List α) (i : Nat) : Nat := ((xs.take i).map Mk.cnt).sum
section
variable {α : Type} [Mk α]
theorem cnts_zero (xs : List α) : cnts xs 0 = 0 := by simp [cnts]
theorem cnts_succ (xs : List α) (i : Nat) (h : i < xs.length) : cnts xs (i + 1) = cnts xs i + Mk.cnt xs[i] := by
  simp only [cnts, List.take_add_one, List.getElem?_eq_getElem h, Option.toList_some, List.map_append, List.map_cons, List.map_nil, List.sum_append, List.sum_cons, List.sum_nil, Nat.add_zero]
theorem cnts_le (xs : List α) (i : Nat) : cnts xs i ≤ (xs.map Mk.cnt).sum := by
  have h : (xs.map Mk.cnt).sum = ((xs.take i).map Mk.cnt).sum + ((xs.drop i).map Mk.cnt).sum := by
    rw [← List.sum_append, ← List.map_append, List.take_append_drop]
  unfold cnts; omega
theorem cnts_all (xs : List α) (i : Nat) (h : xs.length ≤ i) : cnts xs i = (xs.map Mk.cnt).sum := by
  unfold cnts; rw [List.take_of_length_le h]
theorem cnt_list (xs : List α) : Mk.cnt xs = (xs.map Mk.cnt).sum := rfl
theorem mkL_length : ∀ (xs : List α) (k : Int), (mkL xs k).length = xs.length
  | [], k => rfl
  | x :: xs, k => by simp [mkL, mkL_length xs]
theorem mkL_get : ∀ (xs : List α) (k : Int) (i : Nat) (h : i < xs.length), (mkL xs k)[i]? = some (Mk.set xs[i] (k + cnts xs i))
  | x :: xs, k, 0, h => by simp [mkL, cnts]
  | x :: xs, k, i + 1, h => by
    simp only [mkL, List.getElem?_cons_succ, List.getElem_cons_succ]
    rw [mkL_get xs _ i (by simpa using h)]
    congr 2
    simp only [cnts, List.take_succ_cons, List.map_cons, List.sum_cons]
    omega
theorem mkL_at (xs : List α) (k : Int) (i : Nat) (h : i < (mkL xs k).length) : (mkL xs k)[i] = Mk.set (xs[i]'(by rwa [mkL_length] at h)) (k + cnts xs i) := by
  have := mkL_get xs k i (by rwa [mkL_length] at h)
  rw [List.getElem?_eq_getElem h] at this
  simpa using this

/-- Marked as far as 'i'. -/
def part [Enc α] (xs : List α) (k : Int) (i : Nat) : List (List CV) := ((mkL xs k).take i ++ xs.drop i).map Enc.enc
theorem part_zero [Enc α] (xs : List α) (k : Int) : part xs k 0 = xs.map Enc.enc := by simp [part]
theorem part_all [Enc α] (xs : List α) (k : Int) (i : Nat) (h : xs.length ≤ i) : part xs k i = (mkL xs k).map Enc.enc := by
  simp [part, List.drop_eq_nil_of_le h, List.take_of_length_le (show (mkL xs k).length ≤ i by rw [mkL_length]; exact h)]
theorem part_length [Enc α] (xs : List α) (k : Int) (i : Nat) : (part xs k i).length = xs.length := by simp [part, mkL_length]; omega
theorem part_get [Enc α] (xs : List α) (k : Int) (i : Nat) (h : i < xs.length) : (part xs k i)[i]? = some (Enc.enc xs[i]) := by
  unfold part
  rw [List.getElem?_map, List.getElem?_append_right (by simp [mkL_length]; omega)]
  have : i - ((mkL xs k).take i).length = 0 := by simp [mkL_length]; omega
  rw [this]
  simp [h]
theorem part_set [Enc α] (xs : List α) (k : Int) (i : Nat) (h : i < xs.length) : (part xs k i).set i (Enc.enc (Mk.set xs[i] (k + cnts xs i))) = part xs k (i + 1) := by
  unfold part
  have h1 : (mkL xs k)[i]? = some (Mk.set xs[i] (k + cnts xs i)) := mkL_get xs k i h
  have hl : ((mkL xs k).take i).length = i := by simp [mkL_length]; omega
  rw [List.map_append, List.set_append_right _ _ (by simp [mkL_length]; omega)]
  have e : i - (((mkL xs k).take i).map (Enc.enc (α := α))).length = 0 := by simp [mkL_length]; omega
  rw [e, List.drop_eq_getElem_cons h, List.map_cons, List.set_cons_zero, List.take_add_one, h1]
  simp
end

/-- A row that has just been written. -/
theorem Pick.row {rows : List (List CV)} {i : Nat} {r : List CV} {K : List CV → Prop} (r' : List CV) (h : i < rows.length) (e : r = r') (k : K r') : Pick (fun row => (rows.set (i : Int).toNat r)[(i : Int).toNat]? = some row) K :=
  ⟨r', by subst e; simp [h], k⟩

theorem flat_rep {n : Nat} {z : List CV} (h : z.all CV.flat = true) : flatRows (List.replicate n z) := fun r hr c hc => by
  rw [List.eq_of_mem_replicate hr] at hc
  exact List.all_eq_true.1 h c hc

/-- No list in it is too long for marks. -/
class Big (α : Type) where
  big : α → Prop
def bigL {α : Type} [Big α] (x : α) : Prop := Big.big x

end Go.Proofs.YtnafogjagbhdbaaDoor.Pi
