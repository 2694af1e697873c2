/- Matrices that are alike; proofs that are right. No statement of the seat is proved here. -/
import Derived.Test.YtnafogjagbhdbaaDoorPiMat
import Derived.Test.YtnafogjagbhdbaaDoorPiFMatrix
import Derived.Test.YtnafogjagbhdbaaDoorPiFSameProof
namespace Go.Proofs.YtnafogjagbhdbaaDoor.Pi
open Go
set_option linter.unusedVariables false

theorem MatOK.cells_eq {m : Matrix} {r c : Nat} (ok : MatOK m r c) : m.cells = grid r c (cellAt m) := by
  refine List.ext_getElem (by rw [ok.len, grid_len]) fun q h1 h2 => ?_
  obtain ⟨i, j, hi, hj, rfl⟩ := ij_split (ok.len ▸ h1)
  have e := grid_get (f := cellAt m) hi hj
  rw [List.getElem?_eq_getElem h2] at e
  rw [Option.some.inj e, ok.cell hi hj]
theorem grid_eq_iff {r c : Nat} {f g : Nat → Nat → Int} : grid r c f = grid r c g ↔ ∀ i j, i < r → j < c → f i j = g i j := by
  constructor
  · intro h i j hi hj
    have e := grid_get (f := f) hi hj
    rw [h, grid_get hi hj] at e
    exact (Option.some.inj e).symm
  · exact grid_congr
theorem sameInt_iff {xs ys : List Int} : sameBy sameInt xs ys = true ↔ xs = ys := sameInts_iff
theorem sameMatrix_iff {x y : Matrix} {r c : Nat} (hx : MatOK x r c) (hy : MatOK y r c) (hp : x.prime = y.prime) : sameMatrix x y = true ↔ ∀ i j, i < r → j < c → cellAt x i j = cellAt y i j := by
  simp only [sameMatrix, Bool.and_eq_true, sameInt_iff, hx.cells_eq, hy.cells_eq, grid_eq_iff]
  simp only [sameInt, hp, hx.rows, hy.rows, hx.columns, hy.columns, beq_self_eq_true, true_and]
theorem mul_cell {a b : Matrix} {r k c : Nat} (ha : MatOK a r k) (hb : MatOK b k c) {i j : Nat} (hi : i < r) (hj : j < c) : cellAt (mulM a b) i j = dotM a.prime (rowL a i) (colL b j) := by
  unfold cellAt
  rw [(mul_ok ha hb).cn]
  show (grid a.rows.toNat b.columns.toNat _).getD _ 0 = _
  rw [ha.rn, hb.cn, grid_getD hi hj]
theorem unit_cell {p : Int} {n i j : Nat} (hi : i < n) (hj : j < n) : cellAt (unitM p n) i j = if i = j then 1 else 0 := by
  show (grid n n _).getD (i * n + j) 0 = _
  rw [grid_getD hi hj]

theorem okVec_of {p n : Int} {x : List Int} (h : okVec p n x = true) : (x.length : Int) = n ∧ El p x := by
  simp only [okVec, okEls, okEl, Bool.and_eq_true, beq_iff_eq, List.all_eq_true, decide_eq_true_eq] at h
  exact ⟨h.1, fun y hy => by have := h.2 y hy; omega⟩
theorem vecs_of {p : Int} {n : Nat} {xs : List (List Int)} (h : okVecs p n xs = true) : VecsOK p n xs := fun x hx => by
  obtain ⟨h1, h2⟩ := okVec_of (List.all_eq_true.1 h x hx)
  exact ⟨by omega, h2⟩
theorem mat_of {m : Matrix} (h : okMatrix m = true) : MatOK m m.rows.toNat m.columns.toNat := by
  have hb := okMatrix_of h
  simp only [okMatrix, Bool.and_eq_true, beq_iff_eq] at h
  obtain ⟨_, _, _, h4, h5⟩ := h
  have h6 : El m.prime m.cells := fun y hy => by
    simp only [okEls, okEl, Bool.and_eq_true, List.all_eq_true, decide_eq_true_eq] at h5
    have := h5 y hy; omega
  obtain ⟨r, hr⟩ : ∃ r : Nat, m.rows = r := ⟨m.rows.toNat, by omega⟩
  obtain ⟨c, hc⟩ : ∃ c : Nat, m.columns = c := ⟨m.columns.toNat, by omega⟩
  rw [hr, hc] at h4
  have e : m.cells.length = r * c := by
    have : ((m.cells.length : Nat) : Int) = ((r * c : Nat) : Int) := by rw [h4]; push_cast; rfl
    omega
  exact ⟨hb.1, by omega, by omega, by rw [hr, hc]; exact e, h6, by omega, by omega⟩

end Go.Proofs.YtnafogjagbhdbaaDoor.Pi
