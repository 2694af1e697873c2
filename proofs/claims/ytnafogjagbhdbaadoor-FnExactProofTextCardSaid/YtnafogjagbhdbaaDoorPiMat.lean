/- Matrices as plain values: sums, products, rows, columns. No statement of the seat is proved here. -/
import Derived.Test.YtnafogjagbhdbaaDoorPiEnc
namespace Go.Proofs.YtnafogjagbhdbaaDoor.Pi
open Go
set_option linter.unusedVariables false

theorem getD_lt {α : Type} (xs : List α) (d : α) {k : Nat} (h : k < xs.length) : xs.getD k d = xs[k] := by simp [List.getD_eq_getElem?_getD, h]
theorem getD_ge {α : Type} (xs : List α) (d : α) {k : Nat} (h : xs.length ≤ k) : xs.getD k d = d := by simp [List.getD_eq_getElem?_getD, h]

/-! ### sums -/
def sumN (f : Nat → Int) : Nat → Int
  | 0 => 0
  | n + 1 => sumN f n + f n
theorem sumN_congr {f g : Nat → Int} : ∀ {n : Nat}, (∀ k, k < n → f k = g k) → sumN f n = sumN g n
  | 0, _ => rfl
  | n + 1, h => by simp only [sumN, sumN_congr (f := f) (g := g) (n := n) fun k hk => h k (by omega), h n (by omega)]
theorem sumN_bound {f : Nat → Int} {B : Int} : ∀ {n : Nat}, (∀ k, k < n → 0 ≤ f k ∧ f k ≤ B) → 0 ≤ sumN f n ∧ sumN f n ≤ n * B
  | 0, _ => by simp [sumN]
  | n + 1, h => by
    have := sumN_bound (f := f) (B := B) (n := n) fun k hk => h k (by omega)
    have := h n (by omega)
    have e : ((n + 1 : Nat) : Int) * B = n * B + B := by push_cast; rw [Int.add_mul, Int.one_mul]
    simp only [sumN]
    omega
theorem mul_bound {a b : Int} (ha : 0 ≤ a ∧ a ≤ 250) (hb : 0 ≤ b ∧ b ≤ 250) : 0 ≤ a * b ∧ a * b ≤ 62500 := by
  refine ⟨Int.mul_nonneg ha.1 hb.1, ?_⟩
  have h1 : a * b ≤ 250 * b := Int.mul_le_mul_of_nonneg_right ha.2 hb.1
  omega

/-- The numbers of a list are numbers modulo 'p'. -/
def El (p : Int) (xs : List Int) : Prop := ∀ x ∈ xs, 0 ≤ x ∧ x < p
theorem El.get {p : Int} {xs : List Int} (h : El p xs) (hp : p ≤ 251) (k : Nat) (hp0 : 0 < p) : 0 ≤ xs.getD k 0 ∧ xs.getD k 0 ≤ 250 ∧ xs.getD k 0 < p := by
  by_cases hk : k < xs.length
  · rw [getD_lt _ _ hk]
    have := h _ (List.getElem_mem hk); omega
  · rw [getD_ge _ _ (by omega)]; omega
theorem El.at {p : Int} {xs : List Int} (h : El p xs) (k : Nat) (hk : k < xs.length) : 0 ≤ xs[k] ∧ xs[k] < p := h _ (List.getElem_mem hk)
theorem El.take {p : Int} {xs : List Int} (h : El p xs) (n : Nat) : El p (xs.take n) := fun x hx => h x (List.mem_of_mem_take hx)
theorem El.drop {p : Int} {xs : List Int} (h : El p xs) (n : Nat) : El p (xs.drop n) := fun x hx => h x (List.mem_of_mem_drop hx)

def dotT (xs ys : List Int) (k : Nat) : Int := xs.getD k 0 * ys.getD k 0
def dotM (p : Int) (xs ys : List Int) : Int := sumN (dotT xs ys) xs.length % p
theorem dotT_bound {p : Int} {xs ys : List Int} (hx : El p xs) (hy : El p ys) (hp : 2 ≤ p ∧ p ≤ 251) (k : Nat) : 0 ≤ dotT xs ys k ∧ dotT xs ys k ≤ 62500 := by
  have h1 := hx.get hp.2 k (by omega)
  have h2 := hy.get hp.2 k (by omega)
  exact mul_bound ⟨h1.1, h1.2.1⟩ ⟨h2.1, h2.2.1⟩
theorem dotM_el {p : Int} {xs ys : List Int} (hp : 2 ≤ p) : 0 ≤ dotM p xs ys ∧ dotM p xs ys < p := ⟨Int.emod_nonneg _ (by omega), Int.emod_lt_of_pos _ (by omega)⟩
theorem dotM_comm (p : Int) (xs ys : List Int) (h : xs.length = ys.length) : dotM p xs ys = dotM p ys xs := by
  unfold dotM
  rw [h]
  congr 1
  exact sumN_congr fun k _ => Int.mul_comm _ _
theorem dot_step (s a b p : Int) (hp : 0 < p) : (s % p + a * b) % p = (s + a * b) % p := by
  rw [Int.emod_add_emod]

/-! ### tables -/
def grid (r c : Nat) (f : Nat → Nat → Int) : List Int := (List.range r).flatMap fun i => (List.range c).map (f i)
/-- A table, as far as it has come. -/
def gridUp (c : Nat) (f : Nat → Nat → Int) (i j : Nat) : List Int := grid i c f ++ (List.range j).map (f i)
theorem gridUp_zero (c : Nat) (f : Nat → Nat → Int) (i : Nat) : gridUp c f i 0 = grid i c f := by simp [gridUp]
theorem grid_succ (c : Nat) (f : Nat → Nat → Int) (i : Nat) : grid (i + 1) c f = gridUp c f i c := by
  simp [grid, gridUp, List.range_succ]
theorem gridUp_succ (c : Nat) (f : Nat → Nat → Int) (i j : Nat) : gridUp c f i (j + 1) = gridUp c f i j ++ [f i j] := by
  simp [gridUp, List.range_succ]
theorem grid_len : ∀ (r c : Nat) (f : Nat → Nat → Int), (grid r c f).length = r * c
  | 0, c, f => by simp [grid]
  | r + 1, c, f => by
    rw [grid_succ, gridUp, List.length_append, grid_len r c f, List.length_map, List.length_range, Nat.succ_mul]
theorem gridUp_len (c : Nat) (f : Nat → Nat → Int) (i j : Nat) : (gridUp c f i j).length = i * c + j := by
  rw [gridUp, List.length_append, grid_len, List.length_map, List.length_range]
theorem grid_get : ∀ {r c : Nat} {f : Nat → Nat → Int} {i j : Nat}, i < r → j < c → (grid r c f)[i * c + j]? = some (f i j)
  | r + 1, c, f, i, j, hi, hj => by
    rw [grid_succ, gridUp]
    by_cases h : i < r
    · have hlt : i * c + j < r * c := by
        have : (i + 1) * c ≤ r * c := Nat.mul_le_mul_right _ h
        rw [Nat.succ_mul] at this; omega
      rw [List.getElem?_append_left (by rw [grid_len]; exact hlt)]
      exact grid_get h hj
    · obtain rfl : i = r := by omega
      rw [List.getElem?_append_right (by rw [grid_len]; omega), grid_len, Nat.add_sub_cancel_left, List.getElem?_map, List.getElem?_range hj]
      rfl
theorem grid_getD {r c : Nat} {f : Nat → Nat → Int} {i j : Nat} (hi : i < r) (hj : j < c) : (grid r c f).getD (i * c + j) 0 = f i j := by
  rw [List.getD_eq_getElem?_getD, grid_get hi hj]; rfl
theorem grid_mem {r c : Nat} {f : Nat → Nat → Int} {x : Int} (h : x ∈ grid r c f) : ∃ i j, i < r ∧ j < c ∧ x = f i j := by
  simp only [grid, List.mem_flatMap, List.mem_range, List.mem_map] at h
  obtain ⟨i, hi, j, hj, rfl⟩ := h
  exact ⟨i, j, hi, hj, rfl⟩
theorem grid_congr {r c : Nat} {f g : Nat → Nat → Int} (h : ∀ i j, i < r → j < c → f i j = g i j) : grid r c f = grid r c g := by
  unfold grid
  rw [List.flatMap_def, List.flatMap_def]
  congr 1
  refine List.map_congr_left fun i hi => List.map_congr_left fun j hj => h i j (List.mem_range.1 hi) (List.mem_range.1 hj)
theorem ij_lt {i j r c : Nat} (hi : i < r) (hj : j < c) : i * c + j < r * c := by
  have : (i + 1) * c ≤ r * c := Nat.mul_le_mul_right _ hi
  rw [Nat.succ_mul] at this; omega
theorem ij_split {q r c : Nat} (h : q < r * c) : ∃ i j, i < r ∧ j < c ∧ q = i * c + j := by
  have hc : 0 < c := by
    rcases Nat.eq_zero_or_pos c with h0 | h0
    · subst h0; simp at h
    · exact h0
  refine ⟨q / c, q % c, (Nat.div_lt_iff_lt_mul hc).2 h, Nat.mod_lt _ hc, ?_⟩
  rw [Nat.mul_comm]; exact (Nat.div_add_mod q c).symm

/-! ### matrices -/
/-- A matrix of 'r' rows and 'c' columns with numbers modulo its prime. -/
structure MatOK (m : Matrix) (r c : Nat) : Prop where
  p : 2 ≤ m.prime ∧ m.prime ≤ 251
  rows : m.rows = r
  columns : m.columns = c
  len : m.cells.length = r * c
  el : El m.prime m.cells
  rb : r ≤ 4096
  cb : c ≤ 4096

def cellAt (m : Matrix) (i j : Nat) : Int := m.cells.getD (i * m.columns.toNat + j) 0
def rowL (m : Matrix) (i : Nat) : List Int := (m.cells.take ((i + 1) * m.columns.toNat)).drop (i * m.columns.toNat)
def colL (m : Matrix) (j : Nat) : List Int := (List.range m.rows.toNat).map fun i => cellAt m i j
def applyM (m : Matrix) (v : List Int) : List Int := (List.range m.rows.toNat).map fun i => dotM m.prime (rowL m i) v
def leftM (m : Matrix) (y : List Int) : List Int := (List.range m.columns.toNat).map fun j => dotM m.prime y (colL m j)
def transM (m : Matrix) : Matrix := ⟨m.prime, m.columns, m.rows, grid m.columns.toNat m.rows.toNat fun i j => cellAt m j i⟩
def unitM (p n : Int) : Matrix := ⟨p, n, n, grid n.toNat n.toNat fun i j => if i = j then 1 else 0⟩
def mulM (a b : Matrix) : Matrix := ⟨a.prime, a.rows, b.columns, grid a.rows.toNat b.columns.toNat fun i j => dotM a.prime (rowL a i) (colL b j)⟩
def ofRows (p c : Int) (rows : List (List Int)) : Matrix := ⟨p, rows.length, c, rows.flatten⟩
def rowsL (m : Matrix) : List (List Int) := (List.range m.rows.toNat).map (rowL m)
def colsL (m : Matrix) : List (List Int) := (List.range m.columns.toNat).map (colL m)

section
variable {m : Matrix} {r c : Nat}
theorem MatOK.rn (h : MatOK m r c) : m.rows.toNat = r := by rw [h.rows]; rfl
theorem MatOK.cn (h : MatOK m r c) : m.columns.toNat = c := by rw [h.columns]; rfl
theorem MatOK.lt (h : MatOK m r c) {i j : Nat} (hi : i < r) (hj : j < c) : i * c + j < m.cells.length := by rw [h.len]; exact ij_lt hi hj
theorem MatOK.big (h : MatOK m r c) {i j : Nat} (hi : i < r) (hj : j < c) : i * c + j < 16777216 := by
  have h1 := ij_lt hi hj
  have h2 : r * c ≤ 4096 * 4096 := Nat.mul_le_mul h.rb h.cb
  omega
theorem MatOK.rc (h : MatOK m r c) : r * c ≤ 16777216 := Nat.mul_le_mul h.rb h.cb
theorem MatOK.cell (h : MatOK m r c) {i j : Nat} (hi : i < r) (hj : j < c) : cellAt m i j = m.cells[i * c + j]'(h.lt hi hj) := by
  unfold cellAt; rw [h.cn, getD_lt _ _ (h.lt hi hj)]
theorem MatOK.cellEl (h : MatOK m r c) (i j : Nat) : 0 ≤ cellAt m i j ∧ cellAt m i j < m.prime := by
  have := h.p
  have := h.el.get h.p.2 (i * m.columns.toNat + j) (by omega)
  exact ⟨this.1, this.2.2⟩
theorem MatOK.rowLen (h : MatOK m r c) {i : Nat} (hi : i < r) : (rowL m i).length = c := by
  unfold rowL
  rw [h.cn, List.length_drop, List.length_take, h.len, Nat.min_eq_left (Nat.mul_le_mul_right _ hi), Nat.succ_mul]
  omega
theorem MatOK.rowGet (h : MatOK m r c) {i j : Nat} (hi : i < r) (hj : j < c) : (rowL m i).getD j 0 = cellAt m i j := by
  unfold rowL cellAt
  rw [h.cn, List.getD_eq_getElem?_getD, List.getD_eq_getElem?_getD, List.getElem?_drop, List.getElem?_take, if_pos (by rw [Nat.succ_mul]; omega)]
theorem MatOK.rowEl (h : MatOK m r c) (i : Nat) : El m.prime (rowL m i) := (h.el.take _).drop _
theorem MatOK.colLen (h : MatOK m r c) (j : Nat) : (colL m j).length = r := by simp [colL, h.rn]
theorem MatOK.colGet (h : MatOK m r c) {i : Nat} (j : Nat) (hi : i < r) : (colL m j).getD i 0 = cellAt m i j := by
  unfold colL
  rw [h.rn, List.getD_eq_getElem?_getD, List.getElem?_map, List.getElem?_range hi]; rfl
theorem MatOK.colEl (h : MatOK m r c) (j : Nat) : El m.prime (colL m j) := fun x hx => by
  obtain ⟨i, _, rfl⟩ := List.mem_map.1 hx
  exact h.cellEl i j
theorem MatOK.trans (h : MatOK m r c) : MatOK (transM m) c r := ⟨h.p, h.columns, h.rows, by simp only [transM, h.rn, h.cn, grid_len], fun x hx => by
  obtain ⟨i, j, _, _, rfl⟩ := grid_mem hx
  exact h.cellEl j i, h.cb, h.rb⟩
theorem MatOK.transCell (h : MatOK m r c) {i j : Nat} (hi : i < c) (hj : j < r) : cellAt (transM m) i j = cellAt m j i := by
  unfold cellAt
  rw [h.trans.cn]
  show (grid m.columns.toNat m.rows.toNat _).getD _ 0 = _
  rw [h.rn, h.cn, grid_getD hi hj]; unfold cellAt; rw [h.cn]
theorem MatOK.transRow (h : MatOK m r c) {i : Nat} (hi : i < c) : rowL (transM m) i = colL m i := by
  refine List.ext_getElem (by rw [h.trans.rowLen hi, h.colLen]) fun k h1 h2 => ?_
  have hk : k < r := by rwa [h.trans.rowLen hi] at h1
  have e1 := h.trans.rowGet hi hk
  have e2 := h.colGet i hk
  rw [getD_lt _ _ h1] at e1
  rw [getD_lt _ _ h2] at e2
  rw [e1, e2, h.transCell hi hk]
theorem MatOK.transCol (h : MatOK m r c) {j : Nat} (hj : j < r) : colL (transM m) j = rowL m j := by
  refine List.ext_getElem (by rw [h.trans.colLen, h.rowLen hj]) fun k h1 h2 => ?_
  have hk : k < c := by rwa [h.trans.colLen] at h1
  have e1 := h.trans.colGet j hk
  have e2 := h.rowGet hj hk
  rw [getD_lt _ _ h1] at e1
  rw [getD_lt _ _ h2] at e2
  rw [e1, e2, h.transCell hk hj]
theorem MatOK.colsTrans (h : MatOK m r c) : rowsL (transM m) = colsL m := by
  unfold rowsL colsL
  rw [h.trans.rn, h.cn]
  exact List.map_congr_left fun i hi => h.transRow (List.mem_range.1 hi)
theorem MatOK.applyTrans (h : MatOK m r c) {y : List Int} (hy : y.length = r) : applyM (transM m) y = leftM m y := by
  unfold applyM leftM
  rw [h.trans.rn, h.cn]
  refine List.map_congr_left fun i hi => ?_
  rw [h.transRow (List.mem_range.1 hi)]
  exact dotM_comm _ _ _ (by rw [h.colLen, hy])
theorem applyM_len (h : MatOK m r c) (v : List Int) : (applyM m v).length = r := by simp [applyM, h.rn]
theorem applyM_el (h : MatOK m r c) (v : List Int) : El m.prime (applyM m v) := fun x hx => by
  obtain ⟨i, _, rfl⟩ := List.mem_map.1 hx
  exact dotM_el h.p.1
theorem leftM_len (h : MatOK m r c) (v : List Int) : (leftM m v).length = c := by simp [leftM, h.cn]
end

/-- Lists that lie one behind the other. -/
theorem flatten_len {c : Nat} : ∀ {rows : List (List Int)}, (∀ x ∈ rows, x.length = c) → rows.flatten.length = rows.length * c
  | [], _ => by simp
  | x :: xs, h => by
    rw [List.flatten_cons, List.length_append, flatten_len fun y hy => h y (by simp [hy]), h x (by simp), List.length_cons, Nat.succ_mul, Nat.add_comm]
theorem flatten_get {c : Nat} : ∀ {rows : List (List Int)}, (∀ x ∈ rows, x.length = c) → ∀ {i j : Nat} (hi : i < rows.length), j < c → rows.flatten[i * c + j]? = rows[i][j]?
  | x :: xs, h, 0, j, hi, hj => by
    have hx := h x (by simp)
    rw [List.flatten_cons, Nat.zero_mul, Nat.zero_add, List.getElem?_append_left (by omega)]; rfl
  | x :: xs, h, i + 1, j, hi, hj => by
    have hx := h x (by simp)
    rw [List.flatten_cons, List.getElem?_append_right (by rw [Nat.succ_mul]; omega)]
    have e : (i + 1) * c + j - x.length = i * c + j := by rw [Nat.succ_mul]; omega
    rw [e, List.getElem_cons_succ]
    exact flatten_get (fun y hy => h y (by simp [hy])) _ hj
/-- Vectors of one length. -/
def VecsOK (p : Int) (n : Nat) (xs : List (List Int)) : Prop := ∀ x ∈ xs, x.length = n ∧ El p x
theorem VecsOK.at {p : Int} {n : Nat} {xs : List (List Int)} (h : VecsOK p n xs) (i : Nat) (hi : i < xs.length) : xs[i].length = n ∧ El p xs[i] := h _ (List.getElem_mem hi)
theorem VecsOK.take {p : Int} {n : Nat} {xs : List (List Int)} (h : VecsOK p n xs) (k : Nat) : VecsOK p n (xs.take k) := fun x hx => h x (List.mem_of_mem_take hx)
theorem VecsOK.drop {p : Int} {n : Nat} {xs : List (List Int)} (h : VecsOK p n xs) (k : Nat) : VecsOK p n (xs.drop k) := fun x hx => h x (List.mem_of_mem_drop hx)
theorem ofRows_ok {p : Int} {n : Nat} {rows : List (List Int)} (h : VecsOK p n rows) (hp : 2 ≤ p ∧ p ≤ 251) (hn : n ≤ 4096) (hl : rows.length ≤ 4096) : MatOK (ofRows p n rows) rows.length n :=
  ⟨hp, rfl, rfl, flatten_len fun x hx => (h x hx).1, fun x hx => by
    obtain ⟨l, hl, hx⟩ := List.mem_flatten.1 hx
    exact (h l hl).2 x hx, hl, hn⟩
theorem ofRows_cell {p : Int} {n : Nat} {rows : List (List Int)} (h : VecsOK p n rows) {i j : Nat} (hi : i < rows.length) (hj : j < n) : cellAt (ofRows p n rows) i j = rows[i].getD j 0 := by
  unfold cellAt ofRows
  simp only [Int.toNat_natCast]
  rw [List.getD_eq_getElem?_getD, List.getD_eq_getElem?_getD, flatten_get (fun x hx => (h x hx).1) hi hj]
theorem ofRows_row {p : Int} {n : Nat} {rows : List (List Int)} (h : VecsOK p n rows) (hp : 2 ≤ p ∧ p ≤ 251) (hn : n ≤ 4096) (hl : rows.length ≤ 4096) {i : Nat} (hi : i < rows.length) : rowL (ofRows p n rows) i = rows[i] := by
  have ok := ofRows_ok h hp hn hl
  have hri := (h.at i hi).1
  refine List.ext_getElem (by rw [ok.rowLen hi, hri]) fun k h1 h2 => ?_
  have hk : k < n := by rwa [ok.rowLen hi] at h1
  have e1 := ok.rowGet hi hk
  rw [getD_lt _ _ h1, ofRows_cell h hi hk, getD_lt _ _ h2] at e1
  exact e1

theorem unit_ok {p : Int} {n : Nat} (hp : 2 ≤ p ∧ p ≤ 251) (hn : n ≤ 4096) : MatOK (unitM p n) n n := ⟨hp, rfl, rfl, by simp [unitM, grid_len], fun x hx => by
  obtain ⟨i, j, _, _, rfl⟩ := grid_mem hx
  show 0 ≤ (if i = j then (1 : Int) else 0) ∧ (if i = j then (1 : Int) else 0) < p
  split <;> omega, hn, hn⟩
theorem mul_ok {a b : Matrix} {r k c : Nat} (ha : MatOK a r k) (hb : MatOK b k c) : MatOK (mulM a b) r c := ⟨ha.p, ha.rows, hb.columns, by simp only [mulM, ha.rn, hb.cn, grid_len], fun x hx => by
  obtain ⟨i, j, _, _, rfl⟩ := grid_mem hx
  exact dotM_el ha.p.1, ha.rb, hb.cb⟩

/-! ### all of a range -/
theorem allR_no {n i : Nat} {P : Nat → Bool} (hi : i < n) (h : P i = false) : (List.range n).all P = false := by
  rw [List.all_eq_false]; exact ⟨i, List.mem_range.2 hi, by simp [h]⟩
theorem allR_yes {n : Nat} {P : Nat → Bool} (h : ∀ i, i < n → P i = true) : (List.range n).all P = true := by
  rw [List.all_eq_true]; exact fun i hi => h i (List.mem_range.1 hi)
theorem allR_iff {n : Nat} {P : Nat → Bool} : (List.range n).all P = true ↔ ∀ i, i < n → P i = true := by
  rw [List.all_eq_true]; exact ⟨fun h i hi => h i (List.mem_range.2 hi), fun h i hi => h i (List.mem_range.1 hi)⟩
theorem allR_congr {n : Nat} {P Q : Nat → Bool} (h : ∀ i, i < n → P i = Q i) : (List.range n).all P = (List.range n).all Q := by
  rw [Bool.eq_iff_iff, allR_iff, allR_iff]
  exact ⟨fun g i hi => (h i hi) ▸ g i hi, fun g i hi => (h i hi) ▸ g i hi⟩
theorem sameInts_iff : ∀ {xs ys : List Int}, sameBy (fun a b => a == b) xs ys = true ↔ xs = ys
  | [], [] => by simp [sameBy]
  | [], _ :: _ => by simp [sameBy]
  | _ :: _, [] => by simp [sameBy]
  | x :: xs, y :: ys => by simp [sameBy, sameInts_iff (xs := xs) (ys := ys)]

end Go.Proofs.YtnafogjagbhdbaaDoor.Pi
