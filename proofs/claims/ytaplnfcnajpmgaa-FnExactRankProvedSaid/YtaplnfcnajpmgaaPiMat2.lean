/- Matrices that are alike; proofs that are right. No statement of the seat is proved here. -/
import Derived.Test.YtaplnfcnajpmgaaPiMat
import Derived.Test.YtaplnfcnajpmgaaPiFStated
import Derived.Test.YtaplnfcnajpmgaaPiFSameProof
namespace Go.Proofs.Ytaplnfcnajpmgaa.Pi
open Go
set_option linter.unusedVariables false

theorem MatOK.cells_eq {m : Matrix} {r c : Nat} (ok : MatOK m r c) : m.cells = grid r c (cellAt m) := by
  refine List.ext_getElem (by rw [ok.len, grid_len]) fun q h1 h2 => ?_
  obtain ⟨i, j, hi, hj, rfl⟩ := ij_split (ok.len ▸ h1)
  have e := grid_get (f := cellAt m) hi hj
  rw [List.getElem?_eq_getElem h2] at e
  rw [Option.some.inj e, ok.cell hi hj]
theorem grid_eq_iff {r c : Nat} {f g : Nat → Nat → Int} : grid r c f = grid r c g ↔ ∀ i j, i < r → j < c → f i j = g i j := by
  constructor
  · intro h i j hi hj
    have e := grid_get (f := f) hi hj
    rw [h, grid_get hi hj] at e
    exact (Option.some.inj e).symm
  · exact grid_congr
theorem sameInt_iff {xs ys : List Int} : sameBy sameInt xs ys = true ↔ xs = ys := sameInts_iff
theorem sameMatrix_iff {x y : Matrix} {r c : Nat} (hx : MatOK x r c) (hy : MatOK y r c) (hp : x.prime = y.prime) : sameMatrix x y = true ↔ ∀ i j, i < r → j < c → cellAt x i j = cellAt y i j := by
  simp only [sameMatrix, Bool.and_eq_true, sameInt_iff, hx.cells_eq, hy.cells_eq, grid_eq_iff]
  simp only [sameInt, hp, hx.rows, hy.rows, hx.columns, hy.columns, beq_self_eq_true, true_and]
theorem mul_cell {a b : Matrix} {r k c : Nat} (ha : MatOK a r k) (hb : MatOK b k c) {i j : Nat} (hi : i < r) (hj : j < c) : cellAt (mulM a b) i j = dotM a.prime (rowL a i) (colL b j) := by
  unfold cellAt
  rw [(mul_ok ha hb).cn]
  show (grid a.rows.toNat b.columns.toNat _).getD _ 0 = _
  rw [ha.rn, hb.cn, grid_getD hi hj]
theorem unit_cell {p : Int} {n i j : Nat} (hi : i < n) (hj : j < n) : cellAt (unitM p n) i j = if i = j then 1 else 0 := by
  show (grid n n _).getD (i * n + j) 0 = _
  rw [grid_getD hi hj]

theorem okVec_of {p n : Int} {x : List Int} (h : okVec p n x = true) : (x.length : Int) = n ∧ El p x := by
  simp only [okVec, okEls, okEl, Bool.and_eq_true, beq_iff_eq, List.all_eq_true, decide_eq_true_eq] at h
  exact ⟨h.1, fun y hy => by have := h.2 y hy; omega⟩
theorem vecs_of {p : Int} {n : Nat} {xs : List (List Int)} (h : okVecs p n xs = true) : VecsOK p n xs := fun x hx => by
  obtain ⟨h1, h2⟩ := okVec_of (List.all_eq_true.1 h x hx)
  exact ⟨by omega, h2⟩
theorem mat_of {m : Matrix} (h : okMatrix m = true) : MatOK m m.rows.toNat m.columns.toNat := by
  have hb := okMatrix_of h
  simp only [okMatrix, Bool.and_eq_true, beq_iff_eq] at h
  obtain ⟨_, _, _, h4, h5⟩ := h
  have h6 : El m.prime m.cells := fun y hy => by
    simp only [okEls, okEl, Bool.and_eq_true, List.all_eq_true, decide_eq_true_eq] at h5
    have := h5 y hy; omega
  obtain ⟨r, hr⟩ : ∃ r : Nat, m.rows = r := ⟨m.rows.toNat, by omega⟩
  obtain ⟨c, hc⟩ : ∃ c : Nat, m.columns = c := ⟨m.columns.toNat, by omega⟩
  rw [hr, hc] at h4
  have e : m.cells.length = r * c := by
    have : ((m.cells.length : Nat) : Int) = ((r * c : Nat) : Int) := by rw [h4]; push_cast; rfl
    omega
  exact ⟨hb.1, by omega, by omega, by rw [hr, hc]; exact e, h6, by omega, by omega⟩

/-- A list is 1 at one place, else 0. -/
def unitAt (x : List Int) (at' : Nat) : Bool := (List.range x.length).all fun i => x.getD i 0 == if i = at' then 1 else 0
def nz (xs : List Int) : Bool := xs.any fun x => x != 0
def pairT (v : List (List Int)) (n r c i : Nat) : Int := (v.getD i []).getD r 0 * (v.getD (n + i) []).getD c 0
def rightOf (q : Proof) : Bool :=
  if q.kind == 1 then sameBy sameInt (applyM q.claim (q.vectors.getD 1 [])) (q.vectors.getD 0 [])
  else if q.kind == 2 then !nz (leftM q.claim (q.vectors.getD 1 [])) && (dotM q.claim.prime (q.vectors.getD 0 []) (q.vectors.getD 1 []) == 1)
  else if q.kind == 3 then !nz (applyM q.claim (q.vectors.getD 0 [])) && nz (q.vectors.getD 0 [])
  else if q.kind == 4 then (List.range q.vectors.length).all fun i => unitAt (leftM q.claim (q.vectors.getD i [])) i
  else if q.kind == 5 then (List.range (q.vectors.length / 2)).all fun k => (List.range (q.vectors.length / 2)).all fun i => dotM q.claim.prime (q.vectors.getD (q.vectors.length / 2 + i) []) (applyM q.claim (q.vectors.getD k [])) == if i = k then 1 else 0
  else (List.range q.claim.rows.toNat).all fun r => (List.range q.claim.columns.toNat).all fun c => sumN (pairT q.vectors (q.vectors.length / 2) r c) (q.vectors.length / 2) % q.claim.prime == cellAt q.claim r c

section
variable {k : Int} {m : Matrix} {v : List (List Int)} {r c : Nat}
theorem st1 (ok : MatOK m r c) (h : stated ⟨1, m, v⟩ = true) : ∃ a b, v = [a, b] ∧ a.length = r ∧ El m.prime a ∧ b.length = c ∧ El m.prime b := by
  simp only [stated, ok.rows, ok.columns] at h
  simp only [beq_self_eq_true, if_true, Bool.and_eq_true, beq_iff_eq] at h
  obtain ⟨h1, h2, h3⟩ := h
  match v, h1 with
  | [a, b], _ =>
    have g1 := vecs_of h2 a (by simp)
    have g2 := vecs_of h3 b (by simp)
    exact ⟨a, b, rfl, g1.1, g1.2, g2.1, g2.2⟩
  | [], h1 => simp at h1
  | [_], h1 => simp at h1
  | _ :: _ :: _ :: _, h1 => simp at h1; omega
theorem st2 (ok : MatOK m r c) (h : stated ⟨2, m, v⟩ = true) : ∃ a b, v = [a, b] ∧ a.length = r ∧ El m.prime a ∧ b.length = r ∧ El m.prime b := by
  simp only [stated, ok.rows, ok.columns] at h
  simp only [beq_self_eq_true, if_true, Bool.and_eq_true, beq_iff_eq, show ((2 : Int) == 1) = false from rfl, Bool.false_eq_true, if_false] at h
  obtain ⟨h1, h2⟩ := h
  match v, h1 with
  | [a, b], _ =>
    have g1 := vecs_of h2 a (by simp)
    have g2 := vecs_of h2 b (by simp)
    exact ⟨a, b, rfl, g1.1, g1.2, g2.1, g2.2⟩
  | [], h1 => simp at h1
  | [_], h1 => simp at h1
  | _ :: _ :: _ :: _, h1 => simp at h1; omega
theorem st3 (ok : MatOK m r c) (h : stated ⟨3, m, v⟩ = true) : ∃ a, v = [a] ∧ a.length = c ∧ El m.prime a := by
  simp only [stated, ok.rows, ok.columns] at h
  simp only [beq_self_eq_true, if_true, Bool.and_eq_true, beq_iff_eq, show ((3 : Int) == 1) = false from rfl, show ((3 : Int) == 2) = false from rfl, Bool.false_eq_true, if_false] at h
  obtain ⟨h1, h2⟩ := h
  match v, h1 with
  | [a], _ =>
    have g1 := vecs_of h2 a (by simp)
    exact ⟨a, rfl, g1.1, g1.2⟩
  | [], h1 => simp at h1
  | _ :: _ :: _, h1 => simp at h1; omega
theorem st4 (ok : MatOK m r c) (h : stated ⟨4, m, v⟩ = true) : v.length = c ∧ VecsOK m.prime r v := by
  simp only [stated, ok.rows, ok.columns] at h
  simp only [beq_self_eq_true, if_true, Bool.and_eq_true, beq_iff_eq, show ((4 : Int) == 1) = false from rfl, show ((4 : Int) == 2) = false from rfl, show ((4 : Int) == 3) = false from rfl, Bool.false_eq_true, if_false] at h
  exact ⟨by omega, vecs_of h.2⟩
theorem st5 (ok : MatOK m r c) (h : stated ⟨5, m, v⟩ = true) : v.length = 2 * (v.length / 2) ∧ VecsOK m.prime c (v.take (v.length / 2)) ∧ VecsOK m.prime r (v.drop (v.length / 2)) := by
  simp only [stated, ok.rows, ok.columns] at h
  simp only [beq_self_eq_true, if_true, Bool.and_eq_true, beq_iff_eq, show ((5 : Int) == 1) = false from rfl, show ((5 : Int) == 2) = false from rfl, show ((5 : Int) == 3) = false from rfl, show ((5 : Int) == 4) = false from rfl, Bool.false_eq_true, if_false] at h
  rw [Int.tmod_eq_emod_of_nonneg (by omega)] at h
  exact ⟨by omega, vecs_of h.2.1, vecs_of h.2.2⟩
theorem st6 (ok : MatOK m r c) (h : stated ⟨6, m, v⟩ = true) : v.length = 2 * (v.length / 2) ∧ VecsOK m.prime r (v.take (v.length / 2)) ∧ VecsOK m.prime c (v.drop (v.length / 2)) := by
  simp only [stated, ok.rows, ok.columns] at h
  simp only [beq_self_eq_true, if_true, Bool.and_eq_true, beq_iff_eq, show ((6 : Int) == 1) = false from rfl, show ((6 : Int) == 2) = false from rfl, show ((6 : Int) == 3) = false from rfl, show ((6 : Int) == 4) = false from rfl, show ((6 : Int) == 5) = false from rfl, Bool.false_eq_true, if_false] at h
  rw [Int.tmod_eq_emod_of_nonneg (by omega)] at h
  exact ⟨by omega, vecs_of h.2.1, vecs_of h.2.2⟩
theorem st_kind (h : stated ⟨k, m, v⟩ = true) : k = 1 ∨ k = 2 ∨ k = 3 ∨ k = 4 ∨ k = 5 ∨ k = 6 := by
  simp only [stated, beq_iff_eq] at h
  repeat' split at h
  all_goals first | omega | (simp at h)

theorem leftM_get (ok : MatOK m r c) (y : List Int) {j : Nat} (hj : j < c) : (leftM m y).getD j 0 = dotM m.prime y (colL m j) := by
  unfold leftM
  rw [ok.cn, List.getD_eq_getElem?_getD, List.getElem?_map, List.getElem?_range hj]; rfl

/-- Products with a matrix give the unit matrix. -/
theorem inj_iff (ok : MatOK m r c) (hl : v.length = c) (hv : VecsOK m.prime r v) : sameMatrix (mulM (ofRows m.prime r v) m) (unitM m.prime c) = (List.range v.length).all fun i => unitAt (leftM m (v.getD i [])) i := by
  have ho := ofRows_ok hv ok.p ok.rb (hl ▸ ok.cb)
  rw [hl] at ho
  have hm := mul_ok ho ok
  have hu := unit_ok (n := c) ok.p ok.cb
  rw [Bool.eq_iff_iff, sameMatrix_iff hm hu rfl, allR_iff, hl]
  have key : ∀ i j, i < c → j < c → (cellAt (mulM (ofRows m.prime r v) m) i j = cellAt (unitM m.prime c) i j ↔ ((leftM m (v.getD i [])).getD j 0 == if j = i then 1 else 0) = true) := fun i j hi hj => by
    have hi' : i < v.length := by omega
    rw [mul_cell ho ok hi hj, unit_cell hi hj, leftM_get ok _ hj, ofRows_row hv ok.p ok.rb (by rw [hl]; exact ok.cb) hi', getD_lt _ _ hi', beq_iff_eq]
    have : (if i = j then (1 : Int) else 0) = if j = i then 1 else 0 := by
      by_cases e : i = j
      · rw [if_pos e, if_pos e.symm]
      · rw [if_neg e, if_neg fun h => e h.symm]
    rw [this]; rfl
  constructor
  · intro h i hi
    refine allR_iff.2 fun j hj => ?_
    rw [leftM_len ok] at hj
    exact (key i j hi hj).1 (h i j hi hj)
  · intro h i j hi hj
    exact (key i j hi hj).2 (allR_iff.1 (h i hi) j (by rw [leftM_len ok]; exact hj))

/-- A product is a matrix. -/
theorem atMost_iff (ok : MatOK m r c) {n : Nat} (hl : v.length = 2 * n) (h1 : VecsOK m.prime r (v.take n)) (h2 : VecsOK m.prime c (v.drop n)) (hn : n ≤ 4096) :
    sameMatrix (mulM (transM (ofRows m.prime r (v.take n))) (ofRows m.prime c (v.drop n))) m = (List.range r).all fun i => (List.range c).all fun j => sumN (pairT v n i j) n % m.prime == cellAt m i j := by
  have l1 : (v.take n).length = n := by simp; omega
  have l2 : (v.drop n).length = n := by simp; omega
  have o1 := ofRows_ok h1 ok.p ok.rb (by omega)
  have o2 := ofRows_ok h2 ok.p ok.cb (by omega)
  rw [l1] at o1; rw [l2] at o2
  have hm := mul_ok o1.trans o2
  rw [Bool.eq_iff_iff, sameMatrix_iff hm ok rfl, allR_iff]
  have key : ∀ i j, i < r → j < c → cellAt (mulM (transM (ofRows m.prime r (v.take n))) (ofRows m.prime c (v.drop n))) i j = sumN (pairT v n i j) n % m.prime := fun i j hi hj => by
    rw [mul_cell o1.trans o2 hi hj, o1.transRow hi]
    unfold dotM
    rw [o1.colLen]
    show sumN _ n % m.prime = _
    congr 1
    refine sumN_congr fun q hq => ?_
    have hq1 : q < (v.take n).length := by omega
    have hq2 : q < (v.drop n).length := by omega
    unfold dotT pairT
    rw [o1.colGet i hq, o2.colGet j hq, ofRows_cell h1 hq1 hi, ofRows_cell h2 hq2 hj]
    rw [List.getElem_take, List.getElem_drop, getD_lt v _ (by omega), getD_lt v _ (by omega)]
  constructor
  · intro h i hi
    refine allR_iff.2 fun j hj => ?_
    rw [beq_iff_eq, ← key i j hi hj]; exact h i j hi hj
  · intro h i j hi hj
    rw [key i j hi hj]
    exact beq_iff_eq.1 (allR_iff.1 (h i hi) j hj)
end

end Go.Proofs.Ytaplnfcnajpmgaa.Pi
