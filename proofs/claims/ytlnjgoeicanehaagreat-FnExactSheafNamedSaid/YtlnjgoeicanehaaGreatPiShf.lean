/- Sheaves and worlds that are valid; plain. No statement of the seat is proved here. -/
import Derived.Test.YtlnjgoeicanehaaGreatPiCx
import Derived.Test.YtlnjgoeicanehaaGreatPiMat
import Derived.Test.YtlnjgoeicanehaaGreatPiEncW
import Derived.Test.YtlnjgoeicanehaaGreatPiFMatrix
import Derived.Test.YtlnjgoeicanehaaGreatPiFSameProof
namespace Go.Proofs.YtlnjgoeicanehaaGreat.Pi
open Go
set_option linter.unusedVariables false

structure Arrow where
  simplex : Int
  place : Int
  face : Int
instance : Enc Arrow := ⟨fun s => [.int .i64 s.simplex, .int .i64 s.place, .int .i64 s.face], 3, fun s => Enc.ok s.simplex ∧ Enc.ok s.place ∧ Enc.ok s.face, fun s => 0, fun _ => rfl⟩

def faceIx (xs : List (List Int)) (k : Nat) : List Int := (facesL (xs.getD k [])).map (ixS xs)
def placeL (xs : List (List Int)) (k : Nat) : Nat := ((xs.take k).map fun s => (facesL s).length).sum
theorem placeL_zero (xs : List (List Int)) : placeL xs 0 = 0 := by simp [placeL]
theorem placeL_succ {xs : List (List Int)} {k : Nat} (h : k < xs.length) : placeL xs (k + 1) = placeL xs k + (facesL xs[k]).length := by
  simp only [placeL, List.take_add_one, List.getElem?_eq_getElem h, Option.toList_some, List.map_append, List.map_cons, List.map_nil, List.sum_append, List.sum_cons, List.sum_nil, Nat.add_zero]
theorem placeL_mono {xs : List (List Int)} {k j : Nat} (h : k ≤ j) (hj : j ≤ xs.length) : placeL xs k ≤ placeL xs j := by
  induction j with
  | zero => obtain rfl : k = 0 := by omega
            exact Nat.le_refl _
  | succ j ih =>
    by_cases e : k = j + 1
    · subst e; exact Nat.le_refl _
    · rw [placeL_succ (by omega)]
      exact Nat.le_trans (ih (by omega) (by omega)) (Nat.le_add_right _ _)
theorem placeL_le {xs : List (List Int)} (h : ∀ s ∈ xs, (facesL s).length ≤ 4) (k : Nat) : placeL xs k ≤ 4 * k := by
  induction k with
  | zero => simp [placeL_zero]
  | succ k ih =>
    by_cases hk : k < xs.length
    · rw [placeL_succ hk]
      have := h _ (List.getElem_mem hk)
      omega
    · have e : placeL xs (k + 1) = placeL xs k := by
        unfold placeL; rw [List.take_of_length_le (by omega), List.take_of_length_le (by omega)]
      rw [e]; omega
theorem faceIx_len {xs : List (List Int)} {k : Nat} (h : k < xs.length) : (faceIx xs k).length = (facesL xs[k]).length := by
  simp [faceIx, List.getD, List.getElem?_eq_getElem h]
def arrowsAt (xs : List (List Int)) (k : Nat) : List Arrow := (List.range (faceIx xs k).length).map fun (i : Nat) => (⟨(k : Int), (i : Int), (faceIx xs k).getD i 0⟩ : Arrow)
theorem arrowsAt_len (xs : List (List Int)) (k : Nat) : (arrowsAt xs k).length = (faceIx xs k).length := by simp [arrowsAt]
def arrowsTo (xs : List (List Int)) (k : Nat) : List Arrow := (List.range k).flatMap (arrowsAt xs)
def arrowsL (xs : List (List Int)) : List Arrow := arrowsTo xs xs.length
theorem arrowsTo_succ (xs : List (List Int)) (k : Nat) : arrowsTo xs (k + 1) = arrowsTo xs k ++ arrowsAt xs k := by
  simp [arrowsTo, List.range_succ]
theorem arrowsTo_len (xs : List (List Int)) : ∀ {k : Nat}, k ≤ xs.length → (arrowsTo xs k).length = placeL xs k
  | 0, _ => by simp [arrowsTo, placeL_zero]
  | k + 1, h => by
    rw [arrowsTo_succ, List.length_append, arrowsTo_len xs (by omega), arrowsAt_len, faceIx_len (by omega), placeL_succ (by omega)]
theorem arrowsTo_get (xs : List (List Int)) : ∀ {n k i : Nat}, k < n → n ≤ xs.length → i < (faceIx xs k).length → (arrowsTo xs n)[placeL xs k + i]? = some ⟨(k : Int), (i : Int), (faceIx xs k).getD i 0⟩
  | 0, _, _, h, _, _ => by omega
  | n + 1, k, i, h, hn, hi => by
    rw [arrowsTo_succ]
    have hl := arrowsTo_len xs (k := n) (by omega)
    by_cases e : k = n
    · subst e
      rw [List.getElem?_append_right (by omega), hl, Nat.add_sub_cancel_left]
      simp [arrowsAt, hi]
    · have h1 : placeL xs (k + 1) ≤ placeL xs n := placeL_mono (by omega) (by omega)
      rw [placeL_succ (by omega), ← faceIx_len (by omega)] at h1
      rw [List.getElem?_append_left (by omega)]
      exact arrowsTo_get xs (by omega) (by omega) hi
theorem arrows_split (xs : List (List Int)) : ∀ {n j : Nat}, n ≤ xs.length → j < placeL xs n → ∃ k i, k < n ∧ i < (faceIx xs k).length ∧ j = placeL xs k + i
  | 0, j, _, h => by rw [placeL_zero] at h; omega
  | n + 1, j, hn, h => by
    rw [placeL_succ (by omega)] at h
    by_cases hj : j < placeL xs n
    · obtain ⟨k, i, h1, h2, h3⟩ := arrows_split xs (n := n) (by omega) hj
      exact ⟨k, i, by omega, h2, h3⟩
    · exact ⟨n, j - placeL xs n, by omega, by rw [faceIx_len (by omega)]; omega, by omega⟩

/-- The simplices of a dimension. -/
def dimIx (xs : List (List Int)) (d : Int) : List Nat := (List.range xs.length).filter fun i => decide (((xs.getD i []).length : Int) = d + 1)
def stalkSum (xs : List (List Int)) (st : List Int) (d : Int) : Int := ((dimIx xs d).map fun i => st.getD i 0).sum
def okStalk (n : Int) : Bool := decide (0 ≤ n) && decide (n ≤ 3)
def okStalks (xs : List (List Int)) (st : List Int) : Bool := (decide (st.length = xs.length) && st.all okStalk) && (List.range 4).all fun d => decide (stalkSum xs st d ≤ 32)
def okBetween (m : Matrix) (p fro to : Int) : Bool := okMatrix m && ((m.prime == p) && ((m.rows == to) && (m.columns == fro)))
def mapStep (s : Sheaf) (i : Nat) (a : Arrow) : Bool := match s.maps[i]? with
  | none => false
  | some m => okBetween m s.prime (s.stalks.getD a.face.toNat 0) (s.stalks.getD a.simplex.toNat 0)
def okMaps (s : Sheaf) : Bool := allIx (mapStep s) 0 (arrowsL s.base.simplices) && decide ((arrowsL s.base.simplices).length = s.maps.length)
def okSheaf (s : Sheaf) : Bool := okComplex s.base && (okPrime s.prime && (okStalks s.base.simplices s.stalks && okMaps s))

def zMat : Matrix := ⟨0, 0, 0, []⟩
def mapAt (s : Sheaf) (k i : Nat) : Matrix := s.maps.getD (placeL s.base.simplices k + i) zMat
def faceN (s : Sheaf) (k i : Nat) : Nat := ((faceIx s.base.simplices k).getD i 0).toNat
/-- One way round a square. -/
def wayAt (s : Sheaf) (k i j : Nat) : Matrix := mulM (mapAt s k i) (mapAt s (faceN s k i) (if i < j then j - 1 else j))
def badAt (s : Sheaf) (k i j : Nat) : Bool := !(sameMatrix (wayAt s k i j) (wayAt s k j i))
def lenAt (s : Sheaf) (k : Nat) : Nat := (s.base.simplices.getD k []).length
def wrJ (s : Sheaf) (k i j : Nat) : Option (Nat × Nat × Nat) := if i < j ∧ 3 ≤ lenAt s k ∧ badAt s k i j = true then some (k, i, j) else none
def wrI (s : Sheaf) (k i : Nat) : Option (Nat × Nat × Nat) := (List.range (lenAt s k)).findSome? (wrJ s k i)
def wrK (s : Sheaf) (k : Nat) : Option (Nat × Nat × Nat) := (List.range (lenAt s k)).findSome? (wrI s k)
def wrong (s : Sheaf) : Option (Nat × Nat × Nat) := (List.range s.base.simplices.length).findSome? (wrK s)
theorem fsr_some {α : Type} {g : Nat → Option α} {v : α} : ∀ {n k : Nat}, k < n → (∀ j, j < k → g j = none) → g k = some v → (List.range n).findSome? g = some v
  | 0, _, h, _, _ => by omega
  | n + 1, k, h, h1, h2 => by
    rw [List.range_succ, List.findSome?_append]
    by_cases e : k = n
    · subst e
      have : (List.range k).findSome? g = none := by rw [List.findSome?_eq_none_iff]; exact fun x hx => h1 x (List.mem_range.1 hx)
      rw [this]; simp [h2]
    · rw [fsr_some (by omega) h1 h2]; rfl
theorem fsr_none {α : Type} {g : Nat → Option α} {n : Nat} (h : ∀ j, j < n → g j = none) : (List.range n).findSome? g = none := by
  rw [List.findSome?_eq_none_iff]; exact fun x hx => h x (List.mem_range.1 hx)
def isSheaf (s : Sheaf) : Bool := okSheaf s && (wrong s).isNone

/-! ### what a valid sheaf has -/
theorem okSheaf_of {s : Sheaf} (h : okSheaf s = true) : okSimps s.base.simplices = true ∧ okPrime s.prime = true ∧ okStalks s.base.simplices s.stalks = true ∧ okMaps s = true := by
  simp only [okSheaf, okComplex, Bool.and_eq_true] at h
  exact ⟨h.1, h.2.1, h.2.2.1, h.2.2.2⟩
theorem face_at {xs : List (List Int)} (h : okSimps xs = true) {k i : Nat} (hk : k < xs.length) (hi : i < (faceIx xs k).length) : ∃ (n : Nat) (hn : n < xs.length), n < k ∧ (faceIx xs k).getD i 0 = n ∧ xs[n].length + 1 = xs[k].length := by
  have e : xs.getD k [] = xs[k] := by simp [List.getD, List.getElem?_eq_getElem hk]
  have hi2 : i < (facesL xs[k]).length := by rw [← faceIx_len hk]; exact hi
  have hm : (facesL xs[k])[i] ∈ facesL xs[k] := List.getElem_mem hi2
  obtain ⟨n, hn, h1, h2, h3⟩ := okSimps_face h hk hm
  refine ⟨n, hn, h1, ?_, by rw [h3]; exact facesL_mem hm⟩
  show ((facesL (xs.getD k [])).map (ixS xs)).getD i 0 = n
  rw [e]
  simp only [List.getD, List.getElem?_map, List.getElem?_eq_getElem hi2, Option.map_some, Option.getD_some, h2]
theorem okMatrix_OK {m : Matrix} (h : okMatrix m = true) : MatOK m m.rows.toNat m.columns.toNat := by
  have h0 := okMatrix_of h
  simp only [okMatrix, Bool.and_eq_true, decide_eq_true_eq, beq_iff_eq] at h
  refine ⟨h0.1, by omega, by omega, ?_, ?_, by omega, by omega⟩
  · have e := h.2.2.2.1
    have h1 : (m.rows.toNat : Int) = m.rows := by omega
    have h2 : (m.columns.toNat : Int) = m.columns := by omega
    have : (m.cells.length : Int) = ((m.rows.toNat * m.columns.toNat : Nat) : Int) := by rw [e]; push_cast; rw [h1, h2]
    exact Int.ofNat_inj.1 this
  · intro x hx
    have := List.all_eq_true.1 h.2.2.2.2 x hx
    simp only [okEl, Bool.and_eq_true, decide_eq_true_eq] at this
    omega
theorem okMaps_at {s : Sheaf} (h : okSheaf s = true) {k i : Nat} (hk : k < s.base.simplices.length) (hi : i < (faceIx s.base.simplices k).length) :
    ∃ hm : placeL s.base.simplices k + i < s.maps.length, mapAt s k i = s.maps[placeL s.base.simplices k + i] ∧ MatOK (mapAt s k i) (s.stalks.getD k 0).toNat (s.stalks.getD (faceN s k i) 0).toNat ∧ (mapAt s k i).prime = s.prime ∧ (mapAt s k i).rows = s.stalks.getD k 0 ∧ (mapAt s k i).columns = s.stalks.getD (faceN s k i) 0 := by
  obtain ⟨h1, h2, h3, h4⟩ := okSheaf_of h
  simp only [okMaps, Bool.and_eq_true, decide_eq_true_eq] at h4
  have hlen : placeL s.base.simplices k + i < (arrowsL s.base.simplices).length := by
    rw [arrowsL, arrowsTo_len _ (Nat.le_refl _)]
    have := placeL_mono (xs := s.base.simplices) (k := k + 1) (j := s.base.simplices.length) (by omega) (Nat.le_refl _)
    rw [placeL_succ hk, ← faceIx_len hk] at this
    omega
  have hm : placeL s.base.simplices k + i < s.maps.length := by omega
  have hst := (allIx_iff.1 h4.1) _ hlen
  have hg := arrowsTo_get s.base.simplices hk (Nat.le_refl _) hi
  have hg2 : (arrowsL s.base.simplices)[placeL s.base.simplices k + i] = ⟨(k : Int), (i : Int), (faceIx s.base.simplices k).getD i 0⟩ := by
    have h9 : (arrowsTo s.base.simplices s.base.simplices.length)[placeL s.base.simplices k + i]? = some ((arrowsL s.base.simplices)[placeL s.base.simplices k + i]) := List.getElem?_eq_getElem hlen
    rw [hg] at h9
    exact (Option.some.inj h9).symm
  rw [hg2] at hst
  simp only [mapStep, List.getElem?_eq_getElem hm, Int.toNat_natCast] at hst
  have e : mapAt s k i = s.maps[placeL s.base.simplices k + i] := by simp [mapAt, List.getD, List.getElem?_eq_getElem hm]
  refine ⟨hm, e, ?_⟩
  rw [← e] at hst
  simp only [okBetween, Bool.and_eq_true, beq_iff_eq] at hst
  have ok := okMatrix_OK hst.1
  have e1 := hst.2.2.1
  have e2 := hst.2.2.2
  refine ⟨?_, hst.2.1, e1, e2⟩
  rw [e1, e2] at ok
  exact ok

/-! ### worlds -/
def okCName (xs : List NamedComplex) : Bool := okNames (xs.map (·.name)) && decide (xs.length ≤ 8)
def okSName (xs : List NamedSheaf) : Bool := okNames (xs.map (·.name)) && decide (xs.length ≤ 8)
def apartW (w : World) : Bool := w.complexes.all fun c => !((w.sheaves.map (·.name)).any fun x => c.name.toList == x.toList)
def okWorld (w : World) : Bool := (okCName w.complexes && okSName w.sheaves) && (apartW w && (w.complexes.all (fun c => okComplex c.value) && w.sheaves.all fun s => isSheaf s.value))
end Go.Proofs.YtlnjgoeicanehaaGreat.Pi
