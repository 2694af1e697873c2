/- Sheaves that are valid, the program. No statement of the seat is proved here. -/
import Derived.Test.YtlnjgoeicanehaaGreatPiFCx2
import Derived.Test.YtlnjgoeicanehaaGreatPiShf
namespace Go.Proofs.YtlnjgoeicanehaaGreat.Pi
open Go
set_option maxRecDepth 10000
set_option maxHeartbeats 1600000
set_option linter.unusedVariables false
set_option linter.unusedSimpArgs false

theorem getD_at {α : Type} {xs : List α} {i : Nat} (h : i < xs.length) (d : α) : xs.getD i d = xs[i] := by simp [List.getD, List.getElem?_eq_getElem h]
def dimUp (xs : List (List Int)) (d : Int) (i : Nat) : List Int := ((List.range i).filter fun j => decide (((xs.getD j []).length : Int) = d + 1)).map fun (j : Nat) => (j : Int)
theorem dimUp_yes {xs : List (List Int)} {d : Int} {i : Nat} (h : ((xs.getD i []).length : Int) = d + 1) : dimUp xs d (i + 1) = dimUp xs d i ++ [(i : Int)] := by
  rw [dimUp, List.range_succ, List.filter_append, List.map_append]
  simp only [List.filter_cons, List.filter_nil, h, decide_true, if_true, List.map_cons, List.map_nil]; rfl
theorem dimUp_no {xs : List (List Int)} {d : Int} {i : Nat} (h : ¬ ((xs.getD i []).length : Int) = d + 1) : dimUp xs d (i + 1) = dimUp xs d i := by
  rw [dimUp, List.range_succ, List.filter_append, List.map_append]
  simp only [List.filter_cons, List.filter_nil, decide_eq_false h, Bool.false_eq_true, if_false, List.map_nil, List.append_nil]; rfl
theorem dimUp_len (xs : List (List Int)) (d : Int) (i : Nat) : (dimUp xs d i).length ≤ i := by
  simp only [dimUp, List.length_map]
  exact Nat.le_trans (List.length_filter_le _ _) (by simp)
theorem s_simplicesOf (c : Complex) (d : Int) (hd : 0 ≤ d ∧ d ≤ 100) (hb : c.simplices.length ≤ 1048576) : Sat Tryz.prog 138 [(true, Enc.enc c), (false, [.int .i64 d])] (.one (.rs 0), [(0, .arr 1 ((dimUp c.simplices d c.simplices.length).map Enc.enc))]) := by
  obtain ⟨xs⟩ := c
  simp only at hb ⊢
  refine Sat.intro tok mixed Tryz.func138 rfl rfl ?_
  ((conv => whnf); repeat ((first | refine B0 ?_ | refine B1 ?_ | refine D1 ?_ | refine D2 ?_ | refine CallC.r ?_); conv => whnf))
  refine Pick.mk [1, 5, 9, 10, 11] trivial ?_
  ((conv => whnf); repeat ((first | refine B0 ?_ | refine B1 ?_ | refine D1 ?_ | refine D2 ?_ | refine CallC.r ?_); conv => whnf))
  refine LoopL.over (fun (i : Nat) => [(11, .one (.c (.int .i64 ((i : Int)))))]) (fun (i : Nat) => [(320, .arr 1 (List.map Enc.enc (dimUp xs d i)))]) (fun (i : Nat) => xs.length - i) (fun (i : Nat) => i ≤ xs.length) ?_ 0 (Nat.zero_le _)
  intro i hi ih
  have hlen := dimUp_len xs d i
  ((conv => whnf); repeat ((first | refine B0 ?_ | refine B1 ?_ | refine D1 ?_ | refine D2 ?_ | refine CallC.r ?_); conv => whnf))
  refine Br.mk (fun h => ?_) (fun h => ?_) <;> ((conv => whnf); repeat ((first | refine B0 ?_ | refine B1 ?_ | refine D1 ?_ | refine D2 ?_ | refine CallC.r ?_); conv => whnf))
  · have h : i < xs.length := by simp only [List.length_map, decide_eq_true_eq] at h; omega
    refine Pick.ix (h) ?_
    ((conv => whnf); repeat ((first | refine B0 ?_ | refine B1 ?_ | refine D1 ?_ | refine D2 ?_ | refine CallC.r ?_); conv => whnf))
    refine Pick.mk _ (s_sizeInt xs[i]) ?_
    ((conv => whnf); repeat ((first | refine B0 ?_ | refine B1 ?_ | refine D1 ?_ | refine D2 ?_ | refine CallC.r ?_); conv => whnf))
    refine Pick.at64 (z := d + 1) rfl (by omega) ?_
    ((conv => whnf); repeat ((first | refine B0 ?_ | refine B1 ?_ | refine D1 ?_ | refine D2 ?_ | refine CallC.r ?_); conv => whnf))
    have hn := ih (i + 1) (by omega) (by omega)
    refine Br.mk (fun h5 => ?_) (fun h5 => ?_) <;> ((conv => whnf); repeat ((first | refine B0 ?_ | refine B1 ?_ | refine D1 ?_ | refine D2 ?_ | refine CallC.r ?_); conv => whnf))
    · refine Side.mk (by simp only [List.length_map, List.length_cons, List.length_nil]; omega) ?_
      ((conv => whnf); repeat ((first | refine B0 ?_ | refine B1 ?_ | refine D1 ?_ | refine D2 ?_ | refine CallC.r ?_); conv => whnf))
      refine Pick.at64 (z := (i + 1 : Nat)) (by simp) (by omega) ?_
      ((conv => whnf); repeat ((first | refine B0 ?_ | refine B1 ?_ | refine D1 ?_ | refine D2 ?_ | refine CallC.r ?_); conv => whnf))
      rw [dimUp_yes (by rw [getD_at h]; simpa using h5), List.map_append] at hn
      exact hn
    · refine Pick.at64 (z := (i + 1 : Nat)) (by simp) (by omega) ?_
      ((conv => whnf); repeat ((first | refine B0 ?_ | refine B1 ?_ | refine D1 ?_ | refine D2 ?_ | refine CallC.r ?_); conv => whnf))
      rw [dimUp_no (by rw [getD_at h]; simpa using h5)] at hn
      exact hn
  · have h : i = xs.length := by simp only [List.length_map, decide_eq_false_iff_not] at h; omega
    subst h
    exact ResOK.same rfl

theorem dimUp_eq (xs : List (List Int)) (d : Int) : dimUp xs d xs.length = (dimIx xs d).map fun (j : Nat) => (j : Int) := rfl
theorem dimIx_lt {xs : List (List Int)} {d : Int} {j : Nat} (h : j ∈ dimIx xs d) : j < xs.length := by
  unfold dimIx at h
  have := (List.mem_filter.1 h).1
  exact List.mem_range.1 this
def StOK (n : Nat) (st : List Int) : Prop := st.length = n ∧ ∀ x ∈ st, 0 ≤ x ∧ x ≤ 3
def sumUp (xs : List (List Int)) (st : List Int) (d : Int) (i : Nat) : Int := (((dimIx xs d).take i).map fun j => st.getD j 0).sum
theorem sumUp_succ {xs : List (List Int)} {st : List Int} {d : Int} {i : Nat} (h : i < (dimIx xs d).length) : sumUp xs st d (i + 1) = sumUp xs st d i + st.getD (dimIx xs d)[i] 0 := by
  simp only [sumUp, List.take_add_one, List.getElem?_eq_getElem h, Option.toList_some, List.map_append, List.map_cons, List.map_nil, List.sum_append, List.sum_cons, List.sum_nil, Int.add_zero]
theorem StOK.at {n : Nat} {st : List Int} (h : StOK n st) (j : Nat) : 0 ≤ st.getD j 0 ∧ st.getD j 0 ≤ 3 := by
  by_cases hj : j < st.length
  · rw [getD_at hj]; exact h.2 _ (List.getElem_mem hj)
  · simp [List.getD, List.getElem?_eq_none (by omega : st.length ≤ j)]
theorem sumUp_le {xs : List (List Int)} {st : List Int} (d : Int) (hs : StOK xs.length st) : ∀ i : Nat, i ≤ (dimIx xs d).length → 0 ≤ sumUp xs st d i ∧ sumUp xs st d i ≤ 3 * i
  | 0, _ => by simp [sumUp]
  | i + 1, h => by
    have h1 := sumUp_le d hs i (by omega)
    have h2 := hs.at (dimIx xs d)[i]
    rw [sumUp_succ (by omega)]
    omega
theorem s_stalkSum (s : Sheaf) (d : Int) (hd : 0 ≤ d ∧ d ≤ 100) (hb : s.base.simplices.length ≤ 1048576) (hs : StOK s.base.simplices.length s.stalks) : Sat Tryz.prog 181 [(true, Enc.enc s), (false, [.int .i64 d])] (.one (.c (.int .i64 (stalkSum s.base.simplices s.stalks d))), []) := by
  have hdl : (dimIx s.base.simplices d).length ≤ s.base.simplices.length := Nat.le_trans (List.length_filter_le _ _) (by simp)
  refine Sat.intro tok mixed Tryz.func181 rfl rfl ?_
  ((conv => whnf); repeat ((first | refine B0 ?_ | refine B1 ?_ | refine D1 ?_ | refine D2 ?_ | refine CallC.r ?_); conv => whnf))
  refine Pick.mk _ (s_simplicesOf s.base d hd hb) ?_
  ((conv => whnf); repeat ((first | refine B0 ?_ | refine B1 ?_ | refine D1 ?_ | refine D2 ?_ | refine CallC.r ?_); conv => whnf))
  rw [dimUp_eq]
  refine Pick.mk [2, 5, 11, 12, 13, 1000704] trivial ?_
  ((conv => whnf); repeat ((first | refine B0 ?_ | refine B1 ?_ | refine D1 ?_ | refine D2 ?_ | refine CallC.r ?_); conv => whnf))
  refine LoopL.over (fun (i : Nat) => [(5, .one (.c (.int .i64 (sumUp s.base.simplices s.stalks d i)))), (13, .one (.c (.int .i64 ((i : Int)))))]) (fun (i : Nat) => []) (fun (i : Nat) => (dimIx s.base.simplices d).length - i) (fun (i : Nat) => i ≤ (dimIx s.base.simplices d).length) ?_ 0 (Nat.zero_le _)
  intro i hi ih
  have hle := sumUp_le d hs i hi
  ((conv => whnf); repeat ((first | refine B0 ?_ | refine B1 ?_ | refine D1 ?_ | refine D2 ?_ | refine CallC.r ?_); conv => whnf))
  refine Br.mk (fun h => ?_) (fun h => ?_) <;> ((conv => whnf); repeat ((first | refine B0 ?_ | refine B1 ?_ | refine D1 ?_ | refine D2 ?_ | refine CallC.r ?_); conv => whnf))
  · have h : i < (dimIx s.base.simplices d).length := by simp only [List.length_map, decide_eq_true_eq] at h; omega
    have hj := dimIx_lt (List.getElem_mem h)
    refine Pick.mk [.int .i64 ((dimIx s.base.simplices d)[i] : Int)] ⟨by omega, by simp [List.getElem?_map, h]; rfl⟩ ?_
    ((conv => whnf); repeat ((first | refine B0 ?_ | refine B1 ?_ | refine D1 ?_ | refine D2 ?_ | refine CallC.r ?_); conv => whnf))
    refine Pick.ix (xs := s.stalks) (i := (dimIx s.base.simplices d)[i]) (by rw [hs.1]; exact hj) ?_
    ((conv => whnf); repeat ((first | refine B0 ?_ | refine B1 ?_ | refine D1 ?_ | refine D2 ?_ | refine CallC.r ?_); conv => whnf))
    have hat := hs.at (dimIx s.base.simplices d)[i]
    refine Pick.at64 (z := sumUp s.base.simplices s.stalks d (i + 1)) (by rw [sumUp_succ h, getD_at (by rw [hs.1]; exact hj)]) (by rw [sumUp_succ h]; omega) ?_
    ((conv => whnf); repeat ((first | refine B0 ?_ | refine B1 ?_ | refine D1 ?_ | refine D2 ?_ | refine CallC.r ?_); conv => whnf))
    refine Pick.at64 (z := (i + 1 : Nat)) (by simp) (by omega) ?_
    ((conv => whnf); repeat ((first | refine B0 ?_ | refine B1 ?_ | refine D1 ?_ | refine D2 ?_ | refine CallC.r ?_); conv => whnf))
    exact ih (i + 1) (by omega) (by omega)
  · have h : i = (dimIx s.base.simplices d).length := by simp only [List.length_map, decide_eq_false_iff_not] at h; omega
    subst h
    exact ResOK.same (by rw [sumUp, List.take_length]; rfl)

theorem s_areStalks1 (x : Int) : Sat Tryz.prog 206 ((false, Enc.enc x) :: ([] : List CV).map fun y => (false, [y])) (.one (.c (.bool (!okStalk x))), []) := by
  refine Sat.intro tok mixed Tryz.func206 rfl rfl ?_
  ((conv => whnf); repeat ((first | refine B0 ?_ | refine B1 ?_ | refine D1 ?_ | refine D2 ?_ | refine CallC.r ?_); conv => whnf))
  refine Pick.mk _ (s_within x 0 3) ?_
  ((conv => whnf); repeat ((first | refine B0 ?_ | refine B1 ?_ | refine D1 ?_ | refine D2 ?_ | refine CallC.r ?_); conv => whnf))
  exact ResOK.same rfl
theorem s_areStalks (c : Complex) (st : List Int) (hb : c.simplices.length ≤ 1048576) (hst : st.length ≤ maxLen) : Sat Tryz.prog 163 [(true, Enc.enc c), (false, Enc.enc st)] (.one (.c (.bool (okStalks c.simplices st))), []) := by
  have hcon := s_ContainsFuncInt64 st 206 [] (fun x => !okStalk x) hst (fun x _ => s_areStalks1 x)
  have hall : (!(st.any fun x => !okStalk x)) = st.all okStalk := not_any_not _ _
  refine Sat.intro tok mixed Tryz.func163 rfl rfl ?_
  ((conv => whnf); repeat ((first | refine B0 ?_ | refine B1 ?_ | refine D1 ?_ | refine D2 ?_ | refine CallC.r ?_); conv => whnf))
  refine Br.mk (fun h1 => ?_) (fun h1 => ?_) <;> ((conv => whnf); repeat ((first | refine B0 ?_ | refine B1 ?_ | refine D1 ?_ | refine D2 ?_ | refine CallC.r ?_); conv => whnf))
  · have h1 : ¬ st.length = c.simplices.length := by simp at h1; omega
    exact ResOK.same (by simp [okStalks, h1])
  have h1 : st.length = c.simplices.length := by simp at h1; omega
  refine Pick.mk _ hcon ?_
  ((conv => whnf); repeat ((first | refine B0 ?_ | refine B1 ?_ | refine D1 ?_ | refine D2 ?_ | refine CallC.r ?_); conv => whnf))
  refine Br.mk (fun h2 => ?_) (fun h2 => ?_) <;> ((conv => whnf); repeat ((first | refine B0 ?_ | refine B1 ?_ | refine D1 ?_ | refine D2 ?_ | refine CallC.r ?_); conv => whnf))
  · rw [h2] at hall
    exact ResOK.same (by simp [okStalks, ← hall])
  rw [h2] at hall
  have hs : StOK c.simplices.length st := ⟨h1, fun x hx => by
    have := List.all_eq_true.1 hall.symm x hx
    simpa [okStalk] using this⟩
  refine Pick.mk [1, 2, 16] trivial ?_
  ((conv => whnf); repeat ((first | refine B0 ?_ | refine B1 ?_ | refine D1 ?_ | refine D2 ?_ | refine CallC.r ?_); conv => whnf))
  refine LoopL.over (fun (i : Nat) => [(16, .one (.c (.int .i64 ((i : Int)))))]) (fun (i : Nat) => []) (fun (i : Nat) => 4 - i) (fun (i : Nat) => i ≤ 4 ∧ ∀ j, j < i → stalkSum c.simplices st j ≤ 32) ?_ 0 ⟨by omega, by intros; omega⟩
  intro i ⟨h3, h4⟩ ih
  ((conv => whnf); repeat ((first | refine B0 ?_ | refine B1 ?_ | refine D1 ?_ | refine D2 ?_ | refine CallC.r ?_); conv => whnf))
  refine Br.mk (fun h => ?_) (fun h => ?_) <;> ((conv => whnf); repeat ((first | refine B0 ?_ | refine B1 ?_ | refine D1 ?_ | refine D2 ?_ | refine CallC.r ?_); conv => whnf))
  · have h : i < 4 := by simp at h; omega
    refine Pick.mk _ (s_stalkSum ⟨c, 0, st, []⟩ i (by omega) hb hs) ?_
    ((conv => whnf); repeat ((first | refine B0 ?_ | refine B1 ?_ | refine D1 ?_ | refine D2 ?_ | refine CallC.r ?_); conv => whnf))
    refine Br.mk (fun h5 => ?_) (fun h5 => ?_) <;> ((conv => whnf); repeat ((first | refine B0 ?_ | refine B1 ?_ | refine D1 ?_ | refine D2 ?_ | refine CallC.r ?_); conv => whnf))
    · have h5 : ¬ stalkSum c.simplices st i ≤ 32 := by simp only [decide_eq_true_eq] at h5; omega
      have : ((List.range 4).all fun d => decide (stalkSum c.simplices st d ≤ 32)) = false := by
        rw [List.all_eq_false]; exact ⟨i, List.mem_range.2 h, by simpa using h5⟩
      exact ResOK.same (by rw [okStalks, this, Bool.and_false])
    · have h5 : stalkSum c.simplices st i ≤ 32 := by simp only [decide_eq_false_iff_not] at h5; omega
      refine Pick.at64 (z := (i + 1 : Nat)) (by simp) (by omega) ?_
      ((conv => whnf); repeat ((first | refine B0 ?_ | refine B1 ?_ | refine D1 ?_ | refine D2 ?_ | refine CallC.r ?_); conv => whnf))
      exact ih (i + 1) ⟨by omega, fun j hj => by
        by_cases e : j = i
        · subst e; exact h5
        · exact h4 j (by omega)⟩ (by omega)
  · have h : i = 4 := by simp at h; omega
    subst h
    have : ((List.range 4).all fun d => decide (stalkSum c.simplices st d ≤ 32)) = true := by
      rw [List.all_eq_true]; intro d hd; simpa using h4 d (List.mem_range.1 hd)
    exact ResOK.same (by rw [okStalks, this, ← hall, decide_eq_true h1]; rfl)

/-- A complex whose simplices are in order, and not too big. -/
structure CxOK (xs : List (List Int)) : Prop where
  ok : okSimps xs = true
theorem CxOK.ord {xs : List (List Int)} (h : CxOK xs) : OrdS xs := okSimps_ord h.ok
theorem CxOK.len {xs : List (List Int)} (h : CxOK xs) : xs.length ≤ 48 := okSimps_len h.ok
theorem CxOK.each {xs : List (List Int)} (h : CxOK xs) (x : List Int) (hx : x ∈ xs) : 1 ≤ x.length ∧ x.length ≤ 4 := by
  obtain ⟨i, hi, rfl⟩ := List.mem_iff_getElem.1 hx
  exact okSimp_len (okSimps_get h.ok i hi)
theorem CxOK.small {xs : List (List Int)} (h : CxOK xs) (x : List Int) (hx : x ∈ xs) : x.length ≤ 1048576 := by have := h.each x hx; omega
theorem CxOK.faces {xs : List (List Int)} (h : CxOK xs) (x : List Int) (hx : x ∈ xs) : (facesL x).length ≤ 4 := by
  have := h.each x hx
  rw [facesL_len]; split <;> omega
theorem CxOK.place {xs : List (List Int)} (h : CxOK xs) (k : Nat) (hk : k ≤ 48) : placeL xs k ≤ 192 := by
  have := placeL_le h.faces k
  omega
theorem s_faceIndices (c : Complex) (h : CxOK c.simplices) (k : Nat) (hk : k < c.simplices.length) : Sat Tryz.prog 166 [(true, Enc.enc c), (false, [.int .i64 k])] (.one (.rs 0), [(0, .arr 1 ((faceIx c.simplices k).map Enc.enc))]) := by
  have hl48 := h.len
  have hfl := h.faces _ (List.getElem_mem hk)
  have e : faceIx c.simplices k = (facesL c.simplices[k]).map (ixS c.simplices) := by rw [faceIx, getD_at hk]
  rw [e]
  refine Sat.intro tok mixed Tryz.func166 rfl rfl ?_
  ((conv => whnf); repeat ((first | refine B0 ?_ | refine B1 ?_ | refine D1 ?_ | refine D2 ?_ | refine CallC.r ?_); conv => whnf))
  refine Pick.ix (hk) ?_
  ((conv => whnf); repeat ((first | refine B0 ?_ | refine B1 ?_ | refine D1 ?_ | refine D2 ?_ | refine CallC.r ?_); conv => whnf))
  refine Pick.mk _ (s_facesOf c.simplices[k] (h.small _ (List.getElem_mem hk))) ?_
  ((conv => whnf); repeat ((first | refine B0 ?_ | refine B1 ?_ | refine D1 ?_ | refine D2 ?_ | refine CallC.r ?_); conv => whnf))
  refine Pick.mk [2, 5, 13, 14, 15, 1000832] trivial ?_
  ((conv => whnf); repeat ((first | refine B0 ?_ | refine B1 ?_ | refine D1 ?_ | refine D2 ?_ | refine CallC.r ?_); conv => whnf))
  refine LoopL.over (fun (i : Nat) => [(15, .one (.c (.int .i64 ((i : Int)))))]) (fun (i : Nat) => [(320, .arr 1 (List.map Enc.enc (((facesL c.simplices[k]).take i).map (ixS c.simplices))))]) (fun (i : Nat) => (facesL c.simplices[k]).length - i) (fun (i : Nat) => i ≤ (facesL c.simplices[k]).length) ?_ 0 (Nat.zero_le _)
  intro i hi ih
  ((conv => whnf); repeat ((first | refine B0 ?_ | refine B1 ?_ | refine D1 ?_ | refine D2 ?_ | refine CallC.r ?_); conv => whnf))
  refine Br.mk (fun h4 => ?_) (fun h4 => ?_) <;> ((conv => whnf); repeat ((first | refine B0 ?_ | refine B1 ?_ | refine D1 ?_ | refine D2 ?_ | refine CallC.r ?_); conv => whnf))
  · have h4 : i < (facesL c.simplices[k]).length := by simp only [List.length_map, decide_eq_true_eq] at h4; omega
    refine Pick.ix (h4) ?_
    ((conv => whnf); repeat ((first | refine B0 ?_ | refine B1 ?_ | refine D1 ?_ | refine D2 ?_ | refine CallC.r ?_); conv => whnf))
    refine Pick.mk _ (s_indexOf c (facesL c.simplices[k])[i] h.ord (by omega) h.small) ?_
    ((conv => whnf); repeat ((first | refine B0 ?_ | refine B1 ?_ | refine D1 ?_ | refine D2 ?_ | refine CallC.r ?_); conv => whnf))
    refine Side.mk (by simp only [List.length_map, List.length_take, List.length_cons, List.length_nil]; omega) ?_
    ((conv => whnf); repeat ((first | refine B0 ?_ | refine B1 ?_ | refine D1 ?_ | refine D2 ?_ | refine CallC.r ?_); conv => whnf))
    refine Pick.at64 (z := (i + 1 : Nat)) (by simp) (by omega) ?_
    ((conv => whnf); repeat ((first | refine B0 ?_ | refine B1 ?_ | refine D1 ?_ | refine D2 ?_ | refine CallC.r ?_); conv => whnf))
    have hn := ih (i + 1) (by omega) (by omega)
    rw [List.take_add_one, List.getElem?_eq_getElem h4, Option.toList_some, List.map_append, List.map_append] at hn
    exact hn
  · have h4 : (facesL c.simplices[k]).length ≤ i := by simp only [List.length_map, decide_eq_false_iff_not] at h4; omega
    exact ResOK.same (by rw [List.take_of_length_le h4])

theorem s_arrows (c : Complex) (h : CxOK c.simplices) : Sat Tryz.prog 164 [(true, Enc.enc c)] (.one (.rs 0), [(0, .arr 3 ((arrowsL c.simplices).map Enc.enc))]) := by
  have hl48 := h.len
  refine Sat.intro tok mixed Tryz.func164 rfl rfl ?_
  ((conv => whnf); repeat ((first | refine B0 ?_ | refine B1 ?_ | refine D1 ?_ | refine D2 ?_ | refine CallC.r ?_); conv => whnf))
  refine Pick.mk _ (s_sizeInts c.simplices) ?_
  ((conv => whnf); repeat ((first | refine B0 ?_ | refine B1 ?_ | refine D1 ?_ | refine D2 ?_ | refine CallC.r ?_); conv => whnf))
  refine Pick.mk [1, 3, 9, 10] trivial ?_
  ((conv => whnf); repeat ((first | refine B0 ?_ | refine B1 ?_ | refine D1 ?_ | refine D2 ?_ | refine CallC.r ?_); conv => whnf))
  refine LoopL.over (fun (k : Nat) => [(10, .one (.c (.int .i64 ((k : Int)))))]) (fun (k : Nat) => [(192, .arr 3 (List.map Enc.enc (arrowsTo c.simplices k)))]) (fun (k : Nat) => c.simplices.length - k) (fun (k : Nat) => k ≤ c.simplices.length) ?_ 0 (Nat.zero_le _)
  intro k hk ih
  have hpl := h.place k (by omega)
  have hat := arrowsTo_len c.simplices hk
  ((conv => whnf); repeat ((first | refine B0 ?_ | refine B1 ?_ | refine D1 ?_ | refine D2 ?_ | refine CallC.r ?_); conv => whnf))
  refine Br.mk (fun h4 => ?_) (fun h4 => ?_) <;> ((conv => whnf); repeat ((first | refine B0 ?_ | refine B1 ?_ | refine D1 ?_ | refine D2 ?_ | refine CallC.r ?_); conv => whnf))
  · have h4 : k < c.simplices.length := by simp only [List.length_map, decide_eq_true_eq] at h4; omega
    refine Pick.mk _ (s_faceIndices c h k h4) ?_
    ((conv => whnf); repeat ((first | refine B0 ?_ | refine B1 ?_ | refine D1 ?_ | refine D2 ?_ | refine CallC.r ?_); conv => whnf))
    have hfl := h.faces _ (List.getElem_mem h4)
    have hlf := faceIx_len h4
    refine Pick.mk [1, 3, 4, 9, 10, 15, 16, 17, 1000960] trivial ?_
    ((conv => whnf); repeat ((first | refine B0 ?_ | refine B1 ?_ | refine D1 ?_ | refine D2 ?_ | refine CallC.r ?_); conv => whnf))
    refine LoopL.over (fun (i : Nat) => [(17, .one (.c (.int .i64 ((i : Int)))))]) (fun (i : Nat) => [(192, .arr 3 (List.map Enc.enc (arrowsTo c.simplices k ++ (arrowsAt c.simplices k).take i)))]) (fun (i : Nat) => (faceIx c.simplices k).length - i) (fun (i : Nat) => i ≤ (faceIx c.simplices k).length) ?_ 0 (Nat.zero_le _) (by simp; rfl)
    intro i hi ihi
    ((conv => whnf); repeat ((first | refine B0 ?_ | refine B1 ?_ | refine D1 ?_ | refine D2 ?_ | refine CallC.r ?_); conv => whnf))
    refine Br.mk (fun h5 => ?_) (fun h5 => ?_) <;> ((conv => whnf); repeat ((first | refine B0 ?_ | refine B1 ?_ | refine D1 ?_ | refine D2 ?_ | refine CallC.r ?_); conv => whnf))
    · have h5 : i < (faceIx c.simplices k).length := by simp only [List.length_map, decide_eq_true_eq] at h5; omega
      refine Pick.ix (h5) ?_
      ((conv => whnf); repeat ((first | refine B0 ?_ | refine B1 ?_ | refine D1 ?_ | refine D2 ?_ | refine CallC.r ?_); conv => whnf))
      refine Side.mk (by simp only [List.length_map, List.length_append, List.length_take, List.length_cons, List.length_nil]; omega) ?_
      ((conv => whnf); repeat ((first | refine B0 ?_ | refine B1 ?_ | refine D1 ?_ | refine D2 ?_ | refine CallC.r ?_); conv => whnf))
      refine Pick.at64 (z := (i + 1 : Nat)) (by simp) (by omega) ?_
      ((conv => whnf); repeat ((first | refine B0 ?_ | refine B1 ?_ | refine D1 ?_ | refine D2 ?_ | refine CallC.r ?_); conv => whnf))
      have hn := ihi (i + 1) (by omega) (by omega)
      have hg : (arrowsAt c.simplices k)[i]? = some ⟨(k : Int), (i : Int), (faceIx c.simplices k)[i]⟩ := by simp [arrowsAt, h5]
      rw [List.take_add_one, hg, Option.toList_some, ← List.append_assoc, List.map_append] at hn
      exact hn
    · have h5 : i = (faceIx c.simplices k).length := by simp only [List.length_map, decide_eq_false_iff_not] at h5; omega
      subst h5
      refine Pick.at64 (z := (k + 1 : Nat)) (by simp) (by omega) ?_
      ((conv => whnf); repeat ((first | refine B0 ?_ | refine B1 ?_ | refine D1 ?_ | refine D2 ?_ | refine CallC.r ?_); conv => whnf))
      have hn := ih (k + 1) (by omega) (by omega)
      rw [arrowsTo_succ] at hn
      rw [← arrowsAt_len, List.take_length]
      exact hn
  · have h4 : k = c.simplices.length := by simp only [List.length_map, decide_eq_false_iff_not] at h4; omega
    subst h4
    exact ResOK.same rfl
end Go.Proofs.YtlnjgoeicanehaaGreat.Pi
