/- Sheaves that are valid, the reference. No statement of the seat is proved here. -/
import Derived.Test.YtlnjgoeicanehaaGreatPiFShf2
import Derived.Test.YtlnjgoeicanehaaGreatPiFTimes
namespace Go.Proofs.YtlnjgoeicanehaaGreat.Pi
open Go
set_option maxRecDepth 10000
set_option maxHeartbeats 6400000
set_option linter.unusedVariables false

theorem s_l05Of (c : Complex) (d : Int) (hd : 0 ≤ d ∧ d ≤ 100) (hb : c.simplices.length ≤ 1048576) : Sat Tryz.prog 80 [(false, [.ptr 1 (Enc.enc c)]), (false, [.int .i64 d])] (.one (.rs 0), [(0, .arr 1 ((dimUp c.simplices d c.simplices.length).map Enc.enc))]) := by
  obtain ⟨xs⟩ := c
  simp only at hb ⊢
  refine Sat.intro tok mixed Tryz.func80 rfl rfl ?_
  ((conv => whnf); repeat ((first | refine B0 ?_ | refine B1 ?_ | refine D1 ?_ | refine D2 ?_ | refine CallC.r ?_); conv => whnf))
  refine Pick.mk [0, 1, 5, 6] trivial ?_
  ((conv => whnf); repeat ((first | refine B0 ?_ | refine B1 ?_ | refine D1 ?_ | refine D2 ?_ | refine CallC.r ?_); conv => whnf))
  refine LoopL.over (fun (i : Nat) => [(6, .one (.c (.int .i64 ((i : Int)))))]) (fun (i : Nat) => [(320, .arr 1 (List.map Enc.enc (dimUp xs d i)))]) (fun (i : Nat) => xs.length - i) (fun (i : Nat) => i ≤ xs.length) ?_ 0 (Nat.zero_le _)
  intro i hi ih
  have hlen := dimUp_len xs d i
  ((conv => whnf); repeat ((first | refine B0 ?_ | refine B1 ?_ | refine D1 ?_ | refine D2 ?_ | refine CallC.r ?_); conv => whnf))
  refine Br.mk (fun h => ?_) (fun h => ?_) <;> ((conv => whnf); repeat ((first | refine B0 ?_ | refine B1 ?_ | refine D1 ?_ | refine D2 ?_ | refine CallC.r ?_); conv => whnf))
  · have h : i < xs.length := by simp only [List.length_map, decide_eq_true_eq] at h; omega
    refine Pick.ix (h) ?_
    ((conv => whnf); repeat ((first | refine B0 ?_ | refine B1 ?_ | refine D1 ?_ | refine D2 ?_ | refine CallC.r ?_); conv => whnf))
    refine Pick.at64 (z := d + 1) rfl (by omega) ?_
    ((conv => whnf); repeat ((first | refine B0 ?_ | refine B1 ?_ | refine D1 ?_ | refine D2 ?_ | refine CallC.r ?_); conv => whnf))
    have hn := ih (i + 1) (by omega) (by omega)
    refine Br.mk (fun h5 => ?_) (fun h5 => ?_) <;> ((conv => whnf); repeat ((first | refine B0 ?_ | refine B1 ?_ | refine D1 ?_ | refine D2 ?_ | refine CallC.r ?_); conv => whnf))
    · refine Side.mk (by simp only [List.length_map, List.length_cons, List.length_nil]; omega) ?_
      ((conv => whnf); repeat ((first | refine B0 ?_ | refine B1 ?_ | refine D1 ?_ | refine D2 ?_ | refine CallC.r ?_); conv => whnf))
      refine Pick.at64 (z := (i + 1 : Nat)) (by simp) (by omega) ?_
      ((conv => whnf); repeat ((first | refine B0 ?_ | refine B1 ?_ | refine D1 ?_ | refine D2 ?_ | refine CallC.r ?_); conv => whnf))
      rw [dimUp_yes (by rw [getD_at h]; simpa using h5), List.map_append] at hn
      exact hn
    · refine Pick.at64 (z := (i + 1 : Nat)) (by simp) (by omega) ?_
      ((conv => whnf); repeat ((first | refine B0 ?_ | refine B1 ?_ | refine D1 ?_ | refine D2 ?_ | refine CallC.r ?_); conv => whnf))
      rw [dimUp_no (by rw [getD_at h]; simpa using h5)] at hn
      exact hn
  · have h : i = xs.length := by simp only [List.length_map, decide_eq_false_iff_not] at h; omega
    subst h
    exact ResOK.same rfl

theorem s_l09Sum (c : Complex) (st : List Int) (d : Int) (hd : 0 ≤ d ∧ d ≤ 100) (hb : c.simplices.length ≤ 1048576) (hs : StOK c.simplices.length st) : Sat Tryz.prog 175 [(false, [.ptr 1 (Enc.enc c)]), (false, Enc.enc st), (false, [.int .i64 d])] (.one (.c (.int .i64 (stalkSum c.simplices st d))), []) := by
  have hdl : (dimIx c.simplices d).length ≤ c.simplices.length := Nat.le_trans (List.length_filter_le _ _) (by simp)
  refine Sat.intro tok mixed Tryz.func175 rfl rfl ?_
  ((conv => whnf); repeat ((first | refine B0 ?_ | refine B1 ?_ | refine D1 ?_ | refine D2 ?_ | refine CallC.r ?_); conv => whnf))
  refine Pick.mk _ (s_l05Of c d hd hb) ?_
  ((conv => whnf); repeat ((first | refine B0 ?_ | refine B1 ?_ | refine D1 ?_ | refine D2 ?_ | refine CallC.r ?_); conv => whnf))
  rw [dimUp_eq]
  refine Pick.mk [1, 7, 8, 9, 1000448] trivial ?_
  ((conv => whnf); repeat ((first | refine B0 ?_ | refine B1 ?_ | refine D1 ?_ | refine D2 ?_ | refine CallC.r ?_); conv => whnf))
  refine LoopL.over (fun (i : Nat) => [(8, .one (.c (.int .i64 (sumUp c.simplices st d i)))), (9, .one (.c (.int .i64 ((i : Int)))))]) (fun (i : Nat) => []) (fun (i : Nat) => (dimIx c.simplices d).length - i) (fun (i : Nat) => i ≤ (dimIx c.simplices d).length) ?_ 0 (Nat.zero_le _)
  intro i hi ih
  have hle := sumUp_le d hs i hi
  ((conv => whnf); repeat ((first | refine B0 ?_ | refine B1 ?_ | refine D1 ?_ | refine D2 ?_ | refine CallC.r ?_); conv => whnf))
  refine Br.mk (fun h => ?_) (fun h => ?_) <;> ((conv => whnf); repeat ((first | refine B0 ?_ | refine B1 ?_ | refine D1 ?_ | refine D2 ?_ | refine CallC.r ?_); conv => whnf))
  · have h : i < (dimIx c.simplices d).length := by simp only [List.length_map, decide_eq_true_eq] at h; omega
    have hj := dimIx_lt (List.getElem_mem h)
    refine Pick.mk [.int .i64 ((dimIx c.simplices d)[i] : Int)] ⟨by omega, by simp [h]; rfl⟩ ?_
    ((conv => whnf); repeat ((first | refine B0 ?_ | refine B1 ?_ | refine D1 ?_ | refine D2 ?_ | refine CallC.r ?_); conv => whnf))
    refine Pick.ix (xs := st) (i := (dimIx c.simplices d)[i]) (by rw [hs.1]; exact hj) ?_
    ((conv => whnf); repeat ((first | refine B0 ?_ | refine B1 ?_ | refine D1 ?_ | refine D2 ?_ | refine CallC.r ?_); conv => whnf))
    have hat := hs.at (dimIx c.simplices d)[i]
    refine Pick.at64 (z := sumUp c.simplices st d (i + 1)) (by rw [sumUp_succ h, getD_at (by rw [hs.1]; exact hj)]) (by rw [sumUp_succ h]; omega) ?_
    ((conv => whnf); repeat ((first | refine B0 ?_ | refine B1 ?_ | refine D1 ?_ | refine D2 ?_ | refine CallC.r ?_); conv => whnf))
    refine Pick.at64 (z := (i + 1 : Nat)) (by simp) (by omega) ?_
    ((conv => whnf); repeat ((first | refine B0 ?_ | refine B1 ?_ | refine D1 ?_ | refine D2 ?_ | refine CallC.r ?_); conv => whnf))
    exact ih (i + 1) (by omega) (by omega)
  · have h : i = (dimIx c.simplices d).length := by simp only [List.length_map, decide_eq_false_iff_not] at h; omega
    subst h
    exact ResOK.same (by rw [sumUp, List.take_length]; rfl)

theorem okCol_st (st : List Int) (n : Nat) : okColumn 4 (n : Int) st = (decide (st.length = n) && st.all okStalk) := by
  have e : okEls 4 st = st.all okStalk := by
    rfl
  rw [okColumn, e, Bool.and_comm]
  congr 1
  by_cases h : st.length = n
  · simp [h]
  · have : ¬ ((st.length : Int) = n) := by omega
    rw [decide_eq_false h]; simpa using this
theorem s_l09Stalks (c : Complex) (st : List Int) (hb : c.simplices.length ≤ 1048576) (hst : st.length ≤ maxLen) : Sat Tryz.prog 197 [(false, [.ptr 1 (Enc.enc c)]), (false, Enc.enc st)] (.one (.c (.bool (okStalks c.simplices st))), []) := by
  have hcol := s_l03Column st hst (c.simplices.length : Int) 4 (by omega)
  rw [okCol_st] at hcol
  have hcol2 : Sat Tryz.prog 174 [(false, Enc.enc st), (false, [.int .i64 ((c.simplices.map (Enc.enc (α := List Int))).length : Int)]), (false, [.int .i64 4])] (.one (.c (.bool (decide (st.length = c.simplices.length) && st.all okStalk))), []) := by
    rw [List.length_map]; exact hcol
  refine Sat.intro tok mixed Tryz.func197 rfl rfl ?_
  ((conv => whnf); repeat ((first | refine B0 ?_ | refine B1 ?_ | refine D1 ?_ | refine D2 ?_ | refine CallC.r ?_); conv => whnf))
  refine Pick.mk _ hcol2 ?_
  ((conv => whnf); repeat ((first | refine B0 ?_ | refine B1 ?_ | refine D1 ?_ | refine D2 ?_ | refine CallC.r ?_); conv => whnf))
  refine Br.mk (fun h1 => ?_) (fun h1 => ?_) <;> ((conv => whnf); repeat ((first | refine B0 ?_ | refine B1 ?_ | refine D1 ?_ | refine D2 ?_ | refine CallC.r ?_); conv => whnf))
  · simp only [Bool.not_eq_true'] at h1
    exact ResOK.same (by rw [okStalks, h1, Bool.false_and])
  simp only [Bool.not_eq_false'] at h1
  have hs : StOK c.simplices.length st := by
    have h1 := h1
    simp only [Bool.and_eq_true, decide_eq_true_eq] at h1
    exact ⟨h1.1, fun x hx => by have := List.all_eq_true.1 h1.2 x hx; simpa [okStalk] using this⟩
  refine Pick.mk [0, 1, 5] trivial ?_
  ((conv => whnf); repeat ((first | refine B0 ?_ | refine B1 ?_ | refine D1 ?_ | refine D2 ?_ | refine CallC.r ?_); conv => whnf))
  refine LoopL.over (fun (i : Nat) => [(5, .one (.c (.int .i64 ((i : Int)))))]) (fun (i : Nat) => []) (fun (i : Nat) => 4 - i) (fun (i : Nat) => i ≤ 4 ∧ ∀ j, j < i → stalkSum c.simplices st j ≤ 32) ?_ 0 ⟨by omega, by intros; omega⟩
  intro i ⟨h3, h4⟩ ih
  ((conv => whnf); repeat ((first | refine B0 ?_ | refine B1 ?_ | refine D1 ?_ | refine D2 ?_ | refine CallC.r ?_); conv => whnf))
  refine Br.mk (fun h => ?_) (fun h => ?_) <;> ((conv => whnf); repeat ((first | refine B0 ?_ | refine B1 ?_ | refine D1 ?_ | refine D2 ?_ | refine CallC.r ?_); conv => whnf))
  · have h : i < 4 := by simp at h; omega
    refine Pick.mk _ (s_l09Sum c st i (by omega) hb hs) ?_
    ((conv => whnf); repeat ((first | refine B0 ?_ | refine B1 ?_ | refine D1 ?_ | refine D2 ?_ | refine CallC.r ?_); conv => whnf))
    refine Br.mk (fun h5 => ?_) (fun h5 => ?_) <;> ((conv => whnf); repeat ((first | refine B0 ?_ | refine B1 ?_ | refine D1 ?_ | refine D2 ?_ | refine CallC.r ?_); conv => whnf))
    · have h5 : ¬ stalkSum c.simplices st i ≤ 32 := by simp only [decide_eq_true_eq] at h5; omega
      have : ((List.range 4).all fun d => decide (stalkSum c.simplices st d ≤ 32)) = false := by
        rw [List.all_eq_false]; exact ⟨i, List.mem_range.2 h, by simpa using h5⟩
      exact ResOK.same (by rw [okStalks, this, Bool.and_false])
    · have h5 : stalkSum c.simplices st i ≤ 32 := by simp only [decide_eq_false_iff_not] at h5; omega
      refine Pick.at64 (z := (i + 1 : Nat)) (by simp) (by omega) ?_
      ((conv => whnf); repeat ((first | refine B0 ?_ | refine B1 ?_ | refine D1 ?_ | refine D2 ?_ | refine CallC.r ?_); conv => whnf))
      exact ih (i + 1) ⟨by omega, fun j hj => by
        by_cases e : j = i
        · subst e; exact h5
        · exact h4 j (by omega)⟩ (by omega)
  · have h : i = 4 := by simp at h; omega
    subst h
    have : ((List.range 4).all fun d => decide (stalkSum c.simplices st d ≤ 32)) = true := by
      rw [List.all_eq_true]; intro d hd; simpa using h4 d (List.mem_range.1 hd)
    exact ResOK.same (by rw [okStalks, this, h1]; rfl)

theorem s_l05Faces (c : Complex) (h : CxOK c.simplices) (k : Nat) (hk : k < c.simplices.length) : Sat Tryz.prog 171 [(false, [.ptr 1 (Enc.enc c)]), (false, [.int .i64 k])] (.one (.rs 0), [(0, .arr 1 ((faceIx c.simplices k).map Enc.enc))]) := by
  have hl48 := h.len
  have hsm := h.each _ (List.getElem_mem hk)
  have e : faceIx c.simplices k = (facesL c.simplices[k]).map (ixS c.simplices) := by rw [faceIx, getD_at hk]
  rw [e]
  refine Sat.intro tok mixed Tryz.func171 rfl rfl ?_
  ((conv => whnf); repeat ((first | refine B0 ?_ | refine B1 ?_ | refine D1 ?_ | refine D2 ?_ | refine CallC.r ?_); conv => whnf))
  refine Pick.ix (hk) ?_
  ((conv => whnf); repeat ((first | refine B0 ?_ | refine B1 ?_ | refine D1 ?_ | refine D2 ?_ | refine CallC.r ?_); conv => whnf))
  refine Pick.mk [0, 5, 6, 7] trivial ?_
  ((conv => whnf); repeat ((first | refine B0 ?_ | refine B1 ?_ | refine D1 ?_ | refine D2 ?_ | refine CallC.r ?_); conv => whnf))
  refine LoopL.over (fun (i : Nat) => [(7, .one (.c (.int .i64 ((i : Int)))))]) (fun (i : Nat) => [(384, .arr 1 (List.map Enc.enc (((facesL c.simplices[k]).take i).map (ixS c.simplices))))]) (fun (i : Nat) => c.simplices[k].length - i) (fun (i : Nat) => i ≤ c.simplices[k].length) ?_ 0 (Nat.zero_le _)
  intro i hi ih
  ((conv => whnf); repeat ((first | refine B0 ?_ | refine B1 ?_ | refine D1 ?_ | refine D2 ?_ | refine CallC.r ?_); conv => whnf))
  refine Br.mk (fun h4 => ?_) (fun h4 => ?_) <;> ((conv => whnf); repeat ((first | refine B0 ?_ | refine B1 ?_ | refine D1 ?_ | refine D2 ?_ | refine CallC.r ?_); conv => whnf))
  · have h4 : i < c.simplices[k].length := by simp only [List.length_map, decide_eq_true_eq] at h4; omega
    refine Br.mk (fun h5 => ?_) (fun h5 => ?_) <;> ((conv => whnf); repeat ((first | refine B0 ?_ | refine B1 ?_ | refine D1 ?_ | refine D2 ?_ | refine CallC.r ?_); conv => whnf))
    · have h5 : 1 < c.simplices[k].length := by simp only [List.length_map, decide_eq_true_eq] at h5; omega
      have hg := facesL_get h5 h4
      refine Pick.mk _ (s_l05Drop c.simplices[k] i h4 (by omega)) ?_
      ((conv => whnf); repeat ((first | refine B0 ?_ | refine B1 ?_ | refine D1 ?_ | refine D2 ?_ | refine CallC.r ?_); conv => whnf))
      refine Pick.mk _ (s_l05Find c (dropAt c.simplices[k] i) (by simp only [maxLen]; omega) (by rw [dropAt_len h4]; simp only [maxLen]; omega) (fun x hx => by have := h.each x hx; simp only [maxLen]; omega)) ?_
      ((conv => whnf); repeat ((first | refine B0 ?_ | refine B1 ?_ | refine D1 ?_ | refine D2 ?_ | refine CallC.r ?_); conv => whnf))
      refine Side.mk (by simp only [List.length_map, List.length_take, List.length_cons, List.length_nil]; omega) ?_
      ((conv => whnf); repeat ((first | refine B0 ?_ | refine B1 ?_ | refine D1 ?_ | refine D2 ?_ | refine CallC.r ?_); conv => whnf))
      refine Pick.at64 (z := (i + 1 : Nat)) (by simp) (by omega) ?_
      ((conv => whnf); repeat ((first | refine B0 ?_ | refine B1 ?_ | refine D1 ?_ | refine D2 ?_ | refine CallC.r ?_); conv => whnf))
      have hn := ih (i + 1) (by omega) (by omega)
      rw [List.take_add_one, hg, Option.toList_some, List.map_append, List.map_append] at hn
      exact hn
    · have h5 : ¬ 1 < c.simplices[k].length := by simp only [List.length_map, decide_eq_false_iff_not] at h5; omega
      exact ResOK.same (by rw [facesL, if_neg h5, List.take_nil])
  · have h4 : (facesL c.simplices[k]).length ≤ i := by rw [facesL_len]; simp only [List.length_map, decide_eq_false_iff_not] at h4; split <;> omega
    exact ResOK.same (by rw [List.take_of_length_le h4])

theorem s_l09Place (c : Complex) (cx : CxOK c.simplices) (k i : Nat) (hk : k ≤ c.simplices.length) (hi : i ≤ 1000) : Sat Tryz.prog 200 [(false, [.ptr 1 (Enc.enc c)]), (false, [.int .i64 k]), (false, [.int .i64 i])] (.one (.c (.int .i64 ((placeL c.simplices k + i : Nat) : Int))), []) := by
  have hl48 := cx.len
  have hplk := cx.place k (by omega)
  refine Sat.intro tok mixed Tryz.func200 rfl rfl ?_
  ((conv => whnf); repeat ((first | refine B0 ?_ | refine B1 ?_ | refine D1 ?_ | refine D2 ?_ | refine CallC.r ?_); conv => whnf))
  refine Pick.mk [0, 1, 2, 7, 8] trivial ?_
  ((conv => whnf); repeat ((first | refine B0 ?_ | refine B1 ?_ | refine D1 ?_ | refine D2 ?_ | refine CallC.r ?_); conv => whnf))
  refine LoopL.over (fun (j : Nat) => [(7, .one (.c (.int .i64 ((placeL c.simplices j : Int))))), (8, .one (.c (.int .i64 ((j : Int)))))]) (fun (j : Nat) => []) (fun (j : Nat) => k - j) (fun (j : Nat) => j ≤ k) ?_ 0 (Nat.zero_le _)
  intro j hj ih
  have hpl := cx.place j (by omega)
  ((conv => whnf); repeat ((first | refine B0 ?_ | refine B1 ?_ | refine D1 ?_ | refine D2 ?_ | refine CallC.r ?_); conv => whnf))
  refine Br.mk (fun h => ?_) (fun h => ?_) <;> ((conv => whnf); repeat ((first | refine B0 ?_ | refine B1 ?_ | refine D1 ?_ | refine D2 ?_ | refine CallC.r ?_); conv => whnf))
  · have h : j < k := by simp only [decide_eq_true_eq] at h; omega
    have hx : j < c.simplices.length := by omega
    have hpl2 := cx.place (j + 1) (by omega)
    refine Pick.ix (hx) ?_
    ((conv => whnf); repeat ((first | refine B0 ?_ | refine B1 ?_ | refine D1 ?_ | refine D2 ?_ | refine CallC.r ?_); conv => whnf))
    have hps := placeL_succ hx
    rw [facesL_len] at hps
    have hn := ih (j + 1) (by omega) (by omega)
    refine Br.mk (fun h5 => ?_) (fun h5 => ?_) <;> ((conv => whnf); repeat ((first | refine B0 ?_ | refine B1 ?_ | refine D1 ?_ | refine D2 ?_ | refine CallC.r ?_); conv => whnf))
    · rw [if_pos (by simp at h5; omega)] at hps
      refine Pick.ix (hx) ?_
      ((conv => whnf); repeat ((first | refine B0 ?_ | refine B1 ?_ | refine D1 ?_ | refine D2 ?_ | refine CallC.r ?_); conv => whnf))
      refine Pick.at64 (z := ((placeL c.simplices (j + 1) : Nat) : Int)) (by rw [hps]; simp) (by omega) ?_
      ((conv => whnf); repeat ((first | refine B0 ?_ | refine B1 ?_ | refine D1 ?_ | refine D2 ?_ | refine CallC.r ?_); conv => whnf))
      refine Pick.at64 (z := (j + 1 : Nat)) (by simp) (by omega) ?_
      ((conv => whnf); repeat ((first | refine B0 ?_ | refine B1 ?_ | refine D1 ?_ | refine D2 ?_ | refine CallC.r ?_); conv => whnf))
      exact hn
    · rw [if_neg (by simp at h5; omega), Nat.add_zero] at hps
      refine Pick.at64 (z := (j + 1 : Nat)) (by simp) (by omega) ?_
      ((conv => whnf); repeat ((first | refine B0 ?_ | refine B1 ?_ | refine D1 ?_ | refine D2 ?_ | refine CallC.r ?_); conv => whnf))
      rw [hps] at hn
      exact hn
  · have h : j = k := by simp only [decide_eq_false_iff_not] at h; omega
    subst h
    refine Pick.at64 (z := ((placeL c.simplices j + i : Nat) : Int)) (by simp) (by omega) ?_
    ((conv => whnf); repeat ((first | refine B0 ?_ | refine B1 ?_ | refine D1 ?_ | refine D2 ?_ | refine CallC.r ?_); conv => whnf))
    exact ResOK.same rfl
theorem s_l09Count (c : Complex) (cx : CxOK c.simplices) : Sat Tryz.prog 198 [(false, [.ptr 1 (Enc.enc c)])] (.one (.c (.int .i64 (placeL c.simplices c.simplices.length : Nat))), []) := by
  have h := s_l09Place c cx c.simplices.length 0 (Nat.le_refl _) (by omega)
  rw [Nat.add_zero] at h
  have h2 : Sat Tryz.prog 200 [(false, [.ptr 1 (Enc.enc c)]), (false, [.int .i64 ((c.simplices.map (Enc.enc (α := List Int))).length : Int)]), (false, [.int .i64 0])] (.one (.c (.int .i64 ((placeL c.simplices c.simplices.length : Nat) : Int))), []) := by
    rw [List.length_map]; exact h
  refine Sat.intro tok mixed Tryz.func198 rfl rfl ?_
  ((conv => whnf); repeat ((first | refine B0 ?_ | refine B1 ?_ | refine D1 ?_ | refine D2 ?_ | refine CallC.r ?_); conv => whnf))
  refine Pick.mk _ h2 ?_
  ((conv => whnf); repeat ((first | refine B0 ?_ | refine B1 ?_ | refine D1 ?_ | refine D2 ?_ | refine CallC.r ?_); conv => whnf))
  exact ResOK.same rfl
theorem s_l09Get (s : Sheaf) (h : okSheaf s = true) (k i : Nat) (hk : k < s.base.simplices.length) (hi : i < (faceIx s.base.simplices k).length) : Sat Tryz.prog 176 [(false, [.ptr 4 (Enc.enc s)]), (false, [.int .i64 k]), (false, [.int .i64 i])] (.one (.c (.ptr 4 (Enc.enc (mapAt s k i)))), []) := by
  have cx : CxOK s.base.simplices := ⟨(okSheaf_of h).1⟩
  obtain ⟨hm, e, _⟩ := okMaps_at h hk hi
  have hpl := cx.place k (by have := cx.len; omega)
  have hfl := cx.faces _ (List.getElem_mem hk)
  rw [← faceIx_len hk] at hfl
  refine Sat.intro tok mixed Tryz.func176 rfl rfl ?_
  ((conv => whnf); repeat ((first | refine B0 ?_ | refine B1 ?_ | refine D1 ?_ | refine D2 ?_ | refine CallC.r ?_); conv => whnf))
  refine Pick.mk _ (s_l09Place s.base cx k i (by omega) (by omega)) ?_
  ((conv => whnf); repeat ((first | refine B0 ?_ | refine B1 ?_ | refine D1 ?_ | refine D2 ?_ | refine CallC.r ?_); conv => whnf))
  refine Pick.ix (hm) ?_
  ((conv => whnf); repeat ((first | refine B0 ?_ | refine B1 ?_ | refine D1 ?_ | refine D2 ?_ | refine CallC.r ?_); conv => whnf))
  exact ResOK.same (by rw [e])

theorem s_l09Map (s : Sheaf) (cx : CxOK s.base.simplices) (hst : StOK s.base.simplices.length s.stalks) (k i : Nat) (hk : k < s.base.simplices.length) (hi : i < (faceIx s.base.simplices k).length) (m : Matrix) (o : Enc.ok m) :
    Sat Tryz.prog 199 [(false, [.ptr 4 (Enc.enc s)]), (false, [.int .i64 k]), (false, [.int .i64 i]), (false, [.ptr 4 (Enc.enc m)])] (.one (.c (.bool (okBetween m s.prime (s.stalks.getD (faceN s k i) 0) (s.stalks.getD k 0)))), []) := by
  obtain ⟨n, hn, _, e1, _⟩ := face_at cx.ok hk hi
  have e : faceN s k i = n := by unfold faceN; rw [e1]; rfl
  rw [e]
  refine Sat.intro tok mixed Tryz.func199 rfl rfl ?_
  ((conv => whnf); repeat ((first | refine B0 ?_ | refine B1 ?_ | refine D1 ?_ | refine D2 ?_ | refine CallC.r ?_); conv => whnf))
  refine Pick.mk _ (s_l05Faces s.base cx k hk) ?_
  ((conv => whnf); repeat ((first | refine B0 ?_ | refine B1 ?_ | refine D1 ?_ | refine D2 ?_ | refine CallC.r ?_); conv => whnf))
  refine Side.mk (by rw [List.length_map]; omega) ?_
  ((conv => whnf); repeat ((first | refine B0 ?_ | refine B1 ?_ | refine D1 ?_ | refine D2 ?_ | refine CallC.r ?_); conv => whnf))
  refine Pick.mk (Enc.enc ((n : Nat) : Int)) (by rw [Int.toNat_natCast]; exact getD_mem hi 0 _ e1) ?_
  ((conv => whnf); repeat ((first | refine B0 ?_ | refine B1 ?_ | refine D1 ?_ | refine D2 ?_ | refine CallC.r ?_); conv => whnf))
  refine Pick.mk _ (s_l03Ok m o) ?_
  ((conv => whnf); repeat ((first | refine B0 ?_ | refine B1 ?_ | refine D1 ?_ | refine D2 ?_ | refine CallC.r ?_); conv => whnf))
  refine Br.mk (fun h1 => ?_) (fun h1 => ?_) <;> ((conv => whnf); repeat ((first | refine B0 ?_ | refine B1 ?_ | refine D1 ?_ | refine D2 ?_ | refine CallC.r ?_); conv => whnf))
  · refine Br.mk (fun h2 => ?_) (fun h2 => ?_) <;> ((conv => whnf); repeat ((first | refine B0 ?_ | refine B1 ?_ | refine D1 ?_ | refine D2 ?_ | refine CallC.r ?_); conv => whnf))
    · refine Pick.mk (Enc.enc (s.stalks.getD k 0)) ⟨by omega, by rw [Int.toNat_natCast]; exact getD_mem (by rw [hst.1]; exact hk) 0 _ rfl⟩ ?_
      ((conv => whnf); repeat ((first | refine B0 ?_ | refine B1 ?_ | refine D1 ?_ | refine D2 ?_ | refine CallC.r ?_); conv => whnf))
      refine Br.mk (fun h3 => ?_) (fun h3 => ?_) <;> ((conv => whnf); repeat ((first | refine B0 ?_ | refine B1 ?_ | refine D1 ?_ | refine D2 ?_ | refine CallC.r ?_); conv => whnf))
      · refine Pick.mk (Enc.enc (s.stalks.getD n 0)) ⟨by omega, by rw [Int.toNat_natCast]; exact getD_mem (by rw [hst.1]; exact hn) 0 _ rfl⟩ ?_
        ((conv => whnf); repeat ((first | refine B0 ?_ | refine B1 ?_ | refine D1 ?_ | refine D2 ?_ | refine CallC.r ?_); conv => whnf))
        exact ResOK.same (by simp only [okBetween, h1, h2, h3, Bool.true_and])
      · exact ResOK.same (by simp only [okBetween, h1, h2, h3, Bool.true_and, Bool.false_and])
    · exact ResOK.same (by simp only [okBetween, h1, h2, Bool.true_and, Bool.false_and])
  · exact ResOK.same (by simp only [okBetween, h1, Bool.false_and])

/-- The maps, one after the other. -/
def mapOK (s : Sheaf) (k i : Nat) : Bool := okBetween (mapAt s k i) s.prime (s.stalks.getD (faceN s k i) 0) (s.stalks.getD k 0)
theorem okMaps_iff {s : Sheaf} (hl : placeL s.base.simplices s.base.simplices.length = s.maps.length) : okMaps s = true ↔ ∀ (k i : Nat), k < s.base.simplices.length → i < (faceIx s.base.simplices k).length → mapOK s k i = true := by
  have har : (arrowsL s.base.simplices).length = placeL s.base.simplices s.base.simplices.length := arrowsTo_len _ (Nat.le_refl _)
  have hstep : ∀ (k i : Nat), k < s.base.simplices.length → i < (faceIx s.base.simplices k).length → ∃ h : placeL s.base.simplices k + i < (arrowsL s.base.simplices).length, mapStep s (placeL s.base.simplices k + i) (arrowsL s.base.simplices)[placeL s.base.simplices k + i] = mapOK s k i := fun k i hk hi => by
    have hg := arrowsTo_get s.base.simplices hk (Nat.le_refl _) hi
    obtain ⟨hlt, he⟩ := List.getElem?_eq_some_iff.1 hg
    have hm : placeL s.base.simplices k + i < s.maps.length := by
      have : placeL s.base.simplices k + i < (arrowsL s.base.simplices).length := hlt
      omega
    refine ⟨hlt, ?_⟩
    have he2 : (arrowsL s.base.simplices)[placeL s.base.simplices k + i]'hlt = ⟨(k : Int), (i : Int), (faceIx s.base.simplices k).getD i 0⟩ := he
    rw [he2]
    simp only [mapStep, List.getElem?_eq_getElem hm, Int.toNat_natCast, mapOK, mapAt, getD_at hm, faceN]
  unfold okMaps
  rw [Bool.and_eq_true, decide_eq_true_eq, allIx_iff]
  constructor
  · rintro ⟨h1, _⟩ k i hk hi
    obtain ⟨hlt, e⟩ := hstep k i hk hi
    rw [← e]; exact h1 _ hlt
  · intro h
    refine ⟨fun j hj => ?_, by omega⟩
    obtain ⟨k, i, hk, hi, e⟩ := arrows_split s.base.simplices (Nat.le_refl _) (j := j) (by omega)
    subst e
    obtain ⟨hlt, e2⟩ := hstep k i hk hi
    rw [e2]; exact h k i hk hi

theorem s_l09Ok (s : Sheaf) (o : Enc.ok s) (hb : s.base.simplices.length ≤ 1048576) (hc : ∀ x ∈ s.base.simplices, x.length ≤ 1048576) (hm : s.maps.length ≤ 1048576) : Sat Tryz.prog 151 [(false, [.ptr 4 (Enc.enc s)])] (.one (.c (.bool (okSheaf s))), []) := by
  have hlm : (s.maps.map (Enc.enc (α := Matrix))).length = s.maps.length := by simp
  refine Sat.intro tok mixed Tryz.func151 rfl rfl ?_
  ((conv => whnf); repeat ((first | refine B0 ?_ | refine B1 ?_ | refine D1 ?_ | refine D2 ?_ | refine CallC.r ?_); conv => whnf))
  refine Pick.mk _ (s_l05Ok s.base hb hc) ?_
  ((conv => whnf); repeat ((first | refine B0 ?_ | refine B1 ?_ | refine D1 ?_ | refine D2 ?_ | refine CallC.r ?_); conv => whnf))
  refine Br.mk (fun h1 => ?_) (fun h1 => ?_) <;> ((conv => whnf); repeat ((first | refine B0 ?_ | refine B1 ?_ | refine D1 ?_ | refine D2 ?_ | refine CallC.r ?_); conv => whnf))
  · exact ResOK.same (by simp only [Bool.not_eq_true'] at h1; simp [okSheaf, h1])
  simp only [Bool.not_eq_false'] at h1
  refine Pick.mk _ (s_spec_ValidPrime s.prime) ?_
  ((conv => whnf); repeat ((first | refine B0 ?_ | refine B1 ?_ | refine D1 ?_ | refine D2 ?_ | refine CallC.r ?_); conv => whnf))
  refine Br.mk (fun h2 => ?_) (fun h2 => ?_) <;> ((conv => whnf); repeat ((first | refine B0 ?_ | refine B1 ?_ | refine D1 ?_ | refine D2 ?_ | refine CallC.r ?_); conv => whnf))
  · exact ResOK.same (by simp only [Bool.not_eq_true'] at h2; simp [okSheaf, h1, h2])
  simp only [Bool.not_eq_false'] at h2
  refine Pick.mk _ (s_l09Stalks s.base s.stalks hb o.2.2.1.1) ?_
  ((conv => whnf); repeat ((first | refine B0 ?_ | refine B1 ?_ | refine D1 ?_ | refine D2 ?_ | refine CallC.r ?_); conv => whnf))
  refine Br.mk (fun h3 => ?_) (fun h3 => ?_) <;> ((conv => whnf); repeat ((first | refine B0 ?_ | refine B1 ?_ | refine D1 ?_ | refine D2 ?_ | refine CallC.r ?_); conv => whnf))
  · exact ResOK.same (by simp only [Bool.not_eq_true'] at h3; simp [okSheaf, h1, h2, h3])
  simp only [Bool.not_eq_false'] at h3
  have hst := okStalks_of h3
  have cx : CxOK s.base.simplices := ⟨h1⟩
  have hl48 := cx.len
  have hfin : okSheaf s = okMaps s := by simp [okSheaf, h1, h2, h3]
  have har : (arrowsL s.base.simplices).length = placeL s.base.simplices s.base.simplices.length := arrowsTo_len _ (Nat.le_refl _)
  rw [hfin]
  refine Pick.mk _ (s_l09Count s.base cx) ?_
  ((conv => whnf); repeat ((first | refine B0 ?_ | refine B1 ?_ | refine D1 ?_ | refine D2 ?_ | refine CallC.r ?_); conv => whnf))
  refine Br.mk (fun h4 => ?_) (fun h4 => ?_) <;> ((conv => whnf); repeat ((first | refine B0 ?_ | refine B1 ?_ | refine D1 ?_ | refine D2 ?_ | refine CallC.r ?_); conv => whnf))
  · have h4 : ¬ placeL s.base.simplices s.base.simplices.length = s.maps.length := by simp at h4; omega
    exact ResOK.same (by rw [okMaps, har, decide_eq_false h4, Bool.and_false])
  have h4 : placeL s.base.simplices s.base.simplices.length = s.maps.length := by simp at h4; omega
  have hiff := okMaps_iff h4
  refine Pick.mk [0, 3] trivial ?_
  ((conv => whnf); repeat ((first | refine B0 ?_ | refine B1 ?_ | refine D1 ?_ | refine D2 ?_ | refine CallC.r ?_); conv => whnf))
  refine LoopL.over (fun (k : Nat) => [(3, .one (.c (.int .i64 ((k : Int)))))]) (fun (k : Nat) => []) (fun (k : Nat) => s.base.simplices.length - k) (fun (k : Nat) => k ≤ s.base.simplices.length ∧ ∀ k' i', k' < k → i' < (faceIx s.base.simplices k').length → mapOK s k' i' = true) ?_ 0 ⟨Nat.zero_le _, by intros; omega⟩
  intro k ⟨k1, k2⟩ ihk
  ((conv => whnf); repeat ((first | refine B0 ?_ | refine B1 ?_ | refine D1 ?_ | refine D2 ?_ | refine CallC.r ?_); conv => whnf))
  refine Br.mk (fun hk => ?_) (fun hk => ?_) <;> ((conv => whnf); repeat ((first | refine B0 ?_ | refine B1 ?_ | refine D1 ?_ | refine D2 ?_ | refine CallC.r ?_); conv => whnf))
  · have hk : k < s.base.simplices.length := by simp only [List.length_map, decide_eq_true_eq] at hk; omega
    have hsm := cx.each _ (List.getElem_mem hk)
    have hfl := faceIx_len hk
    rw [facesL_len] at hfl
    refine Pick.mk [0, 3, 4] trivial ?_
    ((conv => whnf); repeat ((first | refine B0 ?_ | refine B1 ?_ | refine D1 ?_ | refine D2 ?_ | refine CallC.r ?_); conv => whnf))
    refine LoopL.over (fun (i : Nat) => [(4, .one (.c (.int .i64 ((i : Int)))))]) (fun (i : Nat) => []) (fun (i : Nat) => s.base.simplices[k].length - i) (fun (i : Nat) => i ≤ s.base.simplices[k].length ∧ ∀ i', i' < i → i' < (faceIx s.base.simplices k).length → mapOK s k i' = true) ?_ 0 ⟨Nat.zero_le _, by intros; omega⟩
    intro i ⟨i1, i2⟩ ihi
    ((conv => whnf); repeat ((first | refine B0 ?_ | refine B1 ?_ | refine D1 ?_ | refine D2 ?_ | refine CallC.r ?_); conv => whnf))
    have invK : (∀ i', i' < (faceIx s.base.simplices k).length → mapOK s k i' = true) → (k + 1 ≤ s.base.simplices.length ∧ ∀ k' i', k' < k + 1 → i' < (faceIx s.base.simplices k').length → mapOK s k' i' = true) := fun e => ⟨by omega, fun k' i' hk' hi' => by
      by_cases e2 : k' = k
      · subst e2; exact e i' hi'
      · exact k2 k' i' (by omega) hi'⟩
    refine Pick.ix (hk) ?_
    ((conv => whnf); repeat ((first | refine B0 ?_ | refine B1 ?_ | refine D1 ?_ | refine D2 ?_ | refine CallC.r ?_); conv => whnf))
    refine Br.mk (fun h5 => ?_) (fun h5 => ?_) <;> ((conv => whnf); repeat ((first | refine B0 ?_ | refine B1 ?_ | refine D1 ?_ | refine D2 ?_ | refine CallC.r ?_); conv => whnf))
    · have h5 : i < s.base.simplices[k].length := by simp only [List.length_map, decide_eq_true_eq] at h5; omega
      refine Pick.ix (hk) ?_
      ((conv => whnf); repeat ((first | refine B0 ?_ | refine B1 ?_ | refine D1 ?_ | refine D2 ?_ | refine CallC.r ?_); conv => whnf))
      refine Br.mk (fun h6 => ?_) (fun h6 => ?_) <;> ((conv => whnf); repeat ((first | refine B0 ?_ | refine B1 ?_ | refine D1 ?_ | refine D2 ?_ | refine CallC.r ?_); conv => whnf))
      · have h6 : 1 < s.base.simplices[k].length := by simp only [List.length_map, decide_eq_true_eq] at h6; omega
        rw [if_pos h6] at hfl
        have hi : i < (faceIx s.base.simplices k).length := by omega
        have hpm : placeL s.base.simplices k + i < s.maps.length := by
          have := placeL_mono (xs := s.base.simplices) (k := k + 1) (j := s.base.simplices.length) (by omega) (Nat.le_refl _)
          rw [placeL_succ hk, ← faceIx_len hk] at this
          omega
        have em : mapAt s k i = s.maps[placeL s.base.simplices k + i] := by rw [mapAt, getD_at hpm]
        refine Pick.mk _ (s_l09Place s.base cx k i (by omega) (by omega)) ?_
        ((conv => whnf); repeat ((first | refine B0 ?_ | refine B1 ?_ | refine D1 ?_ | refine D2 ?_ | refine CallC.r ?_); conv => whnf))
        refine Pick.ix (hpm) ?_
        ((conv => whnf); repeat ((first | refine B0 ?_ | refine B1 ?_ | refine D1 ?_ | refine D2 ?_ | refine CallC.r ?_); conv => whnf))
        refine Pick.mk _ (s_l09Map s cx hst k i hk hi s.maps[placeL s.base.simplices k + i] (o.2.2.2.2 _ (List.getElem_mem hpm))) ?_
        ((conv => whnf); repeat ((first | refine B0 ?_ | refine B1 ?_ | refine D1 ?_ | refine D2 ?_ | refine CallC.r ?_); conv => whnf))
        rw [← em]
        refine Br.mk (fun h7 => ?_) (fun h7 => ?_) <;> ((conv => whnf); repeat ((first | refine B0 ?_ | refine B1 ?_ | refine D1 ?_ | refine D2 ?_ | refine CallC.r ?_); conv => whnf))
        · refine ResOK.same ?_
          have : okMaps s = false := by
            cases hq : okMaps s with
            | false => rfl
            | true =>
              have := hiff.1 hq k i hk hi
              unfold mapOK at this
              rw [this] at h7; cases h7
          rw [this]
        · refine Pick.at64 (z := (i + 1 : Nat)) (by simp) (by omega) ?_
          ((conv => whnf); repeat ((first | refine B0 ?_ | refine B1 ?_ | refine D1 ?_ | refine D2 ?_ | refine CallC.r ?_); conv => whnf))
          refine ihi (i + 1) ⟨by omega, fun i' hi' hf => ?_⟩ (by omega)
          by_cases e2 : i' = i
          · subst e2; unfold mapOK; simpa using h7
          · exact i2 i' (by omega) hf
      · have h6 : ¬ 1 < s.base.simplices[k].length := by simp only [List.length_map, decide_eq_false_iff_not] at h6; omega
        rw [if_neg h6] at hfl
        refine Pick.at64 (z := (k + 1 : Nat)) (by simp) (by omega) ?_
        ((conv => whnf); repeat ((first | refine B0 ?_ | refine B1 ?_ | refine D1 ?_ | refine D2 ?_ | refine CallC.r ?_); conv => whnf))
        exact ihk (k + 1) (invK fun i' hi' => by omega) (by omega)
    · have h5 : s.base.simplices[k].length ≤ i := by simp only [List.length_map, decide_eq_false_iff_not] at h5; omega
      refine Pick.at64 (z := (k + 1 : Nat)) (by simp) (by omega) ?_
      ((conv => whnf); repeat ((first | refine B0 ?_ | refine B1 ?_ | refine D1 ?_ | refine D2 ?_ | refine CallC.r ?_); conv => whnf))
      refine ihk (k + 1) (invK fun i' hi' => i2 i' ?_ hi') (by omega)
      rw [hfl] at hi'
      split at hi' <;> omega
  · have hk : k = s.base.simplices.length := by simp only [List.length_map, decide_eq_false_iff_not] at hk; omega
    subst hk
    exact ResOK.same (by rw [hiff.2 fun k' i' hk' hi' => k2 k' i' hk' hi'])
end Go.Proofs.YtlnjgoeicanehaaGreat.Pi
