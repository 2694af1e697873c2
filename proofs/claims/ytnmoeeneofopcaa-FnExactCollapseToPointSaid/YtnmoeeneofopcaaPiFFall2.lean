/- What is left without a free pair, in the program and in the reference. No statement of the seat is proved here. -/
import Derived.Test.YtnmoeeneofopcaaPiFFall
namespace Go.Proofs.Ytnmoeeneofopcaa.Pi
open Go
set_option maxRecDepth 10000
set_option maxHeartbeats 6400000
set_option linter.unusedVariables false

theorem s_CompactOrd (xs : List (List Int)) (hb : xs.length ≤ 65536) (hc : ∀ x ∈ xs, x.length ≤ 1048576) (ho : OrdS xs) :
    Sat Try.prog 158 [(false, Enc.enc xs), (false, [.fn 53 []])] (.one (.c (.slice 1 (xs.map Enc.enc))), []) := by
  refine Sat.intro tok mixed Try.func158 rfl rfl ?_
  ((conv => whnf); repeat ((first | refine B0 ?_ | refine B1 ?_ | refine D1 ?_ | refine D2 ?_ | refine CallC.r ?_); conv => whnf))
  refine Br.mk (fun h0 => ?_) (fun h0 => ?_) <;> ((conv => whnf); repeat ((first | refine B0 ?_ | refine B1 ?_ | refine D1 ?_ | refine D2 ?_ | refine CallC.r ?_); conv => whnf))
  · exact ResOK.same rfl
  have h0 : 2 ≤ xs.length := by simp only [List.length_map, decide_eq_false_iff_not] at h0; omega
  refine Pick.mk [0, 1, 5] trivial ?_
  ((conv => whnf); repeat ((first | refine B0 ?_ | refine B1 ?_ | refine D1 ?_ | refine D2 ?_ | refine CallC.r ?_); conv => whnf))
  refine LoopL.over (fun (i : Nat) => [(5, .one (.c (.int .i64 ((i : Int)))))]) (fun (i : Nat) => []) (fun (i : Nat) => xs.length - i) (fun (i : Nat) => 1 ≤ i ∧ i ≤ xs.length) ?_ 1 ⟨Nat.le_refl _, by omega⟩
  intro i ⟨g1, g2⟩ ih
  ((conv => whnf); repeat ((first | refine B0 ?_ | refine B1 ?_ | refine D1 ?_ | refine D2 ?_ | refine CallC.r ?_); conv => whnf))
  refine Br.mk (fun h => ?_) (fun h => ?_) <;> ((conv => whnf); repeat ((first | refine B0 ?_ | refine B1 ?_ | refine D1 ?_ | refine D2 ?_ | refine CallC.r ?_); conv => whnf))
  · have h : i < xs.length := by simp only [List.length_map, decide_eq_true_eq] at h; omega
    refine Pick.ix (h) ?_
    ((conv => whnf); repeat ((first | refine B0 ?_ | refine B1 ?_ | refine D1 ?_ | refine D2 ?_ | refine CallC.r ?_); conv => whnf))
    refine Pick.at64 (z := ((i - 1 : Nat) : Int)) (by omega) (by omega) ?_
    ((conv => whnf); repeat ((first | refine B0 ?_ | refine B1 ?_ | refine D1 ?_ | refine D2 ?_ | refine CallC.r ?_); conv => whnf))
    refine Pick.ix ((show i - 1 < xs.length by omega)) ?_
    ((conv => whnf); repeat ((first | refine B0 ?_ | refine B1 ?_ | refine D1 ?_ | refine D2 ?_ | refine CallC.r ?_); conv => whnf))
    refine Pick.mk _ (s_EqualInt xs[i] xs[i - 1] (by have := hc _ (List.getElem_mem h); simp only [maxLen]; omega)) ?_
    ((conv => whnf); repeat ((first | refine B0 ?_ | refine B1 ?_ | refine D1 ?_ | refine D2 ?_ | refine CallC.r ?_); conv => whnf))
    have hne : sameBy sameInt xs[i] xs[i - 1] = false := by
      rw [sameI, decide_eq_false_iff_not]
      intro e
      have := ho (i - 1) i (by omega) h (by omega)
      rw [cmpS_eq.2 e.symm] at this
      omega
    rw [hne]
    refine Br.mk (fun h => by cases h) (fun _ => ?_)
    ((conv => whnf); repeat ((first | refine B0 ?_ | refine B1 ?_ | refine D1 ?_ | refine D2 ?_ | refine CallC.r ?_); conv => whnf))
    refine Pick.at64 (z := (i + 1 : Nat)) (by simp) (by omega) ?_
    ((conv => whnf); repeat ((first | refine B0 ?_ | refine B1 ?_ | refine D1 ?_ | refine D2 ?_ | refine CallC.r ?_); conv => whnf))
    exact ih (i + 1) ⟨by omega, by omega⟩ (by omega)
  · exact ResOK.same rfl
theorem srtS_ord {xs : List (List Int)} (ho : OrdS xs) : srtS xs = xs := by
  refine List.mergeSort_of_pairwise ((ordS_pair.1 ho).imp fun {a b} h => ?_)
  have := cmpS_anti a b
  simp only [Bool.not_eq_true', Go.Proofs.ltOf, decide_eq_false_iff_not]
  omega
theorem s_inOrder (xs : List (List Int)) (hb : xs.length ≤ 65536) (hc : ∀ x ∈ xs, x.length ≤ 1048576) (ho : OrdS xs) :
    Sat Try.prog 132 [(false, Enc.enc xs)] (.agg [.c (.slice 1 (xs.map Enc.enc))], []) := by
  refine Sat.intro tok mixed Try.func132 rfl rfl ?_
  ((conv => whnf); repeat ((first | refine B0 ?_ | refine B1 ?_ | refine D1 ?_ | refine D2 ?_ | refine CallC.r ?_); conv => whnf))
  refine Pick.mk _ (s_copyLists xs (by omega) hc) ?_
  ((conv => whnf); repeat ((first | refine B0 ?_ | refine B1 ?_ | refine D1 ?_ | refine D2 ?_ | refine CallC.r ?_); conv => whnf))
  refine Pick.mk none trivial ?_
  ((conv => whnf); repeat ((first | refine B0 ?_ | refine B1 ?_ | refine D1 ?_ | refine D2 ?_); conv => whnf))
  refine CallC.x ?_
  ((conv => whnf); repeat ((first | refine B0 ?_ | refine B1 ?_ | refine D1 ?_ | refine D2 ?_); conv => whnf))
  have hs := s_SortFuncS xs (by omega) hc
  rw [srtS_ord ho] at hs
  refine Pick.mk _ hs ?_
  ((conv => whnf); repeat ((first | refine B0 ?_ | refine B1 ?_ | refine D1 ?_ | refine D2 ?_ | refine CallC.r ?_); conv => whnf))
  refine Side.mk (by simp) ?_
  ((conv => whnf); repeat ((first | refine B0 ?_ | refine B1 ?_ | refine D1 ?_ | refine D2 ?_ | refine CallC.r ?_); conv => whnf))
  ((conv => whnf); repeat ((first | refine B0 ?_ | refine B1 ?_ | refine D1 ?_ | refine D2 ?_ | refine CallC.r ?_); conv => whnf))
  refine Pick.mk _ (s_CompactOrd xs hb hc ho) ?_
  ((conv => whnf); repeat ((first | refine B0 ?_ | refine B1 ?_ | refine D1 ?_ | refine D2 ?_ | refine CallC.r ?_); conv => whnf))
  exact ResOK.same rfl
theorem s_collapsed (c : Complex) (p : List Int) (hb : c.simplices.length ≤ 65536) (hc : ∀ x ∈ c.simplices, x.length ≤ 1048576) (ho : OrdS c.simplices) (hp : p.length ≤ 1048576) :
    Sat Try.prog 93 [(true, Enc.enc c), (false, Enc.enc p)] (.agg [.c (.slice 1 ((dropL c.simplices p c.simplices.length).map Enc.enc))], []) := by
  refine Sat.intro tok mixed Try.func93 rfl rfl ?_
  ((conv => whnf); repeat ((first | refine B0 ?_ | refine B1 ?_ | refine D1 ?_ | refine D2 ?_ | refine CallC.r ?_); conv => whnf))
  refine Pick.mk [1, 4, 5, 9, 10, 11] trivial ?_
  ((conv => whnf); repeat ((first | refine B0 ?_ | refine B1 ?_ | refine D1 ?_ | refine D2 ?_ | refine CallC.r ?_); conv => whnf))
  refine LoopL.over (fun (i : Nat) => [(11, .one (.c (.int .i64 ((i : Int)))))]) (fun (i : Nat) => [(320, .arr 1 (List.map Enc.enc (dropL c.simplices p i)))]) (fun (i : Nat) => c.simplices.length - i) (fun (i : Nat) => i ≤ c.simplices.length) ?_ 0 (Nat.zero_le _)
  intro i g1 ih
  have hl := dropL_len c.simplices p i
  ((conv => whnf); repeat ((first | refine B0 ?_ | refine B1 ?_ | refine D1 ?_ | refine D2 ?_ | refine CallC.r ?_); conv => whnf))
  refine Br.mk (fun h => ?_) (fun h => ?_) <;> ((conv => whnf); repeat ((first | refine B0 ?_ | refine B1 ?_ | refine D1 ?_ | refine D2 ?_ | refine CallC.r ?_); conv => whnf))
  · have h : i < c.simplices.length := by simp only [List.length_map, decide_eq_true_eq] at h; omega
    have es := dropL_succ c.simplices p h
    refine Pick.ix (h) ?_
    ((conv => whnf); repeat ((first | refine B0 ?_ | refine B1 ?_ | refine D1 ?_ | refine D2 ?_ | refine CallC.r ?_); conv => whnf))
    refine Pick.mk _ (s_ContainsInt64 p (i : Int) (by simp only [maxLen]; omega)) ?_
    ((conv => whnf); repeat ((first | refine B0 ?_ | refine B1 ?_ | refine D1 ?_ | refine D2 ?_ | refine CallC.r ?_); conv => whnf))
    refine Br.mk (fun h2 => ?_) (fun h2 => ?_) <;> ((conv => whnf); repeat ((first | refine B0 ?_ | refine B1 ?_ | refine D1 ?_ | refine D2 ?_ | refine CallC.r ?_); conv => whnf))
    · have h2 : ¬ hasL p (i : Int) = true := by
        have h2 : (!hasL p (i : Int)) = true := h2
        simpa using h2
      rw [if_neg h2] at es
      refine Side.mk (by simp only [List.length_map, List.length_cons, List.length_nil]; omega) ?_
      ((conv => whnf); repeat ((first | refine B0 ?_ | refine B1 ?_ | refine D1 ?_ | refine D2 ?_ | refine CallC.r ?_); conv => whnf))
      refine Pick.at64 (z := (i + 1 : Nat)) (by simp) (by omega) ?_
      ((conv => whnf); repeat ((first | refine B0 ?_ | refine B1 ?_ | refine D1 ?_ | refine D2 ?_ | refine CallC.r ?_); conv => whnf))
      have hn := ih (i + 1) (by omega) (by omega)
      rw [es, List.map_append] at hn
      exact hn
    · have h2 : hasL p (i : Int) = true := by
        have h2 : (!hasL p (i : Int)) = false := h2
        simpa using h2
      rw [if_pos h2] at es
      refine Pick.at64 (z := (i + 1 : Nat)) (by simp) (by omega) ?_
      ((conv => whnf); repeat ((first | refine B0 ?_ | refine B1 ?_ | refine D1 ?_ | refine D2 ?_ | refine CallC.r ?_); conv => whnf))
      have hn := ih (i + 1) (by omega) (by omega)
      rw [es] at hn
      exact hn
  · have h : i = c.simplices.length := by simp only [List.length_map, decide_eq_false_iff_not] at h; omega
    subst h
    have hsub := dropL_sub c.simplices p
    refine Pick.mk _ (s_inOrder (dropL c.simplices p c.simplices.length) (by omega) (fun x hx => hc x (hsub.subset hx)) (dropL_ord ho p)) ?_
    ((conv => whnf); repeat ((first | refine B0 ?_ | refine B1 ?_ | refine D1 ?_ | refine D2 ?_ | refine CallC.r ?_); conv => whnf))
    exact ResOK.same rfl
theorem s_l08Without (c : Complex) (p : List Int) (hb : c.simplices.length ≤ 65536) (hc : ∀ x ∈ c.simplices, x.length ≤ 1048576) (hp : p.length ≤ 1048576) :
    Sat Try.prog 83 [(false, [.ptr 1 (Enc.enc c)]), (false, Enc.enc p)] (.agg [.c (.slice 1 ((dropL c.simplices p c.simplices.length).map Enc.enc))], []) := by
  refine Sat.intro tok mixed Try.func83 rfl rfl ?_
  ((conv => whnf); repeat ((first | refine B0 ?_ | refine B1 ?_ | refine D1 ?_ | refine D2 ?_ | refine CallC.r ?_); conv => whnf))
  refine Pick.mk [0, 1, 4, 5, 6] trivial ?_
  ((conv => whnf); repeat ((first | refine B0 ?_ | refine B1 ?_ | refine D1 ?_ | refine D2 ?_ | refine CallC.r ?_); conv => whnf))
  refine LoopL.over (fun (i : Nat) => [(6, .one (.c (.int .i64 ((i : Int)))))]) (fun (i : Nat) => [(352, .arr 1 (List.map Enc.enc (dropL c.simplices p i)))]) (fun (i : Nat) => c.simplices.length - i) (fun (i : Nat) => i ≤ c.simplices.length) ?_ 0 (Nat.zero_le _)
  intro i g1 ih
  have hl := dropL_len c.simplices p i
  ((conv => whnf); repeat ((first | refine B0 ?_ | refine B1 ?_ | refine D1 ?_ | refine D2 ?_ | refine CallC.r ?_); conv => whnf))
  refine Br.mk (fun h => ?_) (fun h => ?_) <;> ((conv => whnf); repeat ((first | refine B0 ?_ | refine B1 ?_ | refine D1 ?_ | refine D2 ?_ | refine CallC.r ?_); conv => whnf))
  · have h : i < c.simplices.length := by simp only [List.length_map, decide_eq_true_eq] at h; omega
    have es := dropL_succ c.simplices p h
    refine Pick.mk _ (s_l00Has p (i : Int) (by simp only [maxLen]; omega)) ?_
    ((conv => whnf); repeat ((first | refine B0 ?_ | refine B1 ?_ | refine D1 ?_ | refine D2 ?_ | refine CallC.r ?_); conv => whnf))
    refine Br.mk (fun h2 => ?_) (fun h2 => ?_) <;> ((conv => whnf); repeat ((first | refine B0 ?_ | refine B1 ?_ | refine D1 ?_ | refine D2 ?_ | refine CallC.r ?_); conv => whnf))
    · have h2 : ¬ hasL p (i : Int) = true := by
        have h2 : (!hasL p (i : Int)) = true := h2
        simpa using h2
      rw [if_neg h2] at es
      refine Pick.ix (h) ?_
      ((conv => whnf); repeat ((first | refine B0 ?_ | refine B1 ?_ | refine D1 ?_ | refine D2 ?_ | refine CallC.r ?_); conv => whnf))
      refine Pick.mk _ (s_ownIntQ c.simplices[i] (by have := hc _ (List.getElem_mem h); omega)) ?_
      ((conv => whnf); repeat ((first | refine B0 ?_ | refine B1 ?_ | refine D1 ?_ | refine D2 ?_ | refine CallC.r ?_); conv => whnf))
      refine Side.mk (by simp only [List.length_map, List.length_cons, List.length_nil]; omega) ?_
      ((conv => whnf); repeat ((first | refine B0 ?_ | refine B1 ?_ | refine D1 ?_ | refine D2 ?_ | refine CallC.r ?_); conv => whnf))
      refine Pick.at64 (z := (i + 1 : Nat)) (by simp) (by omega) ?_
      ((conv => whnf); repeat ((first | refine B0 ?_ | refine B1 ?_ | refine D1 ?_ | refine D2 ?_ | refine CallC.r ?_); conv => whnf))
      have hn := ih (i + 1) (by omega) (by omega)
      rw [es, List.map_append] at hn
      exact hn
    · have h2 : hasL p (i : Int) = true := by
        have h2 : (!hasL p (i : Int)) = false := h2
        simpa using h2
      rw [if_pos h2] at es
      refine Pick.at64 (z := (i + 1 : Nat)) (by simp) (by omega) ?_
      ((conv => whnf); repeat ((first | refine B0 ?_ | refine B1 ?_ | refine D1 ?_ | refine D2 ?_ | refine CallC.r ?_); conv => whnf))
      have hn := ih (i + 1) (by omega) (by omega)
      rw [es] at hn
      exact hn
  · have h : i = c.simplices.length := by simp only [List.length_map, decide_eq_false_iff_not] at h; omega
    subst h
    exact ResOK.frz rfl rfl
end Go.Proofs.Ytnmoeeneofopcaa.Pi
