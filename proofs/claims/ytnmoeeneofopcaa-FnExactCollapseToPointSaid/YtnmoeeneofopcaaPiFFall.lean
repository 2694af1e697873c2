/- Free pairs and what is left without one, in the program and in the reference. No statement of the seat is proved here. -/
import Derived.Test.YtnmoeeneofopcaaPiFall
import Derived.Test.YtnmoeeneofopcaaPiFBud
import Derived.Test.YtnmoeeneofopcaaPiFKernel
import Derived.Test.YtnmoeeneofopcaaPiLayF
namespace Go.Proofs.Ytnmoeeneofopcaa.Pi
open Go
set_option maxRecDepth 10000
set_option maxHeartbeats 6400000
set_option linter.unusedVariables false

theorem eq2 {n : Nat} : ((n : Int) = 2) = (n = 2) := propext ⟨fun h => by omega, fun h => by omega⟩
theorem s_isFace1 (s : List Int) (v : Int) (hs : s.length ≤ 1048576) :
    Sat Try.prog 168 ((false, Enc.enc v) :: [CV.ptr 1 (Enc.enc s)].map fun y => (false, [y])) (.one (.c (.bool (!hasL s v))), []) := by
  refine Sat.intro tok mixed Try.func168 rfl rfl ?_
  ((conv => whnf); repeat ((first | refine B0 ?_ | refine B1 ?_ | refine D1 ?_ | refine D2 ?_ | refine CallC.r ?_); conv => whnf))
  refine Pick.mk _ (s_ContainsInt64 s v (by simp only [maxLen]; omega)) ?_
  ((conv => whnf); repeat ((first | refine B0 ?_ | refine B1 ?_ | refine D1 ?_ | refine D2 ?_ | refine CallC.r ?_); conv => whnf))
  exact ResOK.same rfl
theorem s_isFace (a b : List Int) (ha : a.length ≤ 1048576) (hb : b.length ≤ 1048576) : Sat Try.prog 156 [(false, Enc.enc a), (false, Enc.enc b)] (.one (.c (.bool (faceL a b))), []) := by
  refine Sat.intro tok mixed Try.func156 rfl rfl ?_
  ((conv => whnf); repeat ((first | refine B0 ?_ | refine B1 ?_ | refine D1 ?_ | refine D2 ?_ | refine CallC.r ?_); conv => whnf))
  refine Pick.mk _ (s_ContainsFuncInt64 a _ [CV.ptr 1 (Enc.enc b)] (fun v => !hasL b v) (by simp only [maxLen]; omega) (fun v _ => s_isFace1 b v hb)) ?_
  ((conv => whnf); repeat ((first | refine B0 ?_ | refine B1 ?_ | refine D1 ?_ | refine D2 ?_ | refine CallC.r ?_); conv => whnf))
  exact ResOK.same (by rw [faceL, List.all_eq_not_any_not])
theorem s_starOf (c : Complex) (k : Nat) (hk : k < c.simplices.length) (hb : c.simplices.length ≤ 65536) (hc : ∀ x ∈ c.simplices, x.length ≤ 1048576) :
    Sat Try.prog 130 [(true, Enc.enc c), (false, [.int .i64 (k : Int)])] (.one (.rs 0), [(0, .arr 1 ((starL c.simplices c.simplices[k] c.simplices.length).map Enc.enc))]) := by
  refine Sat.intro tok mixed Try.func130 rfl rfl ?_
  ((conv => whnf); repeat ((first | refine B0 ?_ | refine B1 ?_ | refine D1 ?_ | refine D2 ?_ | refine CallC.r ?_); conv => whnf))
  refine Pick.mk [1, 2, 5, 9, 10, 11] trivial ?_
  ((conv => whnf); repeat ((first | refine B0 ?_ | refine B1 ?_ | refine D1 ?_ | refine D2 ?_ | refine CallC.r ?_); conv => whnf))
  refine LoopL.over (fun (i : Nat) => [(11, .one (.c (.int .i64 ((i : Int)))))]) (fun (i : Nat) => [(320, .arr 1 (List.map Enc.enc (starL c.simplices c.simplices[k] i)))]) (fun (i : Nat) => c.simplices.length - i) (fun (i : Nat) => i ≤ c.simplices.length) ?_ 0 (Nat.zero_le _)
  intro i g1 ih
  have hl := starL_len c.simplices c.simplices[k] i
  ((conv => whnf); repeat ((first | refine B0 ?_ | refine B1 ?_ | refine D1 ?_ | refine D2 ?_ | refine CallC.r ?_); conv => whnf))
  refine Br.mk (fun h => ?_) (fun h => ?_) <;> ((conv => whnf); repeat ((first | refine B0 ?_ | refine B1 ?_ | refine D1 ?_ | refine D2 ?_ | refine CallC.r ?_); conv => whnf))
  · have h : i < c.simplices.length := by simp only [List.length_map, decide_eq_true_eq] at h; omega
    have es := starL_succ c.simplices c.simplices[k] h
    refine Pick.ix (h) ?_
    ((conv => whnf); repeat ((first | refine B0 ?_ | refine B1 ?_ | refine D1 ?_ | refine D2 ?_ | refine CallC.r ?_); conv => whnf))
    refine Pick.ix (hk) ?_
    ((conv => whnf); repeat ((first | refine B0 ?_ | refine B1 ?_ | refine D1 ?_ | refine D2 ?_ | refine CallC.r ?_); conv => whnf))
    refine Pick.mk _ (s_isFace c.simplices[k] c.simplices[i] (hc _ (List.getElem_mem hk)) (hc _ (List.getElem_mem h))) ?_
    ((conv => whnf); repeat ((first | refine B0 ?_ | refine B1 ?_ | refine D1 ?_ | refine D2 ?_ | refine CallC.r ?_); conv => whnf))
    refine Br.mk (fun h2 => ?_) (fun h2 => ?_) <;> ((conv => whnf); repeat ((first | refine B0 ?_ | refine B1 ?_ | refine D1 ?_ | refine D2 ?_ | refine CallC.r ?_); conv => whnf))
    · rw [if_pos h2] at es
      refine Side.mk (by simp only [List.length_map, List.length_cons, List.length_nil]; omega) ?_
      ((conv => whnf); repeat ((first | refine B0 ?_ | refine B1 ?_ | refine D1 ?_ | refine D2 ?_ | refine CallC.r ?_); conv => whnf))
      refine Pick.at64 (z := (i + 1 : Nat)) (by simp) (by omega) ?_
      ((conv => whnf); repeat ((first | refine B0 ?_ | refine B1 ?_ | refine D1 ?_ | refine D2 ?_ | refine CallC.r ?_); conv => whnf))
      have hn := ih (i + 1) (by omega) (by omega)
      rw [es, List.map_append] at hn
      exact hn
    · rw [if_neg (by rw [h2]; simp)] at es
      refine Pick.at64 (z := (i + 1 : Nat)) (by simp) (by omega) ?_
      ((conv => whnf); repeat ((first | refine B0 ?_ | refine B1 ?_ | refine D1 ?_ | refine D2 ?_ | refine CallC.r ?_); conv => whnf))
      have hn := ih (i + 1) (by omega) (by omega)
      rw [es] at hn
      exact hn
  · have h : i = c.simplices.length := by simp only [List.length_map, decide_eq_false_iff_not] at h; omega
    subst h
    exact ResOK.same rfl
theorem s_l05Part (a b : List Int) (ha : a.length ≤ 1048576) (hb : b.length ≤ 1048576) : Sat Try.prog 153 [(false, Enc.enc a), (false, Enc.enc b)] (.one (.c (.bool (faceL a b))), []) := by
  refine Sat.intro tok mixed Try.func153 rfl rfl ?_
  ((conv => whnf); repeat ((first | refine B0 ?_ | refine B1 ?_ | refine D1 ?_ | refine D2 ?_ | refine CallC.r ?_); conv => whnf))
  refine Pick.mk [0, 1, 5] trivial ?_
  ((conv => whnf); repeat ((first | refine B0 ?_ | refine B1 ?_ | refine D1 ?_ | refine D2 ?_ | refine CallC.r ?_); conv => whnf))
  refine LoopL.over (fun (i : Nat) => [(5, .one (.c (.int .i64 ((i : Int)))))]) (fun (i : Nat) => []) (fun (i : Nat) => a.length - i) (fun (i : Nat) => i ≤ a.length ∧ faceL (a.take i) b = true) ?_ 0 ⟨Nat.zero_le _, by simp [faceL]⟩
  intro i ⟨g1, g2⟩ ih
  ((conv => whnf); repeat ((first | refine B0 ?_ | refine B1 ?_ | refine D1 ?_ | refine D2 ?_ | refine CallC.r ?_); conv => whnf))
  refine Br.mk (fun h => ?_) (fun h => ?_) <;> ((conv => whnf); repeat ((first | refine B0 ?_ | refine B1 ?_ | refine D1 ?_ | refine D2 ?_ | refine CallC.r ?_); conv => whnf))
  · have h : i < a.length := by simp only [List.length_map, decide_eq_true_eq] at h; omega
    refine Pick.ix (h) ?_
    ((conv => whnf); repeat ((first | refine B0 ?_ | refine B1 ?_ | refine D1 ?_ | refine D2 ?_ | refine CallC.r ?_); conv => whnf))
    refine Pick.mk _ (s_l00Has b a[i] (by simp only [maxLen]; omega)) ?_
    ((conv => whnf); repeat ((first | refine B0 ?_ | refine B1 ?_ | refine D1 ?_ | refine D2 ?_ | refine CallC.r ?_); conv => whnf))
    have hf : faceL (a.take (i + 1)) b = hasL b a[i] := by
      simp only [faceL] at g2 ⊢
      rw [List.take_add_one, List.getElem?_eq_getElem h, Option.toList_some, List.all_append, g2]; simp
    refine Br.mk (fun h2 => ?_) (fun h2 => ?_) <;> ((conv => whnf); repeat ((first | refine B0 ?_ | refine B1 ?_ | refine D1 ?_ | refine D2 ?_ | refine CallC.r ?_); conv => whnf))
    · have h2 : hasL b a[i] = false := by simpa [hasL] using h2
      have : faceL a b = false := by
        simp only [faceL, List.all_eq_false]
        exact ⟨a[i], List.getElem_mem h, by rw [h2]; simp⟩
      exact ResOK.same (by rw [this])
    · have h2 : hasL b a[i] = true := by
        cases hh : hasL b a[i] with
        | true => rfl
        | false => exact absurd h2 (by simp only [hasL] at hh; simp [hh])
      refine Pick.at64 (z := (i + 1 : Nat)) (by simp) (by omega) ?_
      ((conv => whnf); repeat ((first | refine B0 ?_ | refine B1 ?_ | refine D1 ?_ | refine D2 ?_ | refine CallC.r ?_); conv => whnf))
      exact ih (i + 1) ⟨by omega, by rw [hf, h2]⟩ (by omega)
  · have h : i = a.length := by simp only [List.length_map, decide_eq_false_iff_not] at h; omega
    subst h
    rw [List.take_length] at g2
    exact ResOK.same (by rw [g2])
theorem s_l05Star (c : Complex) (s : List Int) (hs : s.length ≤ 1048576) (hb : c.simplices.length ≤ 65536) (hc : ∀ x ∈ c.simplices, x.length ≤ 1048576) :
    Sat Try.prog 121 [(false, [.ptr 1 (Enc.enc c)]), (false, Enc.enc s)] (.one (.rs 0), [(0, .arr 1 ((starL c.simplices s c.simplices.length).map Enc.enc))]) := by
  refine Sat.intro tok mixed Try.func121 rfl rfl ?_
  ((conv => whnf); repeat ((first | refine B0 ?_ | refine B1 ?_ | refine D1 ?_ | refine D2 ?_ | refine CallC.r ?_); conv => whnf))
  refine Pick.mk [0, 1, 5, 6] trivial ?_
  ((conv => whnf); repeat ((first | refine B0 ?_ | refine B1 ?_ | refine D1 ?_ | refine D2 ?_ | refine CallC.r ?_); conv => whnf))
  refine LoopL.over (fun (i : Nat) => [(6, .one (.c (.int .i64 ((i : Int)))))]) (fun (i : Nat) => [(320, .arr 1 (List.map Enc.enc (starL c.simplices s i)))]) (fun (i : Nat) => c.simplices.length - i) (fun (i : Nat) => i ≤ c.simplices.length) ?_ 0 (Nat.zero_le _)
  intro i g1 ih
  have hl := starL_len c.simplices s i
  ((conv => whnf); repeat ((first | refine B0 ?_ | refine B1 ?_ | refine D1 ?_ | refine D2 ?_ | refine CallC.r ?_); conv => whnf))
  refine Br.mk (fun h => ?_) (fun h => ?_) <;> ((conv => whnf); repeat ((first | refine B0 ?_ | refine B1 ?_ | refine D1 ?_ | refine D2 ?_ | refine CallC.r ?_); conv => whnf))
  · have h : i < c.simplices.length := by simp only [List.length_map, decide_eq_true_eq] at h; omega
    have es := starL_succ c.simplices s h
    refine Pick.ix (h) ?_
    ((conv => whnf); repeat ((first | refine B0 ?_ | refine B1 ?_ | refine D1 ?_ | refine D2 ?_ | refine CallC.r ?_); conv => whnf))
    refine Pick.mk _ (s_l05Part s c.simplices[i] hs (hc _ (List.getElem_mem h))) ?_
    ((conv => whnf); repeat ((first | refine B0 ?_ | refine B1 ?_ | refine D1 ?_ | refine D2 ?_ | refine CallC.r ?_); conv => whnf))
    refine Br.mk (fun h2 => ?_) (fun h2 => ?_) <;> ((conv => whnf); repeat ((first | refine B0 ?_ | refine B1 ?_ | refine D1 ?_ | refine D2 ?_ | refine CallC.r ?_); conv => whnf))
    · rw [if_pos h2] at es
      refine Side.mk (by simp only [List.length_map, List.length_cons, List.length_nil]; omega) ?_
      ((conv => whnf); repeat ((first | refine B0 ?_ | refine B1 ?_ | refine D1 ?_ | refine D2 ?_ | refine CallC.r ?_); conv => whnf))
      refine Pick.at64 (z := (i + 1 : Nat)) (by simp) (by omega) ?_
      ((conv => whnf); repeat ((first | refine B0 ?_ | refine B1 ?_ | refine D1 ?_ | refine D2 ?_ | refine CallC.r ?_); conv => whnf))
      have hn := ih (i + 1) (by omega) (by omega)
      rw [es, List.map_append] at hn
      exact hn
    · rw [if_neg (by rw [h2]; simp)] at es
      refine Pick.at64 (z := (i + 1 : Nat)) (by simp) (by omega) ?_
      ((conv => whnf); repeat ((first | refine B0 ?_ | refine B1 ?_ | refine D1 ?_ | refine D2 ?_ | refine CallC.r ?_); conv => whnf))
      have hn := ih (i + 1) (by omega) (by omega)
      rw [es] at hn
      exact hn
  · have h : i = c.simplices.length := by simp only [List.length_map, decide_eq_false_iff_not] at h; omega
    subst h
    exact ResOK.same rfl
theorem s_freePairs (c : Complex) (hb : c.simplices.length ≤ 65536) (hc : ∀ x ∈ c.simplices, x.length ≤ 1048576) :
    Sat Try.prog 91 [(true, Enc.enc c)] (.one (.c (.slice 1 ((freeL c.simplices c.simplices.length).map Enc.enc))), []) := by
  refine Sat.intro tok mixed Try.func91 rfl rfl ?_
  ((conv => whnf); repeat ((first | refine B0 ?_ | refine B1 ?_ | refine D1 ?_ | refine D2 ?_ | refine CallC.r ?_); conv => whnf))
  refine Pick.mk _ (s_sizeInts c.simplices) ?_
  ((conv => whnf); repeat ((first | refine B0 ?_ | refine B1 ?_ | refine D1 ?_ | refine D2 ?_ | refine CallC.r ?_); conv => whnf))
  refine Pick.mk [1, 3, 8, 9] trivial ?_
  ((conv => whnf); repeat ((first | refine B0 ?_ | refine B1 ?_ | refine D1 ?_ | refine D2 ?_ | refine CallC.r ?_); conv => whnf))
  refine LoopL.over (fun (i : Nat) => [(9, .one (.c (.int .i64 ((i : Int)))))]) (fun (i : Nat) => [(192, .arr 1 (List.map Enc.enc (freeL c.simplices i)))]) (fun (i : Nat) => c.simplices.length - i) (fun (i : Nat) => i ≤ c.simplices.length) ?_ 0 (Nat.zero_le _)
  intro i g1 ih
  have hl := freeL_len c.simplices i
  ((conv => whnf); repeat ((first | refine B0 ?_ | refine B1 ?_ | refine D1 ?_ | refine D2 ?_ | refine CallC.r ?_); conv => whnf))
  refine Br.mk (fun h => ?_) (fun h => ?_) <;> ((conv => whnf); repeat ((first | refine B0 ?_ | refine B1 ?_ | refine D1 ?_ | refine D2 ?_ | refine CallC.r ?_); conv => whnf))
  · have h : i < c.simplices.length := by simp only [decide_eq_true_eq] at h; omega
    have es := freeL_succ c.simplices i
    refine Pick.mk _ (s_starOf c i h hb hc) ?_
    ((conv => whnf); repeat ((first | refine B0 ?_ | refine B1 ?_ | refine D1 ?_ | refine D2 ?_ | refine CallC.r ?_); conv => whnf))
    refine Br.mk (fun h2 => ?_) (fun h2 => ?_) <;> ((conv => whnf); repeat ((first | refine B0 ?_ | refine B1 ?_ | refine D1 ?_ | refine D2 ?_ | refine CallC.r ?_); conv => whnf))
    · have h2 : (starL c.simplices c.simplices[i] c.simplices.length).length = 2 := by simpa [eq2] using h2
      rw [pairOf, gD_lt h, if_pos h2] at es
      have h1 : 1 < (starL c.simplices c.simplices[i] c.simplices.length).length := by omega
      rw [gD_lt h1] at es
      refine Side.mk (by simp only [List.length_map]; omega) ?_
      ((conv => whnf); repeat ((first | refine B0 ?_ | refine B1 ?_ | refine D1 ?_ | refine D2 ?_ | refine CallC.r ?_); conv => whnf))
      refine Pick.mk (Enc.enc (starL c.simplices c.simplices[i] c.simplices.length)[1]) (by rw [show Int.toNat 1 = 1 from rfl, List.getElem?_map, List.getElem?_eq_getElem h1]; rfl) ?_
      ((conv => whnf); repeat ((first | refine B0 ?_ | refine B1 ?_ | refine D1 ?_ | refine D2 ?_ | refine CallC.r ?_); conv => whnf))
      refine Pick.mk (some false) trivial ?_
      ((conv => whnf); repeat ((first | refine B0 ?_ | refine B1 ?_ | refine D1 ?_ | refine D2 ?_ | refine CallC.r ?_); conv => whnf))
      refine Side.mk (by simp only [List.length_map, List.length_cons, List.length_nil]; omega) ?_
      ((conv => whnf); repeat ((first | refine B0 ?_ | refine B1 ?_ | refine D1 ?_ | refine D2 ?_ | refine CallC.r ?_); conv => whnf))
      refine Pick.at64 (z := (i + 1 : Nat)) (by simp) (by omega) ?_
      ((conv => whnf); repeat ((first | refine B0 ?_ | refine B1 ?_ | refine D1 ?_ | refine D2 ?_ | refine CallC.r ?_); conv => whnf))
      have hn := ih (i + 1) (by omega) (by omega)
      rw [es, List.map_append] at hn
      exact hn
    · have h2 : ¬ (starL c.simplices c.simplices[i] c.simplices.length).length = 2 := by simpa [eq2] using h2
      rw [pairOf, gD_lt h, if_neg h2, List.append_nil] at es
      refine Pick.at64 (z := (i + 1 : Nat)) (by simp) (by omega) ?_
      ((conv => whnf); repeat ((first | refine B0 ?_ | refine B1 ?_ | refine D1 ?_ | refine D2 ?_ | refine CallC.r ?_); conv => whnf))
      have hn := ih (i + 1) (by omega) (by omega)
      rw [es] at hn
      exact hn
  · have h : i = c.simplices.length := by simp only [decide_eq_false_iff_not] at h; omega
    subst h
    exact ResOK.frz rfl rfl
theorem s_l08Free (c : Complex) (hb : c.simplices.length ≤ 65536) (hc : ∀ x ∈ c.simplices, x.length ≤ 1048576) :
    Sat Try.prog 82 [(false, [.ptr 1 (Enc.enc c)])] (.one (.c (.slice 1 ((freeL c.simplices c.simplices.length).map Enc.enc))), []) := by
  refine Sat.intro tok mixed Try.func82 rfl rfl ?_
  ((conv => whnf); repeat ((first | refine B0 ?_ | refine B1 ?_ | refine D1 ?_ | refine D2 ?_ | refine CallC.r ?_); conv => whnf))
  refine Pick.mk [0, 3, 4] trivial ?_
  ((conv => whnf); repeat ((first | refine B0 ?_ | refine B1 ?_ | refine D1 ?_ | refine D2 ?_ | refine CallC.r ?_); conv => whnf))
  refine LoopL.over (fun (i : Nat) => [(4, .one (.c (.int .i64 ((i : Int)))))]) (fun (i : Nat) => [(192, .arr 1 (List.map Enc.enc (freeL c.simplices i)))]) (fun (i : Nat) => c.simplices.length - i) (fun (i : Nat) => i ≤ c.simplices.length) ?_ 0 (Nat.zero_le _)
  intro i g1 ih
  have hl := freeL_len c.simplices i
  ((conv => whnf); repeat ((first | refine B0 ?_ | refine B1 ?_ | refine D1 ?_ | refine D2 ?_ | refine CallC.r ?_); conv => whnf))
  refine Br.mk (fun h => ?_) (fun h => ?_) <;> ((conv => whnf); repeat ((first | refine B0 ?_ | refine B1 ?_ | refine D1 ?_ | refine D2 ?_ | refine CallC.r ?_); conv => whnf))
  · have h : i < c.simplices.length := by simp only [List.length_map, decide_eq_true_eq] at h; omega
    have es := freeL_succ c.simplices i
    refine Pick.ix (h) ?_
    ((conv => whnf); repeat ((first | refine B0 ?_ | refine B1 ?_ | refine D1 ?_ | refine D2 ?_ | refine CallC.r ?_); conv => whnf))
    refine Pick.mk _ (s_l05Star c c.simplices[i] (hc _ (List.getElem_mem h)) hb hc) ?_
    ((conv => whnf); repeat ((first | refine B0 ?_ | refine B1 ?_ | refine D1 ?_ | refine D2 ?_ | refine CallC.r ?_); conv => whnf))
    refine Br.mk (fun h2 => ?_) (fun h2 => ?_) <;> ((conv => whnf); repeat ((first | refine B0 ?_ | refine B1 ?_ | refine D1 ?_ | refine D2 ?_ | refine CallC.r ?_); conv => whnf))
    · have h2 : (starL c.simplices c.simplices[i] c.simplices.length).length = 2 := by simpa [eq2] using h2
      rw [pairOf, gD_lt h, if_pos h2] at es
      have h1 : 1 < (starL c.simplices c.simplices[i] c.simplices.length).length := by omega
      rw [gD_lt h1] at es
      refine Side.mk (by simp only [List.length_map]; omega) ?_
      ((conv => whnf); repeat ((first | refine B0 ?_ | refine B1 ?_ | refine D1 ?_ | refine D2 ?_ | refine CallC.r ?_); conv => whnf))
      refine Pick.mk (Enc.enc (starL c.simplices c.simplices[i] c.simplices.length)[1]) (by rw [show Int.toNat 1 = 1 from rfl, List.getElem?_map, List.getElem?_eq_getElem h1]; rfl) ?_
      ((conv => whnf); repeat ((first | refine B0 ?_ | refine B1 ?_ | refine D1 ?_ | refine D2 ?_ | refine CallC.r ?_); conv => whnf))
      refine Pick.mk (some false) trivial ?_
      ((conv => whnf); repeat ((first | refine B0 ?_ | refine B1 ?_ | refine D1 ?_ | refine D2 ?_ | refine CallC.r ?_); conv => whnf))
      refine Side.mk (by simp only [List.length_map, List.length_cons, List.length_nil]; omega) ?_
      ((conv => whnf); repeat ((first | refine B0 ?_ | refine B1 ?_ | refine D1 ?_ | refine D2 ?_ | refine CallC.r ?_); conv => whnf))
      refine Pick.at64 (z := (i + 1 : Nat)) (by simp) (by omega) ?_
      ((conv => whnf); repeat ((first | refine B0 ?_ | refine B1 ?_ | refine D1 ?_ | refine D2 ?_ | refine CallC.r ?_); conv => whnf))
      have hn := ih (i + 1) (by omega) (by omega)
      rw [es, List.map_append] at hn
      exact hn
    · have h2 : ¬ (starL c.simplices c.simplices[i] c.simplices.length).length = 2 := by simpa [eq2] using h2
      rw [pairOf, gD_lt h, if_neg h2, List.append_nil] at es
      refine Pick.at64 (z := (i + 1 : Nat)) (by simp) (by omega) ?_
      ((conv => whnf); repeat ((first | refine B0 ?_ | refine B1 ?_ | refine D1 ?_ | refine D2 ?_ | refine CallC.r ?_); conv => whnf))
      have hn := ih (i + 1) (by omega) (by omega)
      rw [es] at hn
      exact hn
  · have h : i = c.simplices.length := by simp only [List.length_map, decide_eq_false_iff_not] at h; omega
    subst h
    exact ResOK.frz rfl rfl
end Go.Proofs.Ytnmoeeneofopcaa.Pi
