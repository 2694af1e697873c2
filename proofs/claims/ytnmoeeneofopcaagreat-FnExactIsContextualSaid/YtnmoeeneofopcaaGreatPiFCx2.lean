/- Complexes that are valid, the reference and the program. No statement of the seat is proved here. -/
import Derived.Test.YtnmoeeneofopcaaGreatPiFCx
namespace Go.Proofs.YtnmoeeneofopcaaGreat.Pi
open Go
set_option maxRecDepth 10000
set_option maxHeartbeats 1600000
set_option linter.unusedVariables false

/-- A result that nobody writes any more. -/
theorem Sat.frz {P : Program} {f : FuncId} {args : List Comp} {r : Res} {pv : PV} (h : Sat P f args r) (hp : frzP r = some pv) : Sat P f args (pv, []) :=
  ⟨h.1, fun I w vals hI hn hr => (h.2 I w vals hI hn hr).mono fun e w' hpost => by
    cases e with
    | returned v =>
      obtain ⟨hb, L, I', q1, q2, q3, q4⟩ := hpost
      obtain ⟨p, H⟩ := r
      refine ⟨hb, ⟨fun _ => none, fun _ => 0, fun _ _ => False, fun _ _ => undef⟩, Iall L H I', fun b hb' hIa => ?_, fun b hIa => ?_, frzP_rep q4 (fun b h => h) hp q3, ?_⟩
      · rcases hIa with h | ⟨k, o, h3, h4⟩
        · exact q1 b hb' h
        · have := (q4.own k o b h3 h4).1
          omega
      · rcases hIa with h | ⟨k, o, h3, h4⟩
        · exact q2 b h
        · exact (q4.own k o b h3 h4).2.2
      · exact ⟨fun k o h => by simp [find] at h, fun k o b h => by simp [find] at h, fun k k' o o' b h => by simp [find] at h⟩
    | outgrown => exact hpost.elim
    | panicked _ => exact hpost.elim⟩

def facesUp (s : List Int) (i : Nat) : List (List Int) := (List.range i).map (dropAt s)
theorem facesUp_succ (s : List Int) (i : Nat) : facesUp s (i + 1) = facesUp s i ++ [dropAt s i] := by simp [facesUp, List.range_succ]
theorem facesUp_all {s : List Int} (h : 1 < s.length) : facesUp s s.length = facesL s := by simp [facesUp, facesL, h]
theorem s_facesOf (s : List Int) (hb : s.length ≤ 1048576) : Sat Tryz.prog 234 [(false, Enc.enc s)] (.one (.rs 0), [(0, .arr 1 ((facesL s).map Enc.enc))]) := by
  have hl : (s.map (Enc.enc (α := Int))).length = s.length := by simp
  refine Sat.intro tok mixed Tryz.func234 rfl rfl ?_
  ((conv => whnf); repeat ((first | refine B0 ?_ | refine B1 ?_ | refine D1 ?_ | refine D2 ?_ | refine CallC.r ?_); conv => whnf))
  by_cases h1 : 1 < s.length
  · refine Pick.mk [0, 3, 6, 7] trivial ?_
    ((conv => whnf); repeat ((first | refine B0 ?_ | refine B1 ?_ | refine D1 ?_ | refine D2 ?_ | refine CallC.r ?_); conv => whnf))
    refine LoopL.over (fun (i : Nat) => [(7, .one (.c (.int .i64 ((i : Int)))))]) (fun (i : Nat) => [(192, .arr 1 (List.map Enc.enc (facesUp s i)))]) (fun (i : Nat) => s.length - i) (fun (i : Nat) => i ≤ s.length) ?_ 0 (Nat.zero_le _)
    intro i hi ih
    ((conv => whnf); repeat ((first | refine B0 ?_ | refine B1 ?_ | refine D1 ?_ | refine D2 ?_ | refine CallC.r ?_); conv => whnf))
    refine Br.mk (fun h => ?_) (fun h => ?_) <;> ((conv => whnf); repeat ((first | refine B0 ?_ | refine B1 ?_ | refine D1 ?_ | refine D2 ?_ | refine CallC.r ?_); conv => whnf))
    · have h : i < s.length := by simp only [List.length_map, decide_eq_true_eq] at h; omega
      refine Br.mk (fun _ => ?_) (fun h2 => absurd h2 (by simp; omega))
      ((conv => whnf); repeat ((first | refine B0 ?_ | refine B1 ?_ | refine CallC.r ?_); conv => whnf))
      refine Pick.drawC 3009 (by kernel_rfl) ?_
      ((conv => whnf); repeat ((first | refine B0 ?_ | refine B1 ?_ | refine D1 ?_ | refine D2 ?_ | refine CallC.r ?_); conv => whnf))
      refine Side.mk (by rw [hl]; omega) ?_
      ((conv => whnf); repeat ((first | refine B0 ?_ | refine B1 ?_ | refine D1 ?_ | refine D2 ?_ | refine CallC.r ?_); conv => whnf))
      refine Pick.at64 (z := ((i + 1 : Nat) : Int)) (by simp) (by omega) ?_
      ((conv => whnf); repeat ((first | refine B0 ?_ | refine B1 ?_ | refine D1 ?_ | refine D2 ?_ | refine CallC.r ?_); conv => whnf))
      refine Side.mk (by rw [hl]; omega) ?_
      ((conv => whnf); repeat ((first | refine B0 ?_ | refine B1 ?_ | refine D1 ?_ | refine D2 ?_ | refine CallC.r ?_); conv => whnf))
      have hcat : Sat Tryz.prog 292 [(false, [CV.slice 1 [[CV.slice 1 (((s.map (Enc.enc (α := Int))).take (i : Int).toNat).drop 0)], [CV.slice 1 (((s.map (Enc.enc (α := Int))).take (s.map (Enc.enc (α := Int))).length).drop ((i + 1 : Nat) : Int).toNat)]]])] (.one (.c (.slice 1 ((dropAt s i).map Enc.enc))), []) := by
        have h9 := s_ConcatInt [s.take i, s.drop (i + 1)] (by simp) (by simp only [List.flatten_cons, List.flatten_nil, List.append_nil, List.length_append, List.length_take, List.length_drop]; omega)
        have e1 : ((s.map (Enc.enc (α := Int))).take (i : Int).toNat).drop 0 = (s.take i).map Enc.enc := by simp [List.map_take]
        have e2 : ((s.map (Enc.enc (α := Int))).take (s.map (Enc.enc (α := Int))).length).drop ((i + 1 : Nat) : Int).toNat = (s.drop (i + 1)).map Enc.enc := by rw [List.take_length]; simp only [Int.toNat_natCast, List.map_drop]
        have e3 : [s.take i, s.drop (i + 1)].flatten = dropAt s i := by simp [dropAt]
        rw [e3] at h9
        rw [e1, e2]
        exact h9.frz rfl
      refine Pick.mk _ hcat ?_
      ((conv => whnf); repeat ((first | refine B0 ?_ | refine B1 ?_ | refine D1 ?_ | refine D2 ?_ | refine CallC.r ?_); conv => whnf))
      refine Side.mk (by simp only [List.length_map, facesUp, List.length_range, List.length_cons, List.length_nil]; omega) ?_
      ((conv => whnf); repeat ((first | refine B0 ?_ | refine B1 ?_ | refine D1 ?_ | refine D2 ?_ | refine CallC.r ?_); conv => whnf))
      refine Pick.at64 (z := (i + 1 : Nat)) (by simp) (by omega) ?_
      ((conv => whnf); repeat ((first | refine B0 ?_ | refine B1 ?_ | refine D1 ?_ | refine D2 ?_ | refine CallC.r ?_); conv => whnf))
      have hn := ih (i + 1) (by omega) (by omega)
      rw [facesUp_succ, List.map_append] at hn
      exact hn
    · have h : i = s.length := by simp only [List.length_map, decide_eq_false_iff_not] at h; omega
      subst h
      exact ResOK.same (by rw [facesUp_all h1])
  · refine Pick.mk [0, 3, 6, 7] trivial ?_
    ((conv => whnf); repeat ((first | refine B0 ?_ | refine B1 ?_ | refine D1 ?_ | refine D2 ?_ | refine CallC.r ?_); conv => whnf))
    refine LoopL.over (fun (i : Nat) => [(7, .one (.c (.int .i64 ((i : Int)))))]) (fun (i : Nat) => [(192, Ob.arr 1 [])]) (fun (i : Nat) => s.length - i) (fun (i : Nat) => i ≤ s.length) ?_ 0 (Nat.zero_le _)
    intro i hi ih
    ((conv => whnf); repeat ((first | refine B0 ?_ | refine B1 ?_ | refine D1 ?_ | refine D2 ?_ | refine CallC.r ?_); conv => whnf))
    refine Br.mk (fun h => ?_) (fun h => ?_) <;> ((conv => whnf); repeat ((first | refine B0 ?_ | refine B1 ?_ | refine D1 ?_ | refine D2 ?_ | refine CallC.r ?_); conv => whnf))
    · have h : i < s.length := by simp only [List.length_map, decide_eq_true_eq] at h; omega
      refine Br.mk (fun h2 => absurd h2 (by simp; omega)) (fun _ => ?_)
      ((conv => whnf); repeat ((first | refine B0 ?_ | refine B1 ?_ | refine D1 ?_ | refine D2 ?_ | refine CallC.r ?_); conv => whnf))
      refine Pick.at64 (z := (i + 1 : Nat)) (by simp) (by omega) ?_
      ((conv => whnf); repeat ((first | refine B0 ?_ | refine B1 ?_ | refine D1 ?_ | refine D2 ?_ | refine CallC.r ?_); conv => whnf))
      exact ih (i + 1) (by omega) (by omega)
    · exact ResOK.same (by rw [facesL, if_neg h1]; rfl)

theorem s_ValidComplex1 (c : Complex) (k : Nat) (f : List Int) (hk : k ≤ c.simplices.length) (ho : OrdS (c.simplices.take k)) (hb : c.simplices.length ≤ 1048576) (hc : ∀ x ∈ c.simplices, x.length ≤ 1048576) : Sat Tryz.prog 235 ((false, Enc.enc f) :: [CV.ptr 1 (Enc.enc c), CV.ptr 1 [.int .i64 k]].map fun y => (false, [y])) (.one (.c (.bool (!decide (0 ≤ ixS (c.simplices.take k) f)))), []) := by
  have hl : (c.simplices.map (Enc.enc (α := List Int))).length = c.simplices.length := by simp
  refine Sat.intro tok mixed Tryz.func235 rfl rfl ?_
  ((conv => whnf); repeat ((first | refine B0 ?_ | refine B1 ?_ | refine D1 ?_ | refine D2 ?_ | refine CallC.r ?_); conv => whnf))
  refine Side.mk (by rw [hl]; omega) ?_
  ((conv => whnf); repeat ((first | refine B0 ?_ | refine B1 ?_ | refine D1 ?_ | refine D2 ?_ | refine CallC.r ?_); conv => whnf))
  have hi := s_indexOf ⟨c.simplices.take k⟩ f ho (by simp; omega) (fun x hx => hc x (List.mem_of_mem_take hx))
  rw [show (Enc.enc (⟨c.simplices.take k⟩ : Complex)) = [CV.slice 1 (((c.simplices.map (Enc.enc (α := List Int))).take (k : Int).toNat).drop 0)] by simp [Enc.enc, List.map_take]] at hi
  refine Pick.mk _ hi ?_
  ((conv => whnf); repeat ((first | refine B0 ?_ | refine B1 ?_ | refine D1 ?_ | refine D2 ?_ | refine CallC.r ?_); conv => whnf))
  exact ResOK.same (by
    by_cases h : 0 ≤ ixS (c.simplices.take k) f
    · have : ¬ ixS (c.simplices.take k) f < 0 := by omega
      simp [h, this]
    · have : ixS (c.simplices.take k) f < 0 := by omega
      simp [h, this])

theorem s_ValidComplex (c : Complex) (o : Enc.ok c) (hb : c.simplices.length ≤ 1048576) (hc : ∀ x ∈ c.simplices, x.length ≤ 1048576) : Sat Tryz.prog 140 [(true, Enc.enc c)] (.one (.c (.bool (okComplex c))), []) := by
  have hl : (c.simplices.map (Enc.enc (α := List Int))).length = c.simplices.length := by simp
  refine Sat.intro tok mixed Tryz.func140 rfl rfl ?_
  ((conv => whnf); repeat ((first | refine B0 ?_ | refine B1 ?_ | refine D1 ?_ | refine D2 ?_ | refine CallC.r ?_); conv => whnf))
  refine Pick.mk [1, 6, 7, 8, 1000064] trivial ?_
  ((conv => whnf); repeat ((first | refine B0 ?_ | refine B1 ?_ | refine D1 ?_ | refine D2 ?_ | refine CallC.r ?_); conv => whnf))
  refine LoopL.over (fun (i : Nat) => [(8, .one (.c (.int .i64 ((i : Int)))))]) (fun (i : Nat) => []) (fun (i : Nat) => c.simplices.length - i) (fun (i : Nat) => i ≤ c.simplices.length ∧ ∀ (j : Nat) (h : j < c.simplices.length), j < i → simpStep c.simplices j c.simplices[j] = true) ?_ 0 ⟨Nat.zero_le _, by intros; omega⟩
  intro i ⟨h2, h3⟩ ih
  ((conv => whnf); repeat ((first | refine B0 ?_ | refine B1 ?_ | refine D1 ?_ | refine D2 ?_ | refine CallC.r ?_); conv => whnf))
  refine Br.mk (fun h => ?_) (fun h => ?_) <;> ((conv => whnf); repeat ((first | refine B0 ?_ | refine B1 ?_ | refine D1 ?_ | refine D2 ?_ | refine CallC.r ?_); conv => whnf))
  · have h : i < c.simplices.length := by simp only [List.length_map, decide_eq_true_eq] at h; omega
    have no : simpStep c.simplices i c.simplices[i] = false → okComplex c = false := fun e => by
      have : allIx (simpStep c.simplices) 0 c.simplices = false := allIx_no (i := i) (List.getElem?_eq_getElem h) (by rw [Nat.zero_add]; exact e)
      simp [okComplex, okSimps, this]
    have hlen := hc _ (List.getElem_mem h)
    refine Pick.ix (h) ?_
    ((conv => whnf); repeat ((first | refine B0 ?_ | refine B1 ?_ | refine D1 ?_ | refine D2 ?_ | refine CallC.r ?_); conv => whnf))
    refine Pick.mk _ (s_ValidSimplex c.simplices[i] (by simp only [maxLen]; omega)) ?_
    ((conv => whnf); repeat ((first | refine B0 ?_ | refine B1 ?_ | refine D1 ?_ | refine D2 ?_ | refine CallC.r ?_); conv => whnf))
    have hoT : OrdS (c.simplices.take i) := before_ord h2 fun j hj hlt => by
      have := h3 j hj hlt
      simp only [simpStep, Bool.and_eq_true] at this
      exact this.2.1
    have hcon := s_ContainsFuncInt64S (facesL c.simplices[i]) 235 [CV.ptr 1 (Enc.enc c), CV.ptr 1 [.int .i64 i]] (fun f => !decide (0 ≤ ixS (c.simplices.take i) f)) (by rw [facesL_len]; simp only [maxLen]; split <;> omega) (fun f _ => s_ValidComplex1 c i f h2 hoT hb hc)
    have hall : (!((facesL c.simplices[i]).any fun f => !decide (0 ≤ ixS (c.simplices.take i) f))) = (facesL c.simplices[i]).all fun f => decide (0 ≤ ixS (c.simplices.take i) f) := not_any_not _ _
    have yes : simpStep c.simplices i c.simplices[i] = true → ∀ (j : Nat) (h : j < c.simplices.length), j < i + 1 → simpStep c.simplices j c.simplices[j] = true := fun e j hj hlt => by
      by_cases e2 : j = i
      · subst e2; exact e
      · exact h3 j hj (by omega)
    have tail : okSimp c.simplices[i] = true → before c.simplices i c.simplices[i] = true → ∀ b, (facesL c.simplices[i]).any (fun f => !decide (0 ≤ ixS (c.simplices.take i) f)) = b → simpStep c.simplices i c.simplices[i] = !b := fun a1 a2 b e => by
      simp only [simpStep, a1, a2, Bool.true_and, ← hall, e]
    refine Br.mk (fun h4 => ?_) (fun h4 => ?_) <;> ((conv => whnf); repeat ((first | refine B0 ?_ | refine B1 ?_ | refine D1 ?_ | refine D2 ?_ | refine CallC.r ?_); conv => whnf))
    · exact ResOK.same (by rw [no (by simp only [Bool.not_eq_true'] at h4; simp [simpStep, h4])])
    · simp only [Bool.not_eq_false'] at h4
      refine Br.mk (fun h5 => ?_) (fun h5 => ?_) <;> ((conv => whnf); repeat ((first | refine B0 ?_ | refine B1 ?_ | refine D1 ?_ | refine D2 ?_ | refine CallC.r ?_); conv => whnf))
      · have h5 : 0 < i := by simp only [decide_eq_true_eq] at h5; omega
        have he : before c.simplices i c.simplices[i] = decide (cmpS c.simplices[i - 1] c.simplices[i] < 0) := by
          have : ¬ i = 0 := by omega
          simp [before, this, List.getElem?_eq_getElem (by omega : i - 1 < c.simplices.length)]
        refine Pick.at64 (z := ((i - 1 : Nat) : Int)) (by omega) (by omega) ?_
        ((conv => whnf); repeat ((first | refine B0 ?_ | refine B1 ?_ | refine D1 ?_ | refine D2 ?_ | refine CallC.r ?_); conv => whnf))
        refine Pick.ix ((by omega : i - 1 < c.simplices.length)) ?_
        ((conv => whnf); repeat ((first | refine B0 ?_ | refine B1 ?_ | refine D1 ?_ | refine D2 ?_ | refine CallC.r ?_); conv => whnf))
        refine Pick.mk _ (s_compareSimplices c.simplices[i - 1] c.simplices[i] (hc _ (List.getElem_mem _))) ?_
        ((conv => whnf); repeat ((first | refine B0 ?_ | refine B1 ?_ | refine D1 ?_ | refine D2 ?_ | refine CallC.r ?_); conv => whnf))
        refine Br.mk (fun h6 => ?_) (fun h6 => ?_) <;> ((conv => whnf); repeat ((first | refine B0 ?_ | refine B1 ?_ | refine D1 ?_ | refine D2 ?_ | refine CallC.r ?_); conv => whnf))
        · have h6 : ¬ cmpS c.simplices[i - 1] c.simplices[i] < 0 := by simp only [decide_eq_true_eq] at h6; omega
          exact ResOK.same (by rw [no (by simp [simpStep, he, h6])])
        · have h6 : cmpS c.simplices[i - 1] c.simplices[i] < 0 := by simp only [decide_eq_false_iff_not] at h6; omega
          refine Pick.mk _ (s_facesOf c.simplices[i] hlen) ?_
          ((conv => whnf); repeat ((first | refine B0 ?_ | refine B1 ?_ | refine D1 ?_ | refine D2 ?_ | refine CallC.r ?_); conv => whnf))
          refine Pick.mk _ hcon ?_
          ((conv => whnf); repeat ((first | refine B0 ?_ | refine B1 ?_ | refine D1 ?_ | refine D2 ?_ | refine CallC.r ?_); conv => whnf))
          refine Br.mk (fun h7 => ?_) (fun h7 => ?_) <;> ((conv => whnf); repeat ((first | refine B0 ?_ | refine B1 ?_ | refine D1 ?_ | refine D2 ?_ | refine CallC.r ?_); conv => whnf))
          · exact ResOK.same (by rw [no (by rw [tail h4 (by rw [he]; simpa using h6) _ h7]; rfl)])
          · refine Pick.at64 (z := (i + 1 : Nat)) (by simp) (by omega) ?_
            ((conv => whnf); repeat ((first | refine B0 ?_ | refine B1 ?_ | refine D1 ?_ | refine D2 ?_ | refine CallC.r ?_); conv => whnf))
            exact ih (i + 1) ⟨by omega, yes (by rw [tail h4 (by rw [he]; simpa using h6) _ h7]; rfl)⟩ (by omega)
      · have h5 : i = 0 := by simp only [decide_eq_false_iff_not] at h5; omega
        have he : before c.simplices i c.simplices[i] = true := by simp [before, h5]
        refine Pick.mk _ (s_facesOf c.simplices[i] hlen) ?_
        ((conv => whnf); repeat ((first | refine B0 ?_ | refine B1 ?_ | refine D1 ?_ | refine D2 ?_ | refine CallC.r ?_); conv => whnf))
        refine Pick.mk _ hcon ?_
        ((conv => whnf); repeat ((first | refine B0 ?_ | refine B1 ?_ | refine D1 ?_ | refine D2 ?_ | refine CallC.r ?_); conv => whnf))
        refine Br.mk (fun h7 => ?_) (fun h7 => ?_) <;> ((conv => whnf); repeat ((first | refine B0 ?_ | refine B1 ?_ | refine D1 ?_ | refine D2 ?_ | refine CallC.r ?_); conv => whnf))
        · exact ResOK.same (by rw [no (by rw [tail h4 he _ h7]; rfl)])
        · refine Pick.at64 (z := (i + 1 : Nat)) (by simp) (by omega) ?_
          ((conv => whnf); repeat ((first | refine B0 ?_ | refine B1 ?_ | refine D1 ?_ | refine D2 ?_ | refine CallC.r ?_); conv => whnf))
          exact ih (i + 1) ⟨by omega, yes (by rw [tail h4 he _ h7]; rfl)⟩ (by omega)
  · have h : i = c.simplices.length := by simp only [List.length_map, decide_eq_false_iff_not] at h; omega
    have : allIx (simpStep c.simplices) 0 c.simplices = true := allIx_iff.2 fun j hj => h3 j hj (by omega)
    exact ResOK.same (by rw [okComplex, okSimps, this, hl, Bool.true_and]; simp only [Int.ofNat_le, show ((48 : Int)) = ((48 : Nat) : Int) from rfl])

theorem facesL_at {s : List Int} {k : Nat} (h1 : 1 < s.length) (h : k < s.length) : dropAt s k ∈ facesL s := List.mem_of_getElem? (facesL_get h1 h)
theorem s_l05Ok (c : Complex) (hb : c.simplices.length ≤ 1048576) (hc : ∀ x ∈ c.simplices, x.length ≤ 1048576) : Sat Tryz.prog 108 [(false, [.ptr 1 (Enc.enc c)])] (.one (.c (.bool (okComplex c))), []) := by
  have hl : (c.simplices.map (Enc.enc (α := List Int))).length = c.simplices.length := by simp
  have hokW : okComplex c = (allIx (simpStepW c.simplices) 0 c.simplices && decide (c.simplices.length ≤ 48)) := by rw [simps_same]; rfl
  refine Sat.intro tok mixed Tryz.func108 rfl rfl ?_
  ((conv => whnf); repeat ((first | refine B0 ?_ | refine B1 ?_ | refine D1 ?_ | refine D2 ?_ | refine CallC.r ?_); conv => whnf))
  refine Br.mk (fun h48 => ?_) (fun h48 => ?_) <;> ((conv => whnf); repeat ((first | refine B0 ?_ | refine B1 ?_ | refine D1 ?_ | refine D2 ?_ | refine CallC.r ?_); conv => whnf))
  · have h48 : ¬ c.simplices.length ≤ 48 := by simp only [List.length_map, decide_eq_true_eq] at h48; omega
    exact ResOK.same (by rw [hokW, decide_eq_false h48, Bool.and_false])
  have h48 : c.simplices.length ≤ 48 := by simp only [List.length_map, decide_eq_false_iff_not] at h48; omega
  refine Pick.mk [0, 3] trivial ?_
  ((conv => whnf); repeat ((first | refine B0 ?_ | refine B1 ?_ | refine D1 ?_ | refine D2 ?_ | refine CallC.r ?_); conv => whnf))
  refine LoopL.over (fun (i : Nat) => [(3, .one (.c (.int .i64 ((i : Int)))))]) (fun (i : Nat) => []) (fun (i : Nat) => c.simplices.length - i) (fun (i : Nat) => i ≤ c.simplices.length ∧ ∀ (j : Nat) (h : j < c.simplices.length), j < i → simpStepW c.simplices j c.simplices[j] = true) ?_ 0 ⟨Nat.zero_le _, by intros; omega⟩
  intro i ⟨h2, h3⟩ ih
  ((conv => whnf); repeat ((first | refine B0 ?_ | refine B1 ?_ | refine D1 ?_ | refine D2 ?_ | refine CallC.r ?_); conv => whnf))
  refine Br.mk (fun h => ?_) (fun h => ?_) <;> ((conv => whnf); repeat ((first | refine B0 ?_ | refine B1 ?_ | refine D1 ?_ | refine D2 ?_ | refine CallC.r ?_); conv => whnf))
  · have h : i < c.simplices.length := by simp only [List.length_map, decide_eq_true_eq] at h; omega
    have no : simpStepW c.simplices i c.simplices[i] = false → okComplex c = false := fun e => by
      have : allIx (simpStepW c.simplices) 0 c.simplices = false := allIx_no (i := i) (List.getElem?_eq_getElem h) (by rw [Nat.zero_add]; exact e)
      rw [hokW, this, Bool.false_and]
    have yes : simpStepW c.simplices i c.simplices[i] = true → ∀ (j : Nat) (h : j < c.simplices.length), j < i + 1 → simpStepW c.simplices j c.simplices[j] = true := fun e j hj hlt => by
      by_cases e2 : j = i
      · subst e2; exact e
      · exact h3 j hj (by omega)
    have hlen := hc _ (List.getElem_mem h)
    have hl2 : (c.simplices[i].map (Enc.enc (α := Int))).length = c.simplices[i].length := by simp
    refine Pick.ix (h) ?_
    ((conv => whnf); repeat ((first | refine B0 ?_ | refine B1 ?_ | refine D1 ?_ | refine D2 ?_ | refine CallC.r ?_); conv => whnf))
    refine Pick.mk _ (s_l05Simplex c.simplices[i] (by simp only [maxLen]; omega)) ?_
    ((conv => whnf); repeat ((first | refine B0 ?_ | refine B1 ?_ | refine D1 ?_ | refine D2 ?_ | refine CallC.r ?_); conv => whnf))
    refine Br.mk (fun h4 => ?_) (fun h4 => ?_) <;> ((conv => whnf); repeat ((first | refine B0 ?_ | refine B1 ?_ | refine D1 ?_ | refine D2 ?_ | refine CallC.r ?_); conv => whnf))
    · exact ResOK.same (by rw [no (by simp only [Bool.not_eq_true'] at h4; simp [simpStepW, h4])])
    · simp only [Bool.not_eq_false'] at h4
      refine Br.mk (fun h5 => ?_) (fun h5 => ?_) <;> ((conv => whnf); repeat ((first | refine B0 ?_ | refine B1 ?_ | refine D1 ?_ | refine D2 ?_ | refine CallC.r ?_); conv => whnf))
      · have h5 : 0 < i := by simp only [decide_eq_true_eq] at h5; omega
        have he : before c.simplices i c.simplices[i] = decide (cmpS c.simplices[i - 1] c.simplices[i] < 0) := by
          have : ¬ i = 0 := by omega
          simp [before, this, List.getElem?_eq_getElem (by omega : i - 1 < c.simplices.length)]
        refine Pick.at64 (z := ((i - 1 : Nat) : Int)) (by omega) (by omega) ?_
        ((conv => whnf); repeat ((first | refine B0 ?_ | refine B1 ?_ | refine D1 ?_ | refine D2 ?_ | refine CallC.r ?_); conv => whnf))
        refine Pick.ix ((by omega : i - 1 < c.simplices.length)) ?_
        ((conv => whnf); repeat ((first | refine B0 ?_ | refine B1 ?_ | refine D1 ?_ | refine D2 ?_ | refine CallC.r ?_); conv => whnf))
        refine Pick.mk _ (s_l05Before c.simplices[i - 1] c.simplices[i] (hc _ (List.getElem_mem _))) ?_
        ((conv => whnf); repeat ((first | refine B0 ?_ | refine B1 ?_ | refine D1 ?_ | refine D2 ?_ | refine CallC.r ?_); conv => whnf))
        refine Br.mk (fun h6 => ?_) (fun h6 => ?_) <;> ((conv => whnf); repeat ((first | refine B0 ?_ | refine B1 ?_ | refine D1 ?_ | refine D2 ?_ | refine CallC.r ?_); conv => whnf))
        · have h6 : ¬ cmpS c.simplices[i - 1] c.simplices[i] < 0 := by simpa using h6
          exact ResOK.same (by rw [no (by simp [simpStepW, he, h6])])
        · have h6 : cmpS c.simplices[i - 1] c.simplices[i] < 0 := by simpa using h6
          have hbe : before c.simplices i c.simplices[i] = true := by rw [he]; simpa using h6
          have hsh : ∀ b, (facesL c.simplices[i]).all (fun f => decide (0 ≤ ixS c.simplices f)) = b → simpStepW c.simplices i c.simplices[i] = b := fun b e => by simp only [simpStepW, h4, hbe, Bool.true_and, e]
          refine Pick.mk [0, 3, 4, 5] trivial ?_
          ((conv => whnf); repeat ((first | refine B0 ?_ | refine B1 ?_ | refine D1 ?_ | refine D2 ?_ | refine CallC.r ?_); conv => whnf))
          refine LoopL.over (fun (k : Nat) => [(5, .one (.c (.int .i64 ((k : Int)))))]) (fun (k : Nat) => []) (fun (k : Nat) => c.simplices[i].length - k) (fun (k : Nat) => k ≤ c.simplices[i].length ∧ (1 < c.simplices[i].length → ∀ j, j < k → 0 ≤ ixS c.simplices (dropAt c.simplices[i] j))) ?_ 0 ⟨Nat.zero_le _, by intros; omega⟩
          intro k ⟨q2, q3⟩ ihk
          ((conv => whnf); repeat ((first | refine B0 ?_ | refine B1 ?_ | refine D1 ?_ | refine D2 ?_ | refine CallC.r ?_); conv => whnf))
          have fin : ((facesL c.simplices[i]).all fun f => decide (0 ≤ ixS c.simplices f)) = true → _ := fun e => ih (i + 1) ⟨by omega, yes (hsh true e)⟩ (by omega)
          refine Br.mk (fun q4 => ?_) (fun q4 => ?_) <;> ((conv => whnf); repeat ((first | refine B0 ?_ | refine B1 ?_ | refine D1 ?_ | refine D2 ?_ | refine CallC.r ?_); conv => whnf))
          · have q4 : k < c.simplices[i].length := by simp only [List.length_map, decide_eq_true_eq] at q4; omega
            refine Br.mk (fun q5 => ?_) (fun q5 => ?_) <;> ((conv => whnf); repeat ((first | refine B0 ?_ | refine B1 ?_ | refine D1 ?_ | refine D2 ?_ | refine CallC.r ?_); conv => whnf))
            · have q5 : 1 < c.simplices[i].length := by simp only [List.length_map, decide_eq_true_eq] at q5; omega
              refine Pick.mk _ (s_l05Drop c.simplices[i] k q4 hlen) ?_
              ((conv => whnf); repeat ((first | refine B0 ?_ | refine B1 ?_ | refine D1 ?_ | refine D2 ?_ | refine CallC.r ?_); conv => whnf))
              refine Pick.mk _ (s_l05Find c (dropAt c.simplices[i] k) (by simp only [maxLen]; omega) (by rw [dropAt_len q4]; simp only [maxLen]; omega) (fun x hx => by have := hc x hx; simp only [maxLen]; omega)) ?_
              ((conv => whnf); repeat ((first | refine B0 ?_ | refine B1 ?_ | refine D1 ?_ | refine D2 ?_ | refine CallC.r ?_); conv => whnf))
              refine Br.mk (fun q6 => ?_) (fun q6 => ?_) <;> ((conv => whnf); repeat ((first | refine B0 ?_ | refine B1 ?_ | refine D1 ?_ | refine D2 ?_ | refine CallC.r ?_); conv => whnf))
              · have q6 : ¬ 0 ≤ ixS c.simplices (dropAt c.simplices[i] k) := by simp only [decide_eq_true_eq] at q6; omega
                exact ResOK.same (by rw [no (hsh false (by rw [List.all_eq_false]; exact ⟨_, facesL_at q5 q4, by simpa using q6⟩))])
              · have q6 : 0 ≤ ixS c.simplices (dropAt c.simplices[i] k) := by simp only [decide_eq_false_iff_not] at q6; omega
                refine Pick.at64 (z := (k + 1 : Nat)) (by simp) (by omega) ?_
                ((conv => whnf); repeat ((first | refine B0 ?_ | refine B1 ?_ | refine D1 ?_ | refine D2 ?_ | refine CallC.r ?_); conv => whnf))
                exact ihk (k + 1) ⟨by omega, fun a j hj => by
                  by_cases e2 : j = k
                  · subst e2; exact q6
                  · exact q3 a j (by omega)⟩ (by omega)
            · have q5 : ¬ 1 < c.simplices[i].length := by simp only [List.length_map, decide_eq_false_iff_not] at q5; omega
              refine Pick.at64 (z := (i + 1 : Nat)) (by simp) (by omega) ?_
              ((conv => whnf); repeat ((first | refine B0 ?_ | refine B1 ?_ | refine D1 ?_ | refine D2 ?_ | refine CallC.r ?_); conv => whnf))
              exact fin (by rw [facesL, if_neg q5]; rfl)
          · have q4 : k = c.simplices[i].length := by simp only [List.length_map, decide_eq_false_iff_not] at q4; omega
            refine Pick.at64 (z := (i + 1 : Nat)) (by simp) (by omega) ?_
            ((conv => whnf); repeat ((first | refine B0 ?_ | refine B1 ?_ | refine D1 ?_ | refine D2 ?_ | refine CallC.r ?_); conv => whnf))
            refine fin ?_
            rw [List.all_eq_true]
            intro f hf
            unfold facesL at hf
            split at hf
            · rename_i q5
              obtain ⟨j, hj, rfl⟩ := List.mem_map.1 hf
              rw [List.mem_range] at hj
              simpa using q3 q5 j (by omega)
            · simp at hf
      · have h5 : i = 0 := by simp only [decide_eq_false_iff_not] at h5; omega
        have hbe : before c.simplices i c.simplices[i] = true := by simp [before, h5]
        have hsh : ∀ b, (facesL c.simplices[i]).all (fun f => decide (0 ≤ ixS c.simplices f)) = b → simpStepW c.simplices i c.simplices[i] = b := fun b e => by simp only [simpStepW, h4, hbe, Bool.true_and, e]
        refine Pick.mk [0, 3, 4, 5] trivial ?_
        ((conv => whnf); repeat ((first | refine B0 ?_ | refine B1 ?_ | refine D1 ?_ | refine D2 ?_ | refine CallC.r ?_); conv => whnf))
        refine LoopL.over (fun (k : Nat) => [(5, .one (.c (.int .i64 ((k : Int)))))]) (fun (k : Nat) => []) (fun (k : Nat) => c.simplices[i].length - k) (fun (k : Nat) => k ≤ c.simplices[i].length ∧ (1 < c.simplices[i].length → ∀ j, j < k → 0 ≤ ixS c.simplices (dropAt c.simplices[i] j))) ?_ 0 ⟨Nat.zero_le _, by intros; omega⟩
        intro k ⟨q2, q3⟩ ihk
        ((conv => whnf); repeat ((first | refine B0 ?_ | refine B1 ?_ | refine D1 ?_ | refine D2 ?_ | refine CallC.r ?_); conv => whnf))
        have fin : ((facesL c.simplices[i]).all fun f => decide (0 ≤ ixS c.simplices f)) = true → _ := fun e => ih (i + 1) ⟨by omega, yes (hsh true e)⟩ (by omega)
        refine Br.mk (fun q4 => ?_) (fun q4 => ?_) <;> ((conv => whnf); repeat ((first | refine B0 ?_ | refine B1 ?_ | refine D1 ?_ | refine D2 ?_ | refine CallC.r ?_); conv => whnf))
        · have q4 : k < c.simplices[i].length := by simp only [List.length_map, decide_eq_true_eq] at q4; omega
          refine Br.mk (fun q5 => ?_) (fun q5 => ?_) <;> ((conv => whnf); repeat ((first | refine B0 ?_ | refine B1 ?_ | refine D1 ?_ | refine D2 ?_ | refine CallC.r ?_); conv => whnf))
          · have q5 : 1 < c.simplices[i].length := by simp only [List.length_map, decide_eq_true_eq] at q5; omega
            refine Pick.mk _ (s_l05Drop c.simplices[i] k q4 hlen) ?_
            ((conv => whnf); repeat ((first | refine B0 ?_ | refine B1 ?_ | refine D1 ?_ | refine D2 ?_ | refine CallC.r ?_); conv => whnf))
            refine Pick.mk _ (s_l05Find c (dropAt c.simplices[i] k) (by simp only [maxLen]; omega) (by rw [dropAt_len q4]; simp only [maxLen]; omega) (fun x hx => by have := hc x hx; simp only [maxLen]; omega)) ?_
            ((conv => whnf); repeat ((first | refine B0 ?_ | refine B1 ?_ | refine D1 ?_ | refine D2 ?_ | refine CallC.r ?_); conv => whnf))
            refine Br.mk (fun q6 => ?_) (fun q6 => ?_) <;> ((conv => whnf); repeat ((first | refine B0 ?_ | refine B1 ?_ | refine D1 ?_ | refine D2 ?_ | refine CallC.r ?_); conv => whnf))
            · have q6 : ¬ 0 ≤ ixS c.simplices (dropAt c.simplices[i] k) := by simp only [decide_eq_true_eq] at q6; omega
              exact ResOK.same (by rw [no (hsh false (by rw [List.all_eq_false]; exact ⟨_, facesL_at q5 q4, by simpa using q6⟩))])
            · have q6 : 0 ≤ ixS c.simplices (dropAt c.simplices[i] k) := by simp only [decide_eq_false_iff_not] at q6; omega
              refine Pick.at64 (z := (k + 1 : Nat)) (by simp) (by omega) ?_
              ((conv => whnf); repeat ((first | refine B0 ?_ | refine B1 ?_ | refine D1 ?_ | refine D2 ?_ | refine CallC.r ?_); conv => whnf))
              exact ihk (k + 1) ⟨by omega, fun a j hj => by
                by_cases e2 : j = k
                · subst e2; exact q6
                · exact q3 a j (by omega)⟩ (by omega)
          · have q5 : ¬ 1 < c.simplices[i].length := by simp only [List.length_map, decide_eq_false_iff_not] at q5; omega
            refine Pick.at64 (z := (i + 1 : Nat)) (by simp) (by omega) ?_
            ((conv => whnf); repeat ((first | refine B0 ?_ | refine B1 ?_ | refine D1 ?_ | refine D2 ?_ | refine CallC.r ?_); conv => whnf))
            exact fin (by rw [facesL, if_neg q5]; rfl)
        · have q4 : k = c.simplices[i].length := by simp only [List.length_map, decide_eq_false_iff_not] at q4; omega
          refine Pick.at64 (z := (i + 1 : Nat)) (by simp) (by omega) ?_
          ((conv => whnf); repeat ((first | refine B0 ?_ | refine B1 ?_ | refine D1 ?_ | refine D2 ?_ | refine CallC.r ?_); conv => whnf))
          refine fin ?_
          rw [List.all_eq_true]
          intro f hf
          unfold facesL at hf
          split at hf
          · rename_i q5
            obtain ⟨j, hj, rfl⟩ := List.mem_map.1 hf
            rw [List.mem_range] at hj
            simpa using q3 q5 j (by omega)
          · simp at hf
  · have h : i = c.simplices.length := by simp only [List.length_map, decide_eq_false_iff_not] at h; omega
    have : allIx (simpStepW c.simplices) 0 c.simplices = true := allIx_iff.2 fun j hj => h3 j hj (by omega)
    exact ResOK.same (by rw [hokW, this, decide_eq_true h48]; rfl)
end Go.Proofs.YtnmoeeneofopcaaGreat.Pi
