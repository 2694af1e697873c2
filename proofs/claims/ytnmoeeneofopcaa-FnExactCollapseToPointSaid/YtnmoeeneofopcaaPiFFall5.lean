/- A collapse to a vertex, in the reference and in the program. No statement of the seat is proved here. -/
import Derived.Test.YtnmoeeneofopcaaPiFFall4
namespace Go.Proofs.Ytnmoeeneofopcaa.Pi
open Go
set_option maxRecDepth 10000
set_option maxHeartbeats 6400000
set_option linter.unusedVariables false

theorem Kept'.mono {m : Nat} {s : Fall} {r : Bool × Fall} (h : Kept' m s r) : Kept' (m + 1) s r := ⟨h.1, h.2.1, h.2.2.1, by have := h.2.2.2; omega⟩
theorem tries_nil (rec : List (List Int) → Fall → Bool × Fall) (c : List (List Int)) (s : Fall) : tries rec c [] s = (false, s) := rfl
theorem fall_zero {rec : List (List Int) → Fall → Bool × Fall} {c : List (List Int)} (h : c.length ≤ 0) (s : Fall) : oneFall rec c s = fall 0 c s := by
  obtain rfl : c = [] := List.length_eq_zero_iff.1 (by omega)
  rfl
theorem s_fallI : ∀ (f : Nat) (c : Complex) (s : Fall), c.simplices.length ≤ f → f ≤ 65536 → (∀ x ∈ c.simplices, x.length ≤ 1048576) → OrdS c.simplices → 0 ≤ s.left → s.left ≤ 1048576 → s.faces.length + (f + 1) ≤ 1000 →
    SatM Try.prog 40 [.one (.pb 1000000 0 3), .agg [.c (.slice 1 (c.simplices.map Enc.enc))]] (fHeap s) (.one (.c (.bool (fall f c.simplices s).1)), fHeap (fall f c.simplices s).2)
  | 0, c, s, hl, hf, hc, ho, h3, h4, h5 => by
    rw [← fall_zero (rec := fun _ s => (false, s)) hl s]
    exact s_stepI _ 0 (fun _ s h => ⟨h, Int.le_refl _, fun _ => rfl, Nat.le_refl _⟩) c (by omega) hc ho (fun c' s' h => by omega) s h3 h4 h5
  | f + 1, c, s, hl, hf, hc, ho, h3, h4, h5 => by
    show SatM _ _ _ _ (.one (.c (.bool (oneFall (fall f) c.simplices s).1)), fHeap (oneFall (fall f) c.simplices s).2)
    exact s_stepI (fall f) (f + 1) (fun c s h => (fall_kept f c s h).mono) c (by omega) hc ho (fun c' s' a1 a2 a3 a4 a5 a6 => s_fallI f c' s' (by omega) (by omega) a2 a3 a4 a5 a6) s h3 h4 h5
theorem s_fallR (bud : Int) (hbud : 0 ≤ bud ∧ bud ≤ 1048576) : ∀ (f : Nat) (c : Complex) (s : Fall), c.simplices.length ≤ f → f ≤ 65536 → (∀ x ∈ c.simplices, x.length ≤ 1048576) → OrdS c.simplices → 0 ≤ s.left → s.left ≤ 1048576 → s.faces.length + (f + 1) ≤ 1000 →
    SatM Try.prog 35 [.one (.pb 1000000 0 4), .agg [.c (.slice 1 (c.simplices.map Enc.enc))]] (rfHeap bud s) (.one (.c (.bool (fall f c.simplices s).1)), rfHeap bud (fall f c.simplices s).2)
  | 0, c, s, hl, hf, hc, ho, h3, h4, h5 => by
    rw [← fall_zero (rec := fun _ s => (false, s)) hl s]
    exact s_stepR bud hbud _ 0 (fun _ s h => ⟨h, Int.le_refl _, fun _ => rfl, Nat.le_refl _⟩) c (by omega) hc ho (fun c' s' h => by omega) s h3 h4 h5
  | f + 1, c, s, hl, hf, hc, ho, h3, h4, h5 => by
    show SatM _ _ _ _ (.one (.c (.bool (oneFall (fall f) c.simplices s).1)), rfHeap bud (oneFall (fall f) c.simplices s).2)
    exact s_stepR bud hbud (fall f) (f + 1) (fun c s h => (fall_kept f c s h).mono) c (by omega) hc ho (fun c' s' a1 a2 a3 a4 a5 a6 => s_fallR bud hbud f c' s' (by omega) (by omega) a2 a3 a4 a5 a6) s h3 h4 h5

/-- A search that succeeds is not spent. -/
theorem tries_fine {rec : List (List Int) → Fall → Bool × Fall} (hrec : ∀ c s, s.spent = false → (rec c s).1 = true → (rec c s).2.spent = false) (c : List (List Int)) : ∀ (ps : List (List Int)) (s : Fall), (tries rec c ps s).1 = true → (tries rec c ps s).2.spent = false
  | [], s, h => by cases h
  | p :: ps, s, h => by
    simp only [tries] at h ⊢
    split at h
    · cases h
    · rename_i hs
      rw [if_neg hs]
      have hs : s.spent = false := by simpa using hs
      split at h
      · cases h
      · rename_i hl
        rw [if_neg hl]
        split at h
        · rename_i hr
          rw [if_pos hr]
          exact hrec _ _ hs hr
        · rename_i hr
          rw [if_neg hr]
          exact tries_fine hrec c ps _ h
theorem fall_fine : ∀ (f : Nat) (c : List (List Int)) (s : Fall), s.spent = false → (fall f c s).1 = true → (fall f c s).2.spent = false
  | 0, c, s, hs, _ => hs
  | f + 1, c, s, hs, h => by
    simp only [fall] at h ⊢
    split at h
    · rename_i hl
      rw [if_pos hl]; exact hs
    · rename_i hl
      rw [if_neg hl]
      exact tries_fine (fun c s => fall_fine f c s) c _ s h

/-- How a search ends; its code; the faces that it finds. -/
def fEnd (c : Complex) (bud : Int) : Bool × Fall := fall c.simplices.length c.simplices ⟨bud, false, []⟩
def fCode (c : Complex) (bud : Int) : Int := if okComplex c = true then (if okBudget bud = true then (if (fEnd c bud).1 = true then 0 else if (fEnd c bud).2.spent = true then 5 else 3) else 2) else 1
def fFaces (c : Complex) (bud : Int) : List (List Int) := if fCode c bud = 0 then (fEnd c bud).2.faces else []
theorem faces_ok (c : Complex) (bud : Int) (h : okComplex c = true) (hb : okBudget bud = true) : (fEnd c bud).2.faces.length ≤ 48 ∧ ∀ x ∈ (fEnd c bud).2.faces, x.length ≤ 4 := by
  have hl : c.simplices.length ≤ 48 := by
    have h : okSimps c.simplices = true := h
    simp only [okSimps, Bool.and_eq_true, decide_eq_true_eq] at h
    exact h.2
  have hbud : 1 ≤ bud ∧ bud ≤ 20000 := by simpa [okBudget] using hb
  refine ⟨?_, ?_⟩
  · have := (fall_kept c.simplices.length c.simplices ⟨bud, false, []⟩ (by show 0 ≤ bud; omega)).2.2.2
    simp only [List.length_nil] at this
    show (fEnd c bud).2.faces.length ≤ 48
    unfold fEnd
    omega
  · refine fall_all (P := fun x => x.length ≤ 4) (by simp) c.simplices.length c.simplices ⟨bud, false, []⟩ (fun x hx => ?_) (by simp)
    obtain ⟨i, hi, rfl⟩ := List.getElem_of_mem hx
    have := okSimps_get h i hi
    simp only [okSimp, Bool.and_eq_true, decide_eq_true_eq] at this
    exact this.1.2
theorem simps_ok {c : Complex} (h : okComplex c = true) : c.simplices.length ≤ 48 ∧ OrdS c.simplices := by
  have h : okSimps c.simplices = true := h
  refine ⟨?_, okSimps_ord h⟩
  simp only [okSimps, Bool.and_eq_true, decide_eq_true_eq] at h
  exact h.2

theorem s_spec_CollapseToPoint (c : Complex) (hb : c.simplices.length ≤ 1048576) (hc : ∀ x ∈ c.simplices, x.length ≤ 1048576) (bud : Int) :
    Sat Try.prog 7 [(true, Enc.enc c), (false, [.int .i64 bud])] (.tup [(false, [.c (.slice 1 ((fFaces c bud).map Enc.enc))]), (false, [.c (.int .i64 (fCode c bud))])], []) := by
  refine Sat.intro tok mixed Try.func7 rfl rfl ?_
  ((conv => whnf); repeat ((first | refine B0 ?_ | refine B1 ?_ | refine D1 ?_ | refine D2 ?_ | refine CallC.r ?_); conv => whnf))
  refine Pick.mk _ (s_l05Ok c hb hc) ?_
  ((conv => whnf); repeat ((first | refine B0 ?_ | refine B1 ?_ | refine D1 ?_ | refine D2 ?_ | refine CallC.r ?_); conv => whnf))
  refine Br.mk (fun h1 => ?_) (fun h1 => ?_) <;> ((conv => whnf); repeat ((first | refine B0 ?_ | refine B1 ?_ | refine D1 ?_ | refine D2 ?_ | refine CallC.r ?_); conv => whnf))
  · simp only [Bool.not_eq_true'] at h1
    have e : fCode c bud = 1 := by simp [fCode, h1]
    have e2 : fFaces c bud = [] := by rw [fFaces, if_neg (by rw [e]; simp)]
    rw [e, e2]
    exact ResOK.frz rfl rfl
  simp only [Bool.not_eq_false'] at h1
  refine Pick.mk _ (s_l00In bud 1 20000) ?_
  ((conv => whnf); repeat ((first | refine B0 ?_ | refine B1 ?_ | refine D1 ?_ | refine D2 ?_ | refine CallC.r ?_); conv => whnf))
  have eb : (decide (1 ≤ bud) && decide (bud ≤ 20000)) = okBudget bud := rfl
  rw [eb]
  refine Br.mk (fun h2 => ?_) (fun h2 => ?_)
  · ((conv => whnf); repeat ((first | refine B0 ?_ | refine B1 ?_ | refine D1 ?_ | refine D2 ?_ | refine CallC.r ?_); conv => whnf))
    simp only [Bool.not_eq_true'] at h2
    have e : fCode c bud = 2 := by simp [fCode, h1, h2]
    have e2 : fFaces c bud = [] := by rw [fFaces, if_neg (by rw [e]; simp)]
    rw [e, e2]
    exact ResOK.frz rfl rfl
  simp only [Bool.not_eq_false'] at h2
  have hbud : 1 ≤ bud ∧ bud ≤ 20000 := by simpa [okBudget] using h2
  obtain ⟨h48, hord⟩ := simps_ok h1
  obtain ⟨hf1, hf2⟩ := faces_ok c bud h1 h2
  have hfine := fall_fine c.simplices.length c.simplices ⟨bud, false, []⟩ rfl
  have hs := s_fallR bud ⟨by omega, by omega⟩ c.simplices.length c ⟨bud, false, []⟩ (Nat.le_refl _) (by omega) hc hord (by show 0 ≤ bud; omega) (by show bud ≤ 1048576; omega) (by simp only [List.length_nil]; omega)
  have eE : fall c.simplices.length c.simplices ⟨bud, false, []⟩ = fEnd c bud := rfl
  rw [eE] at hs hfine
  have eF : fFaces c bud = if (fEnd c bud).1 = true then (fEnd c bud).2.faces else [] := by
    simp only [fFaces, fCode, h1, h2, if_true]
    cases (fEnd c bud).1 with
    | true => rfl
    | false =>
      cases (fEnd c bud).2.spent <;> rfl
  have eC : fCode c bud = if (fEnd c bud).1 = true then 0 else if (fEnd c bud).2.spent = true then 5 else 3 := by simp only [fCode, h1, h2, if_true]
  rw [eF, eC]
  generalize fEnd c bud = E at hs hf1 hf2 hfine ⊢
  obtain ⟨found, S⟩ := E
  simp only [rfHeap, List.map_nil, Int.sub_self] at hs
  simp only at hf1 hf2 hfine ⊢
  ((conv => whnf); repeat ((first | refine B0 ?_ | refine B1 ?_ | refine D1 ?_ | refine D2 ?_); conv => whnf))
  refine CallC.r (CallC.x ?_)
  refine Pick.mk [1056] trivial ?_
  ((conv => whnf); repeat ((first | refine B0 ?_ | refine B1 ?_ | refine D1 ?_ | refine D2 ?_); conv => whnf))
  refine Pick.mk _ hs ?_
  ((conv => whnf); repeat ((first | refine B0 ?_ | refine B1 ?_ | refine D1 ?_ | refine D2 ?_ | refine CallC.r ?_); conv => whnf))
  refine Br.mk (fun hf => ?_) (fun hf => ?_) <;> ((conv => whnf); repeat ((first | refine B0 ?_ | refine B1 ?_ | refine D1 ?_ | refine D2 ?_ | refine CallC.r ?_); conv => whnf))
  · rw [if_pos hf, if_pos hf]
    refine Pick.mk [6, 7, 8, 1001056] trivial ?_
    ((conv => whnf); repeat ((first | refine B0 ?_ | refine B1 ?_ | refine D1 ?_ | refine D2 ?_ | refine CallC.r ?_); conv => whnf))
    refine LoopL.over (fun (i : Nat) => [(8, .one (.c (.int .i64 ((i : Int)))))]) (fun (i : Nat) => [(448, .arr 1 (List.map Enc.enc (S.faces.take i)))]) (fun (i : Nat) => S.faces.length - i) (fun (i : Nat) => i ≤ S.faces.length) ?_ 0 (Nat.zero_le _)
    intro i g1 ih
    ((conv => whnf); repeat ((first | refine B0 ?_ | refine B1 ?_ | refine D1 ?_ | refine D2 ?_ | refine CallC.r ?_); conv => whnf))
    refine Br.mk (fun h => ?_) (fun h => ?_) <;> ((conv => whnf); repeat ((first | refine B0 ?_ | refine B1 ?_ | refine D1 ?_ | refine D2 ?_ | refine CallC.r ?_); conv => whnf))
    · have h : i < S.faces.length := by simp only [List.length_map, decide_eq_true_eq] at h; omega
      refine Pick.ix (h) ?_
      ((conv => whnf); repeat ((first | refine B0 ?_ | refine B1 ?_ | refine D1 ?_ | refine D2 ?_ | refine CallC.r ?_); conv => whnf))
      refine Pick.mk _ (s_ownIntQ S.faces[i] (by have := hf2 _ (List.getElem_mem h); omega)) ?_
      ((conv => whnf); repeat ((first | refine B0 ?_ | refine B1 ?_ | refine D1 ?_ | refine D2 ?_ | refine CallC.r ?_); conv => whnf))
      refine Pick.mk (some false) trivial ?_
      ((conv => whnf); repeat ((first | refine B0 ?_ | refine B1 ?_ | refine D1 ?_ | refine D2 ?_ | refine CallC.r ?_); conv => whnf))
      refine Side.mk (by simp only [List.length_map, List.length_take, List.length_cons, List.length_nil]; omega) ?_
      ((conv => whnf); repeat ((first | refine B0 ?_ | refine B1 ?_ | refine D1 ?_ | refine D2 ?_ | refine CallC.r ?_); conv => whnf))
      refine Pick.at64 (z := (i + 1 : Nat)) (by simp) (by omega) ?_
      ((conv => whnf); repeat ((first | refine B0 ?_ | refine B1 ?_ | refine D1 ?_ | refine D2 ?_ | refine CallC.r ?_); conv => whnf))
      have hn := ih (i + 1) (by omega) (by omega)
      rw [List.take_add_one, List.getElem?_eq_getElem h, Option.toList_some, List.map_append] at hn
      exact hn
    · have h : i = S.faces.length := by simp only [List.length_map, decide_eq_false_iff_not] at h; omega
      subst h
      rw [List.take_length]
      exact ResOK.frz rfl rfl
  · rw [if_neg (by rw [hf]; simp), if_neg (by rw [hf]; simp)]
    refine Br.mk (fun h3 => ?_) (fun h3 => ?_) <;> ((conv => whnf); repeat ((first | refine B0 ?_ | refine B1 ?_ | refine D1 ?_ | refine D2 ?_ | refine CallC.r ?_); conv => whnf))
    · rw [if_pos h3]
      exact ResOK.frz rfl rfl
    · rw [if_neg (by rw [h3]; simp)]
      exact ResOK.frz rfl rfl
theorem s_impl_CollapseToPoint (c : Complex) (o : Enc.ok c) (hb : c.simplices.length ≤ 1048576) (hc : ∀ x ∈ c.simplices, x.length ≤ 1048576) (bud : Int) :
    Sat Try.prog 9 [(true, Enc.enc c), (false, [.int .i64 bud])] (.tup [(false, [.ds 0]), (false, [.c (.int .i64 (fCode c bud))])], [(0, .deep true 1 ((fFaces c bud).map Enc.enc))]) := by
  refine Sat.intro tok mixed Try.func9 rfl rfl ?_
  ((conv => whnf); repeat ((first | refine B0 ?_ | refine B1 ?_ | refine D1 ?_ | refine D2 ?_ | refine CallC.r ?_); conv => whnf))
  refine Pick.mk _ (s_ValidComplex c o hb hc) ?_
  ((conv => whnf); repeat ((first | refine B0 ?_ | refine B1 ?_ | refine D1 ?_ | refine D2 ?_ | refine CallC.r ?_); conv => whnf))
  refine Br.mk (fun h1 => ?_) (fun h1 => ?_) <;> ((conv => whnf); repeat ((first | refine B0 ?_ | refine B1 ?_ | refine D1 ?_ | refine D2 ?_ | refine CallC.r ?_); conv => whnf))
  · simp only [Bool.not_eq_true'] at h1
    have e : fCode c bud = 1 := by simp [fCode, h1]
    have e2 : fFaces c bud = [] := by rw [fFaces, if_neg (by rw [e]; simp)]
    rw [e, e2]
    exact ResOK.own rfl ⟨(fun r hr => nomatch hr), trivial⟩
  simp only [Bool.not_eq_false'] at h1
  refine Pick.mk _ (s_isBudget bud) ?_
  ((conv => whnf); repeat ((first | refine B0 ?_ | refine B1 ?_ | refine D1 ?_ | refine D2 ?_ | refine CallC.r ?_); conv => whnf))
  refine Br.mk (fun h2 => ?_) (fun h2 => ?_)
  · ((conv => whnf); repeat ((first | refine B0 ?_ | refine B1 ?_ | refine D1 ?_ | refine D2 ?_ | refine CallC.r ?_); conv => whnf))
    simp only [Bool.not_eq_true'] at h2
    have e : fCode c bud = 2 := by simp [fCode, h1, h2]
    have e2 : fFaces c bud = [] := by rw [fFaces, if_neg (by rw [e]; simp)]
    rw [e, e2]
    exact ResOK.own rfl ⟨(fun r hr => nomatch hr), trivial⟩
  simp only [Bool.not_eq_false'] at h2
  have hbud : 1 ≤ bud ∧ bud ≤ 20000 := by simpa [okBudget] using h2
  obtain ⟨h48, hord⟩ := simps_ok h1
  obtain ⟨hf1, hf2⟩ := faces_ok c bud h1 h2
  have hfine := fall_fine c.simplices.length c.simplices ⟨bud, false, []⟩ rfl
  have hs := s_fallI c.simplices.length c ⟨bud, false, []⟩ (Nat.le_refl _) (by omega) hc hord (by show 0 ≤ bud; omega) (by show bud ≤ 1048576; omega) (by simp only [List.length_nil]; omega)
  have eE : fall c.simplices.length c.simplices ⟨bud, false, []⟩ = fEnd c bud := rfl
  rw [eE] at hs hfine
  have eF : fFaces c bud = if (fEnd c bud).1 = true then (fEnd c bud).2.faces else [] := by
    simp only [fFaces, fCode, h1, h2, if_true]
    cases (fEnd c bud).1 with
    | true => rfl
    | false =>
      cases (fEnd c bud).2.spent <;> rfl
  have eC : fCode c bud = if (fEnd c bud).1 = true then 0 else if (fEnd c bud).2.spent = true then 5 else 3 := by simp only [fCode, h1, h2, if_true]
  rw [eF, eC]
  generalize fEnd c bud = E at hs hf1 hf2 hfine ⊢
  obtain ⟨found, S⟩ := E
  simp only [fHeap, List.map_nil] at hs
  simp only at hf1 hf2 hfine ⊢
  ((conv => whnf); repeat ((first | refine B0 ?_ | refine B1 ?_ | refine D1 ?_ | refine D2 ?_); conv => whnf))
  refine CallC.r (CallC.x ?_)
  refine Pick.mk [1122] trivial ?_
  ((conv => whnf); repeat ((first | refine B0 ?_ | refine B1 ?_ | refine D1 ?_ | refine D2 ?_); conv => whnf))
  refine Pick.mk _ hs ?_
  ((conv => whnf); repeat ((first | refine B0 ?_ | refine B1 ?_ | refine D1 ?_ | refine D2 ?_ | refine CallC.r ?_); conv => whnf))
  refine Br.mk (fun hsp => ?_) (fun hsp => ?_) <;> ((conv => whnf); repeat ((first | refine B0 ?_ | refine B1 ?_ | refine D1 ?_ | refine D2 ?_ | refine CallC.r ?_); conv => whnf))
  · have hf : ¬ found = true := fun h => by rw [hfine h] at hsp; cases hsp
    rw [if_neg hf, if_neg hf, if_pos hsp]
    exact ResOK.own rfl ⟨(fun r hr => nomatch hr), trivial⟩
  · refine Br.mk (fun hf => ?_) (fun hf => ?_) <;> ((conv => whnf); repeat ((first | refine B0 ?_ | refine B1 ?_ | refine D1 ?_ | refine D2 ?_ | refine CallC.r ?_); conv => whnf))
    · have hf : ¬ found = true := by simpa using hf
      rw [if_neg hf, if_neg hf, if_neg (by rw [hsp]; simp)]
      exact ResOK.own rfl ⟨(fun r hr => nomatch hr), trivial⟩
    · have hf : found = true := by simpa using hf
      rw [if_pos hf, if_pos hf]
      refine Pick.mk _ (s_copyLists S.faces (by omega) (fun x hx => by have := hf2 x hx; omega)) ?_
      ((conv => whnf); repeat ((first | refine B0 ?_ | refine B1 ?_ | refine D1 ?_ | refine D2 ?_ | refine CallC.r ?_); conv => whnf))
      exact ResOK.same rfl
end Go.Proofs.Ytnmoeeneofopcaa.Pi
