/- Worlds that are valid, the reference. No statement of the seat is proved here. -/
import Derived.Test.YtlnjgoeicanehaaGreatPiFWorld
namespace Go.Proofs.YtlnjgoeicanehaaGreat.Pi
open Go
set_option maxRecDepth 10000
set_option maxHeartbeats 6400000
set_option linter.unusedVariables false

theorem s_l25Complex (w : World) (t : ByteArray) (hb : Enc.wt w ≤ 1048576) : Sat Tryz.prog 53 [(false, [.ptr 2 (Enc.enc w)]), (false, [.str t])] (.one (.c (.int .i64 (atName NamedComplex.name w.complexes t))), []) := by
  have hl := nw_len hb
  refine Sat.intro tok mixed Tryz.func53 rfl rfl ?_
  ((conv => whnf); repeat ((first | refine B0 ?_ | refine B1 ?_ | refine D1 ?_ | refine D2 ?_ | refine CallC.r ?_); conv => whnf))
  refine Pick.mk [0, 1, 5] trivial ?_
  ((conv => whnf); repeat ((first | refine B0 ?_ | refine B1 ?_ | refine D1 ?_ | refine D2 ?_ | refine CallC.r ?_); conv => whnf))
  refine LoopL.over (fun (i : Nat) => [(5, .one (.c (.int .i64 ((i : Int)))))]) (fun (i : Nat) => []) (fun (i : Nat) => w.complexes.length - i) (fun (i : Nat) => i ≤ w.complexes.length ∧ ∀ (j : Nat) (h : j < w.complexes.length), j < i → (w.complexes[j].name.toList == t.toList) = false) ?_ 0 ⟨Nat.zero_le _, by intros; omega⟩
  intro i ⟨h2, h3⟩ ih
  ((conv => whnf); repeat ((first | refine B0 ?_ | refine B1 ?_ | refine D1 ?_ | refine D2 ?_ | refine CallC.r ?_); conv => whnf))
  refine Br.mk (fun h => ?_) (fun h => ?_) <;> ((conv => whnf); repeat ((first | refine B0 ?_ | refine B1 ?_ | refine D1 ?_ | refine D2 ?_ | refine CallC.r ?_); conv => whnf))
  · have h : i < w.complexes.length := by simp only [List.length_map, decide_eq_true_eq] at h; omega
    refine Pick.ix (h) ?_
    ((conv => whnf); repeat ((first | refine B0 ?_ | refine B1 ?_ | refine D1 ?_ | refine D2 ?_ | refine CallC.r ?_); conv => whnf))
    refine Br.mk (fun h5 => ?_) (fun h5 => ?_) <;> ((conv => whnf); repeat ((first | refine B0 ?_ | refine B1 ?_ | refine D1 ?_ | refine D2 ?_ | refine CallC.r ?_); conv => whnf))
    · exact ResOK.same (by rw [atName, firstIx_at h h5 h3, Nat.zero_add])
    · refine Pick.at64 (z := (i + 1 : Nat)) (by simp) (by omega) ?_
      ((conv => whnf); repeat ((first | refine B0 ?_ | refine B1 ?_ | refine D1 ?_ | refine D2 ?_ | refine CallC.r ?_); conv => whnf))
      refine ih (i + 1) ⟨by omega, fun j hj hlt => ?_⟩ (by omega)
      by_cases e : j = i
      · subst e; exact h5
      · exact h3 j hj (by omega)
  · have h : i = w.complexes.length := by simp only [List.length_map, decide_eq_false_iff_not] at h; omega
    exact ResOK.same (by rw [atName, firstIx_none fun j hj => h3 j hj (by omega)])

def stepC (xs : List NamedComplex) (i : Nat) (c : NamedComplex) : Bool := nameStep (xs.map (·.name)) i c.name && okComplex c.value
def stepS (w : World) (i : Nat) (c : NamedSheaf) : Bool := nameStep (w.sheaves.map (·.name)) i c.name && (isSheaf c.value && !decide (0 ≤ atName NamedComplex.name w.complexes c.name))
theorem allIx_map {α : Type} {p : Nat → ByteArray → Bool} (f : α → ByteArray) (xs : List α) : allIx p 0 (xs.map f) = true ↔ ∀ (i : Nat) (h : i < xs.length), p i (f xs[i]) = true := by
  rw [allIx_iff]
  constructor
  · intro h i hi
    have := h i (by rw [List.length_map]; exact hi)
    simpa using this
  · intro h i hi
    rw [List.length_map] at hi
    simpa using h i hi
theorem okWorld_steps (w : World) : okWorld w = ((allIx (stepC w.complexes) 0 w.complexes && allIx (stepS w) 0 w.sheaves) && (decide (w.complexes.length ≤ 8) && decide (w.sheaves.length ≤ 8))) := by
  have hap : apartW w = true ↔ ∀ (i : Nat) (h : i < w.sheaves.length), ¬ 0 ≤ atName NamedComplex.name w.complexes w.sheaves[i].name := by
    unfold apartW
    rw [List.all_eq_true]
    constructor
    · intro h i hi h0
      rcases name_cases NamedComplex.name w.complexes w.sheaves[i].name with ⟨h1, _⟩ | ⟨k, hk, h1, h2⟩
      · omega
      · have := h _ (List.getElem_mem hk)
        rw [Bool.not_eq_true', List.any_eq_false] at this
        refine this w.sheaves[i].name (List.mem_map.2 ⟨_, List.getElem_mem hi, rfl⟩) ?_
        rw [h2]; simp
    · intro h c hc
      rw [Bool.not_eq_true', List.any_eq_false]
      intro x hx e
      obtain ⟨s, hs, rfl⟩ := List.mem_map.1 hx
      obtain ⟨i, hi, rfl⟩ := List.mem_iff_getElem.1 hs
      have e2 : c.name = w.sheaves[i].name := bytes_inj (beq_iff_eq.1 e)
      obtain ⟨k, hk, rfl⟩ := List.mem_iff_getElem.1 hc
      rcases name_cases NamedComplex.name w.complexes w.sheaves[i].name with ⟨h1, h3⟩ | ⟨q, hq, h1, h2⟩
      · exact h3 k hk e2
      · exact h i hi (by omega)
  have hc : allIx (stepC w.complexes) 0 w.complexes = true ↔ okNames (w.complexes.map (·.name)) = true ∧ (w.complexes.all fun c => okComplex c.value) = true := by
    rw [allIx_iff, okNames, allIx_map, List.all_eq_true]
    constructor
    · intro h
      refine ⟨fun i hi => ?_, fun c hc => ?_⟩
      · have := h i hi; simp only [stepC, Bool.and_eq_true] at this; exact this.1
      · obtain ⟨i, hi, rfl⟩ := List.mem_iff_getElem.1 hc
        have := h i hi; simp only [stepC, Bool.and_eq_true] at this; exact this.2
    · intro ⟨h1, h2⟩ i hi
      simp only [stepC, Bool.and_eq_true]
      exact ⟨h1 i hi, h2 _ (List.getElem_mem hi)⟩
  have hs : allIx (stepS w) 0 w.sheaves = true ↔ okNames (w.sheaves.map (·.name)) = true ∧ ((w.sheaves.all fun c => isSheaf c.value) = true ∧ apartW w = true) := by
    rw [allIx_iff, okNames, allIx_map, List.all_eq_true, hap]
    constructor
    · intro h
      refine ⟨fun i hi => ?_, fun c hc => ?_, fun i hi => ?_⟩
      · have := h i hi; simp only [stepS, Bool.and_eq_true] at this; exact this.1
      · obtain ⟨i, hi, rfl⟩ := List.mem_iff_getElem.1 hc
        have := h i hi; simp only [stepS, Bool.and_eq_true] at this; exact this.2.1
      · have := h i hi; simp only [stepS, Bool.and_eq_true, Bool.not_eq_true', decide_eq_false_iff_not] at this; exact this.2.2
    · intro ⟨h1, h2, h3⟩ i hi
      simp only [stepS, Bool.and_eq_true, Bool.not_eq_true', decide_eq_false_iff_not]
      exact ⟨h1 i hi, h2 _ (List.getElem_mem hi), h3 i hi⟩
  rw [Bool.eq_iff_iff]
  simp only [okWorld, okCName, okSName, Bool.and_eq_true, hc, hs]
  constructor
  · rintro ⟨⟨⟨a1, a2⟩, b1, b2⟩, c1, d1, d2⟩
    exact ⟨⟨⟨a1, d1⟩, b1, d2, c1⟩, a2, b2⟩
  · rintro ⟨⟨⟨a1, d1⟩, b1, d2, c1⟩, a2, b2⟩
    exact ⟨⟨⟨a1, a2⟩, b1, b2⟩, c1, d1, d2⟩

theorem nameStep_pos {α : Type} (f : α → ByteArray) {xs : List α} {i : Nat} (h0 : 0 < i) (h : i < xs.length) : nameStep (xs.map f) i (f xs[i]) = (isName (f xs[i]) && less (f xs[i - 1]) (f xs[i])) := by
  have : ¬ i = 0 := by omega
  simp [nameStep, this, List.getElem?_eq_getElem (by omega : i - 1 < xs.length)]
theorem nameStep_zero {α : Type} (f : α → ByteArray) {xs : List α} {i : Nat} (h0 : i = 0) (h : i < xs.length) : nameStep (xs.map f) i (f xs[i]) = isName (f xs[i]) := by
  simp [nameStep, h0]

theorem s_l25Ok (w : World) (o : Enc.ok w) (hb : Enc.wt w ≤ 1048576) : Sat Tryz.prog 37 [(false, [.ptr 2 (Enc.enc w)])] (.one (.c (.bool (okWorld w))), []) := by
  have hl := nw_len hb
  rw [okWorld_steps]
  refine Sat.intro tok mixed Tryz.func37 rfl rfl ?_
  ((conv => whnf); repeat ((first | refine B0 ?_ | refine B1 ?_ | refine D1 ?_ | refine D2 ?_ | refine CallC.r ?_); conv => whnf))
  refine Pick.mk [0, 3] trivial ?_
  ((conv => whnf); repeat ((first | refine B0 ?_ | refine B1 ?_ | refine D1 ?_ | refine D2 ?_ | refine CallC.r ?_); conv => whnf))
  refine LoopL.over (fun (i : Nat) => [(3, .one (.c (.int .i64 ((i : Int)))))]) (fun (i : Nat) => []) (fun (i : Nat) => w.complexes.length - i) (fun (i : Nat) => i ≤ w.complexes.length ∧ ∀ (j : Nat) (h : j < w.complexes.length), j < i → stepC w.complexes j w.complexes[j] = true) ?_ 0 ⟨Nat.zero_le _, by intros; omega⟩
  intro i ⟨h2, h3⟩ ih
  ((conv => whnf); repeat ((first | refine B0 ?_ | refine B1 ?_ | refine D1 ?_ | refine D2 ?_ | refine CallC.r ?_); conv => whnf))
  refine Br.mk (fun h => ?_) (fun h => ?_) <;> ((conv => whnf); repeat ((first | refine B0 ?_ | refine B1 ?_ | refine D1 ?_ | refine D2 ?_ | refine CallC.r ?_); conv => whnf))
  · have h : i < w.complexes.length := by simp only [List.length_map, decide_eq_true_eq] at h; omega
    have oc := o.1.2 _ (List.getElem_mem h)
    have bc := cx_bound (nc_wt hb _ (List.getElem_mem h))
    have no : stepC w.complexes i w.complexes[i] = false → ((allIx (stepC w.complexes) 0 w.complexes && allIx (stepS w) 0 w.sheaves) && (decide (w.complexes.length ≤ 8) && decide (w.sheaves.length ≤ 8))) = false := fun e => by
      have : allIx (stepC w.complexes) 0 w.complexes = false := allIx_no (i := i) (List.getElem?_eq_getElem h) (by rw [Nat.zero_add]; exact e)
      rw [this]; rfl
    have yes : stepC w.complexes i w.complexes[i] = true → (i + 1 ≤ w.complexes.length ∧ ∀ (j : Nat) (h : j < w.complexes.length), j < i + 1 → stepC w.complexes j w.complexes[j] = true) := fun e => ⟨by omega, fun j hj hlt => by
      by_cases e2 : j = i
      · subst e2; exact e
      · exact h3 j hj (by omega)⟩
    refine Pick.ix (h) ?_
    ((conv => whnf); repeat ((first | refine B0 ?_ | refine B1 ?_ | refine D1 ?_ | refine D2 ?_ | refine CallC.r ?_); conv => whnf))
    refine Pick.mk _ (s_l01Name w.complexes[i].name oc.1) ?_
    ((conv => whnf); repeat ((first | refine B0 ?_ | refine B1 ?_ | refine D1 ?_ | refine D2 ?_ | refine CallC.r ?_); conv => whnf))
    refine Br.mk (fun q1 => ?_) (fun q1 => ?_) <;> ((conv => whnf); repeat ((first | refine B0 ?_ | refine B1 ?_ | refine D1 ?_ | refine D2 ?_ | refine CallC.r ?_); conv => whnf))
    · simp only [Bool.not_eq_true'] at q1
      exact ResOK.same (by rw [no (by simp [stepC, nameStep, q1])])
    simp only [Bool.not_eq_false'] at q1
    refine Pick.ix (h) ?_
    ((conv => whnf); repeat ((first | refine B0 ?_ | refine B1 ?_ | refine D1 ?_ | refine D2 ?_ | refine CallC.r ?_); conv => whnf))
    refine Pick.mk _ (s_l05Ok w.complexes[i].value bc.1 bc.2) ?_
    ((conv => whnf); repeat ((first | refine B0 ?_ | refine B1 ?_ | refine D1 ?_ | refine D2 ?_ | refine CallC.r ?_); conv => whnf))
    refine Br.mk (fun q2 => ?_) (fun q2 => ?_) <;> ((conv => whnf); repeat ((first | refine B0 ?_ | refine B1 ?_ | refine D1 ?_ | refine D2 ?_ | refine CallC.r ?_); conv => whnf))
    · simp only [Bool.not_eq_true'] at q2
      exact ResOK.same (by rw [no (by simp [stepC, q2])])
    simp only [Bool.not_eq_false'] at q2
    refine Br.mk (fun q3 => ?_) (fun q3 => ?_) <;> ((conv => whnf); repeat ((first | refine B0 ?_ | refine B1 ?_ | refine D1 ?_ | refine D2 ?_ | refine CallC.r ?_); conv => whnf))
    · have q3 : 0 < i := by simp only [decide_eq_true_eq] at q3; omega
      have he := nameStep_pos NamedComplex.name q3 h
      refine Pick.at64 (z := ((i - 1 : Nat) : Int)) (by omega) (by omega) ?_
      ((conv => whnf); repeat ((first | refine B0 ?_ | refine B1 ?_ | refine D1 ?_ | refine D2 ?_ | refine CallC.r ?_); conv => whnf))
      refine Pick.ix ((by omega : i - 1 < w.complexes.length)) ?_
      ((conv => whnf); repeat ((first | refine B0 ?_ | refine B1 ?_ | refine D1 ?_ | refine D2 ?_ | refine CallC.r ?_); conv => whnf))
      refine Pick.ix (h) ?_
      ((conv => whnf); repeat ((first | refine B0 ?_ | refine B1 ?_ | refine D1 ?_ | refine D2 ?_ | refine CallC.r ?_); conv => whnf))
      refine Br.mk (fun q4 => ?_) (fun q4 => ?_) <;> ((conv => whnf); repeat ((first | refine B0 ?_ | refine B1 ?_ | refine D1 ?_ | refine D2 ?_ | refine CallC.r ?_); conv => whnf))
      · have q4 : less w.complexes[i - 1].name w.complexes[i].name = false := by simpa [less] using q4
        exact ResOK.same (by rw [no (by rw [stepC, he, q4, Bool.and_false, Bool.false_and])])
      · have q4 : less w.complexes[i - 1].name w.complexes[i].name = true := by simpa [less] using q4
        refine Pick.at64 (z := (i + 1 : Nat)) (by simp) (by omega) ?_
        ((conv => whnf); repeat ((first | refine B0 ?_ | refine B1 ?_ | refine D1 ?_ | refine D2 ?_ | refine CallC.r ?_); conv => whnf))
        exact ih (i + 1) (yes (by rw [stepC, he, q4, q1, q2]; rfl)) (by omega)
    · have q3 : i = 0 := by simp only [decide_eq_false_iff_not] at q3; omega
      have he := nameStep_zero NamedComplex.name q3 h
      refine Pick.at64 (z := (i + 1 : Nat)) (by simp) (by omega) ?_
      ((conv => whnf); repeat ((first | refine B0 ?_ | refine B1 ?_ | refine D1 ?_ | refine D2 ?_ | refine CallC.r ?_); conv => whnf))
      exact ih (i + 1) (yes (by rw [stepC, he, q1, q2]; rfl)) (by omega)
  · have h : i = w.complexes.length := by simp only [List.length_map, decide_eq_false_iff_not] at h; omega
    have hC : allIx (stepC w.complexes) 0 w.complexes = true := allIx_iff.2 fun j hj => h3 j hj (by omega)
    rw [hC]
    clear h3 ih h2
    refine Pick.mk [0, 4] trivial ?_
    ((conv => whnf); repeat ((first | refine B0 ?_ | refine B1 ?_ | refine D1 ?_ | refine D2 ?_ | refine CallC.r ?_); conv => whnf))
    refine LoopL.over (fun (i : Nat) => [(4, .one (.c (.int .i64 ((i : Int)))))]) (fun (i : Nat) => []) (fun (i : Nat) => w.sheaves.length - i) (fun (i : Nat) => i ≤ w.sheaves.length ∧ ∀ (j : Nat) (h : j < w.sheaves.length), j < i → stepS w j w.sheaves[j] = true) ?_ 0 ⟨Nat.zero_le _, by intros; omega⟩
    intro i ⟨h2, h3⟩ ih
    ((conv => whnf); repeat ((first | refine B0 ?_ | refine B1 ?_ | refine D1 ?_ | refine D2 ?_ | refine CallC.r ?_); conv => whnf))
    refine Br.mk (fun h => ?_) (fun h => ?_) <;> ((conv => whnf); repeat ((first | refine B0 ?_ | refine B1 ?_ | refine D1 ?_ | refine D2 ?_ | refine CallC.r ?_); conv => whnf))
    · have h : i < w.sheaves.length := by simp only [List.length_map, decide_eq_true_eq] at h; omega
      have oc := o.2.2 _ (List.getElem_mem h)
      have bc := shf_bound (ns_wt hb _ (List.getElem_mem h))
      have no : stepS w i w.sheaves[i] = false → ((true && allIx (stepS w) 0 w.sheaves) && (decide (w.complexes.length ≤ 8) && decide (w.sheaves.length ≤ 8))) = false := fun e => by
        have : allIx (stepS w) 0 w.sheaves = false := allIx_no (i := i) (List.getElem?_eq_getElem h) (by rw [Nat.zero_add]; exact e)
        rw [this]; rfl
      have yes : stepS w i w.sheaves[i] = true → (i + 1 ≤ w.sheaves.length ∧ ∀ (j : Nat) (h : j < w.sheaves.length), j < i + 1 → stepS w j w.sheaves[j] = true) := fun e => ⟨by omega, fun j hj hlt => by
        by_cases e2 : j = i
        · subst e2; exact e
        · exact h3 j hj (by omega)⟩
      refine Pick.ix (h) ?_
      ((conv => whnf); repeat ((first | refine B0 ?_ | refine B1 ?_ | refine D1 ?_ | refine D2 ?_ | refine CallC.r ?_); conv => whnf))
      refine Pick.mk _ (s_l01Name w.sheaves[i].name oc.1) ?_
      ((conv => whnf); repeat ((first | refine B0 ?_ | refine B1 ?_ | refine D1 ?_ | refine D2 ?_ | refine CallC.r ?_); conv => whnf))
      refine Br.mk (fun q1 => ?_) (fun q1 => ?_) <;> ((conv => whnf); repeat ((first | refine B0 ?_ | refine B1 ?_ | refine D1 ?_ | refine D2 ?_ | refine CallC.r ?_); conv => whnf))
      · simp only [Bool.not_eq_true'] at q1
        exact ResOK.same (by rw [no (by simp [stepS, nameStep, q1])])
      simp only [Bool.not_eq_false'] at q1
      refine Pick.ix (h) ?_
      ((conv => whnf); repeat ((first | refine B0 ?_ | refine B1 ?_ | refine D1 ?_ | refine D2 ?_ | refine CallC.r ?_); conv => whnf))
      refine Pick.mk _ (s_l09Is w.sheaves[i].value oc.2 bc.1.1 bc.1.2 bc.2) ?_
      ((conv => whnf); repeat ((first | refine B0 ?_ | refine B1 ?_ | refine D1 ?_ | refine D2 ?_ | refine CallC.r ?_); conv => whnf))
      refine Br.mk (fun q2 => ?_) (fun q2 => ?_) <;> ((conv => whnf); repeat ((first | refine B0 ?_ | refine B1 ?_ | refine D1 ?_ | refine D2 ?_ | refine CallC.r ?_); conv => whnf))
      · simp only [Bool.not_eq_true'] at q2
        exact ResOK.same (by rw [no (by simp [stepS, q2])])
      simp only [Bool.not_eq_false'] at q2
      refine Br.mk (fun q3 => ?_) (fun q3 => ?_) <;> ((conv => whnf); repeat ((first | refine B0 ?_ | refine B1 ?_ | refine D1 ?_ | refine D2 ?_ | refine CallC.r ?_); conv => whnf))
      · have q3 : 0 < i := by simp only [decide_eq_true_eq] at q3; omega
        have he := nameStep_pos NamedSheaf.name q3 h
        refine Pick.at64 (z := ((i - 1 : Nat) : Int)) (by omega) (by omega) ?_
        ((conv => whnf); repeat ((first | refine B0 ?_ | refine B1 ?_ | refine D1 ?_ | refine D2 ?_ | refine CallC.r ?_); conv => whnf))
        refine Pick.ix ((by omega : i - 1 < w.sheaves.length)) ?_
        ((conv => whnf); repeat ((first | refine B0 ?_ | refine B1 ?_ | refine D1 ?_ | refine D2 ?_ | refine CallC.r ?_); conv => whnf))
        refine Pick.ix (h) ?_
        ((conv => whnf); repeat ((first | refine B0 ?_ | refine B1 ?_ | refine D1 ?_ | refine D2 ?_ | refine CallC.r ?_); conv => whnf))
        refine Br.mk (fun q4 => ?_) (fun q4 => ?_) <;> ((conv => whnf); repeat ((first | refine B0 ?_ | refine B1 ?_ | refine D1 ?_ | refine D2 ?_ | refine CallC.r ?_); conv => whnf))
        · have q4 : less w.sheaves[i - 1].name w.sheaves[i].name = false := by simpa [less] using q4
          exact ResOK.same (by rw [no (by rw [stepS, he, q4, Bool.and_false, Bool.false_and])])
        · have q4 : less w.sheaves[i - 1].name w.sheaves[i].name = true := by simpa [less] using q4
          refine Pick.ix (h) ?_
          ((conv => whnf); repeat ((first | refine B0 ?_ | refine B1 ?_ | refine D1 ?_ | refine D2 ?_ | refine CallC.r ?_); conv => whnf))
          refine Pick.mk _ (s_l25Complex w w.sheaves[i].name hb) ?_
          ((conv => whnf); repeat ((first | refine B0 ?_ | refine B1 ?_ | refine D1 ?_ | refine D2 ?_ | refine CallC.r ?_); conv => whnf))
          refine Br.mk (fun q5 => ?_) (fun q5 => ?_) <;> ((conv => whnf); repeat ((first | refine B0 ?_ | refine B1 ?_ | refine D1 ?_ | refine D2 ?_ | refine CallC.r ?_); conv => whnf))
          · have q5 : 0 ≤ atName NamedComplex.name w.complexes w.sheaves[i].name := by simpa using q5
            exact ResOK.same (by rw [no (by simp [stepS, q5])])
          · have q5 : ¬ 0 ≤ atName NamedComplex.name w.complexes w.sheaves[i].name := by simpa using q5
            refine Pick.at64 (z := (i + 1 : Nat)) (by simp) (by omega) ?_
            ((conv => whnf); repeat ((first | refine B0 ?_ | refine B1 ?_ | refine D1 ?_ | refine D2 ?_ | refine CallC.r ?_); conv => whnf))
            exact ih (i + 1) (yes (by rw [stepS, he, q4, q1, q2, decide_eq_false q5]; rfl)) (by omega)
      · have q3 : i = 0 := by simp only [decide_eq_false_iff_not] at q3; omega
        have he := nameStep_zero NamedSheaf.name q3 h
        refine Pick.ix (h) ?_
        ((conv => whnf); repeat ((first | refine B0 ?_ | refine B1 ?_ | refine D1 ?_ | refine D2 ?_ | refine CallC.r ?_); conv => whnf))
        refine Pick.mk _ (s_l25Complex w w.sheaves[i].name hb) ?_
        ((conv => whnf); repeat ((first | refine B0 ?_ | refine B1 ?_ | refine D1 ?_ | refine D2 ?_ | refine CallC.r ?_); conv => whnf))
        refine Br.mk (fun q5 => ?_) (fun q5 => ?_) <;> ((conv => whnf); repeat ((first | refine B0 ?_ | refine B1 ?_ | refine D1 ?_ | refine D2 ?_ | refine CallC.r ?_); conv => whnf))
        · have q5 : 0 ≤ atName NamedComplex.name w.complexes w.sheaves[i].name := by simpa using q5
          exact ResOK.same (by rw [no (by simp [stepS, q5])])
        · have q5 : ¬ 0 ≤ atName NamedComplex.name w.complexes w.sheaves[i].name := by simpa using q5
          refine Pick.at64 (z := (i + 1 : Nat)) (by simp) (by omega) ?_
          ((conv => whnf); repeat ((first | refine B0 ?_ | refine B1 ?_ | refine D1 ?_ | refine D2 ?_ | refine CallC.r ?_); conv => whnf))
          exact ih (i + 1) (yes (by rw [stepS, he, q1, q2, decide_eq_false q5]; rfl)) (by omega)
    · have h : i = w.sheaves.length := by simp only [List.length_map, decide_eq_false_iff_not] at h; omega
      have hS : allIx (stepS w) 0 w.sheaves = true := allIx_iff.2 fun j hj => h3 j hj (by omega)
      rw [hS]
      refine Br.mk (fun q1 => ?_) (fun q1 => ?_) <;> ((conv => whnf); repeat ((first | refine B0 ?_ | refine B1 ?_ | refine D1 ?_ | refine D2 ?_ | refine CallC.r ?_); conv => whnf))
      · have q1 : w.complexes.length ≤ 8 := by simp at q1; omega
        refine ResOK.same ?_
        rw [decide_eq_true q1]
        by_cases q2 : w.sheaves.length ≤ 8
        · have : ((w.sheaves.length : Int)) ≤ 8 := by omega
          simp [q2, this]
        · have : ¬ ((w.sheaves.length : Int)) ≤ 8 := by omega
          simp [q2, this]
      · have q1 : ¬ w.complexes.length ≤ 8 := by simp at q1; omega
        exact ResOK.same (by rw [decide_eq_false q1]; rfl)
theorem s_spec_ValidWorld (w : World) (o : Enc.ok w) (hb : Enc.wt w ≤ 1048576) : Sat Tryz.prog 9 [(true, Enc.enc w)] (.one (.c (.bool (okWorld w))), []) := by
  refine Sat.intro tok mixed Tryz.func9 rfl rfl ?_
  ((conv => whnf); repeat ((first | refine B0 ?_ | refine B1 ?_ | refine D1 ?_ | refine D2 ?_ | refine CallC.r ?_); conv => whnf))
  refine Pick.mk _ (s_l25Ok w o hb) ?_
  ((conv => whnf); repeat ((first | refine B0 ?_ | refine B1 ?_ | refine D1 ?_ | refine D2 ?_ | refine CallC.r ?_); conv => whnf))
  exact ResOK.same rfl
end Go.Proofs.YtlnjgoeicanehaaGreat.Pi
