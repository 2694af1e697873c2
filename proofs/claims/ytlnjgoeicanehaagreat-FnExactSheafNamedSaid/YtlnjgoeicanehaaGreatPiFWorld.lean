/- Worlds that are valid, the reference and the program. No statement of the seat is proved here. -/
import Derived.Test.YtlnjgoeicanehaaGreatPiFWSlices
import Derived.Test.YtlnjgoeicanehaaGreatPiFShfR2
namespace Go.Proofs.YtlnjgoeicanehaaGreat.Pi
open Go
set_option maxRecDepth 10000
set_option maxHeartbeats 6400000
set_option linter.unusedVariables false

theorem cx_bound {c : Complex} (h : Enc.wt c ≤ 1048576) : c.simplices.length ≤ 1048576 ∧ ∀ x ∈ c.simplices, x.length ≤ 1048576 := by
  have h : Enc.wt c.simplices ≤ 1048576 := h
  have hl := wt_list c.simplices
  refine ⟨by omega, fun x hx => ?_⟩
  obtain ⟨i, hi, rfl⟩ := List.mem_iff_getElem.1 hx
  have h1 := wt_get c.simplices i hi
  have h2 := wt_list c.simplices[i]
  omega
theorem shf_bound {s : Sheaf} (h : Enc.wt s ≤ 1048576) : (s.base.simplices.length ≤ 1048576 ∧ ∀ x ∈ s.base.simplices, x.length ≤ 1048576) ∧ s.maps.length ≤ 1048576 := by
  have e : Enc.wt s = Enc.wt s.base + Enc.wt s.prime + Enc.wt s.stalks + Enc.wt s.maps := rfl
  have h2 := wt_list s.maps
  exact ⟨cx_bound (by omega), by omega⟩
theorem nc_wt {w : World} (h : Enc.wt w ≤ 1048576) : ∀ c ∈ w.complexes, Enc.wt c.value ≤ 1048576 := fun c hc => by
  obtain ⟨i, hi, rfl⟩ := List.mem_iff_getElem.1 hc
  have e : Enc.wt w = Enc.wt w.complexes + Enc.wt w.sheaves := rfl
  have h1 := wt_get w.complexes i hi
  have e2 : Enc.wt w.complexes[i] = Enc.wt w.complexes[i].name + Enc.wt w.complexes[i].value := rfl
  omega
theorem ns_wt {w : World} (h : Enc.wt w ≤ 1048576) : ∀ c ∈ w.sheaves, Enc.wt c.value ≤ 1048576 := fun c hc => by
  obtain ⟨i, hi, rfl⟩ := List.mem_iff_getElem.1 hc
  have e : Enc.wt w = Enc.wt w.complexes + Enc.wt w.sheaves := rfl
  have h1 := wt_get w.sheaves i hi
  have e2 : Enc.wt w.sheaves[i] = Enc.wt w.sheaves[i].name + Enc.wt w.sheaves[i].value := rfl
  omega
theorem nw_len {w : World} (h : Enc.wt w ≤ 1048576) : w.complexes.length ≤ 1048576 ∧ w.sheaves.length ≤ 1048576 := by
  have e : Enc.wt w = Enc.wt w.complexes + Enc.wt w.sheaves := rfl
  have h1 := wt_list w.complexes
  have h2 := wt_list w.sheaves
  omega

theorem s_namesOf (w : World) (hb : Enc.wt w ≤ 1048576) : Sat Tryz.prog 40 [(true, Enc.enc w)] (.tup [(false, [.rs 0]), (false, [.rs 1])], [(0, .arr 1 ((w.complexes.map (·.name)).map Enc.enc)), (1, .arr 1 ((w.sheaves.map (·.name)).map Enc.enc))]) := by
  have hl := nw_len hb
  refine Sat.intro tok mixed Tryz.func40 rfl rfl ?_
  ((conv => whnf); repeat ((first | refine B0 ?_ | refine B1 ?_ | refine D1 ?_ | refine D2 ?_ | refine CallC.r ?_); conv => whnf))
  refine Pick.mk [1, 4, 5, 11, 12, 13] trivial ?_
  ((conv => whnf); repeat ((first | refine B0 ?_ | refine B1 ?_ | refine D1 ?_ | refine D2 ?_ | refine CallC.r ?_); conv => whnf))
  refine LoopL.over (fun (i : Nat) => [(13, .one (.c (.int .i64 ((i : Int)))))]) (fun (i : Nat) => [(256, .arr 1 (List.map Enc.enc ((w.complexes.take i).map (·.name))))]) (fun (i : Nat) => w.complexes.length - i) (fun (i : Nat) => i ≤ w.complexes.length) ?_ 0 (Nat.zero_le _)
  intro i hi ih
  ((conv => whnf); repeat ((first | refine B0 ?_ | refine B1 ?_ | refine D1 ?_ | refine D2 ?_ | refine CallC.r ?_); conv => whnf))
  refine Br.mk (fun h => ?_) (fun h => ?_) <;> ((conv => whnf); repeat ((first | refine B0 ?_ | refine B1 ?_ | refine D1 ?_ | refine D2 ?_ | refine CallC.r ?_); conv => whnf))
  · have h : i < w.complexes.length := by simp only [List.length_map, decide_eq_true_eq] at h; omega
    refine Pick.ix (h) ?_
    ((conv => whnf); repeat ((first | refine B0 ?_ | refine B1 ?_ | refine D1 ?_ | refine D2 ?_ | refine CallC.r ?_); conv => whnf))
    refine Side.mk (by simp only [List.length_map, List.length_take, List.length_cons, List.length_nil]; omega) ?_
    ((conv => whnf); repeat ((first | refine B0 ?_ | refine B1 ?_ | refine D1 ?_ | refine D2 ?_ | refine CallC.r ?_); conv => whnf))
    refine Pick.at64 (z := (i + 1 : Nat)) (by simp) (by omega) ?_
    ((conv => whnf); repeat ((first | refine B0 ?_ | refine B1 ?_ | refine D1 ?_ | refine D2 ?_ | refine CallC.r ?_); conv => whnf))
    have hn := ih (i + 1) (by omega) (by omega)
    rw [List.take_add_one, List.getElem?_eq_getElem h, Option.toList_some, List.map_append, List.map_append] at hn
    exact hn
  · have h : i = w.complexes.length := by simp only [List.length_map, decide_eq_false_iff_not] at h; omega
    subst h
    rw [List.take_length]
    refine Pick.mk [4, 5, 24, 25, 26] trivial ?_
    ((conv => whnf); repeat ((first | refine B0 ?_ | refine B1 ?_ | refine D1 ?_ | refine D2 ?_ | refine CallC.r ?_); conv => whnf))
    refine LoopL.over (fun (i : Nat) => [(26, .one (.c (.int .i64 ((i : Int)))))]) (fun (i : Nat) => [(320, .arr 1 (List.map Enc.enc ((w.sheaves.take i).map (·.name))))]) (fun (i : Nat) => w.sheaves.length - i) (fun (i : Nat) => i ≤ w.sheaves.length) ?_ 0 (Nat.zero_le _)
    intro i hi ih
    ((conv => whnf); repeat ((first | refine B0 ?_ | refine B1 ?_ | refine D1 ?_ | refine D2 ?_ | refine CallC.r ?_); conv => whnf))
    refine Br.mk (fun h => ?_) (fun h => ?_) <;> ((conv => whnf); repeat ((first | refine B0 ?_ | refine B1 ?_ | refine D1 ?_ | refine D2 ?_ | refine CallC.r ?_); conv => whnf))
    · have h : i < w.sheaves.length := by simp only [List.length_map, decide_eq_true_eq] at h; omega
      refine Pick.ix (h) ?_
      ((conv => whnf); repeat ((first | refine B0 ?_ | refine B1 ?_ | refine D1 ?_ | refine D2 ?_ | refine CallC.r ?_); conv => whnf))
      refine Side.mk (by simp only [List.length_map, List.length_take, List.length_cons, List.length_nil]; omega) ?_
      ((conv => whnf); repeat ((first | refine B0 ?_ | refine B1 ?_ | refine D1 ?_ | refine D2 ?_ | refine CallC.r ?_); conv => whnf))
      refine Pick.at64 (z := (i + 1 : Nat)) (by simp) (by omega) ?_
      ((conv => whnf); repeat ((first | refine B0 ?_ | refine B1 ?_ | refine D1 ?_ | refine D2 ?_ | refine CallC.r ?_); conv => whnf))
      have hn := ih (i + 1) (by omega) (by omega)
      rw [List.take_add_one, List.getElem?_eq_getElem h, Option.toList_some, List.map_append, List.map_append] at hn
      exact hn
    · have h : i = w.sheaves.length := by simp only [List.length_map, decide_eq_false_iff_not] at h; omega
      subst h
      rw [List.take_length]
      exact ResOK.same rfl

theorem s_ValidWorld1 (t : ByteArray) (xs : List ByteArray) (hb : xs.length ≤ maxLen) : Sat Tryz.prog 43 ((false, Enc.enc t) :: [CV.ptr 1 (Enc.enc xs)].map fun y => (false, [y])) (.one (.c (.bool (xs.any fun x => t.toList == x.toList))), []) := by
  refine Sat.intro tok mixed Tryz.func43 rfl rfl ?_
  ((conv => whnf); repeat ((first | refine B0 ?_ | refine B1 ?_ | refine D1 ?_ | refine D2 ?_ | refine CallC.r ?_); conv => whnf))
  refine Pick.mk _ (s_ContainsString xs t hb) ?_
  ((conv => whnf); repeat ((first | refine B0 ?_ | refine B1 ?_ | refine D1 ?_ | refine D2 ?_ | refine CallC.r ?_); conv => whnf))
  exact ResOK.same rfl
theorem s_ValidWorld2 (c : NamedComplex) (o : Enc.ok c) (h : Enc.wt c.value ≤ 1048576) : Sat Tryz.prog 46 ((true, Enc.enc c) :: ([] : List CV).map fun y => (false, [y])) (.one (.c (.bool (!okComplex c.value))), []) := by
  refine Sat.intro tok mixed Tryz.func46 rfl rfl ?_
  ((conv => whnf); repeat ((first | refine B0 ?_ | refine B1 ?_ | refine D1 ?_ | refine D2 ?_ | refine CallC.r ?_); conv => whnf))
  refine Pick.mk _ (s_ValidComplex c.value o.2 (cx_bound h).1 (cx_bound h).2) ?_
  ((conv => whnf); repeat ((first | refine B0 ?_ | refine B1 ?_ | refine D1 ?_ | refine D2 ?_ | refine CallC.r ?_); conv => whnf))
  exact ResOK.same rfl
theorem s_ValidWorld3 (c : NamedSheaf) (o : Enc.ok c) (h : Enc.wt c.value ≤ 1048576) : Sat Tryz.prog 49 ((true, Enc.enc c) :: ([] : List CV).map fun y => (false, [y])) (.one (.c (.bool (!isSheaf c.value))), []) := by
  have hb := shf_bound h
  refine Sat.intro tok mixed Tryz.func49 rfl rfl ?_
  ((conv => whnf); repeat ((first | refine B0 ?_ | refine B1 ?_ | refine D1 ?_ | refine D2 ?_ | refine CallC.r ?_); conv => whnf))
  refine Pick.mk _ (s_IsSheaf c.value o.2 hb.1.1 hb.1.2 hb.2) ?_
  ((conv => whnf); repeat ((first | refine B0 ?_ | refine B1 ?_ | refine D1 ?_ | refine D2 ?_ | refine CallC.r ?_); conv => whnf))
  exact ResOK.same rfl

theorem names_len {α : Type} (f : α → ByteArray) (xs : List α) : decide (((xs.map f).length : Int) ≤ 8) = decide (xs.length ≤ 8) := by
  rw [List.length_map]; apply decide_eq_decide.2; omega
theorem s_impl_ValidWorld (w : World) (o : Enc.ok w) (hb : Enc.wt w ≤ 1048576) : Sat Tryz.prog 11 [(true, Enc.enc w)] (.one (.c (.bool (okWorld w))), []) := by
  have hl := nw_len hb
  have o1 : Enc.ok (w.complexes.map (·.name)) := ⟨by rw [List.length_map]; exact o.1.1, fun x hx => by
    obtain ⟨c, hc, rfl⟩ := List.mem_map.1 hx
    exact (o.1.2 c hc).1⟩
  have o2 : Enc.ok (w.sheaves.map (·.name)) := ⟨by rw [List.length_map]; exact o.2.1, fun x hx => by
    obtain ⟨c, hc, rfl⟩ := List.mem_map.1 hx
    exact (o.2.2 c hc).1⟩
  have hml : (w.sheaves.map (·.name)).length ≤ maxLen := o2.1
  have hc1 := s_ContainsFuncString (w.complexes.map (·.name)) 43 [CV.ptr 1 (Enc.enc (w.sheaves.map (·.name)))] (fun t => (w.sheaves.map (·.name)).any fun x => t.toList == x.toList) o1.1 (fun t _ => s_ValidWorld1 t _ hml)
  have hc2 := s_ContainsFuncNamedComplex w.complexes 46 [] (fun c => !okComplex c.value) o.1.1 (fun c hc => s_ValidWorld2 c (o.1.2 c hc) (nc_wt hb c hc))
  have hc3 := s_ContainsFuncNamedSheaf w.sheaves 49 [] (fun c => !isSheaf c.value) o.2.1 (fun c hc => s_ValidWorld3 c (o.2.2 c hc) (ns_wt hb c hc))
  have e1 : (!((w.complexes.map (·.name)).any fun t => (w.sheaves.map (·.name)).any fun x => t.toList == x.toList)) = apartW w := by
    rw [List.any_map]
    unfold apartW
    rw [List.not_any_eq_all_not]
    rfl
  have e2 : (!(w.complexes.any fun c => !okComplex c.value)) = w.complexes.all fun c => okComplex c.value := not_any_not _ _
  have e3 : (!(w.sheaves.any fun c => !isSheaf c.value)) = w.sheaves.all fun c => isSheaf c.value := not_any_not _ _
  have ha1 : Sat Tryz.prog 41 [(false, Enc.enc (w.complexes.map fun c : NamedComplex => c.name)), (false, [.int .i64 8])] (.one (.c (.bool (okCName w.complexes))), []) := by
    have h9 := s_areNames (w.complexes.map fun c : NamedComplex => c.name) o1 8
    rw [names_len] at h9
    exact h9
  have ha2 : Sat Tryz.prog 41 [(false, Enc.enc (w.sheaves.map fun c : NamedSheaf => c.name)), (false, [.int .i64 8])] (.one (.c (.bool (okSName w.sheaves))), []) := by
    have h9 := s_areNames (w.sheaves.map fun c : NamedSheaf => c.name) o2 8
    rw [names_len] at h9
    exact h9
  refine Sat.intro tok mixed Tryz.func11 rfl rfl ?_
  ((conv => whnf); repeat ((first | refine B0 ?_ | refine B1 ?_ | refine D1 ?_ | refine D2 ?_ | refine CallC.r ?_); conv => whnf))
  refine Pick.mk _ (s_namesOf w hb) ?_
  ((conv => whnf); repeat ((first | refine B0 ?_ | refine B1 ?_ | refine D1 ?_ | refine D2 ?_ | refine CallC.r ?_); conv => whnf))
  refine Pick.mk _ ha1 ?_
  ((conv => whnf); repeat ((first | refine B0 ?_ | refine B1 ?_ | refine D1 ?_ | refine D2 ?_ | refine CallC.r ?_); conv => whnf))
  refine Br.mk (fun h1 => ?_) (fun h1 => ?_) <;> ((conv => whnf); repeat ((first | refine B0 ?_ | refine B1 ?_ | refine D1 ?_ | refine D2 ?_ | refine CallC.r ?_); conv => whnf))
  · exact ResOK.same (by simp only [Bool.not_eq_true'] at h1; rw [okWorld, h1]; rfl)
  simp only [Bool.not_eq_false'] at h1
  refine Pick.mk _ ha2 ?_
  ((conv => whnf); repeat ((first | refine B0 ?_ | refine B1 ?_ | refine D1 ?_ | refine D2 ?_ | refine CallC.r ?_); conv => whnf))
  refine Br.mk (fun h2 => ?_) (fun h2 => ?_) <;> ((conv => whnf); repeat ((first | refine B0 ?_ | refine B1 ?_ | refine D1 ?_ | refine D2 ?_ | refine CallC.r ?_); conv => whnf))
  · exact ResOK.same (by simp only [Bool.not_eq_true'] at h2; rw [okWorld, h1, h2]; rfl)
  simp only [Bool.not_eq_false'] at h2
  refine Pick.mk false trivial ?_
  ((conv => whnf); repeat ((first | refine B0 ?_ | refine B1 ?_ | refine D1 ?_ | refine D2 ?_ | refine CallC.r ?_); conv => whnf))
  refine Pick.mk _ hc1 ?_
  ((conv => whnf); repeat ((first | refine B0 ?_ | refine B1 ?_ | refine D1 ?_ | refine D2 ?_ | refine CallC.r ?_); conv => whnf))
  refine Br.mk (fun h3 => ?_) (fun h3 => ?_) <;> ((conv => whnf); repeat ((first | refine B0 ?_ | refine B1 ?_ | refine D1 ?_ | refine D2 ?_ | refine CallC.r ?_); conv => whnf))
  · rw [h3] at e1
    exact ResOK.same (by rw [okWorld, h1, h2, ← e1]; rfl)
  rw [h3] at e1
  refine Pick.mk _ hc2 ?_
  ((conv => whnf); repeat ((first | refine B0 ?_ | refine B1 ?_ | refine D1 ?_ | refine D2 ?_ | refine CallC.r ?_); conv => whnf))
  rw [e2]
  refine Br.mk (fun h4 => ?_) (fun h4 => ?_) <;> ((conv => whnf); repeat ((first | refine B0 ?_ | refine B1 ?_ | refine D1 ?_ | refine D2 ?_ | refine CallC.r ?_); conv => whnf))
  · refine Pick.mk _ hc3 ?_
    ((conv => whnf); repeat ((first | refine B0 ?_ | refine B1 ?_ | refine D1 ?_ | refine D2 ?_ | refine CallC.r ?_); conv => whnf))
    exact ResOK.same (by rw [e3, okWorld, h1, h2, ← e1, h4]; rfl)
  · exact ResOK.same (by rw [okWorld, h1, h2, ← e1, h4]; rfl)
end Go.Proofs.YtlnjgoeicanehaaGreat.Pi
