/- Rows put in order by the library with a comparing function, for an own slice of rows. No statement of the seat is proved here. -/
import Derived.Test.YtnmoeeneofopcaaGreatPiFSortI
import Derived.Test.YtnmoeeneofopcaaGreatPiFCx
import Derived.Shelf.SlSortCmp.NoneTotal
namespace Go.Proofs.YtnmoeeneofopcaaGreat.Pi
open Go Go.RowKit Go.Sort
set_option linter.unusedVariables false

theorem cmpI_anti (a b : Int) : cmpI b a = - cmpI a b := by
  unfold cmpI
  split <;> split <;> (try split) <;> (try split) <;> omega
theorem cmpL_anti : ∀ (a b : List Int), cmpL b a = - cmpL a b
  | [], [] => rfl
  | [], _ :: _ => rfl
  | _ :: _, [] => rfl
  | x :: xs, y :: ys => by
    have ih := cmpL_anti xs ys
    have h := cmpI_anti x y
    simp only [cmpL]
    by_cases e : cmpI x y = 0
    · rw [if_neg (by omega), if_neg (by omega), ih]
    · rw [if_pos (by omega), if_pos (by omega), h]
theorem cmpS_anti (a b : List Int) : cmpS b a = - cmpS a b := by
  have h := cmpI_anti a.length b.length
  unfold cmpS
  by_cases e : cmpI a.length b.length = 0
  · rw [if_neg (by omega), if_neg (by omega), cmpL_anti]
  · rw [if_pos (by omega), if_pos (by omega), h]
theorem tot_cmpS (x y : List Int) (h1 : ltOf cmpS x y = false) (h2 : ltOf cmpS y x = false) : x = y := by
  have h1 := of_decide_eq_false h1
  have h2 := of_decide_eq_false h2
  have := cmpS_anti x y
  exact cmpS_eq.1 (by omega)
theorem swo_cmpS : SWO (ltOf cmpS) where
  irrefl x := decide_eq_false (by rw [cmpS_eq.2 rfl]; omega)
  trans x y z h1 h2 := decide_eq_true (cmpS_trans (of_decide_eq_true h1) (of_decide_eq_true h2))
  ntrans x y z h1 h2 := decide_eq_false fun h => by
    have h1 := of_decide_eq_false h1
    have h2 := of_decide_eq_false h2
    have a1 := cmpS_anti x y
    have a2 := cmpS_anti y z
    by_cases e1 : cmpS x y = 0
    · rw [cmpS_eq.1 e1] at h; exact h2 h
    by_cases e2 : cmpS y z = 0
    · rw [← cmpS_eq.1 e2] at h; exact h1 h
    have h3 : cmpS z x < 0 := cmpS_trans (b := y) (by omega) (by omega)
    have a3 := cmpS_anti z x
    omega

/-- Rows in order. -/
def srtS (xs : List (List Int)) : List (List Int) := xs.mergeSort fun x y => !(ltOf cmpS) y x
theorem srtS_len (xs : List (List Int)) : (srtS xs).length = xs.length := by simp [srtS]

/-- A world whose blocks all stand, and that drew on, has grown. -/
theorem grow_of_blw {w w' : World} (h : Blw w w') : ∃ q os, w' = grow (w.drewN q) os := by
  refine ⟨w'.drawn - w.drawn, w'.heap.extract w.heap.size w'.heap.size, ?_⟩
  obtain ⟨heap, tape, drawn, os, output⟩ := w
  obtain ⟨heap', tape', drawn', os', output'⟩ := w'
  obtain ⟨h1, h2, ⟨h3, h4⟩, h5, h6⟩ := h
  dsimp only at h1 h2 h3 h4 h5 h6
  subst h1 h2 h3
  simp only [grow, World.drewN, World.mk.injEq, true_and, and_true]
  refine ⟨Array.ext_getElem? fun i => ?_, by omega⟩
  rw [Array.getElem?_append]
  split
  · rename_i hi
    exact h6 i hi
  · rename_i hi
    rw [Array.getElem?_extract]
    split
    · congr 1; omega
    · rename_i h7
      rw [Array.getElem?_eq_none]
      omega

theorem permIn_all {α : Type} [Inhabited α] {d d' : Array α} (h : PermIn 0 d.size d d') : d'.size = d.size ∧ d'.toList.Perm d.toList := by
  obtain ⟨h1, _, h2⟩ := h
  refine ⟨h1, ?_⟩
  have e1 : d'.extract 0 d.size = d' := by rw [← h1]; exact Array.extract_size
  rwa [e1, Array.extract_size] at h2

theorem s_SortFuncG {α : Type} [Inhabited α] {P : Program} {ρ : Go.Shelf.Ren} (Ly : Go.Proofs.SlLaysF.n6 P ρ) (he : Ent P (ρ.f 6)) (g : Nat) (e : α → CV) (Q : α → Prop) (cf : α → α → Int) (hO : SWO (ltOf cf)) (hT : ∀ x y, ltOf cf x y = false → ltOf cf y x = false → x = y)
    (hg : ∀ x y, Q x → Q y → Sat P g [(false, [e x]), (false, [e y])] (.one (.c (.int .i64 (cf x y))), [])) (xs : List α) (hq : ∀ x ∈ xs, Q x) (hb : xs.length < 4611686018427387904) :
    SatM P (ρ.f 6) [.one (.rs 1000000), .one (.c (.fn g []))] [(1000000, .arr 1 (xs.map fun x => [e x]))] (.tup [], [(1000000, .arr 1 ((xs.mergeSort fun x y => !(ltOf cf) y x).map fun x => [e x]))]) := by
  have hlen : (xs.mergeSort fun x y => !(ltOf cf) y x).length = xs.length := by simp
  refine ⟨he, fun O I w L0 vals hI hsz hargs hH => ?_⟩
  obtain ⟨v, f, rfl⟩ : ∃ v f, vals = #[v, f] := by
    match vals, hsz with
    | ⟨[v, f]⟩, _ => exact ⟨v, f, rfl⟩
  have hx := hargs 0 _ v rfl rfl
  have hfn := hargs 1 _ f rfl rfl
  have ho := hH.ob 1000000 (.arr 1 (xs.map fun x => [e x])) rfl
  obtain ⟨sz, rows, hf, hx⟩ := hx
  have hfe : find [(1000000, Ob.arr 1 (xs.map fun x => [e x]))] 1000000 = some (.arr 1 (xs.map fun x => [e x])) := rfl
  rw [hfe] at hf
  cases hf
  have hfn : RepC I w f (.fn g []) := hfn
  obtain ⟨cb, rfl, hcb⟩ : ∃ cb : Array Value, f = .func (.func g) #[] cb ∧ cb.size = 0 := by
    cases hfn with
    | fn _ vs _ hs _ => exact ⟨vs, rfl, hs⟩
  have hcb : cb = #[] := Array.eq_empty_of_size_eq_zero hcb
  subst hcb
  have back : ∀ (w' : World), Kept O w w' → RepO L0 [(1000000, .arr 1 ((xs.mergeSort fun x y => !(ltOf cf) y x).map fun x => [e x]))] I w' 1000000 (.arr 1 ((xs.mergeSort fun x y => !(ltOf cf) y x).map fun x => [e x])) →
      BackM O I w L0 (.tup [], [(1000000, .arr 1 ((xs.mergeSort fun x y => !(ltOf cf) y x).map fun x => [e x]))]) (.tuple #[]) w' := fun w' hk hr => by
    have one : ∀ {k : Nat} {o : Ob}, find [(1000000, Ob.arr 1 ((xs.mergeSort fun x y => !(ltOf cf) y x).map fun x => [e x]))] k = some o → k = 1000000 ∧ o = .arr 1 ((xs.mergeSort fun x y => !(ltOf cf) y x).map fun x => [e x]) := fun {k o} hf => by
      simp only [find] at hf
      split at hf
      · rename_i e
        cases hf
        exact ⟨(beq_iff.1 e).symm, rfl⟩
      · cases hf
    refine ⟨hk, L0, I, fun b _ h => .inl h, fun b h => Nat.lt_of_lt_of_le (hI b h) hk.size, ⟨#[], rfl, rfl, fun i p v h => by simp at h⟩, ⟨fun k o hf => ?_, fun k o b hf hb => ?_, fun k k' o o' b hf hf' h1 h2 => ?_⟩, fun k o _ _ => ⟨rfl, rfl⟩⟩
    · obtain ⟨rfl, rfl⟩ := one hf
      exact hr
    · obtain ⟨rfl, rfl⟩ := one hf
      obtain ⟨g1, g2, g3⟩ := hH.own 1000000 _ b hfe hb
      exact ⟨.inr g1, g2, Nat.lt_of_lt_of_le g3 hk.size⟩
    · rw [(one hf).1, (one hf').1]
  by_cases hnil : xs = []
  · subst hnil
    obtain ⟨p, cap, rfl⟩ : ∃ p cap, v = .slice p 0 cap := by
      cases hblk : L0.blk 1000000 with
      | none => simp only [hblk] at hx; exact ⟨_, _, hx⟩
      | some b => simp only [hblk] at hx; exact ⟨_, _, hx⟩
    refine (AnyF.slices_SortFunc_none { Ly with } p cap (.func (.func g) #[] #[]) w).mono ?_
    rintro e w' ⟨rfl, hw⟩
    rw [hw]
    refine back w ⟨rfl, rfl, .rfl, Nat.le_refl _, fun _ _ _ => rfl⟩ ?_
    simpa using ho
  cases hblk : L0.blk 1000000 with
  | none =>
    simp only [RepO, hblk] at ho
    exact absurd (by simpa using ho) hnil
  | some b =>
    simp only [hblk] at hx
    simp only [RepO, hblk] at ho
    obtain ⟨hcap, hrow, vs, el, fr, hheap, hvs, hfz, hcell⟩ := ho
    rw [List.length_map] at hcap hx
    subst hx
    have hbs : b < w.heap.size := (Array.getElem?_eq_some_iff.1 hheap).1
    have hown := hH.own 1000000 _ b hfe (.inl hblk)
    let A := { p : Value × α // RepC I w p.1 (e p.2) ∧ Q p.2 }
    have hget : ∀ (i : Nat) (hi : i < xs.length), ∃ u, vs[i]? = some u ∧ RepC I w u (e xs[i]) := fun i hi => by
      obtain ⟨u, h1, h2⟩ := hcell i [e xs[i]] 0 (e xs[i]) (by rw [List.getElem?_map, List.getElem?_eq_getElem hi]; rfl) rfl
      exact ⟨u, by simpa using h1, h2⟩
    let d : Array A := Array.ofFn (n := xs.length) fun i => ⟨((hget i i.2).choose, xs[i]), (hget i i.2).choose_spec.2, hq _ (List.getElem_mem _)⟩
    have hds : d.size = xs.length := Array.size_ofFn
    have hdg : ∀ (i : Nat) (hi : i < xs.length), d[i]'(by rw [hds]; exact hi) = ⟨((hget i hi).choose, xs[i]), (hget i hi).choose_spec.2, hq _ (List.getElem_mem _)⟩ := fun i hi => by simp [d]
    have hpos : 0 < xs.length := List.length_pos_iff.2 hnil
    letI : Inhabited A := ⟨d[0]'(by omega)⟩
    let enc : A → Value := fun p => p.1.1
    let cg : A → A → Int := fun p q => cf p.1.2 q.1.2
    have h1 : OneCell enc := fun x => Pi.oneCell.bool (RepC.oneCell x.2.1)
    have hOg : SWO (ltOf cg) := ⟨fun x => hO.irrefl _, fun x y z => hO.trans _ _ _, fun x y z => hO.ntrans _ _ _⟩
    have hHold : Holds enc w b 0 d := fun j hj => by
      have hj' : j < xs.length := by omega
      obtain ⟨hjv, hje⟩ := Array.getElem?_eq_some_iff.1 (hget j hj').choose_spec.1
      refine ⟨?_, by rw [Nat.zero_add]; exact hfz j hjv⟩
      rw [Nat.zero_add]
      have : w.cell? ⟨b, j, none⟩ = vs[j]? := by
        have := cell_row (w := w) (j := j) hheap
        simpa using this
      rw [this, getElem!_pos d j hj, hdg j hj']
      exact (hget j hj').choose_spec.1
    have hgrown : ∀ (m : Nat) (os : Array Obj) (dk : Array A), w.grownBy (sortWorld enc w b 0 m dk os) (some b) := fun m os dk => grownBy_sortedG enc dk
    have hcmp : CmpLays1 P g #[] enc cg b 0 d.size w := fun m os dk hs x y => by
      obtain ⟨hw1, hw2, hw3, hw4, hw5⟩ := hgrown m os dk
      have hIw : ∀ b', I b' → (sortWorld enc w b 0 m dk os).heap[b']? = w.heap[b']? := fun b' h => hw5 b' (hI b' h) (fun e => by cases e; exact hown.2.1 h)
      refine ((hg x.1.2 y.1.2 x.2.2 y.2.2).2 I (sortWorld enc w b 0 m dk os) #[enc x, enc y] (fun b' h => Nat.lt_of_lt_of_le (hI b' h) hw4) rfl (fun i c v h1 h2 => ?_)).mono fun e' w' hp => ?_
      · match i with
        | 0 => cases h1; cases h2; exact RepC.mono (fun _ h => h) hIw x.2.1
        | 1 => cases h1; cases h2; exact RepC.mono (fun _ h => h) hIw y.2.1
        | i + 2 => simp at h1
      · cases e' with
        | returned v =>
          obtain ⟨hbl, L, I', _, _, hv, _⟩ := hp
          have hv : v = .int .i64 (cg x y) := by
            have hv : RepC I' w' v (.int .i64 (cf x.1.2 y.1.2)) := hv
            cases hv
            rfl
          exact ⟨by rw [hv], grow_of_blw hbl⟩
        | outgrown => exact hp.elim
        | panicked _ => exact hp.elim
    have hent : ∀ args w, (callFunc g args).run P w = .ok (.enter g args) w := fun args w => by
      obtain ⟨fn, h1, h2, h3⟩ := (hg (d[0]'(by omega)).1.2 (d[0]'(by omega)).1.2 (d[0]'(by omega)).2.2 (d[0]'(by omega)).2.2).1
      have h1' : P.funcs[g]? = some fn := h1
      simp only [callFunc, run_program, Sem.run_bind, Result.andThen_ok, h1', h2, h3, Bool.false_eq_true, if_false, Sem.run_pure]
    have hcall := Any.slices_SortFunc (P := P) (ρ := ρ) Ly enc h1 cg hOg g #[] b 0 (L0.cap 1000000) d w hent hcmp hHold hbs (by omega)
    rw [hds] at hcall
    refine hcall.mono ?_
    rintro e' w' ⟨rfl, d', n, os, hp, hs, rfl⟩
    rw [← hds] at hp hs
    obtain ⟨hsz', hperm⟩ := permIn_all hp
    have hcont : d'.toList.map (fun p => p.1.2) = xs.mergeSort fun x y => !(ltOf cf) y x := by
      have h0 : d.toList.map (fun p => p.1.2) = xs := by
        refine List.ext_getElem (by simp [hds]) fun i h1 h2 => ?_
        simp only [List.getElem_map, Array.getElem_toList]
        rw [hdg i h2]
      refine List.Perm.eq_of_pairwise (le := fun x y => (!ltOf cf y x) = true) ?_ ?_ ?_ (((hperm.map _).trans (by rw [h0])).trans (List.mergeSort_perm _ _).symm)
      · intro a b _ _ h1 h2
        exact hT a b (by simpa using h2) (by simpa using h1)
      · rw [List.pairwise_iff_getElem]
        intro i j h1 h2 hij
        have h1' : i < d'.size := by simpa using h1
        have h2' : j < d'.size := by simpa using h2
        have := hs i j (Nat.zero_le _) hij (by omega)
        rw [getElem!_pos d' j h2', getElem!_pos d' i h1'] at this
        simp only [List.getElem_map, Array.getElem_toList, Bool.not_eq_true']
        exact this
      · refine List.pairwise_mergeSort (fun x y z h1 h2 => ?_) (fun x y => ?_) xs
        · simp only [Bool.not_eq_true'] at h1 h2 ⊢
          exact hO.ntrans _ _ _ h2 h1
        · simp only [Bool.or_eq_true, Bool.not_eq_true']
          cases h : ltOf cf y x with
          | false => exact .inl rfl
          | true => exact .inr (hO.asymmA h)
    obtain ⟨_, _, _, hgs, hgb⟩ := hgrown n os d'
    have hOb : O b := hown.1
    refine back _ ⟨rfl, rfl, ⟨rfl, Nat.le_add_right _ _⟩, hgs, fun k hk hno => ?_⟩ ?_
    · exact hgb k hk (fun e => hno (by cases e; exact hOb))
    · simp only [RepO, hblk]
      refine ⟨by rw [List.length_map, hlen]; exact hcap, fun i r hr => ?_, _, el, fr, heap_sortedG enc d' hheap, by simpa [putCells] using hvs, fun o ho => ?_, fun i r j c hr hc => ?_⟩
      · rw [List.getElem?_map] at hr
        cases h : (xs.mergeSort fun x y => !(ltOf cf) y x)[i]? with
        | none => simp [h] at hr
        | some s => simp only [h, Option.map_some, Option.some.injEq] at hr; subst hr; rfl
      · rw [sortWorld, frozen?_grow _ _ _ (by simpa using hbs)]
        rw [frozen?_putRow, frozen?_ahead]
        exact hfz o (by simpa [putCells] using ho)
      · rw [← hcont, List.getElem?_map, List.getElem?_map] at hr
        cases h : d'.toList[i]? with
        | none => simp [h] at hr
        | some s =>
          simp only [h, Option.map_some, Option.some.injEq] at hr
          subst hr
          have hj : j = 0 ∧ c = e s.1.2 := by
            cases j with
            | zero => simp at hc; exact ⟨rfl, hc.symm⟩
            | succ j => simp at hc
          obtain ⟨rfl, rfl⟩ := hj
          have hid : i < d'.size := by simpa using (List.getElem?_eq_some_iff.1 h).1
          have hes : d'[i]! = s := by
            rw [getElem!_pos d' i hid]
            have := (List.getElem?_eq_some_iff.1 h).2
            simpa using this
          have hil : i < xs.length := by omega
          obtain ⟨u, hu, _⟩ := hget i hil
          have hiv : i < vs.size := (Array.getElem?_eq_some_iff.1 hu).1
          refine ⟨enc s, ?_, ?_⟩
          · simp only [putCells, Array.getElem?_mapIdx, Nat.mul_one, Nat.add_zero, Array.getElem?_eq_getElem hiv, Option.map_some]
            rw [if_pos ⟨Nat.zero_le _, by omega⟩]
            simp [hes]
          · exact RepC.mono (fun _ h => h) (fun b' h => hgb b' (hI b' h) (fun e => by cases e; exact hown.2.1 h)) s.2.1

end Go.Proofs.YtnmoeeneofopcaaGreat.Pi
