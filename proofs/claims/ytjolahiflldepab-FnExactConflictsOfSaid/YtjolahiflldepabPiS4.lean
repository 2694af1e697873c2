/- Freezing and writing keep the invariant. No statement of the seat is proved here. -/
import Derived.Test.YtjolahiflldepabPiS3
namespace Go.Proofs.Ytjolahiflldepab.Pi
open Go Go.RowKit
set_option linter.unusedVariables false
set_option linter.unusedSimpArgs false

theorem RepX.frz {L : Lay} {H : Heap} {I I' : Nat → Prop} {w : World} {k : Nat} {o : Ob} (hp : ∀ cs, o = .box cs → ∃ ys, pures cs = some ys) (hII : ∀ b, I b → I' b) (hI' : ∀ b, Foot L k b → I' b) (ho : RepO L H I w k o) (hfd : find H k = some o)
    {H' : Heap} (hH' : ∀ j o', j ≠ k → find H j = some o' → ∃ o2, find H' j = some o2 ∧ o2.shape = o'.shape) {v : Value} {x : XV} (h : RepX L H I w v x) : RepX L H' I' w v (frzX k o x) := by
  have hIb : ∀ b, L.blk k = some b → I' b := fun b h => hI' b (.inl h)
  by_cases hx : x.key? = some k
  · cases x <;> simp only [XV.key?, Option.some.injEq, reduceCtorEq] at hx <;> subst hx
    · cases o with
      | arr sz rows => simp only [frzX, (beq_iff (a := _) (b := _)).2 rfl]; exact slice_of_arr hII hIb ho hfd h
      | box cs => obtain ⟨_, _, g, _⟩ := h; rw [hfd] at g; cases g
      | deep a sz rows => obtain ⟨_, _, g, _⟩ := h; rw [hfd] at g; cases g
    · cases o with
      | arr sz rows => simp only [frzX, (beq_iff (a := _) (b := _)).2 rfl]; exact part_of_arr hII hIb ho hfd h
      | box cs => obtain ⟨_, _, g, _⟩ := h; rw [hfd] at g; cases g
      | deep a sz rows => obtain ⟨_, _, g, _⟩ := h; rw [hfd] at g; cases g
    · cases o with
      | arr sz rows => obtain ⟨_, _, g, _⟩ := h; rw [hfd] at g; cases g
      | deep a sz rows => obtain ⟨_, _, g, _⟩ := h; rw [hfd] at g; cases g
      | box cs =>
        obtain ⟨ys, hys⟩ := hp cs rfl
        simp only [frzX, (beq_iff (a := _) (b := _)).2 rfl, hys]; exact ptr_of_box hys hII hIb ho hfd h
    · cases o with
      | arr sz rows => simp only [frzX, (beq_iff (a := _) (b := _)).2 rfl]; exact elem_of_arr hII hIb ho hfd h
      | box cs => obtain ⟨_, _, _, g, _⟩ := h; rw [hfd] at g; cases g
      | deep a sz rows => obtain ⟨_, _, _, g, _⟩ := h; rw [hfd] at g; cases g
    · cases o with
      | deep a sz rows => simp only [frzX, (beq_iff (a := _) (b := _)).2 rfl]; exact slice_of_deep hI' ho hfd h
      | box cs => obtain ⟨_, _, _, g, _⟩ := h; rw [hfd] at g; cases g
      | arr sz rows => obtain ⟨_, _, _, g, _⟩ := h; rw [hfd] at g; cases g
    · cases o with
      | deep a sz rows => simp only [frzX, (beq_iff (a := _) (b := _)).2 rfl]; exact elem_of_deep hI' ho hfd h
      | box cs => obtain ⟨_, _, _, _, g, _⟩ := h; rw [hfd] at g; cases g
      | arr sz rows => obtain ⟨_, _, _, _, g, _⟩ := h; rw [hfd] at g; cases g
    · cases o <;> (simp only [frzX, (beq_iff (a := _) (b := _)).2 rfl]; trivial)
    · cases o with
      | box cs =>
        obtain ⟨ys, hys⟩ := hp cs rfl
        simp only [frzX, (beq_iff (a := _) (b := _)).2 rfl, hys]
        have hl := (pures_iff hys).1
        refine fn_of_box (cs := cs) hl hII (fun b hb => ?_) hfd h
        obtain ⟨vs, cells, b', g0, g1, g2, g3, g4⟩ := h
        rw [hfd] at g1; cases g1
        rw [g2] at hb; cases hb
        have := ptr_of_box hys hII hIb ho hfd (v := .pointer (some ⟨b, 0, none⟩)) (off := 0) (len := cs.length) ⟨cs, b, hfd, g2, by omega, rfl⟩
        rw [sub_eq, List.drop_zero, hl, List.take_length] at this
        rw [← g3, hl]; exact this
      | arr sz rows => obtain ⟨_, _, _, _, g, _⟩ := h; rw [hfd] at g; cases g
      | deep a sz rows => obtain ⟨_, _, _, _, g, _⟩ := h; rw [hfd] at g; cases g
  · have e : frzX k o x = x := by
      cases x <;> cases o <;> simp only [frzX] <;> (split <;> rename_i hb' <;> first | rfl | exact absurd (by simp [XV.key?, beq_iff.1 hb']) hx)
    rw [e]
    exact RepX.ext (q := fun j => j ≠ k) (fun j o' hq hj => ⟨hH' j o' hq hj, rfl, rfl, rfl⟩) hII (fun _ _ => rfl) (fun j hj e => hx (e ▸ hj)) h

theorem frz_core {C : Ctx} {L : Lay} {I : Nat → Prop} {s : St} {a : Act} {w : World} {k : Nat} {o : Ob} (hfd : find s.heap k = some o) (hp : ∀ cs, o = .box cs → ∃ ys, pures cs = some ys) (hi : Inv C L I s a w) :
    ∃ I', Inv C L I' ⟨s.regs.map (PV.map (frzX k o)), (del k s.heap).mapX (frzX k o)⟩ a w ∧ (∀ b, I b → I' b) := by
  have hII : ∀ b, I b → (I b ∨ Foot L k b) := fun b h => Or.inl h
  have hfind : ∀ j, find ((del k s.heap).mapX (frzX k o)) j = if j = k then none else (find s.heap j).map (Ob.map (frzX k o)) := fun j => by
    rw [find_mapX, find_del]; split <;> rfl
  have hf : ∀ v x, RepX L s.heap I w v x → RepX L ((del k s.heap).mapX (frzX k o)) (fun b => I b ∨ Foot L k b) w v (frzX k o x) := fun v x h =>
    RepX.frz hp hII (fun b h => Or.inr h) (hi.heap.ob k o hfd) hfd (fun j o' hj h => ⟨o'.map (frzX k o), by rw [hfind, if_neg hj, h]; rfl, shape_map _ _⟩) h
  refine ⟨fun b => I b ∨ Foot L k b, hi.change (f := frzX k o) hf rfl ?_ (fun b h => h.elim (hi.Ib b) fun h => (hi.heap.own k o b hfd h).2.2) (fun b h1 h => h.elim (hi.Io b h1) fun h => Or.inr (hi.heap.own k o b hfd h).1) hi.fr (fun j o' _ h => by
      simp only [hfind] at h
      split at h
      · cases h
      · cases h2 : find s.heap j with
        | none => simp [h2] at h
        | some o2 => exact ⟨o2, rfl, rfl, rfl⟩), hII⟩
  refine ⟨fun j o' h => ?_, fun j o' b h hb => ?_, fun j j' o1 o2 b h h' hb hb' => ?_⟩
  · simp only [hfind] at h
    by_cases hj : j = k
    · simp [hj] at h
    · rw [if_neg hj] at h
      cases h2 : find s.heap j with
      | none => simp [h2] at h
      | some o2 =>
        simp only [h2, Option.map_some, Option.some.injEq] at h
        subst h
        exact (hi.heap.ob j o2 h2).ext hf hII (fun _ _ => rfl) .rfl (fun _ _ => rfl)
  · simp only [hfind] at h
    by_cases hj : j = k
    · simp [hj] at h
    · rw [if_neg hj] at h
      cases h2 : find s.heap j with
      | none => simp [h2] at h
      | some o2 =>
        obtain ⟨g1, g2, g3⟩ := hi.heap.own j o2 b h2 hb
        exact ⟨g1, fun h => h.elim g2 fun h => hj (hi.heap.inj j k o2 o b h2 hfd hb h), g3⟩
  · simp only [hfind] at h h'
    by_cases hj : j = k
    · simp [hj] at h
    · by_cases hj2 : j' = k
      · simp [hj2] at h'
      · rw [if_neg hj] at h; rw [if_neg hj2] at h'
        cases h2 : find s.heap j with
        | none => simp [h2] at h
        | some o3 =>
          cases h3 : find s.heap j' with
          | none => simp [h3] at h'
          | some o4 => exact hi.heap.inj j j' o3 o4 b h2 h3 hb hb'

theorem frzK_inv {C : Ctx} {L : Lay} {I : Nat → Prop} {s : St} {a : Act} {w : World} {k : Nat} {K : St → Prop} (hK : frzK k s K) (hi : Inv C L I s a w) :
    ∃ s' I', K s' ∧ Inv C L I' s' a w ∧ (∀ b, I b → I' b) := by
  unfold frzK at hK
  cases hfd : find s.heap k with
  | none => simp only [hfd] at hK; exact ⟨s, I, hK, hi, fun _ h => h⟩
  | some o =>
    cases o with
    | arr sz rows =>
      simp only [hfd, force_eq] at hK
      obtain ⟨I', h1, h2⟩ := frz_core hfd (fun cs h => by cases h) hi
      exact ⟨_, I', hK, h1, h2⟩
    | deep a sz rows =>
      simp only [hfd, force_eq] at hK
      obtain ⟨I', h1, h2⟩ := frz_core hfd (fun cs h => by cases h) hi
      exact ⟨_, I', hK, h1, h2⟩
    | box cs =>
      simp only [hfd] at hK
      cases hp : pures cs with
      | none => simp [hp] at hK
      | some ys =>
        simp only [hp, force_eq] at hK
        obtain ⟨I', h1, h2⟩ := frz_core hfd (fun cs' h => by cases h; exact ⟨ys, hp⟩) hi
        exact ⟨_, I', hK, h1, h2⟩

theorem frzKeys_inv {C : Ctx} {L : Lay} {a : Act} {w : World} : ∀ {n : Nat} {ks : List Nat} {s : St} {I : Nat → Prop} {K : St → Prop}, frzKeys n ks s K → Inv C L I s a w →
    ∃ s' I', K s' ∧ Inv C L I' s' a w ∧ (∀ b, I b → I' b) := by
  intro n
  induction n with
  | zero =>
    intro ks s I K hK hi
    cases ks with
    | nil => exact ⟨s, I, hK, hi, fun _ h => h⟩
    | cons k ks => exact hK.elim
  | succ n ih =>
    intro ks s I K hK hi
    cases ks with
    | nil => exact ⟨s, I, hK, hi, fun _ h => h⟩
    | cons k ks =>
      simp only [frzKeys] at hK
      have tail : ∀ {I1 : Nat → Prop} {s1 : St}, frzK k s1 (fun s => frzKeys n ks s K) → Inv C L I1 s1 a w → ∃ s' I', K s' ∧ Inv C L I' s' a w ∧ (∀ b, I1 b → I' b) := fun hK hi => by
        obtain ⟨s2, I2, h1, h2, h3⟩ := frzK_inv hK hi
        obtain ⟨s3, I3, h4, h5, h6⟩ := ih h1 h2
        exact ⟨s3, I3, h4, h5, fun b h => h6 b (h3 b h)⟩
      split at hK
      · obtain ⟨s1, I1, h1, h2, h3⟩ := ih hK hi
        obtain ⟨s2, I2, h4, h5, h6⟩ := tail h1 h2
        exact ⟨s2, I2, h4, h5, fun b h => h6 b (h3 b h)⟩
      · exact tail hK hi

/-! ### writing -/
structure Wrote (w : World) (b o : Nat) (vs : List Value) (w' : World) : Prop where
  os : w'.os = w.os
  tape : w'.tape = w.tape
  output : w'.output = w.output
  size : w'.heap.size = w.heap.size
  other : ∀ b', b' ≠ b → w'.heap[b']? = w.heap[b']?
  row : ∀ cur e fr, w.heap[b]? = some (.cells cur e fr) → ∃ cur', w'.heap[b]? = some (.cells cur' e fr) ∧ cur'.size = cur.size ∧ ∀ j : Nat, cur'[j]? = if o ≤ j ∧ j < o + vs.length then vs[j - o]? else cur[j]?

theorem oneCell.bool {v : Value} (h : oneCell v) : v.oneCell' = true := by
  cases v <;> first | rfl | exact absurd rfl (h.1 _) | exact absurd rfl (h.2 _)

theorem add_plain (b o n : Nat) : Addr.add ⟨b, o, none⟩ n = ⟨b, o + n, none⟩ := by
  unfold Addr.add; split <;> simp_all

theorem run_storeCells {P : Program} {b o : Nat} : ∀ (vs : List Value) (i : Nat) (w : World) (cur : Array Value) (e : TypeId) (fr : Nat × Nat), w.heap[b]? = some (.cells cur e fr) → o + i + vs.length ≤ cur.size → (∀ j, j < cur.size → w.frozen? ⟨b, j, none⟩ = false) → (∀ v ∈ vs, oneCell v) →
    ∃ w', (storeCells ⟨b, o, none⟩ vs i).run P w = .ok () w' ∧ Wrote w b (o + i) vs w' := by
  intro vs
  induction vs with
  | nil =>
    intro i w cur e fr hb _ _ _
    refine ⟨w, rfl, ⟨rfl, rfl, rfl, rfl, fun _ _ => rfl, fun cur' e' fr' h => ⟨cur', h, rfl, fun j => ?_⟩⟩⟩
    rw [if_neg (by simp only [List.length_nil]; omega)]
  | cons v vs ih =>
    intro i w cur e fr hb hsz hfz hv
    simp only [List.length_cons] at hsz
    have hlt : o + i < cur.size := by omega
    have hc : w.cell? ⟨b, o + i, none⟩ = some cur[o + i] := by rw [cell_row hb, Array.getElem?_eq_getElem hlt]
    have hrun : (store (Addr.add ⟨b, o, none⟩ i) v).run P w = .ok () (w.setCell ⟨b, o + i, none⟩ v) := by
      rw [add_plain, run_store P w _ v .plain (hv v (by simp)).bool, hc]
      simp [hfz _ hlt]
    have hb1 : (w.setCell ⟨b, o + i, none⟩ v).heap[b]? = some (.cells (cur.setIfInBounds (o + i) v) e fr) := by
      simp [World.setCell, Array.getElem?_modify, hb]
    have hother : ∀ b', b' ≠ b → (w.setCell ⟨b, o + i, none⟩ v).heap[b']? = w.heap[b']? := fun b' h => by
      simp only [World.setCell, Array.getElem?_modify]
      rw [if_neg (by exact fun e => h e.symm)]
    have hfz' : ∀ j, j < (cur.setIfInBounds (o + i) v).size → (w.setCell ⟨b, o + i, none⟩ v).frozen? ⟨b, j, none⟩ = false := fun j hj => by
      rw [World.frozen?_setCell]; exact hfz j (by simpa using hj)
    obtain ⟨w', h1, h2⟩ := ih (i + 1) _ _ e fr hb1 (by simp; omega) hfz' (fun u hu => hv u (by simp [hu]))
    refine ⟨w', ?_, ⟨h2.os, h2.tape, h2.output, by rw [h2.size]; simp, fun b' h => (h2.other b' h).trans (hother b' h), fun cur2 e2 fr2 h => ?_⟩⟩
    · simp only [storeCells, Sem.run_bind, hrun, Result.andThen_ok, h1]
    · rw [hb] at h; cases h
      obtain ⟨cur', g1, g2, g3⟩ := h2.row _ _ _ hb1
      refine ⟨cur', g1, by simpa using g2, fun j => ?_⟩
      rw [g3 j]
      by_cases e1 : j = o + i
      · subst e1
        rw [if_neg (by omega), if_pos (by simp)]
        simp [hlt]
      · by_cases e2 : o + i ≤ j ∧ j < o + i + (vs.length + 1)
        · rw [if_pos (by omega), if_pos (by simpa using e2)]
          have : j - (o + i) = (j - (o + (i + 1))) + 1 := by omega
          rw [this]; simp
        · rw [if_neg (by omega), if_neg (by simpa using e2)]
          rw [Array.getElem?_setIfInBounds_ne (by omega)]

theorem fillX_get : ∀ (xs cs : List XV) (o i : Nat), o + xs.length ≤ cs.length → (fillX cs o xs)[i]? = if o ≤ i ∧ i < o + xs.length then xs[i - o]? else cs[i]?
  | [], cs, o, i, _ => by rw [if_neg (by simp only [List.length_nil]; omega)]; rfl
  | x :: xs, cs, o, i, h => by
    simp only [List.length_cons] at h
    simp only [fillX]
    rw [fillX_get xs (cs.set o x) (o + 1) i (by simp; omega)]
    by_cases e1 : i = o
    · subst e1
      have hi : i < cs.length := by omega
      rw [if_neg (by omega), if_pos (by simp)]
      simp [hi]
    · by_cases e2 : o ≤ i ∧ i < o + (xs.length + 1)
      · rw [if_pos (by omega), if_pos (by simpa using e2)]
        have : i - o = (i - (o + 1)) + 1 := by omega
        rw [this]; simp
      · rw [if_neg (by omega), if_neg (by simpa using e2)]
        rw [List.getElem?_set_ne (by omega)]

theorem fillX_length : ∀ (xs cs : List XV) (o : Nat), (fillX cs o xs).length = cs.length
  | [], cs, o => rfl
  | x :: xs, cs, o => by simp [fillX, fillX_length xs]

theorem allLive_iff : ∀ {xs : List XV}, allLive xs = true ↔ ∀ x ∈ xs, x.live = true
  | [] => by simp [allLive]
  | x :: xs => by
    simp only [allLive]
    cases h : x.live with
    | true => simp [h, allLive_iff (xs := xs)]
    | false => simp [h]

theorem noKey_iff {k : Nat} : ∀ {xs : List XV}, noKey k xs = true ↔ ∀ x ∈ xs, x.key? ≠ some k
  | [] => by simp [noKey]
  | x :: xs => by
    simp only [noKey]
    cases h : x.key? with
    | none => simp [h, noKey_iff (xs := xs)]
    | some k' =>
      cases hb : Nat.beq k' k with
      | true => simp [h, beq_iff.1 hb]
      | false =>
        have hne := beq_false.1 hb
        simp only [hb, noKey_iff (xs := xs), List.mem_cons, forall_eq_or_imp, h, ne_eq, Option.some.injEq, hne, not_false_eq_true, true_and]

/-- THE CHANGE OF ONE OBJECT IN PLACE, its shape kept. -/
theorem Inv.writeOb {C : Ctx} {L : Lay} {I : Nat → Prop} {s : St} {a : Act} {w w' : World} {k b : Nat} {o o' : Ob} (hi : Inv C L I s a w) (hfd : find s.heap k = some o) (hbk : L.blk k = some b) (hsh : o'.shape = o.shape)
    (hsz : w'.heap.size = w.heap.size) (hother : ∀ b', b' ≠ b → w'.heap[b']? = w.heap[b']?) (h1 : w'.os = w.os) (h2 : w'.tape = w.tape) (h3 : w'.output = w.output)
    (hrep : (∀ v x, RepX L s.heap I w v x → RepX L (setOb s.heap k o') I w' v x) → (∀ v c, RepC I w v c → RepC I w' v c) → RepO L (setOb s.heap k o') I w' k o') : Inv C L I ⟨s.regs, setOb s.heap k o'⟩ a w' := by
  obtain ⟨hO, hnI, hlt⟩ := hi.heap.own k o b hfd (.inl hbk)
  have hw : ∀ b', I b' → w'.heap[b']? = w.heap[b']? := fun b' h => hother b' fun e => hnI (e ▸ h)
  have hfind : ∀ j, find (setOb s.heap k o') j = if j = k then some o' else find s.heap j := fun j => by
    rw [find_setOb]; by_cases e : j = k
    · simp [e, hfd]
    · simp [e]
  have hf : ∀ v x, RepX L s.heap I w v x → RepX L (setOb s.heap k o') I w' v x := fun v x h =>
    RepX.ext (q := fun _ => True) (fun j o2 _ hj => ⟨by
      by_cases e : j = k
      · subst e; rw [hfd] at hj; cases hj; exact ⟨o', by simp [hfind], hsh⟩
      · exact ⟨o2, by simp [hfind, e, hj], rfl⟩, rfl, rfl, rfl⟩) (fun _ h => h) hw (fun _ _ => trivial) h
  refine hi.change (f := fun y => y) hf (map_id_regs _).symm ?_ (fun b h => by rw [hsz]; exact hi.Ib b h) hi.Io ?_ ?_
  · refine ⟨fun j o2 h => ?_, fun j o2 b2 h hb2 => ?_, fun j j' o2 o3 b2 h h' hb2 hb2' => ?_⟩
    · by_cases e : j = k
      · subst e
        have e2 : o2 = o' := by simpa [hfind] using h.symm
        subst e2
        exact hrep hf (fun v c h => h.mono (fun _ h => h) hw)
      · have h' : find s.heap j = some o2 := by simpa [hfind, e] using h
        exact (hi.heap.ob j o2 h').ext' hf (fun _ h => h) hw .rfl (fun b' hb' => hother b' fun e2 => e (hi.heap.inj j k o2 o b h' hfd (e2 ▸ hb') (.inl hbk)))
    · rw [hsz]
      by_cases e : j = k
      · subst e; exact hi.heap.own j o b2 hfd hb2
      · exact hi.heap.own j o2 b2 (by simpa [hfind, e] using h) hb2
    · have g : ∃ o, find s.heap j = some o := by
        by_cases e : j = k
        · exact ⟨o, e ▸ hfd⟩
        · exact ⟨o2, by simpa [hfind, e] using h⟩
      have g' : ∃ o, find s.heap j' = some o := by
        by_cases e : j' = k
        · exact ⟨o, e ▸ hfd⟩
        · exact ⟨o3, by simpa [hfind, e] using h'⟩
      exact hi.heap.inj j j' _ _ b2 g.choose_spec g'.choose_spec hb2 hb2'
  · exact ⟨h1.trans hi.fr.os, h2.trans hi.fr.tape, h3.trans hi.fr.output, by rw [hsz]; exact hi.fr.size, fun b' g1 g2 => (hother b' fun e => g2 (e ▸ hO)).trans (hi.fr.block b' g1 g2)⟩
  · intro j o2 _ h
    by_cases e : j = k
    · exact ⟨o, e ▸ hfd, rfl, rfl⟩
    · exact ⟨o2, by simpa [hfind, e] using h, rfl, rfl⟩

theorem Inv.writeBox {C : Ctx} {L : Lay} {I : Nat → Prop} {s : St} {a : Act} {w : World} {P : Program} {k off b : Nat} {cs : List XV} {xs : List XV} {vs : Array Value} (hi : Inv C L I s a w) (hfd : find s.heap k = some (.box cs)) (hbk : L.blk k = some b) (hl : off + xs.length ≤ cs.length)
    (hv : RepXs L s.heap I w vs xs) (hlive : allLive xs = true) :
    ∃ w', (storeCells ⟨b, off, none⟩ vs.toList 0).run P w = .ok () w' ∧ Inv C L I ⟨s.regs, setOb s.heap k (.box (fillX cs off xs))⟩ a w' ∧ (∀ v x, RepX L s.heap I w v x → RepX L (setOb s.heap k (.box (fillX cs off xs))) I w' v x) := by
  have ho := hi.heap.ob k _ hfd
  obtain ⟨b', cur, e, fr, g1, g2, g3, g4, g5⟩ := ho
  rw [hbk] at g1; cases g1
  have hall : ∀ v ∈ vs.toList, oneCell v := fun v hm => by
    obtain ⟨i, hi', rfl⟩ := List.mem_iff_getElem.1 hm
    have hix : i < xs.length := by rw [← hv.1]; simpa using hi'
    exact RepX.oneCell (allLive_iff.1 hlive _ (List.getElem_mem hix)) (hv.2 i xs[i] _ (List.getElem?_eq_getElem hix) (by simp at hi'; simp [hi']))
  obtain ⟨w', h1, h2⟩ := run_storeCells (P := P) (o := off) vs.toList 0 w cur e fr g2 (by have := g5.1; have := hv.1; simp; omega) g3 hall
  obtain ⟨cur', q1, q2, q3⟩ := h2.row cur e fr g2
  have key := hi.writeOb (w' := w') (o' := .box (fillX cs off xs)) hfd hbk (by simp [Ob.shape, fillX_length]) h2.size h2.other h2.os h2.tape h2.output (fun hf hc => by
    refine ⟨b, cur', e, fr, hbk, q1, fun o ho => ?_, fun i v hv' => ?_, ?_, fun i x v hx hv' => ?_⟩
    · have : w'.frozen? ⟨b, o, none⟩ = w.frozen? ⟨b, o, none⟩ := by simp [World.frozen?, q1, g2]
      rw [this]; exact g3 o (by rw [← q2]; exact ho)
    · rw [q3 i] at hv'
      split at hv'
      · exact hall v (List.mem_of_getElem? hv')
      · exact g4 i v hv'
    · rw [q2, g5.1, fillX_length]
    · rw [q3 i] at hv'
      rw [fillX_get xs cs off i hl] at hx
      have hlen : vs.toList.length = xs.length := by simpa using hv.1
      rw [hlen, Nat.add_zero] at hv'
      split at hx
      · rename_i hc'
        rw [if_pos hc'] at hv'
        exact hf _ _ (hv.2 _ x v hx (by simpa using hv'))
      · rename_i hc'
        rw [if_neg hc'] at hv'
        exact hf _ _ (g5.2 i x v hx hv'))
  refine ⟨w', h1, key, fun v x h => ?_⟩
  have hnI := (hi.heap.own k _ b hfd (.inl hbk)).2.1
  refine RepX.ext (q := fun _ => True) (fun j o2 _ hj => ⟨?_, rfl, rfl, rfl⟩) (fun _ h => h) (fun b' hb' => h2.other b' fun e => hnI (e ▸ hb')) (fun _ _ => trivial) h
  by_cases e : j = k
  · subst e; rw [hfd] at hj; cases hj; exact ⟨.box (fillX cs off xs), by simp [find_setOb, hfd], by simp [Ob.shape, fillX_length]⟩
  · exact ⟨o2, by simp [find_setOb, e, hj], rfl⟩

theorem Inv.writeRow {C : Ctx} {L : Lay} {I : Nat → Prop} {s : St} {a : Act} {w : World} {P : Program} {k r b sz : Nat} {rows : List (List CV)} {ys : List CV} {vs : Array Value} (hi : Inv C L I s a w) (hfd : find s.heap k = some (.arr sz rows)) (hbk : L.blk k = some b) (hr : r < rows.length)
    (hl : ys.length = sz) (hsz : vs.size = sz) (hv : ∀ (i : Nat) (y : CV) (v : Value), ys[i]? = some y → vs[i]? = some v → RepC I w v y) :
    ∃ w', (storeCells ⟨b, r * sz, none⟩ vs.toList 0).run P w = .ok () w' ∧ Inv C L I ⟨s.regs, setOb s.heap k (.arr sz (rows.set r ys))⟩ a w' := by
  have ho := hi.heap.ob k _ hfd
  simp only [RepO, hbk] at ho
  obtain ⟨h0, hrl, cur, e, fr, g2, g6, g3, g5⟩ := ho
  have hall : ∀ v ∈ vs.toList, oneCell v := fun v hm => by
    obtain ⟨i, hi', rfl⟩ := List.mem_iff_getElem.1 hm
    have hix : i < ys.length := by rw [hl, ← hsz]; simpa using hi'
    exact (hv i ys[i] _ (List.getElem?_eq_getElem hix) (by simp at hi'; simp [hi'])).oneCell
  have hfit : r * sz + sz ≤ cur.size := by
    have h1 : (r + 1) * sz ≤ L.cap k * sz := Nat.mul_le_mul_right _ (by omega)
    rw [Nat.add_mul] at h1; omega
  obtain ⟨w', h1, h2⟩ := run_storeCells (P := P) (o := r * sz) vs.toList 0 w cur e fr g2 (by simp; omega) g3 hall
  obtain ⟨cur', q1, q2, q3⟩ := h2.row cur e fr g2
  refine ⟨w', h1, hi.writeOb (w' := w') (o' := .arr sz (rows.set r ys)) hfd hbk (by simp [Ob.shape]) h2.size h2.other h2.os h2.tape h2.output (fun hf hc => ?_)⟩
  simp only [RepO, hbk]
  refine ⟨by simpa using h0, fun i r' hr' => ?_, cur', e, fr, q1, by rw [q2]; exact g6, fun o ho => ?_, fun i r' j c h3 h4 => ?_⟩
  · rw [List.getElem?_set] at hr'
    split at hr'
    · cases hr'; exact hl
    · exact hrl i r' hr'
  · have : w'.frozen? ⟨b, o, none⟩ = w.frozen? ⟨b, o, none⟩ := by simp [World.frozen?, q1, g2]
    rw [this]; exact g3 o (by rw [← q2]; exact ho)
  · rw [q3]
    have hlen : vs.toList.length = sz := by simpa using hsz
    rw [hlen, Nat.add_zero]
    rw [List.getElem?_set] at h3
    by_cases e1 : r = i
    · subst e1
      simp only [if_true] at h3
      rw [if_pos hr] at h3
      cases h3
      have hj : j < sz := by rw [← hl]; exact (List.getElem?_eq_some_iff.1 h4).1
      rw [if_pos (by omega), Nat.add_sub_cancel_left]
      have hjv : j < vs.size := by omega
      exact ⟨vs[j], by simp [hjv], hc _ _ (hv j c vs[j] h4 (Array.getElem?_eq_getElem hjv))⟩
    · rw [if_neg e1] at h3
      have hj : j < sz := by rw [← hrl i r' h3]; exact (List.getElem?_eq_some_iff.1 h4).1
      have hout : ¬ (r * sz ≤ i * sz + j ∧ i * sz + j < r * sz + sz) := by
        intro ⟨p1, p2⟩
        rcases Nat.lt_or_ge i r with hlt | hge
        · have : (i + 1) * sz ≤ r * sz := Nat.mul_le_mul_right _ hlt
          rw [Nat.add_mul] at this; omega
        · have : (r + 1) * sz ≤ i * sz := Nat.mul_le_mul_right _ (by omega)
          rw [Nat.add_mul] at this; omega
      rw [if_neg hout]
      obtain ⟨v, h5, h6⟩ := g5 i r' j c h3 h4
      exact ⟨v, h5, hc _ _ h6⟩

end Go.Proofs.Ytjolahiflldepab.Pi
