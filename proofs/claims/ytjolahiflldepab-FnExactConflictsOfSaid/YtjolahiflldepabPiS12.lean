/- The operations that change the abstract state: sound. No statement of the seat is proved here. -/
import Derived.Test.YtjolahiflldepabPiS11
namespace Go.Proofs.Ytjolahiflldepab.Pi
open Go Go.RowKit
set_option linter.unusedVariables false
set_option linter.unusedSimpArgs false

theorem killK_fn (k : Nat) (s : St) : ∃ s', ∀ K : St → Prop, killK k s K ↔ K s' := by
  unfold killK
  cases find s.heap k with
  | none => exact ⟨s, fun K => Iff.rfl⟩
  | some o => exact ⟨⟨s.regs.map (PV.map (XV.kill k)), (del k s.heap).mapX (XV.kill k)⟩, fun K => by simp only [force_eq]⟩

theorem newsK_cons {d k : Nat} {o : Ob} {h : Heap} {s : St} {K : St → Prop} (hK : newsK d ((k, o) :: h) s K) : find h k = none ∧ newK (d + k) o s (fun s => newsK d h s K) ∧ ∀ cs, o ≠ .box cs := by
  cases o with
  | box cs => exact hK.elim
  | arr sz rows =>
    simp only [newsK] at hK
    cases hf : find h k with
    | some o => simp [hf] at hK
    | none => simp only [hf] at hK; exact ⟨rfl, hK, fun cs h => by cases h⟩
  | deep a sz rows =>
    simp only [newsK] at hK
    cases hf : find h k with
    | some o => simp [hf] at hK
    | none => simp only [hf] at hK; exact ⟨rfl, hK, fun cs h => by cases h⟩

theorem newK_fnD {k : Nat} {o : Ob} {s : St} {K : St → Prop} (h : newK k o s K) : ∃ s', ∀ K : St → Prop, newK k o s K ↔ K s' := by
  unfold newK at h ⊢
  split at h
  · exact h.elim
  · simp only [*]
    obtain ⟨⟨r, h⟩, h1⟩ := killK_fn k s
    exact ⟨⟨r, ins k o h⟩, fun K => by rw [h1]; simp only [forceH_eq]⟩

theorem newsK_fn {d : Nat} : ∀ {h : Heap} {s : St} {K : St → Prop}, newsK d h s K → ∃ s', ∀ K' : St → Prop, newsK d h s K' ↔ K' s'
  | [], s, K, _ => ⟨s, fun K' => Iff.rfl⟩
  | (k, .box _) :: h, s, K, hK => hK.elim
  | (k, .arr sz rows) :: h, s, K, hK => by
    obtain ⟨hf, hK, _⟩ := newsK_cons hK
    obtain ⟨s1, h1⟩ := newK_fnD hK
    obtain ⟨s2, h2⟩ := newsK_fn ((h1 _).1 hK)
    exact ⟨s2, fun K' => by simp only [newsK, hf]; rw [h1, h2]⟩
  | (k, .deep a sz rows) :: h, s, K, hK => by
    obtain ⟨hf, hK, _⟩ := newsK_cons hK
    obtain ⟨s1, h1⟩ := newK_fnD hK
    obtain ⟨s2, h2⟩ := newsK_fn ((h1 _).1 hK)
    exact ⟨s2, fun K' => by simp only [newsK, hf]; rw [h1, h2]⟩

section
variable {P : Program} {C : Ctx} {L : Lay} {I : Nat → Prop} {s : St} {a : Act} {w : World}

/-- The operation goes, the abstract state behind it is 's''. -/
def GoesM (P : Program) (C : Ctx) (s' : St) (a : Act) (w : World) (o : Oper) (pv : PV) : Prop :=
  ∀ (next : Act → World → Prop) (Q : Exit → Act → World → Prop), True → (∀ v w' I' L', Inv C L' I' s' a w' → RepP L' s'.heap I' w' v pv → next (a.put o.dst v) w') → o.wp P a w next Q ∨ (o.asks P a w ∧ LetsOut Q)

theorem Goes.m {o : Oper} {pv : PV} (h : Goes P C L s a w o pv) : GoesM P C s a w o pv := fun next Q hQ hn => h next Q hQ fun v w' I' => hn v w' I' L

theorem goesM_run {o : Oper} {v : Value} {w' : World} {L' : Lay} {I' : Nat → Prop} {s' : St} {pv : PV} (hrun : (execOp a.eval o).run P w = .ok (.value v) w') (hi : Inv C L' I' s' a w') (hr : RepP L' s'.heap I' w' v pv) : GoesM P C s' a w o pv := fun next Q _ hn => Or.inl (by
  unfold Oper.wp
  rw [hrun]
  exact hn v w' I' L' hi hr)

theorem newsK_inv {d : Nat} {L2 : Lay} {H2 : Heap} : ∀ {h : Heap} {s : St} {K : St → Prop} {L : Lay}, newsK d h s K → Inv C L I s a w →
    (∀ k o, find h k = some o → RepO L2 H2 I w k o) →
    (∀ k o b, find h k = some o → Foot L2 k b → C.O b ∧ ¬ I b ∧ b < w.heap.size ∧ ∀ j o', find s.heap j = some o' → ¬ Foot L j b) →
    (∀ k k' o o' b, find h k = some o → find h k' = some o' → Foot L2 k b → Foot L2 k' b → k = k') →
    ∃ s' L', K s' ∧ Inv C L' I s' a w ∧ (∀ k o, find h k = some o → find s'.heap (d + k) = some o ∧ L'.blk (d + k) = L2.blk k ∧ L'.cap (d + k) = L2.cap k) ∧
      (∀ j o, (∀ k o, find h k = some o → j ≠ d + k) → (∀ cs, o ≠ .box cs) → find s.heap j = some o → find s'.heap j = some o ∧ L'.blk j = L.blk j ∧ L'.cap j = L.cap j)
  | [], s, K, L, hK, hi, _, _, _ => ⟨s, L, hK, hi, fun k o h => by simp [find] at h, fun j o _ _ h => ⟨h, rfl, rfl⟩⟩
  | (k, o0) :: h, s, K, L, hK, hi, hrep, hown, hinj => by
    obtain ⟨hf, hK, hnb⟩ := newsK_cons hK
    have hhead : find ((k, o0) :: h) k = some o0 := by simp [find]
    have htail : ∀ {k' o}, find h k' = some o → k' ≠ k ∧ find ((k, o0) :: h) k' = some o := fun {k' o} h' => by
      have hne : k' ≠ k := fun e => by rw [e, hf] at h'; cases h'
      refine ⟨hne, ?_⟩
      have : Nat.beq k k' = false := beq_false.2 (Ne.symm hne)
      simp only [find, this]; exact h'
    obtain ⟨s1, hK1, hi1, g1, _, g2⟩ := newK_invD (w' := w) hK hi (fun _ _ => rfl) (Nat.le_refl _) rfl rfl rfl (L2.blk k) (L2.cap k) (L2.fp k) (L2.hd k) (fun b hb => by
      obtain ⟨q1, q2, q3, q4⟩ := hown k _ b hhead hb
      exact ⟨q1, q2, q3, fun j o' _ h => q4 j o' h⟩) (fun H' _ _ => by
      have := hrep k o0 hhead
      cases o0 with
      | box cs => exact absurd rfl (hnb cs)
      | arr sz rows =>
        simp only [RepO, Lay.updD, if_true] at this ⊢
        exact this
      | deep a sz rows =>
        simp only [RepO, Lay.updD, if_true] at this ⊢
        exact this)
    have hfoot : ∀ {j b}, j ≠ d + k → Foot (L.updD (d + k) (L2.blk k) (L2.cap k) (L2.fp k) (L2.hd k)) j b → Foot L j b := fun {j b} e hf => by
      obtain ⟨e1, _, e3, _⟩ := L.updD_same (nb := L2.blk k) (cap := L2.cap k) (fp := L2.fp k) (hd := L2.hd k) e
      rcases hf with hf | hf
      · exact .inl (e1 ▸ hf)
      · exact .inr (e3 ▸ hf)
    obtain ⟨s', L', q1, q2, q3, q4⟩ := newsK_inv (L2 := L2) (H2 := H2) hK1 hi1 (fun k' o' h' => hrep k' o' (htail h').2) (fun k' o b h' hb => by
        obtain ⟨e1, e2⟩ := htail h'
        obtain ⟨p1, p2, p3, p4⟩ := hown k' o b e2 hb
        refine ⟨p1, p2, p3, fun j o' hj hbj => ?_⟩
        by_cases e : j = d + k
        · subst e
          have hbj : Foot L2 k b := by simpa [Foot, Lay.updD] using hbj
          exact e1 (hinj k' k _ _ b e2 hhead hb hbj)
        · rw [g2 j e] at hj
          cases hj' : find s.heap j with
          | none => simp [hj'] at hj
          | some o3 => exact p4 j o3 hj' (hfoot e hbj)) (fun k1 k2 o1 o2 b h1 h2 => hinj k1 k2 o1 o2 b (htail h1).2 (htail h2).2)
    refine ⟨s', L', q1, q2, fun k' o' h' => ?_, fun j o' hne hno h' => ?_⟩
    · by_cases e : k' = k
      · subst e
        rw [hhead] at h'
        cases h'
        obtain ⟨e1, e2, e3⟩ := q4 (d + k') o0 (fun k2 o2 h2 e => (htail h2).1 (by omega)) hnb g1
        exact ⟨e1, by rw [e2]; simp [Lay.updD], by rw [e3]; simp [Lay.updD]⟩
      · have : Nat.beq k k' = false := beq_false.2 (Ne.symm e)
        simp only [find, this] at h'
        exact q3 k' o' h'
    · have hjk : j ≠ d + k := hne k _ hhead
      have hmap : (some o').map (Ob.map (XV.kill (d + k))) = some o' := by
        cases o' with
        | box cs => exact absurd rfl (hno cs)
        | arr sz rows => rfl
        | deep a sz rows => rfl
      obtain ⟨e1, e2, e3⟩ := q4 j o' (fun k2 o2 h2 => hne k2 o2 (htail h2).2) hno (by rw [g2 j hjk, h']; exact hmap)
      exact ⟨e1, by rw [e2]; simp [Lay.updD, hjk], by rw [e3]; simp [Lay.updD, hjk]⟩

theorem RepX.shift {L L2 : Lay} {H H2 : Heap} {I I2 : Nat → Prop} {w : World} {d : Nat} (hI : ∀ b, I2 b → I b) (harr : ∀ k o, find H2 k = some o → ∀ cs, o ≠ .box cs) (h : ∀ k o, find H2 k = some o → find H (d + k) = some o ∧ L.blk (d + k) = L2.blk k ∧ L.cap (d + k) = L2.cap k)
    {v : Value} {x : XV} (hx : RepX L2 H2 I2 w v x) : RepX L H I w v (shiftX d x) := by
  cases x with
  | c y => exact RepC.mono hI (fun _ _ => rfl) hx
  | nil _ => exact hx
  | undef => exact hx
  | dead => trivial
  | dp _ _ _ _ => trivial
  | dn _ _ _ => trivial
  | fb _ _ _ _ _ => trivial
  | rs k =>
    obtain ⟨sz, rows, g1, g2⟩ := hx
    obtain ⟨e1, e2, e3⟩ := h k _ g1
    exact ⟨sz, rows, e1, by rw [e2, e3]; exact g2⟩
  | ds k =>
    obtain ⟨a, sz, rows, g1, g2⟩ := hx
    obtain ⟨e1, e2, e3⟩ := h k _ g1
    exact ⟨a, sz, rows, e1, by rw [e2, e3]; exact g2⟩
  | ru k o l =>
    obtain ⟨sz, rows, g1, g3, g2⟩ := hx
    obtain ⟨e1, e2, e3⟩ := h k _ g1
    exact ⟨sz, rows, e1, g3, by rw [e2, e3]; exact g2⟩
  | pb k o l =>
    obtain ⟨cs, b, g1, _⟩ := hx
    exact absurd rfl (harr k _ g1 cs)
  | pe k r o l =>
    obtain ⟨sz, rows, b, g1, g2, g3⟩ := hx
    obtain ⟨e1, e2, e3⟩ := h k _ g1
    exact ⟨sz, rows, b, e1, by rw [e2]; exact g2, g3⟩

theorem newsK_arr {d : Nat} : ∀ {h : Heap} {s : St} {K : St → Prop}, newsK d h s K → ∀ k o, find h k = some o → ∀ cs, o ≠ .box cs
  | [], _, _, _, k, o, h => by simp [find] at h
  | (k, o0) :: h, s, K, hK, k', o, hf => by
    obtain ⟨hf2, hK, hnb⟩ := newsK_cons hK
    obtain ⟨s1, h1⟩ := newK_fnD hK
    simp only [find] at hf
    split at hf
    · cases hf; exact hnb
    · exact newsK_arr ((h1 _).1 hK) k' o hf

theorem callR_goes {tt : TT} {o : Oper} {c : Call} {f : Operand} {g : Nat} {caps : List CV} {vs : List PV} (hi : Inv C L I s a w) (ho : o.op = .call c) (hc : c.callee = .value f) {K : PV → St → Prop} (hpf : RepP L s.heap I w (a.eval f) (.one (.c (.fn g caps))))
    (h : callR P tt s g caps c.args.toList c.argTypes.toList o.dst vs K) : ∃ pv s', K pv s' ∧ GoesM P C s' a w o pv := by
  unfold callR at h
  obtain ⟨s', I', h, hi', hII⟩ := frzKeys_inv h hi
  obtain ⟨vs', h, hvl', hvr'⟩ := argsK_sound hi' h
  split at h
  · rename_i comps hcomps
    obtain ⟨r, hs, h⟩ := h
    have hpf : RepC I w (a.eval f) (.fn g caps) := hpf
    generalize hv : a.eval f = vf at hpf
    cases hpf with
    | fn _ cv _ hcl hcr =>
      have hrun := exec_call (P := P) (w := w) ho hc hv hs.1
      obtain ⟨g1, g2⟩ := pureB_get hcomps
      have hsz0 : (c.args.map a.eval).size = comps.length := by rw [← g1, hvl', Array.size_map, Array.length_toList]
      obtain ⟨q1, q2⟩ := args_caps (I1 := I') hsz0 (fun i cc v h1 h2 => by
        have hil : i < vs'.length := by rw [g1]; exact (List.getElem?_eq_some_iff.1 h1).1
        obtain ⟨c', e1, e2⟩ := g2 i vs'[i] (List.getElem?_eq_getElem hil)
        rw [h1] at e1; cases e1
        have hia : i < c.args.toList.length := by omega
        have hr := hvr' i vs'[i] c.args.toList[i] (List.getElem?_eq_getElem hil) (List.getElem?_eq_getElem hia)
        have : v = a.eval c.args.toList[i] := by
          have hia' : i < c.args.size := by simpa using hia
          rw [Array.getElem?_map] at h2
          simp [hia'] at h2
          simp [h2]
        rw [this]
        exact comp_of_pure hr e2) hcl (fun i c v h1 h2 => (hcr i c v h1 h2).mono hII (fun _ _ => rfl))
      have hnoth : ∀ (I2 : Nat → Prop), (∀ b, b < w.heap.size → I2 b → I' b) → ∀ b, I2 b → (I' b ∨ (w.heap.size ≤ b ∧ I2 b)) := fun I2 h b hb => by
        by_cases hlt : b < w.heap.size
        · exact Or.inl (h b hlt hb)
        · exact Or.inr ⟨by omega, hb⟩
      have hgrow : ∀ {w' : World} {I2 : Nat → Prop}, Below w.heap.size w w' → (∀ b, I2 b → b < w'.heap.size) → Inv C L (fun b => I' b ∨ (w.heap.size ≤ b ∧ I2 b)) s' a w' := fun {w' I2} hb h2 =>
        hi'.growI hb (fun b h => Or.inl h) (fun b hlt h => h.elim id fun h => absurd h.1 (by omega)) fun b h => h.elim (fun h => Nat.lt_of_lt_of_le (hi'.Ib b h) hb.size) fun h => h2 b h.2
      split at h
      · rename_i hsc hnil
        simp only [forceP_eq] at h
        refine ⟨r.1, s, h, fun next Q hQ hn => Or.inl ?_⟩
        refine wp_call hs hrun hi'.Ib q1 q2 hQ fun v w' ⟨hb, L2, I2, h1, h2, h3, h4⟩ => ?_
        exact hn v w' I L (hi.growI hb (fun b h => h) (fun b _ h => h) fun b h => Nat.lt_of_lt_of_le (hi.Ib b h) hb.size) (RepP.scalar_any hsc h3)
      · rename_i hnil _
        simp only [forceP_eq] at h
        refine ⟨r.1, s', h, fun next Q hQ hn => Or.inl ?_⟩
        refine wp_call hs hrun hi'.Ib q1 q2 hQ fun v w' ⟨hb, L2, I2, h1, h2, h3, h4⟩ => ?_
        refine hn v w' _ L (hgrow hb h2) (RepP.mono (fun v x hx => ?_) h3)
        rw [hnil] at hx
        have := RepX.ext (L' := L) (H' := s'.heap) (I' := fun b => I' b ∨ (w.heap.size ≤ b ∧ I2 b)) (w' := w') (q := fun _ => False) (fun j o hq => hq.elim) (hnoth I2 h1) (fun _ _ => rfl) (fun k hk => by obtain ⟨o, ho⟩ := find_key hk hx; simp [find] at ho) hx
        exact this
      · rename_i hh d hnn1 hnn2
        split at h
        · rename_i how
          have hoh : ownH r.2 = true ∧ ownP r.1 = true := by
            simp only [ownRes] at how
            split at how
            · exact ⟨by assumption, how⟩
            · cases how
          obtain ⟨s'', hfn⟩ := newsK_fn h
          have hK := (hfn _).1 h
          simp only [forceP_eq] at hK
          refine ⟨_, s'', hK, fun next Q hQ hn => Or.inl ?_⟩
          refine wp_call hs hrun hi'.Ib q1 q2 hQ fun v w' ⟨hb, L2, I2, h1, h2, h3, h4⟩ => ?_
          have hi2 := hi.growI hb (fun b h => h) (fun b _ h => h) fun b h => Nat.lt_of_lt_of_le (hi.Ib b h) hb.size
          obtain ⟨s3, L3, e0, e1, e2, e3⟩ := newsK_inv (L2 := L2) (H2 := r.2) (K := fun x => x = s'') ((hfn _).2 rfl) hi2 (fun k o hf => by
            obtain ⟨a, sz, rows, rfl⟩ := ownH_iff hoh.1 k o hf
            exact h4.ob k _ hf) (fun k o b hf hbk => by
            obtain ⟨p1, p2, p3⟩ := h4.own k o b hf hbk
            refine ⟨C.hO b (Nat.le_trans hi.fr.size p1), fun hn => ?_, p3, fun j o' hj hbj => ?_⟩
            · have := hi.Ib b hn; omega
            · have := (hi.heap.own j o' b hj hbj).2.2
              omega) (fun k k' o o' b x1 x2 x3 x4 => h4.inj k k' o o' b x1 x2 x3 x4)
          subst e0
          exact hn v w' _ L3 e1 (RepP.map' (fun v x hx => RepX.shift (fun b h => h) (newsK_arr h) e2 hx) (RepP.own hoh.2 h3))
        · split at h
          · rename_i rows hru
            obtain ⟨hscl, h⟩ := h
            obtain ⟨s'', hfn⟩ := newsK_fn h
            have hK := (hfn _).1 h
            simp only [forceP_eq] at hK
            refine ⟨_, s'', hK, fun next Q hQ hn => Or.inl ?_⟩
            refine wp_call hs hrun hi'.Ib q1 q2 hQ fun v w' ⟨hb, L2, I2, h1, h2, h3, h4⟩ => ?_
            have hi2 := hi.growI hb (fun b h => h) (fun b _ h => h) fun b h => Nat.lt_of_lt_of_le (hi.Ib b h) hb.size
            obtain ⟨s3, L3, e0, e1, e2, e3⟩ := newsK_inv (L2 := L2) (H2 := r.2) (K := fun x => x = s'') ((hfn _).2 rfl) hi2 (fun k o hf => by
              have := h4.ob k _ hf
              obtain ⟨sz, rfl⟩ := (ruRes_iff (L := L2) (I := I) (I' := I) (w := w) hru).1 k o hf
              simp only [RepO] at this ⊢
              cases hbk : L2.blk k with
              | none => simpa [hbk] using this
              | some b =>
                simp only [hbk] at this ⊢
                obtain ⟨a1, a2, vs0, e, fr, a3, a4, a5, a6⟩ := this
                exact ⟨a1, a2, vs0, e, fr, a3, a4, a5, fun i r j c b1 b2 => by
                  obtain ⟨v0, b3, b4⟩ := a6 i r j c b1 b2
                  exact ⟨v0, b3, RepC.scalar_any (hscl r (List.mem_of_getElem? b1) c (List.mem_of_getElem? b2)) b4⟩⟩) (fun k o b hf hbk => by
              obtain ⟨p1, p2, p3⟩ := h4.own k o b hf hbk
              refine ⟨C.hO b (Nat.le_trans hi.fr.size p1), fun hn => ?_, p3, fun j o' hj hbj => ?_⟩
              · have := hi.Ib b hn; omega
              · have := (hi.heap.own j o' b hj hbj).2.2
                omega) (fun k k' o o' b x1 x2 x3 x4 => h4.inj k k' o o' b x1 x2 x3 x4)
            subst e0
            exact hn v w' _ L3 e1 (RepP.map' (fun v x hx => RepX.shift (fun b h => h) (newsK_arr h) e2 hx) ((ruRes_iff hru).2 v h3))
          · obtain ⟨s'', hfn⟩ := newsK_fn h
            have hK := (hfn _).1 h
            simp only [forceP_eq] at hK
            refine ⟨_, s'', hK, fun next Q hQ hn => Or.inl ?_⟩
            refine wp_call hs hrun hi'.Ib q1 q2 hQ fun v w' ⟨hb, L2, I2, h1, h2, h3, h4⟩ => ?_
            have hi2 := hgrow hb h2
            have hnI : ∀ k o b, find r.2 k = some o → Foot L2 k b → ¬ (I' b ∨ (w.heap.size ≤ b ∧ I2 b)) := fun k o b hf hbk hn => by
              obtain ⟨p1, p2, p3⟩ := h4.own k o b hf hbk
              rcases hn with hn | ⟨_, hn⟩
              · have := hi'.Ib b hn; omega
              · exact p2 hn
            obtain ⟨s3, L3, e0, e1, e2, e3⟩ := newsK_inv (L2 := L2) (H2 := r.2) (K := fun x => x = s'') ((hfn _).2 rfl) hi2 (fun k o hf => by
              have := h4.ob k _ hf
              cases o with
              | box cs => exact absurd rfl (newsK_arr h k _ hf cs)
              | deep a sz rows => exact this
              | arr sz rows =>
                simp only [RepO] at this ⊢
                cases hbk : L2.blk k with
                | none => simpa [hbk] using this
                | some b =>
                  simp only [hbk] at this ⊢
                  obtain ⟨a1, a2, vs0, e, fr, a3, a4, a5, a6⟩ := this
                  exact ⟨a1, a2, vs0, e, fr, a3, a4, a5, fun i r j c b1 b2 => by
                    obtain ⟨v0, b3, b4⟩ := a6 i r j c b1 b2
                    exact ⟨v0, b3, b4.mono (hnoth I2 h1) (fun _ _ => rfl)⟩⟩) (fun k o b hf hbk => by
              obtain ⟨p1, p2, p3⟩ := h4.own k o b hf hbk
              refine ⟨C.hO b (Nat.le_trans hi.fr.size p1), hnI k o b hf hbk, p3, fun j o' hj hbj => ?_⟩
              have := (hi'.heap.own j o' b hj hbj).2.2
              omega) (fun k k' o o' b x1 x2 x3 x4 => h4.inj k k' o o' b x1 x2 x3 x4)
            subst e0
            exact hn v w' _ L3 e1 (RepP.map' (fun v x hx => RepX.shift (hnoth I2 h1) (newsK_arr h) e2 hx) h3)
      · refine ⟨_, s', h, fun next Q hQ hn => Or.inl ?_⟩
        refine wp_call hs hrun hi'.Ib q1 q2 hQ fun v w' ⟨hb, L2, I2, h1, h2, h3, h4⟩ => ?_
        exact hn v w' _ L (hgrow hb h2) trivial
  · exact h.elim

end

end Go.Proofs.Ytjolahiflldepab.Pi
