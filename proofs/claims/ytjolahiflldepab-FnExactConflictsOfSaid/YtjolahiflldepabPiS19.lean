/- Code, and calls of functions with a body: sound. No statement of the seat is proved here. -/
import Derived.Test.YtjolahiflldepabPiY
namespace Go.Proofs.Ytjolahiflldepab.Pi
open Go Go.RowKit
set_option linter.unusedVariables false
set_option linter.unusedSimpArgs false

theorem find_keepH (ks : List Nat) : ∀ (h : Heap) (k : Nat), find (keepH ks h) k = if ks.contains k then find h k else none
  | [], k => by simp [keepH, find]
  | (a, o) :: h, k => by
    simp only [keepH]
    cases hc : ks.contains a with
    | true =>
      simp only [find]
      cases hb : Nat.beq a k with
      | true =>
        have e := beq_iff.1 hb
        subst e
        simp only [hc, if_true]
      | false => simpa using find_keepH ks h k
    | false =>
      simp only
      rw [find_keepH ks h k]
      simp only [find]
      cases hb : Nat.beq a k with
      | true =>
        have e := beq_iff.1 hb
        subst e
        simp only [hc, Bool.false_eq_true, if_false]
      | false => rfl

theorem cleanK_fn (live : List Nat) (s : St) : ∃ s', ∀ K : St → Prop, cleanK live s K ↔ K s' := by
  obtain ⟨r, h⟩ := s
  unfold cleanK
  simp only [forceR_eq, force_eq, forceNs_eq]
  exact ⟨_, fun K => Iff.rfl⟩

theorem cleanR_get (live : List Nat) : ∀ (r : List PV) (i t : Nat) (pv : PV), (cleanR live i r)[t]? = some pv → r[t]? = some pv ∨ (pv = .one .dead ∧ t < r.length)
  | [], i, t, pv, h => by simp [cleanR] at h
  | v :: r, i, t, pv, h => by
    simp only [cleanR] at h
    cases t with
    | zero =>
      simp only [List.getElem?_cons_zero, Option.some.injEq] at h ⊢
      split at h
      · exact Or.inl h
      · exact Or.inr ⟨h.symm, by simp⟩
    | succ t =>
      simp only [List.getElem?_cons_succ] at h ⊢
      rcases cleanR_get live r (i + 1) t pv h with h | ⟨h1, h2⟩
      · exact Or.inl h
      · exact Or.inr ⟨h1, by simpa using h2⟩
theorem cleanR_length (live : List Nat) : ∀ (r : List PV) (i : Nat), (cleanR live i r).length = r.length
  | [], i => rfl
  | v :: r, i => by simp [cleanR, cleanR_length live r]

theorem keepX_none {ks : List Nat} {x : XV} (h : x.key? = none) : keepX ks x = x := by unfold keepX; rw [h]
theorem keepX_in {ks : List Nat} {x : XV} {k : Nat} (h : x.key? = some k) (h2 : ks.contains k = true) : keepX ks x = x := by unfold keepX; rw [h]; simp only [h2]
theorem keepX_out {ks : List Nat} {x : XV} {k : Nat} (h : x.key? = some k) (h2 : ks.contains k = false) : keepX ks x = .dead := by unfold keepX; rw [h]; simp only [h2]

section
variable {P : Program} {C : Ctx} {L : Lay} {I : Nat → Prop} {s : St} {a : Act} {w : World}

theorem cleanK_inv {live : List Nat} {K : St → Prop} (h : cleanK live s K) (hi : Inv C L I s a w) : ∃ s', K s' ∧ Inv C L I s' a w := by
  obtain ⟨r, H⟩ := s
  unfold cleanK at h
  simp only [forceR_eq, force_eq, forceNs_eq] at h
  refine ⟨_, h, ?_⟩
  have hi1 : Inv C L I ⟨cleanR live 0 r, H⟩ a w := ⟨by simpa [cleanR_length] using hi.len, fun t pv v h1 h2 => by
    rcases cleanR_get live r 0 t pv h1 with h1 | ⟨h1, _⟩
    · exact hi.regs t pv v h1 h2
    · subst h1; trivial, hi.heap, hi.Ib, hi.Io, hi.fr, hi.defers, hi.pin⟩
  generalize heapKeys H (heapKeys H (keysPs (cleanR live 0 r))) = ks
  have hfind : ∀ k, find ((keepH ks H).mapX (keepX ks)) k = if ks.contains k then (find H k).map (Ob.map (keepX ks)) else none := fun k => by
    rw [find_mapX, find_keepH]; split <;> rfl
  have hf : ∀ v x, RepX L H I w v x → RepX L ((keepH ks H).mapX (keepX ks)) I w v (keepX ks x) := fun v x hx => by
    cases hk : x.key? with
    | none => rw [keepX_none hk]; exact RepX.ext (q := fun _ => False) (fun j o hq => hq.elim) (fun _ h => h) (fun _ _ => rfl) (fun k h' => by rw [hk] at h'; cases h') hx
    | some k =>
      cases hc : ks.contains k with
      | false => rw [keepX_out hk hc]; trivial
      | true =>
        rw [keepX_in hk hc]
        refine RepX.ext (q := fun j => ks.contains j = true) (fun j o hq hj => ⟨⟨o.map (keepX ks), by rw [hfind, if_pos hq, hj]; rfl, shape_map _ _⟩, rfl, rfl, rfl⟩) (fun _ h => h) (fun _ _ => rfl) (fun k' h' => by rw [hk] at h'; cases h'; exact hc) hx
  have hold : ∀ k o, find ((keepH ks H).mapX (keepX ks)) k = some o → ∃ o', find H k = some o' ∧ o = o'.map (keepX ks) := fun k o h => by
    rw [hfind] at h
    split at h
    · cases h2 : find H k with
      | none => simp [h2] at h
      | some o' => simp only [h2, Option.map_some, Option.some.injEq] at h; exact ⟨o', rfl, h.symm⟩
    · cases h
  refine hi1.change (f := keepX ks) hf rfl ⟨fun k o h => ?_, fun k o b h hb => ?_, fun k k' o o' b h h' hb hb' => ?_⟩ hi.Ib hi.Io hi.fr (fun k o _ h => by
    obtain ⟨o', h1, _⟩ := hold k o h
    exact ⟨o', h1, rfl, rfl⟩)
  · obtain ⟨o', h1, rfl⟩ := hold k o h
    exact (hi.heap.ob k o' h1).ext hf (fun _ h => h) (fun _ _ => rfl) .rfl (fun _ _ => rfl)
  · obtain ⟨o', h1, rfl⟩ := hold k o h
    exact hi.heap.own k o' b h1 hb
  · obtain ⟨o1, h1, _⟩ := hold k o h
    obtain ⟨o2, h2, _⟩ := hold k' o' h'
    exact hi.heap.inj k k' o1 o2 b h1 h2 hb hb'

theorem deepK_inv {k : Nat} {K : St → Prop} (h : deepK k s K) (hi : Inv C L I s a w) : ∃ s' L', K s' ∧ Inv C L' I s' a w := by
  unfold deepK at h
  split at h
  · rename_i sz rows hf
    obtain ⟨hfl, h⟩ := h
    rw [force_eq] at h
    have ho := hi.heap.ob k _ hf
    obtain ⟨hd, hdeep⟩ : ∃ hd : Nat → Value, match L.blk k with | none => rows = [] | some b => DRows w (fun _ => False) hd b (L.cap k) sz rows := by
      simp only [RepO] at ho
      cases hbk : L.blk k with
      | none => simp only [hbk] at ho; exact ⟨fun _ => undef, ho⟩
      | some b =>
        simp only [hbk] at ho
        obtain ⟨h0, hl, vs, e, fr, h3, h4, h5, h6⟩ := ho
        refine ⟨fun q => vs.getD q undef, h0, hl, vs, e, fr, fun _ _ => False, h3, h4, h5, fun i r j c q1 q2 => ?_, fun _ _ h => h.elim, fun _ _ _ h => h.elim⟩
        obtain ⟨v, p1, p2⟩ := h6 i r j c q1 q2
        exact ⟨v, p1, RepD.of_flat (hfl r (List.mem_of_getElem? q1) c (List.mem_of_getElem? q2)) p2, fun _ => by simp [p1]⟩
    let L' : Lay := L.updD k (L.blk k) (L.cap k) (fun _ => False) hd
    have hL' : L'.blk k = L.blk k ∧ L'.cap k = L.cap k ∧ L'.fp k = (fun _ => False) ∧ L'.hd k = hd := ⟨by simp [L', Lay.updD], by simp [L', Lay.updD], by simp [L', Lay.updD], by simp [L', Lay.updD]⟩
    have hfind : ∀ j, find ((setOb s.heap k (.deep true sz rows)).mapX (deepX k)) j = if j = k then some (.deep true sz rows) else (find s.heap j).map (Ob.map (deepX k)) := fun j => by
      rw [find_mapX, find_setOb]
      by_cases e : j = k
      · simp [e, hf, Ob.map]
      · simp [e]
    have hfoot : ∀ {j b}, Foot L' j b → Foot L j b := fun {j b} h => by
      by_cases e : j = k
      · subst e
        rcases h with h | h
        · exact .inl (hL'.1 ▸ h)
        · rw [hL'.2.2.1] at h; exact h.elim
      · obtain ⟨e1, _, e3, _⟩ := L.updD_same (nb := L.blk k) (cap := L.cap k) (fp := fun _ => False) (hd := hd) e
        rcases h with h | h
        · exact .inl (e1 ▸ h)
        · exact .inr (e3 ▸ h)
    have hrx : ∀ v x, RepX L s.heap I w v x → RepX L' ((setOb s.heap k (.deep true sz rows)).mapX (deepX k)) I w v (deepX k x) := fun v x hx => by
      by_cases hk : x.key? = some k
      · cases x <;> simp only [XV.key?, Option.some.injEq, reduceCtorEq] at hk <;> subst hk
        · obtain ⟨_, _, g1, g2⟩ := hx
          rw [hf] at g1; cases g1
          simp only [deepX, (beq_iff (a := _) (b := _)).2 rfl]
          refine ⟨true, sz, rows, by rw [hfind, if_pos rfl], ?_⟩
          rw [hL'.1, hL'.2.1]
          rename_i k
          cases hbk : L.blk k with
          | none => simp only [hbk] at g2; exact ⟨Or.inl g2, fun _ => g2⟩
          | some b => simp only [hbk] at g2; exact g2
        · simp only [deepX, (beq_iff (a := _) (b := _)).2 rfl]; trivial
        · obtain ⟨_, _, g1, _⟩ := hx; rw [hf] at g1; cases g1
        · obtain ⟨_, _, b, g1, g2, g3⟩ := hx
          rw [hf] at g1; cases g1
          simp only [deepX, (beq_iff (a := _) (b := _)).2 rfl]
          exact ⟨true, sz, rows, b, by rw [hfind, if_pos rfl], by rw [hL'.1]; exact g2, g3⟩
        · obtain ⟨_, _, _, g1, _⟩ := hx; rw [hf] at g1; cases g1
        · obtain ⟨_, _, _, _, g1, _⟩ := hx; rw [hf] at g1; cases g1
        · obtain ⟨_, _, _, g1, _⟩ := hx; rw [hf] at g1; cases g1
        · obtain ⟨_, _, _, _, g1, _⟩ := hx; rw [hf] at g1; cases g1
      · have e : deepX k x = x := by
          cases x <;> simp only [deepX] <;> (split <;> rename_i hb' <;> first | rfl | exact absurd (by simp [XV.key?, beq_iff.1 hb']) hk)
        rw [e]
        exact RepX.ext (q := fun j => j ≠ k) (fun j o hq hj => ⟨⟨o.map (deepX k), by rw [hfind, if_neg hq, hj]; rfl, shape_map _ _⟩, (L.updD_same hq).1, (L.updD_same hq).2.1, (L.updD_same hq).2.2.2⟩) (fun _ h => h) (fun _ _ => rfl) (fun j hj e => hk (e ▸ hj)) hx
    have hback : ∀ j o, find ((setOb s.heap k (.deep true sz rows)).mapX (deepX k)) j = some o → ∃ o', find s.heap j = some o' := fun j o h => by
      rw [hfind] at h
      by_cases e : j = k
      · exact ⟨_, e ▸ hf⟩
      · rw [if_neg e] at h
        cases h2 : find s.heap j with
        | none => simp [h2] at h
        | some o' => exact ⟨o', rfl⟩
    refine ⟨_, L', h, hi.change (f := deepX k) hrx rfl ⟨fun j o hj => ?_, fun j o b hj hb => ?_, fun j j' o o' b hj hj' hb hb' => ?_⟩ hi.Ib hi.Io hi.fr (fun j o _ hj => ?_)⟩
    · simp only at hj
      by_cases e : j = k
      · subst e
        rw [hfind, if_pos rfl] at hj; cases hj
        simp only [RepO]
        rw [hL'.1, hL'.2.1, hL'.2.2.1, hL'.2.2.2]
        cases hbk : L.blk j with
        | none => simpa only [hbk] using hdeep
        | some b => simp only [hbk] at hdeep; exact ⟨hdeep, fun h => h⟩
      · rw [hfind, if_neg e] at hj
        cases h2 : find s.heap j with
        | none => simp [h2] at hj
        | some o' =>
          simp only [h2, Option.map_some, Option.some.injEq] at hj
          subst hj
          exact (hi.heap.ob j o' h2).ext hrx (fun _ h => h) (fun _ _ => rfl) (L.updD_same e) (fun _ _ => rfl)
    · obtain ⟨o', ho'⟩ := hback j o hj
      exact hi.heap.own j o' b ho' (hfoot hb)
    · obtain ⟨o1, ho1⟩ := hback j o hj
      obtain ⟨o2, ho2⟩ := hback j' o' hj'
      exact hi.heap.inj j j' o1 o2 b ho1 ho2 (hfoot hb) (hfoot hb')
    · obtain ⟨o1, ho1⟩ := hback j o hj
      refine ⟨o1, ho1, ?_⟩
      by_cases e : j = k
      · subst e; exact ⟨hL'.1, hL'.2.1⟩
      · exact ⟨(L.updD_same e).1, (L.updD_same e).2.1⟩
  · exact ⟨s, L, h, hi⟩
  · exact h.elim

theorem deepKeys_inv : ∀ {ks : List Nat} {s : St} {L : Lay} {K : St → Prop}, deepKeys ks s K → Inv C L I s a w → ∃ s' L', K s' ∧ Inv C L' I s' a w
  | [], s, L, K, h, hi => ⟨s, L, h, hi⟩
  | k :: ks, s, L, K, h, hi => by
    obtain ⟨s1, L1, h, hi1⟩ := deepK_inv h hi
    exact deepKeys_inv h hi1

/-- A box's cell is told of in another way. -/
theorem Inv.swapCell {k o : Nat} {cs : List XV} {x y : XV} (hi : Inv C L I s a w) (hfd : find s.heap k = some (.box cs)) (hx : cs[o]? = some x) (hxy : ∀ v, RepX L s.heap I w v x → RepX L (setOb s.heap k (.box (cs.set o y))) I w v y) : Inv C L I ⟨s.regs, setOb s.heap k (.box (cs.set o y))⟩ a w := by
  have hfind := find_setOb k (.box (cs.set o y)) s.heap
  have hf : ∀ v x, RepX L s.heap I w v x → RepX L (setOb s.heap k (.box (cs.set o y))) I w v x := fun v x h => RepX.ext (q := fun _ => True) (fun j o' _ hj => by
    by_cases e : j = k
    · subst e
      rw [hfd] at hj; cases hj
      exact ⟨⟨_, by rw [hfind, if_pos rfl, hfd]; rfl, by simp [Ob.shape]⟩, rfl, rfl, rfl⟩
    · exact ⟨⟨o', by rw [hfind, if_neg e]; exact hj, rfl⟩, rfl, rfl, rfl⟩) (fun _ h => h) (fun _ _ => rfl) (fun _ _ => trivial) h
  have hback : ∀ {j o'}, find (setOb s.heap k (.box (cs.set o y))) j = some o' → ∃ o2, find s.heap j = some o2 := fun {j o'} hj => by
    rw [hfind] at hj
    by_cases e : j = k
    · exact ⟨_, e ▸ hfd⟩
    · rw [if_neg e] at hj; exact ⟨o', hj⟩
  refine hi.change (f := fun y => y) hf (map_id_regs _).symm ⟨fun j o' hj => ?_, fun j o' b hj hb => ?_, fun j j' o1 o2 b hj hj' hb hb' => ?_⟩ hi.Ib hi.Io hi.fr (fun j o' _ hj => by
    obtain ⟨o2, h2⟩ := hback hj
    exact ⟨o2, h2, rfl, rfl⟩)
  · simp only at hj
    rw [hfind] at hj
    by_cases e : j = k
    · subst e
      rw [if_pos rfl, hfd] at hj
      simp only [Option.map_some, Option.some.injEq] at hj
      subst hj
      obtain ⟨b, vs, e, fr, h1, h2, h3, h5, h6, h7⟩ := hi.heap.ob j _ hfd
      refine ⟨b, vs, e, fr, h1, h2, h3, h5, by simpa using h6, fun i z v hz hv => ?_⟩
      rw [List.getElem?_set] at hz
      by_cases ei : o = i
      · subst ei
        have hl : o < cs.length := (List.getElem?_eq_some_iff.1 hx).1
        rw [if_pos rfl, if_pos hl] at hz
        cases hz
        exact hxy v (h7 o x v hx hv)
      · rw [if_neg ei] at hz
        exact hf v z (h7 i z v hz hv)
    · rw [if_neg e] at hj
      exact (hi.heap.ob j o' hj).ext' hf (fun _ h => h) (fun _ _ => rfl) .rfl (fun _ _ => rfl)
  · obtain ⟨o2, h2⟩ := hback hj
    exact hi.heap.own j o2 b h2 hb
  · obtain ⟨o3, h3⟩ := hback hj
    obtain ⟨o4, h4⟩ := hback hj'
    exact hi.heap.inj j j' o3 o4 b h3 h4 hb hb'

theorem ownNilK_inv {k o q : Nat} {K : St → Prop} (h : ownNilK k o q s K) (hi : Inv C L I s a w) : ∃ s' L', K s' ∧ Inv C L' I s' a w := by
  unfold ownNilK at h
  split at h
  · split at h
    · rename_i sz hsz
      obtain ⟨s1, h, hi1, hq, _, _⟩ := newK_inv (w' := w) h hi (fun _ _ => rfl) (Nat.le_refl _) rfl rfl rfl none 0 (fun b hb => by cases hb) (fun H' _ _ => by simp [RepO, Lay.upd, Lay.updD])
      unfold swapK at h
      split at h
      · rename_i cs hcs
        split at h
        · rename_i sz1 hx
          split at h
          · rename_i sz2 hq2
            split at h
            · rename_i e
              have e := beq_iff.1 e
              subst e
              simp only [forceXs_eq, forceH_eq] at h
              by_cases hkq : k = q
              · subst hkq; rw [hcs] at hq; cases hq
              refine ⟨_, _, h, hi1.swapCell hcs hx fun v hv => ?_⟩
              have hv : v = .slice none 0 0 := hv
              subst hv
              exact ⟨sz1, [], by rw [find_setOb, if_neg (Ne.symm hkq)]; exact hq2, by simp [Lay.upd, Lay.updD]⟩
            · exact h.elim
          · exact h.elim
        · exact h.elim
      · exact h.elim
    · split at h
      · rename_i ho
        obtain ⟨s1, L1, h1, h2, _⟩ := renK_inv h hi ⟨_, ho⟩
        exact ⟨s1, L1, h1, h2⟩
      · exact h.elim
    · split at h
      · rename_i ho
        obtain ⟨s1, L1, h1, h2, _⟩ := renK_inv h hi ⟨_, ho⟩
        exact ⟨s1, L1, h1, h2⟩
      · exact h.elim
    · exact h.elim
  · exact h.elim
theorem ownKeys_inv : ∀ {ks : List Nat} {s : St} {L : Lay} {K : St → Prop}, ownKeys ks s K → Inv C L I s a w → ∃ s' L', K s' ∧ Inv C L' I s' a w
  | [], s, L, K, h, hi => ⟨s, L, h, hi⟩
  | k :: ks, s, L, K, h, hi => by
    obtain ⟨s1, L1, h, hi1⟩ := ownNilK_inv h hi
    exact ownKeys_inv h hi1

/-- What the machine's ending means for the abstract state. -/
def PostE (C : Ctx) (Q : Ex → St → Prop) : Exit → Act → World → Prop
  | .normal, a, w => ∃ s L I, Q .normal s ∧ Inv C L I s a w
  | .exit i, a, w => ∃ s L I, Q (.exit i) s ∧ Inv C L I s a w
  | .ret, a, w => ∃ s L I, Q .ret s ∧ Inv C L I s a w
  | _, _, _ => False

theorem PostE.mono {Q Q' : Ex → St → Prop} (h : ∀ e s, Q e s → Q' e s) : ∀ e a w, PostE C Q e a w → PostE C Q' e a w := fun e a w hq => by
  cases e with
  | normal => obtain ⟨s, L, I, h1, h2⟩ := hq; exact ⟨s, L, I, h _ _ h1, h2⟩
  | exit i => obtain ⟨s, L, I, h1, h2⟩ := hq; exact ⟨s, L, I, h _ _ h1, h2⟩
  | ret => obtain ⟨s, L, I, h1, h2⟩ := hq; exact ⟨s, L, I, h _ _ h1, h2⟩
  | outgrown => exact hq.elim
  | goto l => exact hq
  | panic c => exact hq

theorem loop_sound {tt : TT} {c : Code} (ihc : ∀ {s : St} {Q : Ex → St → Prop} {a : Act} {w : World} {L : Lay} {I : Nat → Prop}, pwp P tt c s Q → Inv C L I s a w → c.wp P (PostE C Q) a w) {live : List Nat} {Q : Ex → St → Prop} {s : St} (h : LoopL (pwp P tt c) live Q s) :
    ∀ {a : Act} {w : World} {L : Lay} {I : Nat → Prop}, Inv C L I s a w → ∀ (b : Frame) (k : List Item) (cs : List Frame), ∃ e a' w', PostE C Q e a' w' ∧ Arrives P (lone (b.at a (.code c :: .inLoop c :: k)) cs w) b k cs e a' w' := by
  induction h with
  | mk s K hB hN hE ih =>
    intro a w L I hi b k cs
    obtain ⟨e, a₁, w₁, hq, harr⟩ := ihc hB hi b (.inLoop c :: k) cs
    cases e with
    | normal =>
      obtain ⟨s1, L1, I1, h1, h2⟩ := hq
      obtain ⟨s2, hs2⟩ := cleanK_fn live s1
      obtain ⟨s3, e3, h3⟩ := cleanK_inv (K := fun x => x = s2) ((hs2 _).2 rfl) h2
      subst e3
      obtain ⟨e₂, a₂, w₂, hq₂, harr₂⟩ := ih s1 s3 h1 (fun R hR => (hs2 R).1 hR) h3 b k cs
      exact ⟨e₂, a₂, w₂, hq₂, .of_steps (Steps.trans harr (.one step_inLoop)) harr₂⟩
    | exit i =>
      obtain ⟨s1, L1, I1, h1, h2⟩ := hq
      exact ⟨.exit i, a₁, w₁, ⟨s1, L1, I1, hE _ _ (by simp) h1, h2⟩, .pass (x := .inLoop c) rfl (fun _ _ => .inl (by simp)) harr⟩
    | ret =>
      obtain ⟨s1, L1, I1, h1, h2⟩ := hq
      exact ⟨.ret, a₁, w₁, ⟨s1, L1, I1, hE _ _ (by simp) h1, h2⟩, .pass (x := .inLoop c) rfl (fun _ _ => .inl (by simp)) harr⟩
    | outgrown => exact hq.elim
    | goto l => exact hq.elim
    | panic ch => exact hq.elim

theorem forceOps_eq : ∀ {σ : List (Nat × Bool × Oper)} {K : List (Nat × Bool × Oper) → Prop}, forceOps σ K = K σ
  | [], _ => rfl
  | (i, q, o) :: r, K => by rw [forceOps]; exact forceOps_eq (σ := r)

theorem pwp_sound {tt : TT} (hT : TOK P tt) (hm : P.follows .mixedOrders = true) : ∀ (c : Code) {s : St} {Q : Ex → St → Prop} {a : Act} {w : World} {L : Lay} {I : Nat → Prop}, pwp P tt c s Q → Inv C L I s a w → c.wp P (PostE C Q) a w
  | .skip, s, Q, a, w, L, I, h, hi => wp_skip ⟨s, L, I, h, hi⟩
  | .region id ops false, s, Q, a, w, L, I, h, hi => by
    have h : regN P tt ops.toList 0 ops.toList s (Q .normal) := h
    refine wp_region ?_
    have := regN_sound (C := C) hT (Q := PostE C Q) trivial (fun s' a' w' L' I' h1 h2 => ⟨s', L', I', h1, h2⟩) (r := ops.toList) (i := 0) (fun j => by simp) h hi
    rw [List.range_eq_range']
    simpa using this
  | .region id ops true, s, Q, a, w, L, I, h, hi => by
    have h : Pick (drawR2 ops) fun n => match Nat.beq n 1000, Nat.ble 2000 n with
      | true, _ => anyM P tt ops (Q .normal) ops.size (Array.replicate ops.size false) s
      | false, false => regQ P tt ops.toList 0 (ops.toList.take n) s fun s => regN P tt ops.toList n (ops.toList.drop n) s (Q .normal)
      | false, true => forceOps (ordG ops (n - 2000)) fun σ => regG P tt (n - 2000) ops.toList σ s (Q .normal) := h
    obtain ⟨n, hd, h⟩ := h
    refine wp_region_any hm ?_
    have hi' : Inv C L I s a { w with drawn := w.drawn + 1 } := hi.grow (w' := { w with drawn := w.drawn + 1 }) (fun _ _ => rfl) (Nat.le_refl _) rfl rfl rfl
    split at h
    · have hany := anyA_of_anyM _ _ _ h
      have := wpAny_of_anyA (C := C) hT (Q := PostE C Q) trivial (fun s' a' w' L' I' h1 h2 => ⟨s', L', I', h1, h2⟩) _ _ _ _ _ _ _ hany hi'
      simpa using this
    case h_3 =>
      rename_i hne hle
      have hle : 2000 ≤ n := Nat.le_of_ble_eq_true hle
      have hd : drawF ops (n - 2000) = true := by
        rcases hd with (hd | hd) | hd
        · rw [Nat.ble_eq_true_of_le hle] at hd; cases hd.2
        · omega
        · exact hd.2
      rw [forceOps_eq] at h
      generalize n - 2000 = n at hd h
      have hany := anyF_draw hd h
      have := wpAny_of_anyF (C := C) hT (Q := PostE C Q) trivial (fun s' a' w' L' I' h1 h2 => ⟨s', L', I', h1, h2⟩) _ _ _ _ _ _ _ hany hi'
      simpa using this
    rename_i hne hle
    have hd : drawB ops n = true := by
      rcases hd with (hd | hd) | hd
      · exact hd.1
      · rw [hd] at hne; cases hne
      · rw [Nat.ble_eq_true_of_le hd.1] at hle; cases hle
    have hlex : lexA P tt ops n (Q .normal) 0 (ops.toList.take n ++ ops.toList.drop n) s := by
      refine regQ_lex (fun j => by simp) (by simp; omega) (fun s' hs' => ?_) h
      rcases Nat.lt_or_ge n ops.size with hlt | hge
      · have e : 0 + (ops.toList.take n).length = n := by simp; omega
        rw [e]
        exact regN_lex (fun j => by simp) (Nat.le_refl _) hs'
      · have e : ops.toList.drop n = [] := List.drop_eq_nil_of_le (by simpa using hge)
        rw [e] at hs' ⊢
        exact hs'
    rw [List.take_append_drop] at hlex
    have hany := anyA_lex hd (r := ops.toList) (k := 0) (listed := Array.replicate ops.size false) (fun j => by simp) (by simp) (by simp) (fun j hj => by simp [hj]) hlex
    have := wpAny_of_anyA (C := C) hT (Q := PostE C Q) trivial (fun s' a' w' L' I' h1 h2 => ⟨s', L', I', h1, h2⟩) _ _ _ _ _ _ _ hany hi'
    simpa using this
  | .seq x y, s, Q, a, w, L, I, h, hi => by
    refine wp_seq (wp_mono (pwp_sound hT hm x h hi) fun e a' w' hq => ?_)
    cases e with
    | normal => obtain ⟨s1, L1, I1, h1, h2⟩ := hq; exact pwp_sound hT hm y h1 h2
    | exit i => exact hq
    | ret => exact hq
    | outgrown => exact hq.elim
    | goto l => exact hq
    | panic c => exact hq
  | .cond c x y, s, Q, a, w, L, I, h, hi => by
    have h : opd s.regs c (tt 0) fun v => match v with
      | .one (.c (.bool t)) => Br t (pwp P tt x s Q) (pwp P tt y s Q)
      | _ => False := h
    obtain ⟨v, h, hv⟩ := opd_sound hi h
    split at h
    · rename_i t
      exact wp_cond_split (rep_bool hv) (fun e => pwp_sound hT hm x (h.t e) hi) (fun e => pwp_sound hT hm y (h.f e) hi)
    · exact h.elim
  | .block id c, s, Q, a, w, L, I, h, hi => by
    refine wp_block (wp_mono (pwp_sound hT hm c h hi) fun e a' w' hq => ?_)
    cases e with
    | normal => exact hq
    | exit i =>
      obtain ⟨s1, L1, I1, h1, h2⟩ := hq
      simp only [Exit.inBlock]
      split
      · rename_i e
        have hb : Nat.beq i id = true := beq_iff.2 e
        simp only [hb] at h1
        exact ⟨s1, L1, I1, h1, h2⟩
      · rename_i e
        have hb : Nat.beq i id = false := beq_false.2 e
        simp only [hb] at h1
        exact ⟨s1, L1, I1, h1, h2⟩
    | ret => exact hq
    | outgrown => exact hq.elim
    | goto l => exact hq
    | panic c => exact hq
  | .loop c, s, Q, a, w, L, I, h, hi => by
    have h : Pick (fun _ : List Nat => True) fun live => frzKeys 20 (toFrz live) s fun s => deepKeys (toDeep live) s fun s => ownKeys (toOwn live) s fun s => cleanK live s fun s' => LoopL (pwp P tt c) live (fun e s => frzKeys 20 (toExit live) s (Q e)) s' := h
    obtain ⟨live, _, h⟩ := h
    obtain ⟨s0, I0, h, hi0, _⟩ := frzKeys_inv h hi
    obtain ⟨s1, L1, h, hi1⟩ := deepKeys_inv h hi0
    obtain ⟨s2, L2, h, hi2⟩ := ownKeys_inv h hi1
    obtain ⟨s', h, hi'⟩ := cleanK_inv h hi2
    intro b k cs
    obtain ⟨e, a', w', hq, harr⟩ := loop_sound (C := C) (fun h hi => pwp_sound hT hm c h hi) h hi' b k cs
    refine ⟨e, a', w', ?_, .of_steps (.one step_loop) harr⟩
    cases e with
    | normal =>
      obtain ⟨s3, L3, I3, h3, h4⟩ := hq
      obtain ⟨s5, I5, h5, h6, _⟩ := frzKeys_inv h3 h4
      exact ⟨s5, L3, I5, h5, h6⟩
    | exit i =>
      obtain ⟨s3, L3, I3, h3, h4⟩ := hq
      obtain ⟨s5, I5, h5, h6, _⟩ := frzKeys_inv h3 h4
      exact ⟨s5, L3, I5, h5, h6⟩
    | ret =>
      obtain ⟨s3, L3, I3, h3, h4⟩ := hq
      obtain ⟨s5, I5, h5, h6, _⟩ := frzKeys_inv h3 h4
      exact ⟨s5, L3, I5, h5, h6⟩
    | outgrown => exact hq.elim
    | goto l => exact hq.elim
    | panic c => exact hq.elim
  | .exit id, s, Q, a, w, L, I, h, hi => wp_exit ⟨s, L, I, h, hi⟩
  | .label l, s, Q, a, w, L, I, h, hi => wp_label ⟨s, L, I, h, hi⟩
  | .ret, s, Q, a, w, L, I, h, hi => wp_ret ⟨s, L, I, h, hi⟩
  | .rangeFunc .., s, Q, a, w, L, I, h, hi => h.elim
  | .scope _, s, Q, a, w, L, I, h, hi => h.elim
  | .goto _, s, Q, a, w, L, I, h, hi => h.elim
  | .refuse _, s, Q, a, w, L, I, h, hi => h.elim

end

end Go.Proofs.Ytjolahiflldepab.Pi
