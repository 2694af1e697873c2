/- Calls that are given own objects, whatever they are. No statement of the seat is proved here. -/
import Derived.Test.YtjolahiflldepabPiD1
namespace Go.Proofs.Ytjolahiflldepab.Pi
open Go Go.RowKit
set_option linter.unusedVariables false
set_option linter.unusedSimpArgs false

theorem memB_iff {k : Nat} : ∀ {js : List Nat}, memB k js = true ↔ k ∈ js
  | [] => by simp [memB]
  | j :: js => by
    simp only [memB]
    cases h : Nat.beq j k with
    | true => simp [beq_iff.1 h]
    | false =>
      have := beq_false.1 h
      simp only [List.mem_cons, memB_iff (js := js)]
      constructor
      · exact fun h => Or.inr h
      · exact fun h => h.resolve_left fun e => this e.symm

theorem nodupB_iff : ∀ {ks : List Nat}, nodupB ks = true → ks.Nodup
  | [], _ => List.nodup_nil
  | k :: ks, h => by
    simp only [nodupB] at h
    cases hm : memB k ks with
    | true => simp [hm] at h
    | false =>
      simp only [hm] at h
      exact List.nodup_cons.2 ⟨fun hk => (by rw [memB_iff.2 hk] at hm; cases hm), nodupB_iff h⟩

theorem rkey_mem : ∀ {ρ : List (Nat × Nat)} {k b : Nat}, rkey ρ k = some b → (k, b) ∈ ρ
  | [], k, b, h => by cases h
  | (x, y) :: ρ, k, b, h => by
    simp only [rkey] at h
    split at h
    · rename_i e; cases h; simp [beq_iff.1 e]
    · exact List.mem_cons_of_mem _ (rkey_mem h)

theorem rkey_of_mem : ∀ {ρ : List (Nat × Nat)} {k b : Nat}, (ρ.map (·.1)).Nodup → (k, b) ∈ ρ → rkey ρ k = some b
  | [], k, b, _, h => by cases h
  | (x, y) :: ρ, k, b, hn, h => by
    obtain ⟨h1, h2⟩ := List.nodup_cons.1 hn
    rcases List.mem_cons.1 h with e | h
    · cases e; simp [rkey]
    · have hne : x ≠ k := fun e => h1 (List.mem_map.2 ⟨(k, b), h, e.symm⟩)
      simp only [rkey, beq_false.2 hne]
      exact rkey_of_mem h2 h

/-- The key that has become 'b'. -/
def rold : List (Nat × Nat) → Nat → Option Nat
  | [], _ => none
  | (a, b) :: ρ, k => match Nat.beq b k with | true => some a | false => rold ρ k
theorem rold_mem : ∀ {ρ : List (Nat × Nat)} {k b : Nat}, rold ρ b = some k → (k, b) ∈ ρ
  | [], k, b, h => by cases h
  | (x, y) :: ρ, k, b, h => by
    simp only [rold] at h
    split at h
    · rename_i e; cases h; simp [beq_iff.1 e]
    · exact List.mem_cons_of_mem _ (rold_mem h)
theorem rold_of_mem : ∀ {ρ : List (Nat × Nat)} {k b : Nat}, (ρ.map (·.2)).Nodup → (k, b) ∈ ρ → rold ρ b = some k
  | [], k, b, _, h => by cases h
  | (x, y) :: ρ, k, b, hn, h => by
    obtain ⟨h1, h2⟩ := List.nodup_cons.1 hn
    rcases List.mem_cons.1 h with e | h
    · cases e; simp [rold]
    · have hne : y ≠ b := fun e => h1 (List.mem_map.2 ⟨(k, b), h, e.symm⟩)
      simp only [rold, beq_false.2 hne]
      exact rold_of_mem h2 h
theorem rho_inj {ρ : List (Nat × Nat)} {k k' b : Nat} (hn : (ρ.map (·.2)).Nodup) (h : (k, b) ∈ ρ) (h' : (k', b) ∈ ρ) : k = k' := by
  have := rold_of_mem hn h
  rw [rold_of_mem hn h'] at this
  exact (Option.some.inj this).symm

theorem renH_get {ρ : List (Nat × Nat)} {h : Heap} : ∀ {r : List (Nat × Nat)} {H2 : Heap}, renH ρ h r = some H2 → (r.map (·.2)).Nodup →
    (∀ k b, (k, b) ∈ r → ∃ o, find h k = some o ∧ find H2 b = some (o.map (renX ρ))) ∧ (∀ b o', find H2 b = some o' → ∃ k o, (k, b) ∈ r ∧ find h k = some o ∧ o' = o.map (renX ρ))
  | [], H2, e, _ => by simp only [renH, Option.some.injEq] at e; subst e; exact ⟨by simp, by simp [find]⟩
  | (x, y) :: r, H2, e, hn => by
    obtain ⟨n1, n2⟩ := List.nodup_cons.1 hn
    simp only [renH] at e
    split at e
    · rename_i o hs h1 h2
      cases e
      obtain ⟨g1, g2⟩ := renH_get h2 n2
      refine ⟨fun k b hk => ?_, fun b o' ho => ?_⟩
      · rcases List.mem_cons.1 hk with e | hk
        · cases e; exact ⟨o, h1, by simp [find]⟩
        · have hne : y ≠ b := fun e => n1 (List.mem_map.2 ⟨(k, b), hk, e.symm⟩)
          obtain ⟨o2, q1, q2⟩ := g1 k b hk
          exact ⟨o2, q1, by simp only [find, beq_false.2 hne]; exact q2⟩
      · simp only [find] at ho
        split at ho
        · rename_i e
          cases ho
          have e := beq_iff.1 e
          subst e
          exact ⟨x, o, by simp, h1, rfl⟩
        · obtain ⟨k, o2, q1, q2, q3⟩ := g2 b o' ho
          exact ⟨k, o2, List.mem_cons_of_mem _ q1, q2, q3⟩
    · cases e

section
variable {P : Program} {C : Ctx} {L : Lay} {I : Nat → Prop} {s : St} {a : Act} {w : World}

theorem RepX.ren {ρ : List (Nat × Nat)} {L2 : Lay} {H H2 : Heap} {I' : Nat → Prop} {f : XV → XV} (hI : ∀ b, I b → I' b) (h : ∀ a b o, rkey ρ a = some b → find H a = some o → find H2 b = some (o.map f) ∧ L2.blk b = L.blk a ∧ L2.cap b = L.cap a)
    {v : Value} {x : XV} (hx : RepX L H I w v x) : RepX L2 H2 I' w v (renX ρ x) := by
  cases x with
  | c y => exact RepC.mono hI (fun _ _ => rfl) hx
  | nil _ => exact hx
  | undef => exact hx
  | dead => trivial
  | dn _ _ _ => trivial
  | rs k =>
    simp only [renX]
    cases e : rkey ρ k with
    | none => trivial
    | some k' =>
      obtain ⟨sz, rows, g1, g2⟩ := hx
      obtain ⟨e1, e2, e3⟩ := h _ _ _ e g1
      exact ⟨sz, rows, e1, by rw [e2, e3]; exact g2⟩
  | ru k o l =>
    simp only [renX]
    cases e : rkey ρ k with
    | none => trivial
    | some k' =>
      obtain ⟨sz, rows, g1, g3, g2⟩ := hx
      obtain ⟨e1, e2, e3⟩ := h _ _ _ e g1
      exact ⟨sz, rows, e1, g3, by rw [e2, e3]; exact g2⟩
  | pb k o l =>
    simp only [renX]
    cases e : rkey ρ k with
    | none => trivial
    | some k' =>
      obtain ⟨cs, b, g1, g2, g3, g4⟩ := hx
      obtain ⟨e1, e2, e3⟩ := h _ _ _ e g1
      exact ⟨cs.map f, b, e1, by rw [e2]; exact g2, by simpa using g3, g4⟩
  | pe k r o l =>
    simp only [renX]
    cases e : rkey ρ k with
    | none => trivial
    | some k' =>
      obtain ⟨sz, rows, b, g1, g2, g3⟩ := hx
      obtain ⟨e1, e2, e3⟩ := h _ _ _ e g1
      exact ⟨sz, rows, b, e1, by rw [e2]; exact g2, g3⟩
  | ds k =>
    simp only [renX]
    cases e : rkey ρ k with
    | none => trivial
    | some k' =>
      obtain ⟨ap, sz, rows, g1, g2⟩ := hx
      obtain ⟨e1, e2, e3⟩ := h _ _ _ e g1
      exact ⟨ap, sz, rows, e1, by rw [e2, e3]; exact g2⟩
  | dp k r o l =>
    simp only [renX]
    cases e : rkey ρ k with
    | none => trivial
    | some k' =>
      obtain ⟨ap, sz, rows, b, g1, g2, g3⟩ := hx
      obtain ⟨e1, e2, e3⟩ := h _ _ _ e g1
      exact ⟨ap, sz, rows, b, e1, by rw [e2]; exact g2, g3⟩
  | fb g cs k n ds =>
    simp only [renX]
    cases e : rkey ρ k with
    | none => trivial
    | some k' =>
      obtain ⟨vs, cells, b, g1, g2, g3, g4, g5, g6, g7, g8⟩ := hx
      obtain ⟨e1, e2, e3⟩ := h _ _ _ e g2
      exact ⟨vs, cells.map f, b, g1, e1, by rw [e2]; exact g3, by simpa using g4, g5, fun i c u q1 q2 => (g6 i c u q1 q2).mono hI (fun _ _ => rfl), g7, fun i c u q1 q2 => (g8 i c u q1 q2).mono hI (fun _ _ => rfl)⟩

/-- An object under another key. -/
theorem RepO.move {L2 : Lay} {H H2 : Heap} {I' : Nat → Prop} {k k' : Nat} {o : Ob} {f : XV → XV} (hf : ∀ v x, RepX L H I w v x → RepX L2 H2 I' w v (f x)) (hI : ∀ b, I b → I' b)
    (hs : L2.blk k' = L.blk k ∧ L2.cap k' = L.cap k ∧ L2.fp k' = L.fp k ∧ L2.hd k' = L.hd k) (h : RepO L H I w k o) : RepO L2 H2 I' w k' (o.map f) := by
  obtain ⟨hbk, hck, hfk, hhk⟩ := hs
  cases o with
  | deep a sz rows =>
    simp only [RepO, Ob.map] at h ⊢
    rw [hbk, hck, hfk, hhk]
    exact h
  | box cs =>
    obtain ⟨b, vs, e, fr, h1, h2, h3, h5, h4⟩ := h
    exact ⟨b, vs, e, fr, by rw [hbk, h1], h2, h3, h5, h4.map' hf⟩
  | arr sz rows =>
    simp only [RepO, Ob.map] at h ⊢
    rw [hbk, hck]
    cases hL : L.blk k with
    | none => simpa [hL] using h
    | some b =>
      simp only [hL] at h ⊢
      obtain ⟨h1, h2, vs, e, fr, h3, h4, h5, h6⟩ := h
      refine ⟨h1, h2, vs, e, fr, h3, h4, h5, fun i r j c g1 g2 => ?_⟩
      obtain ⟨v, g3, g4⟩ := h6 i r j c g1 g2
      exact ⟨v, g3, g4.mono hI (fun _ _ => rfl)⟩

def layR (ρ : List (Nat × Nat)) (L : Lay) : Lay := ⟨fun b => (rold ρ b).bind L.blk, fun b => L.cap ((rold ρ b).getD 0), fun b => match rold ρ b with | some k => L.fp k | none => fun _ => False, fun b => L.hd ((rold ρ b).getD 0)⟩
theorem layR_at {ρ : List (Nat × Nat)} {k b : Nat} (L : Lay) (h : rold ρ b = some k) : (layR ρ L).blk b = L.blk k ∧ (layR ρ L).cap b = L.cap k ∧ (layR ρ L).fp b = L.fp k ∧ (layR ρ L).hd b = L.hd k := by
  simp [layR, h]

/-- Some objects under other keys. -/
theorem ren_heap {O : Nat → Prop} {ρ : List (Nat × Nat)} {H H2 : Heap} (n1 : (ρ.map (·.1)).Nodup) (n2 : (ρ.map (·.2)).Nodup) (hr : renH ρ H ρ = some H2) (hok : HeapOK O L H I w) :
    HeapOK (fun b => O b ∧ ∃ k b', (k, b') ∈ ρ ∧ Foot L k b) (layR ρ L) H2 I w ∧ ∀ v x, RepX L H I w v x → RepX (layR ρ L) H2 I w v (renX ρ x) := by
  obtain ⟨g1, g2⟩ := renH_get hr n2
  have hf : ∀ v x, RepX L H I w v x → RepX (layR ρ L) H2 I w v (renX ρ x) := fun v x hx => RepX.ren (f := renX ρ) (fun _ h => h) (fun k b o e ho => by
    have hm := rkey_mem e
    obtain ⟨o', q1, q2⟩ := g1 k b hm
    rw [ho] at q1; cases q1
    obtain ⟨e1, e2, _⟩ := layR_at L (rold_of_mem n2 hm)
    exact ⟨q2, e1, e2⟩) hx
  have hft : ∀ {k b x}, (k, b) ∈ ρ → Foot (layR ρ L) b x → Foot L k x := fun {k b x} hm hx => by
    obtain ⟨e1, e2, e3, e4⟩ := layR_at L (rold_of_mem n2 hm)
    rcases hx with hx | hx
    · exact .inl (e1 ▸ hx)
    · exact .inr (e3 ▸ hx)
  refine ⟨⟨fun b o' hb => ?_, fun b o' x hb hx => ?_, fun b b' o1 o2 x hb hb' hx hx' => ?_⟩, hf⟩
  · obtain ⟨k, o, q1, q2, rfl⟩ := g2 b o' hb
    exact (hok.ob k o q2).move hf (fun _ h => h) (layR_at L (rold_of_mem n2 q1))
  · obtain ⟨k, o, q1, q2, rfl⟩ := g2 b o' hb
    obtain ⟨p1, p2, p3⟩ := hok.own k o x q2 (hft q1 hx)
    exact ⟨⟨p1, k, b, q1, hft q1 hx⟩, p2, p3⟩
  · obtain ⟨k, o, q1, q2, rfl⟩ := g2 b o1 hb
    obtain ⟨k', o', q1', q2', rfl⟩ := g2 b' o2 hb'
    have e := hok.inj k k' o o' x q2 q2' (hft q1 hx) (hft q1' hx')
    subst e
    have h1 := rkey_of_mem n1 q1
    rw [rkey_of_mem n1 q1'] at h1
    exact (Option.some.inj h1).symm

theorem find_wkH (D N : List Nat) : ∀ (h : Heap) (j : Nat), find (wkH D N h) j = if j ∈ D then none else (find h j).map (Ob.map (wkX D N))
  | [], j => by simp [wkH, find]
  | (k, o) :: h, j => by
    simp only [wkH]
    have ih := find_wkH D N h j
    cases hc : D.contains k with
    | true =>
      have hk : k ∈ D := List.contains_iff_mem.1 hc
      simp only [ih, find]
      split
      · rfl
      · rename_i hj
        have hne : k ≠ j := fun e => hj (e ▸ hk)
        rw [beq_false.2 hne]
    | false =>
      have hk : k ∉ D := fun h => by rw [List.contains_iff_mem.2 h] at hc; cases hc
      simp only [find]
      cases hb : Nat.beq k j with
      | true =>
        have e := beq_iff.1 hb
        subst e
        rw [if_neg hk]; rfl
      | false => exact ih

theorem sameShape_iff {o o' : Ob} {K : Prop} (h : sameShapeK o o' K) : o'.shape = o.shape ∧ K := by
  unfold sameShapeK at h
  split at h
  · split at h
    · rename_i e; exact ⟨by simp [Ob.shape, beq_iff.1 e], h⟩
    · exact h.elim
  · split at h
    · rename_i e; exact ⟨by simp [Ob.shape, beq_iff.1 e, h.a], h.b⟩
    · exact h.elim
  · split at h
    · rename_i e; exact ⟨by simp [Ob.shape, beq_iff.1 e, h.a], h.b⟩
    · exact h.elim
  · split at h
    · rename_i e; exact ⟨by simp [Ob.shape, beq_iff.1 e, h.a], h.b⟩
    · exact h.elim
  · exact h.elim

theorem mergeK_get {τ : List (Nat × Nat)} {H3 : Heap} : ∀ {r : List (Nat × Nat)} {h : Heap} {K : Heap → Prop}, (r.map (·.2)).Nodup → mergeK τ r H3 h K →
    ∃ h', K h' ∧ (∀ j, find h' j = match rold r j with | some k => (find H3 k).map (Ob.map (renX τ)) | none => find h j) ∧ ∀ k k', (k, k') ∈ r → ∃ o, find H3 k = some o ∧ ∀ o0, find h k' = some o0 → o.shape = o0.shape
  | [], h, K, _, hK => ⟨h, hK, fun j => rfl, by simp⟩
  | (x, y) :: r, h, K, hn, hK => by
    obtain ⟨n1, n2⟩ := List.nodup_cons.1 hn
    have hnr : ∀ {k k'}, (k, k') ∈ r → k' ≠ y := fun {k k'} hm e => n1 (List.mem_map.2 ⟨(k, k'), hm, e⟩)
    simp only [mergeK] at hK
    split at hK
    · rename_i o ho
      split at hK
      · rename_i o0 h0
        obtain ⟨hsh, hK⟩ := sameShape_iff hK
        obtain ⟨h', q1, q2, q3⟩ := mergeK_get n2 hK
        refine ⟨h', q1, fun j => ?_, fun k k' hm => ?_⟩
        · rw [q2 j]
          simp only [rold]
          cases hb : Nat.beq y j with
          | true =>
            have e := beq_iff.1 hb
            subst e
            have : rold r y = none := by
              cases hr : rold r y with
              | none => rfl
              | some k => exact absurd rfl (hnr (rold_mem hr))
            simp only [this, find_setOb, if_true, h0, ho, Option.map_some]
          | false =>
            have hne := beq_false.1 hb
            cases hr : rold r j with
            | some k => rfl
            | none => simp only [find_setOb, if_neg (Ne.symm hne)]
        · rcases List.mem_cons.1 hm with e | hm
          · cases e
            exact ⟨o, ho, fun o1 h1 => by rw [h0] at h1; cases h1; exact hsh⟩
          · obtain ⟨o2, p1, p2⟩ := q3 k k' hm
            exact ⟨o2, p1, fun o1 h1 => p2 o1 (by rw [find_setOb, if_neg (hnr hm)]; exact h1)⟩
      · rename_i h0
        obtain ⟨h', q1, q2, q3⟩ := mergeK_get n2 hK
        refine ⟨h', q1, fun j => ?_, fun k k' hm => ?_⟩
        · rw [q2 j]
          simp only [rold]
          cases hb : Nat.beq y j with
          | true =>
            have e := beq_iff.1 hb
            subst e
            have : rold r y = none := by
              cases hr : rold r y with
              | none => rfl
              | some k => exact absurd rfl (hnr (rold_mem hr))
            simp only [this, find_ins _ _ _ _ h0, if_true, ho, Option.map_some]
          | false =>
            have hne := beq_false.1 hb
            cases hr : rold r j with
            | some k => rfl
            | none => simp only [find_ins _ _ _ _ h0, if_neg (Ne.symm hne)]
        · rcases List.mem_cons.1 hm with e | hm
          · cases e
            exact ⟨o, ho, fun o1 h1 => by rw [h0] at h1; cases h1⟩
          · obtain ⟨o2, p1, p2⟩ := q3 k k' hm
            exact ⟨o2, p1, fun o1 h1 => p2 o1 (by rw [find_ins _ _ _ _ h0, if_neg (hnr hm)]; exact h1)⟩
    · exact hK.elim

theorem tauOk_get {ρ : List (Nat × Nat)} : ∀ {τ : List (Nat × Nat)}, tauOk ρ τ = true → ∀ k k', (k, k') ∈ τ → (pinK k = true → rkey ρ k' = some k) ∧ (pinK k = false → pinK k' = false)
  | [], _, k, k', h => by cases h
  | (x, y) :: τ, h, k, k', hm => by
    simp only [tauOk] at h
    split at h
    · rename_i hp
      split at h
      · rename_i b hb
        split at h
        · rename_i e
          rcases List.mem_cons.1 hm with e2 | hm
          · cases e2
            exact ⟨fun _ => by rw [hb, beq_iff.1 e], fun h2 => by rw [hp] at h2; cases h2⟩
          · exact tauOk_get h k k' hm
        · cases h
      · cases h
    · rename_i hp
      split at h
      · cases h
      · rename_i hp2
        rcases List.mem_cons.1 hm with e2 | hm
        · cases e2
          exact ⟨fun h2 => (by rw [hp] at h2; cases h2), fun _ => hp2⟩
        · exact tauOk_get h k k' hm

theorem mem_keptOf : ∀ {τ : List (Nat × Nat)} {j : Nat}, j ∈ keptOf τ → ∃ k, (k, j) ∈ τ ∧ pinK k = true
  | [], j, h => by cases h
  | (x, y) :: τ, j, h => by
    simp only [keptOf] at h
    split at h
    · rename_i hp
      rcases List.mem_cons.1 h with rfl | h
      · exact ⟨x, by simp, hp⟩
      · obtain ⟨k, q1, q2⟩ := mem_keptOf h
        exact ⟨k, List.mem_cons_of_mem _ q1, q2⟩
    · obtain ⟨k, q1, q2⟩ := mem_keptOf h
      exact ⟨k, List.mem_cons_of_mem _ q1, q2⟩
theorem mem_newOf : ∀ {τ : List (Nat × Nat)} {k j : Nat}, (k, j) ∈ τ → pinK k = false → j ∈ newOf τ
  | [], k, j, h, _ => by cases h
  | (x, y) :: τ, k, j, h, hp => by
    simp only [newOf]
    rcases List.mem_cons.1 h with e | h
    · cases e; simp [hp]
    · have := mem_newOf h hp
      split
      · exact this
      · exact List.mem_cons_of_mem _ this
theorem mem_minus : ∀ {ks js : List Nat} {k : Nat}, k ∈ ks → k ∉ minus ks js → k ∈ js
  | [], js, k, h, _ => by cases h
  | x :: ks, js, k, h, hn => by
    simp only [minus] at hn
    cases hm : memB x js with
    | true =>
      simp only [hm] at hn
      rcases List.mem_cons.1 h with rfl | h
      · exact memB_iff.1 hm
      · exact mem_minus h hn
    | false =>
      simp only [hm, List.mem_cons, not_or] at hn
      rcases List.mem_cons.1 h with rfl | h
      · exact absurd rfl hn.1
      · exact mem_minus h hn.2

@[simp] theorem forceN_eq : ∀ (l : List (Nat × Nat)) (K : List (Nat × Nat) → Prop), forceN l K = K l
  | [], _ => rfl
  | (a, b) :: l, K => by simp [forceN, forceN_eq l]
@[simp] theorem forceNs_eq : ∀ (l : List Nat) (K : List Nat → Prop), forceNs l K = K l
  | [], _ => rfl
  | a :: l, K => by simp [forceNs, forceNs_eq l]

theorem callX_goes {o : Oper} {g : Nat} {extra vs : List PV} {vals : Array Value} (hi : Inv C L I s a w) (hrun : Ent P g → (execOp a.eval o).run P w = .ok (.enter g vals) w) {K : PV → St → Prop}
    (hsz : vals.size = (vs ++ extra).length) (hrep : ∀ (i : Nat) (p : PV) (v : Value), (vs ++ extra)[i]? = some p → vals[i]? = some v → RepP L s.heap I w v p) (h : callX P s g extra vs o.dst K) : ∃ pv s', K pv s' ∧ GoesM P C s' a w o pv := by
  unfold callX at h
  simp only [forceNs_eq, forceN_eq, forceH_eq, forceR_eq] at h
  generalize dedup (keysPs (vs ++ extra)) = ks at h
  generalize rhoOf s.heap ks 0 = ρ at h
  split at h
  · rename_i H2 n1 n2 hH2
    have n1 := nodupB_iff n1
    have n2 := nodupB_iff n2
    obtain ⟨r, hs, h⟩ := h
    generalize tauOf ks _ r.2 = τ at h
    split at h
    · rename_i t1 t2 t3
      have t2 := nodupB_iff t2
      have t3 := nodupB_iff t3
      simp only [force_eq, forceP_eq] at h
      generalize hD : minus (ρ.map (·.1)) (keptOf τ) ++ newOf τ = D at h
      generalize hN : ρ.map (·.1) = N at h hD
      obtain ⟨H', hK, hfind, hshape⟩ := mergeK_get t3 h
      clear h
      refine ⟨r.1.map (renX τ), ⟨s.regs.map (PV.map (wkX D N)), H'⟩, hK, fun next Q hQ hn => Or.inl ?_⟩
      obtain ⟨hok, hren⟩ := ren_heap n1 n2 hH2 hi.heap
      obtain ⟨hg1, hg2⟩ := renH_get hH2 n2
      let O : Nat → Prop := fun b => ∃ k b', (k, b') ∈ ρ ∧ Foot L k b
      have hok' : HeapOK O (layR ρ L) H2 I w := ⟨hok.ob, fun k o b h1 h2 => ⟨(hok.own k o b h1 h2).1.2, (hok.own k o b h1 h2).2⟩, hok.inj⟩
      refine wp_callM (O := O) (L0 := layR ρ L) hs (hrun hs.1) hi.Ib (by simpa using hsz) (fun i p v h1 h2 => ?_) hok' fun v w' ⟨hkp, L3, I3, h1, h2, h3, h4, h5⟩ => ?_
      · rw [List.getElem?_map] at h1
        cases h3 : (vs ++ extra)[i]? with
        | none => simp [h3] at h1
        | some p0 => simp only [h3, Option.map_some, Option.some.injEq] at h1; subst h1; exact (hrep i p0 v h3 h2).map' hren
      have hOC : ∀ b, O b → C.O b ∧ ¬ I b ∧ b < w.heap.size := fun b ⟨k, b', hm, hf⟩ => by
        obtain ⟨o0, q1, _⟩ := hg1 k b' hm
        exact hi.heap.own k o0 b q1 hf
      have hwI : ∀ b, I b → w'.heap[b]? = w.heap[b]? := fun b hb => hkp.block b (hi.Ib b hb) fun hO => (hOC b hO).2.1 hb
      let I' : Nat → Prop := fun b => I b ∨ I3 b
      let L' : Lay := ⟨fun j => match rold τ j with | some k => L3.blk k | none => L.blk j, fun j => match rold τ j with | some k => L3.cap k | none => L.cap j, fun j => match rold τ j with | some k => L3.fp k | none => L.fp j, fun j => match rold τ j with | some k => L3.hd k | none => L.hd j⟩
      have hL1 : ∀ {k j}, rold τ j = some k → L'.blk j = L3.blk k ∧ L'.cap j = L3.cap k ∧ L'.fp j = L3.fp k ∧ L'.hd j = L3.hd k := fun {k j} e => by simp [L', e]
      have hL0 : ∀ {j}, rold τ j = none → L'.blk j = L.blk j ∧ L'.cap j = L.cap j ∧ L'.fp j = L.fp j ∧ L'.hd j = L.hd j := fun {j} e => by simp [L', e]
      have hft1 : ∀ {k j b}, rold τ j = some k → Foot L' j b → Foot L3 k b := fun {k j b} e hb => by
        obtain ⟨e1, _, e3, _⟩ := hL1 e
        rcases hb with hb | hb
        · exact .inl (e1 ▸ hb)
        · exact .inr (e3 ▸ hb)
      have hft0 : ∀ {j b}, rold τ j = none → Foot L' j b → Foot L j b := fun {j b} e hb => by
        obtain ⟨e1, _, e3, _⟩ := hL0 e
        rcases hb with hb | hb
        · exact .inl (e1 ▸ hb)
        · exact .inr (e3 ▸ hb)
      have hwk := find_wkH D N s.heap
      -- what is kept
      have hkept : ∀ {k j}, (k, j) ∈ τ → j ∉ D → pinK k = true ∧ (j, k) ∈ ρ := fun {k j} hm hj => by
        cases hp : pinK k with
        | true => exact ⟨rfl, rkey_mem ((tauOk_get t1 k j hm).1 hp)⟩
        | false => exact absurd (by rw [← hD]; exact List.mem_append_right _ (mem_newOf hm hp)) hj
      have hpin3 : ∀ {k j}, (k, j) ∈ τ → pinK k = true → (∃ o0, find s.heap j = some o0) ∧ L'.blk j = L.blk j ∧ L'.cap j = L.cap j ∧ j ∈ N := fun {k j} hm hp => by
        have hr := rkey_mem ((tauOk_get t1 k j hm).1 hp)
        obtain ⟨o0, q1, _⟩ := hg1 j k hr
        obtain ⟨o3, q3, _⟩ := hshape k j hm
        obtain ⟨p1, p2⟩ := h5 k o3 hp q3
        obtain ⟨e1, e2, _⟩ := hL1 (rold_of_mem t3 hm)
        obtain ⟨e3, e4, _⟩ := layR_at L (rold_of_mem n2 hr)
        exact ⟨⟨o0, q1⟩, by rw [e1, p1, e3], by rw [e2, p2, e4], by rw [← hN]; exact List.mem_map.2 ⟨(j, k), hr, rfl⟩⟩
      have hrest : ∀ {j o0}, find s.heap j = some o0 → j ∉ D → rold τ j = none → ∀ b, Foot L j b → ¬ O b := fun {j o0} hj hjD hjt b hb ⟨k, b', hm, hf⟩ => by
        obtain ⟨o1, q1, _⟩ := hg1 k b' hm
        have e := hi.heap.inj j k o0 o1 b hj q1 hb hf
        subst e
        have hjN : j ∈ N := by rw [← hN]; exact List.mem_map.2 ⟨(j, b'), hm, rfl⟩
        have hk : j ∈ keptOf τ := mem_minus hjN fun h => hjD (by rw [← hD]; exact List.mem_append_left _ h)
        obtain ⟨k3, q2, _⟩ := mem_keptOf hk
        rw [rold_of_mem t3 q2] at hjt; cases hjt
      have hf : ∀ v x, RepX L s.heap I w v x → RepX L' H' I' w' v (wkX D N x) := fun v x hx => by
        unfold wkX
        cases hxk : x.key? with
        | none => exact RepX.ext (q := fun _ => False) (fun j o hq => hq.elim) (fun _ h => Or.inl h) hwI (fun k hk => by rw [hxk] at hk; cases hk) hx
        | some k =>
          simp only
          cases hc : D.contains k with
          | true => trivial
          | false =>
            have hkD : k ∉ D := fun h => by rw [List.contains_iff_mem.2 h] at hc; cases hc
            simp only
            cases hrt : rold τ k with
            | none =>
              have hkn : Knows L s.heap L' H' (fun j => j = k) := fun j o0 e hj => by
                subst e
                refine ⟨⟨o0.map (wkX D N), ?_, shape_map _ _⟩, (hL0 hrt).1, (hL0 hrt).2.1, (hL0 hrt).2.2.2⟩
                rw [hfind, hrt]
                simp only [hwk, if_neg hkD, hj, Option.map_some]
              have hx' : RepX L' H' I' w' v x := RepX.ext (q := fun j => j = k) hkn (fun _ h => Or.inl h) hwI (fun j hj => by rw [hxk] at hj; cases hj; rfl) hx
              cases x <;> simp only [] <;> first | exact hx' | (split <;> first | trivial | exact hx')
            | some k3 =>
              have hm := rold_mem hrt
              obtain ⟨hp, hr⟩ := hkept hm hkD
              obtain ⟨⟨o0, ho0⟩, e1, e2, hkN⟩ := hpin3 hm hp
              by_cases hdn : ∃ k r j, x = .dn k r j
              · obtain ⟨k', r, j, rfl⟩ := hdn
                cases hxk
                simp only [List.contains_iff_mem.2 hkN]
                trivial
              · have hx0 : ∀ k r j, x ≠ .dn k r j := fun k r j e => hdn ⟨k, r, j, e⟩
                let L1 : Lay := ⟨L'.blk, L'.cap, L'.fp, L.hd⟩
                have hkn : Knows L s.heap L1 H' (fun j => j = k) := fun j o1 e hj => by
                  subst e
                  obtain ⟨o3, q3, q4⟩ := hshape k3 j hm
                  refine ⟨⟨o3.map (renX τ), ?_, ?_⟩, e1, e2, rfl⟩
                  · rw [hfind, hrt]
                    simp only [q3, Option.map_some]
                  · rw [shape_map, q4 (o1.map (wkX D N)) (by rw [hwk, if_neg hkD, hj]; rfl), shape_map]
                have hx1 : RepX L1 H' I' w' v x := RepX.ext (q := fun j => j = k) hkn (fun _ h => Or.inl h) hwI (fun j hj => by rw [hxk] at hj; cases hj; rfl) hx
                have hx' : RepX L' H' I' w' v x := RepX.hdAny (L := L1) rfl rfl hx0 hx1
                cases x <;> simp only [] <;> first | exact hx' | exact absurd rfl (hx0 _ _ _)
      have hf3 : ∀ v x, RepX L3 r.2 I3 w' v x → RepX L' H' I' w' v (renX τ x) := fun v x hx => RepX.ren (f := renX τ) (fun _ h => Or.inr h) (fun k b o0 e ho => by
        have hm := rkey_mem e
        have hr := rold_of_mem t3 hm
        exact ⟨by rw [hfind, hr]; simp only [ho, Option.map_some], (hL1 hr).1, (hL1 hr).2.1⟩) hx
      have hback : ∀ {j o0}, find H' j = some o0 → rold τ j = none → j ∉ D ∧ ∃ o1, find s.heap j = some o1 ∧ o0 = o1.map (wkX D N) := fun {j o0} hj hr => by
        rw [hfind, hr] at hj
        simp only [hwk] at hj
        split at hj
        · cases hj
        · rename_i hjD
          cases h6 : find s.heap j with
          | none => simp [h6] at hj
          | some o1 => simp only [h6, Option.map_some, Option.some.injEq] at hj; exact ⟨hjD, o1, rfl, hj.symm⟩
      have hback3 : ∀ {j k o0}, find H' j = some o0 → rold τ j = some k → ∃ o3, find r.2 k = some o3 ∧ o0 = o3.map (renX τ) := fun {j k o0} hj hr => by
        rw [hfind, hr] at hj
        simp only at hj
        cases h6 : find r.2 k with
        | none => simp [h6] at hj
        | some o3 => simp only [h6, Option.map_some, Option.some.injEq] at hj; exact ⟨o3, rfl, hj.symm⟩
      have hinv : Inv C L' I' ⟨s.regs.map (PV.map (wkX D N)), H'⟩ a w' := by
        refine hi.change (f := wkX D N) hf rfl ?_ (fun b hb => hb.elim (fun hb => Nat.lt_of_lt_of_le (hi.Ib b hb) hkp.size) (h2 b)) (fun b hb hb' => hb'.elim (hi.Io b hb) fun h => (h1 b (Nat.lt_of_lt_of_le hb hi.fr.size) h).elim (hi.Io b hb) fun h => .inr (hOC b h).1) ?_ (fun j o0 hp hj => ?_)
        · refine ⟨fun j o0 hj => ?_, fun j o0 b hj hb => ?_, fun j j' o0 o0' b hj hj' hb hb' => ?_⟩
          · cases hr : rold τ j with
            | some k =>
              obtain ⟨o3, q1, rfl⟩ := hback3 hj hr
              exact (h4.ob k o3 q1).move hf3 (fun _ h => Or.inr h) (hL1 hr)
            | none =>
              obtain ⟨hjD, o1, q1, rfl⟩ := hback hj hr
              exact (hi.heap.ob j o1 q1).ext hf (fun _ h => Or.inl h) hwI (hL0 hr) fun b hb => hkp.block b (hi.heap.own j o1 b q1 hb).2.2 (hrest q1 hjD hr b hb)
          · cases hr : rold τ j with
            | some k =>
              obtain ⟨o3, q1, rfl⟩ := hback3 hj hr
              obtain ⟨p1, p2, p3⟩ := h4.own k o3 b q1 (hft1 hr hb)
              refine ⟨p1.elim (fun h => C.hO b (Nat.le_trans hi.fr.size h)) fun h => (hOC b h).1, fun hn => hn.elim (fun hn => p1.elim (fun h => ?_) fun h => (hOC b h).2.1 hn) p2, p3⟩
              have := hi.Ib b hn; omega
            | none =>
              obtain ⟨hjD, o1, q1, rfl⟩ := hback hj hr
              obtain ⟨p1, p2, p3⟩ := hi.heap.own j o1 b q1 (hft0 hr hb)
              refine ⟨p1, fun hn => hn.elim p2 fun hn => (h1 b p3 hn).elim p2 (hrest q1 hjD hr b (hft0 hr hb)), Nat.lt_of_lt_of_le p3 hkp.size⟩
          · have hcross : ∀ {j j' k o0 o0' b}, find H' j = some o0 → find H' j' = some o0' → rold τ j = some k → rold τ j' = none → Foot L' j b → Foot L' j' b → False := fun {j j' k o0 o0' b} hj hj' hr hr' hb hb' => by
              obtain ⟨o3, q1, rfl⟩ := hback3 hj hr
              obtain ⟨hjD, o1, q1', rfl⟩ := hback hj' hr'
              obtain ⟨p1, _, _⟩ := h4.own k o3 b q1 (hft1 hr hb)
              have := (hi.heap.own j' o1 b q1' (hft0 hr' hb')).2.2
              exact p1.elim (fun h => by omega) (hrest q1' hjD hr' b (hft0 hr' hb'))
            cases hr : rold τ j with
            | some k =>
              cases hr' : rold τ j' with
              | none => exact (hcross hj hj' hr hr' hb hb').elim
              | some k' =>
                obtain ⟨o3, q1, rfl⟩ := hback3 hj hr
                obtain ⟨o3', q1', rfl⟩ := hback3 hj' hr'
                have e := h4.inj k k' o3 o3' b q1 q1' (hft1 hr hb) (hft1 hr' hb')
                subst e
                have x1 := rkey_of_mem t2 (rold_mem hr)
                rw [rkey_of_mem t2 (rold_mem hr')] at x1
                exact (Option.some.inj x1).symm
            | none =>
              cases hr' : rold τ j' with
              | some k' => exact (hcross hj' hj hr' hr hb' hb).elim
              | none =>
                obtain ⟨_, o1, q1, _⟩ := hback hj hr
                obtain ⟨_, o1', q1', _⟩ := hback hj' hr'
                exact hi.heap.inj j j' o1 o1' b q1 q1' (hft0 hr hb) (hft0 hr' hb')
        · exact ⟨hkp.os.trans hi.fr.os, hkp.tape.trans hi.fr.tape, hkp.output.trans hi.fr.output, Nat.le_trans hi.fr.size hkp.size, fun b g1 g2 => (hkp.block b (Nat.lt_of_lt_of_le g1 hi.fr.size) fun h => g2 (hOC b h).1).trans (hi.fr.block b g1 g2)⟩
        · cases hr : rold τ j with
          | some k =>
            have hm := rold_mem hr
            cases hpk : pinK k with
            | false => have := (tauOk_get t1 k j hm).2 hpk; rw [hp] at this; cases this
            | true =>
              obtain ⟨q1, e1, e2, _⟩ := hpin3 hm hpk
              obtain ⟨o1, q1⟩ := q1
              exact ⟨o1, q1, e1, e2⟩
          | none =>
            obtain ⟨_, o1, q1, _⟩ := hback hj hr
            exact ⟨o1, q1, (hL0 hr).1, (hL0 hr).2.1⟩
      exact hn v w' I' L' hinv (h3.map' hf3)
    · exact h.elim
  · exact h.elim

/-- The values that a call hands over, by its arguments. -/
theorem args_rep' {c : Call} {vs : List PV} (hvl : vs.length = c.args.toList.length)
    (hvs : ∀ (i : Nat) (pv : PV) (x : Operand), vs[i]? = some pv → c.args.toList[i]? = some x → RepP L s.heap I w (a.eval x) pv) {extra : List PV} {cv : Array Value} (hcl : cv.size = extra.length) (hcr : ∀ (i : Nat) (p : PV) (v : Value), extra[i]? = some p → cv[i]? = some v → RepP L s.heap I w v p) :
    (c.args.map a.eval ++ cv).size = (vs ++ extra).length ∧ ∀ (i : Nat) (p : PV) (v : Value), (vs ++ extra)[i]? = some p → (c.args.map a.eval ++ cv)[i]? = some v → RepP L s.heap I w v p := by
  refine ⟨by simp [hvl, hcl], fun i p v h1 h2 => ?_⟩
  by_cases hi : i < vs.length
  · rw [List.getElem?_append_left hi] at h1
    rw [Array.getElem?_append_left (by simp; rw [hvl] at hi; simpa using hi)] at h2
    have hia : i < c.args.toList.length := by omega
    have hia' : i < c.args.size := by simpa using hia
    rw [Array.getElem?_map] at h2
    simp [hia'] at h2
    subst h2
    exact hvs i p c.args.toList[i] h1 (List.getElem?_eq_getElem hia)
  · have hl : c.args.size = vs.length := by rw [hvl]; simp
    rw [List.getElem?_append_right (by omega)] at h1
    rw [Array.getElem?_append_right (by simp; omega)] at h2
    simp only [Array.size_map, hl] at h2
    exact hcr _ p v h1 h2

theorem callE_goes {tt : TT} {o : Oper} {c : Call} {f : Operand} {g : Nat} {caps : List CV} {vs : List PV} (hi : Inv C L I s a w) (ho : o.op = .call c) (hc : c.callee = .value f) {K : PV → St → Prop} (hpf : RepP L s.heap I w (a.eval f) (.one (.c (.fn g caps)))) (hvl : vs.length = c.args.toList.length)
    (hvs : ∀ (i : Nat) (pv : PV) (x : Operand), vs[i]? = some pv → c.args.toList[i]? = some x → RepP L s.heap I w (a.eval x) pv) (h : callE P tt s g caps c.args.toList c.argTypes.toList o.dst vs K) : ∃ pv s', K pv s' ∧ GoesM P C s' a w o pv := by
  unfold callE at h
  split at h
  · exact callR_goes hi ho hc hpf h
  · replace h : CallC _ _ := h
    cases h with
    | r h => exact callR_goes hi ho hc hpf h
    | x h =>
      have hpf : RepC I w (a.eval f) (.fn g caps) := hpf
      generalize hv : a.eval f = vf at hpf
      cases hpf with
      | fn _ cv _ hcl hcr =>
        obtain ⟨p1, p2⟩ := args_rep' (extra := caps.map fun y => PV.one (.c y)) hvl hvs (by simpa using hcl) (fun i p v h1 h2 => by
          rw [List.getElem?_map] at h1
          cases h3 : caps[i]? with
          | none => simp [h3] at h1
          | some y => simp only [h3, Option.map_some, Option.some.injEq] at h1; subst h1; exact hcr i y v h3 h2)
        exact callX_goes hi (fun he => exec_call (P := P) (w := w) ho hc hv he) p1 p2 h

theorem callM_goes {tt : TT} {o : Oper} {c : Call} {f : Operand} (hi : Inv C L I s a w) (ho : o.op = .call c) (hc : c.callee = .value f) {pf : PV} {K : PV → St → Prop} (hpf : RepP L s.heap I w (a.eval f) pf) (h : callM P tt s pf c.args.toList c.argTypes.toList o.dst K) : ∃ pv s', K pv s' ∧ GoesM P C s' a w o pv := by
  unfold callM at h
  split at h
  · obtain ⟨vs, h, hvl, hvr⟩ := argsK_sound hi h
    split at h
    · obtain ⟨m, _, h⟩ := h
      match m, h with
      | some true, h => exact callD_goes hi ho hc hpf hvl hvr h
      | some false, h => exact callE_goes hi ho hc hpf hvl hvr h
      | none, h =>
        obtain ⟨s1, L1, I1, h, hi1, hI1⟩ := flatKeys_inv h hi
        obtain ⟨vs1, h, hvl1, hvr1⟩ := argsK_sound hi1 h
        have hpf : RepC I w (a.eval f) (.fn _ _) := hpf
        exact callE_goes hi1 ho hc (hpf.mono hI1 fun _ _ => rfl) hvl1 hvr1 h
    · exact callE_goes hi ho hc hpf hvl hvr h
  · rename_i g pre k n post
    obtain ⟨vs, h, hvl, hvr⟩ := argsK_sound hi h
    obtain ⟨us, cells, b, g1, g2, g3, g4, g5, g6, g7, g8⟩ := hpf
    obtain ⟨p1, p2⟩ := args_rep' (extra := pre.map (fun y => PV.one (.c y)) ++ .one (.pb k 0 n) :: post.map fun y => .one (.c y)) (cv := us) hvl hvr (by simp [g5]; omega) (fun i p v h1 h2 => by
      by_cases h3 : i < pre.length
      · rw [List.getElem?_append_left (by simpa using h3), List.getElem?_map, List.getElem?_eq_getElem h3] at h1
        simp only [Option.map_some, Option.some.injEq] at h1
        subst h1
        exact g6 i _ v (List.getElem?_eq_getElem h3) h2
      · rw [List.getElem?_append_right (by simpa using Nat.le_of_not_lt h3)] at h1
        simp only [List.length_map] at h1
        by_cases h4 : i = pre.length
        · subst h4
          simp only [Nat.sub_self, List.getElem?_cons_zero, Option.some.injEq] at h1
          subst h1
          rw [g7] at h2; cases h2
          exact ⟨cells, b, g2, g3, by omega, rfl⟩
        · obtain ⟨m, hm⟩ : ∃ m, i = pre.length + 1 + m := ⟨i - pre.length - 1, by omega⟩
          subst hm
          rw [show pre.length + 1 + m - pre.length = m + 1 by omega, List.getElem?_cons_succ, List.getElem?_map] at h1
          cases h5 : post[m]? with
          | none => simp [h5] at h1
          | some y => simp only [h5, Option.map_some, Option.some.injEq] at h1; subst h1; exact g8 m y v h5 h2)
    exact callX_goes hi (fun he => exec_call (P := P) (w := w) ho hc g1 he) p1 p2 h
  · exact h.elim

end

end Go.Proofs.Ytjolahiflldepab.Pi
