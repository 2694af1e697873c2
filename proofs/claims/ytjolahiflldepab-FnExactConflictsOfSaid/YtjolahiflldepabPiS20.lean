/- Functions: from the predicate transformer to 'Sat'. No statement of the seat is proved here. -/
import Derived.Test.YtjolahiflldepabPiS19
namespace Go.Proofs.Ytjolahiflldepab.Pi
open Go Go.RowKit
set_option linter.unusedVariables false
set_option linter.unusedSimpArgs false

theorem canonH_get {H : Heap} : ∀ {ks : List Nat} {i : Nat} {h : Heap}, canonH H ks i = some h →
    (∀ j k, ks[j]? = some k → find h (i + j) = find H k) ∧ (∀ j o, find h j = some o → ∃ k, i ≤ j ∧ ks[j - i]? = some k ∧ (∀ cs, o ≠ .box cs) ∧ find H k = some o)
  | [], i, h, e => by simp only [canonH, Option.some.injEq] at e; subst e; exact ⟨by simp, by simp [find]⟩
  | k :: ks, i, h, e => by
    have key : ∀ {o r}, find H k = some o → (∀ cs, o ≠ .box cs) → canonH H ks (i + 1) = some r → h = (i, o) :: r → (∀ j k', (k :: ks)[j]? = some k' → find h (i + j) = find H k') ∧ (∀ j o, find h j = some o → ∃ k', i ≤ j ∧ (k :: ks)[j - i]? = some k' ∧ (∀ cs, o ≠ .box cs) ∧ find H k' = some o) := fun {o r} h1 hb h2 e => by
      subst e
      obtain ⟨g1, g2⟩ := canonH_get h2
      refine ⟨fun j k' hk => ?_, fun j o ho => ?_⟩
      · cases j with
        | zero => simp only [List.getElem?_cons_zero, Option.some.injEq] at hk; subst hk; simp [find, h1]
        | succ j =>
          simp only [List.getElem?_cons_succ] at hk
          have hne : Nat.beq i (i + (j + 1)) = false := beq_false.2 (by omega)
          simp only [find, hne]
          have := g1 j k' hk
          rwa [show i + 1 + j = i + (j + 1) by omega] at this
      · simp only [find] at ho
        split at ho
        · rename_i e
          have e := beq_iff.1 e
          subst e
          cases ho
          exact ⟨k, Nat.le_refl _, by simp, hb, h1⟩
        · obtain ⟨k', q1, q2, q3, q4⟩ := g2 j o ho
          refine ⟨k', by omega, ?_, q3, q4⟩
          rw [show j - i = (j - (i + 1)) + 1 by omega]
          simpa using q2
    simp only [canonH] at e
    split at e
    · rename_i sz rows r h1 h2
      cases e
      exact key h1 (fun cs h => by cases h) h2 rfl
    · rename_i ap sz rows r h1 h2
      cases e
      exact key h1 (fun cs h => by cases h) h2 rfl
    · cases e

/-- The layout of a result. -/
def canonL (L : Lay) (ks : List Nat) : Lay := ⟨fun i => (ks[i]?).bind L.blk, fun i => L.cap (ks.getD i 0), fun i => L.fp (ks.getD i 0), fun i => L.hd (ks.getD i 0)⟩

section
variable {P : Program} {C : Ctx} {L : Lay} {I : Nat → Prop} {s : St} {a : Act} {w : World}

theorem RepX.canon {ks : List Nat} {h H : Heap} (hh : canonH H ks 0 = some h) {v : Value} {x : XV} (hx : RepX L H I w v x) :
    RepX (canonL L ks) h I w v (canonX ks x) := by
  obtain ⟨g1, g2⟩ := canonH_get hh
  have hk : ∀ {k i}, idx k ks 0 = some i → ks[i]? = some k ∧ find h i = find H k := fun {k i} e => by
    obtain ⟨_, e2⟩ := idx_get e
    have e2 : ks[i]? = some k := by simpa using e2
    exact ⟨e2, by have := g1 i k e2; simpa using this⟩
  cases x with
  | c y => exact hx
  | nil sz => exact hx
  | undef => exact hx
  | dead => trivial
  | pb k o l => trivial
  | dp k r o l => trivial
  | dn k r j => trivial
  | fb f cs k n qs => trivial
  | rs k =>
    simp only [canonX]
    cases e : idx k ks 0 with
    | none => trivial
    | some i =>
      obtain ⟨e1, e2⟩ := hk e
      obtain ⟨sz, rows, h1, h2⟩ := hx
      refine ⟨sz, rows, e2.trans h1, ?_⟩
      simpa [canonL, e1, List.getD_eq_getElem?_getD] using h2
  | ds k =>
    simp only [canonX]
    cases e : idx k ks 0 with
    | none => trivial
    | some i =>
      obtain ⟨e1, e2⟩ := hk e
      obtain ⟨ap, sz, rows, h1, h2⟩ := hx
      refine ⟨ap, sz, rows, e2.trans h1, ?_⟩
      simpa [canonL, e1, List.getD_eq_getElem?_getD] using h2
  | ru k o l =>
    simp only [canonX]
    cases e : idx k ks 0 with
    | none => trivial
    | some i =>
      obtain ⟨e1, e2⟩ := hk e
      obtain ⟨sz, rows, h1, h3, h2⟩ := hx
      refine ⟨sz, rows, e2.trans h1, h3, ?_⟩
      simpa [canonL, e1, List.getD_eq_getElem?_getD] using h2
  | pe k r o l =>
    simp only [canonX]
    cases e : idx k ks 0 with
    | none => trivial
    | some i =>
      obtain ⟨e1, e2⟩ := hk e
      obtain ⟨sz, rows, b, h1, h2, h3⟩ := hx
      exact ⟨sz, rows, b, e2.trans h1, by simpa [canonL, e1] using h2, h3⟩

theorem canon_heap {O : Nat → Prop} {ks : List Nat} {h H : Heap} (hn : ks.Nodup) (hh : canonH H ks 0 = some h) (hok : HeapOK O L H I w) :
    HeapOK O (canonL L ks) h I w := by
  obtain ⟨g1, g2⟩ := canonH_get hh
  have hft : ∀ {i k b}, ks[i]? = some k → Foot (canonL L ks) i b → Foot L k b := fun {i k b} q2 hb => by
    have hg : ks.getD i 0 = k := by simp [List.getD_eq_getElem?_getD, q2]
    rcases hb with hb | hb
    · simp only [canonL, q2, Option.bind_some] at hb; exact .inl hb
    · simp only [canonL, hg] at hb; exact .inr hb
  refine ⟨fun i o ho => ?_, fun i o b ho hb => ?_, fun i i' o o' b ho ho' hb hb' => ?_⟩
  · obtain ⟨k, _, q2, q3, q4⟩ := g2 i o ho
    have q2 : ks[i]? = some k := by simpa using q2
    have hr := hok.ob k _ q4
    have hg : ks.getD i 0 = k := by simp [List.getD_eq_getElem?_getD, q2]
    cases o with
    | box cs => exact absurd rfl (q3 cs)
    | arr sz rows =>
      simp only [RepO, canonL, q2, Option.bind_some, hg] at hr ⊢
      exact hr
    | deep ap sz rows =>
      simp only [RepO, canonL, q2, Option.bind_some, hg] at hr ⊢
      exact hr
  · obtain ⟨k, _, q2, q3, q4⟩ := g2 i o ho
    have q2 : ks[i]? = some k := by simpa using q2
    exact hok.own k _ b q4 (hft q2 hb)
  · obtain ⟨k, _, q2, _, q4⟩ := g2 i o ho
    have q2 : ks[i]? = some k := by simpa using q2
    obtain ⟨k', _, q2', _, q4'⟩ := g2 i' o' ho'
    have q2' : ks[i']? = some k' := by simpa using q2'
    have e := hok.inj k k' _ _ b q4 q4' (hft q2 hb) (hft q2' hb')
    subst e
    exact nodup_inj hn q2 q2'

/-! ### own flat slices are deep ones -/
theorem find_asDeep : ∀ (h : Heap) (k : Nat), find (asDeep h) k = (find h k).map fun o => match o with | .arr sz rows => .deep true sz rows | o => o
  | [], k => rfl
  | (k0, o) :: h, k => by
    cases o <;> (simp only [asDeep, find]; cases Nat.beq k0 k <;> simp [find_asDeep h k])
theorem flatH_get : ∀ {h : Heap}, flatH h → ∀ {k sz rows}, find h k = some (.arr sz rows) → flatRows rows
  | [], _, k, sz, rows, hf => by simp [find] at hf
  | (k0, o) :: h, hh, k, sz, rows, hf => by
    cases o with
    | box cs =>
      simp only [find] at hf
      split at hf
      · cases hf
      · exact flatH_get (h := h) hh hf
    | deep _ _ _ =>
      simp only [find] at hf
      split at hf
      · cases hf
      · exact flatH_get (h := h) hh hf
    | arr sz' rows' =>
      simp only [find] at hf
      split at hf
      · cases hf; exact hh.1
      · exact flatH_get (h := h) hh.2 hf

theorem asDeep_rep {O : Nat → Prop} {H : Heap} (hfl : flatH H) (hb : ∀ k o, find H k = some o → ∀ cs, o ≠ .box cs) (hok : HeapOK O L H I w) : ∃ L', HeapOK O L' (asDeep H) I w ∧ ∀ v x, RepX L H I w v x → RepX L' (asDeep H) I w v (asDs x) := by
  have hex : ∀ k, ∃ hd : Nat → Value, ∀ sz rows, find H k = some (.arr sz rows) → match L.blk k with | none => rows = [] | some b => DRows w (fun _ => False) hd b (L.cap k) sz rows := fun k => by
    cases hf : find H k with
    | none => exact ⟨fun _ => undef, fun _ _ h => by cases h⟩
    | some o =>
      cases o with
      | box cs => exact ⟨fun _ => undef, fun _ _ h => by cases h⟩
      | deep _ _ _ => exact ⟨fun _ => undef, fun _ _ h => by cases h⟩
      | arr sz rows =>
        have ho := hok.ob k _ hf
        simp only [RepO] at ho
        cases hbk : L.blk k with
        | none => simp only [hbk] at ho; exact ⟨fun _ => undef, fun _ _ h => by cases h; exact ho⟩
        | some b =>
          simp only [hbk] at ho
          obtain ⟨h0, hl, vs, e, fr, h3, h4, h5, h6⟩ := ho
          refine ⟨fun q => vs.getD q undef, fun _ _ h => ?_⟩
          cases h
          refine ⟨h0, hl, vs, e, fr, fun _ _ => False, h3, h4, h5, fun i r j c q1 q2 => ?_, fun _ _ h => h.elim, fun _ _ _ h => h.elim⟩
          obtain ⟨v, p1, p2⟩ := h6 i r j c q1 q2
          exact ⟨v, p1, RepD.of_flat (flatH_get hfl hf r (List.mem_of_getElem? q1) c (List.mem_of_getElem? q2)) p2, fun _ => by simp [p1]⟩
  let isA : Nat → Prop := fun k => ∃ sz rows, find H k = some (.arr sz rows)
  classical
  let L' : Lay := ⟨L.blk, L.cap, fun k => if isA k then fun _ => False else L.fp k, fun k => if isA k then (hex k).choose else L.hd k⟩
  have hft : ∀ {k b}, Foot L' k b → Foot L k b := fun {k b} h => by
    rcases h with h | h
    · exact .inl h
    · simp only [L'] at h
      split at h
      · exact h.elim
      · exact .inr h
  have hback : ∀ {k o}, find (asDeep H) k = some o → ∃ o', find H k = some o' := fun {k o} h => by
    rw [find_asDeep] at h
    cases h2 : find H k with
    | none => simp [h2] at h
    | some o' => exact ⟨o', rfl⟩
  refine ⟨L', ⟨fun k o hk => ?_, fun k o b hk hbb => ?_, fun k k' o o' b hk hk' hb1 hb2 => ?_⟩, fun v x hx => ?_⟩
  · rw [find_asDeep] at hk
    cases h2 : find H k with
    | none => simp [h2] at hk
    | some o' =>
      simp only [h2, Option.map_some, Option.some.injEq] at hk
      have ho := hok.ob k _ h2
      cases o' with
      | box cs => exact absurd rfl (hb k _ h2 cs)
      | arr sz rows =>
        subst hk
        have hA : isA k := ⟨sz, rows, h2⟩
        have := (hex k).choose_spec sz rows h2
        simp only [RepO, L', hA, if_true]
        generalize (hex k).choose = hd0 at this ⊢
        cases hbk : L.blk k with
        | none => simpa only [hbk] using this
        | some b => simp only [hbk] at this; exact ⟨this, fun h => h⟩
      | deep ap sz rows =>
        subst hk
        have hA : ¬ isA k := fun ⟨_, _, h⟩ => by rw [h2] at h; cases h
        simp only [RepO, L', hA, if_false] at ho ⊢
        exact ho
  · obtain ⟨o', h2⟩ := hback hk
    exact hok.own k o' b h2 (hft hbb)
  · obtain ⟨o1, h1⟩ := hback hk
    obtain ⟨o2, h2⟩ := hback hk'
    exact hok.inj k k' o1 o2 b h1 h2 (hft hb1) (hft hb2)
  · cases x with
    | c y => exact hx
    | nil sz => exact hx
    | undef => exact hx
    | dead => trivial
    | ru k o l => trivial
    | pe k r o l => trivial
    | pb k o l => obtain ⟨cs, b, h, _⟩ := hx; exact absurd rfl (hb k _ h cs)
    | fb f cs k n qs => obtain ⟨vs, cells, b, _, h, _⟩ := hx; exact absurd rfl (hb k _ h cells)
    | rs k =>
      obtain ⟨sz, rows, h1, h2⟩ := hx
      refine ⟨true, sz, rows, by rw [find_asDeep, h1]; rfl, ?_⟩
      simp only [L']
      cases hbk : L.blk k with
      | none => simp only [hbk] at h2; exact ⟨Or.inl h2, fun _ => h2⟩
      | some b => simp only [hbk] at h2; exact h2
    | ds k =>
      obtain ⟨ap, sz, rows, h1, h2⟩ := hx
      exact ⟨ap, sz, rows, by rw [find_asDeep, h1]; rfl, h2⟩
    | dp k r o l =>
      obtain ⟨ap, sz, rows, b, h1, h2⟩ := hx
      exact ⟨ap, sz, rows, b, by rw [find_asDeep, h1]; rfl, h2⟩
    | dn k r j =>
      obtain ⟨ap, sz, rows, h1, h2, h3, h4⟩ := hx
      have hA : ¬ isA k := fun ⟨_, _, h⟩ => by rw [h1] at h; cases h
      exact ⟨ap, sz, rows, by rw [find_asDeep, h1]; rfl, h2, by simp only [L', hA, if_false]; exact h3, h4⟩

/-! ### nil slices are own ones -/
theorem topK_lt : ∀ {H : Heap} {k : Nat} {o : Ob}, find H k = some o → k < topK H
  | [], k, o, h => by simp [find] at h
  | (k0, o0) :: H, k, o, h => by
    simp only [find] at h
    unfold topK
    split at h
    · rename_i e
      have e := beq_iff.1 e
      subst e
      split
      · rename_i e2; exact Nat.le_of_ble_eq_true e2
      · exact Nat.lt_succ_self _
    · have ih := topK_lt h
      split
      · exact ih
      · rename_i e2
        have : ¬ k0 + 1 ≤ topK H := fun h => by rw [Nat.ble_eq_true_of_le h] at e2; cases e2
        omega
theorem find_app : ∀ (H N : Heap) (k : Nat), find (H ++ N) k = match find H k with | some o => some o | none => find N k
  | [], N, k => rfl
  | (k0, o0) :: H, N, k => by
    simp only [List.cons_append, find]
    cases Nat.beq k0 k with
    | true => rfl
    | false => exact find_app H N k
def nilN (n : Nat) (N : Heap) : Prop := ∀ p ∈ N, n ≤ p.1 ∧ ∃ sz, p.2 = .deep true sz []
theorem nilN_find : ∀ {n : Nat} {N : Heap} {k : Nat} {o : Ob}, nilN n N → find N k = some o → n ≤ k ∧ ∃ sz, o = .deep true sz []
  | n, [], k, o, _, h => by simp [find] at h
  | n, (k0, o0) :: N, k, o, hN, h => by
    simp only [find] at h
    split at h
    · rename_i e
      have e := beq_iff.1 e
      subst e
      cases h
      exact hN _ (List.mem_cons_self ..)
    · exact nilN_find (fun p hp => hN p (List.mem_cons_of_mem _ hp)) h
theorem nilN_mem : ∀ {n : Nat} {N : Heap} {k : Nat} {o : Ob}, nilN n N → (k, o) ∈ N → ∃ sz, find N k = some (.deep true sz [])
  | n, [], k, o, _, h => by simp at h
  | n, (k0, o0) :: N, k, o, hN, h => by
    simp only [find]
    cases e : Nat.beq k0 k with
    | true =>
      obtain ⟨_, sz, h2⟩ := hN _ (List.mem_cons_self ..)
      exact ⟨sz, by simpa using h2⟩
    | false =>
      rcases List.mem_cons.1 h with h | h
      · cases h; rw [beq_iff.2 rfl] at e; cases e
      · exact nilN_mem (fun p hp => hN p (List.mem_cons_of_mem _ hp)) h
theorem ownNX_len : ∀ (xs : List XV) (n : Nat), (ownNX xs n).length = xs.length
  | [], n => rfl
  | x :: xs, n => by
    unfold ownNX
    split <;> simp [ownNX_len xs]
theorem ownNX_get : ∀ {xs : List XV} {n i : Nat} {y : XV}, (ownNX xs n)[i]? = some y → ∃ x, xs[i]? = some x ∧ (y = x ∨ ∃ sz m, x = .nil sz ∧ y = .ds m ∧ (m, Ob.deep true sz []) ∈ ownNH xs n)
  | [], n, i, y, h => by simp [ownNX] at h
  | x :: xs, n, i, y, h => by
    unfold ownNX at h
    split at h
    · rename_i sz
      cases i with
      | zero =>
        simp only [List.getElem?_cons_zero, Option.some.injEq] at h
        subst h
        exact ⟨_, rfl, .inr ⟨sz, n, rfl, rfl, by simp [ownNH]⟩⟩
      | succ i =>
        simp only [List.getElem?_cons_succ] at h
        obtain ⟨x', h1, h2⟩ := ownNX_get h
        refine ⟨x', by simpa using h1, h2.imp id fun ⟨sz', m, q1, q2, q3⟩ => ⟨sz', m, q1, q2, ?_⟩⟩
        simp only [ownNH]
        exact List.mem_cons_of_mem _ q3
    · rename_i hx
      have e : ownNH (x :: xs) n = ownNH xs n := by
        conv => lhs; unfold ownNH
        split
        · rename_i sz; exact absurd rfl (hx sz)
        · rfl
      rw [e]
      cases i with
      | zero =>
        simp only [List.getElem?_cons_zero, Option.some.injEq] at h
        subst h
        exact ⟨_, rfl, .inl rfl⟩
      | succ i =>
        simp only [List.getElem?_cons_succ] at h
        obtain ⟨x', h1, h2⟩ := ownNX_get h
        exact ⟨x', by simpa using h1, h2⟩
theorem ownNH_nil : ∀ (xs : List XV) (n m : Nat), m ≤ n → nilN m (ownNH xs n)
  | [], n, m, _ => fun p hp => by simp [ownNH] at hp
  | x :: xs, n, m, h => fun p hp => by
    unfold ownNH at hp
    split at hp
    · rename_i sz
      rcases List.mem_cons.1 hp with hp | hp
      · subst hp; exact ⟨h, sz, rfl⟩
      · exact ownNH_nil xs (n + 1) m (by omega) p hp
    · exact ownNH_nil xs n m h p hp
theorem ownNTH_nil : ∀ (vs : List (Bool × List XV)) (n m : Nat), m ≤ n → nilN m (ownNTH vs n)
  | [], n, m, _ => fun p hp => by simp [ownNTH] at hp
  | (b, xs) :: vs, n, m, h => fun p hp => by
    simp only [ownNTH, List.mem_append] at hp
    rcases hp with hp | hp
    · exact ownNH_nil xs n m h p hp
    · exact ownNTH_nil vs _ m (by omega) p hp
theorem ownNT_len : ∀ (vs : List (Bool × List XV)) (n : Nat), (ownNT vs n).length = vs.length
  | [], n => rfl
  | (b, xs) :: vs, n => by simp [ownNT, ownNT_len vs]
theorem ownNT_get : ∀ {vs : List (Bool × List XV)} {n i : Nat} {b : Bool} {ys : List XV}, (ownNT vs n)[i]? = some (b, ys) → ∃ xs m, vs[i]? = some (b, xs) ∧ ys = ownNX xs m ∧ ∀ p ∈ ownNH xs m, p ∈ ownNTH vs n
  | [], n, i, b, ys, h => by simp [ownNT] at h
  | (b0, xs) :: vs, n, i, b, ys, h => by
    simp only [ownNT] at h
    cases i with
    | zero =>
      simp only [List.getElem?_cons_zero, Option.some.injEq, Prod.mk.injEq] at h
      obtain ⟨rfl, rfl⟩ := h
      exact ⟨xs, n, rfl, rfl, fun p hp => by simp [ownNTH, hp]⟩
    | succ i =>
      simp only [List.getElem?_cons_succ] at h
      obtain ⟨xs', m, h1, h2, h3⟩ := ownNT_get h
      exact ⟨xs', m, by simpa using h1, h2, fun p hp => by simp [ownNTH, h3 p hp]⟩

theorem nil_rep {O : Nat → Prop} {H N : Heap} (hN : nilN (topK H) N) (hok : HeapOK O L H I w) : ∃ L', HeapOK O L' (H ++ N) I w ∧ (∀ v x, RepX L H I w v x → RepX L' (H ++ N) I w v x) ∧ ∀ m sz, (m, Ob.deep true sz []) ∈ N → RepX L' (H ++ N) I w (.slice none 0 0) (.ds m) := by
  have hfo : ∀ {k o}, find H k = some o → find (H ++ N) k = some o := fun {k o} h => by rw [find_app, h]
  have hfn : ∀ {k o}, find (H ++ N) k = some o → find H k = some o ∨ (topK H ≤ k ∧ ∃ sz, o = .deep true sz []) := fun {k o} h => by
    rw [find_app] at h
    cases e : find H k with
    | some o' => rw [e] at h; exact .inl h
    | none => rw [e] at h; exact .inr (nilN_find hN h)
  let L' : Lay := ⟨fun k => if k < topK H then L.blk k else none, L.cap, fun k => if k < topK H then L.fp k else fun _ => False, L.hd⟩
  have hb : ∀ {k o}, find H k = some o → L'.blk k = L.blk k := fun {k o} h => by simp only [L']; rw [if_pos (topK_lt h)]
  have hp : ∀ {k o}, find H k = some o → L'.fp k = L.fp k := fun {k o} h => by simp only [L']; rw [if_pos (topK_lt h)]
  have hft : ∀ {k b}, Foot L' k b → k < topK H ∧ Foot L k b := fun {k b} h => by
    by_cases hk : k < topK H
    · refine ⟨hk, ?_⟩
      rcases h with h | h
      · simp only [L', hk, if_true] at h; exact .inl h
      · simp only [L', hk, if_true] at h; exact .inr h
    · rcases h with h | h
      · simp only [L', hk, if_false] at h; cases h
      · simp only [L', hk, if_false] at h
  have hX : ∀ v x, RepX L H I w v x → RepX L' (H ++ N) I w v x := fun v x hx => by
    cases x with
    | c y => exact hx
    | nil sz => exact hx
    | undef => exact hx
    | dead => trivial
    | rs k => obtain ⟨sz, rows, h1, h2⟩ := hx; exact ⟨sz, rows, hfo h1, by rw [hb h1]; exact h2⟩
    | ru k o l => obtain ⟨sz, rows, h1, h3, h2⟩ := hx; exact ⟨sz, rows, hfo h1, h3, by rw [hb h1]; exact h2⟩
    | pb k o l => obtain ⟨cs, b, h1, h2, h3⟩ := hx; exact ⟨cs, b, hfo h1, by rw [hb h1]; exact h2, h3⟩
    | pe k r o l => obtain ⟨sz, rows, b, h1, h2, h3⟩ := hx; exact ⟨sz, rows, b, hfo h1, by rw [hb h1]; exact h2, h3⟩
    | ds k => obtain ⟨a, sz, rows, h1, h2⟩ := hx; exact ⟨a, sz, rows, hfo h1, by rw [hb h1]; exact h2⟩
    | dp k r o l => obtain ⟨a, sz, rows, b, h1, h2, h3⟩ := hx; exact ⟨a, sz, rows, b, hfo h1, by rw [hb h1]; exact h2, h3⟩
    | dn k r j => obtain ⟨a, sz, rows, h1, h2, h3⟩ := hx; exact ⟨a, sz, rows, hfo h1, h2, h3⟩
    | fb f cs k n qs => obtain ⟨vs, cells, b, h1, h2, h3, h4⟩ := hx; exact ⟨vs, cells, b, h1, hfo h2, by rw [hb h2]; exact h3, h4⟩
  refine ⟨L', ⟨fun k o hk => ?_, fun k o b hk hbb => ?_, fun k k' o o' b hk hk' hb1 hb2 => ?_⟩, hX, fun m sz hm => ?_⟩
  · rcases hfn hk with h | ⟨h, sz, rfl⟩
    · have ho := hok.ob k o h
      cases o with
      | box cs =>
        obtain ⟨b, vs, e, fr, h1, h2, h3, h4, h5⟩ := ho
        exact ⟨b, vs, e, fr, by rw [hb h]; exact h1, h2, h3, h4, h5.1, fun i x v q1 q2 => hX v x (h5.2 i x v q1 q2)⟩
      | arr sz rows => simp only [RepO] at ho ⊢; rw [hb h]; exact ho
      | deep a sz rows => simp only [RepO] at ho ⊢; rw [hb h, hp h]; exact ho
    · simp only [RepO, L']
      rw [if_neg (by omega)]
      trivial
  · obtain ⟨h1, h2⟩ := hft hbb
    rcases hfn hk with h | ⟨h, _⟩
    · exact hok.own k o b h h2
    · omega
  · obtain ⟨h1, h2⟩ := hft hb1
    obtain ⟨h3, h4⟩ := hft hb2
    rcases hfn hk with h | ⟨h, _⟩
    · rcases hfn hk' with h' | ⟨h', _⟩
      · exact hok.inj k k' o o' b h h' h2 h4
      · omega
    · omega
  · obtain ⟨sz', h⟩ := nilN_mem hN hm
    have hk := (nilN_find hN h).1
    have hf : find (H ++ N) m = some (.deep true sz' []) := by
      rw [find_app]
      cases e : find H m with
      | some o => have := topK_lt e; omega
      | none => exact h
    refine ⟨true, sz', [], hf, ?_⟩
    simp only [L']
    rw [if_neg (by omega)]
    exact ⟨.inl rfl, by simp⟩

theorem ownN_rep {O : Nat → Prop} {r : Res} {v : Value} (hok : HeapOK O L r.2 I w) (hv : RepP L r.2 I w v r.1) : ∃ L', HeapOK O L' (ownN r).2 I w ∧ RepP L' (ownN r).2 I w v (ownN r).1 := by
  obtain ⟨pv, H⟩ := r
  simp only at hok hv
  have xs_rep : ∀ {N : Heap} {L' : Lay} {vs : Array Value} {xs : List XV} {m : Nat}, (∀ v x, RepX L H I w v x → RepX L' (H ++ N) I w v x) → (∀ m sz, (m, Ob.deep true sz []) ∈ N → RepX L' (H ++ N) I w (.slice none 0 0) (.ds m)) → (∀ p ∈ ownNH xs m, p ∈ N) → RepXs L H I w vs xs → RepXs L' (H ++ N) I w vs (ownNX xs m) := fun {N L' vs xs m} h1 h2 h3 h4 => by
    refine ⟨by rw [ownNX_len]; exact h4.1, fun i y u hy hu => ?_⟩
    obtain ⟨x, q1, q2⟩ := ownNX_get hy
    have hx := h4.2 i x u q1 hu
    rcases q2 with rfl | ⟨sz, m', rfl, rfl, q3⟩
    · exact h1 _ _ hx
    · have : u = .slice none 0 0 := hx
      subst this
      exact h2 _ _ (h3 _ q3)
  cases pv with
  | one x =>
    cases x with
    | nil sz =>
      obtain ⟨L', q1, q2, q3⟩ := nil_rep (N := [(topK H, .deep true sz [])]) (fun p hp => by simp only [List.mem_singleton] at hp; subst hp; exact ⟨Nat.le_refl _, sz, rfl⟩) hok
      have : v = .slice none 0 0 := hv
      subst this
      exact ⟨L', q1, q3 _ sz (List.mem_singleton.2 rfl)⟩
    | _ => exact ⟨L, hok, hv⟩
  | agg xs =>
    obtain ⟨L', q1, q2, q3⟩ := nil_rep (ownNH_nil xs _ _ (Nat.le_refl _)) hok
    obtain ⟨vs, rfl, hxs⟩ := hv
    exact ⟨L', q1, vs, rfl, xs_rep q2 q3 (fun p hp => hp) hxs⟩
  | tup ps =>
    obtain ⟨L', q1, q2, q3⟩ := nil_rep (ownNTH_nil ps _ _ (Nat.le_refl _)) hok
    obtain ⟨vs, rfl, hl, hps⟩ := hv
    refine ⟨L', q1, vs, rfl, by rw [ownNT_len]; exact hl, fun i p u hp hu => ?_⟩
    obtain ⟨b, ys⟩ := p
    obtain ⟨xs, m, g1, rfl, g3⟩ := ownNT_get hp
    have hb := hps i (b, xs) u g1 hu
    cases b with
    | true =>
      obtain ⟨us, rfl, hxs⟩ := hb
      exact ⟨us, rfl, xs_rep q2 q3 g3 hxs⟩
    | false =>
      match xs, hb with
      | [x], hx =>
        have h1 := xs_rep (vs := #[u]) (xs := [x]) q2 q3 g3 ⟨rfl, fun i x' v' e1 e2 => by
          cases i with
          | zero => simp at e1 e2; subst e1 e2; exact hx
          | succ i => simp at e1⟩
        have hlen := ownNX_len [x] m
        match hy : ownNX [x] m, hlen with
        | [y], _ =>
          rw [hy] at h1
          exact h1.2 0 y u rfl (by simp)

theorem compK_sound {v : Value} {pv : PV} {K : Bool × List XV → Prop} (h : compK pv K) (hr : RepP L s.heap I w v pv) : ∃ p, K p ∧ RepB L s.heap I w v p := by
  cases pv with
  | one x => exact ⟨_, h, hr⟩
  | agg xs => exact ⟨_, h, hr⟩
  | tup _ => exact h.elim

def oneVal : List Value → Value
  | [v] => v
  | vs => .tuple vs.toArray

theorem load_as {t : TypeId} {v v' : Value} (h : (Instr.loadAt t v).run P w = .ok v' w) : (do loadVar t (← asAddr v) : Sem Value).run P w = .ok v' w := by
  simp only [Instr.loadAt] at h
  cases v with
  | pointer a =>
    cases a with
    | some a => simpa [Instr.sureAddr, asAddr] using h
    | none => simp [Instr.sureAddr] at h
  | _ => simp [Instr.sureAddr] at h

/-- What the machine does to read one result. -/
def resRun (tmps : Array Value) (rv : ResultVar) : Sem Value :=
  match rv with
  | .tmp t => pure (tmps.getD t undef)
  | .cell a t => do loadVar t (← asAddr (tmps.getD a undef))

theorem resVals_sound {tt : TT} (hT : TOK P tt) (hi : Inv C L I s a w) : ∀ {l : List ResultVar} {K : List (Bool × List XV) → Prop}, resVals tt s l K →
    ∃ ps vs, K ps ∧ (l.mapM (resRun a.tmps)).run P w = .ok vs w ∧ vs.length = ps.length ∧ ∀ (i : Nat) (p : Bool × List XV) (v : Value), ps[i]? = some p → vs[i]? = some v → RepB L s.heap I w v p
  | [], K, h => ⟨[], [], h, by simp, rfl, by simp⟩
  | rv :: l, K, h => by
    simp only [resVals] at h
    have hone : ∃ p v, (resVals tt s l fun ps => K (p :: ps)) ∧ (resRun a.tmps rv).run P w = .ok v w ∧ RepB L s.heap I w v p := by
      cases rv with
      | tmp t =>
        obtain ⟨pv, h1, h2⟩ := opd_sound (x := .tmp t) (t := tt 0) hi h
        obtain ⟨p, h3, h4⟩ := compK_sound h1 h2
        exact ⟨p, _, h3, by simp [resRun, Act.eval], h4⟩
      | cell b t =>
        obtain ⟨pv, h1, h2⟩ := opd_sound (x := .tmp b) (t := tt 0) hi h
        obtain ⟨pv', v', h3, h4, h5⟩ := loadK_sound hi (hT t) h1 h2
        obtain ⟨p, h6, h7⟩ := compK_sound h3 h5
        exact ⟨p, v', h6, by unfold resRun; exact load_as h4, h7⟩
    obtain ⟨p, v, h1, h2, h3⟩ := hone
    obtain ⟨ps, vs, g1, g2, g3, g4⟩ := resVals_sound hT hi h1
    refine ⟨p :: ps, v :: vs, g1, by simp [h2, g2], by simp [g3], fun i q u hq hu => ?_⟩
    cases i with
    | zero => simp only [List.getElem?_cons_zero, Option.some.injEq] at hq hu; subst hq hu; exact h3
    | succ i => simp only [List.getElem?_cons_succ] at hq hu; exact g4 i q u hq hu

theorem results_run {fn : Func} {tmps : Array Value} {vs : List Value} (h : (fn.results.toList.mapM (resRun tmps)).run P w = .ok vs w) :
    (results fn tmps).run P w = .ok (oneVal vs) w := by
  have e : results fn tmps = (do let vs ← fn.results.mapM (resRun tmps); pure (if h : vs.size = 1 then vs[0] else .tuple vs)) := rfl
  rw [e]
  simp only [Array.mapM_eq_mapM_toList, Sem.run_bind, Sem.run_map, h]
  match vs with
  | [] => simp [oneVal, h]
  | [v] => simp [oneVal, h]
  | v :: u :: vs => simp [oneVal, h]

theorem resPV_rep {ps : List (Bool × List XV)} {vs : List Value} {H : Heap} (hl : vs.length = ps.length) (hr : ∀ (i : Nat) (p : Bool × List XV) (v : Value), ps[i]? = some p → vs[i]? = some v → RepB L H I w v p) :
    RepP L H I w (oneVal vs) (resPV ps) := by
  have tup : RepP L H I w (.tuple vs.toArray) (.tup ps) := ⟨vs.toArray, rfl, by simp [hl], fun i p v h1 h2 => hr i p v h1 (by simpa using h2)⟩
  match vs, ps, hl with
  | [], [], _ => exact tup
  | [v], [(false, [x])], _ => exact hr 0 _ v rfl rfl
  | [v], [(true, xs)], _ => exact hr 0 _ v rfl rfl
  | [v], [(false, [])], _ => exact (hr 0 _ v rfl rfl).elim
  | [v], [(false, _ :: _ :: _)], _ => exact (hr 0 _ v rfl rfl).elim
  | v :: u :: vs, p :: q :: ps, _ =>
    have : resPV (p :: q :: ps) = .tup (p :: q :: ps) := by
      unfold resPV
      split <;> simp_all
    rw [this]
    exact tup

theorem retK_sound {tt : TT} (hT : TOK P tt) {L0 : Lay} {w0 : World} {I0 : Nat → Prop} {fn : Func} {r : Res} (hi : Inv ⟨w0, fun b => w0.heap.size ≤ b, I0, fun b h => h, L0⟩ L I s a w) {e : Ex} (h : retK tt fn r e s) :
    ∃ v, (results fn a.tmps).run P w = .ok v w ∧ Back I0 w0 r v w := by
  have h : resVals tt s fn.results.toList fun ps => match resPV ps with
    | pv => match dedup (keysP pv) with
      | ks => match canonH s.heap ks 0 with
        | some h => forceP (pv.map (canonX ks)) fun pv => ResOK (pv, h) r
        | none => False := by
    cases e with
    | exit _ => exact h.elim
    | normal => exact h
    | ret => exact h
  obtain ⟨ps, vs, h, hrun, hl, hr⟩ := resVals_sound hT hi h
  simp only [forceP_eq] at h
  refine ⟨_, results_run hrun, ?_⟩
  have hv := resPV_rep hl hr
  generalize oneVal vs = v at *
  generalize hpv : resPV ps = pv at *
  have hnd := dedup_nodup (keysP pv)
  generalize dedup (keysP pv) = ks at *
  have hB : Below w0.heap.size w0 w := ⟨hi.fr.os, hi.fr.tape, hi.fr.output, hi.fr.size, fun b hb => hi.fr.block b hb (by simpa using hb)⟩
  have hI : ∀ b, b < w0.heap.size → I b → I0 b := fun b hb hb' => (hi.Io b hb hb').elim id fun h => absurd h (by simp; omega)
  split at h
  · rename_i hh hc
    have hv' := hv.map' (fun v x hx => RepX.canon hc hx)
    have hok := canon_heap hnd hc hi.heap
    cases h with
    | same h => subst h; exact ⟨hB, _, I, hI, hi.Ib, hv', hok⟩
    | frz h h2 =>
      refine ⟨hB, ⟨fun _ => none, fun _ => 0, fun _ _ => False, fun _ _ => undef⟩, Iall _ hh I, fun b hb hIa => ?_, fun b hIa => ?_, frzP_rep hok (fun b h => h) h hv', ?_⟩
      · rcases hIa with h | ⟨k, o, h3, h4⟩
        · exact hI b hb h
        · have := (hok.own k o b h3 h4).1
          simp only at this; omega
      · rcases hIa with h | ⟨k, o, h3, h4⟩
        · exact hi.Ib b h
        · exact (hok.own k o b h3 h4).2.2
      · rw [h2]
        exact ⟨fun k o h => by simp [find] at h, fun k o b h => by simp [find] at h, fun k k' o o' b h => by simp [find] at h⟩
    | deep h h2 =>
      obtain ⟨L', q1, q2⟩ := asDeep_rep h2 (fun k o hf cs e => ((canonH_get hc).2 k o hf).elim fun k' h => h.2.2.1 cs e) hok
      rw [← h]
      exact ⟨hB, L', I, hI, hi.Ib, hv'.map' q2, q1⟩
    | own h h2 =>
      obtain ⟨L', q1, q2⟩ := asDeep_rep h2 (fun k o hf cs e => ((canonH_get hc).2 k o hf).elim fun k' h => h.2.2.1 cs e) hok
      obtain ⟨L2, q3, q4⟩ := ownN_rep (r := (_, _)) q1 (hv'.map' q2)
      rw [← h]
      exact ⟨hB, L2, I, hI, hi.Ib, q4, q3⟩
  · exact h.elim

/-- A FUNCTION WITH A BODY ANSWERS AS ITS PREDICATE TRANSFORMER SAYS. -/
theorem Sat.intro {tt : TT} (hT : TOK P tt) (hm : P.follows .mixedOrders = true) {f : FuncId} {fn : Func} {c : Code} (hf : P.funcs[f]? = some fn) (hb : fn.body = some c) (hn : (fn.name == "runtime.NumGoroutine") = false)
    {args : List Comp} {r : Res} (h : initK args fn.ntmps fun s => pwp P tt c s (retK tt fn r)) : Sat P f args r := by
  refine ⟨⟨fn, hf, by simp [hb], hn⟩, fun I w vals hI hsz hrep => ?_⟩
  unfold initK at h
  simp only [force_eq] at h
  refine calls_of_wp hf hb ?_
  have hinv : Inv ⟨w, fun b => w.heap.size ≤ b, I, fun b h => h, ⟨fun _ => none, fun _ => 0, fun _ _ => False, fun _ _ => undef⟩⟩ ⟨fun _ => none, fun _ => 0, fun _ _ => False, fun _ _ => undef⟩ I ⟨args.map argP ++ List.replicate (fn.ntmps - args.length) (.one .undef), []⟩ { tmps := vals ++ Array.replicate (fn.ntmps - vals.size) undef, defers := [] } w := by
    refine ⟨by simp [hsz], fun t pv v h1 h2 => ?_, ⟨fun k o h => by simp [find] at h, fun k o b h => by simp [find] at h, fun k k' o o' b h => by simp [find] at h⟩, hI, fun b _ h => Or.inl h, ⟨rfl, rfl, rfl, Nat.le_refl _, fun _ _ _ => rfl⟩, rfl, fun k o _ h => by simp [find] at h⟩
    simp only at h1 h2
    by_cases ht : t < args.length
    · rw [List.getElem?_append_left (by simpa using ht), List.getElem?_map] at h1
      rw [Array.getElem?_append_left (by omega)] at h2
      have e : args[t]? = some args[t] := List.getElem?_eq_getElem ht
      have hr := hrep t args[t] v e h2
      rw [e] at h1
      simp only [Option.map_some, Option.some.injEq] at h1
      subst h1
      generalize args[t] = cc at hr
      match cc, hr with
      | (false, [y]), hr => exact hr
      | (true, ys), hr =>
        obtain ⟨vs, rfl, g1, g2⟩ := hr
        have e : argP (true, ys) = .agg (ys.map .c) := by unfold argP; rfl
        rw [e]
        refine ⟨vs, rfl, by simp [g1], fun i x u h3 h4 => ?_⟩
        rw [List.getElem?_map] at h3
        cases h5 : ys[i]? with
        | none => simp [h5] at h3
        | some y => simp only [h5, Option.map_some, Option.some.injEq] at h3; subst h3; exact g2 i y u h5 h4
    · rw [List.getElem?_append_right (by simpa using Nat.le_of_not_lt ht)] at h1
      rw [Array.getElem?_append_right (by omega)] at h2
      rw [List.getElem?_replicate] at h1
      rw [Array.getElem?_replicate] at h2
      split at h1
      · split at h2
        · cases h1; cases h2; exact rfl
        · cases h2
      · cases h1
  have := pwp_sound (C := ⟨w, fun b => w.heap.size ≤ b, I, fun b h => h, ⟨fun _ => none, fun _ => 0, fun _ _ => False, fun _ _ => undef⟩⟩) hT hm c h hinv
  refine wp_mono this fun e a' w' hq => ?_
  cases e with
  | normal =>
    obtain ⟨s1, L1, I1, h1, h2⟩ := hq
    obtain ⟨v, h3, h4⟩ := retK_sound hT h2 h1
    exact ⟨h2.defers, v, h3, h4⟩
  | ret =>
    obtain ⟨s1, L1, I1, h1, h2⟩ := hq
    obtain ⟨v, h3, h4⟩ := retK_sound hT h2 h1
    exact ⟨h2.defers, v, h3, h4⟩
  | exit i =>
    obtain ⟨s1, L1, I1, h1, h2⟩ := hq
    exact h1.elim
  | outgrown => exact hq.elim
  | goto l => exact hq.elim
  | panic c => exact hq.elim

theorem pinSelf_get : ∀ {ρ : List (Nat × Nat)}, pinSelf ρ = true → ∀ k b, (k, b) ∈ ρ → pinK b = true → k = b
  | [], _, k, b, h, _ => by cases h
  | (x, y) :: ρ, h, k, b, hm, hp => by
    simp only [pinSelf] at h
    split at h
    · split at h
      · rename_i e
        rcases List.mem_cons.1 hm with e2 | hm
        · cases e2; exact beq_iff.1 e
        · exact pinSelf_get h k b hm hp
      · cases h
    · rename_i hp2
      rcases List.mem_cons.1 hm with e2 | hm
      · cases e2; rw [hp] at hp2; cases hp2
      · exact pinSelf_get h k b hm hp

theorem retM_sound {tt : TT} (hT : TOK P tt) {L0 : Lay} {w0 : World} {O I0 : Nat → Prop} {fn : Func} {r : Res} (hi : Inv ⟨w0, fun b => w0.heap.size ≤ b ∨ O b, I0, fun b h => .inl h, L0⟩ L I s a w) {e : Ex} (h : retM tt fn r e s) :
    ∃ v, (results fn a.tmps).run P w = .ok v w ∧ BackM O I0 w0 L0 r v w := by
  have h : resVals tt s fn.results.toList fun ps => match resPV ps with
    | pv => forceN (numbered (under (dedup (keysP pv))) 0 ++ selves (keptKeys s.heap)) fun ρ =>
      match nodupB (ρ.map (·.1)), nodupB (ρ.map (·.2)), pinSelf ρ, renH ρ s.heap ρ with
      | true, true, true, some h => forceP (pv.map (renX ρ)) fun pv => forceH h fun h => (pv, h) = r
      | _, _, _, _ => False := by
    cases e with
    | exit _ => exact h.elim
    | normal => exact h
    | ret => exact h
  obtain ⟨ps, vs, h, hrun, hl, hr⟩ := resVals_sound hT hi h
  simp only [forceN_eq] at h
  refine ⟨_, results_run hrun, ?_⟩
  have hv := resPV_rep hl hr
  generalize oneVal vs = v at *
  generalize hpv : resPV ps = pv at *
  generalize numbered (under (dedup (keysP pv))) 0 ++ selves (keptKeys s.heap) = ρ at h
  split at h
  · rename_i hh n1 n2 hps hH
    simp only [forceP_eq, forceH_eq] at h
    subst h
    have n1 := nodupB_iff n1
    have n2 := nodupB_iff n2
    obtain ⟨hok, hren⟩ := ren_heap n1 n2 hH hi.heap
    obtain ⟨g1, g2⟩ := renH_get hH n2
    refine ⟨⟨hi.fr.os, hi.fr.tape, hi.fr.output, hi.fr.size, fun b hb hO => hi.fr.block b hb (fun h => h.elim (fun h => absurd h (Nat.not_le.2 hb)) hO)⟩, layR ρ L, I, fun b hb hb' => (hi.Io b hb hb').elim .inl fun h => h.elim (fun h => absurd h (Nat.not_le.2 hb)) .inr, hi.Ib, hv.map' hren, ⟨hok.ob, fun k o b h1 h2 => ⟨(hok.own k o b h1 h2).1.1, (hok.own k o b h1 h2).2⟩, hok.inj⟩, fun k o hk hf => ?_⟩
    obtain ⟨k', o', q1, q2, _⟩ := g2 k o hf
    have e := pinSelf_get hps k' k q1 hk
    subst e
    obtain ⟨e1, e2, _⟩ := layR_at L (rold_of_mem n2 q1)
    rw [e1, e2]
    exact hi.pin k' o' hk q2
  · exact h.elim

/-- A FUNCTION THAT IS GIVEN OWN OBJECTS ANSWERS AS ITS PREDICATE TRANSFORMER SAYS. -/
theorem SatM.intro {tt : TT} (hT : TOK P tt) (hm : P.follows .mixedOrders = true) {f : FuncId} {fn : Func} {c : Code} (hf : P.funcs[f]? = some fn) (hb : fn.body = some c) (hn : (fn.name == "runtime.NumGoroutine") = false)
    {args : List PV} {H : Heap} {r : Res} (h : initM args H fn.ntmps fun s => pwp P tt c s (retM tt fn r)) : SatM P f args H r := by
  refine ⟨⟨fn, hf, by simp [hb], hn⟩, fun O I w L0 vals hI hsz hrep hok => ?_⟩
  unfold initM at h
  simp only [force_eq] at h
  refine calls_of_wp hf hb ?_
  have hinv : Inv ⟨w, fun b => w.heap.size ≤ b ∨ O b, I, fun b h => .inl h, L0⟩ L0 I ⟨args ++ List.replicate (fn.ntmps - args.length) (.one .undef), H⟩ { tmps := vals ++ Array.replicate (fn.ntmps - vals.size) undef, defers := [] } w := by
    refine ⟨by simp [hsz], fun t pv v h1 h2 => ?_, ⟨hok.ob, fun k o b h1 h2 => ⟨.inr (hok.own k o b h1 h2).1, (hok.own k o b h1 h2).2⟩, hok.inj⟩, hI, fun b _ h => Or.inl h, ⟨rfl, rfl, rfl, Nat.le_refl _, fun _ _ _ => rfl⟩, rfl, fun k o _ h => ⟨rfl, rfl⟩⟩
    simp only at h1 h2
    by_cases ht : t < args.length
    · rw [List.getElem?_append_left ht] at h1
      rw [Array.getElem?_append_left (by omega)] at h2
      exact hrep t pv v h1 h2
    · rw [List.getElem?_append_right (by omega)] at h1
      rw [Array.getElem?_append_right (by omega)] at h2
      rw [List.getElem?_replicate] at h1
      rw [Array.getElem?_replicate] at h2
      split at h1
      · split at h2
        · cases h1; cases h2; exact rfl
        · cases h2
      · cases h1
  have := pwp_sound (C := ⟨w, fun b => w.heap.size ≤ b ∨ O b, I, fun b h => .inl h, L0⟩) hT hm c h hinv
  refine wp_mono this fun e a' w' hq => ?_
  cases e with
  | normal =>
    obtain ⟨s1, L1, I1, h1, h2⟩ := hq
    obtain ⟨v, h3, h4⟩ := retM_sound hT h2 h1
    exact ⟨h2.defers, v, h3, h4⟩
  | ret =>
    obtain ⟨s1, L1, I1, h1, h2⟩ := hq
    obtain ⟨v, h3, h4⟩ := retM_sound hT h2 h1
    exact ⟨h2.defers, v, h3, h4⟩
  | exit i =>
    obtain ⟨s1, L1, I1, h1, h2⟩ := hq
    exact h1.elim
  | outgrown => exact hq.elim
  | goto l => exact hq.elim
  | panic c => exact hq.elim

end

end Go.Proofs.Ytjolahiflldepab.Pi