/- Plain lemmas on the words of 'Pi'. No statement of the seat is proved here. -/
import Derived.Test.YtjolahiflldepabPiWp
namespace Go.Proofs.Ytjolahiflldepab.Pi
open Go Go.RowKit
set_option linter.unusedVariables false

theorem look_iff {K : PV → Prop} : ∀ {l : List PV} {n : Nat}, look l n K ↔ ∃ v, l[n]? = some v ∧ K v
  | [], n => by simp [look]
  | x :: xs, 0 => by simp [look]
  | x :: xs, n + 1 => by simp [look, look_iff (l := xs)]

theorem setK_iff {v : PV} : ∀ {l : List PV} {n : Nat} {K : List PV → Prop}, setK l n v K ↔ n < l.length ∧ K (l.set n v)
  | [], n, K => by simp [setK]
  | x :: xs, 0, K => by simp [setK]
  | x :: xs, n + 1, K => by simp [setK, setK_iff (l := xs)]

@[simp] theorem forceNat_eq (k : Nat) (K : Nat → Prop) : forceNat k K = K k := by cases k <;> rfl
@[simp] theorem forceB_eq (b : Bool) (K : Bool → Prop) : forceB b K = K b := by cases b <;> rfl
@[simp] theorem forceX_eq (x : XV) (K : XV → Prop) : forceX x K = K x := by cases x <;> simp [forceX]
@[simp] theorem forceXs_eq : ∀ (xs : List XV) (K : List XV → Prop), forceXs xs K = K xs
  | [], K => rfl
  | x :: xs, K => by simp [forceXs, forceXs_eq xs]
@[simp] theorem forceT_eq : ∀ (xs : List (Bool × List XV)) (K : List (Bool × List XV) → Prop), forceT xs K = K xs
  | [], K => rfl
  | (b, x) :: xs, K => by simp [forceT, forceT_eq xs]
@[simp] theorem forceP_eq (x : PV) (K : PV → Prop) : forceP x K = K x := by cases x <;> simp [forceP]
@[simp] theorem forceR_eq : ∀ (xs : List PV) (K : List PV → Prop), forceR xs K = K xs
  | [], K => rfl
  | x :: xs, K => by simp [forceR, forceR_eq xs]
@[simp] theorem forceO_eq (o : Ob) (K : Ob → Prop) : forceO o K = K o := by cases o <;> simp [forceO]
@[simp] theorem forceH_eq : ∀ (h : Heap) (K : Heap → Prop), forceH h K = K h
  | [], K => rfl
  | (k, o) :: h, K => by simp [forceH, forceH_eq h]
@[simp] theorem force_eq (s : St) (K : St → Prop) : force s K = K s := by cases s; simp [force]
@[simp] theorem subK_eq (xs : List XV) (o n : Nat) (K : List XV → Prop) : subK xs o n K = K (sub xs o n) := by simp [subK]

theorem beq_iff {a b : Nat} : Nat.beq a b = true ↔ a = b := by simp
theorem beq_false {a b : Nat} : Nat.beq a b = false ↔ a ≠ b := by rw [← Bool.not_eq_true, beq_iff]

theorem pinK_small {i : Nat} (h : i < 32) : pinK (1000000 + i) = true := by
  have h1 : Nat.ble 1000000 (1000000 + i) = true := by rw [Nat.ble_eq]; omega
  have h2 : Nat.mod (1000000 + i) 64 = i := by show (1000000 + i) % 64 = i; omega
  simp only [pinK, h1, h2]
  rw [Nat.blt_eq]; exact h
theorem pinK_le {k : Nat} (h : pinK k = true) : 1000000 ≤ k := by
  unfold pinK at h
  split at h
  · rename_i h1; exact Nat.le_of_ble_eq_true h1
  · cases h

theorem sub_eq {α : Type} : ∀ (xs : List α) (o n : Nat), sub xs o n = (xs.drop o).take n
  | _, _, 0 => by simp [sub]
  | [], _, _ + 1 => by simp [sub]
  | x :: xs, 0, n + 1 => by simp [sub, sub_eq xs 0 n]
  | x :: xs, o + 1, n + 1 => by simp [sub, sub_eq xs o (n + 1)]

theorem lenIs_iff {α : Type} : ∀ {xs : List α} {n : Nat}, lenIs xs n = true ↔ xs.length = n
  | [], 0 => by simp [lenIs]
  | [], n + 1 => by simp [lenIs]
  | x :: xs, 0 => by simp [lenIs]
  | x :: xs, n + 1 => by simp [lenIs, lenIs_iff (xs := xs)]

/-! ### the heap -/
theorem find_ins (k : Nat) (o : Ob) : ∀ (h : Heap) (k' : Nat), find h k = none → find (ins k o h) k' = if k' = k then some o else find h k'
  | [], k', _ => by
    simp only [ins, find]
    by_cases e : k' = k
    · subst e; simp
    · have : Nat.beq k k' = false := beq_false.2 (Ne.symm e); simp [this, e]
  | (a, o') :: h, k', hk => by
    simp only [find] at hk
    cases hb : Nat.beq a k with
    | true => simp [hb] at hk
    | false =>
      simp only [hb] at hk
      have hne : a ≠ k := beq_false.1 hb
      simp only [ins]
      cases Nat.blt k a with
      | true =>
        simp only [find]
        by_cases e : k' = k
        · subst e; simp
        · have : Nat.beq k k' = false := beq_false.2 (Ne.symm e); simp [this, e]
      | false =>
        simp only [find]
        cases hb2 : Nat.beq a k' with
        | true =>
          have : k' ≠ k := fun e => hne (by rw [beq_iff.1 hb2, e])
          simp [this]
        | false => simpa using find_ins k o h k' hk

theorem find_del (k : Nat) : ∀ (h : Heap) (k' : Nat), find (del k h) k' = if k' = k then none else find h k'
  | [], k' => by simp [del, find]
  | (a, o) :: h, k' => by
    simp only [del]
    cases hb : Nat.beq a k with
    | true =>
      have e := beq_iff.1 hb
      subst e
      simp only [find_del a h k', find]
      by_cases e : k' = a
      · simp [e]
      · have : Nat.beq a k' = false := beq_false.2 (Ne.symm e); simp [this, e]
    | false =>
      simp only [find]
      cases hb2 : Nat.beq a k' with
      | true =>
        have : k' ≠ k := fun e => (beq_false.1 hb) (by rw [beq_iff.1 hb2, e])
        simp [this]
      | false => simpa using find_del k h k'

theorem find_mapX (f : XV → XV) : ∀ (h : Heap) (k : Nat), find (h.mapX f) k = (find h k).map (Ob.map f)
  | [], k => rfl
  | (a, o) :: h, k => by
    have ih := find_mapX f h k
    simp only [Heap.mapX, List.map_cons, find] at ih ⊢
    cases Nat.beq a k <;> simp_all

theorem find_setOb (k : Nat) (o : Ob) : ∀ (h : Heap) (k' : Nat), find (setOb h k o) k' = if k' = k then (find h k).map (fun _ => o) else find h k'
  | [], k' => by simp [setOb, find]
  | (a, o') :: h, k' => by
    simp only [setOb]
    cases hb : Nat.beq a k with
    | true =>
      have e := beq_iff.1 hb
      subst e
      simp only [find]
      by_cases e : k' = a
      · subst e; simp
      · have : Nat.beq a k' = false := beq_false.2 (Ne.symm e); simp [this, e]
    | false =>
      simp only [find, hb, find_setOb k o h k']
      cases hb2 : Nat.beq a k' with
      | true =>
        have : k' ≠ k := fun e => (beq_false.1 hb) (by rw [beq_iff.1 hb2, e])
        simp [this]
      | false => simp

/-! ### contents in other worlds -/
theorem cell_of_block {w w' : World} {p : Addr} (h : w'.heap[p.block]? = w.heap[p.block]?) : w'.cell? p = w.cell? p := by
  simp only [World.cell?, h]
theorem frozen_of_block {w w' : World} {p : Addr} (h : w'.heap[p.block]? = w.heap[p.block]?) : w'.frozen? p = w.frozen? p := by
  simp only [World.frozen?, h]

theorem RepC.mono {I I' : Nat → Prop} {w w' : World} (hI : ∀ b, I b → I' b) (hw : ∀ b, I b → w'.heap[b]? = w.heap[b]?) {v : Value} {c : CV} (h : RepC I w v c) : RepC I' w' v c := by
  induction h with
  | int k n => exact .int k n
  | bool b => exact .bool b
  | str s => exact .str s
  | nil sz => exact .nil sz
  | empty a cap sz => exact .empty a cap sz
  | slice b off cap sz n es vs hb hn hcap hsz hc hr ih =>
    exact .slice b off cap sz n es vs (hI _ hb) hn hcap hsz (fun i r j c h1 h2 => by rw [cell_of_block (hw b hb)]; exact hc i r j c h1 h2) ih
  | ptr b off sz cs vs hb hsz hc hr ih =>
    exact .ptr b off sz cs vs (hI _ hb) hsz (fun j c h1 => by rw [cell_of_block (hw b hb)]; exact hc j c h1) ih
  | fn f vs cs hsz hr ih => exact .fn f vs cs hsz ih
  | nilI => exact .nilI
  | someI t v => exact .someI t v
  | own v sz es h ih => exact .own v sz es ih
  | hole base n cap => exact .hole base n cap

theorem RepX.mono {L : Lay} {H : Heap} {I I' : Nat → Prop} {w w' : World} (hI : ∀ b, I b → I' b) (hw : ∀ b, I b → w'.heap[b]? = w.heap[b]?) {v : Value} {x : XV} (h : RepX L H I w v x) : RepX L H I' w' v x := by
  cases x <;> first
    | exact RepC.mono hI hw h
    | exact h
    | (obtain ⟨vs, cells, b, h1, h2, h3, h4, h5, h6, h7, h8⟩ := h
       exact ⟨vs, cells, b, h1, h2, h3, h4, h5, fun i c u g1 g2 => (h6 i c u g1 g2).mono hI hw, h7, fun i c u g1 g2 => (h8 i c u g1 g2).mono hI hw⟩)

theorem RepXs.mono {L : Lay} {H : Heap} {I I' : Nat → Prop} {w w' : World} (hI : ∀ b, I b → I' b) (hw : ∀ b, I b → w'.heap[b]? = w.heap[b]?) {vs : Array Value} {xs : List XV} (h : RepXs L H I w vs xs) : RepXs L H I' w' vs xs :=
  ⟨h.1, fun i x v h1 h2 => (h.2 i x v h1 h2).mono hI hw⟩

/-- What is asked of a change of contents, pointwise: used for every map of the references. -/
theorem RepB.map' {L L' : Lay} {H H' : Heap} {I I' : Nat → Prop} {w w' : World} {f : XV → XV} (hf : ∀ v x, RepX L H I w v x → RepX L' H' I' w' v (f x)) {v : Value} {p : Bool × List XV} (h : RepB L H I w v p) : RepB L' H' I' w' v (p.1, p.2.map f) := by
  obtain ⟨b, xs⟩ := p
  cases b with
  | true =>
    obtain ⟨vs, rfl, hsz, hr⟩ := h
    refine ⟨vs, rfl, by simpa using hsz, fun i x v h1 h2 => ?_⟩
    rw [List.getElem?_map] at h1
    cases h3 : xs[i]? with
    | none => simp [h3] at h1
    | some y => simp only [h3, Option.map_some, Option.some.injEq] at h1; subst h1; exact hf _ _ (hr i y v h3 h2)
  | false =>
    match xs, h with
    | [x], h => exact hf _ _ h

theorem RepXs.map' {L L' : Lay} {H H' : Heap} {I I' : Nat → Prop} {w w' : World} {f : XV → XV} (hf : ∀ v x, RepX L H I w v x → RepX L' H' I' w' v (f x)) {vs : Array Value} {xs : List XV} (h : RepXs L H I w vs xs) : RepXs L' H' I' w' vs (xs.map f) := by
  obtain ⟨hsz, hr⟩ := h
  refine ⟨by simpa using hsz, fun i x v h1 h2 => ?_⟩
  rw [List.getElem?_map] at h1
  cases h3 : xs[i]? with
  | none => simp [h3] at h1
  | some y => simp only [h3, Option.map_some, Option.some.injEq] at h1; subst h1; exact hf _ _ (hr i y v h3 h2)

theorem RepP.map' {L L' : Lay} {H H' : Heap} {I I' : Nat → Prop} {w w' : World} {f : XV → XV} (hf : ∀ v x, RepX L H I w v x → RepX L' H' I' w' v (f x)) {v : Value} {x : PV} (h : RepP L H I w v x) : RepP L' H' I' w' v (x.map f) := by
  cases x with
  | one x => exact hf _ _ h
  | agg xs => obtain ⟨vs, rfl, h⟩ := h; exact ⟨vs, rfl, h.map' hf⟩
  | tup ps =>
    obtain ⟨vs, rfl, hsz, hr⟩ := h
    refine ⟨vs, rfl, by simpa using hsz, fun i p v h1 h2 => ?_⟩
    rw [List.getElem?_map] at h1
    cases h3 : ps[i]? with
    | none => simp [h3] at h1
    | some q => simp only [h3, Option.map_some, Option.some.injEq] at h1; subst h1; exact (hr i q v h3 h2).map' hf

theorem PV.map_id' (x : PV) : x.map (fun y => y) = x := by
  cases x <;> simp [PV.map]

theorem RepP.mono {L L' : Lay} {H H' : Heap} {I I' : Nat → Prop} {w w' : World} (hf : ∀ v x, RepX L H I w v x → RepX L' H' I' w' v x) {v : Value} {x : PV} (h : RepP L H I w v x) : RepP L' H' I' w' v x := by
  have := RepP.map' (f := fun y => y) hf h
  rwa [PV.map_id'] at this

theorem RepXs.mono' {L L' : Lay} {H H' : Heap} {I I' : Nat → Prop} {w w' : World} (hf : ∀ v x, RepX L H I w v x → RepX L' H' I' w' v x) {vs : Array Value} {xs : List XV} (h : RepXs L H I w vs xs) : RepXs L' H' I' w' vs xs :=
  ⟨h.1, fun i x v h1 h2 => hf _ _ (h.2 i x v h1 h2)⟩

theorem RepC.oneCell {I : Nat → Prop} {w : World} {v : Value} {c : CV} (h : RepC I w v c) : oneCell v := by
  induction h with
  | own v sz es h ih => exact ih
  | _ => exact ⟨nofun, nofun⟩

theorem RepX.oneCell {L : Lay} {H : Heap} {I : Nat → Prop} {w : World} {v : Value} {x : XV} (hl : x.live = true) (h : RepX L H I w v x) : oneCell v := by
  cases x with
  | c y => exact RepC.oneCell h
  | nil sz => cases h; exact ⟨nofun, nofun⟩
  | rs k =>
    obtain ⟨sz, rows, _, h⟩ := h
    cases hb : L.blk k <;> simp only [hb] at h <;> subst h <;> exact ⟨nofun, nofun⟩
  | ru k o l =>
    obtain ⟨_, _, _, _, h⟩ := h
    cases hb : L.blk k with
    | none => simp only [hb] at h; subst h; exact ⟨nofun, nofun⟩
    | some b => simp only [hb] at h; obtain ⟨_, _, _, rfl⟩ := h; exact ⟨nofun, nofun⟩
  | pb k o l => obtain ⟨_, _, _, _, _, rfl⟩ := h; exact ⟨nofun, nofun⟩
  | pe k r o l => obtain ⟨_, _, _, _, _, _, _, rfl⟩ := h; exact ⟨nofun, nofun⟩
  | ds k =>
    obtain ⟨_, _, _, _, h⟩ := h
    cases hb : L.blk k with
    | none =>
      simp only [hb] at h
      rcases h.1 with rfl | ⟨_, _, rfl⟩ <;> exact ⟨nofun, nofun⟩
    | some b => simp only [hb] at h; subst h; exact ⟨nofun, nofun⟩
  | dp k r o l => obtain ⟨_, _, _, _, _, _, _, _, rfl⟩ := h; exact ⟨nofun, nofun⟩
  | dn k r j => obtain ⟨_, _, _, _, _, _, _, _, _, rfl⟩ := h; exact ⟨nofun, nofun⟩
  | fb f cs k n ds => obtain ⟨_, _, _, rfl, _⟩ := h; exact ⟨nofun, nofun⟩
  | undef => cases hl
  | dead => cases hl

theorem oneCell.cells {v : Value} (h : oneCell v) : v.cells = #[v] := by
  cases v <;> first | rfl | exact absurd rfl (h.1 _)

/-! ### deep contents -/
theorem RepD.mono {J J' : Nat → Prop} {w w' : World} {v : Value} {c : CV} (h : RepD w J v c) : (∀ b, J b → J' b) → (∀ b, J b → w'.heap[b]? = w.heap[b]?) → RepD w' J' v c := by
  induction h generalizing J' with
  | int J k n => exact fun _ _ => .int _ k n
  | bool J b => exact fun _ _ => .bool _ b
  | str J s => exact fun _ _ => .str _ s
  | nilI J => exact fun _ _ => .nilI _
  | someI J t v => exact fun _ _ => .someI _ t v
  | nil J sz => exact fun _ _ => .nil _ sz
  | empty J a cap sz => exact fun _ _ => .empty _ a cap sz
  | hole J base n cap => exact fun _ _ => .hole _ base n cap
  | own J v sz rows h hs ih =>
    intro h1 h2
    refine .own J' v sz rows (ih h1 h2) (hs.imp id fun ⟨b, n, cap, vs, e, fr, q1, q2, q3, q4, q5⟩ => ⟨b, n, cap, vs, e, fr, q1, h1 b q2, by rw [h2 b q2, q3], q4, fun o ho => by rw [frozen_of_block (p := ⟨b, o, none⟩) (h2 b q2)]; exact q5 o ho⟩)
  | slice J b cap sz rows vs e fr Js f hJ hcap hsz hb hvs hfz hc hr hJs hdis ih =>
    intro h1 h2
    refine .slice J' b cap sz rows vs e fr Js f (h1 b hJ) hcap hsz (by rw [h2 b hJ, hb]) hvs (fun o ho => by rw [frozen_of_block (p := ⟨b, o, none⟩) (h2 b hJ)]; exact hfz o ho) hc (fun i r j c g1 g2 => ih i r j c g1 g2 (fun b h => h) fun b' hb' => h2 b' (hJs _ b' hb').1) (fun x b' hx => ⟨h1 _ (hJs x b' hx).1, (hJs x b' hx).2⟩) hdis

theorem RepD.toC {J : Nat → Prop} {w : World} {v : Value} {c : CV} (h : RepD w J v c) : RepC J w v c := by
  induction h with
  | int J k n => exact .int k n
  | bool J b => exact .bool b
  | str J s => exact .str s
  | nilI J => exact .nilI
  | someI J t v => exact .someI t v
  | nil J sz => exact .nil sz
  | empty J a cap sz => exact .empty a cap sz
  | own J v sz rows h hs ih => exact .own v sz rows ih
  | hole J base n cap => exact .hole base n cap
  | slice J b cap sz rows vs e fr Js f hJ hcap hsz hb hvs hfz hc hr hJs hdis ih =>
    refine .slice b 0 cap sz rows.length rows (fun i j => f (i * sz + j)) hJ rfl hcap hsz (fun i r j c g1 g2 => ?_) (fun i r j c g1 g2 => (ih i r j c g1 g2).mono (fun b' hb' => (hJs _ b' hb').1) fun _ _ => rfl)
    simp only [World.cell?, hb, Nat.zero_add]
    exact hc i r j c g1 g2

theorem RepD.oneCell {J : Nat → Prop} {w : World} {v : Value} {c : CV} (h : RepD w J v c) : oneCell v := by
  induction h with
  | own J v sz rows h hs ih => exact ih
  | _ => exact ⟨nofun, nofun⟩

theorem RepD.of_flat {I J : Nat → Prop} {w : World} {v : Value} {c : CV} (hc : c.flat = true) (h : RepC I w v c) : RepD w J v c := by
  cases h with
  | int k n => exact .int _ k n
  | bool b => exact .bool _ b
  | str s => exact .str _ s
  | nil sz => exact .nil _ sz
  | empty a cap sz => exact .empty _ a cap sz
  | slice b off cap sz n es vs hI hn hcap hsz hc' hr =>
    cases es with
    | nil => subst hn; exact .empty _ _ _ _
    | cons _ _ => simp [CV.flat] at hc
  | ptr => simp [CV.flat] at hc
  | fn => simp [CV.flat] at hc
  | own => simp [CV.flat] at hc
  | hole => simp [CV.flat] at hc
  | nilI => exact .nilI _
  | someI t v => exact .someI _ t v

theorem RepD.flat_any {J J' : Nat → Prop} {w w' : World} {v : Value} {c : CV} (hc : c.flat = true) (h : RepD w J v c) : RepD w' J' v c := by
  cases h with
  | int k n => exact .int _ _ _
  | bool b => exact .bool _ _
  | str s => exact .str _ _
  | nil sz => exact .nil _ _
  | empty a cap sz => exact .empty _ _ _ _
  | slice J b cap sz rows vs e fr Js f hJ hcap hsz hb hvs hfz hc' hr hJs hdis =>
    cases rows with
    | nil => exact .empty _ _ _ _
    | cons _ _ => simp [CV.flat] at hc
  | nilI => exact .nilI _
  | someI t v => exact .someI _ _ _
  | own => simp [CV.flat] at hc
  | hole => simp [CV.flat] at hc

theorem RepD.nil_empty {J : Nat → Prop} {w : World} {v : Value} {sz : Nat} (h : RepD w J v (.slice sz [])) : emptyV v := by
  generalize hc : CV.slice sz [] = c at h
  cases h <;> simp only [CV.slice.injEq, reduceCtorEq] at hc
  · exact Or.inl rfl
  · exact Or.inr ⟨_, _, rfl⟩
  · obtain ⟨rfl, rfl⟩ := hc; exact Or.inr ⟨_, _, rfl⟩

theorem RepD.isSlice {J : Nat → Prop} {w : World} {v : Value} {sz : Nat} {es : List (List CV)} (h : RepD w J v (.slice sz es)) : ∃ base n cap, v = .slice base n cap := by
  cases h <;> exact ⟨_, _, _, rfl⟩

theorem DRows.mono {J J' : Nat → Prop} {hd : Nat → Value} {w w' : World} {b cap sz : Nat} {rows : List (List CV)} (h : DRows w J hd b cap sz rows) (h1 : ∀ b, J b → J' b) (hb : w'.heap[b]? = w.heap[b]?) (h2 : ∀ b, J b → w'.heap[b]? = w.heap[b]?) : DRows w' J' hd b cap sz rows := by
  obtain ⟨g1, g2, vs, e, fr, Js, g3, g4, g5, g6, g7, g8⟩ := h
  refine ⟨g1, g2, vs, e, fr, Js, by rw [hb, g3], g4, fun o ho => by rw [frozen_of_block (p := ⟨b, o, none⟩) hb]; exact g5 o ho, fun i r j c h3 h4 => ?_, fun x b' hx => h1 b' (g7 x b' hx), g8⟩
  obtain ⟨v, q1, q2, q3⟩ := g6 i r j c h3 h4
  exact ⟨v, q1, q2.mono (fun _ h => h) fun b' hb' => h2 b' (g7 _ b' hb'), q3⟩

/-- An own deep slice, as a part of another one. -/
theorem DRows.toD {J J' : Nat → Prop} {hd : Nat → Value} {w : World} {b cap sz : Nat} {rows : List (List CV)} (h : DRows w J hd b cap sz rows) (hJ : ∀ x, J x → J' x ∧ x ≠ b) (hb : J' b) : RepD w J' (.slice (some ⟨b, 0, none⟩) rows.length cap) (.slice sz rows) := by
  obtain ⟨g1, g2, vs, e, fr, Js, g3, g4, g5, g6, g7, g8⟩ := h
  refine .slice J' b cap sz rows vs e fr Js (fun q => vs.getD q undef) hb g1 g2 g3 g4 g5 (fun i r j c h1 h2 => ?_) (fun i r j c h1 h2 => ?_) (fun x b' hx => hJ b' (g7 x b' hx)) g8
  · obtain ⟨v, q1, q2, q3⟩ := g6 i r j c h1 h2
    simp [q1]
  · obtain ⟨v, q1, q2, q3⟩ := g6 i r j c h1 h2
    have e : vs.getD (i * sz + j) undef = v := by simp [q1]
    rw [e]; exact q2

/-- What a deep slice that is part of another one is by itself. -/
theorem RepD.rows {J : Nat → Prop} {w : World} {v : Value} {sz : Nat} {rows : List (List CV)} (h : RepD w J v (.slice sz rows)) :
    (emptyV v ∧ rows = []) ∨ ∃ b cap hd, v = .slice (some ⟨b, 0, none⟩) rows.length cap ∧ J b ∧ DRows w (fun x => J x ∧ x ≠ b) hd b cap sz rows := by
  generalize hc : CV.slice sz rows = c at h
  cases h <;> simp only [CV.slice.injEq, reduceCtorEq] at hc
  · exact Or.inl ⟨Or.inl rfl, hc.2⟩
  · exact Or.inl ⟨Or.inr ⟨_, _, rfl⟩, hc.2⟩
  · rename_i b cap sz' rows' vs e fr Js f hcap hsz hb hvs hfz hc' hr hdis hJ hJs
    obtain ⟨rfl, rfl⟩ := hc
    refine Or.inr ⟨b, cap, f, rfl, hJ, hcap, hsz, vs, e, fr, Js, hb, hvs, hfz, fun i r j c h1 h2 => ⟨_, hc' i r j c h1 h2, hr i r j c h1 h2, fun _ => rfl⟩, hJs, hdis⟩

end Go.Proofs.Ytjolahiflldepab.Pi
