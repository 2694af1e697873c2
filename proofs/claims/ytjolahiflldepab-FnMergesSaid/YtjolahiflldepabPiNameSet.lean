/- Names in order, each once; states that are merged; sorting. No statement of the seat is proved here. -/
import Derived.Test.YtjolahiflldepabPiFDiff
namespace Go.Proofs.Ytjolahiflldepab.Pi
open Go
set_option linter.unusedVariables false

/-! ### names in order, each once -/
theorem ord_pw {α : Type} {f : α → ByteArray} {xs : List α} : Ord f xs ↔ xs.Pairwise fun a b => less (f a) (f b) = true := by
  rw [List.pairwise_iff_getElem]
  exact ⟨fun h i j hi hj hlt => h i j hi hj hlt, fun h i j hi hj hlt => h i j hi hj hlt⟩
theorem ord_unique : ∀ {A B : List ByteArray}, Ord id A → Ord id B → (∀ x, x ∈ A ↔ x ∈ B) → A = B
  | [], [], _, _, _ => rfl
  | [], b :: B, _, _, h => by have := (h b).2 (by simp); simp at this
  | a :: A, [], _, _, h => by have := (h a).1 (by simp); simp at this
  | a :: A, b :: B, hA, hB, h => by
    rw [ord_pw, List.pairwise_cons] at hA hB
    simp only [id] at hA hB
    have e : a = b := by
      have h1 := (h a).1 (by simp)
      have h2 := (h b).2 (by simp)
      rcases List.mem_cons.1 h1 with h1 | h1
      · exact h1
      · rcases List.mem_cons.1 h2 with h2 | h2
        · exact h2.symm
        · have := less_trans (hA.1 b h2) (hB.1 a h1)
          rw [less_irrefl] at this; cases this
    subst e
    have hmem : ∀ x, x ∈ A ↔ x ∈ B := fun x => by
      have hx := h x
      simp only [List.mem_cons] at hx
      constructor
      · intro hm
        rcases hx.1 (Or.inr hm) with rfl | hm2
        · have := hA.1 x hm; rw [less_irrefl] at this; cases this
        · exact hm2
      · intro hm
        rcases hx.2 (Or.inr hm) with rfl | hm2
        · have := hB.1 x hm; rw [less_irrefl] at this; cases this
        · exact hm2
    rw [ord_unique (ord_pw.2 hA.2) (ord_pw.2 hB.2) hmem]

/-- A setting put to its place. -/
def insS (e : Setting) : List Setting → Bool → List Setting
  | [], done => if done then [] else [e]
  | x :: xs, done => (if !done && !(less x.name e.name) then [e] else []) ++ ((if x.name.toList == e.name.toList then [] else [x]) ++ insS e xs (done || !(less x.name e.name)))
theorem less_total {a b : ByteArray} (h : less a b = false) (h2 : a ≠ b) : less b a = true := by
  have := bytesLess_total a.toList b.toList
  unfold less at h ⊢
  rw [h] at this
  simp only [Bool.not_false, Bool.true_eq, Bool.or_eq_true, beq_iff_eq] at this
  rcases this with h | h
  · exact h
  · exact absurd (bytes_inj h.symm) h2
theorem insS_done (e : Setting) : ∀ xs : List Setting, insS e xs true = xs.filter fun x => !(x.name.toList == e.name.toList)
  | [] => rfl
  | x :: xs => by
    simp only [insS, Bool.not_true, Bool.false_and, Bool.false_eq_true, if_false, Bool.true_or, List.nil_append, insS_done e xs, List.filter_cons]
    cases x.name.toList == e.name.toList <;> simp
theorem insS_mem (e : Setting) (x : Setting) : ∀ xs : List Setting, x ∈ insS e xs false ↔ x = e ∨ x ∈ xs ∧ x.name ≠ e.name
  | [] => by simp [insS]
  | y :: xs => by
    have hb : ∀ z : Setting, (z.name.toList == e.name.toList) = true ↔ z.name = e.name := fun z => by
      rw [beq_iff_eq]; exact ⟨fun h => bytes_inj h, fun h => by rw [h]⟩
    simp only [insS, Bool.not_false, Bool.true_and, Bool.false_or, List.mem_append]
    cases hl : less y.name e.name with
    | false =>
      simp only [Bool.not_false, if_true, insS_done, List.mem_filter, List.mem_singleton, Bool.not_eq_true', List.mem_cons, List.not_mem_nil, or_false]
      cases hy : (y.name.toList == e.name.toList) with
      | true =>
        have hye := (hb y).1 hy
        simp only [if_true, List.not_mem_nil, false_or]
        constructor
        · rintro (h | ⟨h1, h2⟩)
          · exact Or.inl h
          · exact Or.inr ⟨Or.inr h1, fun h => by rw [(hb x).2 h] at h2; cases h2⟩
        · rintro (h | ⟨h1 | h1, h2⟩)
          · exact Or.inl h
          · subst h1; exact absurd hye h2
          · refine Or.inr ⟨h1, ?_⟩
            cases hc : (x.name.toList == e.name.toList) with
            | false => rfl
            | true => exact absurd ((hb x).1 hc) h2
      | false =>
        simp only [Bool.false_eq_true, if_false, List.mem_singleton]
        constructor
        · rintro (h | h | ⟨h1, h2⟩)
          · exact Or.inl h
          · subst h; exact Or.inr ⟨Or.inl rfl, fun h => by rw [(hb x).2 h] at hy; cases hy⟩
          · exact Or.inr ⟨Or.inr h1, fun h => by rw [(hb x).2 h] at h2; cases h2⟩
        · rintro (h | ⟨h1 | h1, h2⟩)
          · exact Or.inl h
          · exact Or.inr (Or.inl h1)
          · refine Or.inr (Or.inr ⟨h1, ?_⟩)
            cases hc : (x.name.toList == e.name.toList) with
            | false => rfl
            | true => exact absurd ((hb x).1 hc) h2
    | true =>
      have hne : (y.name.toList == e.name.toList) = false := by
        cases hc : (y.name.toList == e.name.toList) with
        | false => rfl
        | true => rw [(hb y).1 hc, less_irrefl] at hl; cases hl
      simp only [Bool.not_true, Bool.false_eq_true, if_false, List.not_mem_nil, false_or, hne, List.mem_singleton, insS_mem e x xs, List.mem_cons, or_false]
      constructor
      · rintro (h | h | ⟨h1, h2⟩)
        · subst h; exact Or.inr ⟨Or.inl rfl, fun h => by rw [(hb x).2 h] at hne; cases hne⟩
        · exact Or.inl h
        · exact Or.inr ⟨Or.inr h1, h2⟩
      · rintro (h | ⟨h1 | h1, h2⟩)
        · exact Or.inr (Or.inl h)
        · exact Or.inl h1
        · exact Or.inr (Or.inr ⟨h1, h2⟩)
theorem insS_ord (e : Setting) : ∀ {xs : List Setting}, Ord Setting.name xs → Ord Setting.name (insS e xs false)
  | [], _ => by rw [ord_pw]; simp [insS]
  | y :: xs, h => by
    have hb : ∀ z : Setting, (z.name.toList == e.name.toList) = true ↔ z.name = e.name := fun z => by
      rw [beq_iff_eq]; exact ⟨fun h => bytes_inj h, fun h => by rw [h]⟩
    rw [ord_pw, List.pairwise_cons] at h
    simp only [insS, Bool.not_false, Bool.true_and, Bool.false_or]
    cases hl : less y.name e.name with
    | false =>
      simp only [Bool.not_false, if_true, insS_done, List.singleton_append]
      have hfil : ∀ z ∈ (if (y.name.toList == e.name.toList) = true then [] else [y]) ++ xs.filter (fun x => !(x.name.toList == e.name.toList)), less e.name z.name = true := fun z hz => by
        rcases List.mem_append.1 hz with hz | hz
        · split at hz
          · simp at hz
          · rename_i hne
            simp only [List.mem_singleton] at hz
            subst hz
            exact less_total hl fun hc => hne ((hb z).2 hc)
        · obtain ⟨hz1, _⟩ := List.mem_filter.1 hz
          have h1 := h.1 z hz1
          by_cases hc : y.name = e.name
          · rw [← hc]; exact h1
          · exact less_trans (less_total hl hc) h1
      rw [ord_pw, List.pairwise_cons]
      refine ⟨hfil, ?_⟩
      have hp : (xs.filter (fun x => !(x.name.toList == e.name.toList))).Pairwise fun a b => less a.name b.name = true := h.2.filter _
      split
      · exact hp
      · exact List.pairwise_cons.2 ⟨fun z hz => h.1 z (List.mem_filter.1 hz).1, hp⟩
    | true =>
      have hne : (y.name.toList == e.name.toList) = false := by
        cases hc : (y.name.toList == e.name.toList) with
        | false => rfl
        | true => rw [(hb y).1 hc, less_irrefl] at hl; cases hl
      simp only [Bool.not_true, Bool.false_eq_true, if_false, hne, List.nil_append, List.singleton_append]
      rw [ord_pw, List.pairwise_cons]
      refine ⟨fun z hz => ?_, ord_pw.1 (insS_ord e (ord_pw.2 h.2))⟩
      rcases (insS_mem e z xs).1 hz with rfl | ⟨hz, _⟩
      · exact hl
      · exact h.1 z hz

/-- All settings, put to their places one after the other. -/
def putAll (acc l : List Setting) : List Setting := l.foldl (fun xs e => insS e xs false) acc
theorem putAll_ord : ∀ {l acc : List Setting}, Ord Setting.name acc → Ord Setting.name (putAll acc l)
  | [], acc, h => h
  | e :: l, acc, h => putAll_ord (l := l) (insS_ord e h)
theorem putAll_mem (t : ByteArray) : ∀ {l acc : List Setting}, (t ∈ (putAll acc l).map (·.name)) ↔ t ∈ acc.map (·.name) ∨ t ∈ l.map (·.name)
  | [], acc => by simp [putAll]
  | e :: l, acc => by
    have h := putAll_mem t (l := l) (acc := insS e acc false)
    have e1 : putAll acc (e :: l) = putAll (insS e acc false) l := rfl
    rw [e1, h]
    simp only [List.mem_map, insS_mem, List.mem_cons]
    constructor
    · rintro (⟨x, rfl | ⟨hx, _⟩, rfl⟩ | ⟨x, hx, rfl⟩)
      · exact Or.inr ⟨x, Or.inl rfl, rfl⟩
      · exact Or.inl ⟨x, hx, rfl⟩
      · exact Or.inr ⟨x, Or.inr hx, rfl⟩
    · rintro (⟨x, hx, rfl⟩ | ⟨x, rfl | hx, rfl⟩)
      · by_cases hc : x.name = e.name
        · exact Or.inl ⟨e, Or.inl rfl, hc.symm⟩
        · exact Or.inl ⟨x, Or.inr ⟨hx, hc⟩, rfl⟩
      · exact Or.inl ⟨x, Or.inl rfl, rfl⟩
      · exact Or.inr ⟨x, hx, rfl⟩
def nameSet (l : List Setting) : List ByteArray := (putAll [] l).map (·.name)
theorem nameSet_ord (l : List Setting) : Ord id (nameSet l) := by
  have h := ord_pw.1 (putAll_ord (l := l) (acc := []) (fun i j hi => by simp at hi))
  rw [ord_pw, nameSet, List.pairwise_map]
  exact h
theorem nameSet_mem {l : List Setting} {t : ByteArray} : t ∈ nameSet l ↔ t ∈ l.map (·.name) := by
  rw [nameSet, putAll_mem]; simp

/-- Equal neighbours are left out. -/
def cpt : List ByteArray → List ByteArray
  | [] => []
  | [x] => [x]
  | x :: y :: r => if y.toList == x.toList then cpt (y :: r) else x :: cpt (y :: r)
theorem cpt_mem (t : ByteArray) : ∀ l : List ByteArray, t ∈ cpt l ↔ t ∈ l
  | [] => by simp [cpt]
  | [x] => by simp [cpt]
  | x :: y :: r => by
    have h := cpt_mem t (y :: r)
    simp only [cpt]
    split
    · rename_i e
      have e := bytes_inj (beq_iff_eq.1 e)
      subst e
      rw [h]; simp
    · rw [List.mem_cons, h, List.mem_cons (a := t) (b := x)]
theorem cpt_ord : ∀ {l : List ByteArray}, l.Pairwise (fun a b => less b a = false) → Ord id (cpt l)
  | [], _ => by rw [ord_pw]; simp [cpt]
  | [x], _ => by rw [ord_pw]; simp [cpt]
  | x :: y :: r, h => by
    have h2 := List.pairwise_cons.1 h
    simp only [cpt]
    split
    · exact cpt_ord h2.2
    · rename_i e
      rw [ord_pw, List.pairwise_cons]
      refine ⟨fun z hz => ?_, ord_pw.1 (cpt_ord h2.2)⟩
      have hz := (cpt_mem z _).1 hz
      have hxy : less x y = true := less_total (h2.1 y (by simp)) fun hc => e (by rw [hc]; simp)
      rcases List.mem_cons.1 hz with rfl | hz
      · exact hxy
      · have hyz := (List.pairwise_cons.1 h2.2).1 z hz
        by_cases hc : y = z
        · exact hc ▸ hxy
        · exact less_trans hxy (less_total hyz fun h => hc h.symm)
theorem cpt_eq {L : List ByteArray} {l : List Setting} (h1 : L.Pairwise (fun a b => less b a = false)) (h2 : ∀ t, t ∈ L ↔ t ∈ l.map (·.name)) : cpt L = nameSet l :=
  ord_unique (cpt_ord h1) (nameSet_ord l) fun t => by rw [cpt_mem, h2, nameSet_mem]

/-! ### states that are merged -/
def getS (xs : List Setting) (t : ByteArray) : Setting := match xs.find? (fun x => x.name.toList == t.toList) with | some x => x | none => ⟨⟨#[]⟩, 0⟩
def eqS (x y : Setting) : Bool := (x.name.toList == y.name.toList) && (x.value == y.value)
theorem get_cases (xs : List Setting) (t : ByteArray) : (getS xs t = ⟨⟨#[]⟩, 0⟩ ∧ valOf xs t = -1 ∧ t ∉ xs.map (·.name)) ∨ ∃ x ∈ xs, getS xs t = x ∧ x.name = t ∧ valOf xs t = x.value := by
  unfold getS valOf
  cases h : xs.find? (fun x => x.name.toList == t.toList) with
  | none =>
    refine Or.inl ⟨rfl, rfl, fun hm => ?_⟩
    obtain ⟨x, hx, rfl⟩ := List.mem_map.1 hm
    have := List.find?_eq_none.1 h x hx
    simp at this
  | some x =>
    have h1 := List.find?_some h
    exact Or.inr ⟨x, List.mem_of_find?_eq_some h, rfl, bytes_inj (beq_iff_eq.1 h1), rfl⟩
def Vals (xs : List Setting) : Prop := ∀ x ∈ xs, 0 ≤ x.value
theorem eq_get {xs ys : List Setting} {t : ByteArray} (hx : Vals xs) (hy : Vals ys) (ht : t.toList ≠ []) : eqS (getS xs t) (getS ys t) = (valOf xs t == valOf ys t) := by
  have hnil : (⟨#[]⟩ : ByteArray).toList = [] := by rw [ByteArray.toList_eq]
  rcases get_cases xs t with ⟨e1, e2, _⟩ | ⟨x, hx1, e1, e2, e3⟩ <;> rcases get_cases ys t with ⟨f1, f2, _⟩ | ⟨y, hy1, f1, f2, f3⟩
  · rw [e1, e2, f1, f2]; simp [eqS]
  · rw [e1, e2, f1, f3]
    have := hy y hy1
    rw [eqS, hnil, f2]
    have h1 : ([] == t.toList) = false := by cases h : t.toList with | nil => exact absurd h ht | cons => rfl
    rw [h1, Bool.false_and]
    have : ¬ (-1 : Int) = y.value := by omega
    simpa using this
  · rw [e1, e3, f1, f2]
    have := hx x hx1
    rw [eqS, hnil, e2]
    have h1 : (t.toList == []) = false := by cases h : t.toList with | nil => exact absurd h ht | cons => rfl
    rw [h1, Bool.false_and]
    have : ¬ x.value = (-1 : Int) := by omega
    simpa using this
  · rw [e1, e3, f1, f3, eqS, e2, f2]; simp
def confT (base a b : List Setting) (t : ByteArray) : Bool := (valOf a t != valOf b t) && ((valOf a t != valOf base t) && (valOf b t != valOf base t))
def mergeV (base a b : List Setting) (t : ByteArray) : Int := if valOf a t == valOf base t then valOf b t else valOf a t
def mergeG (base a b : List Setting) (t : ByteArray) : Setting := if eqS (getS a t) (getS base t) then getS b t else getS a t
theorem mergeG_eq {base a b : List Setting} {t : ByteArray} (h0 : Vals base) (h1 : Vals a) (h2 : Vals b) (ht : t.toList ≠ []) : ((mergeG base a b t).name.toList = [] ∧ mergeV base a b t < 0) ∨ (mergeG base a b t = ⟨t, mergeV base a b t⟩ ∧ 0 ≤ mergeV base a b t) := by
  have hnil : (⟨#[]⟩ : ByteArray).toList = [] := by rw [ByteArray.toList_eq]
  have one : ∀ {xs : List Setting}, Vals xs → ((getS xs t).name.toList = [] ∧ valOf xs t < 0) ∨ (getS xs t = ⟨t, valOf xs t⟩ ∧ 0 ≤ valOf xs t) := fun {xs} h => by
    rcases get_cases xs t with ⟨e1, e2, _⟩ | ⟨x, hx1, e1, e2, e3⟩
    · left; rw [e1, e2]; exact ⟨hnil, by omega⟩
    · right
      have := h x hx1
      rw [e1, e3]
      refine ⟨?_, this⟩
      cases x; simp only at e2; subst e2; rfl
  unfold mergeG mergeV
  rw [eq_get h1 h0 ht]
  split
  · exact one h2
  · exact one h1

/-! ### sorting -/
theorem bytesLess_lt : ∀ x y : List UInt8, Op.bytesLess x y = true ↔ x < y
  | [], [] => by simp [Op.bytesLess]
  | _ :: _, [] => by simp [Op.bytesLess]
  | [], _ :: _ => by simp [Op.bytesLess]
  | a :: x, b :: y => by
    have ih := bytesLess_lt x y
    simp only [Op.bytesLess, Bool.or_eq_true, decide_eq_true_eq, Bool.and_eq_true, beq_iff_eq, List.cons_lt_cons_iff, ih]
theorem bytesLess_le (x y : List UInt8) : decide (x ≤ y) = !(Op.bytesLess y x) := by
  have h := bytesLess_lt y x
  cases hb : Op.bytesLess y x with
  | true =>
    have h1 := h.1 hb
    have : ¬ x ≤ y := fun hc => hc h1
    simp [this]
  | false =>
    have h1 : ¬ y < x := fun hc => by rw [h.2 hc] at hb; cases hb
    have : x ≤ y := h1
    simp [this]
def ofL (l : List UInt8) : ByteArray := ⟨l.toArray⟩
theorem ofL_toList (l : List UInt8) : (ofL l).toList = l := by rw [ByteArray.toList_eq]; simp [ofL]
theorem toList_ofL (b : ByteArray) : ofL b.toList = b := bytes_inj (ofL_toList _)
def srtL (L : List ByteArray) : List (List UInt8) := (L.map ByteArray.toList).mergeSort fun x y => decide (x ≤ y)
def srt (L : List ByteArray) : List ByteArray := (srtL L).map ofL
theorem srt_perm (L : List ByteArray) : (srt L).Perm L := by
  have h := (List.mergeSort_perm (L.map ByteArray.toList) fun x y => decide (x ≤ y)).map ofL
  rw [List.map_map] at h
  have e : L.map (ofL ∘ ByteArray.toList) = L := by
    conv => rhs; rw [← List.map_id L]
    exact List.map_congr_left fun b _ => toList_ofL b
  rw [e] at h
  exact h
theorem srt_pw (L : List ByteArray) : (srt L).Pairwise fun a b => less b a = false := by
  have h := List.pairwise_mergeSort (le := fun x y : List UInt8 => decide (x ≤ y)) (fun a b c h1 h2 => by
    simp only [bytesLess_le, Bool.not_eq_true'] at h1 h2 ⊢
    cases hc : Op.bytesLess c a with
    | false => rfl
    | true =>
      have t1 := bytesLess_total b a
      rw [h1] at t1
      simp only [Bool.not_false, Bool.true_eq, Bool.or_eq_true, beq_iff_eq] at t1
      rcases t1 with t1 | t1
      · rw [bytesLess_trans _ _ _ hc t1] at h2; cases h2
      · subst t1; rw [hc] at h2; cases h2) (fun a b => by
    simp only [bytesLess_le, Bool.or_eq_true, Bool.not_eq_true']
    cases hc : Op.bytesLess b a with
    | false => exact Or.inl rfl
    | true =>
      refine Or.inr ?_
      cases hd : Op.bytesLess a b with
      | false => rfl
      | true =>
        have := bytesLess_trans _ _ _ hc hd
        have h3 := less_irrefl ⟨b.toArray⟩
        unfold less at h3
        rw [ByteArray.toList_eq] at h3
        simp only at h3
        rw [this] at h3; cases h3) (L.map ByteArray.toList)
  rw [srt, List.pairwise_map]
  refine h.imp fun {a b} hab => ?_
  simp only [bytesLess_le, Bool.not_eq_true'] at hab
  rw [less, ofL_toList, ofL_toList]
  exact hab
theorem names_eq (l : List Setting) : cpt (srt (l.map (·.name))) = nameSet l := cpt_eq (srt_pw _) fun t => (srt_perm _).mem_iff

end Go.Proofs.Ytjolahiflldepab.Pi
