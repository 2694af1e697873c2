/- Tables, their rows that fit, and the search for global rows, as plain values. No statement of the seat is proved here. -/
import Derived.Test.YtnmoeeneofopcaaGreatPiFNames
import Derived.Test.YtnmoeeneofopcaaGreatPiCx
namespace Go.Proofs.YtnmoeeneofopcaaGreat.Pi
open Go
set_option linter.unusedVariables false

structure Table where
  columns : List Int
  rows : List (List Int)
instance : Enc Table := ⟨fun s => [.slice 1 (s.columns.map Enc.enc), .slice 1 (s.rows.map Enc.enc)], 2, fun s => Enc.ok s.columns ∧ Enc.ok s.rows, fun s => Enc.wt s.columns + Enc.wt s.rows, fun _ => rfl⟩

/-- The cell of a row in a column, or -1. -/
def cellOf : List Int → List Int → Int → Int
  | c :: cs, x :: xs, k => if c = k then x else cellOf cs xs k
  | _, _, _ => -1
def okCell (x : Int) : Bool := decide (0 ≤ x) && decide (x ≤ 3)
def okCol (x : Int) : Bool := decide (0 ≤ x) && decide (x ≤ 7)
def rowBefore (xs : List (List Int)) (i : Nat) (s : List Int) : Bool := decide (i = 0) || match xs[i - 1]? with | some y => decide (cmpL y s < 0) | none => true
def rowStep (t : Table) (i : Nat) (r : List Int) : Bool := decide (r.length = t.columns.length) && (r.all okCell && rowBefore t.rows i r)
def okTable (t : Table) : Bool := (rises t.columns && (t.columns.all okCol && decide (t.rows.length ≤ 24))) && allIx (rowStep t) 0 t.rows
def okTables (l : List Table) : Bool := decide (l.length ≤ 6) && l.all okTable

theorem okTable_row {t : Table} (h : okTable t = true) {r : List Int} (hr : r ∈ t.rows) : r.length = t.columns.length ∧ ∀ x ∈ r, 0 ≤ x ∧ x ≤ 3 := by
  simp only [okTable, Bool.and_eq_true] at h
  obtain ⟨i, hi, rfl⟩ := List.getElem_of_mem hr
  have h2 := allIx_iff.1 h.2 i hi
  simp only [rowStep, Bool.and_eq_true, decide_eq_true_eq, List.all_eq_true, okCell] at h2
  exact ⟨h2.1, h2.2.1⟩

theorem rises_lt {xs : List Int} (h : rises xs = true) : ∀ (i : Nat) (hi : i + 1 < xs.length), xs[i] < xs[i + 1] := fun i hi => by
  have h2 := allIx_iff.1 h (i + 1) hi
  simp only [riseStep, Bool.or_eq_true, decide_eq_true_eq, Nat.add_sub_cancel] at h2
  rw [List.getElem?_eq_getElem (by omega)] at h2
  rcases h2 with h2 | h2
  · omega
  · simpa using h2
theorem rises_pair {xs : List Int} (h : rises xs = true) : xs.Pairwise (· < ·) := by
  rw [List.pairwise_iff_getElem]
  intro i j hi hj hlt
  obtain ⟨d, rfl⟩ : ∃ d, j = i + 1 + d := ⟨j - i - 1, by omega⟩
  clear hlt
  induction d with
  | zero => exact rises_lt h i hj
  | succ d ih => have := ih (by omega); have h3 := rises_lt h (i + 1 + d) (by omega); simp only [Nat.add_assoc] at this h3 ⊢; omega

theorem cellOf_mem : ∀ {cs xs : List Int}, xs.length = cs.length → (∀ x ∈ xs, 0 ≤ x) → ∀ k, 0 ≤ cellOf cs xs k ↔ k ∈ cs
  | [], [], _, _, k => by simp [cellOf]
  | c :: cs, x :: xs, hl, h0, k => by
    simp only [cellOf]
    by_cases e : c = k
    · rw [if_pos e]; subst e; simp; exact h0 x (by simp)
    · rw [if_neg e, cellOf_mem (by simpa using hl) (fun y hy => h0 y (by simp [hy])) k]
      have : ¬ k = c := fun e2 => e e2.symm
      simp [this]
  | [], _ :: _, hl, _, _ => by simp at hl
  | _ :: _, [], hl, _, _ => by simp at hl
theorem cellOf_neg : ∀ {cs xs : List Int} {k : Int}, k ∉ cs → cellOf cs xs k = -1
  | [], _, k, _ => rfl
  | c :: cs, [], k, _ => rfl
  | c :: cs, x :: xs, k, h => by
    simp only [List.mem_cons, not_or] at h
    simp only [cellOf]
    rw [if_neg (fun e => h.1 e.symm), cellOf_neg h.2]
theorem cellOf_get : ∀ {cs xs : List Int}, cs.Nodup → ∀ {i : Nat} (h1 : i < cs.length) (h2 : i < xs.length), cellOf cs xs cs[i] = xs[i]
  | c :: cs, x :: xs, hn, 0, _, _ => by simp [cellOf]
  | c :: cs, x :: xs, hn, i + 1, h1, h2 => by
    simp only [List.nodup_cons] at hn
    have hi : i < cs.length := by simpa using h1
    have hne : c ≠ cs[i] := fun e => hn.1 (e ▸ List.getElem_mem hi)
    simp only [cellOf, List.getElem_cons_succ]
    rw [if_neg hne]
    exact cellOf_get hn.2 hi (by simpa using h2)
theorem cellOf_first : ∀ {cs xs : List Int} {k : Int} {i : Nat} (h1 : i < cs.length) (h2 : i < xs.length), cs[i] = k → (∀ (j : Nat) (h : j < cs.length), j < i → cs[j] ≠ k) → cellOf cs xs k = xs[i]
  | c :: cs, x :: xs, k, 0, _, _, e, _ => by simp only [List.getElem_cons_zero] at e; simp [cellOf, e]
  | c :: cs, x :: xs, k, i + 1, h1, h2, e, h => by
    have h0 := h 0 (by simp) (by omega)
    simp only [List.getElem_cons_zero] at h0
    simp only [cellOf, List.getElem_cons_succ]
    rw [if_neg h0]
    exact cellOf_first (by simpa using h1) (by simpa using h2) (by simpa using e) (fun j hj hlt => by have h3 := h (j + 1) (by simpa using hj) (by omega); rwa [List.getElem_cons_succ] at h3)

/-- The columns of the one that the other has too. -/
def common (a b : List Int) : List Int := a.filter fun c => b.contains c
/-- What the program asks: the cells in all common columns are the same. -/
def fitI (a b row other : List Int) : Bool := decide ((common a b).map (cellOf a row) = (common a b).map (cellOf b other))
/-- What the reference asks. -/
def fitCell (b other : List Int) (p : Int × Int) : Bool := decide (cellOf b other p.1 < 0) || decide (cellOf b other p.1 = p.2)
def fitR (a b x y : List Int) : Bool := (a.zip x).all (fitCell b y)

theorem fitI_iff {a b row other : List Int} : fitI a b row other = true ↔ ∀ c ∈ a, c ∈ b → cellOf a row c = cellOf b other c := by
  unfold fitI
  rw [decide_eq_true_eq, List.map_inj_left]
  simp only [common, List.mem_filter, List.contains_eq_mem, decide_eq_true_eq]
  exact ⟨fun h c h1 h2 => h c ⟨h1, h2⟩, fun h c h1 => h c h1.1 h1.2⟩
theorem fitR_iff {a b x y : List Int} (hn : a.Nodup) (hl : x.length = a.length) (hy : y.length = b.length) (h0 : ∀ z ∈ y, 0 ≤ z) : fitR a b x y = true ↔ ∀ c ∈ a, c ∈ b → cellOf b y c = cellOf a x c := by
  simp only [fitR, List.all_eq_true, fitCell, Bool.or_eq_true, decide_eq_true_eq]
  constructor
  · intro h c hc hb
    obtain ⟨i, hi, rfl⟩ := List.getElem_of_mem hc
    rw [cellOf_get hn hi (by omega)]
    have h2 := h (a[i], x[i]'(by omega)) (by
      rw [List.mem_iff_getElem]
      exact ⟨i, by simp; omega, by simp⟩)
    simp only at h2
    rcases h2 with h2 | h2
    · have := (cellOf_mem hy h0 a[i]).2 hb; omega
    · exact h2
  · intro h p hp
    obtain ⟨i, hi, rfl⟩ := List.mem_iff_getElem.1 hp
    simp only [List.length_zip] at hi
    simp only [List.getElem_zip]
    by_cases hb : a[i] ∈ b
    · right
      rw [h _ (List.getElem_mem _) hb, cellOf_get hn (by omega) (by omega)]
    · left
      rw [cellOf_neg hb]; omega
theorem fit_same {a b row other : List Int} (hb : b.Nodup) (h1 : row.length = a.length) (h2 : other.length = b.length) (h0 : ∀ z ∈ row, 0 ≤ z) : fitI a b row other = fitR b a other row := by
  rw [Bool.eq_iff_iff, fitI_iff, fitR_iff hb h2 h1 h0]
  exact ⟨fun h c hc hc2 => h c hc2 hc, fun h c hc hc2 => h c hc2 hc⟩

/-- Each table has a row with all cells told so far. -/
def supR (l : List Table) (cols row : List Int) : Bool := l.all fun t => t.rows.any fun r => fitR (cols.take row.length) t.columns row r
def supI (l : List Table) (cols row : List Int) : Bool := l.all fun t => t.rows.any fun r => fitI t.columns (cols.take row.length) r row
theorem any_congr {α : Type} {p q : α → Bool} {xs : List α} (h : ∀ x ∈ xs, p x = q x) : xs.any p = xs.any q := by
  rw [Bool.eq_iff_iff, List.any_eq_true, List.any_eq_true]
  exact ⟨fun ⟨x, hx, e⟩ => ⟨x, hx, by rw [← h x hx]; exact e⟩, fun ⟨x, hx, e⟩ => ⟨x, hx, by rw [h x hx]; exact e⟩⟩
theorem all_congr {α : Type} {p q : α → Bool} {xs : List α} (h : ∀ x ∈ xs, p x = q x) : xs.all p = xs.all q := by
  rw [Bool.eq_iff_iff, List.all_eq_true, List.all_eq_true]
  exact ⟨fun h2 x hx => by rw [← h x hx]; exact h2 x hx, fun h2 x hx => by rw [h x hx]; exact h2 x hx⟩
theorem sup_same {l : List Table} {cols row : List Int} (hl : l.all okTable = true) (hc : cols.Nodup) (hr : row.length ≤ cols.length) : supI l cols row = supR l cols row := by
  refine all_congr fun t ht => any_congr fun r hrr => ?_
  obtain ⟨h1, h2⟩ := okTable_row (List.all_eq_true.1 hl t ht) hrr
  exact fit_same (hc.sublist (List.take_sublist _ _)) h1 (by simp; omega) (fun z hz => (h2 z hz).1)

/-- A search: what is left, whether there is no more, the row so far, and what has been found. -/
structure Srch where
  left : Int
  spent : Bool
  row : List Int
  found : List (List Int)
/-- The cells of a column, as the program goes through them. -/
def cellsI (sup : List Int → Bool) (rec : Srch → Srch) : List Int → Srch → Srch
  | [], s => s
  | c :: cs, s =>
    if sup (s.row ++ [c]) = true then
      if s.spent = true then { s with row := s.row ++ [c] }
      else if s.left = 0 then { s with row := s.row ++ [c], spent := true }
      else
        let s2 := rec { s with row := s.row ++ [c], left := s.left - 1 }
        cellsI sup rec cs { s2 with row := s2.row.take (s2.row.length - 1) }
    else cellsI sup rec cs s
def srchI (sup : List Int → Bool) : Nat → Srch → Srch
  | 0, s => if sup s.row = true then { s with found := s.found ++ [s.row] } else s
  | f + 1, s => cellsI sup (srchI sup f) [0, 1, 2, 3] s
/-- As the reference does. -/
def cellsR (sup : List Int → Bool) (rec : Srch → Srch) : List Int → Srch → Srch
  | [], s => s
  | c :: cs, s =>
    if s.spent = true then s
    else if sup (s.row ++ [c]) = true then
      if s.left = 0 then cellsR sup rec cs { s with spent := true }
      else
        let s2 := rec { s with row := s.row ++ [c], left := s.left - 1 }
        cellsR sup rec cs { s2 with row := s2.row.take s.row.length }
    else cellsR sup rec cs s
def srchR (sup : List Int → Bool) : Nat → Srch → Srch
  | 0, s => if sup s.row = true then { s with found := s.found ++ [s.row] } else s
  | f + 1, s => cellsR sup (srchR sup f) [0, 1, 2, 3] s

theorem cellsR_spent (sup : List Int → Bool) (rec : Srch → Srch) (cs : List Int) (s : Srch) (h : s.spent = true) : cellsR sup rec cs s = s := by
  cases cs with
  | nil => rfl
  | cons c cs => simp only [cellsR]; rw [if_pos h]
theorem cellsI_spent (sup : List Int → Bool) (rec : Srch → Srch) : ∀ (cs : List Int) (s : Srch), s.spent = true → (cellsI sup rec cs s).spent = true
  | [], s, h => h
  | c :: cs, s, h => by
    simp only [cellsI]
    split
    · simp only [h, if_true]
    · exact cellsI_spent sup rec cs s h
/-- Spent both, or equal. -/
def SameS (a b : Srch) : Prop := a.spent = b.spent ∧ (a.spent = false → a = b)
theorem cells_same {supa supb : List Int → Bool} {ra rb : Srch → Srch} (m : Nat) (hs : ∀ r, r.length ≤ m + 1 → supa r = supb r) (hrec : ∀ s, s.spent = false → s.row.length = m + 1 → SameS (ra s) (rb s) ∧ ((rb s).spent = false → (rb s).row = s.row)) :
    ∀ (cs : List Int) (s : Srch), s.spent = false → s.row.length = m → SameS (cellsI supa ra cs s) (cellsR supb rb cs s) ∧ ((cellsR supb rb cs s).spent = false → (cellsR supb rb cs s).row = s.row)
  | [], s, h, hm => ⟨⟨rfl, fun _ => rfl⟩, fun _ => rfl⟩
  | c :: cs, s, h, hm => by
    simp only [cellsI, cellsR, h, hs (s.row ++ [c]) (by simp [hm]), Bool.false_eq_true, if_false]
    split
    · split
      · rw [cellsR_spent _ _ _ _ rfl]
        exact ⟨⟨rfl, fun h => by cases h⟩, fun h => by cases h⟩
      · have hr := hrec { s with row := s.row ++ [c], left := s.left - 1 } h (by simp [hm])
        simp only [h] at hr
        generalize ra { left := s.left - 1, spent := false, row := s.row ++ [c], found := s.found } = A at hr ⊢
        generalize rb { left := s.left - 1, spent := false, row := s.row ++ [c], found := s.found } = B at hr ⊢
        obtain ⟨⟨h1, h2⟩, h3⟩ := hr
        rcases Bool.eq_false_or_eq_true B.spent with hb | hb
        · rw [cellsR_spent supb rb cs { B with row := B.row.take s.row.length } hb]
          have h4 := cellsI_spent supa ra cs { A with row := A.row.take (A.row.length - 1) } (by rw [← hb]; exact h1)
          exact ⟨⟨by rw [h4]; exact hb.symm, fun h5 => by rw [h4] at h5; cases h5⟩, fun h5 => by simp only [hb] at h5; cases h5⟩
        · have e := h2 (by rw [h1]; exact hb)
          subst e
          have hrow := h3 hb
          have e1 : A.row.take (A.row.length - 1) = s.row := by rw [hrow]; simp
          have e2 : A.row.take s.row.length = s.row := by rw [hrow]; simp
          rw [e1, e2]
          have := cells_same m hs hrec cs { A with row := s.row } hb hm
          exact this
    · exact cells_same m hs hrec cs s h hm
theorem srch_same {supa supb : List Int → Bool} (n : Nat) (hs : ∀ r, r.length ≤ n → supa r = supb r) : ∀ (f : Nat) (s : Srch), s.spent = false → s.row.length + f = n → SameS (srchI supa f s) (srchR supb f s) ∧ ((srchR supb f s).spent = false → (srchR supb f s).row = s.row)
  | 0, s, h, hm => by
    simp only [srchI, srchR, hs s.row (by omega)]
    split
    · exact ⟨⟨rfl, fun _ => rfl⟩, fun _ => rfl⟩
    · exact ⟨⟨rfl, fun _ => rfl⟩, fun _ => rfl⟩
  | f + 1, s, h, hm => by
    simp only [srchI, srchR]
    exact cells_same s.row.length (fun r hr => hs r (by omega)) (fun s2 h2 h3 => srch_same n hs f s2 h2 (by omega)) _ s h rfl

/-- The row stays short. -/
theorem cellsI_len {sup : List Int → Bool} {rec : Srch → Srch} (n m : Nat) (hm : m + 1 ≤ n) (hrec : ∀ s, s.spent = false → s.row.length = m + 1 → (rec s).row.length ≤ n ∧ m + 1 ≤ (rec s).row.length ∧ ((rec s).spent = false → (rec s).row.length = m + 1)) :
    ∀ (cs : List Int) (s : Srch), s.row.length + 1 ≤ n → m ≤ s.row.length → (s.spent = false → s.row.length = m) → (cellsI sup rec cs s).row.length ≤ n ∧ m ≤ (cellsI sup rec cs s).row.length ∧ ((cellsI sup rec cs s).spent = false → (cellsI sup rec cs s).row.length = m)
  | [], s, h1, h2, h3 => ⟨by simp only [cellsI]; omega, h2, h3⟩
  | c :: cs, s, h1, h2, h3 => by
    simp only [cellsI]
    split
    · split
      · rename_i hsp
        exact ⟨by simp; omega, by simp; omega, fun h => by simp only [hsp] at h; cases h⟩
      · rename_i hsp
        have hsp : s.spent = false := by simpa using hsp
        split
        · exact ⟨by simp; omega, by simp; omega, fun h => by cases h⟩
        · have hr := hrec { s with row := s.row ++ [c], left := s.left - 1 } hsp (by simp [h3 hsp])
          refine cellsI_len n m hm hrec cs _ ?_ ?_ ?_
          · simp only [List.length_take]; omega
          · simp only [List.length_take]; omega
          · intro h; have := hr.2.2 h; simp only [List.length_take]; omega
    · exact cellsI_len n m hm hrec cs s h1 h2 h3
theorem srchI_len {sup : List Int → Bool} (n : Nat) : ∀ (f : Nat) (s : Srch), s.spent = false → s.row.length + f = n → (srchI sup f s).row.length ≤ n ∧ s.row.length ≤ (srchI sup f s).row.length ∧ ((srchI sup f s).spent = false → (srchI sup f s).row.length = s.row.length)
  | 0, s, h, hm => by
    simp only [srchI]
    split
    · exact ⟨by show s.row.length ≤ n; omega, Nat.le_refl _, fun _ => rfl⟩
    · exact ⟨by omega, Nat.le_refl _, fun _ => rfl⟩
  | f + 1, s, h, hm => by
    simp only [srchI]
    exact cellsI_len n s.row.length (by omega) (fun s2 h2 h3 => by
      have := srchI_len (sup := sup) n f s2 h2 (by omega)
      rw [h3] at this; exact this) _ s (by omega) (Nat.le_refl _) (fun _ => rfl)

end Go.Proofs.YtnmoeeneofopcaaGreat.Pi
