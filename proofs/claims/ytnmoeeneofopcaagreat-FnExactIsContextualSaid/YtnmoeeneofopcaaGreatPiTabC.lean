/- Columns put in order, each once, by the library and one by one: the same. No statement of the seat is proved here. -/
import Derived.Test.YtnmoeeneofopcaaGreatPiFTab2
import Derived.Test.YtnmoeeneofopcaaGreatPiFSortI
namespace Go.Proofs.YtnmoeeneofopcaaGreat.Pi
open Go
set_option linter.unusedVariables false

theorem keepsI_iff (L : List Int) (j : Nat) (h : j < L.length) : Lib.keeps L.toArray j = true ↔ j = 0 ∨ ∃ h2 : j - 1 < L.length, L[j] ≠ L[j - 1] := by
  unfold Lib.keeps
  rw [decide_eq_true_eq, getElem!_pos L.toArray j (by simpa using h), getElem!_pos L.toArray (j - 1) (by simp; omega)]
  simp only [List.getElem_toArray]
  constructor
  · rintro (h0 | h1)
    · exact .inl h0
    · exact .inr ⟨by omega, fun e => h1 (by rw [e])⟩
  · rintro (h0 | ⟨h2, h1⟩)
    · exact .inl h0
    · exact .inr fun e => h1 e
theorem cptI_get (L : List Int) : cptI L = ((List.range L.length).filter (Lib.keeps L.toArray)).map fun j => L.getD j 0 := by
  have : cptI L = ((List.range L.length).filter (Lib.keeps L.toArray)).map fun j => L.toArray[j]! := by simp [cptI, Lib.compact, Lib.compactUpTo]
  rw [this]
  refine List.map_congr_left fun j hj => ?_
  have hj := List.mem_range.1 (List.mem_filter.1 hj).1
  rw [getElem!_pos L.toArray j (by simpa using hj), List.getD_eq_getElem?_getD, List.getElem?_eq_getElem hj]; simp
theorem cptI_mem {L : List Int} {t : Int} : t ∈ cptI L ↔ t ∈ L := by
  rw [cptI_get]
  constructor
  · intro h
    obtain ⟨j, hj, rfl⟩ := List.mem_map.1 h
    have hj := List.mem_range.1 (List.mem_filter.1 hj).1
    rw [List.getD_eq_getElem?_getD, List.getElem?_eq_getElem hj]
    exact List.getElem_mem hj
  · intro h
    obtain ⟨j, hj, e⟩ := List.getElem_of_mem h
    have key : ∀ (n j : Nat) (hj : j < L.length), j ≤ n → L[j] = t → ∃ i, ∃ hi : i < L.length, L[i] = t ∧ Lib.keeps L.toArray i = true := fun n => by
      induction n with
      | zero =>
        intro j hj hn e
        obtain rfl : j = 0 := by omega
        exact ⟨0, hj, e, (keepsI_iff L 0 hj).2 (.inl rfl)⟩
      | succ n ih =>
        intro j hj hn e
        by_cases h0 : j = 0
        · subst h0; exact ⟨0, hj, e, (keepsI_iff L 0 hj).2 (.inl rfl)⟩
        · by_cases h1 : L[j] = L[j - 1]
          · exact ih (j - 1) (by omega) (by omega) (by rw [← h1, e])
          · exact ⟨j, hj, e, (keepsI_iff L j hj).2 (.inr ⟨by omega, h1⟩)⟩
    obtain ⟨i, hi, e2, hk⟩ := key j j hj (Nat.le_refl _) e
    exact List.mem_map.2 ⟨i, List.mem_filter.2 ⟨List.mem_range.2 hi, hk⟩, by rw [List.getD_eq_getElem?_getD, List.getElem?_eq_getElem hi]; exact e2⟩
theorem cptI_ord {L : List Int} (h : L.Pairwise (· ≤ ·)) : (cptI L).Pairwise (· < ·) := by
  rw [cptI_get, List.pairwise_map]
  have hp := List.pairwise_iff_getElem.1 h
  refine (List.pairwise_lt_range.filter _).imp_of_mem fun {i j} hi hj hij => ?_
  obtain ⟨hi, _⟩ := List.mem_filter.1 hi
  obtain ⟨hj, hk⟩ := List.mem_filter.1 hj
  have hi := List.mem_range.1 hi
  have hj := List.mem_range.1 hj
  rw [List.getD_eq_getElem?_getD, List.getElem?_eq_getElem hi, List.getD_eq_getElem?_getD, List.getElem?_eq_getElem hj]
  show L[i] < L[j]
  rcases (keepsI_iff L j hj).1 hk with h0 | ⟨h2, hne⟩
  · omega
  · have h3 := hp (j - 1) j h2 hj (by omega)
    by_cases e : i = j - 1
    · subst e; omega
    · have h4 := hp i (j - 1) hi h2 (by omega)
      omega
theorem srtI_ord (L : List Int) : (srtI L).Pairwise (· ≤ ·) := by
  have h := List.pairwise_mergeSort (le := fun x y : Int => decide (x ≤ y)) (fun a b c h1 h2 => by simp at h1 h2 ⊢; omega) (fun a b => by simp; omega) L
  exact h.imp fun h => by simpa using h
theorem srtI_mem {L : List Int} {t : Int} : t ∈ srtI L ↔ t ∈ L := (List.mergeSort_perm L _).mem_iff

theorem lt_unique : ∀ {a b : List Int}, a.Pairwise (· < ·) → b.Pairwise (· < ·) → (∀ t, t ∈ a ↔ t ∈ b) → a = b
  | [], [], _, _, _ => rfl
  | [], y :: b, _, _, h => absurd ((h y).2 (by simp)) (by simp)
  | x :: a, [], _, _, h => absurd ((h x).1 (by simp)) (by simp)
  | x :: a, y :: b, ha, hb, h => by
    obtain ⟨ha1, ha2⟩ := List.pairwise_cons.1 ha
    obtain ⟨hb1, hb2⟩ := List.pairwise_cons.1 hb
    have e : x = y := by
      rcases List.mem_cons.1 ((h x).1 (by simp)) with e | h1
      · exact e
      · rcases List.mem_cons.1 ((h y).2 (by simp)) with e | h2
        · exact e.symm
        · have := hb1 x h1; have := ha1 y h2; omega
    subst e
    rw [lt_unique ha2 hb2 fun t => ?_]
    have ht := h t
    constructor
    · intro h1
      rcases List.mem_cons.1 (ht.1 (List.mem_cons_of_mem _ h1)) with e | h2
      · subst e; have := ha1 t h1; omega
      · exact h2
    · intro h1
      rcases List.mem_cons.1 (ht.2 (List.mem_cons_of_mem _ h1)) with e | h2
      · subst e; have := hb1 t h1; omega
      · exact h2
theorem putL_mem {v t : Int} : ∀ {xs : List Int}, t ∈ putL v xs ↔ t = v ∨ t ∈ xs
  | [] => by simp [putL]
  | x :: xs => by
    simp only [putL]
    split
    · rw [List.mem_cons, putL_mem, List.mem_cons]
      constructor
      · rintro (h | h | h)
        · exact .inr (.inl h)
        · exact .inl h
        · exact .inr (.inr h)
      · rintro (h | h | h)
        · exact .inr (.inl h)
        · exact .inl h
        · exact .inr (.inr h)
    · split
      · rename_i e
        subst e
        simp
      · simp
theorem putL_ord (v : Int) : ∀ {xs : List Int}, xs.Pairwise (· < ·) → (putL v xs).Pairwise (· < ·)
  | [], _ => by simp [putL]
  | x :: xs, h => by
    obtain ⟨h1, h2⟩ := List.pairwise_cons.1 h
    simp only [putL]
    split
    · refine List.pairwise_cons.2 ⟨fun t ht => ?_, putL_ord v h2⟩
      rcases putL_mem.1 ht with e | h3
      · omega
      · exact h1 t h3
    · split
      · exact h
      · refine List.pairwise_cons.2 ⟨fun t ht => ?_, h⟩
        rcases List.mem_cons.1 ht with e | h3
        · omega
        · have := h1 t h3; omega
theorem colsTo_mem {t : Int} : ∀ {b a : List Int}, t ∈ colsTo a b ↔ t ∈ a ∨ t ∈ b
  | [], a => by simp [colsTo]
  | c :: b, a => by
    have : colsTo a (c :: b) = colsTo (putL c a) b := rfl
    rw [this, colsTo_mem, putL_mem, List.mem_cons]
    constructor
    · rintro ((h | h) | h)
      · exact .inr (.inl h)
      · exact .inl h
      · exact .inr (.inr h)
    · rintro (h | h | h)
      · exact .inl (.inr h)
      · exact .inl (.inl h)
      · exact .inr h
theorem colsTo_ord : ∀ {b a : List Int}, a.Pairwise (· < ·) → (colsTo a b).Pairwise (· < ·)
  | [], a, h => h
  | c :: b, a, h => colsTo_ord (b := b) (putL_ord c h)
/-- The columns of all tables. -/
def colsR (l : List Table) : List Int := l.foldl (fun acc t => colsTo acc t.columns) []
def colsI (l : List Table) : List Int := cptI (srtI (l.flatMap (·.columns)))
theorem colsF_mem {t : Int} : ∀ {l : List Table} {a : List Int}, t ∈ l.foldl (fun acc t => colsTo acc t.columns) a ↔ t ∈ a ∨ ∃ x ∈ l, t ∈ x.columns
  | [], a => by simp
  | x :: l, a => by
    rw [List.foldl_cons, colsF_mem, colsTo_mem]
    constructor
    · rintro ((h | h) | ⟨y, hy, h⟩)
      · exact .inl h
      · exact .inr ⟨x, by simp, h⟩
      · exact .inr ⟨y, by simp [hy], h⟩
    · rintro (h | ⟨y, hy, h⟩)
      · exact .inl (.inl h)
      · rcases List.mem_cons.1 hy with e | hy
        · subst e; exact .inl (.inr h)
        · exact .inr ⟨y, hy, h⟩
theorem colsF_ord : ∀ {l : List Table} {a : List Int}, a.Pairwise (· < ·) → (l.foldl (fun acc t => colsTo acc t.columns) a).Pairwise (· < ·)
  | [], a, h => h
  | x :: l, a, h => colsF_ord (l := l) (colsTo_ord h)
theorem cols_same (l : List Table) : colsI l = colsR l := by
  refine lt_unique (cptI_ord (srtI_ord _)) (colsF_ord List.Pairwise.nil) fun t => ?_
  unfold colsI colsR
  rw [cptI_mem, srtI_mem, colsF_mem]
  simp
theorem colsR_ord (l : List Table) : (colsR l).Pairwise (· < ·) := colsF_ord List.Pairwise.nil
theorem colsR_mem {l : List Table} {t : Int} : t ∈ colsR l ↔ ∃ x ∈ l, t ∈ x.columns := by rw [colsR, colsF_mem]; simp
theorem colsR_len {l : List Table} (h : l.all okTable = true) : (colsR l).length ≤ 8 := by
  have hb : ∀ c ∈ colsR l, 0 ≤ c ∧ c ≤ 7 := fun c hc => by
    obtain ⟨x, hx, h2⟩ := colsR_mem.1 hc
    have h3 := List.all_eq_true.1 h x hx
    simp only [okTable, Bool.and_eq_true, decide_eq_true_eq, List.all_eq_true, okCol] at h3
    exact h3.1.2.1 c h2
  have hp := colsR_ord l
  have hg := List.pairwise_iff_getElem.1 hp
  have key : ∀ (i : Nat) (hi : i < (colsR l).length), (i : Int) ≤ (colsR l)[i] := fun i => by
    induction i with
    | zero => intro hi; exact (hb _ (List.getElem_mem hi)).1
    | succ i ih => intro hi; have h1 := ih (by omega); have h2 := hg i (i + 1) (by omega) hi (by omega); omega
  rcases Nat.eq_zero_or_pos (colsR l).length with h0 | h0
  · omega
  · have h1 := key ((colsR l).length - 1) (by omega)
    have h2 := (hb _ (List.getElem_mem (by omega : (colsR l).length - 1 < (colsR l).length))).2
    omega
end Go.Proofs.YtnmoeeneofopcaaGreat.Pi
