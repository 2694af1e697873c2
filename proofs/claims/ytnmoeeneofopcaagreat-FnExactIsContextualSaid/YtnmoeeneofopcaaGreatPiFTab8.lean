/- Lost rows; the reference and the program. No statement of the seat is proved here. -/
import Derived.Test.YtnmoeeneofopcaaGreatPiFTab7
namespace Go.Proofs.YtnmoeeneofopcaaGreat.Pi
open Go
set_option maxRecDepth 10000
set_option maxHeartbeats 6400000
set_option linter.unusedVariables false

/-- The rows with which some row of another table fits. -/
def fitAny (a b : Table) (r : List Int) : Bool := b.rows.any fun w => fitR a.columns b.columns r w
def semiL (a b : Table) (n : Nat) : List (List Int) := (a.rows.take n).filter (fitAny a b)
theorem semiL_len (a b : Table) (n : Nat) : (semiL a b n).length ≤ n := by
  have := List.length_filter_le (fitAny a b) (a.rows.take n)
  rw [List.length_take] at this
  simp only [semiL]; omega
theorem semiL_succ (a b : Table) {n : Nat} (h : n < a.rows.length) : semiL a b (n + 1) = if fitAny a b a.rows[n] = true then semiL a b n ++ [a.rows[n]] else semiL a b n := by
  simp only [semiL, List.take_add_one, List.getElem?_eq_getElem h, Option.toList_some, List.filter_append]
  cases hp : fitAny a b a.rows[n] <;> simp [List.filter, hp]
/-- The places of the rows of a table that are lost, up to some row; those of some tables. -/
def lostRow (P : Table → List Int → Bool) (t : Table) (i k : Nat) : List (List Int) := ((List.range k).filter fun j => !P t (t.rows.getD j [])).map fun (j : Nat) => [(i : Int), (j : Int)]
def lostTab (P : Table → List Int → Bool) (l : List Table) (n : Nat) : List (List Int) := (List.range n).flatMap fun i => lostRow P (l.getD i ⟨[], []⟩) i (l.getD i ⟨[], []⟩).rows.length
theorem lostRow_succ (P : Table → List Int → Bool) (t : Table) (i : Nat) {k : Nat} (h : k < t.rows.length) : lostRow P t i (k + 1) = if P t t.rows[k] = true then lostRow P t i k else lostRow P t i k ++ [[(i : Int), (k : Int)]] := by
  simp only [lostRow, List.range_succ, List.filter_append]
  have e : t.rows.getD k [] = t.rows[k] := by simp [List.getD_eq_getElem?_getD, h]
  simp only [List.filter_cons, List.filter_nil, e]
  cases hp : P t t.rows[k] <;> simp
theorem lostRow_len (P : Table → List Int → Bool) (t : Table) (i k : Nat) : (lostRow P t i k).length ≤ k := by
  have := List.length_filter_le (fun j => !P t (t.rows.getD j [])) (List.range k)
  rw [List.length_range] at this
  simp only [lostRow, List.length_map]; exact this
theorem lostTab_succ (P : Table → List Int → Bool) (l : List Table) {n : Nat} (h : n < l.length) : lostTab P l (n + 1) = lostTab P l n ++ lostRow P l[n] n l[n].rows.length := by
  simp only [lostTab, List.range_succ, List.flatMap_append, List.flatMap_cons, List.flatMap_nil, List.append_nil]
  have e : l.getD n ⟨[], []⟩ = l[n] := by simp [List.getD_eq_getElem?_getD, h]
  rw [e]
theorem lostTab_len (P : Table → List Int → Bool) {l : List Table} (hr : ∀ t ∈ l, t.rows.length ≤ 24) : ∀ n, n ≤ l.length → (lostTab P l n).length ≤ n * 24
  | 0, _ => by simp [lostTab]
  | n + 1, h => by
    have h1 := lostTab_len P hr n (by omega)
    have h2 := lostRow_len P l[n] n l[n].rows.length
    have h3 := hr _ (List.getElem_mem (by omega : n < l.length))
    rw [lostTab_succ P l (by omega), List.length_append]
    omega
def pS (cols : List Int) (found : List (List Int)) (t : Table) (r : List Int) : Bool := (semiL t ⟨cols, found⟩ t.rows.length).any fun x => sameBy sameInt x r
def pI (cols : List Int) (found : List (List Int)) (t : Table) (r : List Int) : Bool := found.any fun w => sameBy sameInt (t.columns.map (cellOf cols w)) r
/-- Rows found have a cell in each column. -/
theorem cellsI_ok {sup : List Int → Bool} {rec : Srch → Srch} (n m : Nat) (hrec : ∀ s, s.spent = false → s.row.length = m + 1 → (∀ x ∈ s.row, 0 ≤ x) → (∀ r ∈ s.found, r.length = n ∧ ∀ x ∈ r, 0 ≤ x) → (∀ r ∈ (rec s).found, r.length = n ∧ ∀ x ∈ r, 0 ≤ x) ∧ ((rec s).spent = false → (rec s).row = s.row)) :
    ∀ (cs : List Int) (s : Srch), (∀ c ∈ cs, 0 ≤ c) → s.spent = false → s.row.length = m → (∀ x ∈ s.row, 0 ≤ x) → (∀ r ∈ s.found, r.length = n ∧ ∀ x ∈ r, 0 ≤ x) → (∀ r ∈ (cellsR sup rec cs s).found, r.length = n ∧ ∀ x ∈ r, 0 ≤ x)
  | [], s, _, _, _, _, h => h
  | c :: cs, s, h0, h1, h2, h3, h4 => by
    have hcs : ∀ x ∈ cs, 0 ≤ x := fun x hx => h0 x (List.mem_cons_of_mem _ hx)
    simp only [cellsR]
    split
    · exact h4
    · split
      · split
        · rw [cellsR_spent sup rec cs { s with spent := true } rfl]; exact h4
        · have hr := hrec { s with row := s.row ++ [c], left := s.left - 1 } h1 (by simp [h2]) (fun x hx => by
            rcases List.mem_append.1 hx with h | h
            · exact h3 x h
            · simp at h; subst h; exact h0 x (by simp)) h4
          generalize rec { s with row := s.row ++ [c], left := s.left - 1 } = R at hr ⊢
          rcases Bool.eq_false_or_eq_true R.spent with hb | hb
          · rw [cellsR_spent sup rec cs { R with row := R.row.take s.row.length } hb]; exact hr.1
          · have hrow := hr.2 hb
            refine cellsI_ok n m hrec cs { R with row := R.row.take s.row.length } hcs hb ?_ ?_ hr.1
            · show (R.row.take s.row.length).length = m
              rw [hrow]; simp [h2]
            · show ∀ x ∈ R.row.take s.row.length, 0 ≤ x
              rw [hrow]; simpa using h3
      · exact cellsI_ok n m hrec cs s hcs h1 h2 h3 h4
theorem srchR_ok {sup : List Int → Bool} (n : Nat) : ∀ (f : Nat) (s : Srch), s.spent = false → s.row.length + f = n → (∀ x ∈ s.row, 0 ≤ x) → (∀ r ∈ s.found, r.length = n ∧ ∀ x ∈ r, 0 ≤ x) → (∀ r ∈ (srchR sup f s).found, r.length = n ∧ ∀ x ∈ r, 0 ≤ x)
  | 0, s, h1, h2, h3, h4 => by
    simp only [srchR]
    split
    · intro r hr
      rcases List.mem_append.1 hr with h | h
      · exact h4 r h
      · simp at h; subst h; exact ⟨by omega, h3⟩
    · exact h4
  | f + 1, s, h1, h2, h3, h4 => by
    simp only [srchR]
    exact cellsI_ok n s.row.length (fun s2 a1 a2 a3 a4 => ⟨srchR_ok n f s2 a1 (by omega) a3 a4, fun _ => srchR_row f s2⟩) _ s (by simp) h1 rfl h3 h4
theorem found_ok {l : List Table} {bud : Int} (h : gCode l bud = 0) : okTables l = true ∧ okBudget bud = true ∧ gEnd l bud = rEnd l bud ∧ ∀ r ∈ (gEnd l bud).found, r.length = (colsR l).length ∧ ∀ x ∈ r, 0 ≤ x := by
  have h1 : okTables l = true := by
    simp only [gCode] at h
    split at h
    · assumption
    · cases h
  have h2 : okBudget bud = true := by
    simp only [gCode, h1, if_true] at h
    split at h
    · assumption
    · cases h
  have h3 : (gEnd l bud).spent = false := by
    simp only [gCode, h1, h2, if_true] at h
    cases hs : (gEnd l bud).spent with
    | false => rfl
    | true => rw [hs] at h; cases h
  have e := (end_same h1 bud).2 h3
  refine ⟨h1, h2, e, ?_⟩
  rw [e]
  exact srchR_ok (colsR l).length (colsR l).length ⟨bud, false, [], []⟩ rfl (by simp) (by simp) (by simp)
theorem found_many {l : List Table} {bud : Int} (h : gCode l bud = 0) : (gEnd l bud).found.length ≤ 65536 := by
  obtain ⟨h1, h2, _, _⟩ := found_ok h
  have hb : 1 ≤ bud ∧ bud ≤ 20000 := by simpa [okBudget] using h2
  have := srchI_many (sup := supI l (colsR l)) (colsR l).length ⟨bud, false, [], []⟩ rfl (by show 0 ≤ bud; omega)
  rw [show srchI (supI l (colsR l)) (colsR l).length ⟨bud, false, [], []⟩ = gEnd l bud from rfl] at this
  have h4 := this.2.2
  simp only [List.length_nil] at h4
  omega
theorem p_same {l : List Table} {bud : Int} (h : gCode l bud = 0) {t : Table} (ht : t ∈ l) {r : List Int} (hr : r ∈ t.rows) : pI (colsR l) (gEnd l bud).found t r = pS (colsR l) (gEnd l bud).found t r := by
  obtain ⟨h1, h2, _, hf⟩ := found_ok h
  obtain ⟨hT, hall⟩ := tabs_ok h1
  have hrl := (hT.each t ht r hr)
  have hcin : ∀ c ∈ t.columns, c ∈ colsR l := fun c hc => colsR_mem.2 ⟨t, ht, hc⟩
  have hcn : t.columns.Nodup := (rises_pair (okTable_cols (List.all_eq_true.1 hall t ht)).1).imp fun h => by omega
  have eS : pS (colsR l) (gEnd l bud).found t r = (gEnd l bud).found.any fun w => fitR t.columns (colsR l) r w := by
    rw [Bool.eq_iff_iff]
    simp only [pS, sameI, semiL, List.take_length, List.any_eq_true, List.mem_filter, decide_eq_true_eq, fitAny]
    constructor
    · rintro ⟨x, ⟨_, hx2⟩, rfl⟩; exact hx2
    · intro hx; exact ⟨r, ⟨hr, hx⟩, rfl⟩
  rw [eS]
  refine any_congr fun w hw => ?_
  obtain ⟨hwl, hw0⟩ := hf w hw
  rw [Bool.eq_iff_iff, sameI, decide_eq_true_eq, fitR_iff hcn hrl hwl hw0]
  constructor
  · intro e c hc _
    obtain ⟨i, hi, rfl⟩ := List.getElem_of_mem hc
    rw [cellOf_get hcn hi (by omega)]
    have : (t.columns.map (cellOf (colsR l) w))[i]? = r[i]? := by rw [e]
    rw [List.getElem?_map, List.getElem?_eq_getElem hi, List.getElem?_eq_getElem (by omega)] at this
    exact Option.some.inj this
  · intro hc
    refine List.ext_getElem (by simp [hrl]) fun i hi hi2 => ?_
    have hi3 : i < t.columns.length := by simpa using hi
    rw [List.getElem_map, hc _ (List.getElem_mem hi3) (hcin _ (List.getElem_mem hi3)), cellOf_get hcn hi3 hi2]
theorem lost_congr {l : List Table} {P Q : Table → List Int → Bool} (h : ∀ t ∈ l, ∀ r ∈ t.rows, P t r = Q t r) : ∀ n, n ≤ l.length → lostTab P l n = lostTab Q l n
  | 0, _ => rfl
  | n + 1, hn => by
    rw [lostTab_succ P l (by omega), lostTab_succ Q l (by omega), lost_congr h n (by omega)]
    have e : lostRow P l[n] n l[n].rows.length = lostRow Q l[n] n l[n].rows.length := by
      simp only [lostRow]
      rw [List.filter_congr fun j hj => ?_]
      have hj := List.mem_range.1 hj
      rw [show l[n].rows.getD j [] = l[n].rows[j] by simp [List.getD_eq_getElem?_getD, hj], h _ (List.getElem_mem _) _ (List.getElem_mem _)]
    rw [e]
def lostOf (l : List Table) (bud : Int) : List (List Int) := if gCode l bud = 0 then lostTab (pS (colsR l) (gEnd l bud).found) l l.length else []

end Go.Proofs.YtnmoeeneofopcaaGreat.Pi
