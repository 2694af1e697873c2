/- Lost rows; the reference and the program. No statement of the seat is proved here. -/
import Derived.Test.YtnmoeeneofopcaaPiFTab7
namespace Go.Proofs.Ytnmoeeneofopcaa.Pi
open Go
set_option maxRecDepth 10000
set_option maxHeartbeats 6400000
set_option linter.unusedVariables false

/-- The rows with which some row of another table fits. -/
def fitAny (a b : Table) (r : List Int) : Bool := b.rows.any fun w => fitR a.columns b.columns r w
def semiL (a b : Table) (n : Nat) : List (List Int) := (a.rows.take n).filter (fitAny a b)
theorem semiL_len (a b : Table) (n : Nat) : (semiL a b n).length ≤ n := by
  have := List.length_filter_le (fitAny a b) (a.rows.take n)
  rw [List.length_take] at this
  simp only [semiL]; omega
theorem semiL_succ (a b : Table) {n : Nat} (h : n < a.rows.length) : semiL a b (n + 1) = if fitAny a b a.rows[n] = true then semiL a b n ++ [a.rows[n]] else semiL a b n := by
  simp only [semiL, List.take_add_one, List.getElem?_eq_getElem h, Option.toList_some, List.filter_append]
  cases hp : fitAny a b a.rows[n] <;> simp [List.filter, hp]
theorem s_l20Semi (a b : Table) (ha : a.columns.length ≤ 64) (hb : b.columns.length ≤ 64) (hra : a.rows.length ≤ 1048576) (hrb : b.rows.length ≤ 1048576) (hla : ∀ r ∈ a.rows, r.length = a.columns.length) (hlb : ∀ r ∈ b.rows, b.columns.length ≤ r.length) :
    Sat Try.prog 47 [(false, [.ptr 2 (Enc.enc a)]), (false, [.ptr 2 (Enc.enc b)])] (.agg [.c (.slice 1 (a.columns.map Enc.enc)), .c (.slice 1 ((semiL a b a.rows.length).map Enc.enc))], []) := by
  refine Sat.intro tok mixed Try.func47 rfl rfl ?_
  ((conv => whnf); repeat ((first | refine B0 ?_ | refine B1 ?_ | refine D1 ?_ | refine D2 ?_ | refine CallC.r ?_); conv => whnf))
  refine Pick.mk _ (s_l00Own a.columns (by omega)) ?_
  ((conv => whnf); repeat ((first | refine B0 ?_ | refine B1 ?_ | refine D1 ?_ | refine D2 ?_ | refine CallC.r ?_); conv => whnf))
  refine Pick.mk [0, 1, 4, 5, 6, 3000353] trivial ?_
  ((conv => whnf); repeat ((first | refine B0 ?_ | refine B1 ?_ | refine D1 ?_ | refine D2 ?_ | refine CallC.r ?_); conv => whnf))
  refine LoopL.over (fun (i : Nat) => [(6, .one (.c (.int .i64 ((i : Int)))))]) (fun (i : Nat) => [(353, .arr 1 (List.map Enc.enc (semiL a b i)))]) (fun (i : Nat) => a.rows.length - i) (fun (i : Nat) => i ≤ a.rows.length) ?_ 0 (Nat.zero_le _)
  intro i g1 ih
  ((conv => whnf); repeat ((first | refine B0 ?_ | refine B1 ?_ | refine D1 ?_ | refine D2 ?_ | refine CallC.r ?_); conv => whnf))
  refine Br.mk (fun hi => ?_) (fun hi => ?_) <;> ((conv => whnf); repeat ((first | refine B0 ?_ | refine B1 ?_ | refine D1 ?_ | refine D2 ?_ | refine CallC.r ?_); conv => whnf))
  · have hi : i < a.rows.length := by simp only [List.length_map, decide_eq_true_eq] at hi; omega
    have hli := hla _ (List.getElem_mem hi)
    refine Pick.mk [0, 1, 4, 5, 6, 7, 8] trivial ?_
    ((conv => whnf); repeat ((first | refine B0 ?_ | refine B1 ?_ | refine D1 ?_ | refine D2 ?_ | refine CallC.r ?_); conv => whnf))
    refine LoopL.over (fun (p : Nat × Bool) => [(7, .one (.c (.bool (p.2)))), (8, .one (.c (.int .i64 ((p.1 : Int)))))]) (fun (p : Nat × Bool) => []) (fun (p : Nat × Bool) => b.rows.length - p.1) (fun (p : Nat × Bool) => p.1 ≤ b.rows.length ∧ p.2 = (b.rows.take p.1).any (fun w => fitR a.columns b.columns a.rows[i] w)) ?_ (0, false) ⟨Nat.zero_le _, by simp⟩
    intro ⟨k, f⟩ ⟨f1, f2⟩ ih2
    simp only at f1 f2
    ((conv => whnf); repeat ((first | refine B0 ?_ | refine B1 ?_ | refine D1 ?_ | refine D2 ?_ | refine CallC.r ?_); conv => whnf))
    refine Br.mk (fun hk => ?_) (fun hk => ?_) <;> ((conv => whnf); repeat ((first | refine B0 ?_ | refine B1 ?_ | refine D1 ?_ | refine D2 ?_ | refine CallC.r ?_); conv => whnf))
    · have hk : k < b.rows.length := by simp only [List.length_map, decide_eq_true_eq] at hk; omega
      have hsucc : (b.rows.take (k + 1)).any (fun w => fitR a.columns b.columns a.rows[i] w) = (f || fitR a.columns b.columns a.rows[i] b.rows[k]) := by
        rw [List.take_add_one, List.getElem?_eq_getElem hk, Option.toList_some, List.any_append, ← f2]; simp
      refine Br.mk (fun hf => ?_) (fun hf => ?_) <;> ((conv => whnf); repeat ((first | refine B0 ?_ | refine B1 ?_ | refine D1 ?_ | refine D2 ?_ | refine CallC.r ?_); conv => whnf))
      · have hf : f = true := by simpa using hf
        refine Pick.at64 (z := (k + 1 : Nat)) (by simp) (by omega) ?_
        ((conv => whnf); repeat ((first | refine B0 ?_ | refine B1 ?_ | refine D1 ?_ | refine D2 ?_ | refine CallC.r ?_); conv => whnf))
        exact ih2 (k + 1, true) ⟨by simp only []; omega, by simp only []; rw [hsucc, hf]; rfl⟩ (by simp only []; omega)
      · have hf : f = false := by simpa using hf
        refine Pick.ix (hi) ?_
        ((conv => whnf); repeat ((first | refine B0 ?_ | refine B1 ?_ | refine D1 ?_ | refine D2 ?_ | refine CallC.r ?_); conv => whnf))
        refine Pick.ix (hk) ?_
        ((conv => whnf); repeat ((first | refine B0 ?_ | refine B1 ?_ | refine D1 ?_ | refine D2 ?_ | refine CallC.r ?_); conv => whnf))
        refine Pick.mk _ (s_l20Fit a b a.rows[i] b.rows[k] (by simp only [maxLen]; omega) (by simp only [maxLen]; omega) hli (hlb _ (List.getElem_mem hk))) ?_
        ((conv => whnf); repeat ((first | refine B0 ?_ | refine B1 ?_ | refine D1 ?_ | refine D2 ?_ | refine CallC.r ?_); conv => whnf))
        refine Pick.at64 (z := (k + 1 : Nat)) (by simp) (by omega) ?_
        ((conv => whnf); repeat ((first | refine B0 ?_ | refine B1 ?_ | refine D1 ?_ | refine D2 ?_ | refine CallC.r ?_); conv => whnf))
        exact ih2 (k + 1, fitR a.columns b.columns a.rows[i] b.rows[k]) ⟨by simp only []; omega, by simp only []; rw [hsucc, hf]; rfl⟩ (by simp only []; omega)
    · have hk : k = b.rows.length := by simp only [List.length_map, decide_eq_false_iff_not] at hk; omega
      subst hk
      rw [List.take_length] at f2
      have es := semiL_succ a b hi
      have hsl := semiL_len a b i
      refine Br.mk (fun hf => ?_) (fun hf => ?_) <;> ((conv => whnf); repeat ((first | refine B0 ?_ | refine B1 ?_ | refine D1 ?_ | refine D2 ?_ | refine CallC.r ?_); conv => whnf))
      · have hf : fitAny a b a.rows[i] = true := by rw [← show f = fitAny a b a.rows[i] from f2]; simpa using hf
        rw [if_pos hf] at es
        refine Pick.ix (hi) ?_
        ((conv => whnf); repeat ((first | refine B0 ?_ | refine B1 ?_ | refine D1 ?_ | refine D2 ?_ | refine CallC.r ?_); conv => whnf))
        refine Pick.mk _ (s_l00Own a.rows[i] (by omega)) ?_
        ((conv => whnf); repeat ((first | refine B0 ?_ | refine B1 ?_ | refine D1 ?_ | refine D2 ?_ | refine CallC.r ?_); conv => whnf))
        refine Side.mk (by simp only [List.length_map, List.length_cons, List.length_nil]; omega) ?_
        ((conv => whnf); repeat ((first | refine B0 ?_ | refine B1 ?_ | refine D1 ?_ | refine D2 ?_ | refine CallC.r ?_); conv => whnf))
        refine Pick.at64 (z := (i + 1 : Nat)) (by simp) (by omega) ?_
        ((conv => whnf); repeat ((first | refine B0 ?_ | refine B1 ?_ | refine D1 ?_ | refine D2 ?_ | refine CallC.r ?_); conv => whnf))
        have hn := ih (i + 1) (by omega) (by omega)
        rw [es, List.map_append] at hn
        exact hn
      · have hf : ¬ fitAny a b a.rows[i] = true := by rw [← show f = fitAny a b a.rows[i] from f2]; simpa using hf
        rw [if_neg hf] at es
        refine Pick.at64 (z := (i + 1 : Nat)) (by simp) (by omega) ?_
        ((conv => whnf); repeat ((first | refine B0 ?_ | refine B1 ?_ | refine D1 ?_ | refine D2 ?_ | refine CallC.r ?_); conv => whnf))
        have hn := ih (i + 1) (by omega) (by omega)
        rw [es] at hn
        exact hn
  · have hi : i = a.rows.length := by simp only [List.length_map, decide_eq_false_iff_not] at hi; omega
    subst hi
    exact ResOK.frz rfl rfl

/-- The places of the rows of a table that are lost, up to some row; those of some tables. -/
def lostRow (P : Table → List Int → Bool) (t : Table) (i k : Nat) : List (List Int) := ((List.range k).filter fun j => !P t (t.rows.getD j [])).map fun (j : Nat) => [(i : Int), (j : Int)]
def lostTab (P : Table → List Int → Bool) (l : List Table) (n : Nat) : List (List Int) := (List.range n).flatMap fun i => lostRow P (l.getD i ⟨[], []⟩) i (l.getD i ⟨[], []⟩).rows.length
theorem lostRow_succ (P : Table → List Int → Bool) (t : Table) (i : Nat) {k : Nat} (h : k < t.rows.length) : lostRow P t i (k + 1) = if P t t.rows[k] = true then lostRow P t i k else lostRow P t i k ++ [[(i : Int), (k : Int)]] := by
  simp only [lostRow, List.range_succ, List.filter_append]
  have e : t.rows.getD k [] = t.rows[k] := by simp [List.getD_eq_getElem?_getD, h]
  simp only [List.filter_cons, List.filter_nil, e]
  cases hp : P t t.rows[k] <;> simp
theorem lostRow_len (P : Table → List Int → Bool) (t : Table) (i k : Nat) : (lostRow P t i k).length ≤ k := by
  have := List.length_filter_le (fun j => !P t (t.rows.getD j [])) (List.range k)
  rw [List.length_range] at this
  simp only [lostRow, List.length_map]; exact this
theorem lostTab_succ (P : Table → List Int → Bool) (l : List Table) {n : Nat} (h : n < l.length) : lostTab P l (n + 1) = lostTab P l n ++ lostRow P l[n] n l[n].rows.length := by
  simp only [lostTab, List.range_succ, List.flatMap_append, List.flatMap_cons, List.flatMap_nil, List.append_nil]
  have e : l.getD n ⟨[], []⟩ = l[n] := by simp [List.getD_eq_getElem?_getD, h]
  rw [e]
theorem lostTab_len (P : Table → List Int → Bool) {l : List Table} (hr : ∀ t ∈ l, t.rows.length ≤ 24) : ∀ n, n ≤ l.length → (lostTab P l n).length ≤ n * 24
  | 0, _ => by simp [lostTab]
  | n + 1, h => by
    have h1 := lostTab_len P hr n (by omega)
    have h2 := lostRow_len P l[n] n l[n].rows.length
    have h3 := hr _ (List.getElem_mem (by omega : n < l.length))
    rw [lostTab_succ P l (by omega), List.length_append]
    omega
def pS (cols : List Int) (found : List (List Int)) (t : Table) (r : List Int) : Bool := (semiL t ⟨cols, found⟩ t.rows.length).any fun x => sameBy sameInt x r
def pI (cols : List Int) (found : List (List Int)) (t : Table) (r : List Int) : Bool := found.any fun w => sameBy sameInt (t.columns.map (cellOf cols w)) r
/-- Rows found have a cell in each column. -/
theorem cellsI_ok {sup : List Int → Bool} {rec : Srch → Srch} (n m : Nat) (hrec : ∀ s, s.spent = false → s.row.length = m + 1 → (∀ x ∈ s.row, 0 ≤ x) → (∀ r ∈ s.found, r.length = n ∧ ∀ x ∈ r, 0 ≤ x) → (∀ r ∈ (rec s).found, r.length = n ∧ ∀ x ∈ r, 0 ≤ x) ∧ ((rec s).spent = false → (rec s).row = s.row)) :
    ∀ (cs : List Int) (s : Srch), (∀ c ∈ cs, 0 ≤ c) → s.spent = false → s.row.length = m → (∀ x ∈ s.row, 0 ≤ x) → (∀ r ∈ s.found, r.length = n ∧ ∀ x ∈ r, 0 ≤ x) → (∀ r ∈ (cellsR sup rec cs s).found, r.length = n ∧ ∀ x ∈ r, 0 ≤ x)
  | [], s, _, _, _, _, h => h
  | c :: cs, s, h0, h1, h2, h3, h4 => by
    have hcs : ∀ x ∈ cs, 0 ≤ x := fun x hx => h0 x (List.mem_cons_of_mem _ hx)
    simp only [cellsR]
    split
    · exact h4
    · split
      · split
        · rw [cellsR_spent sup rec cs { s with spent := true } rfl]; exact h4
        · have hr := hrec { s with row := s.row ++ [c], left := s.left - 1 } h1 (by simp [h2]) (fun x hx => by
            rcases List.mem_append.1 hx with h | h
            · exact h3 x h
            · simp at h; subst h; exact h0 x (by simp)) h4
          generalize rec { s with row := s.row ++ [c], left := s.left - 1 } = R at hr ⊢
          rcases Bool.eq_false_or_eq_true R.spent with hb | hb
          · rw [cellsR_spent sup rec cs { R with row := R.row.take s.row.length } hb]; exact hr.1
          · have hrow := hr.2 hb
            refine cellsI_ok n m hrec cs { R with row := R.row.take s.row.length } hcs hb ?_ ?_ hr.1
            · show (R.row.take s.row.length).length = m
              rw [hrow]; simp [h2]
            · show ∀ x ∈ R.row.take s.row.length, 0 ≤ x
              rw [hrow]; simpa using h3
      · exact cellsI_ok n m hrec cs s hcs h1 h2 h3 h4
theorem srchR_ok {sup : List Int → Bool} (n : Nat) : ∀ (f : Nat) (s : Srch), s.spent = false → s.row.length + f = n → (∀ x ∈ s.row, 0 ≤ x) → (∀ r ∈ s.found, r.length = n ∧ ∀ x ∈ r, 0 ≤ x) → (∀ r ∈ (srchR sup f s).found, r.length = n ∧ ∀ x ∈ r, 0 ≤ x)
  | 0, s, h1, h2, h3, h4 => by
    simp only [srchR]
    split
    · intro r hr
      rcases List.mem_append.1 hr with h | h
      · exact h4 r h
      · simp at h; subst h; exact ⟨by omega, h3⟩
    · exact h4
  | f + 1, s, h1, h2, h3, h4 => by
    simp only [srchR]
    exact cellsI_ok n s.row.length (fun s2 a1 a2 a3 a4 => ⟨srchR_ok n f s2 a1 (by omega) a3 a4, fun _ => srchR_row f s2⟩) _ s (by simp) h1 rfl h3 h4
theorem found_ok {l : List Table} {bud : Int} (h : gCode l bud = 0) : okTables l = true ∧ okBudget bud = true ∧ gEnd l bud = rEnd l bud ∧ ∀ r ∈ (gEnd l bud).found, r.length = (colsR l).length ∧ ∀ x ∈ r, 0 ≤ x := by
  have h1 : okTables l = true := by
    simp only [gCode] at h
    split at h
    · assumption
    · cases h
  have h2 : okBudget bud = true := by
    simp only [gCode, h1, if_true] at h
    split at h
    · assumption
    · cases h
  have h3 : (gEnd l bud).spent = false := by
    simp only [gCode, h1, h2, if_true] at h
    cases hs : (gEnd l bud).spent with
    | false => rfl
    | true => rw [hs] at h; cases h
  have e := (end_same h1 bud).2 h3
  refine ⟨h1, h2, e, ?_⟩
  rw [e]
  exact srchR_ok (colsR l).length (colsR l).length ⟨bud, false, [], []⟩ rfl (by simp) (by simp) (by simp)
theorem found_many {l : List Table} {bud : Int} (h : gCode l bud = 0) : (gEnd l bud).found.length ≤ 65536 := by
  obtain ⟨h1, h2, _, _⟩ := found_ok h
  have hb : 1 ≤ bud ∧ bud ≤ 20000 := by simpa [okBudget] using h2
  have := srchI_many (sup := supI l (colsR l)) (colsR l).length ⟨bud, false, [], []⟩ rfl (by show 0 ≤ bud; omega)
  rw [show srchI (supI l (colsR l)) (colsR l).length ⟨bud, false, [], []⟩ = gEnd l bud from rfl] at this
  have h4 := this.2.2
  simp only [List.length_nil] at h4
  omega
theorem p_same {l : List Table} {bud : Int} (h : gCode l bud = 0) {t : Table} (ht : t ∈ l) {r : List Int} (hr : r ∈ t.rows) : pI (colsR l) (gEnd l bud).found t r = pS (colsR l) (gEnd l bud).found t r := by
  obtain ⟨h1, h2, _, hf⟩ := found_ok h
  obtain ⟨hT, hall⟩ := tabs_ok h1
  have hrl := (hT.each t ht r hr)
  have hcin : ∀ c ∈ t.columns, c ∈ colsR l := fun c hc => colsR_mem.2 ⟨t, ht, hc⟩
  have hcn : t.columns.Nodup := (rises_pair (okTable_cols (List.all_eq_true.1 hall t ht)).1).imp fun h => by omega
  have eS : pS (colsR l) (gEnd l bud).found t r = (gEnd l bud).found.any fun w => fitR t.columns (colsR l) r w := by
    rw [Bool.eq_iff_iff]
    simp only [pS, sameI, semiL, List.take_length, List.any_eq_true, List.mem_filter, decide_eq_true_eq, fitAny]
    constructor
    · rintro ⟨x, ⟨_, hx2⟩, rfl⟩; exact hx2
    · intro hx; exact ⟨r, ⟨hr, hx⟩, rfl⟩
  rw [eS]
  refine any_congr fun w hw => ?_
  obtain ⟨hwl, hw0⟩ := hf w hw
  rw [Bool.eq_iff_iff, sameI, decide_eq_true_eq, fitR_iff hcn hrl hwl hw0]
  constructor
  · intro e c hc _
    obtain ⟨i, hi, rfl⟩ := List.getElem_of_mem hc
    rw [cellOf_get hcn hi (by omega)]
    have : (t.columns.map (cellOf (colsR l) w))[i]? = r[i]? := by rw [e]
    rw [List.getElem?_map, List.getElem?_eq_getElem hi, List.getElem?_eq_getElem (by omega)] at this
    exact Option.some.inj this
  · intro hc
    refine List.ext_getElem (by simp [hrl]) fun i hi hi2 => ?_
    have hi3 : i < t.columns.length := by simpa using hi
    rw [List.getElem_map, hc _ (List.getElem_mem hi3) (hcin _ (List.getElem_mem hi3)), cellOf_get hcn hi3 hi2]
theorem lost_congr {l : List Table} {P Q : Table → List Int → Bool} (h : ∀ t ∈ l, ∀ r ∈ t.rows, P t r = Q t r) : ∀ n, n ≤ l.length → lostTab P l n = lostTab Q l n
  | 0, _ => rfl
  | n + 1, hn => by
    rw [lostTab_succ P l (by omega), lostTab_succ Q l (by omega), lost_congr h n (by omega)]
    have e : lostRow P l[n] n l[n].rows.length = lostRow Q l[n] n l[n].rows.length := by
      simp only [lostRow]
      rw [List.filter_congr fun j hj => ?_]
      have hj := List.mem_range.1 hj
      rw [show l[n].rows.getD j [] = l[n].rows[j] by simp [List.getD_eq_getElem?_getD, hj], h _ (List.getElem_mem _) _ (List.getElem_mem _)]
    rw [e]
def lostOf (l : List Table) (bud : Int) : List (List Int) := if gCode l bud = 0 then lostTab (pS (colsR l) (gEnd l bud).found) l l.length else []

theorem s_spec_LostRows (l : List Table) (o : Enc.ok l) (hr : ∀ t ∈ l, ∀ r ∈ t.rows, r.length ≤ 1048576) (bud : Int) :
    Sat Try.prog 16 [(false, Enc.enc l), (false, [.int .i64 bud])] (.tup [(false, [.c (.slice 1 ((lostOf l bud).map Enc.enc))]), (false, [.c (.int .i64 (gCode l bud))])], []) := by
  refine Sat.intro tok mixed Try.func16 rfl rfl ?_
  ((conv => whnf); repeat ((first | refine B0 ?_ | refine B1 ?_ | refine D1 ?_ | refine D2 ?_ | refine CallC.r ?_); conv => whnf))
  refine Pick.mk _ (s_l20Global l o hr bud) ?_
  ((conv => whnf); repeat ((first | refine B0 ?_ | refine B1 ?_ | refine D1 ?_ | refine D2 ?_ | refine CallC.r ?_); conv => whnf))
  refine Br.mk (fun h => ?_) (fun h => ?_) <;> ((conv => whnf); repeat ((first | refine B0 ?_ | refine B1 ?_ | refine D1 ?_ | refine D2 ?_ | refine CallC.r ?_); conv => whnf))
  · have h : gCode l bud ≠ 0 := by simpa using h
    have e : lostOf l bud = [] := by rw [lostOf, if_neg h]
    rw [e]
    exact ResOK.frz rfl rfl
  have h : gCode l bud = 0 := by simpa using h
  have hlost : lostOf l bud = lostTab (pS (colsR l) (gEnd l bud).found) l l.length := by rw [lostOf, if_pos h]
  obtain ⟨h1, h2, _, hf⟩ := found_ok h
  have hmany := found_many h
  obtain ⟨hT, hall⟩ := tabs_ok h1
  rw [hlost, h, if_pos rfl, if_pos rfl]
  generalize (gEnd l bud).found = F at hf hmany ⊢
  have hl6 := hT.len
  refine Pick.mk [0, 9, 10, 11, 1000576] trivial ?_
  ((conv => whnf); repeat ((first | refine B0 ?_ | refine B1 ?_ | refine D1 ?_ | refine D2 ?_ | refine CallC.r ?_); conv => whnf))
  refine LoopL.over (fun (i : Nat) => [(11, .one (.c (.int .i64 ((i : Int)))))]) (fun (i : Nat) => [(640, .arr 1 (List.map Enc.enc (lostTab (pS (colsR l) F) l i)))]) (fun (i : Nat) => l.length - i) (fun (i : Nat) => i ≤ l.length) ?_ 0 (Nat.zero_le _)
  intro i g1 ih
  have hlt := lostTab_len (pS (colsR l) F) hT.rows i g1
  ((conv => whnf); repeat ((first | refine B0 ?_ | refine B1 ?_ | refine D1 ?_ | refine D2 ?_ | refine CallC.r ?_); conv => whnf))
  refine Br.mk (fun hi => ?_) (fun hi => ?_) <;> ((conv => whnf); repeat ((first | refine B0 ?_ | refine B1 ?_ | refine D1 ?_ | refine D2 ?_ | refine CallC.r ?_); conv => whnf))
  · have hi : i < l.length := by simp only [List.length_map, decide_eq_true_eq] at hi; omega
    have hti : l[i] ∈ l := List.getElem_mem hi
    have hrl := hT.rows _ hti
    refine Pick.ix (hi) ?_
    ((conv => whnf); repeat ((first | refine B0 ?_ | refine B1 ?_ | refine D1 ?_ | refine D2 ?_ | refine CallC.r ?_); conv => whnf))
    have hcl : (colsR l).length ≤ 64 := hT.all
    have h8 := hT.cols _ hti
    refine Pick.mk _ (s_l20Semi l[i] ⟨colsR l, F⟩ (by omega) hcl (by omega) (by show F.length ≤ 1048576; omega) (hT.each _ hti) (fun r hrr => by rw [(hf r hrr).1]; exact Nat.le_refl _)) ?_
    ((conv => whnf); repeat ((first | refine B0 ?_ | refine B1 ?_ | refine D1 ?_ | refine D2 ?_ | refine CallC.r ?_); conv => whnf))
    have hsl := semiL_len l[i] ⟨colsR l, F⟩ l[i].rows.length
    have hsm : ∀ x ∈ semiL l[i] ⟨colsR l, F⟩ l[i].rows.length, x.length ≤ 8 := fun x hx => by
      have := (List.mem_filter.1 hx).1
      rw [hT.each _ hti x (List.mem_of_mem_take this)]; exact h8
    refine Pick.mk [0, 9, 10, 11, 12, 13] trivial ?_
    ((conv => whnf); repeat ((first | refine B0 ?_ | refine B1 ?_ | refine D1 ?_ | refine D2 ?_ | refine CallC.r ?_); conv => whnf))
    refine LoopL.over (fun (k : Nat) => [(13, .one (.c (.int .i64 ((k : Int)))))]) (fun (k : Nat) => [(640, .arr 1 (List.map Enc.enc (lostTab (pS (colsR l) F) l i ++ lostRow (pS (colsR l) F) l[i] i k)))]) (fun (k : Nat) => l[i].rows.length - k) (fun (k : Nat) => k ≤ l[i].rows.length) ?_ 0 (Nat.zero_le _) (by rw [show lostRow (pS (colsR l) F) l[i] i 0 = [] from rfl, List.append_nil]; rfl)
    intro k g2 ih2
    have hlr := lostRow_len (pS (colsR l) F) l[i] i k
    ((conv => whnf); repeat ((first | refine B0 ?_ | refine B1 ?_ | refine D1 ?_ | refine D2 ?_ | refine CallC.r ?_); conv => whnf))
    refine Pick.ix (hi) ?_
    ((conv => whnf); repeat ((first | refine B0 ?_ | refine B1 ?_ | refine D1 ?_ | refine D2 ?_ | refine CallC.r ?_); conv => whnf))
    refine Br.mk (fun hk => ?_) (fun hk => ?_) <;> ((conv => whnf); repeat ((first | refine B0 ?_ | refine B1 ?_ | refine D1 ?_ | refine D2 ?_ | refine CallC.r ?_); conv => whnf))
    · have hk : k < l[i].rows.length := by simp only [List.length_map, decide_eq_true_eq] at hk; omega
      have hrk := hT.each _ hti _ (List.getElem_mem hk)
      refine Pick.mk [0, 9, 10, 11, 12, 13, 14, 15] trivial ?_
      ((conv => whnf); repeat ((first | refine B0 ?_ | refine B1 ?_ | refine D1 ?_ | refine D2 ?_ | refine CallC.r ?_); conv => whnf))
      refine LoopL.over (fun (p : Nat × Bool) => [(14, .one (.c (.bool (p.2)))), (15, .one (.c (.int .i64 ((p.1 : Int)))))]) (fun (p : Nat × Bool) => []) (fun (p : Nat × Bool) => (semiL l[i] ⟨colsR l, F⟩ l[i].rows.length).length - p.1) (fun (p : Nat × Bool) => p.1 ≤ (semiL l[i] ⟨colsR l, F⟩ l[i].rows.length).length ∧ p.2 = ((semiL l[i] ⟨colsR l, F⟩ l[i].rows.length).take p.1).any (fun x => sameBy sameInt x l[i].rows[k])) ?_ (0, false) ⟨Nat.zero_le _, by simp⟩
      intro ⟨j, f⟩ ⟨f1, f2⟩ ih3
      simp only at f1 f2
      ((conv => whnf); repeat ((first | refine B0 ?_ | refine B1 ?_ | refine D1 ?_ | refine D2 ?_ | refine CallC.r ?_); conv => whnf))
      refine Br.mk (fun hj => ?_) (fun hj => ?_) <;> ((conv => whnf); repeat ((first | refine B0 ?_ | refine B1 ?_ | refine D1 ?_ | refine D2 ?_ | refine CallC.r ?_); conv => whnf))
      · have hj : j < (semiL l[i] ⟨colsR l, F⟩ l[i].rows.length).length := by simp only [List.length_map, decide_eq_true_eq] at hj; omega
        have hsucc : ((semiL l[i] ⟨colsR l, F⟩ l[i].rows.length).take (j + 1)).any (fun x => sameBy sameInt x l[i].rows[k]) = (f || sameBy sameInt (semiL l[i] ⟨colsR l, F⟩ l[i].rows.length)[j] l[i].rows[k]) := by
          rw [List.take_add_one, List.getElem?_eq_getElem hj, Option.toList_some, List.any_append, ← f2]; simp
        refine Br.mk (fun hf2 => ?_) (fun hf2 => ?_) <;> ((conv => whnf); repeat ((first | refine B0 ?_ | refine B1 ?_ | refine D1 ?_ | refine D2 ?_ | refine CallC.r ?_); conv => whnf))
        · have hf2 : f = true := by simpa using hf2
          refine Pick.at64 (z := (j + 1 : Nat)) (by simp) (by omega) ?_
          ((conv => whnf); repeat ((first | refine B0 ?_ | refine B1 ?_ | refine D1 ?_ | refine D2 ?_ | refine CallC.r ?_); conv => whnf))
          exact ih3 (j + 1, true) ⟨by simp only []; omega, by simp only []; rw [hsucc, hf2]; rfl⟩ (by simp only []; omega)
        · have hf2 : f = false := by simpa using hf2
          refine Pick.ix (hj) ?_
          ((conv => whnf); repeat ((first | refine B0 ?_ | refine B1 ?_ | refine D1 ?_ | refine D2 ?_ | refine CallC.r ?_); conv => whnf))
          refine Pick.ix (hi) ?_
          ((conv => whnf); repeat ((first | refine B0 ?_ | refine B1 ?_ | refine D1 ?_ | refine D2 ?_ | refine CallC.r ?_); conv => whnf))
          refine Pick.ix (hk) ?_
          ((conv => whnf); repeat ((first | refine B0 ?_ | refine B1 ?_ | refine D1 ?_ | refine D2 ?_ | refine CallC.r ?_); conv => whnf))
          refine Pick.mk _ (s_l00Same (semiL l[i] ⟨colsR l, F⟩ l[i].rows.length)[j] l[i].rows[k] (by have := hsm _ (List.getElem_mem hj); simp only [maxLen]; omega)) ?_
          ((conv => whnf); repeat ((first | refine B0 ?_ | refine B1 ?_ | refine D1 ?_ | refine D2 ?_ | refine CallC.r ?_); conv => whnf))
          refine Pick.at64 (z := (j + 1 : Nat)) (by simp) (by omega) ?_
          ((conv => whnf); repeat ((first | refine B0 ?_ | refine B1 ?_ | refine D1 ?_ | refine D2 ?_ | refine CallC.r ?_); conv => whnf))
          exact ih3 (j + 1, sameBy sameInt (semiL l[i] ⟨colsR l, F⟩ l[i].rows.length)[j] l[i].rows[k]) ⟨by simp only []; omega, by simp only []; rw [hsucc, hf2]; rfl⟩ (by simp only []; omega)
      · have hj : j = (semiL l[i] ⟨colsR l, F⟩ l[i].rows.length).length := by simp only [List.length_map, decide_eq_false_iff_not] at hj; omega
        subst hj
        rw [List.take_length] at f2
        have es := lostRow_succ (pS (colsR l) F) l[i] i hk
        refine Br.mk (fun hf2 => ?_) (fun hf2 => ?_) <;> ((conv => whnf); repeat ((first | refine B0 ?_ | refine B1 ?_ | refine D1 ?_ | refine D2 ?_ | refine CallC.r ?_); conv => whnf))
        · have hf2 : ¬ pS (colsR l) F l[i] l[i].rows[k] = true := by rw [← show f = pS (colsR l) F l[i] l[i].rows[k] from f2]; simpa using hf2
          rw [if_neg hf2] at es
          refine Pick.mk (some false) trivial ?_
          ((conv => whnf); repeat ((first | refine B0 ?_ | refine B1 ?_ | refine D1 ?_ | refine D2 ?_ | refine CallC.r ?_); conv => whnf))
          refine Side.mk (by simp only [List.length_map, List.length_append, List.length_cons, List.length_nil]; omega) ?_
          ((conv => whnf); repeat ((first | refine B0 ?_ | refine B1 ?_ | refine D1 ?_ | refine D2 ?_ | refine CallC.r ?_); conv => whnf))
          refine Pick.at64 (z := (k + 1 : Nat)) (by simp) (by omega) ?_
          ((conv => whnf); repeat ((first | refine B0 ?_ | refine B1 ?_ | refine D1 ?_ | refine D2 ?_ | refine CallC.r ?_); conv => whnf))
          have hn := ih2 (k + 1) (by omega) (by omega)
          rw [es, ← List.append_assoc, List.map_append] at hn
          exact hn
        · have hf2 : pS (colsR l) F l[i] l[i].rows[k] = true := by rw [← show f = pS (colsR l) F l[i] l[i].rows[k] from f2]; simpa using hf2
          rw [if_pos hf2] at es
          refine Pick.at64 (z := (k + 1 : Nat)) (by simp) (by omega) ?_
          ((conv => whnf); repeat ((first | refine B0 ?_ | refine B1 ?_ | refine D1 ?_ | refine D2 ?_ | refine CallC.r ?_); conv => whnf))
          have hn := ih2 (k + 1) (by omega) (by omega)
          rw [es] at hn
          exact hn
    · have hk : k = l[i].rows.length := by simp only [List.length_map, decide_eq_false_iff_not] at hk; omega
      subst hk
      refine Pick.at64 (z := (i + 1 : Nat)) (by simp) (by omega) ?_
      ((conv => whnf); repeat ((first | refine B0 ?_ | refine B1 ?_ | refine D1 ?_ | refine D2 ?_ | refine CallC.r ?_); conv => whnf))
      have hn := ih (i + 1) (by omega) (by omega)
      rw [lostTab_succ _ l hi] at hn
      exact hn
  · have hi : i = l.length := by simp only [List.length_map, decide_eq_false_iff_not] at hi; omega
    subst hi
    exact ResOK.frz rfl rfl
end Go.Proofs.Ytnmoeeneofopcaa.Pi
