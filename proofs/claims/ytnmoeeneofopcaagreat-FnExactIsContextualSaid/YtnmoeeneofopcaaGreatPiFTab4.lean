/- The search for global rows; the reference and the program. No statement of the seat is proved here. -/
import Derived.Test.YtnmoeeneofopcaaGreatPiFTab3
namespace Go.Proofs.YtnmoeeneofopcaaGreat.Pi
open Go
set_option maxRecDepth 10000
set_option maxHeartbeats 3200000
set_option linter.unusedVariables false

/-- The cells of the program's search. -/
def gCells (l : List Table) (cols : List Int) (s : Srch) : List CV := [.int .i64 s.left, .bool s.spent, .slice 2 (l.map Enc.enc), .slice 1 (cols.map Enc.enc), .slice 1 (s.row.map Enc.enc), .slice 1 (s.found.map Enc.enc)]
/-- What is asked of the tables of a search. -/
structure TabsOK (l : List Table) (cols : List Int) : Prop where
  len : l.length ≤ 6
  all : cols.length ≤ 64
  rows : ∀ t ∈ l, t.rows.length ≤ 24
  cols : ∀ t ∈ l, t.columns.length ≤ 8
  each : ∀ t ∈ l, ∀ r ∈ t.rows, r.length = t.columns.length
theorem rises_len {xs : List Int} {p : Int} (h : rises xs = true) (hc : ∀ x ∈ xs, 0 ≤ x ∧ x < p) : (xs.length : Int) ≤ p ∨ xs = [] := by
  cases hx : xs with
  | nil => exact .inr rfl
  | cons a tl =>
    left
    rw [← hx]
    have hp := rises_pair h
    have : ∀ (i : Nat) (hi : i < xs.length), (i : Int) ≤ xs[i] := fun i => by
      induction i with
      | zero => intro hi; exact (hc _ (List.getElem_mem hi)).1
      | succ i ih => intro hi; have h1 := ih (by omega); have h2 := rises_lt h i hi; omega
    have hl : 0 < xs.length := by rw [hx]; simp
    have h1 := this (xs.length - 1) (by omega)
    have h2 := (hc _ (List.getElem_mem (by omega : xs.length - 1 < xs.length))).2
    omega
theorem okTable_cols {t : Table} (h : okTable t = true) : rises t.columns = true ∧ (∀ c ∈ t.columns, 0 ≤ c ∧ c ≤ 7) ∧ t.columns.length ≤ 8 ∧ t.rows.length ≤ 24 := by
  simp only [okTable, Bool.and_eq_true, decide_eq_true_eq, List.all_eq_true, okCol] at h
  refine ⟨h.1.1, h.1.2.1, ?_, h.1.2.2⟩
  rcases rises_len (p := 8) h.1.1 (fun x hx => by have := h.1.2.1 x hx; omega) with h2 | h2
  · omega
  · rw [h2]; simp

theorem s_supported11 (t : Table) (cols : List Int) (g : List CV) (s : Srch) (l : List Table) (r : List Int) (hc : cols.length ≤ 64) (ht : t.columns.length ≤ 8) (hr : r.length = t.columns.length) (hs : s.row.length ≤ cols.length) :
    Sat Tryz.prog 308 ((false, Enc.enc r) :: [CV.ptr 2 (Enc.enc t), CV.ptr 2 [.slice 1 ((cols.take s.row.length).map Enc.enc), .slice 1 []], CV.ptr 1 [.ptr 6 (gCells l cols s)]].map fun y => (false, [y])) (.one (.c (.bool (fitI t.columns (cols.take s.row.length) r s.row))), []) := by
  refine Sat.intro tok mixed Tryz.func308 rfl rfl ?_
  ((conv => whnf); repeat ((first | refine B0 ?_ | refine B1 ?_ | refine D1 ?_ | refine D2 ?_ | refine CallC.r ?_); conv => whnf))
  refine Pick.mk _ (s_fit t ⟨cols.take s.row.length, []⟩ r s.row (by omega) (by simp only [List.length_take]; omega) hr (by simp only [List.length_take]; omega)) ?_
  ((conv => whnf); repeat ((first | refine B0 ?_ | refine B1 ?_ | refine D1 ?_ | refine D2 ?_ | refine CallC.r ?_); conv => whnf))
  exact ResOK.same rfl
theorem s_supported1 (t : Table) (cols : List Int) (s : Srch) (l : List Table) (h : TabsOK l cols) (ht : t ∈ l) (hs : s.row.length ≤ cols.length) :
    Sat Tryz.prog 307 ((true, Enc.enc t) :: [CV.ptr 2 [.slice 1 ((cols.take s.row.length).map Enc.enc), .slice 1 []], CV.ptr 1 [.ptr 6 (gCells l cols s)]].map fun y => (false, [y])) (.one (.c (.bool (!(t.rows.any fun r => fitI t.columns (cols.take s.row.length) r s.row)))), []) := by
  have h2 := h.rows t ht
  refine Sat.intro tok mixed Tryz.func307 rfl rfl ?_
  ((conv => whnf); repeat ((first | refine B0 ?_ | refine B1 ?_ | refine D1 ?_ | refine D2 ?_ | refine CallC.r ?_); conv => whnf))
  refine Pick.mk _ (s_ContainsFuncInt64S t.rows _ _ (fun r => fitI t.columns (cols.take s.row.length) r s.row) (by simp only [maxLen]; omega) (fun r hr => s_supported11 t cols [] s l r h.all (h.cols t ht) (h.each t ht r hr) hs)) ?_
  ((conv => whnf); repeat ((first | refine B0 ?_ | refine B1 ?_ | refine D1 ?_ | refine D2 ?_ | refine CallC.r ?_); conv => whnf))
  exact ResOK.same rfl
theorem s_supported (cols : List Int) (s : Srch) (l : List Table) (h : TabsOK l cols) (hs : s.row.length ≤ cols.length) :
    Sat Tryz.prog 260 [(false, [.ptr 6 (gCells l cols s)])] (.one (.c (.bool (supI l cols s.row))), []) := by
  have hl := h.len
  have hc := s_ContainsFuncTable l 307 [CV.ptr 2 [.slice 1 ((cols.take s.row.length).map Enc.enc), .slice 1 []], CV.ptr 1 [.ptr 6 (gCells l cols s)]] (fun t => !(t.rows.any fun r => fitI t.columns (cols.take s.row.length) r s.row)) (by simp only [maxLen]; omega) (fun t ht => s_supported1 t cols s l h ht hs)
  have e : (!(l.any fun t => !(t.rows.any fun r => fitI t.columns (cols.take s.row.length) r s.row))) = supI l cols s.row := not_any_not _ l
  have hT : List.drop 0 (List.take (((s.row.map (Enc.enc (α := Int))).length : Int)).toNat (cols.map (Enc.enc (α := Int)))) = (cols.take s.row.length).map Enc.enc := by simp [List.map_take]
  rw [← hT] at hc
  refine Sat.intro tok mixed Tryz.func260 rfl rfl ?_
  ((conv => whnf); repeat ((first | refine B0 ?_ | refine B1 ?_ | refine D1 ?_ | refine D2 ?_ | refine CallC.r ?_); conv => whnf))
  refine Side.mk (by simp only [List.length_map]; omega) ?_
  ((conv => whnf); repeat ((first | refine B0 ?_ | refine B1 ?_ | refine D1 ?_ | refine D2 ?_ | refine CallC.r ?_); conv => whnf))
  refine Pick.mk _ hc ?_
  ((conv => whnf); repeat ((first | refine B0 ?_ | refine B1 ?_ | refine D1 ?_ | refine D2 ?_ | refine CallC.r ?_); conv => whnf))
  exact ResOK.same (by rw [e])

/-- The cells of the reference's search. -/
def rCells (l : List Table) (cols : List Int) (bud : Int) (s : Srch) : List CV := [.slice 2 (l.map Enc.enc), .slice 1 (cols.map Enc.enc), .slice 1 (s.row.map Enc.enc), .slice 1 (s.found.map Enc.enc), .int .i64 (bud - s.left), .int .i64 bud, .bool s.spent]
theorem s_fits (cols : List Int) (bud : Int) (s : Srch) (l : List Table) (h : TabsOK l cols) (hs : s.row.length ≤ cols.length) :
    Sat Tryz.prog 253 [(false, [.ptr 7 (rCells l cols bud s)])] (.one (.c (.bool (supR l cols s.row))), []) := by
  have hl := h.len
  have hca := h.all
  have hT : List.drop 0 (List.take (((s.row.map (Enc.enc (α := Int))).length : Int)).toNat (cols.map (Enc.enc (α := Int)))) = (cols.take s.row.length).map Enc.enc := by simp [List.map_take]
  let okT (t : Table) : Bool := t.rows.any fun r => fitR (cols.take s.row.length) t.columns s.row r
  refine Sat.intro tok mixed Tryz.func253 rfl rfl ?_
  ((conv => whnf); repeat ((first | refine B0 ?_ | refine B1 ?_ | refine D1 ?_ | refine D2 ?_ | refine CallC.r ?_); conv => whnf))
  refine Side.mk (by simp only [List.length_map]; omega) ?_
  ((conv => whnf); repeat ((first | refine B0 ?_ | refine B1 ?_ | refine D1 ?_ | refine D2 ?_ | refine CallC.r ?_); conv => whnf))
  refine Pick.mk [0, 3, 4] trivial ?_
  ((conv => whnf); repeat ((first | refine B0 ?_ | refine B1 ?_ | refine D1 ?_ | refine D2 ?_ | refine CallC.r ?_); conv => whnf))
  refine LoopL.over (fun (i : Nat) => [(4, .one (.c (.int .i64 ((i : Int)))))]) (fun (i : Nat) => []) (fun (i : Nat) => l.length - i) (fun (i : Nat) => i ≤ l.length ∧ ∀ (j : Nat) (h : j < l.length), j < i → okT l[j] = true) ?_ 0 ⟨Nat.zero_le _, by intros; omega⟩
  intro i ⟨g1, g2⟩ ih
  ((conv => whnf); repeat ((first | refine B0 ?_ | refine B1 ?_ | refine D1 ?_ | refine D2 ?_ | refine CallC.r ?_); conv => whnf))
  refine Br.mk (fun hi => ?_) (fun hi => ?_) <;> ((conv => whnf); repeat ((first | refine B0 ?_ | refine B1 ?_ | refine D1 ?_ | refine D2 ?_ | refine CallC.r ?_); conv => whnf))
  · have hi : i < l.length := by simp only [List.length_map, decide_eq_true_eq] at hi; omega
    have hr := h.rows _ (List.getElem_mem hi)
    have hcl := h.cols _ (List.getElem_mem hi)
    refine Pick.mk [0, 3, 4, 5, 6] trivial ?_
    ((conv => whnf); repeat ((first | refine B0 ?_ | refine B1 ?_ | refine D1 ?_ | refine D2 ?_ | refine CallC.r ?_); conv => whnf))
    refine LoopL.over (fun (p : Nat × Bool) => [(5, .one (.c (.bool (p.2)))), (6, .one (.c (.int .i64 ((p.1 : Int)))))]) (fun (p : Nat × Bool) => []) (fun (p : Nat × Bool) => l[i].rows.length - p.1) (fun (p : Nat × Bool) => p.1 ≤ l[i].rows.length ∧ p.2 = (l[i].rows.take p.1).any (fun r => fitR (cols.take s.row.length) l[i].columns s.row r)) ?_ (0, false) ⟨Nat.zero_le _, by simp⟩
    intro ⟨k, f⟩ ⟨f1, f2⟩ ih2
    simp only at f1 f2
    ((conv => whnf); repeat ((first | refine B0 ?_ | refine B1 ?_ | refine D1 ?_ | refine D2 ?_ | refine CallC.r ?_); conv => whnf))
    refine Pick.ix (hi) ?_
    ((conv => whnf); repeat ((first | refine B0 ?_ | refine B1 ?_ | refine D1 ?_ | refine D2 ?_ | refine CallC.r ?_); conv => whnf))
    refine Br.mk (fun hk => ?_) (fun hk => ?_) <;> ((conv => whnf); repeat ((first | refine B0 ?_ | refine B1 ?_ | refine D1 ?_ | refine D2 ?_ | refine CallC.r ?_); conv => whnf))
    · have hk : k < l[i].rows.length := by simp only [List.length_map, decide_eq_true_eq] at hk; omega
      have hsucc : (l[i].rows.take (k + 1)).any (fun r => fitR (cols.take s.row.length) l[i].columns s.row r) = (f || fitR (cols.take s.row.length) l[i].columns s.row l[i].rows[k]) := by
        rw [List.take_add_one, List.getElem?_eq_getElem hk, Option.toList_some, List.any_append, ← f2]; simp
      refine Br.mk (fun hf => ?_) (fun hf => ?_) <;> ((conv => whnf); repeat ((first | refine B0 ?_ | refine B1 ?_ | refine D1 ?_ | refine D2 ?_ | refine CallC.r ?_); conv => whnf))
      · have hf : f = true := by simpa using hf
        refine Pick.at64 (z := (k + 1 : Nat)) (by simp) (by omega) ?_
        ((conv => whnf); repeat ((first | refine B0 ?_ | refine B1 ?_ | refine D1 ?_ | refine D2 ?_ | refine CallC.r ?_); conv => whnf))
        exact ih2 (k + 1, true) ⟨by simp only []; omega, by simp only []; rw [hsucc, hf]; rfl⟩ (by simp only []; omega)
      · have hf : f = false := by simpa using hf
        refine Pick.ix (hi) ?_
        ((conv => whnf); repeat ((first | refine B0 ?_ | refine B1 ?_ | refine D1 ?_ | refine D2 ?_ | refine CallC.r ?_); conv => whnf))
        refine Pick.ix (hi) ?_
        ((conv => whnf); repeat ((first | refine B0 ?_ | refine B1 ?_ | refine D1 ?_ | refine D2 ?_ | refine CallC.r ?_); conv => whnf))
        refine Pick.ix (hk) ?_
        ((conv => whnf); repeat ((first | refine B0 ?_ | refine B1 ?_ | refine D1 ?_ | refine D2 ?_ | refine CallC.r ?_); conv => whnf))
        have hfit : Sat Tryz.prog 302 [(false, [.ptr 2 [.slice 1 ((cols.take s.row.length).map Enc.enc), .slice 1 []]]), (false, [.ptr 2 (Enc.enc l[i])]), (false, Enc.enc s.row), (false, Enc.enc l[i].rows[k])] (.one (.c (.bool (fitR (cols.take s.row.length) l[i].columns s.row l[i].rows[k]))), []) :=
          s_l20Fit ⟨cols.take s.row.length, []⟩ l[i] s.row l[i].rows[k] (by simp only [List.length_take, maxLen]; omega) (by simp only [maxLen]; omega) (by simp only [List.length_take]; omega) (by rw [h.each _ (List.getElem_mem hi) _ (List.getElem_mem hk)]; exact Nat.le_refl _)
        rw [← hT] at hfit
        refine Pick.mk _ (hfit) ?_
        ((conv => whnf); repeat ((first | refine B0 ?_ | refine B1 ?_ | refine D1 ?_ | refine D2 ?_ | refine CallC.r ?_); conv => whnf))
        refine Pick.at64 (z := (k + 1 : Nat)) (by simp) (by omega) ?_
        ((conv => whnf); repeat ((first | refine B0 ?_ | refine B1 ?_ | refine D1 ?_ | refine D2 ?_ | refine CallC.r ?_); conv => whnf))
        exact ih2 (k + 1, fitR (cols.take s.row.length) l[i].columns s.row l[i].rows[k]) ⟨by simp only []; omega, by simp only []; rw [hsucc, hf]; rfl⟩ (by simp only []; omega)
    · have hk : k = l[i].rows.length := by simp only [List.length_map, decide_eq_false_iff_not] at hk; omega
      subst hk
      rw [List.take_length] at f2
      refine Br.mk (fun hf => ?_) (fun hf => ?_) <;> ((conv => whnf); repeat ((first | refine B0 ?_ | refine B1 ?_ | refine D1 ?_ | refine D2 ?_ | refine CallC.r ?_); conv => whnf))
      · have hf : okT l[i] = false := by rw [← show f = okT l[i] from f2]; simpa using hf
        have : supR l cols s.row = false := by
          rw [supR, ← Bool.not_eq_true, List.all_eq_true]
          intro hall
          have := hall _ (List.getElem_mem hi)
          rw [show (l[i].rows.any fun r => fitR (cols.take s.row.length) l[i].columns s.row r) = false from hf] at this
          cases this
        exact ResOK.same (by rw [this])
      · have hf : okT l[i] = true := by rw [← show f = okT l[i] from f2]; simpa using hf
        refine Pick.at64 (z := (i + 1 : Nat)) (by simp) (by omega) ?_
        ((conv => whnf); repeat ((first | refine B0 ?_ | refine B1 ?_ | refine D1 ?_ | refine D2 ?_ | refine CallC.r ?_); conv => whnf))
        refine ih (i + 1) ⟨by omega, fun j hj hlt => ?_⟩ (by omega)
        by_cases e2 : j = i
        · subst e2; exact hf
        · exact g2 j hj (by omega)
  · have hi : l.length ≤ i := by simp only [List.length_map, decide_eq_false_iff_not] at hi; omega
    have : supR l cols s.row = true := by
      rw [supR, List.all_eq_true]
      intro x hx
      obtain ⟨j, hj, rfl⟩ := List.getElem_of_mem hx
      exact g2 j hj (by omega)
    exact ResOK.same (by rw [this])
end Go.Proofs.YtnmoeeneofopcaaGreat.Pi
