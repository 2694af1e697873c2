/- The first tables that do not agree. No statement of the seat is proved here. -/
import Derived.Test.YtnmoeeneofopcaaGreatPiFAgree
namespace Go.Proofs.YtnmoeeneofopcaaGreat.Pi
open Go
set_option maxRecDepth 10000
set_option maxHeartbeats 6400000
set_option linter.unusedVariables false

/-- What is known of a table here. -/
structure SmallT (t : Table) : Prop where
  rows : t.rows.length ≤ 1024
  cols : t.columns.length ≤ 64
  len : ∀ r ∈ t.rows, r.length = t.columns.length
  cell : ∀ r ∈ t.rows, ∀ x ∈ r, I64 x
def agreeB (a b : Table) : Bool := agreeT a b (common a.columns b.columns)
theorem common_sub (a b : List Int) : (∀ c ∈ common a b, c ∈ a) ∧ (∀ c ∈ common a b, c ∈ b) ∧ (common a b).length ≤ a.length :=
  ⟨fun c h => (List.mem_filter.1 h).1, fun c h => by have := (List.mem_filter.1 h).2; simpa using this, List.length_filter_le _ _⟩
theorem once_small {t : Table} (h : SmallT t) (cs : List Int) : (onceL (projRows t cs)).length ≤ 1024 ∧ ∀ x ∈ onceL (projRows t cs), x.length = cs.length := by
  refine ⟨?_, fun x hx => ?_⟩
  · have h1 : (cptL (srtL (projRows t cs))).length ≤ (srtL (projRows t cs)).length := cptN_len _ _
    rw [srtL_len] at h1
    have h2 : (projRows t cs).length = t.rows.length := by simp [projRows]
    have := h.rows
    show (cptL (srtL (projRows t cs))).length ≤ 1024
    omega
  · rw [once_mem] at hx
    obtain ⟨r, _, rfl⟩ := List.mem_map.1 hx
    simp
theorem sameII {xs ys : List (List Int)} : sameBy (sameBy sameInt) xs ys = decide (xs = ys) := by
  induction xs generalizing ys with
  | nil => cases ys <;> simp [sameBy]
  | cons x xs ih =>
    cases ys with
    | nil => simp [sameBy]
    | cons y ys =>
      simp only [sameBy, ih, sameI, List.cons.injEq]
      simp
theorem cellOf_i64 : ∀ (cs xs : List Int) (k : Int), (∀ x ∈ xs, I64 x) → I64 (cellOf cs xs k)
  | [], xs, k, h => by simp [cellOf, I64]
  | c :: cs, [], k, h => by simp [cellOf, I64]
  | c :: cs, x :: xs, k, h => by
    simp only [cellOf]
    split
    · exact h x (by simp)
    · exact cellOf_i64 cs xs k fun y hy => h y (by simp [hy])
theorem once_ok {t : Table} (h : SmallT t) (cs : List Int) : ∀ x ∈ onceL (projRows t cs), ∀ y ∈ x, I64 y := fun x hx y hy => by
  rw [once_mem] at hx
  obtain ⟨r, hr, rfl⟩ := List.mem_map.1 hx
  obtain ⟨c, _, rfl⟩ := List.mem_map.1 hy
  exact cellOf_i64 _ _ _ (h.cell r hr)
theorem ok_small {xs : List (List Int)} (h1 : xs.length ≤ 1024) (h2 : ∀ x ∈ xs, x.length ≤ 1024) (h3 : ∀ x ∈ xs, ∀ y ∈ x, I64 y) : Enc.ok xs :=
  ⟨by simp only [maxLen]; omega, fun x hx => ⟨by have := h2 x hx; simp only [maxLen]; omega, fun y hy => h3 x hx y hy⟩⟩
theorem s_SameTable (cs : List Int) (xs ys : List (List Int)) (hc : cs.length ≤ 64) (o : Enc.ok xs) :
    Sat Tryz.prog 262 [(true, [.slice 1 (cs.map Enc.enc), .slice 1 (xs.map Enc.enc)]), (true, [.slice 1 (cs.map Enc.enc), .slice 1 (ys.map Enc.enc)])] (.one (.c (.bool (decide (xs = ys)))), []) := by
  refine Sat.intro tok mixed Tryz.func262 rfl rfl ?_
  ((conv => whnf); repeat ((first | refine B0 ?_ | refine B1 ?_ | refine D1 ?_ | refine D2 ?_ | refine CallC.r ?_); conv => whnf))
  refine Pick.mk _ (s_EqualInt cs cs (by simp only [maxLen]; omega)) ?_
  ((conv => whnf); repeat ((first | refine B0 ?_ | refine B1 ?_ | refine D1 ?_ | refine D2 ?_ | refine CallC.r ?_); conv => whnf))
  rw [sameI, decide_eq_true rfl]
  refine Br.mk (fun _ => ?_) (fun h => by cases h)
  ((conv => whnf); repeat ((first | refine B0 ?_ | refine B1 ?_ | refine D1 ?_ | refine D2 ?_ | refine CallC.r ?_); conv => whnf))
  refine Pick.mk _ (s_areSame xs ys o) ?_
  ((conv => whnf); repeat ((first | refine B0 ?_ | refine B1 ?_ | refine D1 ?_ | refine D2 ?_ | refine CallC.r ?_); conv => whnf))
  rw [sameII]
  exact ResOK.same rfl
theorem s_agree (a b : Table) (ha : SmallT a) (hb : SmallT b) :
    Sat Tryz.prog 181 [(true, Enc.enc a), (true, Enc.enc b)] (.one (.c (.bool (agreeB a b))), []) := by
  obtain ⟨h1, h2, h3⟩ := common_sub a.columns b.columns
  have ac := ha.cols
  have bc := hb.cols
  have hoa := once_small ha (common a.columns b.columns)
  refine Sat.intro tok mixed Tryz.func181 rfl rfl ?_
  ((conv => whnf); repeat ((first | refine B0 ?_ | refine B1 ?_ | refine D1 ?_ | refine D2 ?_ | refine CallC.r ?_); conv => whnf))
  refine Pick.mk _ (s_commonColumns a b (by omega) (by simp only [maxLen]; omega)) ?_
  ((conv => whnf); repeat ((first | refine B0 ?_ | refine B1 ?_ | refine D1 ?_ | refine D2 ?_ | refine CallC.r ?_); conv => whnf))
  refine Pick.mk _ (s_projected a (common a.columns b.columns) ha.rows ha.cols (fun r hr => by rw [ha.len r hr]; exact Nat.le_refl _) (by omega) h1) ?_
  ((conv => whnf); repeat ((first | refine B0 ?_ | refine B1 ?_ | refine D1 ?_ | refine D2 ?_ | refine CallC.r ?_); conv => whnf))
  refine Pick.mk _ (s_projected b (common a.columns b.columns) hb.rows hb.cols (fun r hr => by rw [hb.len r hr]; exact Nat.le_refl _) (by omega) h2) ?_
  ((conv => whnf); repeat ((first | refine B0 ?_ | refine B1 ?_ | refine D1 ?_ | refine D2 ?_ | refine CallC.r ?_); conv => whnf))
  refine Pick.mk _ (s_SameTable (common a.columns b.columns) (onceL (projRows a (common a.columns b.columns))) (onceL (projRows b (common a.columns b.columns))) (by omega) (ok_small hoa.1 (fun x hx => by rw [hoa.2 x hx]; omega) (once_ok ha (common a.columns b.columns)))) ?_
  ((conv => whnf); repeat ((first | refine B0 ?_ | refine B1 ?_ | refine D1 ?_ | refine D2 ?_ | refine CallC.r ?_); conv => whnf))
  exact ResOK.same rfl

def okPair (l : List Table) (i j : Nat) : Bool := !agreeB (l.getD i ⟨[], []⟩) (l.getD j ⟨[], []⟩)
def firstDis (l : List Table) : Option (Nat × Nat) := tabF (okPair l) l.length l.length 0
theorem okPair_get {l : List Table} {i j : Nat} (hi : i < l.length) (hj : j < l.length) : okPair l i j = !agreeB l[i] l[j] := by simp [okPair, List.getD_eq_getElem?_getD, hi, hj]
def resI (r : Option (Nat × Nat)) : PV := match r with
  | some (i, j) => .tup [(false, [.c (.int .i64 (i : Int))]), (false, [.c (.int .i64 (j : Int))]), (false, [.c (.bool true)])]
  | none => .tup [(false, [.c (.int .i64 0)]), (false, [.c (.int .i64 0)]), (false, [.c (.bool false)])]
def inner (q : Nat → Nat → Bool) (n i j : Nat) : Option (Nat × Nat) := match rowF (q i) (n - j) j with
  | some j => some (i, j)
  | none => tabF q n (n - (i + 1)) (i + 1)
theorem tabF_go {q : Nat → Nat → Bool} {n i : Nat} (h : i < n) : tabF q n (n - i) i = inner q n i (i + 1) := by
  rw [show n - i = (n - (i + 1)) + 1 by omega]; rfl
theorem inner_go {q : Nat → Nat → Bool} {n i j : Nat} (h : j < n) : inner q n i j = if q i j = true then some (i, j) else inner q n i (j + 1) := by
  simp only [inner]
  rw [show n - j = (n - (j + 1)) + 1 by omega, rowF]
  by_cases hq : q i j = true
  · rw [if_pos hq, if_pos hq]
  · rw [if_neg hq, if_neg hq]
theorem inner_end {q : Nat → Nat → Bool} {n i : Nat} : inner q n i n = tabF q n (n - (i + 1)) (i + 1) := by
  simp only [inner, Nat.sub_self, rowF]
theorem s_disagreement (l : List Table) (hl : l.length ≤ 1024) (h : ∀ t ∈ l, SmallT t) :
    Sat Tryz.prog 94 [(false, Enc.enc l)] (resI (firstDis l), []) := by
  refine Sat.intro tok mixed Tryz.func94 rfl rfl ?_
  ((conv => whnf); repeat ((first | refine B0 ?_ | refine B1 ?_ | refine D1 ?_ | refine D2 ?_ | refine CallC.r ?_); conv => whnf))
  refine Pick.mk [0, 8, 9, 10] trivial ?_
  ((conv => whnf); repeat ((first | refine B0 ?_ | refine B1 ?_ | refine D1 ?_ | refine D2 ?_ | refine CallC.r ?_); conv => whnf))
  refine LoopL.over (fun (i : Nat) => [(10, .one (.c (.int .i64 ((i : Int)))))]) (fun (i : Nat) => []) (fun (i : Nat) => l.length - i) (fun (i : Nat) => i ≤ l.length ∧ tabF (okPair l) l.length (l.length - i) i = firstDis l) ?_ 0 ⟨Nat.zero_le _, rfl⟩
  intro i ⟨g1, g2⟩ ih
  ((conv => whnf); repeat ((first | refine B0 ?_ | refine B1 ?_ | refine D1 ?_ | refine D2 ?_ | refine CallC.r ?_); conv => whnf))
  refine Br.mk (fun hi => ?_) (fun hi => ?_) <;> ((conv => whnf); repeat ((first | refine B0 ?_ | refine B1 ?_ | refine D1 ?_ | refine D2 ?_ | refine CallC.r ?_); conv => whnf))
  · have hi : i < l.length := by simp only [List.length_map, decide_eq_true_eq] at hi; omega
    rw [tabF_go hi] at g2
    refine Pick.ix (hi) ?_
    ((conv => whnf); repeat ((first | refine B0 ?_ | refine B1 ?_ | refine D1 ?_ | refine D2 ?_ | refine CallC.r ?_); conv => whnf))
    refine Pick.at64 (z := ((i + 1 : Nat) : Int)) (by omega) (by omega) ?_
    ((conv => whnf); repeat ((first | refine B0 ?_ | refine B1 ?_ | refine D1 ?_ | refine D2 ?_ | refine CallC.r ?_); conv => whnf))
    refine Pick.mk [0, 5, 6, 7, 8, 9, 10] trivial ?_
    ((conv => whnf); repeat ((first | refine B0 ?_ | refine B1 ?_ | refine D1 ?_ | refine D2 ?_ | refine CallC.r ?_); conv => whnf))
    refine LoopL.over (fun (j : Nat) => [(7, .one (.c (.int .i64 ((j : Int)))))]) (fun (j : Nat) => []) (fun (j : Nat) => l.length - j) (fun (j : Nat) => i + 1 ≤ j ∧ j ≤ l.length ∧ inner (okPair l) l.length i j = firstDis l) ?_ (i + 1) ⟨Nat.le_refl _, by omega, g2⟩
    intro j ⟨f0, f1, f2⟩ ih2
    ((conv => whnf); repeat ((first | refine B0 ?_ | refine B1 ?_ | refine D1 ?_ | refine D2 ?_ | refine CallC.r ?_); conv => whnf))
    refine Br.mk (fun hj => ?_) (fun hj => ?_) <;> ((conv => whnf); repeat ((first | refine B0 ?_ | refine B1 ?_ | refine D1 ?_ | refine D2 ?_ | refine CallC.r ?_); conv => whnf))
    · have hj : j < l.length := by simp only [List.length_map, decide_eq_true_eq] at hj; omega
      rw [inner_go hj, okPair_get hi hj] at f2
      refine Pick.ix (hj) ?_
      ((conv => whnf); repeat ((first | refine B0 ?_ | refine B1 ?_ | refine D1 ?_ | refine D2 ?_ | refine CallC.r ?_); conv => whnf))
      refine Pick.mk _ (s_agree l[i] l[j] (h _ (List.getElem_mem hi)) (h _ (List.getElem_mem hj))) ?_
      ((conv => whnf); repeat ((first | refine B0 ?_ | refine B1 ?_ | refine D1 ?_ | refine D2 ?_ | refine CallC.r ?_); conv => whnf))
      refine Br.mk (fun ha => ?_) (fun ha => ?_) <;> ((conv => whnf); repeat ((first | refine B0 ?_ | refine B1 ?_ | refine D1 ?_ | refine D2 ?_ | refine CallC.r ?_); conv => whnf))
      · rw [if_pos ha] at f2
        rw [← f2]
        exact ResOK.same rfl
      · rw [if_neg (by rw [ha]; simp)] at f2
        refine Pick.at64 (z := (j + 1 : Nat)) (by simp) (by omega) ?_
        ((conv => whnf); repeat ((first | refine B0 ?_ | refine B1 ?_ | refine D1 ?_ | refine D2 ?_ | refine CallC.r ?_); conv => whnf))
        exact ih2 (j + 1) ⟨by omega, by omega, f2⟩ (by omega)
    · have hj : j = l.length := by simp only [List.length_map, decide_eq_false_iff_not] at hj; omega
      rw [hj, inner_end] at f2
      refine Pick.at64 (z := (i + 1 : Nat)) (by simp) (by omega) ?_
      ((conv => whnf); repeat ((first | refine B0 ?_ | refine B1 ?_ | refine D1 ?_ | refine D2 ?_ | refine CallC.r ?_); conv => whnf))
      exact ih (i + 1) ⟨by omega, f2⟩ (by omega)
  · have hi : i = l.length := by simp only [List.length_map, decide_eq_false_iff_not] at hi; omega
    rw [hi, Nat.sub_self] at g2
    rw [← g2]
    exact ResOK.same rfl
end Go.Proofs.YtnmoeeneofopcaaGreat.Pi
