/- Cells, columns and rows of tables that fit; the reference and the program. No statement of the seat is proved here. -/
import Derived.Test.YtnmoeeneofopcaaGreatPiFTab
namespace Go.Proofs.YtnmoeeneofopcaaGreat.Pi
open Go
set_option maxRecDepth 10000
set_option maxHeartbeats 3200000
set_option linter.unusedVariables false

theorem s_l20List (l : List Table) (o : Enc.ok l) (hr : ∀ t ∈ l, ∀ r ∈ t.rows, r.length ≤ 1048576) : Sat Tryz.prog 103 [(false, Enc.enc l)] (.one (.c (.bool (okTables l))), []) := by
  have o1 := o.1
  simp only [maxLen] at o1
  refine Sat.intro tok mixed Tryz.func103 rfl rfl ?_
  ((conv => whnf); repeat ((first | refine B0 ?_ | refine B1 ?_ | refine D1 ?_ | refine D2 ?_ | refine CallC.r ?_); conv => whnf))
  refine Pick.mk [0, 3] trivial ?_
  ((conv => whnf); repeat ((first | refine B0 ?_ | refine B1 ?_ | refine D1 ?_ | refine D2 ?_ | refine CallC.r ?_); conv => whnf))
  refine LoopL.over (fun (i : Nat) => [(3, .one (.c (.int .i64 ((i : Int)))))]) (fun (i : Nat) => []) (fun (i : Nat) => l.length - i) (fun (i : Nat) => i ≤ l.length ∧ ∀ (j : Nat) (h : j < l.length), j < i → okTable l[j] = true) ?_ 0 ⟨Nat.zero_le _, by intros; omega⟩
  intro i ⟨g1, g2⟩ ih
  ((conv => whnf); repeat ((first | refine B0 ?_ | refine B1 ?_ | refine D1 ?_ | refine D2 ?_ | refine CallC.r ?_); conv => whnf))
  refine Br.mk (fun h => ?_) (fun h => ?_) <;> ((conv => whnf); repeat ((first | refine B0 ?_ | refine B1 ?_ | refine D1 ?_ | refine D2 ?_ | refine CallC.r ?_); conv => whnf))
  · have h : i < l.length := by simp only [List.length_map, decide_eq_true_eq] at h; omega
    refine Pick.ix (h) ?_
    ((conv => whnf); repeat ((first | refine B0 ?_ | refine B1 ?_ | refine D1 ?_ | refine D2 ?_ | refine CallC.r ?_); conv => whnf))
    refine Pick.mk _ (s_l20Ok l[i] (o.2 _ (List.getElem_mem h)) (hr _ (List.getElem_mem h))) ?_
    ((conv => whnf); repeat ((first | refine B0 ?_ | refine B1 ?_ | refine D1 ?_ | refine D2 ?_ | refine CallC.r ?_); conv => whnf))
    refine Br.mk (fun h2 => ?_) (fun h2 => ?_) <;> ((conv => whnf); repeat ((first | refine B0 ?_ | refine B1 ?_ | refine D1 ?_ | refine D2 ?_ | refine CallC.r ?_); conv => whnf))
    · simp only [Bool.not_eq_true'] at h2
      have : okTables l = false := by
        rw [okTables, Bool.and_eq_false_iff]
        right
        rw [← Bool.not_eq_true, List.all_eq_true]
        intro hall
        rw [hall _ (List.getElem_mem h)] at h2; cases h2
      exact ResOK.same (by rw [this])
    · simp only [Bool.not_eq_false'] at h2
      refine Pick.at64 (z := (i + 1 : Nat)) (by simp) (by omega) ?_
      ((conv => whnf); repeat ((first | refine B0 ?_ | refine B1 ?_ | refine D1 ?_ | refine D2 ?_ | refine CallC.r ?_); conv => whnf))
      refine ih (i + 1) ⟨by omega, fun j hj hlt => ?_⟩ (by omega)
      by_cases e2 : j = i
      · subst e2; exact h2
      · exact g2 j hj (by omega)
  · have h : l.length ≤ i := by simp only [List.length_map, decide_eq_false_iff_not] at h; omega
    have hall : l.all okTable = true := by
      rw [List.all_eq_true]
      intro x hx
      obtain ⟨j, hj, rfl⟩ := List.getElem_of_mem hx
      exact g2 j hj (by omega)
    exact ResOK.same (by rw [okTables, hall, Bool.and_true, List.length_map]; congr 4; rw [decide_eq_decide]; omega)

theorem s_l20Cell (cs xs : List Int) (k : Int) (hb : cs.length ≤ maxLen) (hl : cs.length ≤ xs.length) : Sat Tryz.prog 264 [(false, Enc.enc cs), (false, Enc.enc xs), (false, [.int .i64 k])] (.one (.c (.int .i64 (cellOf cs xs k))), []) := by
  simp only [maxLen] at hb
  refine Sat.intro tok mixed Tryz.func264 rfl rfl ?_
  ((conv => whnf); repeat ((first | refine B0 ?_ | refine B1 ?_ | refine D1 ?_ | refine D2 ?_ | refine CallC.r ?_); conv => whnf))
  refine Pick.mk [0, 1, 2, 7] trivial ?_
  ((conv => whnf); repeat ((first | refine B0 ?_ | refine B1 ?_ | refine D1 ?_ | refine D2 ?_ | refine CallC.r ?_); conv => whnf))
  refine LoopL.over (fun (i : Nat) => [(7, .one (.c (.int .i64 ((i : Int)))))]) (fun (i : Nat) => []) (fun (i : Nat) => cs.length - i) (fun (i : Nat) => i ≤ cs.length ∧ ∀ (j : Nat) (h : j < cs.length), j < i → cs[j] ≠ k) ?_ 0 ⟨Nat.zero_le _, by intros; omega⟩
  intro i ⟨g1, g2⟩ ih
  ((conv => whnf); repeat ((first | refine B0 ?_ | refine B1 ?_ | refine D1 ?_ | refine D2 ?_ | refine CallC.r ?_); conv => whnf))
  refine Br.mk (fun h => ?_) (fun h => ?_) <;> ((conv => whnf); repeat ((first | refine B0 ?_ | refine B1 ?_ | refine D1 ?_ | refine D2 ?_ | refine CallC.r ?_); conv => whnf))
  · have h : i < cs.length := by simp only [List.length_map, decide_eq_true_eq] at h; omega
    refine Pick.ix (h) ?_
    ((conv => whnf); repeat ((first | refine B0 ?_ | refine B1 ?_ | refine D1 ?_ | refine D2 ?_ | refine CallC.r ?_); conv => whnf))
    refine Br.mk (fun h2 => ?_) (fun h2 => ?_) <;> ((conv => whnf); repeat ((first | refine B0 ?_ | refine B1 ?_ | refine D1 ?_ | refine D2 ?_ | refine CallC.r ?_); conv => whnf))
    · have h2 : cs[i] = k := by simpa using h2
      refine Pick.ix ((by omega : i < xs.length)) ?_
      ((conv => whnf); repeat ((first | refine B0 ?_ | refine B1 ?_ | refine D1 ?_ | refine D2 ?_ | refine CallC.r ?_); conv => whnf))
      exact ResOK.same (by rw [cellOf_first h (by omega) h2 g2])
    · have h2 : cs[i] ≠ k := by simpa using h2
      refine Pick.at64 (z := (i + 1 : Nat)) (by simp) (by omega) ?_
      ((conv => whnf); repeat ((first | refine B0 ?_ | refine B1 ?_ | refine D1 ?_ | refine D2 ?_ | refine CallC.r ?_); conv => whnf))
      refine ih (i + 1) ⟨by omega, fun j hj hlt => ?_⟩ (by omega)
      by_cases e2 : j = i
      · subst e2; exact h2
      · exact g2 j hj (by omega)
  · have h : cs.length ≤ i := by simp only [List.length_map, decide_eq_false_iff_not] at h; omega
    refine ResOK.same ?_
    rw [cellOf_neg fun hm => by
      obtain ⟨j, hj, e⟩ := List.getElem_of_mem hm
      exact g2 j hj (by omega) e]

theorem s_l20Fit (a b : Table) (x y : List Int) (ha : a.columns.length ≤ maxLen) (hb : b.columns.length ≤ maxLen) (hx : x.length = a.columns.length) (hy : b.columns.length ≤ y.length) :
    Sat Tryz.prog 302 [(false, [.ptr 2 (Enc.enc a)]), (false, [.ptr 2 (Enc.enc b)]), (false, Enc.enc x), (false, Enc.enc y)] (.one (.c (.bool (fitR a.columns b.columns x y))), []) := by
  have hb' := ha
  simp only [maxLen] at hb'
  refine Sat.intro tok mixed Tryz.func302 rfl rfl ?_
  ((conv => whnf); repeat ((first | refine B0 ?_ | refine B1 ?_ | refine D1 ?_ | refine D2 ?_ | refine CallC.r ?_); conv => whnf))
  refine Pick.mk [0, 1, 2, 3, 9] trivial ?_
  ((conv => whnf); repeat ((first | refine B0 ?_ | refine B1 ?_ | refine D1 ?_ | refine D2 ?_ | refine CallC.r ?_); conv => whnf))
  refine LoopL.over (fun (i : Nat) => [(9, .one (.c (.int .i64 ((i : Int)))))]) (fun (i : Nat) => []) (fun (i : Nat) => a.columns.length - i) (fun (i : Nat) => i ≤ a.columns.length ∧ ∀ (j : Nat) (h : j < a.columns.length) (h2 : j < x.length), j < i → fitCell b.columns y (a.columns[j], x[j]) = true) ?_ 0 ⟨Nat.zero_le _, by intros; omega⟩
  intro i ⟨g1, g2⟩ ih
  ((conv => whnf); repeat ((first | refine B0 ?_ | refine B1 ?_ | refine D1 ?_ | refine D2 ?_ | refine CallC.r ?_); conv => whnf))
  refine Br.mk (fun h => ?_) (fun h => ?_) <;> ((conv => whnf); repeat ((first | refine B0 ?_ | refine B1 ?_ | refine D1 ?_ | refine D2 ?_ | refine CallC.r ?_); conv => whnf))
  · have h : i < a.columns.length := by simp only [List.length_map, decide_eq_true_eq] at h; omega
    have hix : i < x.length := by omega
    have no : fitCell b.columns y (a.columns[i], x[i]) = false → fitR a.columns b.columns x y = false := fun e => by
      rw [fitR, ← Bool.not_eq_true, List.all_eq_true]
      intro hall
      have := hall (a.columns[i], x[i]) (by rw [List.mem_iff_getElem]; exact ⟨i, by simp; omega, by simp⟩)
      rw [this] at e; cases e
    have yes : fitCell b.columns y (a.columns[i], x[i]) = true → ∀ (j : Nat) (h : j < a.columns.length) (h2 : j < x.length), j < i + 1 → fitCell b.columns y (a.columns[j], x[j]) = true := fun e j hj hj2 hlt => by
      by_cases e2 : j = i
      · subst e2; exact e
      · exact g2 j hj hj2 (by omega)
    refine Pick.ix (h) ?_
    ((conv => whnf); repeat ((first | refine B0 ?_ | refine B1 ?_ | refine D1 ?_ | refine D2 ?_ | refine CallC.r ?_); conv => whnf))
    refine Pick.mk _ (s_l20Cell b.columns y a.columns[i] hb hy) ?_
    ((conv => whnf); repeat ((first | refine B0 ?_ | refine B1 ?_ | refine D1 ?_ | refine D2 ?_ | refine CallC.r ?_); conv => whnf))
    refine Br.mk (fun h2 => ?_) (fun h2 => ?_) <;> ((conv => whnf); repeat ((first | refine B0 ?_ | refine B1 ?_ | refine D1 ?_ | refine D2 ?_ | refine CallC.r ?_); conv => whnf))
    · have h2 : 0 ≤ cellOf b.columns y a.columns[i] := by simpa using h2
      refine Pick.ix (hix) ?_
      ((conv => whnf); repeat ((first | refine B0 ?_ | refine B1 ?_ | refine D1 ?_ | refine D2 ?_ | refine CallC.r ?_); conv => whnf))
      refine Br.mk (fun h3 => ?_) (fun h3 => ?_) <;> ((conv => whnf); repeat ((first | refine B0 ?_ | refine B1 ?_ | refine D1 ?_ | refine D2 ?_ | refine CallC.r ?_); conv => whnf))
      · exact ResOK.same (by rw [no (by simp at h3; simp [fitCell, h3]; omega)])
      · refine Pick.at64 (z := (i + 1 : Nat)) (by simp) (by omega) ?_
        ((conv => whnf); repeat ((first | refine B0 ?_ | refine B1 ?_ | refine D1 ?_ | refine D2 ?_ | refine CallC.r ?_); conv => whnf))
        exact ih (i + 1) ⟨by omega, yes (by simp at h3; simp [fitCell, h3])⟩ (by omega)
    · have h2 : cellOf b.columns y a.columns[i] < 0 := by simpa using h2
      refine Pick.at64 (z := (i + 1 : Nat)) (by simp) (by omega) ?_
      ((conv => whnf); repeat ((first | refine B0 ?_ | refine B1 ?_ | refine D1 ?_ | refine D2 ?_ | refine CallC.r ?_); conv => whnf))
      exact ih (i + 1) ⟨by omega, yes (by simp [fitCell, h2])⟩ (by omega)
  · have h : a.columns.length ≤ i := by simp only [List.length_map, decide_eq_false_iff_not] at h; omega
    refine ResOK.same ?_
    have : fitR a.columns b.columns x y = true := by
      rw [fitR, List.all_eq_true]
      intro p hp
      obtain ⟨j, hj, rfl⟩ := List.mem_iff_getElem.1 hp
      simp only [List.length_zip] at hj
      rw [List.getElem_zip]
      exact g2 j (by omega) (by omega) (by omega)
    rw [this]

/-- A number at its place, once. -/
def putL (v : Int) : List Int → List Int
  | [] => [v]
  | x :: xs => if x < v then x :: putL v xs else if x = v then x :: xs else v :: x :: xs
theorem putL_len (v : Int) : ∀ xs : List Int, (putL v xs).length ≤ xs.length + 1
  | [] => by simp [putL]
  | x :: xs => by
    have := putL_len v xs
    simp only [putL]
    split
    · simp; omega
    · split <;> simp
theorem s_l00Put (xs : List Int) (v : Int) (hb : xs.length ≤ 1048576) : Sat Tryz.prog 252 [(false, Enc.enc xs), (false, [.int .i64 v])] (.one (.rs 0), [(0, .arr 1 ((putL v xs).map Enc.enc))]) := by
  refine Sat.intro tok mixed Tryz.func252 rfl rfl ?_
  ((conv => whnf); repeat ((first | refine B0 ?_ | refine B1 ?_ | refine D1 ?_ | refine D2 ?_ | refine CallC.r ?_); conv => whnf))
  refine Pick.mk [0, 1, 5, 6, 7] trivial ?_
  ((conv => whnf); repeat ((first | refine B0 ?_ | refine B1 ?_ | refine D1 ?_ | refine D2 ?_ | refine CallC.r ?_); conv => whnf))
  refine LoopL.over (fun (p : Nat × Bool × List Int) => [(6, .one (.c (.bool (p.2.1)))), (7, .one (.c (.int .i64 ((p.1 : Int)))))]) (fun (p : Nat × Bool × List Int) => [(320, .arr 1 (List.map Enc.enc (p.2.2)))]) (fun (p : Nat × Bool × List Int) => xs.length - p.1) (fun (p : Nat × Bool × List Int) => p.1 ≤ xs.length ∧ p.2.2.length ≤ p.1 + (if p.2.1 = true then 1 else 0) ∧ p.2.2 ++ (if p.2.1 = true then xs.drop p.1 else putL v (xs.drop p.1)) = putL v xs) ?_ (0, false, []) ⟨Nat.zero_le _, by simp, by simp⟩
  intro ⟨i, d, out⟩ ⟨g1, g2, g3⟩ ih
  simp only at g1 g2 g3
  ((conv => whnf); repeat ((first | refine B0 ?_ | refine B1 ?_ | refine D1 ?_ | refine D2 ?_ | refine CallC.r ?_); conv => whnf))
  refine Br.mk (fun h => ?_) (fun h => ?_) <;> ((conv => whnf); repeat ((first | refine B0 ?_ | refine B1 ?_ | refine D1 ?_ | refine D2 ?_ | refine CallC.r ?_); conv => whnf))
  · have hi : i < xs.length := by simp only [List.length_map, decide_eq_true_eq] at h; omega
    clear h
    rw [List.drop_eq_getElem_cons hi] at g3
    refine Br.mk (fun hd => ?_) (fun hd => ?_) <;> ((conv => whnf); repeat ((first | refine B0 ?_ | refine B1 ?_ | refine D1 ?_ | refine D2 ?_ | refine CallC.r ?_); conv => whnf))
    · have hd : d = false := by simpa using hd
      subst hd
      simp only [Bool.false_eq_true, if_false, putL] at g3
      simp only [Bool.false_eq_true, if_false] at g2
      refine Pick.ix (hi) ?_
      ((conv => whnf); repeat ((first | refine B0 ?_ | refine B1 ?_ | refine D1 ?_ | refine D2 ?_ | refine CallC.r ?_); conv => whnf))
      refine Br.mk (fun h2 => ?_) (fun h2 => ?_) <;> ((conv => whnf); repeat ((first | refine B0 ?_ | refine B1 ?_ | refine D1 ?_ | refine D2 ?_ | refine CallC.r ?_); conv => whnf))
      · have h2 : v ≤ xs[i] := by simpa using h2
        rw [if_neg (by omega)] at g3
        refine Pick.ix (hi) ?_
        ((conv => whnf); repeat ((first | refine B0 ?_ | refine B1 ?_ | refine D1 ?_ | refine D2 ?_ | refine CallC.r ?_); conv => whnf))
        refine Br.mk (fun h3 => ?_) (fun h3 => ?_) <;> ((conv => whnf); repeat ((first | refine B0 ?_ | refine B1 ?_ | refine D1 ?_ | refine D2 ?_ | refine CallC.r ?_); conv => whnf))
        · have h3 : v < xs[i] := by simpa using h3
          rw [if_neg (by omega)] at g3
          refine Side.mk (by simp only [List.length_map, List.length_cons, List.length_nil]; omega) ?_
          ((conv => whnf); repeat ((first | refine B0 ?_ | refine B1 ?_ | refine D1 ?_ | refine D2 ?_ | refine CallC.r ?_); conv => whnf))
          refine Pick.ix (hi) ?_
          ((conv => whnf); repeat ((first | refine B0 ?_ | refine B1 ?_ | refine D1 ?_ | refine D2 ?_ | refine CallC.r ?_); conv => whnf))
          refine Side.mk (by simp only [List.length_append, List.length_map, List.length_cons, List.length_nil]; omega) ?_
          ((conv => whnf); repeat ((first | refine B0 ?_ | refine B1 ?_ | refine D1 ?_ | refine D2 ?_ | refine CallC.r ?_); conv => whnf))
          refine Pick.at64 (z := (i + 1 : Nat)) (by simp) (by omega) ?_
          ((conv => whnf); repeat ((first | refine B0 ?_ | refine B1 ?_ | refine D1 ?_ | refine D2 ?_ | refine CallC.r ?_); conv => whnf))
          have hn := ih (i + 1, true, out ++ [v] ++ [xs[i]]) ⟨by simp only []; omega, by simp <;> omega, by simp only [if_true]; rw [← g3]; simp⟩ (by simp only []; omega)
          simp only [List.map_append] at hn
          exact hn
        · have h3 : xs[i] = v := by
            have h3 : ¬ xs[i] > v := by simpa using h3
            omega
          rw [if_pos h3] at g3
          refine Pick.ix (hi) ?_
          ((conv => whnf); repeat ((first | refine B0 ?_ | refine B1 ?_ | refine D1 ?_ | refine D2 ?_ | refine CallC.r ?_); conv => whnf))
          refine Side.mk (by simp only [List.length_map, List.length_cons, List.length_nil]; omega) ?_
          ((conv => whnf); repeat ((first | refine B0 ?_ | refine B1 ?_ | refine D1 ?_ | refine D2 ?_ | refine CallC.r ?_); conv => whnf))
          refine Pick.at64 (z := (i + 1 : Nat)) (by simp) (by omega) ?_
          ((conv => whnf); repeat ((first | refine B0 ?_ | refine B1 ?_ | refine D1 ?_ | refine D2 ?_ | refine CallC.r ?_); conv => whnf))
          have hn := ih (i + 1, true, out ++ [xs[i]]) ⟨by simp only []; omega, by simp <;> omega, by simp only [if_true]; rw [← g3]; simp⟩ (by simp only []; omega)
          simp only [List.map_append] at hn
          exact hn
      · have h2 : xs[i] < v := by simpa using h2
        rw [if_pos h2] at g3
        refine Pick.ix (hi) ?_
        ((conv => whnf); repeat ((first | refine B0 ?_ | refine B1 ?_ | refine D1 ?_ | refine D2 ?_ | refine CallC.r ?_); conv => whnf))
        refine Side.mk (by simp only [List.length_map, List.length_cons, List.length_nil]; omega) ?_
        ((conv => whnf); repeat ((first | refine B0 ?_ | refine B1 ?_ | refine D1 ?_ | refine D2 ?_ | refine CallC.r ?_); conv => whnf))
        refine Pick.at64 (z := (i + 1 : Nat)) (by simp) (by omega) ?_
        ((conv => whnf); repeat ((first | refine B0 ?_ | refine B1 ?_ | refine D1 ?_ | refine D2 ?_ | refine CallC.r ?_); conv => whnf))
        have hn := ih (i + 1, false, out ++ [xs[i]]) ⟨by simp only []; omega, by simp <;> omega, by simp only [Bool.false_eq_true, if_false]; rw [← g3]; simp⟩ (by simp only []; omega)
        simp only [List.map_append] at hn
        exact hn
    · have hd : d = true := by simpa using hd
      subst hd
      simp only [if_true] at g3 g2
      refine Pick.ix (hi) ?_
      ((conv => whnf); repeat ((first | refine B0 ?_ | refine B1 ?_ | refine D1 ?_ | refine D2 ?_ | refine CallC.r ?_); conv => whnf))
      refine Side.mk (by simp only [List.length_map, List.length_cons, List.length_nil]; omega) ?_
      ((conv => whnf); repeat ((first | refine B0 ?_ | refine B1 ?_ | refine D1 ?_ | refine D2 ?_ | refine CallC.r ?_); conv => whnf))
      refine Pick.at64 (z := (i + 1 : Nat)) (by simp) (by omega) ?_
      ((conv => whnf); repeat ((first | refine B0 ?_ | refine B1 ?_ | refine D1 ?_ | refine D2 ?_ | refine CallC.r ?_); conv => whnf))
      have hn := ih (i + 1, true, out ++ [xs[i]]) ⟨by simp only []; omega, by simp <;> omega, by simp only [if_true]; rw [← g3]; simp⟩ (by simp only []; omega)
      simp only [List.map_append] at hn
      exact hn
  · have h : i = xs.length := by simp only [List.length_map, decide_eq_false_iff_not] at h; omega
    subst h
    rw [List.drop_length] at g3
    refine Br.mk (fun hd => ?_) (fun hd => ?_) <;> ((conv => whnf); repeat ((first | refine B0 ?_ | refine B1 ?_ | refine D1 ?_ | refine D2 ?_ | refine CallC.r ?_); conv => whnf))
    · have hd : d = false := by simpa using hd
      subst hd
      simp only [Bool.false_eq_true, if_false, putL] at g3
      simp only [Bool.false_eq_true, if_false] at g2
      refine Side.mk (by simp only [List.length_map, List.length_cons, List.length_nil]; omega) ?_
      ((conv => whnf); repeat ((first | refine B0 ?_ | refine B1 ?_ | refine D1 ?_ | refine D2 ?_ | refine CallC.r ?_); conv => whnf))
      exact ResOK.same (by rw [← g3, List.map_append]; rfl)
    · have hd : d = true := by simpa using hd
      subst hd
      simp only [if_true, List.append_nil] at g3 g2
      exact ResOK.same (by rw [← g3])

def colsTo (a : List Int) (b : List Int) : List Int := b.foldl (fun acc c => putL c acc) a
theorem colsTo_len (b : List Int) : ∀ a : List Int, (colsTo a b).length ≤ a.length + b.length := by
  induction b with
  | nil => intro a; simp [colsTo]
  | cons c b ih =>
    intro a
    have h1 := ih (putL c a)
    have h2 := putL_len c a
    simp only [colsTo, List.foldl_cons, List.length_cons] at h1 ⊢
    omega
theorem s_l20Columns (a b : List Int) (ha : a.length ≤ 65536) (hb : b.length ≤ 65536) : Sat Tryz.prog 175 [(false, Enc.enc a), (false, Enc.enc b)] (.one (.rs 0), [(0, .arr 1 ((colsTo a b).map Enc.enc))]) := by
  refine Sat.intro tok mixed Tryz.func175 rfl rfl ?_
  ((conv => whnf); repeat ((first | refine B0 ?_ | refine B1 ?_ | refine D1 ?_ | refine D2 ?_ | refine CallC.r ?_); conv => whnf))
  refine Pick.mk _ (s_l00Own a (by omega)) ?_
  ((conv => whnf); repeat ((first | refine B0 ?_ | refine B1 ?_ | refine D1 ?_ | refine D2 ?_ | refine CallC.r ?_); conv => whnf))
  refine Pick.mk [1, 5, 6] trivial ?_
  ((conv => whnf); repeat ((first | refine B0 ?_ | refine B1 ?_ | refine D1 ?_ | refine D2 ?_ | refine CallC.r ?_); conv => whnf))
  refine LoopL.over (fun (i : Nat) => [(6, .one (.c (.int .i64 ((i : Int)))))]) (fun (i : Nat) => [(320, .arr 1 (List.map Enc.enc (colsTo a (b.take i))))]) (fun (i : Nat) => b.length - i) (fun (i : Nat) => i ≤ b.length) ?_ 0 (Nat.zero_le _)
  intro i g1 ih
  ((conv => whnf); repeat ((first | refine B0 ?_ | refine B1 ?_ | refine D1 ?_ | refine D2 ?_ | refine CallC.r ?_); conv => whnf))
  refine Br.mk (fun h => ?_) (fun h => ?_) <;> ((conv => whnf); repeat ((first | refine B0 ?_ | refine B1 ?_ | refine D1 ?_ | refine D2 ?_ | refine CallC.r ?_); conv => whnf))
  · have h : i < b.length := by simp only [List.length_map, decide_eq_true_eq] at h; omega
    have hlen := colsTo_len (b.take i) a
    rw [List.length_take] at hlen
    refine Pick.ix (h) ?_
    ((conv => whnf); repeat ((first | refine B0 ?_ | refine B1 ?_ | refine D1 ?_ | refine D2 ?_ | refine CallC.r ?_); conv => whnf))
    refine Pick.mk _ (s_l00Put (colsTo a (b.take i)) b[i] (by omega)) ?_
    ((conv => whnf); repeat ((first | refine B0 ?_ | refine B1 ?_ | refine D1 ?_ | refine D2 ?_ | refine CallC.r ?_); conv => whnf))
    refine Pick.at64 (z := (i + 1 : Nat)) (by simp) (by omega) ?_
    ((conv => whnf); repeat ((first | refine B0 ?_ | refine B1 ?_ | refine D1 ?_ | refine D2 ?_ | refine CallC.r ?_); conv => whnf))
    have hn := ih (i + 1) (by omega) (by omega)
    rw [show colsTo a (b.take (i + 1)) = putL b[i] (colsTo a (b.take i)) by rw [List.take_add_one, List.getElem?_eq_getElem h, colsTo, Option.toList_some, List.foldl_append]; rfl] at hn
    exact hn
  · have h : i = b.length := by simp only [List.length_map, decide_eq_false_iff_not] at h; omega
    subst h
    exact ResOK.same (by rw [List.take_length])
end Go.Proofs.YtnmoeeneofopcaaGreat.Pi
