/- Contextual tables, in the reference and in the program. No statement of the seat is proved here. -/
import Derived.Test.YtnmoeeneofopcaaGreatPiFAgree3
import Derived.Test.YtnmoeeneofopcaaGreatPiFTab8
namespace Go.Proofs.YtnmoeeneofopcaaGreat.Pi
open Go
set_option maxRecDepth 10000
set_option maxHeartbeats 6400000
set_option linter.unusedVariables false

def resR (r : Option (Nat × Nat)) : PV := match r with
  | some (i, j) => .tup [(false, [.c (.int .i64 (i : Int))]), (false, [.c (.int .i64 (j : Int))])]
  | none => .tup [(false, [.c (.int .i64 (-1))]), (false, [.c (.int .i64 (-1))])]
theorem s_l20First (l : List Table) (hl : l.length ≤ 1024) (h : ∀ t ∈ l, SmallT t) :
    Sat Tryz.prog 91 [(false, Enc.enc l)] (resR (firstDis l), []) := by
  refine Sat.intro tok mixed Tryz.func91 rfl rfl ?_
  ((conv => whnf); repeat ((first | refine B0 ?_ | refine B1 ?_ | refine D1 ?_ | refine D2 ?_ | refine CallC.r ?_); conv => whnf))
  refine Pick.mk [0, 4] trivial ?_
  ((conv => whnf); repeat ((first | refine B0 ?_ | refine B1 ?_ | refine D1 ?_ | refine D2 ?_ | refine CallC.r ?_); conv => whnf))
  refine LoopL.over (fun (i : Nat) => [(4, .one (.c (.int .i64 ((i : Int)))))]) (fun (i : Nat) => []) (fun (i : Nat) => l.length - i) (fun (i : Nat) => i ≤ l.length ∧ tabF (okPair l) l.length (l.length - i) i = firstDis l) ?_ 0 ⟨Nat.zero_le _, rfl⟩
  intro i ⟨g1, g2⟩ ih
  ((conv => whnf); repeat ((first | refine B0 ?_ | refine B1 ?_ | refine D1 ?_ | refine D2 ?_ | refine CallC.r ?_); conv => whnf))
  refine Br.mk (fun hi => ?_) (fun hi => ?_) <;> ((conv => whnf); repeat ((first | refine B0 ?_ | refine B1 ?_ | refine D1 ?_ | refine D2 ?_ | refine CallC.r ?_); conv => whnf))
  · have hi : i < l.length := by simp only [List.length_map, decide_eq_true_eq] at hi; omega
    rw [tabF_go hi] at g2
    refine Pick.at64 (z := ((i + 1 : Nat) : Int)) (by omega) (by omega) ?_
    ((conv => whnf); repeat ((first | refine B0 ?_ | refine B1 ?_ | refine D1 ?_ | refine D2 ?_ | refine CallC.r ?_); conv => whnf))
    refine Pick.mk [0, 4, 5] trivial ?_
    ((conv => whnf); repeat ((first | refine B0 ?_ | refine B1 ?_ | refine D1 ?_ | refine D2 ?_ | refine CallC.r ?_); conv => whnf))
    refine LoopL.over (fun (j : Nat) => [(5, .one (.c (.int .i64 ((j : Int)))))]) (fun (j : Nat) => []) (fun (j : Nat) => l.length - j) (fun (j : Nat) => i + 1 ≤ j ∧ j ≤ l.length ∧ inner (okPair l) l.length i j = firstDis l) ?_ (i + 1) ⟨Nat.le_refl _, by omega, g2⟩
    intro j ⟨f0, f1, f2⟩ ih2
    ((conv => whnf); repeat ((first | refine B0 ?_ | refine B1 ?_ | refine D1 ?_ | refine D2 ?_ | refine CallC.r ?_); conv => whnf))
    refine Br.mk (fun hj => ?_) (fun hj => ?_) <;> ((conv => whnf); repeat ((first | refine B0 ?_ | refine B1 ?_ | refine D1 ?_ | refine D2 ?_ | refine CallC.r ?_); conv => whnf))
    · have hj : j < l.length := by simp only [List.length_map, decide_eq_true_eq] at hj; omega
      rw [inner_go hj, okPair_get hi hj] at f2
      refine Pick.ix (hi) ?_
      ((conv => whnf); repeat ((first | refine B0 ?_ | refine B1 ?_ | refine D1 ?_ | refine D2 ?_ | refine CallC.r ?_); conv => whnf))
      refine Pick.ix (hj) ?_
      ((conv => whnf); repeat ((first | refine B0 ?_ | refine B1 ?_ | refine D1 ?_ | refine D2 ?_ | refine CallC.r ?_); conv => whnf))
      refine Pick.mk _ (s_l20Agree l[i] l[j] (h _ (List.getElem_mem hi)) (h _ (List.getElem_mem hj))) ?_
      ((conv => whnf); repeat ((first | refine B0 ?_ | refine B1 ?_ | refine D1 ?_ | refine D2 ?_ | refine CallC.r ?_); conv => whnf))
      refine Br.mk (fun ha => ?_) (fun ha => ?_) <;> ((conv => whnf); repeat ((first | refine B0 ?_ | refine B1 ?_ | refine D1 ?_ | refine D2 ?_ | refine CallC.r ?_); conv => whnf))
      · rw [if_pos ha] at f2
        rw [← f2]
        exact ResOK.same rfl
      · rw [if_neg (by rw [ha]; simp)] at f2
        refine Pick.at64 (z := (j + 1 : Nat)) (by simp) (by omega) ?_
        ((conv => whnf); repeat ((first | refine B0 ?_ | refine B1 ?_ | refine D1 ?_ | refine D2 ?_ | refine CallC.r ?_); conv => whnf))
        exact ih2 (j + 1) ⟨by omega, by omega, f2⟩ (by omega)
    · have hj : j = l.length := by simp only [List.length_map, decide_eq_false_iff_not] at hj; omega
      rw [hj, inner_end] at f2
      refine Pick.at64 (z := (i + 1 : Nat)) (by simp) (by omega) ?_
      ((conv => whnf); repeat ((first | refine B0 ?_ | refine B1 ?_ | refine D1 ?_ | refine D2 ?_ | refine CallC.r ?_); conv => whnf))
      exact ih (i + 1) ⟨by omega, f2⟩ (by omega)
  · have hi : i = l.length := by simp only [List.length_map, decide_eq_false_iff_not] at hi; omega
    rw [hi, Nat.sub_self] at g2
    rw [← g2]
    exact ResOK.same rfl

theorem small_ok {l : List Table} (h : okTables l = true) : l.length ≤ 1024 ∧ ∀ t ∈ l, SmallT t := by
  obtain ⟨hT, hall⟩ := tabs_ok h
  refine ⟨by have := hT.len; omega, fun t ht => ⟨by have := hT.rows t ht; omega, by have := hT.cols t ht; omega, hT.each t ht, fun r hr x hx => ?_⟩⟩
  have := (okTable_row (List.all_eq_true.1 hall t ht) hr).2 x hx
  simp only [I64]; omega
def ctxL (l : List Table) (bud : Int) : Bool := if gCode l bud = 0 then (firstDis l).isNone && decide ((gEnd l bud).found.length = 0) else false
theorem lenz (xs : List (List Int)) : (((xs.map (Enc.enc (α := List Int))).length : Int) == 0) = ((none : Option (Nat × Nat)).isNone && decide (xs.length = 0)) := by
  cases xs with
  | nil => rfl
  | cons x xs => simp; omega
theorem eq0 {n : Nat} : ((n : Int) = 0) = (n = 0) := propext ⟨fun h => by omega, fun h => by omega⟩
theorem s_spec_IsContextual (l : List Table) (o : Enc.ok l) (hr : ∀ t ∈ l, ∀ r ∈ t.rows, r.length ≤ 1048576) (bud : Int) :
    Sat Tryz.prog 26 [(false, Enc.enc l), (false, [.int .i64 bud])] (.tup [(false, [.c (.bool (ctxL l bud))]), (false, [.c (.int .i64 (gCode l bud))])], []) := by
  refine Sat.intro tok mixed Tryz.func26 rfl rfl ?_
  ((conv => whnf); repeat ((first | refine B0 ?_ | refine B1 ?_ | refine D1 ?_ | refine D2 ?_ | refine CallC.r ?_); conv => whnf))
  refine Pick.mk _ (s_l20Global l o hr bud) ?_
  ((conv => whnf); repeat ((first | refine B0 ?_ | refine B1 ?_ | refine D1 ?_ | refine D2 ?_ | refine CallC.r ?_); conv => whnf))
  refine Br.mk (fun h => ?_) (fun h => ?_) <;> ((conv => whnf); repeat ((first | refine B0 ?_ | refine B1 ?_ | refine D1 ?_ | refine D2 ?_ | refine CallC.r ?_); conv => whnf))
  · have h : gCode l bud ≠ 0 := by simpa using h
    rw [ctxL, if_neg h]
    exact ResOK.same rfl
  have h : gCode l bud = 0 := by simpa using h
  obtain ⟨h1, h2, _, hf⟩ := found_ok h
  obtain ⟨hs1, hs2⟩ := small_ok h1
  have hd := s_l20First l hs1 hs2
  rw [ctxL, if_pos h, h, if_pos rfl]
  generalize firstDis l = D at hd ⊢
  cases D with
  | none =>
    refine Pick.mk _ (hd) ?_
    ((conv => whnf); repeat ((first | refine B0 ?_ | refine B1 ?_ | refine D1 ?_ | refine D2 ?_ | refine CallC.r ?_); conv => whnf))
    rw [if_pos rfl, lenz]
    exact ResOK.same rfl
  | some p =>
    obtain ⟨i, j⟩ := p
    refine Pick.mk _ (hd) ?_
    ((conv => whnf); repeat ((first | refine B0 ?_ | refine B1 ?_ | refine D1 ?_ | refine D2 ?_ | refine CallC.r ?_); conv => whnf))
    exact ResOK.same rfl
theorem s_impl_IsContextual (l : List Table) (o : Enc.ok l) (hr : ∀ t ∈ l, ∀ r ∈ t.rows, r.length ≤ 1048576) (bud : Int) :
    Sat Tryz.prog 28 [(false, Enc.enc l), (false, [.int .i64 bud])] (.tup [(false, [.c (.bool (ctxL l bud))]), (false, [.c (.int .i64 (gCode l bud))])], []) := by
  by_cases h : gCode l bud = 0
  · obtain ⟨h1, h2, _, hf⟩ := found_ok h
    obtain ⟨hs1, hs2⟩ := small_ok h1
    have hg := s_globalRows l o hr bud h
    have hd := s_disagreement l hs1 hs2
    rw [ctxL, if_pos h, h]
    generalize gEnd l bud = E at hg ⊢
    generalize firstDis l = D at hd ⊢
    refine Sat.intro tok mixed Tryz.func28 rfl rfl ?_
    ((conv => whnf); repeat ((first | refine B0 ?_ | refine B1 ?_ | refine D1 ?_ | refine D2 ?_ | refine CallC.r ?_); conv => whnf))
    refine Pick.mk _ (hg) ?_
    ((conv => whnf); repeat ((first | refine B0 ?_ | refine B1 ?_ | refine D1 ?_ | refine D2 ?_ | refine CallC.r ?_); conv => whnf))
    cases D with
    | none =>
      refine Pick.mk _ (hd) ?_
      ((conv => whnf); repeat ((first | refine B0 ?_ | refine B1 ?_ | refine D1 ?_ | refine D2 ?_ | refine CallC.r ?_); conv => whnf))
      rw [lenz]
      exact ResOK.same rfl
    | some p =>
      obtain ⟨i, j⟩ := p
      refine Pick.mk _ (hd) ?_
      ((conv => whnf); repeat ((first | refine B0 ?_ | refine B1 ?_ | refine D1 ?_ | refine D2 ?_ | refine CallC.r ?_); conv => whnf))
      exact ResOK.same rfl
  · rw [ctxL, if_neg h]
    refine Sat.intro tok mixed Tryz.func28 rfl rfl ?_
    ((conv => whnf); repeat ((first | refine B0 ?_ | refine B1 ?_ | refine D1 ?_ | refine D2 ?_ | refine CallC.r ?_); conv => whnf))
    refine Pick.mk _ (s_globalRows_no l o hr bud h) ?_
    ((conv => whnf); repeat ((first | refine B0 ?_ | refine B1 ?_ | refine D1 ?_ | refine D2 ?_ | refine CallC.r ?_); conv => whnf))
    refine Br.mk (fun _ => ?_) (fun h2 => absurd h2 (by simpa using h))
    ((conv => whnf); repeat ((first | refine B0 ?_ | refine B1 ?_ | refine D1 ?_ | refine D2 ?_ | refine CallC.r ?_); conv => whnf))
    exact ResOK.same rfl
end Go.Proofs.YtnmoeeneofopcaaGreat.Pi
