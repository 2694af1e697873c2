/- Budgets; copies of lists. No statement of the seat is proved here. -/
import Derived.Test.YtnmoeeneofopcaaGreatPiFCx2
import Derived.Test.YtnmoeeneofopcaaGreatPiFHas
namespace Go.Proofs.YtnmoeeneofopcaaGreat.Pi
open Go
set_option maxRecDepth 10000
set_option maxHeartbeats 6400000
set_option linter.unusedVariables false

def okBudget (b : Int) : Bool := decide (1 ≤ b) && decide (b ≤ 20000)
theorem s_isBudget (b : Int) : Sat Tryz.prog 167 [(false, [.int .i64 b])] (.one (.c (.bool (okBudget b))), []) := by
  refine Sat.intro tok mixed Tryz.func167 rfl rfl ?_
  ((conv => whnf); repeat ((first | refine B0 ?_ | refine B1 ?_ | refine D1 ?_ | refine D2 ?_ | refine CallC.r ?_); conv => whnf))
  refine Pick.mk _ (s_within b 1 20000) ?_
  ((conv => whnf); repeat ((first | refine B0 ?_ | refine B1 ?_ | refine D1 ?_ | refine D2 ?_ | refine CallC.r ?_); conv => whnf))
  exact ResOK.same rfl

theorem s_ownIntQ (xs : List Int) (hb : xs.length ≤ 16777216) : Sat Tryz.prog 77 [(false, Enc.enc xs)] (.one (.ds 0), [(0, .deep true 1 (xs.map Enc.enc))]) := by
  have hfl : flatRows (xs.map (Enc.enc (α := Int))) := fun r hr c hc => by
    obtain ⟨x, _, rfl⟩ := List.mem_map.1 hr
    have : c = .int .i64 x := by simpa [Enc.enc] using hc
    subst this; rfl
  refine Sat.intro tok mixed Tryz.func77 rfl rfl ?_
  ((conv => whnf); repeat ((first | refine B0 ?_ | refine B1 ?_ | refine D1 ?_ | refine D2 ?_ | refine CallC.r ?_); conv => whnf))
  refine Side.mk (by simp; omega) ?_
  ((conv => whnf); repeat ((first | refine B0 ?_ | refine B1 ?_ | refine D1 ?_ | refine D2 ?_ | refine CallC.r ?_); conv => whnf))
  exact ResOK.deep rfl ⟨hfl, trivial⟩
theorem s_CloneIntD (xs : List Int) (hb : xs.length ≤ 1048576) : Sat Tryz.prog 171 [(false, Enc.enc xs)] (.one (.ds 0), [(0, .deep true 1 (xs.map Enc.enc))]) := by
  have hl : (xs.map (Enc.enc (α := Int))).length = xs.length := by simp
  have hfl : flatRows (xs.map (Enc.enc (α := Int))) := fun r hr c hc => by
    obtain ⟨x, _, rfl⟩ := List.mem_map.1 hr
    have : c = .int .i64 x := by simpa [Enc.enc] using hc
    subst this; rfl
  refine Sat.intro tok mixed Tryz.func171 rfl rfl ?_
  ((conv => whnf); repeat ((first | refine B0 ?_ | refine B1 ?_ | refine D1 ?_ | refine D2 ?_ | refine CallC.r ?_); conv => whnf))
  intro b hb0
  ((conv => whnf); repeat ((first | refine B0 ?_ | refine B1 ?_ | refine D1 ?_ | refine D2 ?_ | refine CallC.r ?_); conv => whnf))
  refine Br.mk (fun h => ?_) (fun h => ?_) <;> ((conv => whnf); repeat ((first | refine B0 ?_ | refine B1 ?_ | refine D1 ?_ | refine D2 ?_ | refine CallC.r ?_); conv => whnf))
  · have e : xs = [] := by simpa using hb0 h
    subst e
    exact ResOK.deep rfl ⟨by simp [flatRows], trivial⟩
  · refine Side.mk (by rw [hl]; simp only [List.length_nil]; omega) ?_
    ((conv => whnf); repeat ((first | refine B0 ?_ | refine B1 ?_ | refine D1 ?_ | refine D2 ?_ | refine CallC.r ?_); conv => whnf))
    exact ResOK.deep rfl ⟨hfl, trivial⟩
theorem s_copyLists (xs : List (List Int)) (hb : xs.length ≤ 1048576) (hc : ∀ x ∈ xs, x.length ≤ 1048576) : Sat Tryz.prog 240 [(false, Enc.enc xs)] (.one (.ds 0), [(0, .deep true 1 (xs.map Enc.enc))]) := by
  refine Sat.intro tok mixed Tryz.func240 rfl rfl ?_
  ((conv => whnf); repeat ((first | refine B0 ?_ | refine B1 ?_ | refine D1 ?_ | refine D2 ?_ | refine CallC.r ?_); conv => whnf))
  refine Pick.mk ([3, 6, 7, 8] ++ [2000192]) trivial ?_
  ((conv => whnf); repeat ((first | refine B0 ?_ | refine B1 ?_ | refine D1 ?_ | refine D2 ?_ | refine CallC.r ?_); conv => whnf))
  refine Side.mk (by simp [flatRows]) ?_
  ((conv => whnf); repeat ((first | refine B0 ?_ | refine B1 ?_ | refine D1 ?_ | refine D2 ?_ | refine CallC.r ?_); conv => whnf))
  refine LoopL.over (fun i : Nat => [(8, .one (.c (.int .i64 (i : Int))))]) (fun i => [(192, .deep true 1 ((xs.take i).map Enc.enc))]) (fun i => xs.length - i) (fun i => i ≤ xs.length) ?_ 0 (Nat.zero_le _)
  intro i hi ih
  ((conv => whnf); repeat ((first | refine B0 ?_ | refine B1 ?_ | refine D1 ?_ | refine D2 ?_ | refine CallC.r ?_); conv => whnf))
  refine Br.mk (fun h => ?_) (fun h => ?_) <;> ((conv => whnf); repeat ((first | refine B0 ?_ | refine B1 ?_ | refine D1 ?_ | refine D2 ?_ | refine CallC.r ?_); conv => whnf))
  · have h : i < xs.length := by simp only [List.length_map, decide_eq_true_eq] at h; omega
    refine Pick.ix (h) ?_
    ((conv => whnf); repeat ((first | refine B0 ?_ | refine B1 ?_ | refine D1 ?_ | refine D2 ?_ | refine CallC.r ?_); conv => whnf))
    refine Pick.mk _ (s_CloneIntD xs[i] (hc _ (List.getElem_mem h))) ?_
    ((conv => whnf); repeat ((first | refine B0 ?_ | refine B1 ?_ | refine D1 ?_ | refine D2 ?_ | refine CallC.r ?_); conv => whnf))
    refine Pick.mk (some true) trivial ?_
    ((conv => whnf); repeat ((first | refine B0 ?_ | refine B1 ?_ | refine D1 ?_ | refine D2 ?_ | refine CallC.r ?_); conv => whnf))
    refine Side.mk (by simp only [List.length_map, List.length_take, List.length_cons, List.length_nil]; omega) ?_
    ((conv => whnf); repeat ((first | refine B0 ?_ | refine B1 ?_ | refine D1 ?_ | refine D2 ?_ | refine CallC.r ?_); conv => whnf))
    refine Pick.at64 (z := (i + 1 : Nat)) (by simp) (by omega) ?_
    ((conv => whnf); repeat ((first | refine B0 ?_ | refine B1 ?_ | refine D1 ?_ | refine D2 ?_ | refine CallC.r ?_); conv => whnf))
    have hn := ih (i + 1) (by omega) (by omega)
    rw [List.take_add_one, List.getElem?_eq_getElem h, Option.toList_some, List.map_append] at hn
    exact hn
  · have h : i = xs.length := by simp only [List.length_map, decide_eq_false_iff_not] at h; omega
    subst h
    exact ResOK.same (by rw [List.take_length])
theorem s_copyComplex (c : Complex) (hb : c.simplices.length ≤ 1048576) (hc : ∀ x ∈ c.simplices, x.length ≤ 1048576) : Sat Tryz.prog 144 [(true, Enc.enc c)] (.agg [.ds 0], [(0, .deep true 1 (c.simplices.map Enc.enc))]) := by
  refine Sat.intro tok mixed Tryz.func144 rfl rfl ?_
  ((conv => whnf); repeat ((first | refine B0 ?_ | refine B1 ?_ | refine D1 ?_ | refine D2 ?_ | refine CallC.r ?_); conv => whnf))
  refine Pick.mk _ (s_copyLists c.simplices hb hc) ?_
  ((conv => whnf); repeat ((first | refine B0 ?_ | refine B1 ?_ | refine D1 ?_ | refine D2 ?_ | refine CallC.r ?_); conv => whnf))
  exact ResOK.same rfl

end Go.Proofs.YtnmoeeneofopcaaGreat.Pi
