/- What the law FnExactIsContextual answers, the size of whose arguments it looks at first: true. The statement is drawn from it in the next text. -/
import Derived.Test.YtnmoeeneofopcaaGreatPiFAgree4
import Derived.Test.YtnmoeeneofopcaaGreatPiU4
namespace Go.Proofs.YtnmoeeneofopcaaGreat.Pi
open Go
set_option maxRecDepth 10000
set_option maxHeartbeats 6400000
set_option linter.unusedVariables false

theorem lenwt_c {α : Type} [Enc α] (xs : List α) : xs.length ≤ Enc.wt xs := by rw [wt_list]; omega
theorem wt_memC {α : Type} [Enc α] {xs : List α} {x : α} (h : x ∈ xs) : Enc.wt x ≤ Enc.wt xs := by
  obtain ⟨i, hi, rfl⟩ := List.getElem_of_mem h
  have := wt_get xs i hi; omega
theorem rows_smallC {xs : List Table} (h : Enc.wt xs ≤ 1048576) : ∀ t ∈ xs, ∀ r ∈ t.rows, r.length ≤ 1048576 := fun t ht r hr => by
  have h1 := wt_memC ht
  have h2 : Enc.wt t = Enc.wt t.columns + Enc.wt t.rows := rfl
  have h3 := wt_memC hr
  have h4 := lenwt_c r
  omega
theorem sat_law (l : List Table) (b : Int) (o_l : Enc.ok l) (o_b : Enc.ok b) : Sat Tryz.prog 5 [(false, Enc.enc l), (false, Enc.enc b)] (.one (.c (.bool true)), []) := by
  refine Sat.intro tok mixed Tryz.func5 rfl rfl ?_
  ((conv => whnf); repeat ((first | refine B0 ?_ | refine B1 ?_ | refine D1 ?_ | refine D2 ?_ | refine CallC.r ?_); conv => whnf))
  have hz := z_TableS l 1048576 o_l (by omega) (by omega)
  have hq1 := szR_or 1048576 (Enc.wt l)
  generalize szR 1048576 (Enc.wt l) = q1 at hz hq1
  refine Pick.mk _ hz ?_
  ((conv => whnf); repeat ((first | refine B0 ?_ | refine B1 ?_ | refine D1 ?_ | refine D2 ?_ | refine CallC.r ?_); conv => whnf))
  refine Br.mk (fun g2 => ?_) (fun g2 => ?_) <;> ((conv => whnf); repeat ((first | refine B0 ?_ | refine B1 ?_ | refine D1 ?_ | refine D2 ?_ | refine CallC.r ?_); conv => whnf))
  · exact ResOK.same rfl
  simp at g2
  have hb_l : Enc.wt l ≤ 1048576 := by omega
  have hrs := rows_smallC hb_l
  refine Pick.mk _ (c_TableS l hb_l) ?_
  ((conv => whnf); repeat ((first | refine B0 ?_ | refine B1 ?_ | refine D1 ?_ | refine D2 ?_ | refine CallC.r ?_); conv => whnf))
  refine Pick.mk _ (s_spec_IsContextual l o_l hrs b) ?_
  ((conv => whnf); repeat ((first | refine B0 ?_ | refine B1 ?_ | refine D1 ?_ | refine D2 ?_ | refine CallC.r ?_); conv => whnf))
  refine Pick.mk _ (c_TableS l hb_l) ?_
  ((conv => whnf); repeat ((first | refine B0 ?_ | refine B1 ?_ | refine D1 ?_ | refine D2 ?_ | refine CallC.r ?_); conv => whnf))
  refine Pick.mk _ (s_impl_IsContextual l o_l hrs b) ?_
  ((conv => whnf); repeat ((first | refine B0 ?_ | refine B1 ?_ | refine D1 ?_ | refine D2 ?_ | refine CallC.r ?_); conv => whnf))
  repeat (refine Br.mk (fun h => absurd h (by first | (simp; done) | (simp <;> omega))) (fun _ => ?_); ((conv => whnf); repeat ((first | refine B0 ?_ | refine B1 ?_ | refine D1 ?_ | refine D2 ?_ | refine CallC.r ?_); conv => whnf)))
  refine Pick.mk _ (c_TableS l hb_l) ?_
  ((conv => whnf); repeat ((first | refine B0 ?_ | refine B1 ?_ | refine D1 ?_ | refine D2 ?_ | refine CallC.r ?_); conv => whnf))
  refine Pick.mk _ (e_TableS l (by omega)) ?_
  ((conv => whnf); repeat ((first | refine B0 ?_ | refine B1 ?_ | refine D1 ?_ | refine D2 ?_ | refine CallC.r ?_); conv => whnf))
  repeat (refine Br.mk (fun h => absurd h (by first | (simp; done) | (simp <;> omega))) (fun _ => ?_); ((conv => whnf); repeat ((first | refine B0 ?_ | refine B1 ?_ | refine D1 ?_ | refine D2 ?_ | refine CallC.r ?_); conv => whnf)))
  exact ResOK.same rfl
end Go.Proofs.YtnmoeeneofopcaaGreat.Pi
