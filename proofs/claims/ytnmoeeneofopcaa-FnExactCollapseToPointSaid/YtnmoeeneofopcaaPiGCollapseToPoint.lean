/- What the law FnExactCollapseToPoint answers, the size of whose arguments it looks at first: true. The statement is drawn from it in the next text. -/
import Derived.Test.YtnmoeeneofopcaaPiFFall5
import Derived.Test.YtnmoeeneofopcaaPiM7
namespace Go.Proofs.Ytnmoeeneofopcaa.Pi
open Go
set_option maxRecDepth 10000
set_option maxHeartbeats 6400000
set_option linter.unusedVariables false

theorem wt_fours {xs : List (List Int)} (h : ∀ x ∈ xs, x.length ≤ 4) : Enc.wt xs ≤ 5 * xs.length := by
  rw [wt_list]
  induction xs with
  | nil => exact Nat.le_refl _
  | cons x xs ih =>
    have h1 := ih fun y hy => h y (List.mem_cons_of_mem _ hy)
    have h2 := h x (by simp)
    have h3 : Enc.wt x = x.length + (x.map Enc.wt).sum := wt_list x
    have h4 : (x.map Enc.wt).sum = 0 := wt_ints x
    simp only [List.map_cons, List.sum_cons, List.length_cons]
    omega
theorem fFaces_wt (c : Complex) (bud : Int) : Enc.wt (fFaces c bud) ≤ 1048576 := by
  unfold fFaces
  split
  · rename_i h
    have h1 : okComplex c = true := by
      simp only [fCode] at h
      split at h
      · assumption
      · cases h
    have h2 : okBudget bud = true := by
      simp only [fCode, h1, if_true] at h
      split at h
      · assumption
      · cases h
    obtain ⟨g1, g2⟩ := faces_ok c bud h1 h2
    have := wt_fours g2
    omega
  · have h0 : Enc.wt ([] : List (List Int)) = 0 := by rw [wt_list]; rfl
    omega
theorem sat_law (c : Complex) (b : Int) (o_c : Enc.ok c) (o_b : Enc.ok b) : Sat Try.prog 3 [(true, Enc.enc c), (false, Enc.enc b)] (.one (.c (.bool true)), []) := by
  refine Sat.intro tok mixed Try.func3 rfl rfl ?_
  ((conv => whnf); repeat ((first | refine B0 ?_ | refine B1 ?_ | refine D1 ?_ | refine D2 ?_ | refine CallC.r ?_); conv => whnf))
  have hz := z_Complex c 1048576 o_c (by omega) (by omega)
  have hq1 := szR_or 1048576 (Enc.wt c)
  generalize szR 1048576 (Enc.wt c) = q1 at hz hq1
  refine Pick.mk _ hz ?_
  ((conv => whnf); repeat ((first | refine B0 ?_ | refine B1 ?_ | refine D1 ?_ | refine D2 ?_ | refine CallC.r ?_); conv => whnf))
  refine Br.mk (fun g2 => ?_) (fun g2 => ?_) <;> ((conv => whnf); repeat ((first | refine B0 ?_ | refine B1 ?_ | refine D1 ?_ | refine D2 ?_ | refine CallC.r ?_); conv => whnf))
  · exact ResOK.same rfl
  simp at g2
  have hb_c : Enc.wt c ≤ 1048576 := by omega
  have ew : Enc.wt c = Enc.wt c.simplices := rfl
  have c1 := cnt_ill c.simplices
  have l1 := lenwt_l c.simplices
  have hr := fFaces_wt c b
  have c3 := cnt_ill (fFaces c b)
  have l3 := lenwt_l (fFaces c b)
  have hb1 : c.simplices.length ≤ 1048576 := by omega
  have hb2 : ∀ x ∈ c.simplices, x.length ≤ 1048576 := fun x hx => by
    have h1 := wt_memX hx
    have h2 := lenwt_l x
    omega
  refine Pick.mk _ (c_Complex c hb_c) ?_
  ((conv => whnf); repeat ((first | refine B0 ?_ | refine B1 ?_ | refine D1 ?_ | refine D2 ?_ | refine CallC.r ?_); conv => whnf))
  refine Pick.mk _ (s_spec_CollapseToPoint c hb1 hb2 b) ?_
  ((conv => whnf); repeat ((first | refine B0 ?_ | refine B1 ?_ | refine D1 ?_ | refine D2 ?_ | refine CallC.r ?_); conv => whnf))
  refine Pick.mk _ (d_Complex c hb_c) ?_
  ((conv => whnf); repeat ((first | refine B0 ?_ | refine B1 ?_ | refine D1 ?_ | refine D2 ?_ | refine CallC.r ?_); conv => whnf))
  try (refine Pick.mk false trivial ?_; ((conv => whnf); repeat ((first | refine B0 ?_ | refine B1 ?_ | refine D1 ?_ | refine D2 ?_ | refine CallC.r ?_); conv => whnf)))
  refine Pick.mk _ (s_impl_CollapseToPoint c o_c hb1 hb2 b) ?_
  ((conv => whnf); repeat ((first | refine B0 ?_ | refine B1 ?_ | refine D1 ?_ | refine D2 ?_ | refine CallC.r ?_); conv => whnf))
  try (refine Pick.mk false trivial ?_; ((conv => whnf); repeat ((first | refine B0 ?_ | refine B1 ?_ | refine D1 ?_ | refine D2 ?_ | refine CallC.r ?_); conv => whnf)))
  refine Pick.mk _ (e_Int64SS (fFaces c b) (by omega)) ?_
  ((conv => whnf); repeat ((first | refine B0 ?_ | refine B1 ?_ | refine D1 ?_ | refine D2 ?_ | refine CallC.r ?_); conv => whnf))
  repeat (refine Br.mk (fun h => absurd h (by first | (simp; done) | (simp <;> omega))) (fun _ => ?_); ((conv => whnf); repeat ((first | refine B0 ?_ | refine B1 ?_ | refine D1 ?_ | refine D2 ?_ | refine CallC.r ?_); conv => whnf)))
  refine Pick.mk _ (c_Complex c hb_c) ?_
  ((conv => whnf); repeat ((first | refine B0 ?_ | refine B1 ?_ | refine D1 ?_ | refine D2 ?_ | refine CallC.r ?_); conv => whnf))
  try (refine Pick.mk false trivial ?_; ((conv => whnf); repeat ((first | refine B0 ?_ | refine B1 ?_ | refine D1 ?_ | refine D2 ?_ | refine CallC.r ?_); conv => whnf)))
  refine Pick.mk _ (e_Complex c (by omega)) ?_
  ((conv => whnf); repeat ((first | refine B0 ?_ | refine B1 ?_ | refine D1 ?_ | refine D2 ?_ | refine CallC.r ?_); conv => whnf))
  repeat (refine Br.mk (fun h => absurd h (by first | (simp; done) | (simp <;> omega))) (fun _ => ?_); ((conv => whnf); repeat ((first | refine B0 ?_ | refine B1 ?_ | refine D1 ?_ | refine D2 ?_ | refine CallC.r ?_); conv => whnf)))
  refine Pick.mk true trivial ?_
  ((conv => whnf); repeat ((first | refine B0 ?_ | refine B1 ?_ | refine D1 ?_ | refine D2 ?_ | refine CallC.r ?_); conv => whnf))
  refine Pick.mk _ (m_Complex true c.simplices (1) (by omega) (by omega) (by omega) (big_ill (by omega))) ?_
  ((conv => whnf); repeat ((first | refine B0 ?_ | refine B1 ?_ | refine D1 ?_ | refine D2 ?_ | refine CallC.r ?_); conv => whnf))
  refine Side.mk (by simp [mkL_length]) ?_
  ((conv => whnf); repeat ((first | refine B0 ?_ | refine B1 ?_ | refine D1 ?_ | refine D2 ?_ | refine CallC.r ?_); conv => whnf))
  repeat (refine Br.mk (fun h => absurd h (by first | (simp; done) | (simp <;> omega))) (fun _ => ?_); ((conv => whnf); repeat ((first | refine B0 ?_ | refine B1 ?_ | refine D1 ?_ | refine D2 ?_ | refine CallC.r ?_); conv => whnf)))
  try (refine Pick.mk false trivial ?_; ((conv => whnf); repeat ((first | refine B0 ?_ | refine B1 ?_ | refine D1 ?_ | refine D2 ?_ | refine CallC.r ?_); conv => whnf)))
  refine Pick.mk _ (e_Int64SS (fFaces c b) (by omega)) ?_
  ((conv => whnf); repeat ((first | refine B0 ?_ | refine B1 ?_ | refine D1 ?_ | refine D2 ?_ | refine CallC.r ?_); conv => whnf))
  repeat (refine Br.mk (fun h => absurd h (by first | (simp; done) | (simp <;> omega))) (fun _ => ?_); ((conv => whnf); repeat ((first | refine B0 ?_ | refine B1 ?_ | refine D1 ?_ | refine D2 ?_ | refine CallC.r ?_); conv => whnf)))
  refine Pick.mk true trivial ?_
  ((conv => whnf); repeat ((first | refine B0 ?_ | refine B1 ?_ | refine D1 ?_ | refine D2 ?_ | refine CallC.r ?_); conv => whnf))
  refine Pick.mk _ (m_Int64SS true (fFaces c b) (1) (by omega) (by omega) (by omega) (big_ill (by omega))) ?_
  ((conv => whnf); repeat ((first | refine B0 ?_ | refine B1 ?_ | refine D1 ?_ | refine D2 ?_ | refine CallC.r ?_); conv => whnf))
  refine Side.mk (by simp [mkL_length]) ?_
  ((conv => whnf); repeat ((first | refine B0 ?_ | refine B1 ?_ | refine D1 ?_ | refine D2 ?_ | refine CallC.r ?_); conv => whnf))
  try (refine Pick.mk false trivial ?_; ((conv => whnf); repeat ((first | refine B0 ?_ | refine B1 ?_ | refine D1 ?_ | refine D2 ?_ | refine CallC.r ?_); conv => whnf)))
  refine Pick.mk _ (h_Int64SS (fFaces c b) (1) (by omega) (by omega) (by omega) (big_ill (by omega))) ?_
  ((conv => whnf); repeat ((first | refine B0 ?_ | refine B1 ?_ | refine D1 ?_ | refine D2 ?_ | refine CallC.r ?_); conv => whnf))
  repeat (refine Br.mk (fun h => absurd h (by first | (simp; done) | (simp <;> omega))) (fun _ => ?_); ((conv => whnf); repeat ((first | refine B0 ?_ | refine B1 ?_ | refine D1 ?_ | refine D2 ?_ | refine CallC.r ?_); conv => whnf)))
  refine Pick.mk _ (c_Complex c hb_c) ?_
  ((conv => whnf); repeat ((first | refine B0 ?_ | refine B1 ?_ | refine D1 ?_ | refine D2 ?_ | refine CallC.r ?_); conv => whnf))
  refine Pick.mk _ (s_impl_CollapseToPoint c o_c hb1 hb2 b) ?_
  ((conv => whnf); repeat ((first | refine B0 ?_ | refine B1 ?_ | refine D1 ?_ | refine D2 ?_ | refine CallC.r ?_); conv => whnf))
  try (refine Pick.mk false trivial ?_; ((conv => whnf); repeat ((first | refine B0 ?_ | refine B1 ?_ | refine D1 ?_ | refine D2 ?_ | refine CallC.r ?_); conv => whnf)))
  refine Pick.mk _ (e_Int64SS (fFaces c b) (by omega)) ?_
  ((conv => whnf); repeat ((first | refine B0 ?_ | refine B1 ?_ | refine D1 ?_ | refine D2 ?_ | refine CallC.r ?_); conv => whnf))
  repeat (refine Br.mk (fun h => absurd h (by first | (simp; done) | (simp <;> omega))) (fun _ => ?_); ((conv => whnf); repeat ((first | refine B0 ?_ | refine B1 ?_ | refine D1 ?_ | refine D2 ?_ | refine CallC.r ?_); conv => whnf)))
  try (refine Pick.mk false trivial ?_; ((conv => whnf); repeat ((first | refine B0 ?_ | refine B1 ?_ | refine D1 ?_ | refine D2 ?_ | refine CallC.r ?_); conv => whnf)))
  refine Pick.mk _ (h_Int64SS (fFaces c b) (1) (by omega) (by omega) (by omega) (big_ill (by omega))) ?_
  ((conv => whnf); repeat ((first | refine B0 ?_ | refine B1 ?_ | refine D1 ?_ | refine D2 ?_ | refine CallC.r ?_); conv => whnf))
  repeat (refine Br.mk (fun h => absurd h (by first | (simp; done) | (simp <;> omega))) (fun _ => ?_); ((conv => whnf); repeat ((first | refine B0 ?_ | refine B1 ?_ | refine D1 ?_ | refine D2 ?_ | refine CallC.r ?_); conv => whnf)))
  exact ResOK.same rfl
end Go.Proofs.Ytnmoeeneofopcaa.Pi
