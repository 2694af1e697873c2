/- What the law FnExactLostRows answers, the size of whose arguments it looks at first: true. The statement is drawn from it in the next text. -/
import Derived.Test.YtnmoeeneofopcaaPiFTab9
import Derived.Test.YtnmoeeneofopcaaPiM9
namespace Go.Proofs.Ytnmoeeneofopcaa.Pi
open Go
set_option maxRecDepth 10000
set_option maxHeartbeats 6400000
set_option linter.unusedVariables false

theorem lostTab_two (P : Table → List Int → Bool) (l : List Table) (n : Nat) : ∀ x ∈ lostTab P l n, x.length = 2 := fun x hx => by
  simp only [lostTab, List.mem_flatMap, lostRow, List.mem_map] at hx
  obtain ⟨i, _, j, _, rfl⟩ := hx
  rfl
theorem wt_twos {xs : List (List Int)} (h : ∀ x ∈ xs, x.length = 2) : Enc.wt xs = 3 * xs.length := by
  rw [wt_list]
  induction xs with
  | nil => rfl
  | cons x xs ih =>
    have h1 := ih fun y hy => h y (List.mem_cons_of_mem _ hy)
    have h2 := h x (by simp)
    have h3 : Enc.wt x = x.length + (x.map Enc.wt).sum := wt_list x
    have h4 : (x.map Enc.wt).sum = 0 := wt_ints x
    simp only [List.map_cons, List.sum_cons, List.length_cons]
    omega
theorem lostOf_wt (l : List Table) (bud : Int) : Enc.wt (lostOf l bud) ≤ 1048576 := by
  unfold lostOf
  split
  · rename_i h
    obtain ⟨h1, _, _, _⟩ := found_ok h
    obtain ⟨hT, _⟩ := tabs_ok h1
    rw [wt_twos (lostTab_two _ _ _)]
    have h2 := lostTab_len (pS (colsR l) (gEnd l bud).found) hT.rows l.length (Nat.le_refl _)
    have h3 := hT.len
    omega
  · have h0 : Enc.wt ([] : List (List Int)) = 0 := by rw [wt_list]; rfl
    omega
theorem sat_law (l : List Table) (b : Int) (o_l : Enc.ok l) (o_b : Enc.ok b) : Sat Try.prog 4 [(false, Enc.enc l), (false, Enc.enc b)] (.one (.c (.bool true)), []) := by
  refine Sat.intro tok mixed Try.func4 rfl rfl ?_
  ((conv => whnf); repeat ((first | refine B0 ?_ | refine B1 ?_ | refine D1 ?_ | refine D2 ?_ | refine CallC.r ?_); conv => whnf))
  have hz := z_TableS l 1048576 o_l (by omega) (by omega)
  have hq1 := szR_or 1048576 (Enc.wt l)
  generalize szR 1048576 (Enc.wt l) = q1 at hz hq1
  refine Pick.mk _ hz ?_
  ((conv => whnf); repeat ((first | refine B0 ?_ | refine B1 ?_ | refine D1 ?_ | refine D2 ?_ | refine CallC.r ?_); conv => whnf))
  refine Br.mk (fun g2 => ?_) (fun g2 => ?_) <;> ((conv => whnf); repeat ((first | refine B0 ?_ | refine B1 ?_ | refine D1 ?_ | refine D2 ?_ | refine CallC.r ?_); conv => whnf))
  · exact ResOK.same rfl
  simp at g2
  have hb_l : Enc.wt l ≤ 1048576 := by omega
  have c1 := cnt_tl l
  have l1 := lenwt_l l
  have hr := lostOf_wt l b
  have c3 := cnt_ill (lostOf l b)
  have l3 := lenwt_l (lostOf l b)
  have hrs := rows_small hb_l
  refine Pick.mk _ (c_TableS l hb_l) ?_
  ((conv => whnf); repeat ((first | refine B0 ?_ | refine B1 ?_ | refine D1 ?_ | refine D2 ?_ | refine CallC.r ?_); conv => whnf))
  refine Pick.mk _ (s_spec_LostRows l o_l hrs b) ?_
  ((conv => whnf); repeat ((first | refine B0 ?_ | refine B1 ?_ | refine D1 ?_ | refine D2 ?_ | refine CallC.r ?_); conv => whnf))
  refine Pick.mk _ (d_TableS l hb_l) ?_
  ((conv => whnf); repeat ((first | refine B0 ?_ | refine B1 ?_ | refine D1 ?_ | refine D2 ?_ | refine CallC.r ?_); conv => whnf))
  try (refine Pick.mk false trivial ?_; ((conv => whnf); repeat ((first | refine B0 ?_ | refine B1 ?_ | refine D1 ?_ | refine D2 ?_ | refine CallC.r ?_); conv => whnf)))
  refine Pick.mk _ (s_impl_LostRows l o_l hrs b) ?_
  ((conv => whnf); repeat ((first | refine B0 ?_ | refine B1 ?_ | refine D1 ?_ | refine D2 ?_ | refine CallC.r ?_); conv => whnf))
  try (refine Pick.mk false trivial ?_; ((conv => whnf); repeat ((first | refine B0 ?_ | refine B1 ?_ | refine D1 ?_ | refine D2 ?_ | refine CallC.r ?_); conv => whnf)))
  refine Pick.mk _ (e_Int64SS (lostOf l b) (by omega)) ?_
  ((conv => whnf); repeat ((first | refine B0 ?_ | refine B1 ?_ | refine D1 ?_ | refine D2 ?_ | refine CallC.r ?_); conv => whnf))
  repeat (refine Br.mk (fun h => absurd h (by first | (simp; done) | (simp <;> omega))) (fun _ => ?_); ((conv => whnf); repeat ((first | refine B0 ?_ | refine B1 ?_ | refine D1 ?_ | refine D2 ?_ | refine CallC.r ?_); conv => whnf)))
  refine Pick.mk _ (c_TableS l hb_l) ?_
  ((conv => whnf); repeat ((first | refine B0 ?_ | refine B1 ?_ | refine D1 ?_ | refine D2 ?_ | refine CallC.r ?_); conv => whnf))
  try (refine Pick.mk false trivial ?_; ((conv => whnf); repeat ((first | refine B0 ?_ | refine B1 ?_ | refine D1 ?_ | refine D2 ?_ | refine CallC.r ?_); conv => whnf)))
  refine Pick.mk _ (e_TableS l (by omega)) ?_
  ((conv => whnf); repeat ((first | refine B0 ?_ | refine B1 ?_ | refine D1 ?_ | refine D2 ?_ | refine CallC.r ?_); conv => whnf))
  repeat (refine Br.mk (fun h => absurd h (by first | (simp; done) | (simp <;> omega))) (fun _ => ?_); ((conv => whnf); repeat ((first | refine B0 ?_ | refine B1 ?_ | refine D1 ?_ | refine D2 ?_ | refine CallC.r ?_); conv => whnf)))
  refine Pick.mk true trivial ?_
  ((conv => whnf); repeat ((first | refine B0 ?_ | refine B1 ?_ | refine D1 ?_ | refine D2 ?_ | refine CallC.r ?_); conv => whnf))
  refine Pick.mk _ (m_TableS true l (1) (by omega) (by omega) (by omega) (big_tl (by omega))) ?_
  ((conv => whnf); repeat ((first | refine B0 ?_ | refine B1 ?_ | refine D1 ?_ | refine D2 ?_ | refine CallC.r ?_); conv => whnf))
  refine Side.mk (by simp [mkL_length]) ?_
  ((conv => whnf); repeat ((first | refine B0 ?_ | refine B1 ?_ | refine D1 ?_ | refine D2 ?_ | refine CallC.r ?_); conv => whnf))
  repeat (refine Br.mk (fun h => absurd h (by first | (simp; done) | (simp <;> omega))) (fun _ => ?_); ((conv => whnf); repeat ((first | refine B0 ?_ | refine B1 ?_ | refine D1 ?_ | refine D2 ?_ | refine CallC.r ?_); conv => whnf)))
  try (refine Pick.mk false trivial ?_; ((conv => whnf); repeat ((first | refine B0 ?_ | refine B1 ?_ | refine D1 ?_ | refine D2 ?_ | refine CallC.r ?_); conv => whnf)))
  refine Pick.mk _ (e_Int64SS (lostOf l b) (by omega)) ?_
  ((conv => whnf); repeat ((first | refine B0 ?_ | refine B1 ?_ | refine D1 ?_ | refine D2 ?_ | refine CallC.r ?_); conv => whnf))
  repeat (refine Br.mk (fun h => absurd h (by first | (simp; done) | (simp <;> omega))) (fun _ => ?_); ((conv => whnf); repeat ((first | refine B0 ?_ | refine B1 ?_ | refine D1 ?_ | refine D2 ?_ | refine CallC.r ?_); conv => whnf)))
  refine Pick.mk true trivial ?_
  ((conv => whnf); repeat ((first | refine B0 ?_ | refine B1 ?_ | refine D1 ?_ | refine D2 ?_ | refine CallC.r ?_); conv => whnf))
  refine Pick.mk _ (m_Int64SS true (lostOf l b) (1) (by omega) (by omega) (by omega) (big_ill (by omega))) ?_
  ((conv => whnf); repeat ((first | refine B0 ?_ | refine B1 ?_ | refine D1 ?_ | refine D2 ?_ | refine CallC.r ?_); conv => whnf))
  refine Side.mk (by simp [mkL_length]) ?_
  ((conv => whnf); repeat ((first | refine B0 ?_ | refine B1 ?_ | refine D1 ?_ | refine D2 ?_ | refine CallC.r ?_); conv => whnf))
  try (refine Pick.mk false trivial ?_; ((conv => whnf); repeat ((first | refine B0 ?_ | refine B1 ?_ | refine D1 ?_ | refine D2 ?_ | refine CallC.r ?_); conv => whnf)))
  refine Pick.mk _ (h_Int64SS (lostOf l b) (1) (by omega) (by omega) (by omega) (big_ill (by omega))) ?_
  ((conv => whnf); repeat ((first | refine B0 ?_ | refine B1 ?_ | refine D1 ?_ | refine D2 ?_ | refine CallC.r ?_); conv => whnf))
  repeat (refine Br.mk (fun h => absurd h (by first | (simp; done) | (simp <;> omega))) (fun _ => ?_); ((conv => whnf); repeat ((first | refine B0 ?_ | refine B1 ?_ | refine D1 ?_ | refine D2 ?_ | refine CallC.r ?_); conv => whnf)))
  refine Pick.mk _ (c_TableS l hb_l) ?_
  ((conv => whnf); repeat ((first | refine B0 ?_ | refine B1 ?_ | refine D1 ?_ | refine D2 ?_ | refine CallC.r ?_); conv => whnf))
  refine Pick.mk _ (s_impl_LostRows l o_l hrs b) ?_
  ((conv => whnf); repeat ((first | refine B0 ?_ | refine B1 ?_ | refine D1 ?_ | refine D2 ?_ | refine CallC.r ?_); conv => whnf))
  try (refine Pick.mk false trivial ?_; ((conv => whnf); repeat ((first | refine B0 ?_ | refine B1 ?_ | refine D1 ?_ | refine D2 ?_ | refine CallC.r ?_); conv => whnf)))
  refine Pick.mk _ (e_Int64SS (lostOf l b) (by omega)) ?_
  ((conv => whnf); repeat ((first | refine B0 ?_ | refine B1 ?_ | refine D1 ?_ | refine D2 ?_ | refine CallC.r ?_); conv => whnf))
  repeat (refine Br.mk (fun h => absurd h (by first | (simp; done) | (simp <;> omega))) (fun _ => ?_); ((conv => whnf); repeat ((first | refine B0 ?_ | refine B1 ?_ | refine D1 ?_ | refine D2 ?_ | refine CallC.r ?_); conv => whnf)))
  try (refine Pick.mk false trivial ?_; ((conv => whnf); repeat ((first | refine B0 ?_ | refine B1 ?_ | refine D1 ?_ | refine D2 ?_ | refine CallC.r ?_); conv => whnf)))
  refine Pick.mk _ (h_Int64SS (lostOf l b) (1) (by omega) (by omega) (by omega) (big_ill (by omega))) ?_
  ((conv => whnf); repeat ((first | refine B0 ?_ | refine B1 ?_ | refine D1 ?_ | refine D2 ?_ | refine CallC.r ?_); conv => whnf))
  repeat (refine Br.mk (fun h => absurd h (by first | (simp; done) | (simp <;> omega))) (fun _ => ?_); ((conv => whnf); repeat ((first | refine B0 ?_ | refine B1 ?_ | refine D1 ?_ | refine D2 ?_ | refine CallC.r ?_); conv => whnf)))
  exact ResOK.same rfl
end Go.Proofs.Ytnmoeeneofopcaa.Pi
