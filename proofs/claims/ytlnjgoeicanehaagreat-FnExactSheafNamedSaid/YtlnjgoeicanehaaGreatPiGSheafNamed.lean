/- What the law FnExactSheafNamed answers, the size of whose arguments it looks at first: true. The statement is drawn from it in the next text. -/
import Derived.Test.YtlnjgoeicanehaaGreatPiFNamed2
import Derived.Test.YtlnjgoeicanehaaGreatPiM7
namespace Go.Proofs.YtlnjgoeicanehaaGreat.Pi
open Go
set_option maxRecDepth 10000
set_option maxHeartbeats 6400000
set_option linter.unusedVariables false

theorem sNamed_wt (w : World) (t : ByteArray) (hb : Enc.wt w ≤ 1048576) : Enc.wt (sNamed w t).1 ≤ 1048576 := by
  have h0 : Enc.wt zShf ≤ 1048576 := by
    show Enc.wt ([] : List (List Int)) + Enc.wt (0 : Int) + Enc.wt ([] : List Int) + Enc.wt ([] : List Matrix) ≤ _
    simp only [wt_list]
    decide
  unfold sNamed
  split
  · split
    · rename_i c hc
      exact ns_wt hb c (List.mem_of_find?_eq_some hc)
    · exact h0
  · exact h0
theorem sat_law (w : World) (t : ByteArray) (o_w : Enc.ok w) (o_t : Enc.ok t) : Sat Tryz.prog 5 [(true, Enc.enc w), (false, Enc.enc t)] (.one (.c (.bool true)), []) := by
  refine Sat.intro tok mixed Tryz.func5 rfl rfl ?_
  ((conv => whnf); repeat ((first | refine B0 ?_ | refine B1 ?_ | refine D1 ?_ | refine D2 ?_ | refine CallC.r ?_); conv => whnf))
  have m_t : t.size ≤ maxLen := o_t
  simp only [maxLen] at m_t
  refine Br.mk (fun g1 => ?_) (fun g1 => ?_) <;> ((conv => whnf); repeat ((first | refine B0 ?_ | refine B1 ?_ | refine D1 ?_ | refine D2 ?_ | refine CallC.r ?_); conv => whnf))
  · exact ResOK.same rfl
  simp at g1
  have hz := z_World w 1048576 o_w (by omega) (by omega)
  have hq1 := szR_or 1048576 (Enc.wt w)
  generalize szR 1048576 (Enc.wt w) = q1 at hz hq1
  refine Pick.mk _ hz ?_
  ((conv => whnf); repeat ((first | refine B0 ?_ | refine B1 ?_ | refine D1 ?_ | refine D2 ?_ | refine CallC.r ?_); conv => whnf))
  refine Br.mk (fun g2 => ?_) (fun g2 => ?_) <;> ((conv => whnf); repeat ((first | refine B0 ?_ | refine B1 ?_ | refine D1 ?_ | refine D2 ?_ | refine CallC.r ?_); conv => whnf))
  · exact ResOK.same rfl
  simp at g2
  have hb_w : Enc.wt w ≤ 1048576 := by omega
  have ew : Enc.wt w = Enc.wt w.complexes + Enc.wt w.sheaves := rfl
  have c1 := cnt_ncl w.complexes
  have c2 := cnt_nsl w.sheaves
  have l1 := lenwt_l w.complexes
  have l2 := lenwt_l w.sheaves
  have hr := sNamed_wt w t hb_w
  have er : Enc.wt (sNamed w t).1 = Enc.wt (sNamed w t).1.base.simplices + Enc.wt (sNamed w t).1.prime + Enc.wt (sNamed w t).1.stalks + Enc.wt (sNamed w t).1.maps := rfl
  have c3 := cnt_ill (sNamed w t).1.base.simplices
  have c4 := cnt_il (sNamed w t).1.stalks
  have c5 := cnt_ml (sNamed w t).1.maps
  have l3 := lenwt_l (sNamed w t).1.base.simplices
  have l4 := lenwt_l (sNamed w t).1.stalks
  have l5 := lenwt_l (sNamed w t).1.maps
  refine Pick.mk _ (c_World w hb_w) ?_
  ((conv => whnf); repeat ((first | refine B0 ?_ | refine B1 ?_ | refine D1 ?_ | refine D2 ?_ | refine CallC.r ?_); conv => whnf))
  refine Pick.mk _ (s_spec_SheafNamed w o_w hb_w t) ?_
  ((conv => whnf); repeat ((first | refine B0 ?_ | refine B1 ?_ | refine D1 ?_ | refine D2 ?_ | refine CallC.r ?_); conv => whnf))
  refine Pick.mk _ (d_World w hb_w) ?_
  ((conv => whnf); repeat ((first | refine B0 ?_ | refine B1 ?_ | refine D1 ?_ | refine D2 ?_ | refine CallC.r ?_); conv => whnf))
  try (refine Pick.mk false trivial ?_; ((conv => whnf); repeat ((first | refine B0 ?_ | refine B1 ?_ | refine D1 ?_ | refine D2 ?_ | refine CallC.r ?_); conv => whnf)))
  refine Pick.mk _ (s_impl_SheafNamed w o_w hb_w t) ?_
  ((conv => whnf); repeat ((first | refine B0 ?_ | refine B1 ?_ | refine D1 ?_ | refine D2 ?_ | refine CallC.r ?_); conv => whnf))
  try (refine Pick.mk false trivial ?_; ((conv => whnf); repeat ((first | refine B0 ?_ | refine B1 ?_ | refine D1 ?_ | refine D2 ?_ | refine CallC.r ?_); conv => whnf)))
  refine Pick.mk _ (e_Sheaf (sNamed w t).1 (by omega)) ?_
  ((conv => whnf); repeat ((first | refine B0 ?_ | refine B1 ?_ | refine D1 ?_ | refine D2 ?_ | refine CallC.r ?_); conv => whnf))
  repeat (refine Br.mk (fun h => absurd h (by first | (simp; done) | (simp <;> omega))) (fun _ => ?_); ((conv => whnf); repeat ((first | refine B0 ?_ | refine B1 ?_ | refine D1 ?_ | refine D2 ?_ | refine CallC.r ?_); conv => whnf)))
  refine Pick.mk _ (c_World w hb_w) ?_
  ((conv => whnf); repeat ((first | refine B0 ?_ | refine B1 ?_ | refine D1 ?_ | refine D2 ?_ | refine CallC.r ?_); conv => whnf))
  try (refine Pick.mk false trivial ?_; ((conv => whnf); repeat ((first | refine B0 ?_ | refine B1 ?_ | refine D1 ?_ | refine D2 ?_ | refine CallC.r ?_); conv => whnf)))
  refine Pick.mk _ (e_World w (by omega)) ?_
  ((conv => whnf); repeat ((first | refine B0 ?_ | refine B1 ?_ | refine D1 ?_ | refine D2 ?_ | refine CallC.r ?_); conv => whnf))
  repeat (refine Br.mk (fun h => absurd h (by first | (simp; done) | (simp <;> omega))) (fun _ => ?_); ((conv => whnf); repeat ((first | refine B0 ?_ | refine B1 ?_ | refine D1 ?_ | refine D2 ?_ | refine CallC.r ?_); conv => whnf)))
  refine Pick.mk true trivial ?_
  ((conv => whnf); repeat ((first | refine B0 ?_ | refine B1 ?_ | refine D1 ?_ | refine D2 ?_ | refine CallC.r ?_); conv => whnf))
  refine Pick.mk _ (m_World true true w (1) (by omega) (by omega) (by omega) (by omega) (big_ncl (by omega)) (big_nsl (by omega))) ?_
  ((conv => whnf); repeat ((first | refine B0 ?_ | refine B1 ?_ | refine D1 ?_ | refine D2 ?_ | refine CallC.r ?_); conv => whnf))
  refine Side.mk (by simp [mkL_length]) ?_
  ((conv => whnf); repeat ((first | refine B0 ?_ | refine B1 ?_ | refine D1 ?_ | refine D2 ?_ | refine CallC.r ?_); conv => whnf))
  refine Side.mk (by simp [mkL_length]) ?_
  ((conv => whnf); repeat ((first | refine B0 ?_ | refine B1 ?_ | refine D1 ?_ | refine D2 ?_ | refine CallC.r ?_); conv => whnf))
  repeat (refine Br.mk (fun h => absurd h (by first | (simp; done) | (simp <;> omega))) (fun _ => ?_); ((conv => whnf); repeat ((first | refine B0 ?_ | refine B1 ?_ | refine D1 ?_ | refine D2 ?_ | refine CallC.r ?_); conv => whnf)))
  try (refine Pick.mk false trivial ?_; ((conv => whnf); repeat ((first | refine B0 ?_ | refine B1 ?_ | refine D1 ?_ | refine D2 ?_ | refine CallC.r ?_); conv => whnf)))
  refine Pick.mk _ (e_Sheaf (sNamed w t).1 (by omega)) ?_
  ((conv => whnf); repeat ((first | refine B0 ?_ | refine B1 ?_ | refine D1 ?_ | refine D2 ?_ | refine CallC.r ?_); conv => whnf))
  repeat (refine Br.mk (fun h => absurd h (by first | (simp; done) | (simp <;> omega))) (fun _ => ?_); ((conv => whnf); repeat ((first | refine B0 ?_ | refine B1 ?_ | refine D1 ?_ | refine D2 ?_ | refine CallC.r ?_); conv => whnf)))
  refine Pick.mk true trivial ?_
  ((conv => whnf); repeat ((first | refine B0 ?_ | refine B1 ?_ | refine D1 ?_ | refine D2 ?_ | refine CallC.r ?_); conv => whnf))
  refine Pick.mk _ (m_Sheaf true true true (sNamed w t).1 (1) (by omega) (by omega) (by omega) (big_ill (by omega)) (by omega) (by omega) (big_ml (by omega))) ?_
  ((conv => whnf); repeat ((first | refine B0 ?_ | refine B1 ?_ | refine D1 ?_ | refine D2 ?_ | refine CallC.r ?_); conv => whnf))
  refine Side.mk (by simp [mkL_length]) ?_
  ((conv => whnf); repeat ((first | refine B0 ?_ | refine B1 ?_ | refine D1 ?_ | refine D2 ?_ | refine CallC.r ?_); conv => whnf))
  refine Side.mk (by simp [mkL_length]) ?_
  ((conv => whnf); repeat ((first | refine B0 ?_ | refine B1 ?_ | refine D1 ?_ | refine D2 ?_ | refine CallC.r ?_); conv => whnf))
  refine Side.mk (by simp [mkL_length]) ?_
  ((conv => whnf); repeat ((first | refine B0 ?_ | refine B1 ?_ | refine D1 ?_ | refine D2 ?_ | refine CallC.r ?_); conv => whnf))
  try (refine Pick.mk false trivial ?_; ((conv => whnf); repeat ((first | refine B0 ?_ | refine B1 ?_ | refine D1 ?_ | refine D2 ?_ | refine CallC.r ?_); conv => whnf)))
  refine Pick.mk _ (h_Sheaf (sNamed w t).1 (1) (by omega) (by omega) (by omega) (big_ill (by omega)) (by omega) (by omega) (big_ml (by omega))) ?_
  ((conv => whnf); repeat ((first | refine B0 ?_ | refine B1 ?_ | refine D1 ?_ | refine D2 ?_ | refine CallC.r ?_); conv => whnf))
  repeat (refine Br.mk (fun h => absurd h (by first | (simp; done) | (simp <;> omega))) (fun _ => ?_); ((conv => whnf); repeat ((first | refine B0 ?_ | refine B1 ?_ | refine D1 ?_ | refine D2 ?_ | refine CallC.r ?_); conv => whnf)))
  refine Pick.mk _ (c_World w hb_w) ?_
  ((conv => whnf); repeat ((first | refine B0 ?_ | refine B1 ?_ | refine D1 ?_ | refine D2 ?_ | refine CallC.r ?_); conv => whnf))
  refine Pick.mk _ (s_impl_SheafNamed w o_w hb_w t) ?_
  ((conv => whnf); repeat ((first | refine B0 ?_ | refine B1 ?_ | refine D1 ?_ | refine D2 ?_ | refine CallC.r ?_); conv => whnf))
  try (refine Pick.mk false trivial ?_; ((conv => whnf); repeat ((first | refine B0 ?_ | refine B1 ?_ | refine D1 ?_ | refine D2 ?_ | refine CallC.r ?_); conv => whnf)))
  refine Pick.mk _ (e_Sheaf (sNamed w t).1 (by omega)) ?_
  ((conv => whnf); repeat ((first | refine B0 ?_ | refine B1 ?_ | refine D1 ?_ | refine D2 ?_ | refine CallC.r ?_); conv => whnf))
  repeat (refine Br.mk (fun h => absurd h (by first | (simp; done) | (simp <;> omega))) (fun _ => ?_); ((conv => whnf); repeat ((first | refine B0 ?_ | refine B1 ?_ | refine D1 ?_ | refine D2 ?_ | refine CallC.r ?_); conv => whnf)))
  try (refine Pick.mk false trivial ?_; ((conv => whnf); repeat ((first | refine B0 ?_ | refine B1 ?_ | refine D1 ?_ | refine D2 ?_ | refine CallC.r ?_); conv => whnf)))
  refine Pick.mk _ (h_Sheaf (sNamed w t).1 (1) (by omega) (by omega) (by omega) (big_ill (by omega)) (by omega) (by omega) (big_ml (by omega))) ?_
  ((conv => whnf); repeat ((first | refine B0 ?_ | refine B1 ?_ | refine D1 ?_ | refine D2 ?_ | refine CallC.r ?_); conv => whnf))
  repeat (refine Br.mk (fun h => absurd h (by first | (simp; done) | (simp <;> omega))) (fun _ => ?_); ((conv => whnf); repeat ((first | refine B0 ?_ | refine B1 ?_ | refine D1 ?_ | refine D2 ?_ | refine CallC.r ?_); conv => whnf)))
  exact ResOK.same rfl
end Go.Proofs.YtlnjgoeicanehaaGreat.Pi
