/- States, changes and histories that are drawn out of bytes. No statement of the seat is proved here. -/
import Derived.Test.YtjolahiflldepabPiDrawN
namespace Go.Proofs.Ytjolahiflldepab.Pi
open Go
set_option maxRecDepth 10000
set_option maxHeartbeats 32000000
set_option linter.unusedVariables false

/-- All orders of a region, with the rest of the function out of sight. -/
theorem anyM_to {P : Program} {tt : TT} {ops : Array Oper} {K0 : St → Prop} {f : Nat} {listed : Array Bool} {s s' : St} (h : ∀ K : St → Prop, K s' → anyM P tt ops K f listed s) (h0 : K0 s') : anyM P tt ops K0 f listed s := h K0 h0
theorem s_l27DrawState (code : List UInt8) (s : Src) (h0 : 0 ≤ s.pos) (hb : s.pos ≤ 100000000) (hl : code.length ≤ 1048576) :
    SatM Try.prog 67 [.one (.pb 1000000 0 3)] [(1000000, .box (srcX code s))] (.one (.rs 0), [(0, .arr 2 ((drawSt code s).2.map Enc.enc)), (1000000, .box (srcX code (drawSt code s).1))]) := by
  refine SatM.intro tok mixed Try.func67 rfl rfl ?_
  ((conv => whnf); repeat ((first | refine B0 ?_ | refine B1 ?_ | refine D1 ?_ | refine D2 ?_ | refine CallC.r ?_); conv => whnf))
  refine Pick.mk [0, 3, 4, 5, 1000192] trivial ?_
  ((conv => whnf); repeat ((first | refine B0 ?_ | refine B1 ?_ | refine D1 ?_ | refine D2 ?_ | refine CallC.r ?_); conv => whnf))
  refine LoopL.over (fun (i : Nat) => [(5, .one (.c (.int .i64 ((i : Int)))))]) (fun (i : Nat) => [(256, .arr 2 (List.map Enc.enc ((dsUp code s i).2))), (1000000, Ob.box (srcX code (dsUp code s i).1))]) (fun (i : Nat) => 5 - i) (fun (i : Nat) => i ≤ 5) ?_ 0 (Nat.zero_le _)
  intro i hi ih
  have hp := dsUp_pos code s i
  have hln := dsUp_len code s i
  ((conv => whnf); repeat ((first | refine B0 ?_ | refine B1 ?_ | refine D1 ?_ | refine D2 ?_); conv => whnf))
  refine Br.mk (fun h => ?_) (fun h => ?_) <;> ((conv => whnf); repeat ((first | refine B0 ?_ | refine B1 ?_ | refine D1 ?_ | refine D2 ?_); conv => whnf))
  · have h : i < 5 := by simp only [decide_eq_true_eq] at h; omega
    refine CallC.x ?_
    ((conv => whnf); repeat ((first | refine B0 ?_ | refine B1 ?_ | refine D1 ?_ | refine D2 ?_ | refine CallC.r ?_); conv => whnf))
    refine Pick.mk _ (s_one code (dsUp code s i).1 2 (by omega) (by omega) hl) ?_
    ((conv => whnf); repeat ((first | refine B0 ?_ | refine B1 ?_); conv => whnf))
    have hn := ih (i + 1) (by omega) (by omega)
    simp only [dsUp, dsStep] at hn
    have hp2 := pickS_pos code (dsUp code s i).1 2
    refine Br.mk (fun h2 => ?_) (fun h2 => ?_) <;> ((conv => whnf); repeat ((first | refine B0 ?_ | refine B1 ?_); conv => whnf))
    · rw [if_pos h2] at hn
      have hpk := s_pick code (pickS code (dsUp code s i).1 2).2 1001 (by omega) (by omega) hl
      have hrow : 0 ≤ (i : Int) ∧ (nm5.map Enc.enc)[(i : Int).toNat]? = some (Enc.enc (nm5.getD i ⟨#[]⟩)) := ⟨by omega, by
        have hlt : i < nm5.length := h
        rw [Int.toNat_natCast, List.getElem?_map, List.getElem?_eq_getElem hlt]; simp [List.getD, List.getElem?_eq_getElem hlt]⟩
      rw [List.map_append] at hn
      refine Pick.mk 1000 (Or.inl (Or.inr rfl)) ?_
      show anyM Try.prog tt _ _ _ _ _
      apply anyM_to
      · intro K hK
        ((conv => whnf); repeat ((first | refine B0 ?_ | refine B1 ?_); conv => whnf))
        repeat' (first | exact hK | ((first | refine And.intro ?_ trivial | refine And.intro (by kernel_rfl : Region.ready _ _ _ = []) ?_ | refine And.intro ?_ ?_ | refine CallC.x ?_ | refine Pick.mk _ hpk ?_ | refine Pick.mk _ hrow ?_ | refine Side.mk (by simp only [List.length_map, List.length_cons, List.length_nil]; omega) ?_ | refine Pick.mk [9] (by decide +kernel) ?_ | refine Pick.mk [10] (by decide +kernel) ?_ | refine Pick.mk [8] (by decide +kernel) ?_ | refine Pick.mk [7] (by decide +kernel) ?_ | refine Pick.mk [4] (by decide +kernel) ?_ | refine Pick.mk [6] (by decide +kernel) ?_ | refine Pick.mk [3] (by decide +kernel) ?_ | refine Pick.mk [4, 6] (by decide +kernel) ?_ | refine Pick.mk [0, 7] (by decide +kernel) ?_ | refine Pick.mk [0, 8] (by decide +kernel) ?_ | refine Pick.mk [0] (by decide +kernel) ?_ | refine Pick.mk [3, 6] (by decide +kernel) ?_ | refine Pick.mk [0, 4] (by decide +kernel) ?_ | refine Pick.mk [2] (by decide +kernel) ?_ | refine Pick.mk [1] (by decide +kernel) ?_ | refine Pick.mk [0, 3] (by decide +kernel) ?_ | refine Pick.mk [5] (by decide +kernel) ?_ | refine Pick.mk [0, 6] (by decide +kernel) ?_ | refine Pick.mk [4, 5] (by decide +kernel) ?_ | refine Pick.mk [0, 4, 6] (by decide +kernel) ?_ | refine Pick.mk [3, 5] (by decide +kernel) ?_ | refine Pick.mk [2, 6] (by decide +kernel) ?_ | refine Pick.mk [1, 6] (by decide +kernel) ?_ | refine Pick.mk [0, 3, 6] (by decide +kernel) ?_ | refine Pick.mk [1, 2] (by decide +kernel) ?_ | refine Pick.mk [0, 2] (by decide +kernel) ?_ | refine Pick.mk [0, 1] (by decide +kernel) ?_ | refine Pick.mk [2, 5] (by decide +kernel) ?_ | refine Pick.mk [1, 5] (by decide +kernel) ?_ | refine Pick.mk [1, 2, 6] (by decide +kernel) ?_ | refine Pick.mk [0, 3, 5] (by decide +kernel) ?_ | refine Pick.mk [0, 4, 5] (by decide +kernel) ?_ | refine Pick.mk [0, 5] (by decide +kernel) ?_ | refine Pick.mk [0, 2, 6] (by decide +kernel) ?_ | refine Pick.mk [0, 1, 6] (by decide +kernel) ?_ | refine Pick.mk [0, 1, 2, 5] (by decide +kernel) ?_ | refine Pick.mk [1, 2, 5] (by decide +kernel) ?_ | refine Pick.mk [0, 2, 5] (by decide +kernel) ?_ | refine Pick.mk [0, 1, 5] (by decide +kernel) ?_ | refine Pick.mk [0, 1, 2, 6] (by decide +kernel) ?_ | refine Pick.mk [0, 1, 2] (by decide +kernel) ?_) <;> ((conv => whnf); repeat ((first | refine B0 ?_ | refine B1 ?_); conv => whnf))))
      · ((conv => whnf); repeat ((first | refine B0 ?_ | refine B1 ?_ | refine D1 ?_ | refine D2 ?_ | refine CallC.r ?_); conv => whnf))
        refine Pick.at64 (z := (i + 1 : Nat)) (by simp) (by omega) ?_
        ((conv => whnf); repeat ((first | refine B0 ?_ | refine B1 ?_ | refine D1 ?_ | refine D2 ?_ | refine CallC.r ?_); conv => whnf))
        exact hn
    · rw [if_neg (by simpa using h2)] at hn
      refine Pick.at64 (z := (i + 1 : Nat)) (by simp) (by omega) ?_
      ((conv => whnf); repeat ((first | refine B0 ?_ | refine B1 ?_ | refine D1 ?_ | refine D2 ?_ | refine CallC.r ?_); conv => whnf))
      exact hn
  · have h : i = 5 := by simp only [decide_eq_false_iff_not] at h; omega
    subst h
    exact rfl
end Go.Proofs.Ytjolahiflldepab.Pi
