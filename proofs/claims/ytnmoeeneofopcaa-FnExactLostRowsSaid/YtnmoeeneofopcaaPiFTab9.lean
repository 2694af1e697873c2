/- Lost rows, the program. No statement of the seat is proved here. -/
import Derived.Test.YtnmoeeneofopcaaPiFTab8
namespace Go.Proofs.Ytnmoeeneofopcaa.Pi
open Go
set_option maxRecDepth 10000
set_option maxHeartbeats 6400000
set_option linter.unusedVariables false

theorem s_LostRows1 (t : Table) (l : List Table) (cols : List Int) (G : Srch) (w r : List Int) (hc : cols.length ≤ 64) (ht : t.columns.length ≤ 64) (hw : w.length = cols.length) (hin : ∀ c ∈ t.columns, c ∈ cols) :
    Sat Try.prog 52 ((false, Enc.enc w) :: [CV.ptr 1 [.ptr 6 (gCells l cols G)], CV.ptr 2 (Enc.enc t), CV.ptr 1 (Enc.enc r)].map fun y => (false, [y])) (.one (.c (.bool (sameBy sameInt (t.columns.map (cellOf cols w)) r))), []) := by
  refine Sat.intro tok mixed Try.func52 rfl rfl ?_
  ((conv => whnf); repeat ((first | refine B0 ?_ | refine B1 ?_ | refine D1 ?_ | refine D2 ?_ | refine CallC.r ?_); conv => whnf))
  refine Pick.mk _ (s_project cols w t.columns (by simp only [maxLen]; omega) (by omega) (by omega) hin) ?_
  ((conv => whnf); repeat ((first | refine B0 ?_ | refine B1 ?_ | refine D1 ?_ | refine D2 ?_ | refine CallC.r ?_); conv => whnf))
  refine Pick.mk _ (s_EqualInt (t.columns.map (cellOf cols w)) r (by simp only [List.length_map, maxLen]; omega)) ?_
  ((conv => whnf); repeat ((first | refine B0 ?_ | refine B1 ?_ | refine D1 ?_ | refine D2 ?_ | refine CallC.r ?_); conv => whnf))
  exact ResOK.same rfl
theorem s_impl_LostRows (l : List Table) (o : Enc.ok l) (hr : ∀ t ∈ l, ∀ r ∈ t.rows, r.length ≤ 1048576) (bud : Int) :
    Sat Try.prog 18 [(false, Enc.enc l), (false, [.int .i64 bud])] (.tup [(false, [.ds 0]), (false, [.c (.int .i64 (gCode l bud))])], [(0, .deep true 1 ((lostOf l bud).map Enc.enc))]) := by
  by_cases h : gCode l bud = 0
  · have hlost : lostOf l bud = lostTab (pI (colsR l) (gEnd l bud).found) l l.length := by
      rw [lostOf, if_pos h]
      exact (lost_congr (fun t ht r hr => p_same h ht hr) l.length (Nat.le_refl _)).symm
    obtain ⟨h1, h2, _, hf⟩ := found_ok h
    have hmany := found_many h
    obtain ⟨hT, hall⟩ := tabs_ok h1
    have hg := s_globalRows l o hr bud h
    rw [hlost, h]
    generalize gEnd l bud = G at hf hmany hg ⊢
    have hl6 := hT.len
    have hcin : ∀ t ∈ l, ∀ c ∈ t.columns, c ∈ colsR l := fun t ht c hc => colsR_mem.2 ⟨t, ht, hc⟩
    refine Sat.intro tok mixed Try.func18 rfl rfl ?_
    ((conv => whnf); repeat ((first | refine B0 ?_ | refine B1 ?_ | refine D1 ?_ | refine D2 ?_ | refine CallC.r ?_); conv => whnf))
    refine Pick.mk _ (hg) ?_
    ((conv => whnf); repeat ((first | refine B0 ?_ | refine B1 ?_ | refine D1 ?_ | refine D2 ?_ | refine CallC.r ?_); conv => whnf))
    refine Pick.mk [6, 8, 22, 23, 24, 1000384, 2000512] trivial ?_
    ((conv => whnf); repeat ((first | refine B0 ?_ | refine B1 ?_ | refine D1 ?_ | refine D2 ?_ | refine CallC.r ?_); conv => whnf))
    refine Side.mk (by simp [flatRows]) ?_
    ((conv => whnf); repeat ((first | refine B0 ?_ | refine B1 ?_ | refine D1 ?_ | refine D2 ?_ | refine CallC.r ?_); conv => whnf))
    refine LoopL.over (fun (i : Nat) => [(24, .one (.c (.int .i64 ((i : Int)))))]) (fun (i : Nat) => [(512, .deep true 1 ((lostTab (pI (colsR l) G.found) l i).map Enc.enc))]) (fun (i : Nat) => l.length - i) (fun (i : Nat) => i ≤ l.length) ?_ 0 (Nat.zero_le _)
    intro i g1 ih
    have hlt := lostTab_len (pI (colsR l) G.found) hT.rows i g1
    ((conv => whnf); repeat ((first | refine B0 ?_ | refine B1 ?_ | refine D1 ?_ | refine D2 ?_ | refine CallC.r ?_); conv => whnf))
    refine Br.mk (fun hi => ?_) (fun hi => ?_) <;> ((conv => whnf); repeat ((first | refine B0 ?_ | refine B1 ?_ | refine D1 ?_ | refine D2 ?_ | refine CallC.r ?_); conv => whnf))
    · have hi : i < l.length := by simp only [List.length_map, decide_eq_true_eq] at hi; omega
      have hti : l[i] ∈ l := List.getElem_mem hi
      have hrl := hT.rows _ hti
      have h8 := hT.cols _ hti
      refine Pick.ix (hi) ?_
      ((conv => whnf); repeat ((first | refine B0 ?_ | refine B1 ?_ | refine D1 ?_ | refine D2 ?_ | refine CallC.r ?_); conv => whnf))
      refine Pick.mk [6, 8, 9, 10, 22, 23, 24, 30, 31, 32, 1000640] trivial ?_
      ((conv => whnf); repeat ((first | refine B0 ?_ | refine B1 ?_ | refine D1 ?_ | refine D2 ?_ | refine CallC.r ?_); conv => whnf))
      refine LoopL.over (fun (k : Nat) => [(32, .one (.c (.int .i64 ((k : Int)))))]) (fun (k : Nat) => [(512, .deep true 1 ((lostTab (pI (colsR l) G.found) l i ++ lostRow (pI (colsR l) G.found) l[i] i k).map Enc.enc))]) (fun (k : Nat) => l[i].rows.length - k) (fun (k : Nat) => k ≤ l[i].rows.length) ?_ 0 (Nat.zero_le _) (by rw [show lostRow (pI (colsR l) G.found) l[i] i 0 = [] from rfl, List.append_nil]; rfl)
      intro k g2 ih2
      have hlr := lostRow_len (pI (colsR l) G.found) l[i] i k
      ((conv => whnf); repeat ((first | refine B0 ?_ | refine B1 ?_ | refine D1 ?_ | refine D2 ?_ | refine CallC.r ?_); conv => whnf))
      refine Br.mk (fun hk => ?_) (fun hk => ?_) <;> ((conv => whnf); repeat ((first | refine B0 ?_ | refine B1 ?_ | refine D1 ?_ | refine D2 ?_ | refine CallC.r ?_); conv => whnf))
      · have hk : k < l[i].rows.length := by simp only [List.length_map, decide_eq_true_eq] at hk; omega
        refine Pick.ix (hk) ?_
        ((conv => whnf); repeat ((first | refine B0 ?_ | refine B1 ?_ | refine D1 ?_ | refine D2 ?_ | refine CallC.r ?_); conv => whnf))
        refine Pick.mk _ (s_ContainsFuncInt64S G.found _ _ (fun w => sameBy sameInt (l[i].columns.map (cellOf (colsR l) w)) l[i].rows[k]) (by simp only [maxLen]; omega) (fun w hw => s_LostRows1 l[i] l (colsR l) G w l[i].rows[k] hT.all (by omega) (hf w hw).1 (hcin _ hti))) ?_
        ((conv => whnf); repeat ((first | refine B0 ?_ | refine B1 ?_ | refine D1 ?_ | refine D2 ?_ | refine CallC.r ?_); conv => whnf))
        have es := lostRow_succ (pI (colsR l) G.found) l[i] i hk
        refine Br.mk (fun hp => ?_) (fun hp => ?_) <;> ((conv => whnf); repeat ((first | refine B0 ?_ | refine B1 ?_ | refine D1 ?_ | refine D2 ?_ | refine CallC.r ?_); conv => whnf))
        · have hp : ¬ pI (colsR l) G.found l[i] l[i].rows[k] = true := by
            have : (!pI (colsR l) G.found l[i] l[i].rows[k]) = true := hp
            simpa using this
          rw [if_neg hp] at es
          refine Pick.mk (some true) trivial ?_
          ((conv => whnf); repeat ((first | refine B0 ?_ | refine B1 ?_ | refine D1 ?_ | refine D2 ?_ | refine CallC.r ?_); conv => whnf))
          refine Side.mk (by simp [flatRows, CV.flat]) ?_
          ((conv => whnf); repeat ((first | refine B0 ?_ | refine B1 ?_ | refine D1 ?_ | refine D2 ?_ | refine CallC.r ?_); conv => whnf))
          refine Side.mk (by simp only [List.length_map, List.length_append, List.length_cons, List.length_nil]; omega) ?_
          ((conv => whnf); repeat ((first | refine B0 ?_ | refine B1 ?_ | refine D1 ?_ | refine D2 ?_ | refine CallC.r ?_); conv => whnf))
          refine Pick.at64 (z := (k + 1 : Nat)) (by simp) (by omega) ?_
          ((conv => whnf); repeat ((first | refine B0 ?_ | refine B1 ?_ | refine D1 ?_ | refine D2 ?_ | refine CallC.r ?_); conv => whnf))
          have hn := ih2 (k + 1) (by omega) (by omega)
          rw [es, ← List.append_assoc, List.map_append] at hn
          exact hn
        · have hp : pI (colsR l) G.found l[i] l[i].rows[k] = true := by
            have : (!pI (colsR l) G.found l[i] l[i].rows[k]) = false := hp
            simpa using this
          rw [if_pos hp] at es
          refine Pick.at64 (z := (k + 1 : Nat)) (by simp) (by omega) ?_
          ((conv => whnf); repeat ((first | refine B0 ?_ | refine B1 ?_ | refine D1 ?_ | refine D2 ?_ | refine CallC.r ?_); conv => whnf))
          have hn := ih2 (k + 1) (by omega) (by omega)
          rw [es] at hn
          exact hn
      · have hk : k = l[i].rows.length := by simp only [List.length_map, decide_eq_false_iff_not] at hk; omega
        subst hk
        refine Pick.at64 (z := (i + 1 : Nat)) (by simp) (by omega) ?_
        ((conv => whnf); repeat ((first | refine B0 ?_ | refine B1 ?_ | refine D1 ?_ | refine D2 ?_ | refine CallC.r ?_); conv => whnf))
        have hn := ih (i + 1) (by omega) (by omega)
        rw [lostTab_succ _ l hi] at hn
        exact hn
    · have hi : i = l.length := by simp only [List.length_map, decide_eq_false_iff_not] at hi; omega
      subst hi
      exact ResOK.same rfl
  · have e : lostOf l bud = [] := by rw [lostOf, if_neg h]
    rw [e]
    refine Sat.intro tok mixed Try.func18 rfl rfl ?_
    ((conv => whnf); repeat ((first | refine B0 ?_ | refine B1 ?_ | refine D1 ?_ | refine D2 ?_ | refine CallC.r ?_); conv => whnf))
    refine Pick.mk _ (s_globalRows_no l o hr bud h) ?_
    ((conv => whnf); repeat ((first | refine B0 ?_ | refine B1 ?_ | refine D1 ?_ | refine D2 ?_ | refine CallC.r ?_); conv => whnf))
    refine Br.mk (fun _ => ?_) (fun h2 => absurd h2 (by simpa using h))
    ((conv => whnf); repeat ((first | refine B0 ?_ | refine B1 ?_ | refine D1 ?_ | refine D2 ?_ | refine CallC.r ?_); conv => whnf))
    exact ResOK.own rfl ⟨(fun r hr => nomatch hr), trivial⟩
end Go.Proofs.Ytnmoeeneofopcaa.Pi
