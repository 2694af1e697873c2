/- Tables that agree, in the program and in the reference. No statement of the seat is proved here. -/
import Derived.Test.YtnmoeeneofopcaaGreatPiLayF
import Derived.Test.YtnmoeeneofopcaaGreatPiFTab3
namespace Go.Proofs.YtnmoeeneofopcaaGreat.Pi
open Go
set_option maxRecDepth 10000
set_option maxHeartbeats 6400000
set_option linter.unusedVariables false

theorem s_sortedSame (xs : List (List Int)) (hb : xs.length ≤ 65536) (hc : ∀ x ∈ xs, x.length ≤ 1048576) (h : (onceL xs).length = xs.length) :
    SatM Tryz.prog 311 [.one (.rs 1000000)] [(1000000, .arr 1 (xs.map Enc.enc))] (.one (.rs 1000000), [(1000000, .arr 1 ((onceL xs).map Enc.enc))]) := by
  have hl := srtL_len xs
  have hs := s_SortFuncL xs (by omega) hc
  have h2 : (cptL (srtL xs)).length = (srtL xs).length := by rw [hl]; exact h
  have hk := s_CompactSame (srtL xs) (by omega) (fun x hx => hc x (srtL_mem.1 hx)) h2
  rw [show onceL xs = srtL xs from cptL_same h2]
  refine SatM.intro tok mixed Tryz.func311 rfl rfl ?_
  ((conv => whnf); repeat ((first | refine B0 ?_ | refine B1 ?_ | refine D1 ?_ | refine D2 ?_); conv => whnf))
  refine CallC.x ?_
  ((conv => whnf); repeat ((first | refine B0 ?_ | refine B1 ?_ | refine D1 ?_ | refine D2 ?_); conv => whnf))
  refine Pick.mk _ hs ?_
  ((conv => whnf); repeat ((first | refine B0 ?_ | refine B1 ?_ | refine D1 ?_ | refine D2 ?_); conv => whnf))
  refine Side.mk (by simp [hl]) ?_
  ((conv => whnf); repeat ((first | refine B0 ?_ | refine B1 ?_ | refine D1 ?_ | refine D2 ?_); conv => whnf))
  refine CallC.x ?_
  ((conv => whnf); repeat ((first | refine B0 ?_ | refine B1 ?_ | refine D1 ?_ | refine D2 ?_); conv => whnf))
  refine Pick.mk _ hk ?_
  ((conv => whnf); repeat ((first | refine B0 ?_ | refine B1 ?_ | refine D1 ?_ | refine D2 ?_ | refine CallC.r ?_); conv => whnf))
  refine Side.mk (by rfl) ?_
  ((conv => whnf); repeat ((first | refine B0 ?_ | refine B1 ?_ | refine D1 ?_ | refine D2 ?_ | refine CallC.r ?_); conv => whnf))
theorem s_sortedLess (xs : List (List Int)) (hb : xs.length ≤ 65536) (hc : ∀ x ∈ xs, x.length ≤ 1048576) (h : (onceL xs).length ≠ xs.length) :
    SatM Tryz.prog 311 [.one (.rs 1000000)] [(1000000, .arr 1 (xs.map Enc.enc))] (.one (.ru 1000000 0 (onceL xs).length), [(1000000, .arr 1 ((onceL xs ++ List.replicate (xs.length - (onceL xs).length) []).map Enc.enc))]) := by
  have hl := srtL_len xs
  have hs := s_SortFuncL xs (by omega) hc
  have hk := s_CompactLess (srtL xs) (by omega) (fun x hx => hc x (srtL_mem.1 hx)) (by rw [hl]; exact h)
  have hcl : (onceL xs).length ≤ xs.length := by
    have : (cptL (srtL xs)).length ≤ (srtL xs).length := cptN_len _ _
    rw [hl] at this; exact this
  rw [show cptL (srtL xs) = onceL xs from rfl, hl] at hk
  refine SatM.intro tok mixed Tryz.func311 rfl rfl ?_
  ((conv => whnf); repeat ((first | refine B0 ?_ | refine B1 ?_ | refine D1 ?_ | refine D2 ?_); conv => whnf))
  refine CallC.x ?_
  ((conv => whnf); repeat ((first | refine B0 ?_ | refine B1 ?_ | refine D1 ?_ | refine D2 ?_); conv => whnf))
  refine Pick.mk _ hs ?_
  ((conv => whnf); repeat ((first | refine B0 ?_ | refine B1 ?_ | refine D1 ?_ | refine D2 ?_); conv => whnf))
  refine Side.mk (by simp [hl]) ?_
  ((conv => whnf); repeat ((first | refine B0 ?_ | refine B1 ?_ | refine D1 ?_ | refine D2 ?_); conv => whnf))
  refine CallC.x ?_
  ((conv => whnf); repeat ((first | refine B0 ?_ | refine B1 ?_ | refine D1 ?_ | refine D2 ?_); conv => whnf))
  refine Pick.mk _ hk ?_
  ((conv => whnf); repeat ((first | refine B0 ?_ | refine B1 ?_ | refine D1 ?_ | refine D2 ?_ | refine CallC.r ?_); conv => whnf))
  refine Side.mk (by simp only [List.length_map, List.length_append, List.length_replicate]; omega) ?_
  ((conv => whnf); repeat ((first | refine B0 ?_ | refine B1 ?_ | refine D1 ?_ | refine D2 ?_ | refine CallC.r ?_); conv => whnf))
theorem flat_ints (xs : List Int) : flatRows (xs.map (Enc.enc (α := Int))) := fun r hr c hc => by
  obtain ⟨x, _, rfl⟩ := List.mem_map.1 hr
  have : c = .int .i64 x := by simpa [Enc.enc] using hc
  subst this; rfl
theorem s_projectQ (cs xs ws : List Int) (hb : cs.length ≤ maxLen) (hw : ws.length ≤ 1048576) (hl : cs.length ≤ xs.length) (hin : ∀ c ∈ ws, c ∈ cs) : Sat Tryz.prog 102 [(false, Enc.enc cs), (false, Enc.enc xs), (false, Enc.enc ws)] (.one (.ds 0), [(0, .deep true 1 ((ws.map (cellOf cs xs)).map Enc.enc))]) := by
  refine Sat.intro tok mixed Tryz.func102 rfl rfl ?_
  ((conv => whnf); repeat ((first | refine B0 ?_ | refine B1 ?_ | refine D1 ?_ | refine D2 ?_ | refine CallC.r ?_); conv => whnf))
  refine Pick.mk [0, 1, 7, 10, 11, 12] trivial ?_
  ((conv => whnf); repeat ((first | refine B0 ?_ | refine B1 ?_ | refine D1 ?_ | refine D2 ?_ | refine CallC.r ?_); conv => whnf))
  refine LoopL.over (fun (i : Nat) => [(12, .one (.c (.int .i64 ((i : Int)))))]) (fun (i : Nat) => [(448, .arr 1 (List.map Enc.enc ((ws.take i).map (cellOf cs xs))))]) (fun (i : Nat) => ws.length - i) (fun (i : Nat) => i ≤ ws.length) ?_ 0 (Nat.zero_le _)
  intro i g1 ih
  ((conv => whnf); repeat ((first | refine B0 ?_ | refine B1 ?_ | refine D1 ?_ | refine D2 ?_ | refine CallC.r ?_); conv => whnf))
  refine Br.mk (fun h => ?_) (fun h => ?_) <;> ((conv => whnf); repeat ((first | refine B0 ?_ | refine B1 ?_ | refine D1 ?_ | refine D2 ?_ | refine CallC.r ?_); conv => whnf))
  · have h : i < ws.length := by simp only [List.length_map, decide_eq_true_eq] at h; omega
    refine Pick.ix (h) ?_
    ((conv => whnf); repeat ((first | refine B0 ?_ | refine B1 ?_ | refine D1 ?_ | refine D2 ?_ | refine CallC.r ?_); conv => whnf))
    refine Pick.mk _ (s_IndexInt64 cs ws[i] hb) ?_
    ((conv => whnf); repeat ((first | refine B0 ?_ | refine B1 ?_ | refine D1 ?_ | refine D2 ?_ | refine CallC.r ?_); conv => whnf))
    rcases firstIx_cases (fun x => ws[i] == x) cs with ⟨_, a2⟩ | ⟨k, hk, a1, a2, a3⟩
    · exfalso
      obtain ⟨j, hj, e⟩ := List.getElem_of_mem (hin _ (List.getElem_mem h))
      have := a2 j hj
      simp [e] at this
    rw [a1]
    have hc : cellOf cs xs ws[i] = xs[k] := cellOf_first hk (by omega) (by have := a2; simp at this; exact this.symm) (fun j hj hlt => by have := a3 j hj hlt; simp at this; exact fun e => this e.symm)
    refine Pick.ix ((by omega : k < xs.length)) ?_
    ((conv => whnf); repeat ((first | refine B0 ?_ | refine B1 ?_ | refine D1 ?_ | refine D2 ?_ | refine CallC.r ?_); conv => whnf))
    refine Side.mk (by simp only [List.length_map, List.length_take, List.length_cons, List.length_nil]; omega) ?_
    ((conv => whnf); repeat ((first | refine B0 ?_ | refine B1 ?_ | refine D1 ?_ | refine D2 ?_ | refine CallC.r ?_); conv => whnf))
    refine Pick.at64 (z := (i + 1 : Nat)) (by simp) (by omega) ?_
    ((conv => whnf); repeat ((first | refine B0 ?_ | refine B1 ?_ | refine D1 ?_ | refine D2 ?_ | refine CallC.r ?_); conv => whnf))
    have hn := ih (i + 1) (by omega) (by omega)
    rw [List.take_add_one, List.getElem?_eq_getElem h, Option.toList_some, List.map_append, List.map_append, List.map_singleton, hc] at hn
    exact hn
  · have h : i = ws.length := by simp only [List.length_map, decide_eq_false_iff_not] at h; omega
    subst h
    rw [List.take_length]
    exact ResOK.deep rfl ⟨flat_ints _, trivial⟩
theorem projRows_take (t : Table) (cs : List Int) (n : Nat) : (projRows t cs).take n = (t.rows.take n).map fun r => cs.map (cellOf t.columns r) := by rw [projRows, List.map_take]
theorem take_once (xs : List (List Int)) : List.take (onceL xs).length ((onceL xs ++ List.replicate (xs.length - (onceL xs).length) []).map (Enc.enc (α := List Int))) = (onceL xs).map Enc.enc := by
  rw [← List.map_take, List.take_append_of_le_length (Nat.le_refl _), List.take_length]
theorem s_projected (t : Table) (cs : List Int) (hr : t.rows.length ≤ 1024) (ht : t.columns.length ≤ 64) (hl : ∀ r ∈ t.rows, t.columns.length ≤ r.length) (hc : cs.length ≤ 64) (hin : ∀ c ∈ cs, c ∈ t.columns) :
    Sat Tryz.prog 263 [(true, Enc.enc t), (false, Enc.enc cs)] (.agg [.c (.slice 1 (cs.map Enc.enc)), .c (.slice 1 ((onceL (projRows t cs)).map Enc.enc))], []) := by
  have hpl : (projRows t cs).length = t.rows.length := by simp [projRows]
  have hpc : ∀ x ∈ projRows t cs, x.length ≤ 1048576 := fun x hx => by
    obtain ⟨r, _, rfl⟩ := List.mem_map.1 hx
    rw [List.length_map]; omega
  refine Sat.intro tok mixed Tryz.func263 rfl rfl ?_
  ((conv => whnf); repeat ((first | refine B0 ?_ | refine B1 ?_ | refine D1 ?_ | refine D2 ?_ | refine CallC.r ?_); conv => whnf))
  refine Pick.mk _ (s_CloneInt cs (by omega)) ?_
  ((conv => whnf); repeat ((first | refine B0 ?_ | refine B1 ?_ | refine D1 ?_ | refine D2 ?_ | refine CallC.r ?_); conv => whnf))
  refine Pick.mk [1, 2, 4, 5, 12, 13, 14, 1000352, 3000353] trivial ?_
  ((conv => whnf); repeat ((first | refine B0 ?_ | refine B1 ?_ | refine D1 ?_ | refine D2 ?_ | refine CallC.r ?_); conv => whnf))
  refine LoopL.over (fun (i : Nat) => [(14, .one (.c (.int .i64 ((i : Int)))))]) (fun (i : Nat) => [(353, .arr 1 (List.map Enc.enc ((projRows t cs).take i)))]) (fun (i : Nat) => t.rows.length - i) (fun (i : Nat) => i ≤ t.rows.length) ?_ 0 (Nat.zero_le _)
  intro i g1 ih
  ((conv => whnf); repeat ((first | refine B0 ?_ | refine B1 ?_ | refine D1 ?_ | refine D2 ?_ | refine CallC.r ?_); conv => whnf))
  refine Br.mk (fun h => ?_) (fun h => ?_)
  · ((conv => whnf); repeat ((first | refine B0 ?_ | refine B1 ?_ | refine D1 ?_ | refine D2 ?_ | refine CallC.r ?_); conv => whnf))
    have h : i < t.rows.length := by simp only [List.length_map, decide_eq_true_eq] at h; omega
    refine Pick.ix (h) ?_
    ((conv => whnf); repeat ((first | refine B0 ?_ | refine B1 ?_ | refine D1 ?_ | refine D2 ?_ | refine CallC.r ?_); conv => whnf))
    refine Pick.mk _ (s_projectQ t.columns t.rows[i] cs (by simp only [maxLen]; omega) (by omega) (hl _ (List.getElem_mem h)) hin) ?_
    ((conv => whnf); repeat ((first | refine B0 ?_ | refine B1 ?_ | refine D1 ?_ | refine D2 ?_ | refine CallC.r ?_); conv => whnf))
    refine Side.mk (by simp only [List.length_map, List.length_take, List.length_cons, List.length_nil]; omega) ?_
    ((conv => whnf); repeat ((first | refine B0 ?_ | refine B1 ?_ | refine D1 ?_ | refine D2 ?_ | refine CallC.r ?_); conv => whnf))
    refine Pick.at64 (z := (i + 1 : Nat)) (by simp) (by omega) ?_
    ((conv => whnf); repeat ((first | refine B0 ?_ | refine B1 ?_ | refine D1 ?_ | refine D2 ?_ | refine CallC.r ?_); conv => whnf))
    have hn := ih (i + 1) (by omega) (by omega)
    rw [List.take_add_one, List.getElem?_eq_getElem (by omega), Option.toList_some, List.map_append] at hn
    have e : (projRows t cs)[i]'(by omega) = cs.map (cellOf t.columns t.rows[i]) := by simp [projRows]
    rw [e] at hn
    exact hn
  · have h : i = t.rows.length := by simp only [List.length_map, decide_eq_false_iff_not] at h; omega
    subst h
    have e : (projRows t cs).take t.rows.length = projRows t cs := List.take_of_length_le (by omega)
    rw [e]
    ((conv => whnf); repeat ((first | refine B0 ?_ | refine B1 ?_ | refine D1 ?_ | refine D2 ?_); conv => whnf))
    refine CallC.x ?_
    ((conv => whnf); repeat ((first | refine B0 ?_ | refine B1 ?_ | refine D1 ?_ | refine D2 ?_); conv => whnf))
    by_cases hC : (onceL (projRows t cs)).length = (projRows t cs).length
    · refine Pick.mk _ (s_sortedSame (projRows t cs) (by omega) hpc hC) ?_
      ((conv => whnf); repeat ((first | refine B0 ?_ | refine B1 ?_ | refine D1 ?_ | refine D2 ?_ | refine CallC.r ?_); conv => whnf))
      refine Side.mk (by simp only [List.length_map]; omega) ?_
      ((conv => whnf); repeat ((first | refine B0 ?_ | refine B1 ?_ | refine D1 ?_ | refine D2 ?_ | refine CallC.r ?_); conv => whnf))
      exact ResOK.frz rfl rfl
    · have hcl : (onceL (projRows t cs)).length ≤ (projRows t cs).length := by
        have h1 : (cptL (srtL (projRows t cs))).length ≤ (srtL (projRows t cs)).length := cptN_len _ _
        rw [srtL_len] at h1; exact h1
      refine Pick.mk _ (s_sortedLess (projRows t cs) (by omega) hpc hC) ?_
      ((conv => whnf); repeat ((first | refine B0 ?_ | refine B1 ?_ | refine D1 ?_ | refine D2 ?_ | refine CallC.r ?_); conv => whnf))
      refine Side.mk (by simp only [List.length_map, List.length_append, List.length_replicate]; omega) ?_
      ((conv => whnf); repeat ((first | refine B0 ?_ | refine B1 ?_ | refine D1 ?_ | refine D2 ?_ | refine CallC.r ?_); conv => whnf))
      rw [take_once]
      exact ResOK.frz rfl rfl
end Go.Proofs.YtnmoeeneofopcaaGreat.Pi
