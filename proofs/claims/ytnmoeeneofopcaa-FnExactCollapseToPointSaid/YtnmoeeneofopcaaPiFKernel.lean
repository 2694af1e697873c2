/- The kernel: the program and the reference. No statement of the seat is proved here. -/
import Derived.Test.YtnmoeeneofopcaaPiFElimS
namespace Go.Proofs.Ytnmoeeneofopcaa.Pi
open Go
set_option maxRecDepth 10000
set_option maxHeartbeats 3200000
set_option linter.unusedVariables false

theorem s_IndexInt64 (xs : List Int) (v : Int) (hb : xs.length ≤ maxLen) : Sat Try.prog 66 [(false, Enc.enc xs), (false, [.int .i64 v])] (.one (.c (.int .i64 (firstIx (fun x => v == x) xs 0))), []) := by
  simp only [maxLen] at hb
  have hl : (xs.map (Enc.enc (α := Int))).length = xs.length := by simp
  refine Sat.intro tok mixed Try.func66 rfl rfl ?_
  ((conv => whnf); repeat ((first | refine B0 ?_ | refine B1 ?_ | refine D1 ?_ | refine D2 ?_ | refine CallC.r ?_); conv => whnf))
  refine Pick.mk [0, 1, 7, 8] trivial ?_
  ((conv => whnf); repeat ((first | refine B0 ?_ | refine B1 ?_ | refine D1 ?_ | refine D2 ?_ | refine CallC.r ?_); conv => whnf))
  refine LoopL.run (fun i : Nat => St.mk [.one (.c (.slice 1 (xs.map Enc.enc))), .one (.c (.int .i64 v)), .one .dead, .one .dead, .one .dead, .one .dead, .one .dead, .one (.c (.int .i64 (xs.map (Enc.enc (α := Int))).length)), .one (.c (.int .i64 i)), .one .dead, .one .dead, .one .dead, .one .dead, .one .dead, .one .dead, .one .dead, .one .dead, .one .dead, .one .dead] []) (fun i => xs.length - i) (fun i => i ≤ xs.length ∧ ∀ (j : Nat) (h : j < xs.length), j < i → (v == xs[j]) = false) ?_ 0 ⟨Nat.zero_le _, by intros; omega⟩
  intro i ⟨h2, h3⟩ ih
  ((conv => whnf); repeat ((first | refine B0 ?_ | refine B1 ?_ | refine D1 ?_ | refine D2 ?_ | refine CallC.r ?_); conv => whnf))
  refine Br.mk (fun h => ?_) (fun h => ?_) <;> ((conv => whnf); repeat ((first | refine B0 ?_ | refine B1 ?_ | refine D1 ?_ | refine D2 ?_ | refine CallC.r ?_); conv => whnf))
  · simp at h
    refine Pick.ix h ?_
    ((conv => whnf); repeat ((first | refine B0 ?_ | refine B1 ?_ | refine D1 ?_ | refine D2 ?_ | refine CallC.r ?_); conv => whnf))
    refine Br.mk (fun h5 => ?_) (fun h5 => ?_) <;> ((conv => whnf); repeat ((first | refine B0 ?_ | refine B1 ?_ | refine D1 ?_ | refine D2 ?_ | refine CallC.r ?_); conv => whnf))
    · exact ResOK.same (by rw [firstIx_at h h5 h3, Nat.zero_add])
    · refine Pick.at64 (z := (i + 1 : Nat)) (by simp) (by omega) ?_
      ((conv => whnf); repeat ((first | refine B0 ?_ | refine B1 ?_ | refine D1 ?_ | refine D2 ?_ | refine CallC.r ?_); conv => whnf))
      refine ih (i + 1) ⟨by omega, fun j h1 h6 => ?_⟩ (by omega)
      by_cases hj : j < i
      · exact h3 j h1 hj
      · obtain rfl : j = i := by omega
        exact h5
  · simp at h
    exact ResOK.same (by rw [firstIx_none fun j h1 => h3 j h1 (by omega)])

theorem s_ContainsInt64 (xs : List Int) (v : Int) (hb : xs.length ≤ maxLen) : Sat Try.prog 131 [(false, Enc.enc xs), (false, [.int .i64 v])] (.one (.c (.bool (xs.any fun x => v == x))), []) := by
  refine Sat.intro tok mixed Try.func131 rfl rfl ?_
  ((conv => whnf); repeat ((first | refine B0 ?_ | refine B1 ?_ | refine D1 ?_ | refine D2 ?_ | refine CallC.r ?_); conv => whnf))
  refine Pick.mk _ (s_IndexInt64 xs v hb) ?_
  ((conv => whnf); repeat ((first | refine B0 ?_ | refine B1 ?_ | refine D1 ?_ | refine D2 ?_ | refine CallC.r ?_); conv => whnf))
  exact ResOK.same (by rw [firstIx_any])

theorem s_l00Has (xs : List Int) (v : Int) (hb : xs.length ≤ maxLen) : Sat Try.prog 111 [(false, Enc.enc xs), (false, [.int .i64 v])] (.one (.c (.bool (xs.any fun x => v == x))), []) := by
  simp only [maxLen] at hb
  have hl : (xs.map (Enc.enc (α := Int))).length = xs.length := by simp
  refine Sat.intro tok mixed Try.func111 rfl rfl ?_
  ((conv => whnf); repeat ((first | refine B0 ?_ | refine B1 ?_ | refine D1 ?_ | refine D2 ?_ | refine CallC.r ?_); conv => whnf))
  refine Pick.mk [0, 1, 5] trivial ?_
  ((conv => whnf); repeat ((first | refine B0 ?_ | refine B1 ?_ | refine D1 ?_ | refine D2 ?_ | refine CallC.r ?_); conv => whnf))
  refine LoopL.run (fun i : Nat => St.mk [.one (.c (.slice 1 (xs.map Enc.enc))), .one (.c (.int .i64 v)), .one .dead, .one .dead, .one .dead, .one (.c (.int .i64 i)), .one .dead, .one .dead, .one .dead, .one .dead, .one .dead, .one .dead, .one .dead, .one .dead, .one .dead, .one .dead, .one .dead, .one .dead] []) (fun i => xs.length - i) (fun i => i ≤ xs.length ∧ ∀ (j : Nat) (h : j < xs.length), j < i → (v == xs[j]) = false) ?_ 0 ⟨Nat.zero_le _, by intros; omega⟩
  intro i ⟨h2, h3⟩ ih
  ((conv => whnf); repeat ((first | refine B0 ?_ | refine B1 ?_ | refine D1 ?_ | refine D2 ?_ | refine CallC.r ?_); conv => whnf))
  refine Br.mk (fun h => ?_) (fun h => ?_) <;> ((conv => whnf); repeat ((first | refine B0 ?_ | refine B1 ?_ | refine D1 ?_ | refine D2 ?_ | refine CallC.r ?_); conv => whnf))
  · simp at h
    refine Pick.ix h ?_
    ((conv => whnf); repeat ((first | refine B0 ?_ | refine B1 ?_ | refine D1 ?_ | refine D2 ?_ | refine CallC.r ?_); conv => whnf))
    refine Br.mk (fun h5 => ?_) (fun h5 => ?_) <;> ((conv => whnf); repeat ((first | refine B0 ?_ | refine B1 ?_ | refine D1 ?_ | refine D2 ?_ | refine CallC.r ?_); conv => whnf))
    · simp at h5
      exact ResOK.same (by rw [List.any_eq_true.2 ⟨xs[i], List.getElem_mem h, by simpa using h5.symm⟩])
    · refine Pick.at64 (z := (i + 1 : Nat)) (by simp) (by omega) ?_
      ((conv => whnf); repeat ((first | refine B0 ?_ | refine B1 ?_ | refine D1 ?_ | refine D2 ?_ | refine CallC.r ?_); conv => whnf))
      refine ih (i + 1) ⟨by omega, fun j h1 h6 => ?_⟩ (by omega)
      by_cases hj : j < i
      · exact h3 j h1 hj
      · obtain rfl : j = i := by omega
        simp at h5 ⊢
        exact fun e => h5 e.symm
  · simp at h
    have : (xs.any fun x => v == x) = false := by
      rw [List.any_eq_false]
      intro x hx
      obtain ⟨j, hj, rfl⟩ := List.getElem_of_mem hx
      rw [h3 j hj (by omega)]; simp
    exact ResOK.same (by rw [this])

/-- A vector of the kernel, as far as the first 'n' pivots. -/
def kerV (p : Int) (s : ES) (w c n : Nat) : List Int := (List.range n).foldl (fun x i => x.set (s.pv.getD i 0) ((0 - s.f i c) % p)) ((List.replicate w 0).set c 1)
theorem kerV_succ (p : Int) (s : ES) (w c n : Nat) : kerV p s w c (n + 1) = (kerV p s w c n).set (s.pv.getD n 0) ((0 - s.f n c) % p) := by
  simp only [kerV, List.range_succ, List.foldl_append, List.foldl_cons, List.foldl_nil]
theorem kerV_len (p : Int) (s : ES) (w c : Nat) : ∀ n, (kerV p s w c n).length = w
  | 0 => by simp [kerV]
  | n + 1 => by rw [kerV_succ, List.length_set, kerV_len p s w c n]
def kerUp (p : Int) (s : ES) (w : Nat) : Nat → List (List Int)
  | 0 => []
  | n + 1 => if s.pv.contains n then kerUp p s w n else kerUp p s w n ++ [kerV p s w n s.pv.length]
theorem kerUp_len (p : Int) (s : ES) (w : Nat) : ∀ n, (kerUp p s w n).length ≤ n
  | 0 => Nat.le_refl _
  | n + 1 => by
    have := kerUp_len p s w n
    rw [kerUp]; split
    · omega
    · simp; omega
theorem any_nat (c : Nat) : ∀ l : List Nat, (l.any fun x => (c : Int) == (x : Int)) = l.contains c
  | [] => rfl
  | a :: l => by
    rw [List.any_cons, List.contains_cons, any_nat c l]
    congr 1
    rw [Bool.eq_iff_iff, beq_iff_eq, beq_iff_eq]
    omega
theorem has_pv (s : ES) (c : Nat) : ((pvI s).any fun x => (c : Int) == x) = s.pv.contains c := by
  rw [pvI, List.any_map]; exact any_nat c s.pv

theorem rows_tab {m : Matrix} {r w : Nat} (ok : MatOK m r w) : rowsL m = tab r w (cellAt m) := by
  refine List.ext_getElem? fun i => ?_
  by_cases hi : i < r
  · rw [tab_get hi, rowsL, ok.rn, List.getElem?_map, List.getElem?_range hi]
    simp only [Option.map_some]
    congr 1
    refine List.ext_getElem? fun j => ?_
    by_cases hj : j < w
    · have h1 := ok.rowGet hi hj
      have hl := ok.rowLen hi
      rw [List.getD_eq_getElem?_getD, List.getElem?_eq_getElem (by omega), Option.getD_some] at h1
      rw [List.getElem?_eq_getElem (by omega), h1]; simp [hj]
    · rw [List.getElem?_eq_none (by rw [ok.rowLen hi]; omega), List.getElem?_eq_none (by simp; omega)]
  · rw [List.getElem?_eq_none (by simp [rowsL, ok.rn]; omega), List.getElem?_eq_none (by rw [tab_len]; omega)]

end Go.Proofs.Ytnmoeeneofopcaa.Pi
