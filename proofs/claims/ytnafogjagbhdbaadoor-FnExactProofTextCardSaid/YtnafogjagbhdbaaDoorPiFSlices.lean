/- Some functions of package slices, at some element types. No statement of the seat is proved here. -/
import Derived.Test.YtnafogjagbhdbaaDoorPiEnc
namespace Go.Proofs.YtnafogjagbhdbaaDoor.Pi
open Go
set_option maxRecDepth 10000
set_option linter.unusedVariables false

theorem s_IndexFuncInt64 (xs : List (Int)) (g : Nat) (caps : List CV) (p : Int → Bool) (hb : xs.length ≤ maxLen) (hp : ∀ x ∈ xs, Sat Tryd.prog g ((false, Enc.enc x) :: caps.map fun y => (false, [y])) (.one (.c (.bool (p x))), [])) :
    Sat Tryd.prog 60 [(false, Enc.enc xs), (false, [.fn g caps])] (.one (.c (.int .i64 (firstIx p xs 0))), []) := by
  simp only [maxLen] at hb
  have hl : (xs.map (Enc.enc (α := (Int)))).length = xs.length := by simp
  refine Sat.intro tok mixed Tryd.func60 rfl rfl ?_
  ((conv => whnf); repeat ((first | refine B0 ?_ | refine B1 ?_ | refine D1 ?_ | refine D2 ?_ | refine CallC.r ?_); conv => whnf))
  refine Pick.mk [0, 1, 7, 8] trivial ?_
  ((conv => whnf); repeat ((first | refine B0 ?_ | refine B1 ?_ | refine D1 ?_ | refine D2 ?_ | refine CallC.r ?_); conv => whnf))
  refine LoopL.run (fun i : Nat => St.mk [.one (.c (.slice 1 (xs.map Enc.enc))), .one (.c (.fn g caps)), .one .dead, .one .dead, .one .dead, .one .dead, .one .dead, .one (.c (.int .i64 (xs.map (Enc.enc (α := (Int)))).length)), .one (.c (.int .i64 i)), .one .dead, .one .dead, .one .dead, .one .dead, .one .dead, .one .dead, .one .dead, .one .dead, .one .dead, .one .dead] []) (fun i => xs.length - i) (fun i => i ≤ xs.length ∧ ∀ (j : Nat) (h : j < xs.length), j < i → p xs[j] = false) ?_ 0 ⟨Nat.zero_le _, by intros; omega⟩
  intro i ⟨h2, h3⟩ ih
  ((conv => whnf); repeat ((first | refine B0 ?_ | refine B1 ?_ | refine D1 ?_ | refine D2 ?_ | refine CallC.r ?_); conv => whnf))
  refine Br.mk (fun h => ?_) (fun h => ?_) <;> ((conv => whnf); repeat ((first | refine B0 ?_ | refine B1 ?_ | refine D1 ?_ | refine D2 ?_ | refine CallC.r ?_); conv => whnf))
  · simp at h
    refine Pick.ix h ?_
    ((conv => whnf); repeat ((first | refine B0 ?_ | refine B1 ?_ | refine D1 ?_ | refine D2 ?_ | refine CallC.r ?_); conv => whnf))
    refine Pick.mk _ (hp xs[i] (List.getElem_mem h)) ?_
    ((conv => whnf); repeat ((first | refine B0 ?_ | refine B1 ?_ | refine D1 ?_ | refine D2 ?_ | refine CallC.r ?_); conv => whnf))
    refine Br.mk (fun h5 => ?_) (fun h5 => ?_) <;> ((conv => whnf); repeat ((first | refine B0 ?_ | refine B1 ?_ | refine D1 ?_ | refine D2 ?_ | refine CallC.r ?_); conv => whnf))
    · exact ResOK.same (by rw [firstIx_at h h5 h3, Nat.zero_add])
    · refine Pick.at64 (z := (i + 1 : Nat)) (by simp) (by omega) ?_
      ((conv => whnf); repeat ((first | refine B0 ?_ | refine B1 ?_ | refine D1 ?_ | refine D2 ?_ | refine CallC.r ?_); conv => whnf))
      refine ih (i + 1) ⟨by omega, fun j h1 h6 => ?_⟩ (by omega)
      by_cases hj : j < i
      · exact h3 j h1 hj
      · obtain rfl : j = i := by omega
        exact h5
  · simp at h
    exact ResOK.same (by rw [firstIx_none fun j h1 => h3 j h1 (by omega)])

theorem s_ContainsFuncInt64 (xs : List (Int)) (g : Nat) (caps : List CV) (p : Int → Bool) (hb : xs.length ≤ maxLen) (hp : ∀ x ∈ xs, Sat Tryd.prog g ((false, Enc.enc x) :: caps.map fun y => (false, [y])) (.one (.c (.bool (p x))), [])) :
    Sat Tryd.prog 36 [(false, Enc.enc xs), (false, [.fn g caps])] (.one (.c (.bool (xs.any p))), []) := by
  refine Sat.intro tok mixed Tryd.func36 rfl rfl ?_
  ((conv => whnf); repeat ((first | refine B0 ?_ | refine B1 ?_ | refine D1 ?_ | refine D2 ?_ | refine CallC.r ?_); conv => whnf))
  refine Pick.mk _ (s_IndexFuncInt64 xs g caps p hb hp) ?_
  ((conv => whnf); repeat ((first | refine B0 ?_ | refine B1 ?_ | refine D1 ?_ | refine D2 ?_ | refine CallC.r ?_); conv => whnf))
  exact ResOK.same (by rw [firstIx_any])








theorem s_IndexFuncInt64S (xs : List (List Int)) (g : Nat) (caps : List CV) (p : List Int → Bool) (hb : xs.length ≤ maxLen) (hp : ∀ x ∈ xs, Sat Tryd.prog g ((false, Enc.enc x) :: caps.map fun y => (false, [y])) (.one (.c (.bool (p x))), [])) :
    Sat Tryd.prog 72 [(false, Enc.enc xs), (false, [.fn g caps])] (.one (.c (.int .i64 (firstIx p xs 0))), []) := by
  simp only [maxLen] at hb
  have hl : (xs.map (Enc.enc (α := (List Int)))).length = xs.length := by simp
  refine Sat.intro tok mixed Tryd.func72 rfl rfl ?_
  ((conv => whnf); repeat ((first | refine B0 ?_ | refine B1 ?_ | refine D1 ?_ | refine D2 ?_ | refine CallC.r ?_); conv => whnf))
  refine Pick.mk [0, 1, 7, 8] trivial ?_
  ((conv => whnf); repeat ((first | refine B0 ?_ | refine B1 ?_ | refine D1 ?_ | refine D2 ?_ | refine CallC.r ?_); conv => whnf))
  refine LoopL.run (fun i : Nat => St.mk [.one (.c (.slice 1 (xs.map Enc.enc))), .one (.c (.fn g caps)), .one .dead, .one .dead, .one .dead, .one .dead, .one .dead, .one (.c (.int .i64 (xs.map (Enc.enc (α := (List Int)))).length)), .one (.c (.int .i64 i)), .one .dead, .one .dead, .one .dead, .one .dead, .one .dead, .one .dead, .one .dead, .one .dead, .one .dead, .one .dead] []) (fun i => xs.length - i) (fun i => i ≤ xs.length ∧ ∀ (j : Nat) (h : j < xs.length), j < i → p xs[j] = false) ?_ 0 ⟨Nat.zero_le _, by intros; omega⟩
  intro i ⟨h2, h3⟩ ih
  ((conv => whnf); repeat ((first | refine B0 ?_ | refine B1 ?_ | refine D1 ?_ | refine D2 ?_ | refine CallC.r ?_); conv => whnf))
  refine Br.mk (fun h => ?_) (fun h => ?_) <;> ((conv => whnf); repeat ((first | refine B0 ?_ | refine B1 ?_ | refine D1 ?_ | refine D2 ?_ | refine CallC.r ?_); conv => whnf))
  · simp at h
    refine Pick.ix h ?_
    ((conv => whnf); repeat ((first | refine B0 ?_ | refine B1 ?_ | refine D1 ?_ | refine D2 ?_ | refine CallC.r ?_); conv => whnf))
    refine Pick.mk _ (hp xs[i] (List.getElem_mem h)) ?_
    ((conv => whnf); repeat ((first | refine B0 ?_ | refine B1 ?_ | refine D1 ?_ | refine D2 ?_ | refine CallC.r ?_); conv => whnf))
    refine Br.mk (fun h5 => ?_) (fun h5 => ?_) <;> ((conv => whnf); repeat ((first | refine B0 ?_ | refine B1 ?_ | refine D1 ?_ | refine D2 ?_ | refine CallC.r ?_); conv => whnf))
    · exact ResOK.same (by rw [firstIx_at h h5 h3, Nat.zero_add])
    · refine Pick.at64 (z := (i + 1 : Nat)) (by simp) (by omega) ?_
      ((conv => whnf); repeat ((first | refine B0 ?_ | refine B1 ?_ | refine D1 ?_ | refine D2 ?_ | refine CallC.r ?_); conv => whnf))
      refine ih (i + 1) ⟨by omega, fun j h1 h6 => ?_⟩ (by omega)
      by_cases hj : j < i
      · exact h3 j h1 hj
      · obtain rfl : j = i := by omega
        exact h5
  · simp at h
    exact ResOK.same (by rw [firstIx_none fun j h1 => h3 j h1 (by omega)])

theorem s_ContainsFuncInt64S (xs : List (List Int)) (g : Nat) (caps : List CV) (p : List Int → Bool) (hb : xs.length ≤ maxLen) (hp : ∀ x ∈ xs, Sat Tryd.prog g ((false, Enc.enc x) :: caps.map fun y => (false, [y])) (.one (.c (.bool (p x))), [])) :
    Sat Tryd.prog 66 [(false, Enc.enc xs), (false, [.fn g caps])] (.one (.c (.bool (xs.any p))), []) := by
  refine Sat.intro tok mixed Tryd.func66 rfl rfl ?_
  ((conv => whnf); repeat ((first | refine B0 ?_ | refine B1 ?_ | refine D1 ?_ | refine D2 ?_ | refine CallC.r ?_); conv => whnf))
  refine Pick.mk _ (s_IndexFuncInt64S xs g caps p hb hp) ?_
  ((conv => whnf); repeat ((first | refine B0 ?_ | refine B1 ?_ | refine D1 ?_ | refine D2 ?_ | refine CallC.r ?_); conv => whnf))
  exact ResOK.same (by rw [firstIx_any])


end Go.Proofs.YtnafogjagbhdbaaDoor.Pi
