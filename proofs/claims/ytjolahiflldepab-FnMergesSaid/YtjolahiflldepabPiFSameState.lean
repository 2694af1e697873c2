/- SameState, the reference and the program. No statement of the seat is proved here. -/
import Derived.Test.YtjolahiflldepabPiFSameDef
namespace Go.Proofs.Ytjolahiflldepab.Pi
open Go
set_option maxRecDepth 10000
set_option linter.unusedVariables false

theorem s_l27Same (xs ys : List Setting) (hb : xs.length ≤ maxLen) : Sat Try.prog 69 [(false, Enc.enc xs), (false, Enc.enc ys)] (.one (.c (.bool (sameBy sameSetting xs ys))), []) := by
  simp only [maxLen] at hb
  have hl : (xs.map (Enc.enc (α := Setting))).length = xs.length := by simp
  refine Sat.intro tok mixed Try.func69 rfl rfl ?_
  ((conv => whnf); repeat ((first | refine B0 ?_ | refine B1 ?_ | refine D1 ?_ | refine D2 ?_ | refine CallC.r ?_); conv => whnf))
  refine Br.mk (fun h => ?_) (fun h => ?_) <;> ((conv => whnf); repeat ((first | refine B0 ?_ | refine B1 ?_ | refine D1 ?_ | refine D2 ?_ | refine CallC.r ?_); conv => whnf))
  · simp at h
    exact ResOK.same (by rw [sameBy_len (by omega)])
  simp at h
  refine Pick.mk [0, 1, 5] trivial ?_
  ((conv => whnf); repeat ((first | refine B0 ?_ | refine B1 ?_ | refine D1 ?_ | refine D2 ?_ | refine CallC.r ?_); conv => whnf))
  refine LoopL.run (fun i : Nat => St.mk [.one (.c (.slice 2 (xs.map Enc.enc))), .one (.c (.slice 2 (ys.map Enc.enc))), .one .dead, .one .dead, .one .dead, .one (.c (.int .i64 i)), .one .dead, .one .dead, .one .dead, .one .dead, .one .dead, .one .dead, .one .dead, .one .dead, .one .dead, .one .dead, .one .dead, .one .dead, .one .dead, .one .dead, .one .dead, .one .dead, .one .dead, .one .dead, .one .dead, .one .dead] []) (fun i => xs.length - i) (fun i => i ≤ xs.length ∧ ∀ (j : Nat) (h1 : j < xs.length) (h2 : j < ys.length), j < i → sameSetting xs[j] ys[j] = true) ?_ 0 ⟨Nat.zero_le _, by intros; omega⟩
  intro i ⟨h2, h3⟩ ih
  ((conv => whnf); repeat ((first | refine B0 ?_ | refine B1 ?_ | refine D1 ?_ | refine D2 ?_ | refine CallC.r ?_); conv => whnf))
  refine Br.mk (fun h => ?_) (fun h => ?_) <;> ((conv => whnf); repeat ((first | refine B0 ?_ | refine B1 ?_ | refine D1 ?_ | refine D2 ?_ | refine CallC.r ?_); conv => whnf))
  · simp at h
    have h2y : i < ys.length := by omega
    have no : sameSetting xs[i] ys[i] = false → sameBy sameSetting xs ys = false := fun e => sameBy_no i h h2y e
    have next : sameSetting xs[i] ys[i] = true → ∀ (j : Nat) (h1 : j < xs.length) (h2 : j < ys.length), j < i + 1 → sameSetting xs[j] ys[j] = true := fun e j h1 h2 h6 => by
      by_cases hj : j < i
      · exact h3 j h1 h2 hj
      · obtain rfl : j = i := by omega
        exact e
    refine Pick.ix h ?_
    ((conv => whnf); repeat ((first | refine B0 ?_ | refine B1 ?_ | refine D1 ?_ | refine D2 ?_ | refine CallC.r ?_); conv => whnf))
    refine Pick.ix h2y ?_
    ((conv => whnf); repeat ((first | refine B0 ?_ | refine B1 ?_ | refine D1 ?_ | refine D2 ?_ | refine CallC.r ?_); conv => whnf))
    refine Br.mk (fun h5 => ?_) (fun h5 => ?_) <;> ((conv => whnf); repeat ((first | refine B0 ?_ | refine B1 ?_ | refine D1 ?_ | refine D2 ?_ | refine CallC.r ?_); conv => whnf))
    · have h5 : (!sameSetting xs[i] ys[i]) = true := h5
      exact ResOK.same (by rw [no (by simpa using h5)])
    · have h5 : (!sameSetting xs[i] ys[i]) = false := h5
      refine Pick.at64 (z := (i + 1 : Nat)) (by simp) (by omega) ?_
      ((conv => whnf); repeat ((first | refine B0 ?_ | refine B1 ?_ | refine D1 ?_ | refine D2 ?_ | refine CallC.r ?_); conv => whnf))
      exact ih (i + 1) ⟨by omega, next (by simpa using h5)⟩ (by omega)
  · simp at h
    exact ResOK.same (by rw [sameBy_yes (by omega) fun j h1 h2 => h3 j h1 h2 (by omega)])

theorem s_spec_SameState (xs ys : List Setting) (hb : xs.length ≤ maxLen) : Sat Try.prog 30 [(false, Enc.enc xs), (false, Enc.enc ys)] (.one (.c (.bool (sameBy sameSetting xs ys))), []) := by
  refine Sat.intro tok mixed Try.func30 rfl rfl ?_
  ((conv => whnf); repeat ((first | refine B0 ?_ | refine B1 ?_ | refine D1 ?_ | refine D2 ?_ | refine CallC.r ?_); conv => whnf))
  refine Pick.mk _ (s_l27Same xs ys hb) ?_
  ((conv => whnf); repeat ((first | refine B0 ?_ | refine B1 ?_ | refine D1 ?_ | refine D2 ?_ | refine CallC.r ?_); conv => whnf))
  exact ResOK.same rfl
end Go.Proofs.Ytjolahiflldepab.Pi
