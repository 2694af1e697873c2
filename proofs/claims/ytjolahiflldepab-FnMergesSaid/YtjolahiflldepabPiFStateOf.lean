/- The state of a version, the reference and the program. No statement of the seat is proved here. -/
import Derived.Test.YtjolahiflldepabPiFCommit
import Derived.Test.YtjolahiflldepabPiFLine
namespace Go.Proofs.Ytjolahiflldepab.Pi
open Go
set_option maxRecDepth 10000
set_option maxHeartbeats 1600000
set_option linter.unusedVariables false

def stV (xs : List Version) (p : Int) : List Setting := if p = 0 then [] else match xs[(p - 1).toNat]? with | some v => v.state | none => []
theorem s_stateOf (xs : List Version) (p : Int) (h32 : xs.length ≤ 32) (h0 : 0 ≤ p) (h1 : p ≤ xs.length) : Sat Try.prog 62 [(false, Enc.enc xs), (false, [.int .i64 p])] (.one (.c (.slice 2 ((stV xs p).map Enc.enc))), []) := by
  refine Sat.intro tok mixed Try.func62 rfl rfl ?_
  ((conv => whnf); repeat ((first | refine B0 ?_ | refine B1 ?_ | refine D1 ?_ | refine D2 ?_ | refine CallC.r ?_); conv => whnf))
  refine Br.mk (fun h => ?_) (fun h => ?_) <;> ((conv => whnf); repeat ((first | refine B0 ?_ | refine B1 ?_ | refine D1 ?_ | refine D2 ?_ | refine CallC.r ?_); conv => whnf))
  · simp at h
    subst h
    exact ResOK.frz rfl rfl
  · simp at h
    have hix : (p - 1).toNat < xs.length := by omega
    refine Pick.at64 (z := p - 1) rfl (by omega) ?_
    ((conv => whnf); repeat ((first | refine B0 ?_ | refine B1 ?_ | refine D1 ?_ | refine D2 ?_ | refine CallC.r ?_); conv => whnf))
    refine Pick.mk (Enc.enc xs[(p - 1).toNat]) ⟨by omega, by rw [List.getElem?_map, List.getElem?_eq_getElem hix]; rfl⟩ ?_
    ((conv => whnf); repeat ((first | refine B0 ?_ | refine B1 ?_ | refine D1 ?_ | refine D2 ?_ | refine CallC.r ?_); conv => whnf))
    exact ResOK.same (by rw [stV, if_neg h, List.getElem?_eq_getElem hix])
theorem s_l27StateOf (xs : List Version) (p : Int) (h32 : xs.length ≤ 32) (h0 : 0 ≤ p) (h1 : p ≤ xs.length) : Sat Try.prog 56 [(false, Enc.enc xs), (false, [.int .i64 p])] (.one (.c (.slice 2 ((stV xs p).map Enc.enc))), []) := by
  refine Sat.intro tok mixed Try.func56 rfl rfl ?_
  ((conv => whnf); repeat ((first | refine B0 ?_ | refine B1 ?_ | refine D1 ?_ | refine D2 ?_ | refine CallC.r ?_); conv => whnf))
  refine Br.mk (fun h => ?_) (fun h => ?_) <;> ((conv => whnf); repeat ((first | refine B0 ?_ | refine B1 ?_ | refine D1 ?_ | refine D2 ?_ | refine CallC.r ?_); conv => whnf))
  · simp at h
    subst h
    exact ResOK.frz rfl rfl
  · simp at h
    have hix : (p - 1).toNat < xs.length := by omega
    refine Pick.at64 (z := p - 1) rfl (by omega) ?_
    ((conv => whnf); repeat ((first | refine B0 ?_ | refine B1 ?_ | refine D1 ?_ | refine D2 ?_ | refine CallC.r ?_); conv => whnf))
    refine Pick.mk (Enc.enc xs[(p - 1).toNat]) ⟨by omega, by rw [List.getElem?_map, List.getElem?_eq_getElem hix]; rfl⟩ ?_
    ((conv => whnf); repeat ((first | refine B0 ?_ | refine B1 ?_ | refine D1 ?_ | refine D2 ?_ | refine CallC.r ?_); conv => whnf))
    exact ResOK.same (by rw [stV, if_neg h, List.getElem?_eq_getElem hix])

theorem stV_len {xs : List Version} (hb : Enc.wt xs ≤ 1048576) (p : Int) : (stV xs p).length ≤ 1048576 := by
  unfold stV
  split
  · simp
  · split
    · rename_i v hv
      obtain ⟨hi, rfl⟩ := List.getElem?_eq_some_iff.1 hv
      have hw := wt_get xs _ hi
      have hw2 : Enc.wt xs[(p - 1).toNat] = Enc.wt xs[(p - 1).toNat].number + Enc.wt xs[(p - 1).toNat].parent + Enc.wt xs[(p - 1).toNat].memo + Enc.wt xs[(p - 1).toNat].state := rfl
      have hw3 := lenwt_list xs[(p - 1).toNat].state
      omega
    · simp
end Go.Proofs.Ytjolahiflldepab.Pi
