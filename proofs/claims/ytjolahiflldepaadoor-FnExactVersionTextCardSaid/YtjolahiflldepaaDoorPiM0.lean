/- The texts that the laws write. No statement of the seat is proved here. -/
import Derived.Test.YtjolahiflldepaaDoorPiEnc
namespace Go.Proofs.YtjolahiflldepaaDoor.Pi
open Go
set_option maxRecDepth 10000
set_option linter.unusedVariables false

/-- The decimal digits, ahead of what is there. -/
def dg (n : Nat) (out : ByteArray) : ByteArray := if h : n = 0 then out else dg (n / 10) (⟨#[UInt8.ofNat (48 + n % 10)]⟩ ++ out)
termination_by n
decreasing_by omega
def tx (k : Int) : ByteArray := if k ≤ 0 then ⟨#[109, 48]⟩ else ⟨#[109]⟩ ++ dg k.toNat ⟨#[]⟩

theorem dg_zero (out : ByteArray) : dg 0 out = out := by unfold dg; simp
theorem dg_step (n : Nat) (h : n ≠ 0) (out : ByteArray) : dg n out = dg (n / 10) (⟨#[UInt8.ofNat (48 + n % 10)]⟩ ++ out) := by rw [dg]; simp [h]

theorem s_markText (k : Int) (h1 : k ≤ 1099511627776) : Sat Tryd.prog 50 [(false, [.int .i64 k])] (.one (.c (.str (tx k))), []) := by
  refine Sat.intro tok mixed Tryd.func50 rfl rfl ?_
  ((conv => whnf); repeat ((first | refine B0 ?_ | refine B1 ?_ | refine D1 ?_ | refine D2 ?_ | refine CallC.r ?_); conv => whnf))
  refine Br.mk (fun h => ?_) (fun h => ?_) <;> ((conv => whnf); repeat ((first | refine B0 ?_ | refine B1 ?_ | refine D1 ?_ | refine D2 ?_ | refine CallC.r ?_); conv => whnf))
  · simp at h
    exact ResOK.same (by simp [tx, h])
  · simp at h
    refine Pick.mk [0, 3] trivial ?_
    ((conv => whnf); repeat ((first | refine B0 ?_ | refine B1 ?_ | refine D1 ?_ | refine D2 ?_ | refine CallC.r ?_); conv => whnf))
    refine LoopL.run (fun p : Nat × ByteArray => St.mk [.one (.c (.int .i64 (p.1 : Int))), .one .dead, .one .dead, .one (.c (.str p.2)), .one .dead, .one .dead, .one .dead, .one .dead, .one .dead, .one .dead, .one .dead, .one .dead, .one .dead, .one .dead, .one .dead, .one .dead, .one .dead, .one .dead, .one .dead, .one .dead] []) (fun p => p.1) (fun p => p.1 ≤ 1099511627776 ∧ p.1 + p.2.size ≤ 1099511627776 ∧ dg p.1 p.2 = dg k.toNat ⟨#[]⟩) ?_ (k.toNat, ⟨#[]⟩) ⟨by simp only []; omega, by simp only []; have : (⟨#[]⟩ : ByteArray).size = 0 := rfl; omega, rfl⟩ (by simp only []; rw [show ((k.toNat : Nat) : Int) = k by omega])
    intro ⟨n, out⟩ ⟨h2, h3, h4⟩ ih
    simp only at h2 h3 h4
    ((conv => whnf); repeat ((first | refine B0 ?_ | refine B1 ?_ | refine D1 ?_ | refine D2 ?_ | refine CallC.r ?_); conv => whnf))
    refine Br.mk (fun h5 => ?_) (fun h5 => ?_) <;> ((conv => whnf); repeat ((first | refine B0 ?_ | refine B1 ?_ | refine D1 ?_ | refine D2 ?_ | refine CallC.r ?_); conv => whnf))
    · simp at h5
      refine Side.mk (by omega) ?_
      ((conv => whnf); repeat ((first | refine B0 ?_ | refine B1 ?_ | refine D1 ?_ | refine D2 ?_ | refine CallC.r ?_); conv => whnf))
      refine Pick.at64 (z := ((48 + n % 10 : Nat) : Int)) (by rw [Int.tmod_eq_emod_of_nonneg (by omega)]; omega) (by omega) ?_
      ((conv => whnf); repeat ((first | refine B0 ?_ | refine B1 ?_ | refine D1 ?_ | refine D2 ?_ | refine CallC.r ?_); conv => whnf))
      refine Pick.mk (((48 + n % 10 : Nat)) : Int) (by show IntKind.wrap .u8 _ = _; simp only [IntKind.wrap]; simp [IntKind.bits, IntKind.signed]; omega) ?_
      ((conv => whnf); repeat ((first | refine B0 ?_ | refine B1 ?_ | refine D1 ?_ | refine D2 ?_ | refine CallC.r ?_); conv => whnf))
      refine Pick.mk (⟨#[UInt8.ofNat (48 + n % 10)]⟩ : ByteArray) (by
        show bytesRows _ = _
        have : (UInt8.ofNat (48 + n % 10)).toNat = 48 + n % 10 := by simp; omega
        simp only [bytesRows, ByteArray.toList_eq, List.map_cons, List.map_nil, this]) ?_
      ((conv => whnf); repeat ((first | refine B0 ?_ | refine B1 ?_ | refine D1 ?_ | refine D2 ?_ | refine CallC.r ?_); conv => whnf))
      have hs : (⟨#[UInt8.ofNat (48 + n % 10)]⟩ : ByteArray).size = 1 := rfl
      refine Side.mk (by rw [hs]; show ((1 + out.size : Nat) : Int) ≤ 9223372036854775807; omega) ?_
      ((conv => whnf); repeat ((first | refine B0 ?_ | refine B1 ?_ | refine D1 ?_ | refine D2 ?_ | refine CallC.r ?_); conv => whnf))
      refine Side.mk (by omega) ?_
      ((conv => whnf); repeat ((first | refine B0 ?_ | refine B1 ?_ | refine D1 ?_ | refine D2 ?_ | refine CallC.r ?_); conv => whnf))
      refine Pick.at64 (z := ((n / 10 : Nat) : Int)) (by rw [Int.tdiv_eq_ediv_of_nonneg (by omega)]; omega) (by omega) ?_
      ((conv => whnf); repeat ((first | refine B0 ?_ | refine B1 ?_ | refine D1 ?_ | refine D2 ?_ | refine CallC.r ?_); conv => whnf))
      refine ih (n / 10, ⟨#[UInt8.ofNat (48 + n % 10)]⟩ ++ out) ⟨by simp only []; omega, ?_, ?_⟩ (by simp only []; omega)
      · show n / 10 + ((⟨#[UInt8.ofNat (48 + n % 10)]⟩ : ByteArray) ++ out).size ≤ _
        rw [ByteArray.size_append, hs]; omega
      · show dg (n / 10) _ = _
        rw [← dg_step n (by omega)]; exact h4
    · simp at h5
      obtain rfl : n = 0 := by omega
      rw [dg_zero] at h4
      refine Side.mk (by show (((⟨#[109]⟩ : ByteArray).size + out.size : Nat) : Int) ≤ 9223372036854775807; have : (⟨#[109]⟩ : ByteArray).size = 1 := rfl; omega) ?_
      ((conv => whnf); repeat ((first | refine B0 ?_ | refine B1 ?_ | refine D1 ?_ | refine D2 ?_ | refine CallC.r ?_); conv => whnf))
      refine ResOK.same ?_
      rw [h4]
      simp only [tx]
      rw [if_neg (by omega)]

end Go.Proofs.YtjolahiflldepaaDoor.Pi
