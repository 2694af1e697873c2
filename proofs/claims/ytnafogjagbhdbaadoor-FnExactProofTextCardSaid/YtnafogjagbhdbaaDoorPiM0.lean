/- The texts that the laws write. No statement of the seat is proved here. -/
import Derived.Test.YtnafogjagbhdbaaDoorPiEnc
namespace Go.Proofs.YtnafogjagbhdbaaDoor.Pi
open Go
set_option maxRecDepth 10000
set_option linter.unusedVariables false

/-- The decimal digits, ahead of what is there. -/
def dg (n : Nat) (out : ByteArray) : ByteArray := if h : n = 0 then out else dg (n / 10) (⟨#[UInt8.ofNat (48 + n % 10)]⟩ ++ out)
termination_by n
decreasing_by omega
def tx (k : Int) : ByteArray := if k ≤ 0 then ⟨#[109, 48]⟩ else ⟨#[109]⟩ ++ dg k.toNat ⟨#[]⟩

theorem dg_zero (out : ByteArray) : dg 0 out = out := by unfold dg; simp
theorem dg_step (n : Nat) (h : n ≠ 0) (out : ByteArray) : dg n out = dg (n / 10) (⟨#[UInt8.ofNat (48 + n % 10)]⟩ ++ out) := by rw [dg]; simp [h]

end Go.Proofs.YtnafogjagbhdbaaDoor.Pi
