/- ValidState, the reference and the program. No statement of the seat is proved here. -/
import Derived.Test.YtnmoeeneofopcaaGreatPiFName
namespace Go.Proofs.YtnmoeeneofopcaaGreat.Pi
open Go
set_option maxRecDepth 10000
set_option linter.unusedVariables false

def less (a b : ByteArray) : Bool := Op.bytesLess a.toList b.toList
theorem bytesLess_total : ∀ (x y : List UInt8), (!(Op.bytesLess x y)) = (Op.bytesLess y x || y == x)
  | [], [] => rfl
  | _ :: _, [] => by simp [Op.bytesLess]
  | [], _ :: _ => by simp [Op.bytesLess]
  | a :: x, b :: y => by
    have ih := bytesLess_total x y
    simp only [Op.bytesLess, List.cons_beq_cons]
    by_cases h1 : a < b
    · have h2 : ¬ b < a := fun h => by have := UInt8.lt_iff_toNat_lt.1 h1; have := UInt8.lt_iff_toNat_lt.1 h; omega
      have h3 : ¬ b = a := fun h => by subst h; exact h2 h1
      simp [h1, h2, h3]
    · by_cases h2 : b < a
      · have h3 : ¬ a = b := fun h => by subst h; exact h1 h2
        simp [h1, h2, h3]
      · have h3 : a = b := by
          have := mt UInt8.lt_iff_toNat_lt.2 h1
          have := mt UInt8.lt_iff_toNat_lt.2 h2
          exact UInt8.toNat_inj.1 (by omega)
        subst h3
        simp [h1, ih]

def okSetting (x : Setting) : Bool := isName x.name && (decide (0 ≤ x.value) && decide (x.value ≤ 1000))
def okStep (xs : List Setting) (i : Nat) (x : Setting) : Bool := okSetting x && (decide (i = 0) || match xs[i - 1]? with | some y => less y.name x.name | none => true)
def okState (xs : List Setting) : Bool := allIx (okStep xs) 0 xs && decide (xs.length ≤ 24)

--[ spec.ValidState
--]
end Go.Proofs.YtnmoeeneofopcaaGreat.Pi
