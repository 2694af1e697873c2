/- The table of the types is the program's. No statement of the seat is proved here. -/
import Derived.Test.YtjolahiflldepaaDoorPiE
import Derived.Test.YtjolahiflldepaaDoorPiTT
import Derived.Test.YtjolahiflldepaaDoorChecked
import Derived.KernelRfl
namespace Go.Proofs.YtjolahiflldepaaDoor.Pi
open Go
theorem node {P : Program} {t : Nat} {b : Bool} {A B : TI} (ha : tiOk P t A = true) (hb : tiOk P t B = true) : tiOk P t (match b with | true => A | false => B) = true := by cases b <;> assumption
theorem leaf {P : Program} {t k : Nat} {A : TI} (h : tiOk P k A = true) : tiOk P t (match Nat.beq t k with | true => A | false => tid) = true := by
  cases hb : Nat.beq t k with
  | true => rw [beq_iff.1 hb]; exact h
  | false => rfl
theorem ok2 : tiOk Tryd.prog 2 ti2 = true := by kernel_rfl
theorem ok3 : tiOk Tryd.prog 3 ti3 = true := by kernel_rfl
theorem ok4 : tiOk Tryd.prog 4 ti4 = true := by kernel_rfl
theorem ok5 : tiOk Tryd.prog 5 ti5 = true := by kernel_rfl
theorem ok7 : tiOk Tryd.prog 7 ti7 = true := by kernel_rfl
theorem ok9 : tiOk Tryd.prog 9 ti9 = true := by kernel_rfl
theorem ok12 : tiOk Tryd.prog 12 ti12 = true := by kernel_rfl
theorem ok18 : tiOk Tryd.prog 18 ti18 = true := by kernel_rfl
theorem ok20 : tiOk Tryd.prog 20 ti20 = true := by kernel_rfl
theorem ok21 : tiOk Tryd.prog 21 ti21 = true := by kernel_rfl
theorem ok22 : tiOk Tryd.prog 22 ti22 = true := by kernel_rfl
theorem ok23 : tiOk Tryd.prog 23 ti23 = true := by kernel_rfl
theorem ok24 : tiOk Tryd.prog 24 ti24 = true := by kernel_rfl
theorem ok27 : tiOk Tryd.prog 27 ti27 = true := by kernel_rfl
theorem ok28 : tiOk Tryd.prog 28 ti28 = true := by kernel_rfl
theorem ok29 : tiOk Tryd.prog 29 ti29 = true := by kernel_rfl
theorem ok33 : tiOk Tryd.prog 33 ti33 = true := by kernel_rfl
theorem ok36 : tiOk Tryd.prog 36 ti36 = true := by kernel_rfl
theorem ok40 : tiOk Tryd.prog 40 ti40 = true := by kernel_rfl
theorem ok42 : tiOk Tryd.prog 42 ti42 = true := by kernel_rfl
theorem ok54 : tiOk Tryd.prog 54 ti54 = true := by kernel_rfl
theorem ok55 : tiOk Tryd.prog 55 ti55 = true := by kernel_rfl
theorem ok57 : tiOk Tryd.prog 57 ti57 = true := by kernel_rfl
theorem ok58 : tiOk Tryd.prog 58 ti58 = true := by kernel_rfl
theorem ok59 : tiOk Tryd.prog 59 ti59 = true := by kernel_rfl
theorem ok60 : tiOk Tryd.prog 60 ti60 = true := by kernel_rfl
theorem ok61 : tiOk Tryd.prog 61 ti61 = true := by kernel_rfl
theorem ok62 : tiOk Tryd.prog 62 ti62 = true := by kernel_rfl
theorem ok68 : tiOk Tryd.prog 68 ti68 = true := by kernel_rfl
theorem ok69 : tiOk Tryd.prog 69 ti69 = true := by kernel_rfl
theorem ok70 : tiOk Tryd.prog 70 ti70 = true := by kernel_rfl
theorem ok72 : tiOk Tryd.prog 72 ti72 = true := by kernel_rfl
theorem ok84 : tiOk Tryd.prog 84 ti84 = true := by kernel_rfl
theorem ok86 : tiOk Tryd.prog 86 ti86 = true := by kernel_rfl
theorem ok92 : tiOk Tryd.prog 92 ti92 = true := by kernel_rfl
theorem ok95 : tiOk Tryd.prog 95 ti95 = true := by kernel_rfl
theorem ok105 : tiOk Tryd.prog 105 ti105 = true := by kernel_rfl
theorem ok114 : tiOk Tryd.prog 114 ti114 = true := by kernel_rfl
theorem ok122 : tiOk Tryd.prog 122 ti122 = true := by kernel_rfl
theorem ok131 : tiOk Tryd.prog 131 ti131 = true := by kernel_rfl
theorem ok134 : tiOk Tryd.prog 134 ti134 = true := by kernel_rfl
theorem ok139 : tiOk Tryd.prog 139 ti139 = true := by kernel_rfl
theorem tok : TOK Tryd.prog tt := fun _ => node (node (node (node (node (leaf ok2) (leaf ok3)) (node (leaf ok4) (node (leaf ok5) (leaf ok7)))) (node (node (leaf ok9) (leaf ok12)) (node (leaf ok18) (node (leaf ok20) (leaf ok21))))) (node (node (node (leaf ok22) (leaf ok23)) (node (leaf ok24) (node (leaf ok27) (leaf ok28)))) (node (node (leaf ok29) (node (leaf ok33) (leaf ok36))) (node (leaf ok40) (node (leaf ok42) (leaf ok54)))))) (node (node (node (node (leaf ok55) (leaf ok57)) (node (leaf ok58) (node (leaf ok59) (leaf ok60)))) (node (node (leaf ok61) (leaf ok62)) (node (leaf ok68) (node (leaf ok69) (leaf ok70))))) (node (node (node (leaf ok72) (leaf ok84)) (node (leaf ok86) (node (leaf ok92) (leaf ok95)))) (node (node (leaf ok105) (node (leaf ok114) (leaf ok122))) (node (leaf ok131) (node (leaf ok134) (leaf ok139))))))
theorem mixed : Tryd.prog.follows .mixedOrders = true := by kernel_rfl
end Go.Proofs.YtjolahiflldepaaDoor.Pi
