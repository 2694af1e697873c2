/- The table of the types is the program's. No statement of the seat is proved here. -/
import Derived.Test.YtjolahiflldepabPiE
import Derived.Test.YtjolahiflldepabPiTT
import Derived.Test.YtjolahiflldepabChecked
import Derived.KernelRfl
namespace Go.Proofs.Ytjolahiflldepab.Pi
open Go
theorem node {P : Program} {t : Nat} {b : Bool} {A B : TI} (ha : tiOk P t A = true) (hb : tiOk P t B = true) : tiOk P t (match b with | true => A | false => B) = true := by cases b <;> assumption
theorem leaf {P : Program} {t k : Nat} {A : TI} (h : tiOk P k A = true) : tiOk P t (match Nat.beq t k with | true => A | false => tid) = true := by
  cases hb : Nat.beq t k with
  | true => rw [beq_iff.1 hb]; exact h
  | false => rfl
theorem ok2 : tiOk Try.prog 2 ti2 = true := by kernel_rfl
theorem ok3 : tiOk Try.prog 3 ti3 = true := by kernel_rfl
theorem ok4 : tiOk Try.prog 4 ti4 = true := by kernel_rfl
theorem ok5 : tiOk Try.prog 5 ti5 = true := by kernel_rfl
theorem ok7 : tiOk Try.prog 7 ti7 = true := by kernel_rfl
theorem ok9 : tiOk Try.prog 9 ti9 = true := by kernel_rfl
theorem ok12 : tiOk Try.prog 12 ti12 = true := by kernel_rfl
theorem ok18 : tiOk Try.prog 18 ti18 = true := by kernel_rfl
theorem ok20 : tiOk Try.prog 20 ti20 = true := by kernel_rfl
theorem ok21 : tiOk Try.prog 21 ti21 = true := by kernel_rfl
theorem ok22 : tiOk Try.prog 22 ti22 = true := by kernel_rfl
theorem ok24 : tiOk Try.prog 24 ti24 = true := by kernel_rfl
theorem ok27 : tiOk Try.prog 27 ti27 = true := by kernel_rfl
theorem ok36 : tiOk Try.prog 36 ti36 = true := by kernel_rfl
theorem ok38 : tiOk Try.prog 38 ti38 = true := by kernel_rfl
theorem ok45 : tiOk Try.prog 45 ti45 = true := by kernel_rfl
theorem ok55 : tiOk Try.prog 55 ti55 = true := by kernel_rfl
theorem ok58 : tiOk Try.prog 58 ti58 = true := by kernel_rfl
theorem ok63 : tiOk Try.prog 63 ti63 = true := by kernel_rfl
theorem ok64 : tiOk Try.prog 64 ti64 = true := by kernel_rfl
theorem ok66 : tiOk Try.prog 66 ti66 = true := by kernel_rfl
theorem ok74 : tiOk Try.prog 74 ti74 = true := by kernel_rfl
theorem ok75 : tiOk Try.prog 75 ti75 = true := by kernel_rfl
theorem ok81 : tiOk Try.prog 81 ti81 = true := by kernel_rfl
theorem ok82 : tiOk Try.prog 82 ti82 = true := by kernel_rfl
theorem ok86 : tiOk Try.prog 86 ti86 = true := by kernel_rfl
theorem ok92 : tiOk Try.prog 92 ti92 = true := by kernel_rfl
theorem ok93 : tiOk Try.prog 93 ti93 = true := by kernel_rfl
theorem ok96 : tiOk Try.prog 96 ti96 = true := by kernel_rfl
theorem ok98 : tiOk Try.prog 98 ti98 = true := by kernel_rfl
theorem ok100 : tiOk Try.prog 100 ti100 = true := by kernel_rfl
theorem ok101 : tiOk Try.prog 101 ti101 = true := by kernel_rfl
theorem ok105 : tiOk Try.prog 105 ti105 = true := by kernel_rfl
theorem ok113 : tiOk Try.prog 113 ti113 = true := by kernel_rfl
theorem ok115 : tiOk Try.prog 115 ti115 = true := by kernel_rfl
theorem ok131 : tiOk Try.prog 131 ti131 = true := by kernel_rfl
theorem ok132 : tiOk Try.prog 132 ti132 = true := by kernel_rfl
theorem ok133 : tiOk Try.prog 133 ti133 = true := by kernel_rfl
theorem ok149 : tiOk Try.prog 149 ti149 = true := by kernel_rfl
theorem ok164 : tiOk Try.prog 164 ti164 = true := by kernel_rfl
theorem ok172 : tiOk Try.prog 172 ti172 = true := by kernel_rfl
theorem ok176 : tiOk Try.prog 176 ti176 = true := by kernel_rfl
theorem ok180 : tiOk Try.prog 180 ti180 = true := by kernel_rfl
theorem ok182 : tiOk Try.prog 182 ti182 = true := by kernel_rfl
theorem ok186 : tiOk Try.prog 186 ti186 = true := by kernel_rfl
theorem ok195 : tiOk Try.prog 195 ti195 = true := by kernel_rfl
theorem tok : TOK Try.prog tt := fun _ => node (node (node (node (node (leaf ok2) (leaf ok3)) (node (leaf ok4) (node (leaf ok5) (leaf ok7)))) (node (node (leaf ok9) (node (leaf ok12) (leaf ok18))) (node (leaf ok20) (node (leaf ok21) (leaf ok22))))) (node (node (node (leaf ok24) (node (leaf ok27) (leaf ok36))) (node (leaf ok38) (node (leaf ok45) (leaf ok55)))) (node (node (leaf ok58) (node (leaf ok63) (leaf ok64))) (node (leaf ok66) (node (leaf ok74) (leaf ok75)))))) (node (node (node (node (leaf ok81) (leaf ok82)) (node (leaf ok86) (node (leaf ok92) (leaf ok93)))) (node (node (leaf ok96) (node (leaf ok98) (leaf ok100))) (node (leaf ok101) (node (leaf ok105) (leaf ok113))))) (node (node (node (leaf ok115) (node (leaf ok131) (leaf ok132))) (node (leaf ok133) (node (leaf ok149) (leaf ok164)))) (node (node (leaf ok172) (node (leaf ok176) (leaf ok180))) (node (leaf ok182) (node (leaf ok186) (leaf ok195))))))
theorem mixed : Try.prog.follows .mixedOrders = true := by kernel_rfl
end Go.Proofs.Ytjolahiflldepab.Pi
