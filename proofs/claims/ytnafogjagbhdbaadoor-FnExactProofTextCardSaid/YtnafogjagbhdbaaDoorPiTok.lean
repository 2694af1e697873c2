/- The table of the types is the program's. No statement of the seat is proved here. -/
import Derived.Test.YtnafogjagbhdbaaDoorPiE
import Derived.Test.YtnafogjagbhdbaaDoorPiTT
import Derived.Test.YtnafogjagbhdbaaDoorChecked
import Derived.KernelRfl
namespace Go.Proofs.YtnafogjagbhdbaaDoor.Pi
open Go
theorem node {P : Program} {t : Nat} {b : Bool} {A B : TI} (ha : tiOk P t A = true) (hb : tiOk P t B = true) : tiOk P t (match b with | true => A | false => B) = true := by cases b <;> assumption
theorem leaf {P : Program} {t k : Nat} {A : TI} (h : tiOk P k A = true) : tiOk P t (match Nat.beq t k with | true => A | false => tid) = true := by
  cases hb : Nat.beq t k with
  | true => rw [beq_iff.1 hb]; exact h
  | false => rfl
theorem ok2 : tiOk Tryd.prog 2 ti2 = true := by kernel_rfl
theorem ok3 : tiOk Tryd.prog 3 ti3 = true := by kernel_rfl
theorem ok4 : tiOk Tryd.prog 4 ti4 = true := by kernel_rfl
theorem ok5 : tiOk Tryd.prog 5 ti5 = true := by kernel_rfl
theorem ok7 : tiOk Tryd.prog 7 ti7 = true := by kernel_rfl
theorem ok9 : tiOk Tryd.prog 9 ti9 = true := by kernel_rfl
theorem ok12 : tiOk Tryd.prog 12 ti12 = true := by kernel_rfl
theorem ok18 : tiOk Tryd.prog 18 ti18 = true := by kernel_rfl
theorem ok20 : tiOk Tryd.prog 20 ti20 = true := by kernel_rfl
theorem ok21 : tiOk Tryd.prog 21 ti21 = true := by kernel_rfl
theorem ok22 : tiOk Tryd.prog 22 ti22 = true := by kernel_rfl
theorem ok23 : tiOk Tryd.prog 23 ti23 = true := by kernel_rfl
theorem ok24 : tiOk Tryd.prog 24 ti24 = true := by kernel_rfl
theorem ok25 : tiOk Tryd.prog 25 ti25 = true := by kernel_rfl
theorem ok26 : tiOk Tryd.prog 26 ti26 = true := by kernel_rfl
theorem ok27 : tiOk Tryd.prog 27 ti27 = true := by kernel_rfl
theorem ok30 : tiOk Tryd.prog 30 ti30 = true := by kernel_rfl
theorem ok31 : tiOk Tryd.prog 31 ti31 = true := by kernel_rfl
theorem ok32 : tiOk Tryd.prog 32 ti32 = true := by kernel_rfl
theorem ok39 : tiOk Tryd.prog 39 ti39 = true := by kernel_rfl
theorem ok46 : tiOk Tryd.prog 46 ti46 = true := by kernel_rfl
theorem ok52 : tiOk Tryd.prog 52 ti52 = true := by kernel_rfl
theorem ok63 : tiOk Tryd.prog 63 ti63 = true := by kernel_rfl
theorem ok64 : tiOk Tryd.prog 64 ti64 = true := by kernel_rfl
theorem ok65 : tiOk Tryd.prog 65 ti65 = true := by kernel_rfl
theorem ok66 : tiOk Tryd.prog 66 ti66 = true := by kernel_rfl
theorem ok68 : tiOk Tryd.prog 68 ti68 = true := by kernel_rfl
theorem ok69 : tiOk Tryd.prog 69 ti69 = true := by kernel_rfl
theorem ok84 : tiOk Tryd.prog 84 ti84 = true := by kernel_rfl
theorem ok94 : tiOk Tryd.prog 94 ti94 = true := by kernel_rfl
theorem ok102 : tiOk Tryd.prog 102 ti102 = true := by kernel_rfl
theorem ok105 : tiOk Tryd.prog 105 ti105 = true := by kernel_rfl
theorem ok110 : tiOk Tryd.prog 110 ti110 = true := by kernel_rfl
theorem tok : TOK Tryd.prog tt := fun _ => node (node (node (node (node (leaf ok2) (leaf ok3)) (node (leaf ok4) (leaf ok5))) (node (node (leaf ok7) (leaf ok9)) (node (leaf ok12) (leaf ok18)))) (node (node (node (leaf ok20) (leaf ok21)) (node (leaf ok22) (leaf ok23))) (node (node (leaf ok24) (leaf ok25)) (node (leaf ok26) (leaf ok27))))) (node (node (node (node (leaf ok30) (leaf ok31)) (node (leaf ok32) (leaf ok39))) (node (node (leaf ok46) (leaf ok52)) (node (leaf ok63) (leaf ok64)))) (node (node (node (leaf ok65) (leaf ok66)) (node (leaf ok68) (leaf ok69))) (node (node (leaf ok84) (leaf ok94)) (node (leaf ok102) (node (leaf ok105) (leaf ok110))))))
theorem mixed : Tryd.prog.follows .mixedOrders = true := by kernel_rfl
end Go.Proofs.YtnafogjagbhdbaaDoor.Pi
