/- The table of the types is the program's. No statement of the seat is proved here. -/
import Derived.Test.YtaplnfcnajpmgaaPiS20
import Derived.Test.YtaplnfcnajpmgaaPiTT
import Derived.Test.YtaplnfcnajpmgaaChecked
import Derived.KernelRfl
namespace Go.Proofs.Ytaplnfcnajpmgaa.Pi
open Go
theorem node {P : Program} {t : Nat} {b : Bool} {A B : TI} (ha : tiOk P t A = true) (hb : tiOk P t B = true) : tiOk P t (match b with | true => A | false => B) = true := by cases b <;> assumption
theorem leaf {P : Program} {t k : Nat} {A : TI} (h : tiOk P k A = true) : tiOk P t (match Nat.beq t k with | true => A | false => tid) = true := by
  cases hb : Nat.beq t k with
  | true => rw [beq_iff.1 hb]; exact h
  | false => rfl
theorem ok2 : tiOk Try.prog 2 ti2 = true := by kernel_rfl
theorem ok3 : tiOk Try.prog 3 ti3 = true := by kernel_rfl
theorem ok4 : tiOk Try.prog 4 ti4 = true := by kernel_rfl
theorem ok5 : tiOk Try.prog 5 ti5 = true := by kernel_rfl
theorem ok7 : tiOk Try.prog 7 ti7 = true := by kernel_rfl
theorem ok9 : tiOk Try.prog 9 ti9 = true := by kernel_rfl
theorem ok12 : tiOk Try.prog 12 ti12 = true := by kernel_rfl
theorem ok20 : tiOk Try.prog 20 ti20 = true := by kernel_rfl
theorem ok21 : tiOk Try.prog 21 ti21 = true := by kernel_rfl
theorem ok22 : tiOk Try.prog 22 ti22 = true := by kernel_rfl
theorem ok23 : tiOk Try.prog 23 ti23 = true := by kernel_rfl
theorem ok24 : tiOk Try.prog 24 ti24 = true := by kernel_rfl
theorem ok26 : tiOk Try.prog 26 ti26 = true := by kernel_rfl
theorem ok27 : tiOk Try.prog 27 ti27 = true := by kernel_rfl
theorem ok28 : tiOk Try.prog 28 ti28 = true := by kernel_rfl
theorem ok29 : tiOk Try.prog 29 ti29 = true := by kernel_rfl
theorem ok45 : tiOk Try.prog 45 ti45 = true := by kernel_rfl
theorem ok46 : tiOk Try.prog 46 ti46 = true := by kernel_rfl
theorem ok54 : tiOk Try.prog 54 ti54 = true := by kernel_rfl
theorem ok57 : tiOk Try.prog 57 ti57 = true := by kernel_rfl
theorem ok62 : tiOk Try.prog 62 ti62 = true := by kernel_rfl
theorem ok85 : tiOk Try.prog 85 ti85 = true := by kernel_rfl
theorem ok103 : tiOk Try.prog 103 ti103 = true := by kernel_rfl
theorem ok129 : tiOk Try.prog 129 ti129 = true := by kernel_rfl
theorem ok133 : tiOk Try.prog 133 ti133 = true := by kernel_rfl
theorem tok : TOK Try.prog tt := fun _ => node (node (node (node (leaf ok2) (node (leaf ok3) (leaf ok4))) (node (leaf ok5) (node (leaf ok7) (leaf ok9)))) (node (node (leaf ok12) (node (leaf ok20) (leaf ok21))) (node (leaf ok22) (node (leaf ok23) (leaf ok24))))) (node (node (node (leaf ok26) (node (leaf ok27) (leaf ok28))) (node (leaf ok29) (node (leaf ok45) (leaf ok46)))) (node (node (leaf ok54) (node (leaf ok57) (leaf ok62))) (node (node (leaf ok85) (leaf ok103)) (node (leaf ok129) (leaf ok133)))))
theorem mixed : Try.prog.follows .mixedOrders = true := by kernel_rfl
end Go.Proofs.Ytaplnfcnajpmgaa.Pi
