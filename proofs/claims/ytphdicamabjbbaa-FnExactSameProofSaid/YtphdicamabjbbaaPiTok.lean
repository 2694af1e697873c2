/- The table of the types is the program's. No statement of the seat is proved here. -/
import Derived.Test.YtphdicamabjbbaaPiS20
import Derived.Test.YtphdicamabjbbaaPiTT
import Derived.Test.YtphdicamabjbbaaChecked
import Derived.KernelRfl
namespace Go.Proofs.Ytphdicamabjbbaa.Pi
open Go
theorem node {P : Program} {t : Nat} {b : Bool} {A B : TI} (ha : tiOk P t A = true) (hb : tiOk P t B = true) : tiOk P t (match b with | true => A | false => B) = true := by cases b <;> assumption
theorem leaf {P : Program} {t k : Nat} {A : TI} (h : tiOk P k A = true) : tiOk P t (match Nat.beq t k with | true => A | false => tid) = true := by
  cases hb : Nat.beq t k with
  | true => rw [beq_iff.1 hb]; exact h
  | false => rfl
theorem ok2 : tiOk Try.prog 2 ti2 = true := by kernel_rfl
theorem ok3 : tiOk Try.prog 3 ti3 = true := by kernel_rfl
theorem ok4 : tiOk Try.prog 4 ti4 = true := by kernel_rfl
theorem ok5 : tiOk Try.prog 5 ti5 = true := by kernel_rfl
theorem ok7 : tiOk Try.prog 7 ti7 = true := by kernel_rfl
theorem ok9 : tiOk Try.prog 9 ti9 = true := by kernel_rfl
theorem ok12 : tiOk Try.prog 12 ti12 = true := by kernel_rfl
theorem ok20 : tiOk Try.prog 20 ti20 = true := by kernel_rfl
theorem ok21 : tiOk Try.prog 21 ti21 = true := by kernel_rfl
theorem ok24 : tiOk Try.prog 24 ti24 = true := by kernel_rfl
theorem ok27 : tiOk Try.prog 27 ti27 = true := by kernel_rfl
theorem ok32 : tiOk Try.prog 32 ti32 = true := by kernel_rfl
theorem ok35 : tiOk Try.prog 35 ti35 = true := by kernel_rfl
theorem ok38 : tiOk Try.prog 38 ti38 = true := by kernel_rfl
theorem ok41 : tiOk Try.prog 41 ti41 = true := by kernel_rfl
theorem ok44 : tiOk Try.prog 44 ti44 = true := by kernel_rfl
theorem ok45 : tiOk Try.prog 45 ti45 = true := by kernel_rfl
theorem ok46 : tiOk Try.prog 46 ti46 = true := by kernel_rfl
theorem ok47 : tiOk Try.prog 47 ti47 = true := by kernel_rfl
theorem ok48 : tiOk Try.prog 48 ti48 = true := by kernel_rfl
theorem ok49 : tiOk Try.prog 49 ti49 = true := by kernel_rfl
theorem ok52 : tiOk Try.prog 52 ti52 = true := by kernel_rfl
theorem ok53 : tiOk Try.prog 53 ti53 = true := by kernel_rfl
theorem ok54 : tiOk Try.prog 54 ti54 = true := by kernel_rfl
theorem ok58 : tiOk Try.prog 58 ti58 = true := by kernel_rfl
theorem ok61 : tiOk Try.prog 61 ti61 = true := by kernel_rfl
theorem ok62 : tiOk Try.prog 62 ti62 = true := by kernel_rfl
theorem ok63 : tiOk Try.prog 63 ti63 = true := by kernel_rfl
theorem ok68 : tiOk Try.prog 68 ti68 = true := by kernel_rfl
theorem ok69 : tiOk Try.prog 69 ti69 = true := by kernel_rfl
theorem ok70 : tiOk Try.prog 70 ti70 = true := by kernel_rfl
theorem ok76 : tiOk Try.prog 76 ti76 = true := by kernel_rfl
theorem ok77 : tiOk Try.prog 77 ti77 = true := by kernel_rfl
theorem ok78 : tiOk Try.prog 78 ti78 = true := by kernel_rfl
theorem ok79 : tiOk Try.prog 79 ti79 = true := by kernel_rfl
theorem ok90 : tiOk Try.prog 90 ti90 = true := by kernel_rfl
theorem ok96 : tiOk Try.prog 96 ti96 = true := by kernel_rfl
theorem ok100 : tiOk Try.prog 100 ti100 = true := by kernel_rfl
theorem ok109 : tiOk Try.prog 109 ti109 = true := by kernel_rfl
theorem ok113 : tiOk Try.prog 113 ti113 = true := by kernel_rfl
theorem tok : TOK Try.prog tt := fun _ => node (node (node (node (node (leaf ok2) (leaf ok3)) (node (leaf ok4) (node (leaf ok5) (leaf ok7)))) (node (node (leaf ok9) (leaf ok12)) (node (leaf ok20) (node (leaf ok21) (leaf ok24))))) (node (node (node (leaf ok27) (leaf ok32)) (node (leaf ok35) (node (leaf ok38) (leaf ok41)))) (node (node (leaf ok44) (leaf ok45)) (node (leaf ok46) (node (leaf ok47) (leaf ok48)))))) (node (node (node (node (leaf ok49) (leaf ok52)) (node (leaf ok53) (node (leaf ok54) (leaf ok58)))) (node (node (leaf ok61) (leaf ok62)) (node (leaf ok63) (node (leaf ok68) (leaf ok69))))) (node (node (node (leaf ok70) (leaf ok76)) (node (leaf ok77) (node (leaf ok78) (leaf ok79)))) (node (node (leaf ok90) (leaf ok96)) (node (leaf ok100) (node (leaf ok109) (leaf ok113))))))
theorem mixed : Try.prog.follows .mixedOrders = true := by kernel_rfl
end Go.Proofs.Ytphdicamabjbbaa.Pi
