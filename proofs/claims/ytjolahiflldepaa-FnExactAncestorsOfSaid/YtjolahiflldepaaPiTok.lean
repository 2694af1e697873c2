/- The table of the types is the program's. No statement of the seat is proved here. -/
import Derived.Test.YtjolahiflldepaaPiS20
import Derived.Test.YtjolahiflldepaaPiTT
import Derived.Test.YtjolahiflldepaaChecked
import Derived.KernelRfl
namespace Go.Proofs.Ytjolahiflldepaa.Pi
open Go
theorem node {P : Program} {t : Nat} {b : Bool} {A B : TI} (ha : tiOk P t A = true) (hb : tiOk P t B = true) : tiOk P t (match b with | true => A | false => B) = true := by cases b <;> assumption
theorem leaf {P : Program} {t k : Nat} {A : TI} (h : tiOk P k A = true) : tiOk P t (match Nat.beq t k with | true => A | false => tid) = true := by
  cases hb : Nat.beq t k with
  | true => rw [beq_iff.1 hb]; exact h
  | false => rfl
theorem ok2 : tiOk Try.prog 2 ti2 = true := by kernel_rfl
theorem ok3 : tiOk Try.prog 3 ti3 = true := by kernel_rfl
theorem ok4 : tiOk Try.prog 4 ti4 = true := by kernel_rfl
theorem ok5 : tiOk Try.prog 5 ti5 = true := by kernel_rfl
theorem ok7 : tiOk Try.prog 7 ti7 = true := by kernel_rfl
theorem ok9 : tiOk Try.prog 9 ti9 = true := by kernel_rfl
theorem ok12 : tiOk Try.prog 12 ti12 = true := by kernel_rfl
theorem ok20 : tiOk Try.prog 20 ti20 = true := by kernel_rfl
theorem ok21 : tiOk Try.prog 21 ti21 = true := by kernel_rfl
theorem ok22 : tiOk Try.prog 22 ti22 = true := by kernel_rfl
theorem ok24 : tiOk Try.prog 24 ti24 = true := by kernel_rfl
theorem ok27 : tiOk Try.prog 27 ti27 = true := by kernel_rfl
theorem ok34 : tiOk Try.prog 34 ti34 = true := by kernel_rfl
theorem ok35 : tiOk Try.prog 35 ti35 = true := by kernel_rfl
theorem ok38 : tiOk Try.prog 38 ti38 = true := by kernel_rfl
theorem ok42 : tiOk Try.prog 42 ti42 = true := by kernel_rfl
theorem ok49 : tiOk Try.prog 49 ti49 = true := by kernel_rfl
theorem ok50 : tiOk Try.prog 50 ti50 = true := by kernel_rfl
theorem ok51 : tiOk Try.prog 51 ti51 = true := by kernel_rfl
theorem ok52 : tiOk Try.prog 52 ti52 = true := by kernel_rfl
theorem ok55 : tiOk Try.prog 55 ti55 = true := by kernel_rfl
theorem ok59 : tiOk Try.prog 59 ti59 = true := by kernel_rfl
theorem ok67 : tiOk Try.prog 67 ti67 = true := by kernel_rfl
theorem ok68 : tiOk Try.prog 68 ti68 = true := by kernel_rfl
theorem ok72 : tiOk Try.prog 72 ti72 = true := by kernel_rfl
theorem ok73 : tiOk Try.prog 73 ti73 = true := by kernel_rfl
theorem ok79 : tiOk Try.prog 79 ti79 = true := by kernel_rfl
theorem ok80 : tiOk Try.prog 80 ti80 = true := by kernel_rfl
theorem ok82 : tiOk Try.prog 82 ti82 = true := by kernel_rfl
theorem ok83 : tiOk Try.prog 83 ti83 = true := by kernel_rfl
theorem ok86 : tiOk Try.prog 86 ti86 = true := by kernel_rfl
theorem ok87 : tiOk Try.prog 87 ti87 = true := by kernel_rfl
theorem ok88 : tiOk Try.prog 88 ti88 = true := by kernel_rfl
theorem ok89 : tiOk Try.prog 89 ti89 = true := by kernel_rfl
theorem ok115 : tiOk Try.prog 115 ti115 = true := by kernel_rfl
theorem ok117 : tiOk Try.prog 117 ti117 = true := by kernel_rfl
theorem ok122 : tiOk Try.prog 122 ti122 = true := by kernel_rfl
theorem ok136 : tiOk Try.prog 136 ti136 = true := by kernel_rfl
theorem ok141 : tiOk Try.prog 141 ti141 = true := by kernel_rfl
theorem ok154 : tiOk Try.prog 154 ti154 = true := by kernel_rfl
theorem ok158 : tiOk Try.prog 158 ti158 = true := by kernel_rfl
theorem tok : TOK Try.prog tt := fun _ => node (node (node (node (node (leaf ok2) (leaf ok3)) (node (leaf ok4) (node (leaf ok5) (leaf ok7)))) (node (node (leaf ok9) (leaf ok12)) (node (leaf ok20) (node (leaf ok21) (leaf ok22))))) (node (node (node (leaf ok24) (leaf ok27)) (node (leaf ok34) (node (leaf ok35) (leaf ok38)))) (node (node (leaf ok42) (leaf ok49)) (node (leaf ok50) (node (leaf ok51) (leaf ok52)))))) (node (node (node (node (leaf ok55) (leaf ok59)) (node (leaf ok67) (node (leaf ok68) (leaf ok72)))) (node (node (leaf ok73) (leaf ok79)) (node (leaf ok80) (node (leaf ok82) (leaf ok83))))) (node (node (node (leaf ok86) (leaf ok87)) (node (leaf ok88) (node (leaf ok89) (leaf ok115)))) (node (node (leaf ok117) (node (leaf ok122) (leaf ok136))) (node (leaf ok141) (node (leaf ok154) (leaf ok158))))))
theorem mixed : Try.prog.follows .mixedOrders = true := by kernel_rfl
end Go.Proofs.Ytjolahiflldepaa.Pi
