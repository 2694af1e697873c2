/- The table of the types is the program's. No statement of the seat is proved here. -/
import Derived.Test.YtnmoeeneofopcaaPiE
import Derived.Test.YtnmoeeneofopcaaPiTT
import Derived.Test.YtnmoeeneofopcaaChecked
import Derived.KernelRfl
namespace Go.Proofs.Ytnmoeeneofopcaa.Pi
open Go
theorem node {P : Program} {t : Nat} {b : Bool} {A B : TI} (ha : tiOk P t A = true) (hb : tiOk P t B = true) : tiOk P t (match b with | true => A | false => B) = true := by cases b <;> assumption
theorem leaf {P : Program} {t k : Nat} {A : TI} (h : tiOk P k A = true) : tiOk P t (match Nat.beq t k with | true => A | false => tid) = true := by
  cases hb : Nat.beq t k with
  | true => rw [beq_iff.1 hb]; exact h
  | false => rfl
theorem ok2 : tiOk Try.prog 2 ti2 = true := by kernel_rfl
theorem ok3 : tiOk Try.prog 3 ti3 = true := by kernel_rfl
theorem ok4 : tiOk Try.prog 4 ti4 = true := by kernel_rfl
theorem ok5 : tiOk Try.prog 5 ti5 = true := by kernel_rfl
theorem ok7 : tiOk Try.prog 7 ti7 = true := by kernel_rfl
theorem ok9 : tiOk Try.prog 9 ti9 = true := by kernel_rfl
theorem ok12 : tiOk Try.prog 12 ti12 = true := by kernel_rfl
theorem ok18 : tiOk Try.prog 18 ti18 = true := by kernel_rfl
theorem ok20 : tiOk Try.prog 20 ti20 = true := by kernel_rfl
theorem ok21 : tiOk Try.prog 21 ti21 = true := by kernel_rfl
theorem ok22 : tiOk Try.prog 22 ti22 = true := by kernel_rfl
theorem ok23 : tiOk Try.prog 23 ti23 = true := by kernel_rfl
theorem ok24 : tiOk Try.prog 24 ti24 = true := by kernel_rfl
theorem ok28 : tiOk Try.prog 28 ti28 = true := by kernel_rfl
theorem ok35 : tiOk Try.prog 35 ti35 = true := by kernel_rfl
theorem ok38 : tiOk Try.prog 38 ti38 = true := by kernel_rfl
theorem ok43 : tiOk Try.prog 43 ti43 = true := by kernel_rfl
theorem ok45 : tiOk Try.prog 45 ti45 = true := by kernel_rfl
theorem ok46 : tiOk Try.prog 46 ti46 = true := by kernel_rfl
theorem ok47 : tiOk Try.prog 47 ti47 = true := by kernel_rfl
theorem ok61 : tiOk Try.prog 61 ti61 = true := by kernel_rfl
theorem ok66 : tiOk Try.prog 66 ti66 = true := by kernel_rfl
theorem ok68 : tiOk Try.prog 68 ti68 = true := by kernel_rfl
theorem ok69 : tiOk Try.prog 69 ti69 = true := by kernel_rfl
theorem ok70 : tiOk Try.prog 70 ti70 = true := by kernel_rfl
theorem ok75 : tiOk Try.prog 75 ti75 = true := by kernel_rfl
theorem ok76 : tiOk Try.prog 76 ti76 = true := by kernel_rfl
theorem ok77 : tiOk Try.prog 77 ti77 = true := by kernel_rfl
theorem ok78 : tiOk Try.prog 78 ti78 = true := by kernel_rfl
theorem ok79 : tiOk Try.prog 79 ti79 = true := by kernel_rfl
theorem ok83 : tiOk Try.prog 83 ti83 = true := by kernel_rfl
theorem ok84 : tiOk Try.prog 84 ti84 = true := by kernel_rfl
theorem ok87 : tiOk Try.prog 87 ti87 = true := by kernel_rfl
theorem ok89 : tiOk Try.prog 89 ti89 = true := by kernel_rfl
theorem ok91 : tiOk Try.prog 91 ti91 = true := by kernel_rfl
theorem ok95 : tiOk Try.prog 95 ti95 = true := by kernel_rfl
theorem ok96 : tiOk Try.prog 96 ti96 = true := by kernel_rfl
theorem ok100 : tiOk Try.prog 100 ti100 = true := by kernel_rfl
theorem ok105 : tiOk Try.prog 105 ti105 = true := by kernel_rfl
theorem ok106 : tiOk Try.prog 106 ti106 = true := by kernel_rfl
theorem ok107 : tiOk Try.prog 107 ti107 = true := by kernel_rfl
theorem ok109 : tiOk Try.prog 109 ti109 = true := by kernel_rfl
theorem ok110 : tiOk Try.prog 110 ti110 = true := by kernel_rfl
theorem ok116 : tiOk Try.prog 116 ti116 = true := by kernel_rfl
theorem ok122 : tiOk Try.prog 122 ti122 = true := by kernel_rfl
theorem ok135 : tiOk Try.prog 135 ti135 = true := by kernel_rfl
theorem ok136 : tiOk Try.prog 136 ti136 = true := by kernel_rfl
theorem ok137 : tiOk Try.prog 137 ti137 = true := by kernel_rfl
theorem ok141 : tiOk Try.prog 141 ti141 = true := by kernel_rfl
theorem ok142 : tiOk Try.prog 142 ti142 = true := by kernel_rfl
theorem ok143 : tiOk Try.prog 143 ti143 = true := by kernel_rfl
theorem ok165 : tiOk Try.prog 165 ti165 = true := by kernel_rfl
theorem ok177 : tiOk Try.prog 177 ti177 = true := by kernel_rfl
theorem ok180 : tiOk Try.prog 180 ti180 = true := by kernel_rfl
theorem ok182 : tiOk Try.prog 182 ti182 = true := by kernel_rfl
theorem ok191 : tiOk Try.prog 191 ti191 = true := by kernel_rfl
theorem ok198 : tiOk Try.prog 198 ti198 = true := by kernel_rfl
theorem ok206 : tiOk Try.prog 206 ti206 = true := by kernel_rfl
theorem ok210 : tiOk Try.prog 210 ti210 = true := by kernel_rfl
theorem ok214 : tiOk Try.prog 214 ti214 = true := by kernel_rfl
theorem ok220 : tiOk Try.prog 220 ti220 = true := by kernel_rfl
theorem ok229 : tiOk Try.prog 229 ti229 = true := by kernel_rfl
theorem tok : TOK Try.prog tt := fun _ => node (node (node (node (node (leaf ok2) (node (leaf ok3) (leaf ok4))) (node (node (leaf ok5) (leaf ok7)) (node (leaf ok9) (leaf ok12)))) (node (node (node (leaf ok18) (leaf ok20)) (node (leaf ok21) (leaf ok22))) (node (node (leaf ok23) (leaf ok24)) (node (leaf ok28) (leaf ok35))))) (node (node (node (node (leaf ok38) (leaf ok43)) (node (leaf ok45) (leaf ok46))) (node (node (leaf ok47) (leaf ok61)) (node (leaf ok66) (leaf ok68)))) (node (node (node (leaf ok69) (leaf ok70)) (node (leaf ok75) (leaf ok76))) (node (node (leaf ok77) (leaf ok78)) (node (leaf ok79) (leaf ok83)))))) (node (node (node (node (leaf ok84) (node (leaf ok87) (leaf ok89))) (node (node (leaf ok91) (leaf ok95)) (node (leaf ok96) (leaf ok100)))) (node (node (node (leaf ok105) (leaf ok106)) (node (leaf ok107) (leaf ok109))) (node (node (leaf ok110) (leaf ok116)) (node (leaf ok122) (leaf ok135))))) (node (node (node (node (leaf ok136) (leaf ok137)) (node (leaf ok141) (leaf ok142))) (node (node (leaf ok143) (leaf ok165)) (node (leaf ok177) (leaf ok180)))) (node (node (node (leaf ok182) (leaf ok191)) (node (leaf ok198) (leaf ok206))) (node (node (leaf ok210) (leaf ok214)) (node (leaf ok220) (leaf ok229))))))
theorem mixed : Try.prog.follows .mixedOrders = true := by kernel_rfl
end Go.Proofs.Ytnmoeeneofopcaa.Pi
