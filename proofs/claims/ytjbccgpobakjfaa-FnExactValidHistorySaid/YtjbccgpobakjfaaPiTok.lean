/- The table of the types is the program's. No statement of the seat is proved here. -/
import Derived.Test.YtjbccgpobakjfaaPiS20
import Derived.Test.YtjbccgpobakjfaaPiTT
import Derived.Test.YtjbccgpobakjfaaChecked
import Derived.KernelRfl
namespace Go.Proofs.Ytjbccgpobakjfaa.Pi
open Go
theorem node {P : Program} {t : Nat} {b : Bool} {A B : TI} (ha : tiOk P t A = true) (hb : tiOk P t B = true) : tiOk P t (match b with | true => A | false => B) = true := by cases b <;> assumption
theorem leaf {P : Program} {t k : Nat} {A : TI} (h : tiOk P k A = true) : tiOk P t (match Nat.beq t k with | true => A | false => tid) = true := by
  cases hb : Nat.beq t k with
  | true => rw [beq_iff.1 hb]; exact h
  | false => rfl
theorem ok2 : tiOk Try.prog 2 ti2 = true := by kernel_rfl
theorem ok3 : tiOk Try.prog 3 ti3 = true := by kernel_rfl
theorem ok4 : tiOk Try.prog 4 ti4 = true := by kernel_rfl
theorem ok5 : tiOk Try.prog 5 ti5 = true := by kernel_rfl
theorem ok7 : tiOk Try.prog 7 ti7 = true := by kernel_rfl
theorem ok9 : tiOk Try.prog 9 ti9 = true := by kernel_rfl
theorem ok12 : tiOk Try.prog 12 ti12 = true := by kernel_rfl
theorem ok20 : tiOk Try.prog 20 ti20 = true := by kernel_rfl
theorem ok21 : tiOk Try.prog 21 ti21 = true := by kernel_rfl
theorem ok22 : tiOk Try.prog 22 ti22 = true := by kernel_rfl
theorem ok25 : tiOk Try.prog 25 ti25 = true := by kernel_rfl
theorem ok29 : tiOk Try.prog 29 ti29 = true := by kernel_rfl
theorem ok32 : tiOk Try.prog 32 ti32 = true := by kernel_rfl
theorem ok36 : tiOk Try.prog 36 ti36 = true := by kernel_rfl
theorem ok37 : tiOk Try.prog 37 ti37 = true := by kernel_rfl
theorem ok38 : tiOk Try.prog 38 ti38 = true := by kernel_rfl
theorem ok39 : tiOk Try.prog 39 ti39 = true := by kernel_rfl
theorem ok40 : tiOk Try.prog 40 ti40 = true := by kernel_rfl
theorem ok41 : tiOk Try.prog 41 ti41 = true := by kernel_rfl
theorem ok44 : tiOk Try.prog 44 ti44 = true := by kernel_rfl
theorem ok45 : tiOk Try.prog 45 ti45 = true := by kernel_rfl
theorem ok46 : tiOk Try.prog 46 ti46 = true := by kernel_rfl
theorem ok50 : tiOk Try.prog 50 ti50 = true := by kernel_rfl
theorem ok52 : tiOk Try.prog 52 ti52 = true := by kernel_rfl
theorem ok55 : tiOk Try.prog 55 ti55 = true := by kernel_rfl
theorem ok62 : tiOk Try.prog 62 ti62 = true := by kernel_rfl
theorem ok72 : tiOk Try.prog 72 ti72 = true := by kernel_rfl
theorem ok73 : tiOk Try.prog 73 ti73 = true := by kernel_rfl
theorem ok74 : tiOk Try.prog 74 ti74 = true := by kernel_rfl
theorem ok75 : tiOk Try.prog 75 ti75 = true := by kernel_rfl
theorem ok82 : tiOk Try.prog 82 ti82 = true := by kernel_rfl
theorem ok83 : tiOk Try.prog 83 ti83 = true := by kernel_rfl
theorem ok84 : tiOk Try.prog 84 ti84 = true := by kernel_rfl
theorem ok94 : tiOk Try.prog 94 ti94 = true := by kernel_rfl
theorem ok101 : tiOk Try.prog 101 ti101 = true := by kernel_rfl
theorem ok102 : tiOk Try.prog 102 ti102 = true := by kernel_rfl
theorem ok104 : tiOk Try.prog 104 ti104 = true := by kernel_rfl
theorem ok105 : tiOk Try.prog 105 ti105 = true := by kernel_rfl
theorem ok106 : tiOk Try.prog 106 ti106 = true := by kernel_rfl
theorem ok113 : tiOk Try.prog 113 ti113 = true := by kernel_rfl
theorem ok119 : tiOk Try.prog 119 ti119 = true := by kernel_rfl
theorem ok128 : tiOk Try.prog 128 ti128 = true := by kernel_rfl
theorem ok140 : tiOk Try.prog 140 ti140 = true := by kernel_rfl
theorem ok141 : tiOk Try.prog 141 ti141 = true := by kernel_rfl
theorem ok145 : tiOk Try.prog 145 ti145 = true := by kernel_rfl
theorem ok162 : tiOk Try.prog 162 ti162 = true := by kernel_rfl
theorem ok170 : tiOk Try.prog 170 ti170 = true := by kernel_rfl
theorem ok174 : tiOk Try.prog 174 ti174 = true := by kernel_rfl
theorem tok : TOK Try.prog tt := fun _ => node (node (node (node (node (leaf ok2) (node (leaf ok3) (leaf ok4))) (node (leaf ok5) (node (leaf ok7) (leaf ok9)))) (node (node (leaf ok12) (node (leaf ok20) (leaf ok21))) (node (leaf ok22) (node (leaf ok25) (leaf ok29))))) (node (node (node (leaf ok32) (node (leaf ok36) (leaf ok37))) (node (leaf ok38) (node (leaf ok39) (leaf ok40)))) (node (node (leaf ok41) (node (leaf ok44) (leaf ok45))) (node (leaf ok46) (node (leaf ok50) (leaf ok52)))))) (node (node (node (node (leaf ok55) (node (leaf ok62) (leaf ok72))) (node (leaf ok73) (node (leaf ok74) (leaf ok75)))) (node (node (leaf ok82) (node (leaf ok83) (leaf ok84))) (node (leaf ok94) (node (leaf ok101) (leaf ok102))))) (node (node (node (leaf ok104) (node (leaf ok105) (leaf ok106))) (node (leaf ok113) (node (leaf ok119) (leaf ok128)))) (node (node (leaf ok140) (node (leaf ok141) (leaf ok145))) (node (leaf ok162) (node (leaf ok170) (leaf ok174))))))
theorem mixed : Try.prog.follows .mixedOrders = true := by kernel_rfl
end Go.Proofs.Ytjbccgpobakjfaa.Pi
