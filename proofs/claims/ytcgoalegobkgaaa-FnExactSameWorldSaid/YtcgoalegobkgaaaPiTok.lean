/- The table of the types is the program's. No statement of the seat is proved here. -/
import Derived.Test.YtcgoalegobkgaaaPiS20
import Derived.Test.YtcgoalegobkgaaaPiTT
import Derived.Test.YtcgoalegobkgaaaChecked
import Derived.KernelRfl
namespace Go.Proofs.Ytcgoalegobkgaaa.Pi
open Go
theorem node {P : Program} {t : Nat} {b : Bool} {A B : TI} (ha : tiOk P t A = true) (hb : tiOk P t B = true) : tiOk P t (match b with | true => A | false => B) = true := by cases b <;> assumption
theorem leaf {P : Program} {t k : Nat} {A : TI} (h : tiOk P k A = true) : tiOk P t (match Nat.beq t k with | true => A | false => tid) = true := by
  cases hb : Nat.beq t k with
  | true => rw [beq_iff.1 hb]; exact h
  | false => rfl
theorem ok2 : tiOk Try.prog 2 ti2 = true := by kernel_rfl
theorem ok3 : tiOk Try.prog 3 ti3 = true := by kernel_rfl
theorem ok4 : tiOk Try.prog 4 ti4 = true := by kernel_rfl
theorem ok5 : tiOk Try.prog 5 ti5 = true := by kernel_rfl
theorem ok7 : tiOk Try.prog 7 ti7 = true := by kernel_rfl
theorem ok9 : tiOk Try.prog 9 ti9 = true := by kernel_rfl
theorem ok12 : tiOk Try.prog 12 ti12 = true := by kernel_rfl
theorem ok20 : tiOk Try.prog 20 ti20 = true := by kernel_rfl
theorem ok21 : tiOk Try.prog 21 ti21 = true := by kernel_rfl
theorem ok22 : tiOk Try.prog 22 ti22 = true := by kernel_rfl
theorem ok25 : tiOk Try.prog 25 ti25 = true := by kernel_rfl
theorem ok29 : tiOk Try.prog 29 ti29 = true := by kernel_rfl
theorem ok30 : tiOk Try.prog 30 ti30 = true := by kernel_rfl
theorem ok31 : tiOk Try.prog 31 ti31 = true := by kernel_rfl
theorem ok32 : tiOk Try.prog 32 ti32 = true := by kernel_rfl
theorem ok33 : tiOk Try.prog 33 ti33 = true := by kernel_rfl
theorem ok34 : tiOk Try.prog 34 ti34 = true := by kernel_rfl
theorem ok37 : tiOk Try.prog 37 ti37 = true := by kernel_rfl
theorem ok38 : tiOk Try.prog 38 ti38 = true := by kernel_rfl
theorem ok39 : tiOk Try.prog 39 ti39 = true := by kernel_rfl
theorem ok43 : tiOk Try.prog 43 ti43 = true := by kernel_rfl
theorem ok45 : tiOk Try.prog 45 ti45 = true := by kernel_rfl
theorem ok48 : tiOk Try.prog 48 ti48 = true := by kernel_rfl
theorem ok55 : tiOk Try.prog 55 ti55 = true := by kernel_rfl
theorem ok61 : tiOk Try.prog 61 ti61 = true := by kernel_rfl
theorem ok65 : tiOk Try.prog 65 ti65 = true := by kernel_rfl
theorem ok85 : tiOk Try.prog 85 ti85 = true := by kernel_rfl
theorem ok86 : tiOk Try.prog 86 ti86 = true := by kernel_rfl
theorem ok87 : tiOk Try.prog 87 ti87 = true := by kernel_rfl
theorem ok88 : tiOk Try.prog 88 ti88 = true := by kernel_rfl
theorem ok91 : tiOk Try.prog 91 ti91 = true := by kernel_rfl
theorem ok92 : tiOk Try.prog 92 ti92 = true := by kernel_rfl
theorem ok93 : tiOk Try.prog 93 ti93 = true := by kernel_rfl
theorem ok94 : tiOk Try.prog 94 ti94 = true := by kernel_rfl
theorem ok98 : tiOk Try.prog 98 ti98 = true := by kernel_rfl
theorem ok99 : tiOk Try.prog 99 ti99 = true := by kernel_rfl
theorem ok100 : tiOk Try.prog 100 ti100 = true := by kernel_rfl
theorem ok112 : tiOk Try.prog 112 ti112 = true := by kernel_rfl
theorem ok119 : tiOk Try.prog 119 ti119 = true := by kernel_rfl
theorem ok120 : tiOk Try.prog 120 ti120 = true := by kernel_rfl
theorem ok123 : tiOk Try.prog 123 ti123 = true := by kernel_rfl
theorem ok124 : tiOk Try.prog 124 ti124 = true := by kernel_rfl
theorem ok125 : tiOk Try.prog 125 ti125 = true := by kernel_rfl
theorem ok132 : tiOk Try.prog 132 ti132 = true := by kernel_rfl
theorem ok135 : tiOk Try.prog 135 ti135 = true := by kernel_rfl
theorem ok136 : tiOk Try.prog 136 ti136 = true := by kernel_rfl
theorem ok140 : tiOk Try.prog 140 ti140 = true := by kernel_rfl
theorem ok141 : tiOk Try.prog 141 ti141 = true := by kernel_rfl
theorem ok157 : tiOk Try.prog 157 ti157 = true := by kernel_rfl
theorem ok158 : tiOk Try.prog 158 ti158 = true := by kernel_rfl
theorem ok159 : tiOk Try.prog 159 ti159 = true := by kernel_rfl
theorem ok160 : tiOk Try.prog 160 ti160 = true := by kernel_rfl
theorem ok162 : tiOk Try.prog 162 ti162 = true := by kernel_rfl
theorem ok163 : tiOk Try.prog 163 ti163 = true := by kernel_rfl
theorem ok164 : tiOk Try.prog 164 ti164 = true := by kernel_rfl
theorem ok165 : tiOk Try.prog 165 ti165 = true := by kernel_rfl
theorem ok166 : tiOk Try.prog 166 ti166 = true := by kernel_rfl
theorem ok167 : tiOk Try.prog 167 ti167 = true := by kernel_rfl
theorem ok169 : tiOk Try.prog 169 ti169 = true := by kernel_rfl
theorem ok185 : tiOk Try.prog 185 ti185 = true := by kernel_rfl
theorem ok196 : tiOk Try.prog 196 ti196 = true := by kernel_rfl
theorem ok197 : tiOk Try.prog 197 ti197 = true := by kernel_rfl
theorem ok200 : tiOk Try.prog 200 ti200 = true := by kernel_rfl
theorem ok201 : tiOk Try.prog 201 ti201 = true := by kernel_rfl
theorem ok214 : tiOk Try.prog 214 ti214 = true := by kernel_rfl
theorem ok215 : tiOk Try.prog 215 ti215 = true := by kernel_rfl
theorem ok216 : tiOk Try.prog 216 ti216 = true := by kernel_rfl
theorem ok218 : tiOk Try.prog 218 ti218 = true := by kernel_rfl
theorem ok219 : tiOk Try.prog 219 ti219 = true := by kernel_rfl
theorem ok220 : tiOk Try.prog 220 ti220 = true := by kernel_rfl
theorem ok221 : tiOk Try.prog 221 ti221 = true := by kernel_rfl
theorem ok222 : tiOk Try.prog 222 ti222 = true := by kernel_rfl
theorem ok238 : tiOk Try.prog 238 ti238 = true := by kernel_rfl
theorem ok255 : tiOk Try.prog 255 ti255 = true := by kernel_rfl
theorem ok259 : tiOk Try.prog 259 ti259 = true := by kernel_rfl
theorem tok : TOK Try.prog tt := fun _ => node (node (node (node (node (node (leaf ok2) (leaf ok3)) (node (leaf ok4) (leaf ok5))) (node (node (leaf ok7) (leaf ok9)) (node (leaf ok12) (node (leaf ok20) (leaf ok21))))) (node (node (node (leaf ok22) (leaf ok25)) (node (leaf ok29) (leaf ok30))) (node (node (leaf ok31) (leaf ok32)) (node (leaf ok33) (node (leaf ok34) (leaf ok37)))))) (node (node (node (node (leaf ok38) (leaf ok39)) (node (leaf ok43) (leaf ok45))) (node (node (leaf ok48) (leaf ok55)) (node (leaf ok61) (node (leaf ok65) (leaf ok85))))) (node (node (node (leaf ok86) (leaf ok87)) (node (leaf ok88) (node (leaf ok91) (leaf ok92)))) (node (node (leaf ok93) (leaf ok94)) (node (leaf ok98) (node (leaf ok99) (leaf ok100))))))) (node (node (node (node (node (leaf ok112) (leaf ok119)) (node (leaf ok120) (leaf ok123))) (node (node (leaf ok124) (leaf ok125)) (node (leaf ok132) (node (leaf ok135) (leaf ok136))))) (node (node (node (leaf ok140) (leaf ok141)) (node (leaf ok157) (node (leaf ok158) (leaf ok159)))) (node (node (leaf ok160) (leaf ok162)) (node (leaf ok163) (node (leaf ok164) (leaf ok165)))))) (node (node (node (node (leaf ok166) (leaf ok167)) (node (leaf ok169) (leaf ok185))) (node (node (leaf ok196) (leaf ok197)) (node (leaf ok200) (node (leaf ok201) (leaf ok214))))) (node (node (node (leaf ok215) (leaf ok216)) (node (leaf ok218) (node (leaf ok219) (leaf ok220)))) (node (node (leaf ok221) (leaf ok222)) (node (leaf ok238) (node (leaf ok255) (leaf ok259)))))))
theorem mixed : Try.prog.follows .mixedOrders = true := by kernel_rfl
end Go.Proofs.Ytcgoalegobkgaaa.Pi
