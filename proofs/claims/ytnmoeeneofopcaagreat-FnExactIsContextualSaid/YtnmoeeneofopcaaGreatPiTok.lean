/- The table of the types is the program's. No statement of the seat is proved here. -/
import Derived.Test.YtnmoeeneofopcaaGreatPiE
import Derived.Test.YtnmoeeneofopcaaGreatPiTT
import Derived.Test.YtnmoeeneofopcaaGreatChecked
import Derived.KernelRfl
namespace Go.Proofs.YtnmoeeneofopcaaGreat.Pi
open Go
theorem node {P : Program} {t : Nat} {b : Bool} {A B : TI} (ha : tiOk P t A = true) (hb : tiOk P t B = true) : tiOk P t (match b with | true => A | false => B) = true := by cases b <;> assumption
theorem leaf {P : Program} {t k : Nat} {A : TI} (h : tiOk P k A = true) : tiOk P t (match Nat.beq t k with | true => A | false => tid) = true := by
  cases hb : Nat.beq t k with
  | true => rw [beq_iff.1 hb]; exact h
  | false => rfl
theorem ok2 : tiOk Tryz.prog 2 ti2 = true := by kernel_rfl
theorem ok3 : tiOk Tryz.prog 3 ti3 = true := by kernel_rfl
theorem ok4 : tiOk Tryz.prog 4 ti4 = true := by kernel_rfl
theorem ok5 : tiOk Tryz.prog 5 ti5 = true := by kernel_rfl
theorem ok7 : tiOk Tryz.prog 7 ti7 = true := by kernel_rfl
theorem ok9 : tiOk Tryz.prog 9 ti9 = true := by kernel_rfl
theorem ok12 : tiOk Tryz.prog 12 ti12 = true := by kernel_rfl
theorem ok18 : tiOk Tryz.prog 18 ti18 = true := by kernel_rfl
theorem ok20 : tiOk Tryz.prog 20 ti20 = true := by kernel_rfl
theorem ok21 : tiOk Tryz.prog 21 ti21 = true := by kernel_rfl
theorem ok22 : tiOk Tryz.prog 22 ti22 = true := by kernel_rfl
theorem ok23 : tiOk Tryz.prog 23 ti23 = true := by kernel_rfl
theorem ok24 : tiOk Tryz.prog 24 ti24 = true := by kernel_rfl
theorem ok25 : tiOk Tryz.prog 25 ti25 = true := by kernel_rfl
theorem ok27 : tiOk Tryz.prog 27 ti27 = true := by kernel_rfl
theorem ok28 : tiOk Tryz.prog 28 ti28 = true := by kernel_rfl
theorem ok29 : tiOk Tryz.prog 29 ti29 = true := by kernel_rfl
theorem ok30 : tiOk Tryz.prog 30 ti30 = true := by kernel_rfl
theorem ok37 : tiOk Tryz.prog 37 ti37 = true := by kernel_rfl
theorem ok38 : tiOk Tryz.prog 38 ti38 = true := by kernel_rfl
theorem ok39 : tiOk Tryz.prog 39 ti39 = true := by kernel_rfl
theorem ok40 : tiOk Tryz.prog 40 ti40 = true := by kernel_rfl
theorem ok41 : tiOk Tryz.prog 41 ti41 = true := by kernel_rfl
theorem ok42 : tiOk Tryz.prog 42 ti42 = true := by kernel_rfl
theorem ok43 : tiOk Tryz.prog 43 ti43 = true := by kernel_rfl
theorem ok47 : tiOk Tryz.prog 47 ti47 = true := by kernel_rfl
theorem ok48 : tiOk Tryz.prog 48 ti48 = true := by kernel_rfl
theorem ok49 : tiOk Tryz.prog 49 ti49 = true := by kernel_rfl
theorem ok50 : tiOk Tryz.prog 50 ti50 = true := by kernel_rfl
theorem ok58 : tiOk Tryz.prog 58 ti58 = true := by kernel_rfl
theorem ok62 : tiOk Tryz.prog 62 ti62 = true := by kernel_rfl
theorem ok66 : tiOk Tryz.prog 66 ti66 = true := by kernel_rfl
theorem ok76 : tiOk Tryz.prog 76 ti76 = true := by kernel_rfl
theorem ok77 : tiOk Tryz.prog 77 ti77 = true := by kernel_rfl
theorem ok94 : tiOk Tryz.prog 94 ti94 = true := by kernel_rfl
theorem ok104 : tiOk Tryz.prog 104 ti104 = true := by kernel_rfl
theorem ok105 : tiOk Tryz.prog 105 ti105 = true := by kernel_rfl
theorem ok107 : tiOk Tryz.prog 107 ti107 = true := by kernel_rfl
theorem ok108 : tiOk Tryz.prog 108 ti108 = true := by kernel_rfl
theorem ok116 : tiOk Tryz.prog 116 ti116 = true := by kernel_rfl
theorem ok117 : tiOk Tryz.prog 117 ti117 = true := by kernel_rfl
theorem ok120 : tiOk Tryz.prog 120 ti120 = true := by kernel_rfl
theorem ok121 : tiOk Tryz.prog 121 ti121 = true := by kernel_rfl
theorem ok122 : tiOk Tryz.prog 122 ti122 = true := by kernel_rfl
theorem ok127 : tiOk Tryz.prog 127 ti127 = true := by kernel_rfl
theorem ok128 : tiOk Tryz.prog 128 ti128 = true := by kernel_rfl
theorem ok129 : tiOk Tryz.prog 129 ti129 = true := by kernel_rfl
theorem ok133 : tiOk Tryz.prog 133 ti133 = true := by kernel_rfl
theorem ok134 : tiOk Tryz.prog 134 ti134 = true := by kernel_rfl
theorem ok141 : tiOk Tryz.prog 141 ti141 = true := by kernel_rfl
theorem ok145 : tiOk Tryz.prog 145 ti145 = true := by kernel_rfl
theorem ok150 : tiOk Tryz.prog 150 ti150 = true := by kernel_rfl
theorem ok151 : tiOk Tryz.prog 151 ti151 = true := by kernel_rfl
theorem ok153 : tiOk Tryz.prog 153 ti153 = true := by kernel_rfl
theorem ok162 : tiOk Tryz.prog 162 ti162 = true := by kernel_rfl
theorem ok163 : tiOk Tryz.prog 163 ti163 = true := by kernel_rfl
theorem ok167 : tiOk Tryz.prog 167 ti167 = true := by kernel_rfl
theorem ok183 : tiOk Tryz.prog 183 ti183 = true := by kernel_rfl
theorem ok184 : tiOk Tryz.prog 184 ti184 = true := by kernel_rfl
theorem ok186 : tiOk Tryz.prog 186 ti186 = true := by kernel_rfl
theorem ok187 : tiOk Tryz.prog 187 ti187 = true := by kernel_rfl
theorem ok194 : tiOk Tryz.prog 194 ti194 = true := by kernel_rfl
theorem ok218 : tiOk Tryz.prog 218 ti218 = true := by kernel_rfl
theorem ok231 : tiOk Tryz.prog 231 ti231 = true := by kernel_rfl
theorem ok232 : tiOk Tryz.prog 232 ti232 = true := by kernel_rfl
theorem ok233 : tiOk Tryz.prog 233 ti233 = true := by kernel_rfl
theorem ok235 : tiOk Tryz.prog 235 ti235 = true := by kernel_rfl
theorem ok237 : tiOk Tryz.prog 237 ti237 = true := by kernel_rfl
theorem ok238 : tiOk Tryz.prog 238 ti238 = true := by kernel_rfl
theorem ok239 : tiOk Tryz.prog 239 ti239 = true := by kernel_rfl
theorem ok261 : tiOk Tryz.prog 261 ti261 = true := by kernel_rfl
theorem ok280 : tiOk Tryz.prog 280 ti280 = true := by kernel_rfl
theorem ok311 : tiOk Tryz.prog 311 ti311 = true := by kernel_rfl
theorem ok313 : tiOk Tryz.prog 313 ti313 = true := by kernel_rfl
theorem ok314 : tiOk Tryz.prog 314 ti314 = true := by kernel_rfl
theorem ok325 : tiOk Tryz.prog 325 ti325 = true := by kernel_rfl
theorem ok331 : tiOk Tryz.prog 331 ti331 = true := by kernel_rfl
theorem ok338 : tiOk Tryz.prog 338 ti338 = true := by kernel_rfl
theorem ok344 : tiOk Tryz.prog 344 ti344 = true := by kernel_rfl
theorem ok348 : tiOk Tryz.prog 348 ti348 = true := by kernel_rfl
theorem ok351 : tiOk Tryz.prog 351 ti351 = true := by kernel_rfl
theorem ok363 : tiOk Tryz.prog 363 ti363 = true := by kernel_rfl
theorem ok372 : tiOk Tryz.prog 372 ti372 = true := by kernel_rfl
theorem tok : TOK Tryz.prog tt := fun _ => node (node (node (node (node (node (leaf ok2) (leaf ok3)) (node (leaf ok4) (node (leaf ok5) (leaf ok7)))) (node (node (leaf ok9) (leaf ok12)) (node (leaf ok18) (node (leaf ok20) (leaf ok21))))) (node (node (node (leaf ok22) (leaf ok23)) (node (leaf ok24) (node (leaf ok25) (leaf ok27)))) (node (node (leaf ok28) (leaf ok29)) (node (leaf ok30) (node (leaf ok37) (leaf ok38)))))) (node (node (node (node (leaf ok39) (leaf ok40)) (node (leaf ok41) (node (leaf ok42) (leaf ok43)))) (node (node (leaf ok47) (leaf ok48)) (node (leaf ok49) (node (leaf ok50) (leaf ok58))))) (node (node (node (leaf ok62) (leaf ok66)) (node (leaf ok76) (node (leaf ok77) (leaf ok94)))) (node (node (leaf ok104) (node (leaf ok105) (leaf ok107))) (node (leaf ok108) (node (leaf ok116) (leaf ok117))))))) (node (node (node (node (node (leaf ok120) (leaf ok121)) (node (leaf ok122) (node (leaf ok127) (leaf ok128)))) (node (node (leaf ok129) (leaf ok133)) (node (leaf ok134) (node (leaf ok141) (leaf ok145))))) (node (node (node (leaf ok150) (leaf ok151)) (node (leaf ok153) (node (leaf ok162) (leaf ok163)))) (node (node (leaf ok167) (node (leaf ok183) (leaf ok184))) (node (leaf ok186) (node (leaf ok187) (leaf ok194)))))) (node (node (node (node (leaf ok218) (leaf ok231)) (node (leaf ok232) (node (leaf ok233) (leaf ok235)))) (node (node (leaf ok237) (leaf ok238)) (node (leaf ok239) (node (leaf ok261) (leaf ok280))))) (node (node (node (leaf ok311) (leaf ok313)) (node (leaf ok314) (node (leaf ok325) (leaf ok331)))) (node (node (leaf ok338) (node (leaf ok344) (leaf ok348))) (node (leaf ok351) (node (leaf ok363) (leaf ok372)))))))
theorem mixed : Tryz.prog.follows .mixedOrders = true := by kernel_rfl
end Go.Proofs.YtnmoeeneofopcaaGreat.Pi
