/- The table of the types is the program's. No statement of the seat is proved here. -/
import Derived.Test.YtlnjgoeicanehaaGreatPiE
import Derived.Test.YtlnjgoeicanehaaGreatPiTT
import Derived.Test.YtlnjgoeicanehaaGreatChecked
import Derived.KernelRfl
namespace Go.Proofs.YtlnjgoeicanehaaGreat.Pi
open Go
theorem node {P : Program} {t : Nat} {b : Bool} {A B : TI} (ha : tiOk P t A = true) (hb : tiOk P t B = true) : tiOk P t (match b with | true => A | false => B) = true := by cases b <;> assumption
theorem leaf {P : Program} {t k : Nat} {A : TI} (h : tiOk P k A = true) : tiOk P t (match Nat.beq t k with | true => A | false => tid) = true := by
  cases hb : Nat.beq t k with
  | true => rw [beq_iff.1 hb]; exact h
  | false => rfl
theorem ok2 : tiOk Tryz.prog 2 ti2 = true := by kernel_rfl
theorem ok3 : tiOk Tryz.prog 3 ti3 = true := by kernel_rfl
theorem ok4 : tiOk Tryz.prog 4 ti4 = true := by kernel_rfl
theorem ok5 : tiOk Tryz.prog 5 ti5 = true := by kernel_rfl
theorem ok7 : tiOk Tryz.prog 7 ti7 = true := by kernel_rfl
theorem ok9 : tiOk Tryz.prog 9 ti9 = true := by kernel_rfl
theorem ok12 : tiOk Tryz.prog 12 ti12 = true := by kernel_rfl
theorem ok20 : tiOk Tryz.prog 20 ti20 = true := by kernel_rfl
theorem ok21 : tiOk Tryz.prog 21 ti21 = true := by kernel_rfl
theorem ok22 : tiOk Tryz.prog 22 ti22 = true := by kernel_rfl
theorem ok23 : tiOk Tryz.prog 23 ti23 = true := by kernel_rfl
theorem ok24 : tiOk Tryz.prog 24 ti24 = true := by kernel_rfl
theorem ok25 : tiOk Tryz.prog 25 ti25 = true := by kernel_rfl
theorem ok28 : tiOk Tryz.prog 28 ti28 = true := by kernel_rfl
theorem ok29 : tiOk Tryz.prog 29 ti29 = true := by kernel_rfl
theorem ok30 : tiOk Tryz.prog 30 ti30 = true := by kernel_rfl
theorem ok31 : tiOk Tryz.prog 31 ti31 = true := by kernel_rfl
theorem ok35 : tiOk Tryz.prog 35 ti35 = true := by kernel_rfl
theorem ok36 : tiOk Tryz.prog 36 ti36 = true := by kernel_rfl
theorem ok37 : tiOk Tryz.prog 37 ti37 = true := by kernel_rfl
theorem ok44 : tiOk Tryz.prog 44 ti44 = true := by kernel_rfl
theorem ok45 : tiOk Tryz.prog 45 ti45 = true := by kernel_rfl
theorem ok46 : tiOk Tryz.prog 46 ti46 = true := by kernel_rfl
theorem ok47 : tiOk Tryz.prog 47 ti47 = true := by kernel_rfl
theorem ok54 : tiOk Tryz.prog 54 ti54 = true := by kernel_rfl
theorem ok55 : tiOk Tryz.prog 55 ti55 = true := by kernel_rfl
theorem ok56 : tiOk Tryz.prog 56 ti56 = true := by kernel_rfl
theorem ok57 : tiOk Tryz.prog 57 ti57 = true := by kernel_rfl
theorem ok69 : tiOk Tryz.prog 69 ti69 = true := by kernel_rfl
theorem ok72 : tiOk Tryz.prog 72 ti72 = true := by kernel_rfl
theorem ok80 : tiOk Tryz.prog 80 ti80 = true := by kernel_rfl
theorem ok81 : tiOk Tryz.prog 81 ti81 = true := by kernel_rfl
theorem ok85 : tiOk Tryz.prog 85 ti85 = true := by kernel_rfl
theorem ok86 : tiOk Tryz.prog 86 ti86 = true := by kernel_rfl
theorem ok93 : tiOk Tryz.prog 93 ti93 = true := by kernel_rfl
theorem ok102 : tiOk Tryz.prog 102 ti102 = true := by kernel_rfl
theorem ok113 : tiOk Tryz.prog 113 ti113 = true := by kernel_rfl
theorem ok122 : tiOk Tryz.prog 122 ti122 = true := by kernel_rfl
theorem ok123 : tiOk Tryz.prog 123 ti123 = true := by kernel_rfl
theorem ok124 : tiOk Tryz.prog 124 ti124 = true := by kernel_rfl
theorem ok128 : tiOk Tryz.prog 128 ti128 = true := by kernel_rfl
theorem ok129 : tiOk Tryz.prog 129 ti129 = true := by kernel_rfl
theorem ok132 : tiOk Tryz.prog 132 ti132 = true := by kernel_rfl
theorem ok133 : tiOk Tryz.prog 133 ti133 = true := by kernel_rfl
theorem ok135 : tiOk Tryz.prog 135 ti135 = true := by kernel_rfl
theorem ok136 : tiOk Tryz.prog 136 ti136 = true := by kernel_rfl
theorem ok160 : tiOk Tryz.prog 160 ti160 = true := by kernel_rfl
theorem ok161 : tiOk Tryz.prog 161 ti161 = true := by kernel_rfl
theorem ok167 : tiOk Tryz.prog 167 ti167 = true := by kernel_rfl
theorem ok172 : tiOk Tryz.prog 172 ti172 = true := by kernel_rfl
theorem ok190 : tiOk Tryz.prog 190 ti190 = true := by kernel_rfl
theorem ok197 : tiOk Tryz.prog 197 ti197 = true := by kernel_rfl
theorem ok199 : tiOk Tryz.prog 199 ti199 = true := by kernel_rfl
theorem ok200 : tiOk Tryz.prog 200 ti200 = true := by kernel_rfl
theorem ok204 : tiOk Tryz.prog 204 ti204 = true := by kernel_rfl
theorem ok217 : tiOk Tryz.prog 217 ti217 = true := by kernel_rfl
theorem ok225 : tiOk Tryz.prog 225 ti225 = true := by kernel_rfl
theorem ok243 : tiOk Tryz.prog 243 ti243 = true := by kernel_rfl
theorem ok247 : tiOk Tryz.prog 247 ti247 = true := by kernel_rfl
theorem tok : TOK Tryz.prog tt := fun _ => node (node (node (node (node (leaf ok2) (node (leaf ok3) (leaf ok4))) (node (node (leaf ok5) (leaf ok7)) (node (leaf ok9) (leaf ok12)))) (node (node (leaf ok20) (node (leaf ok21) (leaf ok22))) (node (node (leaf ok23) (leaf ok24)) (node (leaf ok25) (leaf ok28))))) (node (node (node (leaf ok29) (node (leaf ok30) (leaf ok31))) (node (node (leaf ok35) (leaf ok36)) (node (leaf ok37) (leaf ok44)))) (node (node (node (leaf ok45) (leaf ok46)) (node (leaf ok47) (leaf ok54))) (node (node (leaf ok55) (leaf ok56)) (node (leaf ok57) (leaf ok69)))))) (node (node (node (node (leaf ok72) (node (leaf ok80) (leaf ok81))) (node (node (leaf ok85) (leaf ok86)) (node (leaf ok93) (leaf ok102)))) (node (node (node (leaf ok113) (leaf ok122)) (node (leaf ok123) (leaf ok124))) (node (node (leaf ok128) (leaf ok129)) (node (leaf ok132) (leaf ok133))))) (node (node (node (leaf ok135) (node (leaf ok136) (leaf ok160))) (node (node (leaf ok161) (leaf ok167)) (node (leaf ok172) (leaf ok190)))) (node (node (node (leaf ok197) (leaf ok199)) (node (leaf ok200) (leaf ok204))) (node (node (leaf ok217) (leaf ok225)) (node (leaf ok243) (leaf ok247))))))
theorem mixed : Tryz.prog.follows .mixedOrders = true := by kernel_rfl
end Go.Proofs.YtlnjgoeicanehaaGreat.Pi
