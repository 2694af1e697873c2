/- Where the library's sort by a function lies in this program. No statement of the seat is proved here. -/
import Derived.Test.YtnmoeeneofopcaaGreatPiAgree
import Derived.Test.YtnmoeeneofopcaaGreatProg
namespace Go.Proofs.YtnmoeeneofopcaaGreat.Pi
open Go.Shelf

def laysSlF6_f340_ren : Go.Shelf.Ren := ⟨fun | 6 => 340 | 15 => 306 | 14 => 351 | 28 => 337 | 29 => 338 | 20 => 354 | 21 => 355 | 22 => 356 | 23 => 357 | 24 => 358 | 25 => 359 | 26 => 360 | 27 => 361 | 46 => 362 | 47 => 347 | 48 => 348 | 49 => 363 | 50 => 364 | 57 => 365 | n => n, fun | 22 => 37 | 24 => 40 | 25 => 274 | 3 => 3 | 39 => 280 | 0 => 0 | 53 => 338 | 55 => 237 | 4 => 4 | 46 => 332 | 45 => 331 | 50 => 101 | 5 => 5 | 9 => 9 | 66 => 344 | 70 => 348 | 76 => 351 | 77 => 352 | n => n, fun | n => n⟩
theorem laysSlF6_f340 : Go.Proofs.SlLaysF.n6 Tryz.prog laysSlF6_f340_ren := {
  mixed := by kernel_rfl
  f6 := ⟨Tryz.f340.name, by decide, Tryz.func340.trans (congrArg some (by kernel_rfl))⟩
  f14 := ⟨Tryz.f351.name, by decide, Tryz.func351.trans (congrArg some (by kernel_rfl))⟩
  f15 := Tryz.func306.trans (congrArg some (by kernel_rfl))
  f20 := ⟨Tryz.f354.name, by decide, Tryz.func354.trans (congrArg some (by kernel_rfl))⟩
  f21 := ⟨Tryz.f355.name, by decide, Tryz.func355.trans (congrArg some (by kernel_rfl))⟩
  f22 := ⟨Tryz.f356.name, by decide, Tryz.func356.trans (congrArg some (by kernel_rfl))⟩
  f23 := ⟨Tryz.f357.name, by decide, Tryz.func357.trans (congrArg some (by kernel_rfl))⟩
  f24 := ⟨Tryz.f358.name, by decide, Tryz.func358.trans (congrArg some (by kernel_rfl))⟩
  f25 := ⟨Tryz.f359.name, by decide, Tryz.func359.trans (congrArg some (by kernel_rfl))⟩
  f26 := ⟨Tryz.f360.name, by decide, Tryz.func360.trans (congrArg some (by kernel_rfl))⟩
  f27 := ⟨Tryz.f361.name, by decide, Tryz.func361.trans (congrArg some (by kernel_rfl))⟩
  f28 := Tryz.func337.trans (congrArg some (by kernel_rfl))
  f29 := Tryz.func338.trans (congrArg some (by kernel_rfl))
  f46 := ⟨Tryz.f362.name, by decide, Tryz.func362.trans (congrArg some (by kernel_rfl))⟩
  f47 := Tryz.func347.trans (congrArg some (by kernel_rfl))
  f48 := Tryz.func348.trans (congrArg some (by kernel_rfl))
  f49 := ⟨Tryz.f363.name, by decide, Tryz.func363.trans (congrArg some (by kernel_rfl))⟩
  f50 := ⟨Tryz.f364.name, by decide, Tryz.func364.trans (congrArg some (by kernel_rfl))⟩
  f57 := ⟨Tryz.f365.name, by decide, Tryz.func365.trans (congrArg some (by kernel_rfl))⟩
  t0 := Tryz.underlying0
  a0 := Tryz.isAgg0
  z0 := Tryz.sizeOf0
  v0 := Tryz.zeroValue0
  t3 := Tryz.underlying3
  a3 := Tryz.isAgg3
  z3 := Tryz.sizeOf3
  v3 := Tryz.zeroValue3
  t4 := Tryz.underlying4
  a4 := Tryz.isAgg4
  z4 := Tryz.sizeOf4
  v4 := Tryz.zeroValue4
  t5 := Tryz.underlying5
  a5 := Tryz.isAgg5
  z5 := Tryz.sizeOf5
  v5 := Tryz.zeroValue5
  t9 := Tryz.underlying9
  a9 := Tryz.isAgg9
  z9 := Tryz.sizeOf9
  v9 := Tryz.zeroValue9
  t22 := Tryz.underlying37
  a22 := Tryz.isAgg37
  z22 := Tryz.sizeOf37
  v22 := Tryz.zeroValue37
  a24 := Tryz.isAgg40
  z24 := Tryz.sizeOf40
  t25 := Tryz.underlying274
  a25 := Tryz.isAgg274
  z25 := Tryz.sizeOf274
  v25 := Tryz.zeroValue274
  t39 := Tryz.underlying280
  a39 := Tryz.isAgg280
  z39 := Tryz.sizeOf280
  v39 := Tryz.zeroValue280
  t45 := Tryz.underlying331
  a45 := Tryz.isAgg331
  z45 := Tryz.sizeOf331
  v45 := Tryz.zeroValue331
  t46 := Tryz.underlying332
  a46 := Tryz.isAgg332
  z46 := Tryz.sizeOf332
  v46 := Tryz.zeroValue332
  t50 := Tryz.underlying101
  a50 := Tryz.isAgg101
  z50 := Tryz.sizeOf101
  v50 := Tryz.zeroValue101
  t53 := Tryz.underlying338
  a53 := Tryz.isAgg338
  z53 := Tryz.sizeOf338
  v53 := Tryz.zeroValue338
  t55 := Tryz.underlying237
  a55 := Tryz.isAgg237
  z55 := Tryz.sizeOf237
  v55 := Tryz.zeroValue237
  t66 := Tryz.underlying344
  a66 := Tryz.isAgg344
  z66 := Tryz.sizeOf344
  v66 := Tryz.zeroValue344
  t70 := Tryz.underlying348
  a70 := Tryz.isAgg348
  z70 := Tryz.sizeOf348
  v70 := Tryz.zeroValue348
  t76 := Tryz.underlying351
  a76 := Tryz.isAgg351
  z76 := Tryz.sizeOf351
  v76 := Tryz.zeroValue351
  t77 := Tryz.underlying352
  a77 := Tryz.isAgg352
  z77 := Tryz.sizeOf352
  v77 := Tryz.zeroValue352 }

theorem s_SortFuncS (xs : List (List Int)) (hb : xs.length < 4611686018427387904) (hq : ∀ x ∈ xs, x.length ≤ 1048576) : SatM Tryz.prog 340 [.one (.rs 1000000), .one (.c (.fn 233 []))] [(1000000, .arr 1 (xs.map Enc.enc))] (.tup [], [(1000000, .arr 1 ((srtS xs).map Enc.enc))]) :=
  s_SortFuncG laysSlF6_f340 ⟨_, Tryz.func340, rfl, rfl⟩ 233 (fun x : List Int => .slice 1 (x.map (Enc.enc (α := Int)))) (fun x => x.length ≤ 1048576) cmpS swo_cmpS tot_cmpS (fun x y hx _ => s_compareSimplices x y hx) xs hq hb
theorem s_SortFuncL (xs : List (List Int)) (hb : xs.length < 4611686018427387904) (hq : ∀ x ∈ xs, x.length ≤ 1048576) : SatM Tryz.prog 340 [.one (.rs 1000000), .one (.c (.fn 291 []))] [(1000000, .arr 1 (xs.map Enc.enc))] (.tup [], [(1000000, .arr 1 ((srtL xs).map Enc.enc))]) :=
  s_SortFuncG laysSlF6_f340 ⟨_, Tryz.func340, rfl, rfl⟩ 291 (fun x : List Int => .slice 1 (x.map (Enc.enc (α := Int)))) (fun x => x.length ≤ 1048576) cmpL swo_cmpL tot_cmpL (fun x y hx _ => s_CompareInts x y hx) xs hq hb
end Go.Proofs.YtnmoeeneofopcaaGreat.Pi
