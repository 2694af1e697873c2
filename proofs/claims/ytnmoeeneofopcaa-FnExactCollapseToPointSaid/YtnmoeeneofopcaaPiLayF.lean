/- Where the library's sort by a function lies in this program. No statement of the seat is proved here. -/
import Derived.Test.YtnmoeeneofopcaaPiFSortF
import Derived.Test.YtnmoeeneofopcaaProg
namespace Go.Proofs.Ytnmoeeneofopcaa.Pi
open Go.Shelf

def laysSlF6_f157_ren : Go.Shelf.Ren := ⟨fun | 6 => 157 | 15 => 162 | 14 => 169 | 28 => 179 | 29 => 180 | 20 => 182 | 21 => 183 | 22 => 184 | 23 => 185 | 24 => 186 | 25 => 187 | 26 => 188 | 27 => 189 | 46 => 196 | 47 => 191 | 48 => 192 | 49 => 197 | 50 => 198 | 57 => 202 | n => n, fun | 22 => 22 | 24 => 61 | 25 => 128 | 3 => 3 | 39 => 182 | 0 => 0 | 53 => 198 | 55 => 141 | 4 => 4 | 46 => 192 | 45 => 191 | 50 => 162 | 5 => 5 | 9 => 9 | 66 => 206 | 70 => 210 | 76 => 214 | 77 => 215 | n => n, fun | n => n⟩
theorem laysSlF6_f157 : Go.Proofs.SlLaysF.n6 Try.prog laysSlF6_f157_ren := {
  mixed := by kernel_rfl
  f6 := ⟨Try.f157.name, by decide, Try.func157.trans (congrArg some (by kernel_rfl))⟩
  f14 := ⟨Try.f169.name, by decide, Try.func169.trans (congrArg some (by kernel_rfl))⟩
  f15 := Try.func162.trans (congrArg some (by kernel_rfl))
  f20 := ⟨Try.f182.name, by decide, Try.func182.trans (congrArg some (by kernel_rfl))⟩
  f21 := ⟨Try.f183.name, by decide, Try.func183.trans (congrArg some (by kernel_rfl))⟩
  f22 := ⟨Try.f184.name, by decide, Try.func184.trans (congrArg some (by kernel_rfl))⟩
  f23 := ⟨Try.f185.name, by decide, Try.func185.trans (congrArg some (by kernel_rfl))⟩
  f24 := ⟨Try.f186.name, by decide, Try.func186.trans (congrArg some (by kernel_rfl))⟩
  f25 := ⟨Try.f187.name, by decide, Try.func187.trans (congrArg some (by kernel_rfl))⟩
  f26 := ⟨Try.f188.name, by decide, Try.func188.trans (congrArg some (by kernel_rfl))⟩
  f27 := ⟨Try.f189.name, by decide, Try.func189.trans (congrArg some (by kernel_rfl))⟩
  f28 := Try.func179.trans (congrArg some (by kernel_rfl))
  f29 := Try.func180.trans (congrArg some (by kernel_rfl))
  f46 := ⟨Try.f196.name, by decide, Try.func196.trans (congrArg some (by kernel_rfl))⟩
  f47 := Try.func191.trans (congrArg some (by kernel_rfl))
  f48 := Try.func192.trans (congrArg some (by kernel_rfl))
  f49 := ⟨Try.f197.name, by decide, Try.func197.trans (congrArg some (by kernel_rfl))⟩
  f50 := ⟨Try.f198.name, by decide, Try.func198.trans (congrArg some (by kernel_rfl))⟩
  f57 := ⟨Try.f202.name, by decide, Try.func202.trans (congrArg some (by kernel_rfl))⟩
  t0 := Try.underlying0
  a0 := Try.isAgg0
  z0 := Try.sizeOf0
  v0 := Try.zeroValue0
  t3 := Try.underlying3
  a3 := Try.isAgg3
  z3 := Try.sizeOf3
  v3 := Try.zeroValue3
  t4 := Try.underlying4
  a4 := Try.isAgg4
  z4 := Try.sizeOf4
  v4 := Try.zeroValue4
  t5 := Try.underlying5
  a5 := Try.isAgg5
  z5 := Try.sizeOf5
  v5 := Try.zeroValue5
  t9 := Try.underlying9
  a9 := Try.isAgg9
  z9 := Try.sizeOf9
  v9 := Try.zeroValue9
  t22 := Try.underlying22
  a22 := Try.isAgg22
  z22 := Try.sizeOf22
  v22 := Try.zeroValue22
  a24 := Try.isAgg61
  z24 := Try.sizeOf61
  t25 := Try.underlying128
  a25 := Try.isAgg128
  z25 := Try.sizeOf128
  v25 := Try.zeroValue128
  t39 := Try.underlying182
  a39 := Try.isAgg182
  z39 := Try.sizeOf182
  v39 := Try.zeroValue182
  t45 := Try.underlying191
  a45 := Try.isAgg191
  z45 := Try.sizeOf191
  v45 := Try.zeroValue191
  t46 := Try.underlying192
  a46 := Try.isAgg192
  z46 := Try.sizeOf192
  v46 := Try.zeroValue192
  t50 := Try.underlying162
  a50 := Try.isAgg162
  z50 := Try.sizeOf162
  v50 := Try.zeroValue162
  t53 := Try.underlying198
  a53 := Try.isAgg198
  z53 := Try.sizeOf198
  v53 := Try.zeroValue198
  t55 := Try.underlying141
  a55 := Try.isAgg141
  z55 := Try.sizeOf141
  v55 := Try.zeroValue141
  t66 := Try.underlying206
  a66 := Try.isAgg206
  z66 := Try.sizeOf206
  v66 := Try.zeroValue206
  t70 := Try.underlying210
  a70 := Try.isAgg210
  z70 := Try.sizeOf210
  v70 := Try.zeroValue210
  t76 := Try.underlying214
  a76 := Try.isAgg214
  z76 := Try.sizeOf214
  v76 := Try.zeroValue214
  t77 := Try.underlying215
  a77 := Try.isAgg215
  z77 := Try.sizeOf215
  v77 := Try.zeroValue215 }

theorem s_SortFuncS (xs : List (List Int)) (hb : xs.length < 4611686018427387904) (hq : ∀ x ∈ xs, x.length ≤ 1048576) : SatM Try.prog 157 [.one (.rs 1000000), .one (.c (.fn 86 []))] [(1000000, .arr 1 (xs.map Enc.enc))] (.tup [], [(1000000, .arr 1 ((srtS xs).map Enc.enc))]) :=
  s_SortFuncG laysSlF6_f157 ⟨_, Try.func157, rfl, rfl⟩ 86 (fun x : List Int => .slice 1 (x.map (Enc.enc (α := Int)))) (fun x => x.length ≤ 1048576) cmpS swo_cmpS tot_cmpS (fun x y hx _ => s_compareSimplices x y hx) xs hq hb
end Go.Proofs.Ytnmoeeneofopcaa.Pi
