/- Worlds as plain values. No statement of the seat is proved here. -/
import Derived.Test.YtnmoeeneofopcaaPiEnc
namespace Go.Proofs.Ytnmoeeneofopcaa.Pi
open Go
set_option linter.unusedVariables false

structure Sheaf where
  base : Complex
  prime : Int
  stalks : List Int
  maps : List Matrix
instance : Enc Sheaf := ⟨fun s => [.slice 1 (s.base.simplices.map Enc.enc), .int .i64 s.prime, .slice 1 (s.stalks.map Enc.enc), .slice 4 (s.maps.map Enc.enc)], 4, fun s => Enc.ok s.base ∧ Enc.ok s.prime ∧ Enc.ok s.stalks ∧ Enc.ok s.maps, fun s => Enc.wt s.base + Enc.wt s.prime + Enc.wt s.stalks + Enc.wt s.maps, fun _ => rfl⟩
structure NamedComplex where
  name : ByteArray
  value : Complex
instance : Enc NamedComplex := ⟨fun s => [.str s.name, .slice 1 (s.value.simplices.map Enc.enc)], 2, fun s => Enc.ok s.name ∧ Enc.ok s.value, fun s => Enc.wt s.name + Enc.wt s.value, fun _ => rfl⟩
structure NamedSheaf where
  name : ByteArray
  value : Sheaf
instance : Enc NamedSheaf := ⟨fun s => [.str s.name, .slice 1 (s.value.base.simplices.map Enc.enc), .int .i64 s.value.prime, .slice 1 (s.value.stalks.map Enc.enc), .slice 4 (s.value.maps.map Enc.enc)], 5, fun s => Enc.ok s.name ∧ Enc.ok s.value, fun s => Enc.wt s.name + Enc.wt s.value, fun _ => rfl⟩
structure World where
  complexes : List NamedComplex
  sheaves : List NamedSheaf
instance : Enc World := ⟨fun s => [.slice 2 (s.complexes.map Enc.enc), .slice 5 (s.sheaves.map Enc.enc)], 2, fun s => Enc.ok s.complexes ∧ Enc.ok s.sheaves, fun s => Enc.wt s.complexes + Enc.wt s.sheaves, fun _ => rfl⟩

end Go.Proofs.Ytnmoeeneofopcaa.Pi
