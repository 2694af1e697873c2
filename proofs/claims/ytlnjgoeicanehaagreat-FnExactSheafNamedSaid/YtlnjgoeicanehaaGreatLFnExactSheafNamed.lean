/- The law FnExactSheafNamed holds: for every input of its types the function returns true and leaves its arguments as they were. No condition. -/
import Derived.Test.YtlnjgoeicanehaaGreatPiGSheafNamed
import Derived.Test.YtlnjgoeicanehaaGreatRows
import Derived.WalkKit
import Derived.ProofKit
import Derived.OpenShut
import Derived.SizedLaws
namespace Go.Proofs.YtlnjgoeicanehaaGreat.Pi
open Go
set_option maxRecDepth 10000

theorem dec9 : Dec Tryz.prog 9 ByteArray := Dec.str Tryz.underlying9 (by kernel_rfl)
theorem dec2 : Dec Tryz.prog 2 Int := Dec.int Tryz.underlying2 (by kernel_rfl)
theorem dec44 : Dec Tryz.prog 44 (List Int) := Dec.slice Tryz.underlying44 (by kernel_rfl) dec2
theorem dec35 : Dec Tryz.prog 35 (List (List Int)) := Dec.slice Tryz.underlying35 (by kernel_rfl) dec44
theorem dec54 : Dec Tryz.prog 54 Complex := ⟨by kernel_rfl, fun n cs h => by
  obtain ⟨m, g0⟩ := hasT_struct Tryz.underlying54 h
  obtain ⟨a0, b0, rfl, h0, g1⟩ := hasFs_cons g0
  obtain ⟨x0, o0, rfl⟩ := dec35.2 _ _ h0
  obtain rfl := hasFs_nil g1
  exact ⟨⟨x0⟩, o0, rfl⟩⟩
theorem dec133 : Dec Tryz.prog 133 NamedComplex := ⟨by kernel_rfl, fun n cs h => by
  obtain ⟨m, g0⟩ := hasT_struct Tryz.underlying133 h
  obtain ⟨a0, b0, rfl, h0, g1⟩ := hasFs_cons g0
  obtain ⟨x0, o0, rfl⟩ := dec9.2 _ _ h0
  obtain ⟨a1, b1, rfl, h1, g2⟩ := hasFs_cons g1
  obtain ⟨x1, o1, rfl⟩ := dec54.2 _ _ h1
  obtain rfl := hasFs_nil g2
  exact ⟨⟨x0, x1⟩, ⟨o0, o1⟩, rfl⟩⟩
theorem dec22 : Dec Tryz.prog 22 (List NamedComplex) := Dec.slice Tryz.underlying22 (by kernel_rfl) dec133
theorem dec167 : Dec Tryz.prog 167 Matrix := ⟨by kernel_rfl, fun n cs h => by
  obtain ⟨m, g0⟩ := hasT_struct Tryz.underlying167 h
  obtain ⟨a0, b0, rfl, h0, g1⟩ := hasFs_cons g0
  obtain ⟨x0, o0, rfl⟩ := dec2.2 _ _ h0
  obtain ⟨a1, b1, rfl, h1, g2⟩ := hasFs_cons g1
  obtain ⟨x1, o1, rfl⟩ := dec2.2 _ _ h1
  obtain ⟨a2, b2, rfl, h2, g3⟩ := hasFs_cons g2
  obtain ⟨x2, o2, rfl⟩ := dec2.2 _ _ h2
  obtain ⟨a3, b3, rfl, h3, g4⟩ := hasFs_cons g3
  obtain ⟨x3, o3, rfl⟩ := dec44.2 _ _ h3
  obtain rfl := hasFs_nil g4
  exact ⟨⟨x0, x1, x2, x3⟩, ⟨o0, o1, o2, o3⟩, rfl⟩⟩
theorem dec55 : Dec Tryz.prog 55 (List Matrix) := Dec.slice Tryz.underlying55 (by kernel_rfl) dec167
theorem dec57 : Dec Tryz.prog 57 Sheaf := ⟨by kernel_rfl, fun n cs h => by
  obtain ⟨m, g0⟩ := hasT_struct Tryz.underlying57 h
  obtain ⟨a0, b0, rfl, h0, g1⟩ := hasFs_cons g0
  obtain ⟨x0, o0, rfl⟩ := dec54.2 _ _ h0
  obtain ⟨a1, b1, rfl, h1, g2⟩ := hasFs_cons g1
  obtain ⟨x1, o1, rfl⟩ := dec2.2 _ _ h1
  obtain ⟨a2, b2, rfl, h2, g3⟩ := hasFs_cons g2
  obtain ⟨x2, o2, rfl⟩ := dec44.2 _ _ h2
  obtain ⟨a3, b3, rfl, h3, g4⟩ := hasFs_cons g3
  obtain ⟨x3, o3, rfl⟩ := dec55.2 _ _ h3
  obtain rfl := hasFs_nil g4
  exact ⟨⟨x0, x1, x2, x3⟩, ⟨o0, o1, o2, o3⟩, rfl⟩⟩
theorem dec136 : Dec Tryz.prog 136 NamedSheaf := ⟨by kernel_rfl, fun n cs h => by
  obtain ⟨m, g0⟩ := hasT_struct Tryz.underlying136 h
  obtain ⟨a0, b0, rfl, h0, g1⟩ := hasFs_cons g0
  obtain ⟨x0, o0, rfl⟩ := dec9.2 _ _ h0
  obtain ⟨a1, b1, rfl, h1, g2⟩ := hasFs_cons g1
  obtain ⟨x1, o1, rfl⟩ := dec57.2 _ _ h1
  obtain rfl := hasFs_nil g2
  exact ⟨⟨x0, x1⟩, ⟨o0, o1⟩, rfl⟩⟩
theorem dec23 : Dec Tryz.prog 23 (List NamedSheaf) := Dec.slice Tryz.underlying23 (by kernel_rfl) dec136
theorem dec25 : Dec Tryz.prog 25 World := ⟨by kernel_rfl, fun n cs h => by
  obtain ⟨m, g0⟩ := hasT_struct Tryz.underlying25 h
  obtain ⟨a0, b0, rfl, h0, g1⟩ := hasFs_cons g0
  obtain ⟨x0, o0, rfl⟩ := dec22.2 _ _ h0
  obtain ⟨a1, b1, rfl, h1, g2⟩ := hasFs_cons g1
  obtain ⟨x1, o1, rfl⟩ := dec23.2 _ _ h1
  obtain rfl := hasFs_nil g2
  exact ⟨⟨x0, x1⟩, ⟨o0, o1⟩, rfl⟩⟩

open Go.ChangeShapes Go.WideShapes Go.ChangeAt Go.RowKit in
theorem lifted (os : Os) (started : os.Started) (H : Type) (enc : TypeId × Value → H) :
    ReturnsInHanded {} Tryz.checked os 5 .any (Rows.fnExactSheafNamedSpec.pre6 enc Tryz.prog Tryz.f5 Rows.fnExactSheafNamedRow.domain false) (Rows.fnExactSheafNamedSpec.post enc Tryz.prog Tryz.f5 false true false false) := by
  refine returnsInHanded_of_change_sized (C := Tryz.checked) own started (by kernel_rfl) Tryz.func5
    (ChangeSpec.witness6 (enc := enc) (C := Tryz.checked) false ⟨#[], #[.agg #[.slice none 0 0, .slice none 0 0], .string ⟨#[]⟩], []⟩ 8 (by kernel_rfl) (by kernel_rfl) (by kernel_rfl) (by kernel_rfl)) ?_
  intro W base args ds gs before hval hW _ _ _
  exact law_calls (S := [9, 2, 44, 35, 54, 133, 22, 167, 55, 57, 136, 23, 25]) (by kernel_rfl) (by kernel_rfl) (by decide +kernel) rfl rfl Tryz.underlying4 (fun ds h => by match ds, h with | [d0, d1], _ => rfl)
    (fun yss h => by
      match yss, h with
      | [y0, y1], ⟨⟨n0, h0⟩, ⟨n1, h1⟩, _⟩ =>
        obtain ⟨x0, o0, rfl⟩ := dec25.2 n0 _ h0
        obtain ⟨x1, o1, rfl⟩ := dec9.2 n1 _ h1
        show Sat Tryz.prog 5 [(aggOf Tryz.prog 25, Enc.enc x0), (aggOf Tryz.prog 9, Enc.enc x1)] _
        rw [show aggOf Tryz.prog 25 = true by kernel_rfl, show aggOf Tryz.prog 9 = false by kernel_rfl]
        exact sat_law x0 x1 o0 o1) hval hW

theorem over : Rows.fnExactSheafNamedRow.holds Tryz.pinned (OpenSpec.ofChange Rows.fnExactSheafNamedSpec) :=
  OpenClaim.holds_of_wide 5 Tryz.f5 rfl rfl rfl rfl rfl rfl rfl ⟨rfl, rfl, rfl, rfl, rfl⟩ rfl rfl rfl rfl rfl (by kernel_rfl) Tryz.func5 (by kernel_rfl)
    (of_decide_eq_true (by kernel_rfl)) (by unfold Func.isWrapper; first | (rw [if_pos (by decide +kernel)]; kernel_rfl) | (rw [if_neg (by decide +kernel)]; exact ⟨rfl, rfl⟩))
    (fun os started H enc _ => lifted os started H enc)

end Go.Proofs.YtlnjgoeicanehaaGreat.Pi
namespace Go.Proofs.YtlnjgoeicanehaaGreat
/-- The row. -/
theorem fnExactSheafNamed_holds : Rows.FnExactSheafNamedSaid := Pi.over
#print axioms fnExactSheafNamed_holds
end Go.Proofs.YtlnjgoeicanehaaGreat
