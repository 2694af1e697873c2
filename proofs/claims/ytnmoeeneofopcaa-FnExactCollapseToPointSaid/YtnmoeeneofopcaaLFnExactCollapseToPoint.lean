/- The law FnExactCollapseToPoint holds: for every input of its types the function returns true and leaves its arguments as they were. No condition. -/
import Derived.Test.YtnmoeeneofopcaaPiGCollapseToPoint
import Derived.Test.YtnmoeeneofopcaaRows
import Derived.WalkKit
import Derived.ProofKit
import Derived.OpenShut
import Derived.SizedLaws
namespace Go.Proofs.Ytnmoeeneofopcaa.Pi
open Go
set_option maxRecDepth 10000

theorem dec2 : Dec Try.prog 2 Int := Dec.int Try.underlying2 (by kernel_rfl)
theorem dec61 : Dec Try.prog 61 (List Int) := Dec.slice Try.underlying61 (by kernel_rfl) dec2
theorem dec22 : Dec Try.prog 22 (List (List Int)) := Dec.slice Try.underlying22 (by kernel_rfl) dec61
theorem dec24 : Dec Try.prog 24 Complex := ⟨by kernel_rfl, fun n cs h => by
  obtain ⟨m, g0⟩ := hasT_struct Try.underlying24 h
  obtain ⟨a0, b0, rfl, h0, g1⟩ := hasFs_cons g0
  obtain ⟨x0, o0, rfl⟩ := dec22.2 _ _ h0
  obtain rfl := hasFs_nil g1
  exact ⟨⟨x0⟩, o0, rfl⟩⟩

open Go.ChangeShapes Go.WideShapes Go.ChangeAt Go.RowKit in
theorem lifted (os : Os) (started : os.Started) (H : Type) (enc : TypeId × Value → H) :
    ReturnsInHanded {} Try.checked os 3 .any (Rows.fnExactCollapseToPointSpec.pre6 enc Try.prog Try.f3 Rows.fnExactCollapseToPointRow.domain false) (Rows.fnExactCollapseToPointSpec.post enc Try.prog Try.f3 false true false false) := by
  refine returnsInHanded_of_change_sized (C := Try.checked) own started (by kernel_rfl) Try.func3
    (ChangeSpec.witness6 (enc := enc) (C := Try.checked) false ⟨#[], #[.agg #[.slice none 0 0], .int .i64 0], []⟩ 8 (by kernel_rfl) (by kernel_rfl) (by kernel_rfl) (by kernel_rfl)) ?_
  intro W base args ds gs before hval hW _ _ _
  exact law_calls (S := [2, 61, 22, 24]) (by kernel_rfl) (by kernel_rfl) (by decide +kernel) rfl rfl Try.underlying4 (fun ds h => by match ds, h with | [d0, d1], _ => rfl)
    (fun yss h => by
      match yss, h with
      | [y0, y1], ⟨⟨n0, h0⟩, ⟨n1, h1⟩, _⟩ =>
        obtain ⟨x0, o0, rfl⟩ := dec24.2 n0 _ h0
        obtain ⟨x1, o1, rfl⟩ := dec2.2 n1 _ h1
        show Sat Try.prog 3 [(aggOf Try.prog 24, Enc.enc x0), (aggOf Try.prog 2, Enc.enc x1)] _
        rw [show aggOf Try.prog 24 = true by kernel_rfl, show aggOf Try.prog 2 = false by kernel_rfl]
        exact sat_law x0 x1 o0 o1) hval hW

theorem over : Rows.fnExactCollapseToPointRow.holds Try.pinned (OpenSpec.ofChange Rows.fnExactCollapseToPointSpec) :=
  OpenClaim.holds_of_wide 3 Try.f3 rfl rfl rfl rfl rfl rfl rfl ⟨rfl, rfl, rfl, rfl, rfl⟩ rfl rfl rfl rfl rfl (by kernel_rfl) Try.func3 (by kernel_rfl)
    (of_decide_eq_true (by kernel_rfl)) (by unfold Func.isWrapper; first | (rw [if_pos (by decide +kernel)]; kernel_rfl) | (rw [if_neg (by decide +kernel)]; exact ⟨rfl, rfl⟩))
    (fun os started H enc _ => lifted os started H enc)

end Go.Proofs.Ytnmoeeneofopcaa.Pi
namespace Go.Proofs.Ytnmoeeneofopcaa
/-- The row. -/
theorem fnExactCollapseToPoint_holds : Rows.FnExactCollapseToPointSaid := Pi.over
#print axioms fnExactCollapseToPoint_holds
end Go.Proofs.Ytnmoeeneofopcaa
