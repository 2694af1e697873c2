/- The law FnExactLostRows holds: for every input of its types the function returns true and leaves its arguments as they were. No condition. -/
import Derived.Test.YtnmoeeneofopcaaPiGLostRows
import Derived.Test.YtnmoeeneofopcaaRows
import Derived.WalkKit
import Derived.ProofKit
import Derived.OpenShut
import Derived.SizedLaws
namespace Go.Proofs.Ytnmoeeneofopcaa.Pi
open Go
set_option maxRecDepth 10000

theorem dec2 : Dec Try.prog 2 Int := Dec.int Try.underlying2 (by kernel_rfl)
theorem dec61 : Dec Try.prog 61 (List Int) := Dec.slice Try.underlying61 (by kernel_rfl) dec2
theorem dec22 : Dec Try.prog 22 (List (List Int)) := Dec.slice Try.underlying22 (by kernel_rfl) dec61
theorem dec84 : Dec Try.prog 84 Table := ⟨by kernel_rfl, fun n cs h => by
  obtain ⟨m, g0⟩ := hasT_struct Try.underlying84 h
  obtain ⟨a0, b0, rfl, h0, g1⟩ := hasFs_cons g0
  obtain ⟨x0, o0, rfl⟩ := dec61.2 _ _ h0
  obtain ⟨a1, b1, rfl, h1, g2⟩ := hasFs_cons g1
  obtain ⟨x1, o1, rfl⟩ := dec22.2 _ _ h1
  obtain rfl := hasFs_nil g2
  exact ⟨⟨x0, x1⟩, ⟨o0, o1⟩, rfl⟩⟩
theorem dec35 : Dec Try.prog 35 (List Table) := Dec.slice Try.underlying35 (by kernel_rfl) dec84

open Go.ChangeShapes Go.WideShapes Go.ChangeAt Go.RowKit in
theorem lifted (os : Os) (started : os.Started) (H : Type) (enc : TypeId × Value → H) :
    ReturnsInHanded {} Try.checked os 4 .any (Rows.fnExactLostRowsSpec.pre6 enc Try.prog Try.f4 Rows.fnExactLostRowsRow.domain false) (Rows.fnExactLostRowsSpec.post enc Try.prog Try.f4 false true false false) := by
  refine returnsInHanded_of_change_sized (C := Try.checked) own started (by kernel_rfl) Try.func4
    (ChangeSpec.witness6 (enc := enc) (C := Try.checked) false ⟨#[], #[.slice none 0 0, .int .i64 0], []⟩ 8 (by kernel_rfl) (by kernel_rfl) (by kernel_rfl) (by kernel_rfl)) ?_
  intro W base args ds gs before hval hW _ _ _
  exact law_calls (S := [2, 61, 22, 84, 35]) (by kernel_rfl) (by kernel_rfl) (by decide +kernel) rfl rfl Try.underlying4 (fun ds h => by match ds, h with | [d0, d1], _ => rfl)
    (fun yss h => by
      match yss, h with
      | [y0, y1], ⟨⟨n0, h0⟩, ⟨n1, h1⟩, _⟩ =>
        obtain ⟨x0, o0, rfl⟩ := dec35.2 n0 _ h0
        obtain ⟨x1, o1, rfl⟩ := dec2.2 n1 _ h1
        show Sat Try.prog 4 [(aggOf Try.prog 35, Enc.enc x0), (aggOf Try.prog 2, Enc.enc x1)] _
        rw [show aggOf Try.prog 35 = false by kernel_rfl, show aggOf Try.prog 2 = false by kernel_rfl]
        exact sat_law x0 x1 o0 o1) hval hW

theorem over : Rows.fnExactLostRowsRow.holds Try.pinned (OpenSpec.ofChange Rows.fnExactLostRowsSpec) :=
  OpenClaim.holds_of_wide 4 Try.f4 rfl rfl rfl rfl rfl rfl rfl ⟨rfl, rfl, rfl, rfl, rfl⟩ rfl rfl rfl rfl rfl (by kernel_rfl) Try.func4 (by kernel_rfl)
    (of_decide_eq_true (by kernel_rfl)) (by unfold Func.isWrapper; first | (rw [if_pos (by decide +kernel)]; kernel_rfl) | (rw [if_neg (by decide +kernel)]; exact ⟨rfl, rfl⟩))
    (fun os started H enc _ => lifted os started H enc)

end Go.Proofs.Ytnmoeeneofopcaa.Pi
namespace Go.Proofs.Ytnmoeeneofopcaa
/-- The row. -/
theorem fnExactLostRows_holds : Rows.FnExactLostRowsSaid := Pi.over
#print axioms fnExactLostRows_holds
end Go.Proofs.Ytnmoeeneofopcaa
