/- The law FnExactProofName holds: for every input of its types the function returns true and leaves its arguments as they were. No condition. -/
import Derived.Test.YtphdicamabjbbaaPiG01
import Derived.Test.YtphdicamabjbbaaRows
import Derived.WalkKit
import Derived.ProofKit
import Derived.OpenShut
import Derived.SizedLaws
namespace Go.Proofs.Ytphdicamabjbbaa.Pi
open Go
set_option maxRecDepth 10000

theorem dec2 : Dec Try.prog 2 Int := Dec.int Try.underlying2 (by kernel_rfl)

open Go.ChangeShapes Go.WideShapes Go.ChangeAt Go.RowKit in
theorem lifted (os : Os) (started : os.Started) (H : Type) (enc : TypeId × Value → H) :
    ReturnsInHanded {} Try.checked os 3 .any (Rows.fnExactProofNameSpec.pre6 enc Try.prog Try.f3 Rows.fnExactProofNameRow.domain false) (Rows.fnExactProofNameSpec.post enc Try.prog Try.f3 false true false false) := by
  refine returnsInHanded_of_change_sized (C := Try.checked) own started (by kernel_rfl) Try.func3
    (ChangeSpec.witness6 (enc := enc) (C := Try.checked) false ⟨#[], #[.int .i64 0], []⟩ 8 (by kernel_rfl) (by kernel_rfl) (by kernel_rfl) (by kernel_rfl)) ?_
  intro W base args ds gs before hval hW _ _ _
  exact law_calls (S := [2]) (by kernel_rfl) (by kernel_rfl) (by decide +kernel) rfl rfl Try.underlying4 (fun ds h => by match ds, h with | [d0], _ => rfl)
    (fun yss h => by
      match yss, h with
      | [y0], ⟨⟨n0, h0⟩, _⟩ =>
        obtain ⟨x0, o0, rfl⟩ := dec2.2 n0 _ h0
        show Sat Try.prog 3 [(aggOf Try.prog 2, Enc.enc x0)] _
        rw [show aggOf Try.prog 2 = false by kernel_rfl]
        exact sat_law x0 o0) hval hW

theorem over : Rows.fnExactProofNameRow.holds Try.pinned (OpenSpec.ofChange Rows.fnExactProofNameSpec) :=
  OpenClaim.holds_of_wide 3 Try.f3 rfl rfl rfl rfl rfl rfl rfl ⟨rfl, rfl, rfl, rfl, rfl⟩ rfl rfl rfl rfl rfl (by kernel_rfl) Try.func3 (by kernel_rfl)
    (of_decide_eq_true (by kernel_rfl)) (by unfold Func.isWrapper; first | (rw [if_pos (by decide +kernel)]; kernel_rfl) | (rw [if_neg (by decide +kernel)]; exact ⟨rfl, rfl⟩))
    (fun os started H enc _ => lifted os started H enc)

end Go.Proofs.Ytphdicamabjbbaa.Pi
namespace Go.Proofs.Ytphdicamabjbbaa
/-- The row. -/
theorem fnExactProofName_holds : Rows.FnExactProofNameSaid := Pi.over
#print axioms fnExactProofName_holds
end Go.Proofs.Ytphdicamabjbbaa
