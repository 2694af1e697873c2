/- The law FnMerges holds: for every input of its types the function returns true and leaves its arguments as they were. No condition. -/
import Derived.Test.YtjolahiflldepabPiGFnMerges
import Derived.Test.YtjolahiflldepabRows
import Derived.WalkKit
import Derived.ProofKit
import Derived.OpenShut
import Derived.SizedLaws
namespace Go.Proofs.Ytjolahiflldepab.Pi
open Go
set_option maxRecDepth 10000

theorem dec5 : Dec Try.prog 5 UInt8 := Dec.u8 Try.underlying5 (by kernel_rfl)
theorem dec45 : Dec Try.prog 45 (List UInt8) := Dec.slice Try.underlying45 (by kernel_rfl) dec5

open Go.ChangeShapes Go.WideShapes Go.ChangeAt Go.RowKit in
theorem lifted (os : Os) (started : os.Started) (H : Type) (enc : TypeId × Value → H) :
    ReturnsInHanded {} Try.checked os 6 .any (Rows.fnMergesSpec.pre6 enc Try.prog Try.f6 Rows.fnMergesRow.domain false) (Rows.fnMergesSpec.post enc Try.prog Try.f6 false true false false) := by
  refine returnsInHanded_of_change_sized (C := Try.checked) own started (by kernel_rfl) Try.func6
    (ChangeSpec.witness6 (enc := enc) (C := Try.checked) false ⟨#[], #[.slice none 0 0, .slice none 0 0], []⟩ 8 (by kernel_rfl) (by kernel_rfl) (by kernel_rfl) (by kernel_rfl)) ?_
  intro W base args ds gs before hval hW _ _ _
  exact law_calls (S := [5, 45]) (by kernel_rfl) (by kernel_rfl) (by decide +kernel) rfl rfl Try.underlying4 (fun ds h => by match ds, h with | [d0, d1], _ => rfl)
    (fun yss h => by
      match yss, h with
      | [y0, y1], ⟨⟨n0, h0⟩, ⟨n1, h1⟩, _⟩ =>
        obtain ⟨x0, o0, rfl⟩ := dec45.2 n0 _ h0
        obtain ⟨x1, o1, rfl⟩ := dec45.2 n1 _ h1
        show Sat Try.prog 6 [(aggOf Try.prog 45, Enc.enc x0), (aggOf Try.prog 45, Enc.enc x1)] _
        rw [show aggOf Try.prog 45 = false by kernel_rfl]
        exact sat_law x0 x1 o0 o1) (fun p h => by simp [laid] at h) hval hW

theorem over : Rows.fnMergesRow.holds Try.pinned (OpenSpec.ofChange Rows.fnMergesSpec) :=
  OpenClaim.holds_of_wide 6 Try.f6 rfl rfl rfl rfl rfl rfl rfl ⟨rfl, rfl, rfl, rfl, rfl⟩ rfl rfl rfl rfl rfl (by kernel_rfl) Try.func6 (by kernel_rfl)
    (of_decide_eq_true (by kernel_rfl)) (by unfold Func.isWrapper; first | (rw [if_pos (by decide +kernel)]; kernel_rfl) | (rw [if_neg (by decide +kernel)]; exact ⟨rfl, rfl⟩))
    (fun os started H enc _ => lifted os started H enc)

end Go.Proofs.Ytjolahiflldepab.Pi
namespace Go.Proofs.Ytjolahiflldepab
/-- The row. -/
theorem fnMerges_holds : Rows.FnMergesSaid := Pi.over
#print axioms fnMerges_holds
end Go.Proofs.Ytjolahiflldepab
