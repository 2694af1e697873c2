/- The law FnExactSameItems holds: for every input of its types the function returns true and leaves its arguments as they were. No condition. -/
import Derived.Test.YtphdicamabjbbaaPiGSameItems
import Derived.Test.YtphdicamabjbbaaRows
import Derived.WalkKit
import Derived.ProofKit
import Derived.OpenShut
import Derived.SizedLaws
namespace Go.Proofs.Ytphdicamabjbbaa.Pi
open Go
set_option maxRecDepth 10000

theorem dec9 : Dec Try.prog 9 ByteArray := Dec.str Try.underlying9 (by kernel_rfl)
theorem dec58 : Dec Try.prog 58 (List ByteArray) := Dec.slice Try.underlying58 (by kernel_rfl) dec9
theorem dec2 : Dec Try.prog 2 Int := Dec.int Try.underlying2 (by kernel_rfl)
theorem dec69 : Dec Try.prog 69 Item := ⟨by kernel_rfl, fun n cs h => by
  obtain ⟨m, g0⟩ := hasT_struct Try.underlying69 h
  obtain ⟨a0, b0, rfl, h0, g1⟩ := hasFs_cons g0
  obtain ⟨x0, o0, rfl⟩ := dec9.2 _ _ h0
  obtain ⟨a1, b1, rfl, h1, g2⟩ := hasFs_cons g1
  obtain ⟨x1, o1, rfl⟩ := dec58.2 _ _ h1
  obtain ⟨a2, b2, rfl, h2, g3⟩ := hasFs_cons g2
  obtain ⟨x2, o2, rfl⟩ := dec2.2 _ _ h2
  obtain ⟨a3, b3, rfl, h3, g4⟩ := hasFs_cons g3
  obtain ⟨x3, o3, rfl⟩ := dec2.2 _ _ h3
  obtain rfl := hasFs_nil g4
  exact ⟨⟨x0, x1, x2, x3⟩, ⟨o0, o1, o2, o3⟩, rfl⟩⟩
theorem dec32 : Dec Try.prog 32 (List Item) := Dec.slice Try.underlying32 (by kernel_rfl) dec69

open Go.ChangeShapes Go.WideShapes Go.ChangeAt Go.RowKit in
theorem lifted (os : Os) (started : os.Started) (H : Type) (enc : TypeId × Value → H) :
    ReturnsInHanded {} Try.checked os 6 .any (Rows.fnExactSameItemsSpec.pre6 enc Try.prog Try.f6 Rows.fnExactSameItemsRow.domain false) (Rows.fnExactSameItemsSpec.post enc Try.prog Try.f6 false true false false) := by
  refine returnsInHanded_of_change_sized (C := Try.checked) own started (by kernel_rfl) Try.func6
    (ChangeSpec.witness6 (enc := enc) (C := Try.checked) false ⟨#[], #[.slice none 0 0, .slice none 0 0], []⟩ 8 (by kernel_rfl) (by kernel_rfl) (by kernel_rfl) (by kernel_rfl)) ?_
  intro W base args ds gs before hval hW _ _ _
  exact law_calls (S := [9, 58, 2, 69, 32]) (by kernel_rfl) (by kernel_rfl) (by decide +kernel) rfl rfl Try.underlying4 (fun ds h => by match ds, h with | [d0, d1], _ => rfl)
    (fun yss h => by
      match yss, h with
      | [y0, y1], ⟨⟨n0, h0⟩, ⟨n1, h1⟩, _⟩ =>
        obtain ⟨x0, o0, rfl⟩ := dec32.2 n0 _ h0
        obtain ⟨x1, o1, rfl⟩ := dec32.2 n1 _ h1
        show Sat Try.prog 6 [(aggOf Try.prog 32, Enc.enc x0), (aggOf Try.prog 32, Enc.enc x1)] _
        rw [show aggOf Try.prog 32 = false by kernel_rfl]
        exact sat_law x0 x1 o0 o1) hval hW

theorem over : Rows.fnExactSameItemsRow.holds Try.pinned (OpenSpec.ofChange Rows.fnExactSameItemsSpec) :=
  OpenClaim.holds_of_wide 6 Try.f6 rfl rfl rfl rfl rfl rfl rfl ⟨rfl, rfl, rfl, rfl, rfl⟩ rfl rfl rfl rfl rfl (by kernel_rfl) Try.func6 (by kernel_rfl)
    (of_decide_eq_true (by kernel_rfl)) (by unfold Func.isWrapper; first | (rw [if_pos (by decide +kernel)]; kernel_rfl) | (rw [if_neg (by decide +kernel)]; exact ⟨rfl, rfl⟩))
    (fun os started H enc _ => lifted os started H enc)

end Go.Proofs.Ytphdicamabjbbaa.Pi
namespace Go.Proofs.Ytphdicamabjbbaa
/-- The row. -/
theorem fnExactSameItems_holds : Rows.FnExactSameItemsSaid := Pi.over
#print axioms fnExactSameItems_holds
end Go.Proofs.Ytphdicamabjbbaa
