/- The law FnExactAncestorsOf holds: for every input of its types the function returns true and leaves its arguments as they were. No condition. -/
import Derived.Test.YtjolahiflldepaaPiGAncestorsOf
import Derived.Test.YtjolahiflldepaaRows
import Derived.WalkKit
import Derived.ProofKit
import Derived.OpenShut
import Derived.SizedLaws
namespace Go.Proofs.Ytjolahiflldepaa.Pi
open Go
set_option maxRecDepth 10000

theorem dec2 : Dec Try.prog 2 Int := Dec.int Try.underlying2 (by kernel_rfl)
theorem dec9 : Dec Try.prog 9 ByteArray := Dec.str Try.underlying9 (by kernel_rfl)
theorem dec80 : Dec Try.prog 80 Setting := ⟨by kernel_rfl, fun n cs h => by
  obtain ⟨m, g0⟩ := hasT_struct Try.underlying80 h
  obtain ⟨a0, b0, rfl, h0, g1⟩ := hasFs_cons g0
  obtain ⟨x0, o0, rfl⟩ := dec9.2 _ _ h0
  obtain ⟨a1, b1, rfl, h1, g2⟩ := hasFs_cons g1
  obtain ⟨x1, o1, rfl⟩ := dec2.2 _ _ h1
  obtain rfl := hasFs_nil g2
  exact ⟨⟨x0, x1⟩, ⟨o0, o1⟩, rfl⟩⟩
theorem dec34 : Dec Try.prog 34 (List Setting) := Dec.slice Try.underlying34 (by kernel_rfl) dec80
theorem dec68 : Dec Try.prog 68 Version := ⟨by kernel_rfl, fun n cs h => by
  obtain ⟨m, g0⟩ := hasT_struct Try.underlying68 h
  obtain ⟨a0, b0, rfl, h0, g1⟩ := hasFs_cons g0
  obtain ⟨x0, o0, rfl⟩ := dec2.2 _ _ h0
  obtain ⟨a1, b1, rfl, h1, g2⟩ := hasFs_cons g1
  obtain ⟨x1, o1, rfl⟩ := dec2.2 _ _ h1
  obtain ⟨a2, b2, rfl, h2, g3⟩ := hasFs_cons g2
  obtain ⟨x2, o2, rfl⟩ := dec9.2 _ _ h2
  obtain ⟨a3, b3, rfl, h3, g4⟩ := hasFs_cons g3
  obtain ⟨x3, o3, rfl⟩ := dec34.2 _ _ h3
  obtain rfl := hasFs_nil g4
  exact ⟨⟨x0, x1, x2, x3⟩, ⟨o0, o1, o2, o3⟩, rfl⟩⟩
theorem dec22 : Dec Try.prog 22 (List Version) := Dec.slice Try.underlying22 (by kernel_rfl) dec68

open Go.ChangeShapes Go.WideShapes Go.ChangeAt Go.RowKit in
theorem lifted (os : Os) (started : os.Started) (H : Type) (enc : TypeId × Value → H) :
    ReturnsInHanded {} Try.checked os 3 .any (Rows.fnExactAncestorsOfSpec.pre6 enc Try.prog Try.f3 Rows.fnExactAncestorsOfRow.domain false) (Rows.fnExactAncestorsOfSpec.post enc Try.prog Try.f3 false true false false) := by
  refine returnsInHanded_of_change_sized (C := Try.checked) own started (by kernel_rfl) Try.func3
    (ChangeSpec.witness6 (enc := enc) (C := Try.checked) false ⟨#[], #[.slice none 0 0, .int .i64 0], []⟩ 8 (by kernel_rfl) (by kernel_rfl) (by kernel_rfl) (by kernel_rfl)) ?_
  intro W base args ds gs before hval hW _ _ _
  exact law_calls (S := [2, 9, 80, 34, 68, 22]) (by kernel_rfl) (by kernel_rfl) (by decide +kernel) rfl rfl Try.underlying4 (fun ds h => by match ds, h with | [d0, d1], _ => rfl)
    (fun yss h => by
      match yss, h with
      | [y0, y1], ⟨⟨n0, h0⟩, ⟨n1, h1⟩, _⟩ =>
        obtain ⟨x0, o0, rfl⟩ := dec22.2 n0 _ h0
        obtain ⟨x1, o1, rfl⟩ := dec2.2 n1 _ h1
        show Sat Try.prog 3 [(aggOf Try.prog 22, Enc.enc x0), (aggOf Try.prog 2, Enc.enc x1)] _
        rw [show aggOf Try.prog 22 = false by kernel_rfl, show aggOf Try.prog 2 = false by kernel_rfl]
        exact sat_law x0 x1 o0 o1) hval hW

theorem over : Rows.fnExactAncestorsOfRow.holds Try.pinned (OpenSpec.ofChange Rows.fnExactAncestorsOfSpec) :=
  OpenClaim.holds_of_wide 3 Try.f3 rfl rfl rfl rfl rfl rfl rfl ⟨rfl, rfl, rfl, rfl, rfl⟩ rfl rfl rfl rfl rfl (by kernel_rfl) Try.func3 (by kernel_rfl)
    (of_decide_eq_true (by kernel_rfl)) (by unfold Func.isWrapper; first | (rw [if_pos (by decide +kernel)]; kernel_rfl) | (rw [if_neg (by decide +kernel)]; exact ⟨rfl, rfl⟩))
    (fun os started H enc _ => lifted os started H enc)

end Go.Proofs.Ytjolahiflldepaa.Pi
namespace Go.Proofs.Ytjolahiflldepaa
/-- The row. -/
theorem fnExactAncestorsOf_holds : Rows.FnExactAncestorsOfSaid := Pi.over
#print axioms fnExactAncestorsOf_holds
end Go.Proofs.Ytjolahiflldepaa
