/- The law FnExactMergeVersions holds: for every input of its types the function returns true and leaves its arguments as they were. No condition. -/
import Derived.Test.YtjolahiflldepabPiGMergeVersions
import Derived.Test.YtjolahiflldepabRows
import Derived.WalkKit
import Derived.ProofKit
import Derived.OpenShut
import Derived.SizedLaws
namespace Go.Proofs.Ytjolahiflldepab.Pi
open Go
set_option maxRecDepth 10000

theorem dec2 : Dec Try.prog 2 Int := Dec.int Try.underlying2 (by kernel_rfl)
theorem dec9 : Dec Try.prog 9 ByteArray := Dec.str Try.underlying9 (by kernel_rfl)
theorem dec64 : Dec Try.prog 64 Setting := ⟨by kernel_rfl, fun n cs h => by
  obtain ⟨m, g0⟩ := hasT_struct Try.underlying64 h
  obtain ⟨a0, b0, rfl, h0, g1⟩ := hasFs_cons g0
  obtain ⟨x0, o0, rfl⟩ := dec9.2 _ _ h0
  obtain ⟨a1, b1, rfl, h1, g2⟩ := hasFs_cons g1
  obtain ⟨x1, o1, rfl⟩ := dec2.2 _ _ h1
  obtain rfl := hasFs_nil g2
  exact ⟨⟨x0, x1⟩, ⟨o0, o1⟩, rfl⟩⟩
theorem dec22 : Dec Try.prog 22 (List Setting) := Dec.slice Try.underlying22 (by kernel_rfl) dec64
theorem dec75 : Dec Try.prog 75 Version := ⟨by kernel_rfl, fun n cs h => by
  obtain ⟨m, g0⟩ := hasT_struct Try.underlying75 h
  obtain ⟨a0, b0, rfl, h0, g1⟩ := hasFs_cons g0
  obtain ⟨x0, o0, rfl⟩ := dec2.2 _ _ h0
  obtain ⟨a1, b1, rfl, h1, g2⟩ := hasFs_cons g1
  obtain ⟨x1, o1, rfl⟩ := dec2.2 _ _ h1
  obtain ⟨a2, b2, rfl, h2, g3⟩ := hasFs_cons g2
  obtain ⟨x2, o2, rfl⟩ := dec9.2 _ _ h2
  obtain ⟨a3, b3, rfl, h3, g4⟩ := hasFs_cons g3
  obtain ⟨x3, o3, rfl⟩ := dec22.2 _ _ h3
  obtain rfl := hasFs_nil g4
  exact ⟨⟨x0, x1, x2, x3⟩, ⟨o0, o1, o2, o3⟩, rfl⟩⟩
theorem dec36 : Dec Try.prog 36 (List Version) := Dec.slice Try.underlying36 (by kernel_rfl) dec75

open Go.ChangeShapes Go.WideShapes Go.ChangeAt Go.RowKit in
theorem lifted (os : Os) (started : os.Started) (H : Type) (enc : TypeId × Value → H) :
    ReturnsInHanded {} Try.checked os 5 .any (Rows.fnExactMergeVersionsSpec.pre6 enc Try.prog Try.f5 Rows.fnExactMergeVersionsRow.domain false) (Rows.fnExactMergeVersionsSpec.post enc Try.prog Try.f5 false true false false) := by
  refine returnsInHanded_of_change_sized (C := Try.checked) own started (by kernel_rfl) Try.func5
    (ChangeSpec.witness6 (enc := enc) (C := Try.checked) false ⟨#[], #[.slice none 0 0, .int .i64 0, .int .i64 0, .string ⟨#[]⟩], []⟩ 8 (by kernel_rfl) (by kernel_rfl) (by kernel_rfl) (by kernel_rfl)) ?_
  intro W base args ds gs before hval hW _ _ _
  exact law_calls (S := [2, 9, 64, 22, 75, 36]) (by kernel_rfl) (by kernel_rfl) (by decide +kernel) rfl rfl Try.underlying4 (fun ds h => by match ds, h with | [d0, d1, d2, d3], _ => rfl)
    (fun yss h => by
      match yss, h with
      | [y0, y1, y2, y3], ⟨⟨n0, h0⟩, ⟨n1, h1⟩, ⟨n2, h2⟩, ⟨n3, h3⟩, _⟩ =>
        obtain ⟨x0, o0, rfl⟩ := dec36.2 n0 _ h0
        obtain ⟨x1, o1, rfl⟩ := dec2.2 n1 _ h1
        obtain ⟨x2, o2, rfl⟩ := dec2.2 n2 _ h2
        obtain ⟨x3, o3, rfl⟩ := dec9.2 n3 _ h3
        show Sat Try.prog 5 [(aggOf Try.prog 36, Enc.enc x0), (aggOf Try.prog 2, Enc.enc x1), (aggOf Try.prog 2, Enc.enc x2), (aggOf Try.prog 9, Enc.enc x3)] _
        rw [show aggOf Try.prog 36 = false by kernel_rfl, show aggOf Try.prog 2 = false by kernel_rfl, show aggOf Try.prog 9 = false by kernel_rfl]
        exact sat_law x0 x1 x2 x3 o0 o1 o2 o3) hval hW

theorem over : Rows.fnExactMergeVersionsRow.holds Try.pinned (OpenSpec.ofChange Rows.fnExactMergeVersionsSpec) :=
  OpenClaim.holds_of_wide 5 Try.f5 rfl rfl rfl rfl rfl rfl rfl ⟨rfl, rfl, rfl, rfl, rfl⟩ rfl rfl rfl rfl rfl (by kernel_rfl) Try.func5 (by kernel_rfl)
    (of_decide_eq_true (by kernel_rfl)) (by unfold Func.isWrapper; first | (rw [if_pos (by decide +kernel)]; kernel_rfl) | (rw [if_neg (by decide +kernel)]; exact ⟨rfl, rfl⟩))
    (fun os started H enc _ => lifted os started H enc)

end Go.Proofs.Ytjolahiflldepab.Pi
namespace Go.Proofs.Ytjolahiflldepab
/-- The row. -/
theorem fnExactMergeVersions_holds : Rows.FnExactMergeVersionsSaid := Pi.over
#print axioms fnExactMergeVersions_holds
end Go.Proofs.Ytjolahiflldepab
