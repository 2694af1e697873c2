/- The law FnExactProveRank holds: for every input of its types the function returns true and leaves its arguments as they were. No condition. -/
import Derived.Test.YtaplnfcnajpmgaaPiGProveRank
import Derived.Test.YtaplnfcnajpmgaaRows
import Derived.WalkKit
import Derived.ProofKit
import Derived.OpenShut
import Derived.SizedLaws
namespace Go.Proofs.Ytaplnfcnajpmgaa.Pi
open Go
set_option maxRecDepth 10000

theorem dec2 : Dec Try.prog 2 Int := Dec.int Try.underlying2 (by kernel_rfl)
theorem dec22 : Dec Try.prog 22 (List Int) := Dec.slice Try.underlying22 (by kernel_rfl) dec2
theorem dec24 : Dec Try.prog 24 Matrix := ⟨by kernel_rfl, fun n cs h => by
  obtain ⟨m, g0⟩ := hasT_struct Try.underlying24 h
  obtain ⟨a0, b0, rfl, h0, g1⟩ := hasFs_cons g0
  obtain ⟨x0, o0, rfl⟩ := dec2.2 _ _ h0
  obtain ⟨a1, b1, rfl, h1, g2⟩ := hasFs_cons g1
  obtain ⟨x1, o1, rfl⟩ := dec2.2 _ _ h1
  obtain ⟨a2, b2, rfl, h2, g3⟩ := hasFs_cons g2
  obtain ⟨x2, o2, rfl⟩ := dec2.2 _ _ h2
  obtain ⟨a3, b3, rfl, h3, g4⟩ := hasFs_cons g3
  obtain ⟨x3, o3, rfl⟩ := dec22.2 _ _ h3
  obtain rfl := hasFs_nil g4
  exact ⟨⟨x0, x1, x2, x3⟩, ⟨o0, o1, o2, o3⟩, rfl⟩⟩

open Go.ChangeShapes Go.WideShapes Go.ChangeAt Go.RowKit in
theorem lifted (os : Os) (started : os.Started) (H : Type) (enc : TypeId × Value → H) :
    ReturnsInHanded {} Try.checked os 6 .any (Rows.fnExactProveRankSpec.pre6 enc Try.prog Try.f6 Rows.fnExactProveRankRow.domain false) (Rows.fnExactProveRankSpec.post enc Try.prog Try.f6 false true false false) := by
  refine returnsInHanded_of_change_sized (C := Try.checked) own started (by kernel_rfl) Try.func6
    (ChangeSpec.witness6 (enc := enc) (C := Try.checked) false ⟨#[], #[.agg #[.int .i64 0, .int .i64 0, .int .i64 0, .slice none 0 0]], []⟩ 8 (by kernel_rfl) (by kernel_rfl) (by kernel_rfl) (by kernel_rfl)) ?_
  intro W base args ds gs before hval hW _ _ _
  exact law_calls (S := [2, 22, 24]) (by kernel_rfl) (by kernel_rfl) (by decide +kernel) rfl rfl Try.underlying4 (fun ds h => by match ds, h with | [d0], _ => rfl)
    (fun yss h => by
      match yss, h with
      | [y0], ⟨⟨n0, h0⟩, _⟩ =>
        obtain ⟨x0, o0, rfl⟩ := dec24.2 n0 _ h0
        show Sat Try.prog 6 [(aggOf Try.prog 24, Enc.enc x0)] _
        rw [show aggOf Try.prog 24 = true by kernel_rfl]
        exact sat_law x0 o0) hval hW

theorem over : Rows.fnExactProveRankRow.holds Try.pinned (OpenSpec.ofChange Rows.fnExactProveRankSpec) :=
  OpenClaim.holds_of_wide 6 Try.f6 rfl rfl rfl rfl rfl rfl rfl ⟨rfl, rfl, rfl, rfl, rfl⟩ rfl rfl rfl rfl rfl (by kernel_rfl) Try.func6 (by kernel_rfl)
    (of_decide_eq_true (by kernel_rfl)) (by unfold Func.isWrapper; first | (rw [if_pos (by decide +kernel)]; kernel_rfl) | (rw [if_neg (by decide +kernel)]; exact ⟨rfl, rfl⟩))
    (fun os started H enc _ => lifted os started H enc)

end Go.Proofs.Ytaplnfcnajpmgaa.Pi
namespace Go.Proofs.Ytaplnfcnajpmgaa
/-- The row. -/
theorem fnExactProveRank_holds : Rows.FnExactProveRankSaid := Pi.over
#print axioms fnExactProveRank_holds
end Go.Proofs.Ytaplnfcnajpmgaa
