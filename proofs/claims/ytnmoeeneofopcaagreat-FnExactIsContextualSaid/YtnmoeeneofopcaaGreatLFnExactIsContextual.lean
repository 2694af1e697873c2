/- The law FnExactIsContextual holds: for every input of its types the function returns true and leaves its arguments as they were. No condition. -/
import Derived.Test.YtnmoeeneofopcaaGreatPiGIsContextual
import Derived.Test.YtnmoeeneofopcaaGreatRows
import Derived.WalkKit
import Derived.ProofKit
import Derived.OpenShut
import Derived.SizedLaws
namespace Go.Proofs.YtnmoeeneofopcaaGreat.Pi
open Go
set_option maxRecDepth 10000
set_option maxHeartbeats 6400000

theorem dec2 : Dec Tryz.prog 2 Int := Dec.int Tryz.underlying2 (by kernel_rfl)
theorem dec40 : Dec Tryz.prog 40 (List Int) := Dec.slice Tryz.underlying40 (by kernel_rfl) dec2
theorem dec37 : Dec Tryz.prog 37 (List (List Int)) := Dec.slice Tryz.underlying37 (by kernel_rfl) dec40
theorem dec141 : Dec Tryz.prog 141 Table := ⟨by kernel_rfl, fun n cs h => by
  obtain ⟨m, g0⟩ := hasT_struct Tryz.underlying141 h
  obtain ⟨a0, b0, rfl, h0, g1⟩ := hasFs_cons g0
  obtain ⟨x0, o0, rfl⟩ := dec40.2 _ _ h0
  obtain ⟨a1, b1, rfl, h1, g2⟩ := hasFs_cons g1
  obtain ⟨x1, o1, rfl⟩ := dec37.2 _ _ h1
  obtain rfl := hasFs_nil g2
  exact ⟨⟨x0, x1⟩, ⟨o0, o1⟩, rfl⟩⟩
theorem dec58 : Dec Tryz.prog 58 (List Table) := Dec.slice Tryz.underlying58 (by kernel_rfl) dec141

open Go.ChangeShapes Go.WideShapes Go.ChangeAt Go.RowKit in
theorem lifted (os : Os) (started : os.Started) (H : Type) (enc : TypeId × Value → H) :
    ReturnsInHanded {} Tryz.checked os 5 .any (Rows.fnExactIsContextualSpec.pre6 enc Tryz.prog Tryz.f5 Rows.fnExactIsContextualRow.domain false) (Rows.fnExactIsContextualSpec.post enc Tryz.prog Tryz.f5 false true false false) := by
  refine returnsInHanded_of_change_sized (C := Tryz.checked) own started (by kernel_rfl) Tryz.func5
    (ChangeSpec.witness6 (enc := enc) (C := Tryz.checked) false ⟨#[], #[.slice none 0 0, .int .i64 0], []⟩ 8 (by kernel_rfl) (by kernel_rfl) (by kernel_rfl) (by kernel_rfl)) ?_
  intro W base args ds gs before hval hW _ _ _
  exact law_calls (S := [2, 40, 37, 141, 58]) (by kernel_rfl) (by kernel_rfl) (by decide +kernel) rfl rfl Tryz.underlying4 (fun ds h => by match ds, h with | [d0, d1], _ => rfl)
    (fun yss h => by
      match yss, h with
      | [y0, y1], ⟨⟨n0, h0⟩, ⟨n1, h1⟩, _⟩ =>
        obtain ⟨x0, o0, rfl⟩ := dec58.2 n0 _ h0
        obtain ⟨x1, o1, rfl⟩ := dec2.2 n1 _ h1
        show Sat Tryz.prog 5 [(aggOf Tryz.prog 58, Enc.enc x0), (aggOf Tryz.prog 2, Enc.enc x1)] _
        rw [show aggOf Tryz.prog 58 = false by kernel_rfl, show aggOf Tryz.prog 2 = false by kernel_rfl]
        exact sat_law x0 x1 o0 o1) hval hW

theorem over : Rows.fnExactIsContextualRow.holds Tryz.pinned (OpenSpec.ofChange Rows.fnExactIsContextualSpec) :=
  OpenClaim.holds_of_wide 5 Tryz.f5 rfl rfl rfl rfl rfl rfl rfl ⟨rfl, rfl, rfl, rfl, rfl⟩ rfl rfl rfl rfl rfl (by as_aux_lemma => kernel_rfl) Tryz.func5 (by as_aux_lemma => kernel_rfl)
    (of_decide_eq_true (by as_aux_lemma => kernel_rfl)) (by unfold Func.isWrapper; first | (rw [if_pos (by decide +kernel)]; kernel_rfl) | (rw [if_neg (by decide +kernel)]; exact ⟨rfl, rfl⟩))
    (fun os started H enc _ => lifted os started H enc)

end Go.Proofs.YtnmoeeneofopcaaGreat.Pi
namespace Go.Proofs.YtnmoeeneofopcaaGreat
/-- The row. -/
theorem fnExactIsContextual_holds : Rows.FnExactIsContextualSaid := Pi.over
#print axioms fnExactIsContextual_holds
end Go.Proofs.YtnmoeeneofopcaaGreat
