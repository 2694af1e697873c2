/- The law FnExactUndoVersion holds: for every input of its types the function returns true and leaves its arguments as they were. No condition. -/
import Derived.Test.YtjolahiflldepaaDoorPiGUndoVersion
import Derived.Test.YtjolahiflldepaaDoorRows
import Derived.WalkKit
import Derived.ProofKit
import Derived.OpenShut
import Derived.SizedLaws
import Derived.LaidMore
import Derived.Stop.Joined
import Derived.Test.YtjolahiflldepaaDoorCards
import Derived.Test.YtjolahiflldepaaDoorTie
import Derived.SevenTiedAt
namespace Go.Proofs.YtjolahiflldepaaDoor.Pi
open Go
set_option maxRecDepth 10000

theorem dec2 : Dec Tryd.prog 2 Int := Dec.int Tryd.underlying2 (by kernel_rfl)
theorem dec9 : Dec Tryd.prog 9 ByteArray := Dec.str Tryd.underlying9 (by kernel_rfl)
theorem dec84 : Dec Tryd.prog 84 Setting := ⟨by kernel_rfl, fun n cs h => by
  obtain ⟨m, g0⟩ := hasT_struct Tryd.underlying84 h
  obtain ⟨a0, b0, rfl, h0, g1⟩ := hasFs_cons g0
  obtain ⟨x0, o0, rfl⟩ := dec9.2 _ _ h0
  obtain ⟨a1, b1, rfl, h1, g2⟩ := hasFs_cons g1
  obtain ⟨x1, o1, rfl⟩ := dec2.2 _ _ h1
  obtain rfl := hasFs_nil g2
  exact ⟨⟨x0, x1⟩, ⟨o0, o1⟩, rfl⟩⟩
theorem dec22 : Dec Tryd.prog 22 (List Setting) := Dec.slice Tryd.underlying22 (by kernel_rfl) dec84
theorem dec24 : Dec Tryd.prog 24 Version := ⟨by kernel_rfl, fun n cs h => by
  obtain ⟨m, g0⟩ := hasT_struct Tryd.underlying24 h
  obtain ⟨a0, b0, rfl, h0, g1⟩ := hasFs_cons g0
  obtain ⟨x0, o0, rfl⟩ := dec2.2 _ _ h0
  obtain ⟨a1, b1, rfl, h1, g2⟩ := hasFs_cons g1
  obtain ⟨x1, o1, rfl⟩ := dec2.2 _ _ h1
  obtain ⟨a2, b2, rfl, h2, g3⟩ := hasFs_cons g2
  obtain ⟨x2, o2, rfl⟩ := dec9.2 _ _ h2
  obtain ⟨a3, b3, rfl, h3, g4⟩ := hasFs_cons g3
  obtain ⟨x3, o3, rfl⟩ := dec22.2 _ _ h3
  obtain rfl := hasFs_nil g4
  exact ⟨⟨x0, x1, x2, x3⟩, ⟨o0, o1, o2, o3⟩, rfl⟩⟩
theorem dec40 : Dec Tryd.prog 40 (List Version) := Dec.slice Tryd.underlying40 (by kernel_rfl) dec24

/-- The variables that the row lists. -/
def laidD {H : Type} : List (String × DataW H) := [("math/bits.deBruijn32tab", Rows.laid_math_bits_deBruijn32tab), ("math/bits.deBruijn64tab", Rows.laid_math_bits_deBruijn64tab), ("internal/strconv.uint64pow10", Rows.laid_internal_strconv_uint64pow10)]
/-- The door's own heap meets the condition. -/
theorem door_met (os : Os) (args : Array Value) : laidMetH Tryd.prog laidD ((World.doorLaid Tryd.prog 400 os).forCall (fun _ _ => 0) ⟨#[], args, []⟩).memory :=
  laidMetH_of_parts3 (fuel := 8) (laidMet_of_run' 8 (by kernel_rfl) (by kernel_rfl)) (by kernel_rfl) (by kernel_rfl)

open Go.ChangeShapes Go.WideShapes Go.ChangeAt Go.RowKit in
theorem lifted (os : Os) (started : os.Started) (H : Type) (enc : TypeId × Value → H) :
    ReturnsInHanded {} Tryd.checked os 5 .any (fun w args => (Rows.fnExactUndoVersionSpec.pre enc Tryd.prog Tryd.f5 [] false w args ∧ laidMetH Tryd.prog laidD w) ∧ sizedMet enc Tryd.prog Tryd.f5 (OpenSpec.ofChange Rows.fnExactUndoVersionSpec) false w args)
      (Rows.fnExactUndoVersionSpec.post enc Tryd.prog Tryd.f5 false true false false) := by
  refine returnsInHanded_of_change_and (C := Tryd.checked) (X := fun w _ => laidMetH Tryd.prog laidD w) (fun _ _ _ hh h => h.of_heap hh) own started (by kernel_rfl) Tryd.func5
    (ChangeSpec.witness_shaped (enc := enc) (C := Tryd.checked) (os := os) (X := fun w _ => laidMetH Tryd.prog laidD w) false (World.doorLaid Tryd.prog 400 os) #[.slice none 0 0, .int .i64 0] 8 rfl (World.shaped_of_RefB (by kernel_rfl) (by kernel_rfl)) (by kernel_rfl) (by kernel_rfl) (by kernel_rfl) (door_met os _)) ?_
  intro W base args ds gs before hval hW _ _ _ _
  exact law_calls (S := [2, 9, 84, 22, 24, 40]) (by kernel_rfl) (by kernel_rfl) (by decide +kernel) rfl rfl Tryd.underlying4 (fun ds h => by match ds, h with | [d0, d1], _ => rfl)
    (fun yss h => by
      match yss, h with
      | [y0, y1], ⟨⟨n0, h0⟩, ⟨n1, h1⟩, _⟩ =>
        obtain ⟨x0, o0, rfl⟩ := dec40.2 n0 _ h0
        obtain ⟨x1, o1, rfl⟩ := dec2.2 n1 _ h1
        show Sat Tryd.prog 5 [(aggOf Tryd.prog 40, Enc.enc x0), (aggOf Tryd.prog 2, Enc.enc x1)] _
        rw [show aggOf Tryd.prog 40 = false by kernel_rfl, show aggOf Tryd.prog 2 = false by kernel_rfl]
        exact sat_law x0 x1 o0 o1) hval hW

theorem over : Rows.fnExactUndoVersionRow.holds Tryd.pinned (OpenSpec.ofChange Rows.fnExactUndoVersionSpec) :=
  OpenClaim.holds_of_wide 5 Tryd.f5 rfl rfl rfl rfl rfl rfl rfl ⟨rfl, rfl, rfl, rfl, rfl⟩ rfl rfl rfl rfl rfl (by kernel_rfl) Tryd.func5 (by kernel_rfl)
    (of_decide_eq_true (by kernel_rfl)) (by unfold Func.isWrapper; first | (rw [if_pos (by decide +kernel)]; kernel_rfl) | (rw [if_neg (by decide +kernel)]; exact ⟨rfl, rfl⟩))
    (fun os started H enc _ => lifted os started H enc)

end Go.Proofs.YtjolahiflldepaaDoor.Pi
namespace Go.Proofs.YtjolahiflldepaaDoor
/-- The row. -/
theorem fnExactUndoVersion_holds : Rows.FnExactUndoVersionSaid := Pi.over
#print axioms fnExactUndoVersion_holds

/-- The card. -/
theorem fnExactUndoVersionCard_holds : Rows.FnExactUndoVersionCardSaid :=
  Claim7.holds_tied_plain_at .later [] [.data, .data, .data] true (true, "8e39029a7f1909eabc81b700ed52e9b67e11f87e62596a49de2d9b8c4e16531b") false
    fnExactUndoVersion_holds (fun _ h => by cases h) (by kernel_rfl) (fun _ h => by cases h) fnExactUndoVersion_row_tie rfl ⟨rfl, rfl⟩ (by kernel_rfl) rfl
    (fun f fn hf hfn => by
      obtain rfl : f = 5 := Option.some.inj ((show Tryd.prog.funcNamed "loop.example/g01005/laws.FnExactUndoVersion" = some 5 by kernel_rfl).symm.trans hf) |>.symm
      obtain rfl : fn = Tryd.f5 := (Option.some.inj (Tryd.func5.symm.trans hfn)).symm
      exact ⟨by kernel_rfl, fun j t ht => by
        rw [Tryd.params5] at ht
        have hm : t ∈ [40, 2] := by simpa using Array.mem_of_getElem? ht
        have hall : ([40, 2].all fun u => !Tryd.prog.wantsStandIn u) = true := by kernel_rfl
        exact (show Tryd.prog.wantsStandIn t = false by simpa using List.all_eq_true.1 hall t hm)⟩)
    (by kernel_rfl)
#print axioms fnExactUndoVersionCard_holds
end Go.Proofs.YtjolahiflldepaaDoor
