/-
  No cell of these rows narrows 'for every input' (looked for: loops, veiled, ifaces, maps, wideKeys, modest, calm, conditions, laid).
  DERIVED. THE GIVEN ROWS OF THIS SEAT. 11 by the template 'for every input the law returns true; each argument reads behind the call as it read before'; 0 by the template 'total and deterministic' (their statements: YtcgoalegobkgaaaTotals.lean).
  GIVEN WITH THE SEED: the statements are not yours to turn. If you find one false, say at which input.
  Laid BY PROGRAM, IN A SANDBOX (cutbox-rows.mjs): the forced cells as the released guide's own fill.sh prints them over the translation 8f6534bdfad0bcbf… (all of the seat's roots in one cut). By AI agents, Wed Nov 11 2026. No macro, syntax, notation, axiom, sorry.
-/
import Derived.Test.YtcgoalegobkgaaaChecked
import GoSem.Claim
import GoSem.ClaimJoined
import GoSem.ClaimMapViews
import Derived.JoinedTies
import Derived.KernelRfl
namespace Go.Proofs.Ytcgoalegobkgaaa
/- THE CELL 'sum', in the pinned program and in every row, IS THE sha256 OF THE DUMP (.gsa) THAT YtcgoalegobkgaaaProg.lean LOADS. Nothing in Lean hashes anything: it is a label: what it is worth is what the hold of that sum in a sandbox is worth. -/
noncomputable def Try.pinned : Pinned := { name := "ytcgoalegobkgaaa", sum := "8f6534bdfad0bcbffc59230496498ac89c47b686f302e55d5d4c93b5e8206695", checked := Try.checked }
namespace Rows
def none {H : Type} : Left H := { results := [], args := [] }

/-- 'laws.FnExactValidItems': WHATEVER THE INPUT: true; the input reads as it did. -/
def fnExactValidItemsSpec : ChangeSpec := { name := "fnExactValidItems", fn := fun _ => fun
  | [d] => { results := [.lit (.bool true)], args := [d] }
  | _ => none }
def fnExactValidItemsRow : OpenClaim := { program := "ytcgoalegobkgaaa", sum := "8f6534bdfad0bcbffc59230496498ac89c47b686f302e55d5d4c93b5e8206695", func := "loop.example/g01005/laws.FnExactValidItems", spec := "fnExactValidItems", unfollowed := true, recurses := true, apart := false }
def FnExactValidItemsSaid : Prop := fnExactValidItemsRow.holds Try.pinned (OpenSpec.ofChange fnExactValidItemsSpec)

/-- ITS FALSE NEIGHBOUR: 'it returns false'. Refute it at one input. -/
def fnExactValidItemsWrong : ChangeSpec := { name := "fnExactValidItems", fn := fun _ => fun
  | [d] => { results := [.lit (.bool false)], args := [d] }
  | _ => none }
def FnExactValidItemsWrongFalsely : Prop := fnExactValidItemsRow.holds Try.pinned (OpenSpec.ofChange fnExactValidItemsWrong)

/-- 'laws.FnExactValidProof': WHATEVER THE INPUT: true; the input reads as it did. -/
def fnExactValidProofSpec : ChangeSpec := { name := "fnExactValidProof", fn := fun _ => fun
  | [d] => { results := [.lit (.bool true)], args := [d] }
  | _ => none }
def fnExactValidProofRow : OpenClaim := { program := "ytcgoalegobkgaaa", sum := "8f6534bdfad0bcbffc59230496498ac89c47b686f302e55d5d4c93b5e8206695", func := "loop.example/g01005/laws.FnExactValidProof", spec := "fnExactValidProof", unfollowed := true, recurses := true, apart := false }
def FnExactValidProofSaid : Prop := fnExactValidProofRow.holds Try.pinned (OpenSpec.ofChange fnExactValidProofSpec)

/-- ITS FALSE NEIGHBOUR: 'it returns false'. Refute it at one input. -/
def fnExactValidProofWrong : ChangeSpec := { name := "fnExactValidProof", fn := fun _ => fun
  | [d] => { results := [.lit (.bool false)], args := [d] }
  | _ => none }
def FnExactValidProofWrongFalsely : Prop := fnExactValidProofRow.holds Try.pinned (OpenSpec.ofChange fnExactValidProofWrong)

/-- 'laws.FnExactDiffStates': WHATEVER THE INPUT: true; the input reads as it did. -/
def fnExactDiffStatesSpec : ChangeSpec := { name := "fnExactDiffStates", fn := fun _ => fun
  | [d1, d2] => { results := [.lit (.bool true)], args := [d1, d2] }
  | _ => none }
def fnExactDiffStatesRow : OpenClaim := { program := "ytcgoalegobkgaaa", sum := "8f6534bdfad0bcbffc59230496498ac89c47b686f302e55d5d4c93b5e8206695", func := "loop.example/g01005/laws.FnExactDiffStates", spec := "fnExactDiffStates", unfollowed := true, recurses := true, apart := false }
def FnExactDiffStatesSaid : Prop := fnExactDiffStatesRow.holds Try.pinned (OpenSpec.ofChange fnExactDiffStatesSpec)

/-- ITS FALSE NEIGHBOUR: 'it returns false'. Refute it at one input. -/
def fnExactDiffStatesWrong : ChangeSpec := { name := "fnExactDiffStates", fn := fun _ => fun
  | [d1, d2] => { results := [.lit (.bool false)], args := [d1, d2] }
  | _ => none }
def FnExactDiffStatesWrongFalsely : Prop := fnExactDiffStatesRow.holds Try.pinned (OpenSpec.ofChange fnExactDiffStatesWrong)

/-- 'laws.FnExactMakeOrder': WHATEVER THE INPUT: true; the input reads as it did. -/
def fnExactMakeOrderSpec : ChangeSpec := { name := "fnExactMakeOrder", fn := fun _ => fun
  | [d] => { results := [.lit (.bool true)], args := [d] }
  | _ => none }
def fnExactMakeOrderRow : OpenClaim := { program := "ytcgoalegobkgaaa", sum := "8f6534bdfad0bcbffc59230496498ac89c47b686f302e55d5d4c93b5e8206695", func := "loop.example/g01005/laws.FnExactMakeOrder", spec := "fnExactMakeOrder", unfollowed := true, recurses := true, apart := false }
def FnExactMakeOrderSaid : Prop := fnExactMakeOrderRow.holds Try.pinned (OpenSpec.ofChange fnExactMakeOrderSpec)

/-- ITS FALSE NEIGHBOUR: 'it returns false'. Refute it at one input. -/
def fnExactMakeOrderWrong : ChangeSpec := { name := "fnExactMakeOrder", fn := fun _ => fun
  | [d] => { results := [.lit (.bool false)], args := [d] }
  | _ => none }
def FnExactMakeOrderWrongFalsely : Prop := fnExactMakeOrderRow.holds Try.pinned (OpenSpec.ofChange fnExactMakeOrderWrong)

/-- 'laws.FnExactCommonAncestor': WHATEVER THE INPUT: true; the input reads as it did. -/
def fnExactCommonAncestorSpec : ChangeSpec := { name := "fnExactCommonAncestor", fn := fun _ => fun
  | [d1, d2, d3] => { results := [.lit (.bool true)], args := [d1, d2, d3] }
  | _ => none }
def fnExactCommonAncestorRow : OpenClaim := { program := "ytcgoalegobkgaaa", sum := "8f6534bdfad0bcbffc59230496498ac89c47b686f302e55d5d4c93b5e8206695", func := "loop.example/g01005/laws.FnExactCommonAncestor", spec := "fnExactCommonAncestor", unfollowed := true, recurses := true, apart := false }
def FnExactCommonAncestorSaid : Prop := fnExactCommonAncestorRow.holds Try.pinned (OpenSpec.ofChange fnExactCommonAncestorSpec)

/-- ITS FALSE NEIGHBOUR: 'it returns false'. Refute it at one input. -/
def fnExactCommonAncestorWrong : ChangeSpec := { name := "fnExactCommonAncestor", fn := fun _ => fun
  | [d1, d2, d3] => { results := [.lit (.bool false)], args := [d1, d2, d3] }
  | _ => none }
def FnExactCommonAncestorWrongFalsely : Prop := fnExactCommonAncestorRow.holds Try.pinned (OpenSpec.ofChange fnExactCommonAncestorWrong)

/-- 'laws.FnExactHeadsOf': WHATEVER THE INPUT: true; the input reads as it did. -/
def fnExactHeadsOfSpec : ChangeSpec := { name := "fnExactHeadsOf", fn := fun _ => fun
  | [d] => { results := [.lit (.bool true)], args := [d] }
  | _ => none }
def fnExactHeadsOfRow : OpenClaim := { program := "ytcgoalegobkgaaa", sum := "8f6534bdfad0bcbffc59230496498ac89c47b686f302e55d5d4c93b5e8206695", func := "loop.example/g01005/laws.FnExactHeadsOf", spec := "fnExactHeadsOf", unfollowed := true, recurses := true, apart := false }
def FnExactHeadsOfSaid : Prop := fnExactHeadsOfRow.holds Try.pinned (OpenSpec.ofChange fnExactHeadsOfSpec)

/-- ITS FALSE NEIGHBOUR: 'it returns false'. Refute it at one input. -/
def fnExactHeadsOfWrong : ChangeSpec := { name := "fnExactHeadsOf", fn := fun _ => fun
  | [d] => { results := [.lit (.bool false)], args := [d] }
  | _ => none }
def FnExactHeadsOfWrongFalsely : Prop := fnExactHeadsOfRow.holds Try.pinned (OpenSpec.ofChange fnExactHeadsOfWrong)

/-- 'laws.FnExactAncestorsOf': WHATEVER THE INPUT: true; the input reads as it did. -/
def fnExactAncestorsOfSpec : ChangeSpec := { name := "fnExactAncestorsOf", fn := fun _ => fun
  | [d1, d2] => { results := [.lit (.bool true)], args := [d1, d2] }
  | _ => none }
def fnExactAncestorsOfRow : OpenClaim := { program := "ytcgoalegobkgaaa", sum := "8f6534bdfad0bcbffc59230496498ac89c47b686f302e55d5d4c93b5e8206695", func := "loop.example/g01005/laws.FnExactAncestorsOf", spec := "fnExactAncestorsOf", unfollowed := true, recurses := true, apart := false }
def FnExactAncestorsOfSaid : Prop := fnExactAncestorsOfRow.holds Try.pinned (OpenSpec.ofChange fnExactAncestorsOfSpec)

/-- ITS FALSE NEIGHBOUR: 'it returns false'. Refute it at one input. -/
def fnExactAncestorsOfWrong : ChangeSpec := { name := "fnExactAncestorsOf", fn := fun _ => fun
  | [d1, d2] => { results := [.lit (.bool false)], args := [d1, d2] }
  | _ => none }
def FnExactAncestorsOfWrongFalsely : Prop := fnExactAncestorsOfRow.holds Try.pinned (OpenSpec.ofChange fnExactAncestorsOfWrong)

/-- 'laws.FnExactDepthOf': WHATEVER THE INPUT: true; the input reads as it did. -/
def fnExactDepthOfSpec : ChangeSpec := { name := "fnExactDepthOf", fn := fun _ => fun
  | [d1, d2] => { results := [.lit (.bool true)], args := [d1, d2] }
  | _ => none }
def fnExactDepthOfRow : OpenClaim := { program := "ytcgoalegobkgaaa", sum := "8f6534bdfad0bcbffc59230496498ac89c47b686f302e55d5d4c93b5e8206695", func := "loop.example/g01005/laws.FnExactDepthOf", spec := "fnExactDepthOf", unfollowed := true, recurses := true, apart := false }
def FnExactDepthOfSaid : Prop := fnExactDepthOfRow.holds Try.pinned (OpenSpec.ofChange fnExactDepthOfSpec)

/-- ITS FALSE NEIGHBOUR: 'it returns false'. Refute it at one input. -/
def fnExactDepthOfWrong : ChangeSpec := { name := "fnExactDepthOf", fn := fun _ => fun
  | [d1, d2] => { results := [.lit (.bool false)], args := [d1, d2] }
  | _ => none }
def FnExactDepthOfWrongFalsely : Prop := fnExactDepthOfRow.holds Try.pinned (OpenSpec.ofChange fnExactDepthOfWrong)

/-- 'laws.FnExactCommitState': WHATEVER THE INPUT: true; the input reads as it did. -/
def fnExactCommitStateSpec : ChangeSpec := { name := "fnExactCommitState", fn := fun _ => fun
  | [d1, d2, d3, d4] => { results := [.lit (.bool true)], args := [d1, d2, d3, d4] }
  | _ => none }
def fnExactCommitStateRow : OpenClaim := { program := "ytcgoalegobkgaaa", sum := "8f6534bdfad0bcbffc59230496498ac89c47b686f302e55d5d4c93b5e8206695", func := "loop.example/g01005/laws.FnExactCommitState", spec := "fnExactCommitState", unfollowed := true, recurses := true, apart := false }
def FnExactCommitStateSaid : Prop := fnExactCommitStateRow.holds Try.pinned (OpenSpec.ofChange fnExactCommitStateSpec)

/-- ITS FALSE NEIGHBOUR: 'it returns false'. Refute it at one input. -/
def fnExactCommitStateWrong : ChangeSpec := { name := "fnExactCommitState", fn := fun _ => fun
  | [d1, d2, d3, d4] => { results := [.lit (.bool false)], args := [d1, d2, d3, d4] }
  | _ => none }
def FnExactCommitStateWrongFalsely : Prop := fnExactCommitStateRow.holds Try.pinned (OpenSpec.ofChange fnExactCommitStateWrong)

/-- 'laws.FnExactTouchItem': WHATEVER THE INPUT: true; the input reads as it did. -/
def fnExactTouchItemSpec : ChangeSpec := { name := "fnExactTouchItem", fn := fun _ => fun
  | [d1, d2, d3] => { results := [.lit (.bool true)], args := [d1, d2, d3] }
  | _ => none }
def fnExactTouchItemRow : OpenClaim := { program := "ytcgoalegobkgaaa", sum := "8f6534bdfad0bcbffc59230496498ac89c47b686f302e55d5d4c93b5e8206695", func := "loop.example/g01005/laws.FnExactTouchItem", spec := "fnExactTouchItem", unfollowed := true, recurses := true, apart := false }
def FnExactTouchItemSaid : Prop := fnExactTouchItemRow.holds Try.pinned (OpenSpec.ofChange fnExactTouchItemSpec)

/-- ITS FALSE NEIGHBOUR: 'it returns false'. Refute it at one input. -/
def fnExactTouchItemWrong : ChangeSpec := { name := "fnExactTouchItem", fn := fun _ => fun
  | [d1, d2, d3] => { results := [.lit (.bool false)], args := [d1, d2, d3] }
  | _ => none }
def FnExactTouchItemWrongFalsely : Prop := fnExactTouchItemRow.holds Try.pinned (OpenSpec.ofChange fnExactTouchItemWrong)

/-- 'laws.FnExactSameWorld': WHATEVER THE INPUT: true; the input reads as it did. -/
def fnExactSameWorldSpec : ChangeSpec := { name := "fnExactSameWorld", fn := fun _ => fun
  | [d1, d2] => { results := [.lit (.bool true)], args := [d1, d2] }
  | _ => none }
def fnExactSameWorldRow : OpenClaim := { program := "ytcgoalegobkgaaa", sum := "8f6534bdfad0bcbffc59230496498ac89c47b686f302e55d5d4c93b5e8206695", func := "loop.example/g01005/laws.FnExactSameWorld", spec := "fnExactSameWorld", unfollowed := true, recurses := true, apart := false }
def FnExactSameWorldSaid : Prop := fnExactSameWorldRow.holds Try.pinned (OpenSpec.ofChange fnExactSameWorldSpec)

/-- ITS FALSE NEIGHBOUR: 'it returns false'. Refute it at one input. -/
def fnExactSameWorldWrong : ChangeSpec := { name := "fnExactSameWorld", fn := fun _ => fun
  | [d1, d2] => { results := [.lit (.bool false)], args := [d1, d2] }
  | _ => none }
def FnExactSameWorldWrongFalsely : Prop := fnExactSameWorldRow.holds Try.pinned (OpenSpec.ofChange fnExactSameWorldWrong)

/- THE SECOND FORM. 'bulk': how many values and letters a reading holds, each counted each time it is reached (what is shared counts as often as it is met; a slice's spare places count too). A statement '..UptoSaid' is the law's where the arguments, and the package variables that the reading takes, are together of bulk at most 1048576: NARROWER than '..Said'. Prove '..Said' where nothing that the law and all that it calls make is longer than what came in: it says more and counts as full. Else prove '..UptoSaid'. A law counts once. -/
mutual
def uptoBulk {H : Type} : DataW H → Nat
  | .lit (.string bytes) => bytes.length + 1
  | .lit _ => 1
  | .nil => 1
  | .ptr d => uptoBulk d + 1
  | .slice elems spare => uptoBulkAll elems + uptoBulkAll spare + 1
  | .agg parts => uptoBulkAll parts + 1
  | .iface _ d => uptoBulk d + 1
  | .map entries => uptoBulkEntries entries + 1
  | .held _ => 1
def uptoBulkAll {H : Type} : List (DataW H) → Nat
  | [] => 0
  | d :: r => uptoBulk d + uptoBulkAll r
def uptoBulkEntries {H : Type} : List (Lit × DataW H) → Nat
  | [] => 0
  | x :: r => uptoBulkEntry x + uptoBulkEntries r
def uptoBulkEntry {H : Type} : Lit × DataW H → Nat
  | (.string bytes, d) => bytes.length + uptoBulk d + 1
  | (_, d) => uptoBulk d + 1
 end
def uptoSmall : (H : Type) → List (DataW H) → Bool := fun _ ds => decide (uptoBulkAll ds ≤ 1048576)
def OpenSpec.upto (s : _root_.Go.ChangeSpec) : _root_.Go.OpenSpec := { _root_.Go.OpenSpec.ofChange s with cond := some uptoSmall }

/-- 'laws.FnExactValidItems', WHERE WHAT IT READS IS OF BULK AT MOST 1048576: true; the input reads as it did. -/
def fnExactValidItemsUptoRow : OpenClaim := { program := "ytcgoalegobkgaaa", sum := "8f6534bdfad0bcbffc59230496498ac89c47b686f302e55d5d4c93b5e8206695", func := "loop.example/g01005/laws.FnExactValidItems", spec := "fnExactValidItems", unfollowed := true, recurses := true, apart := false, narrowed := true }
def FnExactValidItemsUptoSaid : Prop := fnExactValidItemsUptoRow.holds Try.pinned (OpenSpec.upto fnExactValidItemsSpec)

/-- 'laws.FnExactValidProof', WHERE WHAT IT READS IS OF BULK AT MOST 1048576: true; the input reads as it did. -/
def fnExactValidProofUptoRow : OpenClaim := { program := "ytcgoalegobkgaaa", sum := "8f6534bdfad0bcbffc59230496498ac89c47b686f302e55d5d4c93b5e8206695", func := "loop.example/g01005/laws.FnExactValidProof", spec := "fnExactValidProof", unfollowed := true, recurses := true, apart := false, narrowed := true }
def FnExactValidProofUptoSaid : Prop := fnExactValidProofUptoRow.holds Try.pinned (OpenSpec.upto fnExactValidProofSpec)

/-- 'laws.FnExactDiffStates', WHERE WHAT IT READS IS OF BULK AT MOST 1048576: true; the input reads as it did. -/
def fnExactDiffStatesUptoRow : OpenClaim := { program := "ytcgoalegobkgaaa", sum := "8f6534bdfad0bcbffc59230496498ac89c47b686f302e55d5d4c93b5e8206695", func := "loop.example/g01005/laws.FnExactDiffStates", spec := "fnExactDiffStates", unfollowed := true, recurses := true, apart := false, narrowed := true }
def FnExactDiffStatesUptoSaid : Prop := fnExactDiffStatesUptoRow.holds Try.pinned (OpenSpec.upto fnExactDiffStatesSpec)

/-- 'laws.FnExactMakeOrder', WHERE WHAT IT READS IS OF BULK AT MOST 1048576: true; the input reads as it did. -/
def fnExactMakeOrderUptoRow : OpenClaim := { program := "ytcgoalegobkgaaa", sum := "8f6534bdfad0bcbffc59230496498ac89c47b686f302e55d5d4c93b5e8206695", func := "loop.example/g01005/laws.FnExactMakeOrder", spec := "fnExactMakeOrder", unfollowed := true, recurses := true, apart := false, narrowed := true }
def FnExactMakeOrderUptoSaid : Prop := fnExactMakeOrderUptoRow.holds Try.pinned (OpenSpec.upto fnExactMakeOrderSpec)

/-- 'laws.FnExactCommonAncestor', WHERE WHAT IT READS IS OF BULK AT MOST 1048576: true; the input reads as it did. -/
def fnExactCommonAncestorUptoRow : OpenClaim := { program := "ytcgoalegobkgaaa", sum := "8f6534bdfad0bcbffc59230496498ac89c47b686f302e55d5d4c93b5e8206695", func := "loop.example/g01005/laws.FnExactCommonAncestor", spec := "fnExactCommonAncestor", unfollowed := true, recurses := true, apart := false, narrowed := true }
def FnExactCommonAncestorUptoSaid : Prop := fnExactCommonAncestorUptoRow.holds Try.pinned (OpenSpec.upto fnExactCommonAncestorSpec)

/-- 'laws.FnExactHeadsOf', WHERE WHAT IT READS IS OF BULK AT MOST 1048576: true; the input reads as it did. -/
def fnExactHeadsOfUptoRow : OpenClaim := { program := "ytcgoalegobkgaaa", sum := "8f6534bdfad0bcbffc59230496498ac89c47b686f302e55d5d4c93b5e8206695", func := "loop.example/g01005/laws.FnExactHeadsOf", spec := "fnExactHeadsOf", unfollowed := true, recurses := true, apart := false, narrowed := true }
def FnExactHeadsOfUptoSaid : Prop := fnExactHeadsOfUptoRow.holds Try.pinned (OpenSpec.upto fnExactHeadsOfSpec)

/-- 'laws.FnExactAncestorsOf', WHERE WHAT IT READS IS OF BULK AT MOST 1048576: true; the input reads as it did. -/
def fnExactAncestorsOfUptoRow : OpenClaim := { program := "ytcgoalegobkgaaa", sum := "8f6534bdfad0bcbffc59230496498ac89c47b686f302e55d5d4c93b5e8206695", func := "loop.example/g01005/laws.FnExactAncestorsOf", spec := "fnExactAncestorsOf", unfollowed := true, recurses := true, apart := false, narrowed := true }
def FnExactAncestorsOfUptoSaid : Prop := fnExactAncestorsOfUptoRow.holds Try.pinned (OpenSpec.upto fnExactAncestorsOfSpec)

/-- 'laws.FnExactDepthOf', WHERE WHAT IT READS IS OF BULK AT MOST 1048576: true; the input reads as it did. -/
def fnExactDepthOfUptoRow : OpenClaim := { program := "ytcgoalegobkgaaa", sum := "8f6534bdfad0bcbffc59230496498ac89c47b686f302e55d5d4c93b5e8206695", func := "loop.example/g01005/laws.FnExactDepthOf", spec := "fnExactDepthOf", unfollowed := true, recurses := true, apart := false, narrowed := true }
def FnExactDepthOfUptoSaid : Prop := fnExactDepthOfUptoRow.holds Try.pinned (OpenSpec.upto fnExactDepthOfSpec)

/-- 'laws.FnExactCommitState', WHERE WHAT IT READS IS OF BULK AT MOST 1048576: true; the input reads as it did. -/
def fnExactCommitStateUptoRow : OpenClaim := { program := "ytcgoalegobkgaaa", sum := "8f6534bdfad0bcbffc59230496498ac89c47b686f302e55d5d4c93b5e8206695", func := "loop.example/g01005/laws.FnExactCommitState", spec := "fnExactCommitState", unfollowed := true, recurses := true, apart := false, narrowed := true }
def FnExactCommitStateUptoSaid : Prop := fnExactCommitStateUptoRow.holds Try.pinned (OpenSpec.upto fnExactCommitStateSpec)

/-- 'laws.FnExactTouchItem', WHERE WHAT IT READS IS OF BULK AT MOST 1048576: true; the input reads as it did. -/
def fnExactTouchItemUptoRow : OpenClaim := { program := "ytcgoalegobkgaaa", sum := "8f6534bdfad0bcbffc59230496498ac89c47b686f302e55d5d4c93b5e8206695", func := "loop.example/g01005/laws.FnExactTouchItem", spec := "fnExactTouchItem", unfollowed := true, recurses := true, apart := false, narrowed := true }
def FnExactTouchItemUptoSaid : Prop := fnExactTouchItemUptoRow.holds Try.pinned (OpenSpec.upto fnExactTouchItemSpec)

/-- 'laws.FnExactSameWorld', WHERE WHAT IT READS IS OF BULK AT MOST 1048576: true; the input reads as it did. -/
def fnExactSameWorldUptoRow : OpenClaim := { program := "ytcgoalegobkgaaa", sum := "8f6534bdfad0bcbffc59230496498ac89c47b686f302e55d5d4c93b5e8206695", func := "loop.example/g01005/laws.FnExactSameWorld", spec := "fnExactSameWorld", unfollowed := true, recurses := true, apart := false, narrowed := true }
def FnExactSameWorldUptoSaid : Prop := fnExactSameWorldUptoRow.holds Try.pinned (OpenSpec.upto fnExactSameWorldSpec)

end Rows
end Go.Proofs.Ytcgoalegobkgaaa
