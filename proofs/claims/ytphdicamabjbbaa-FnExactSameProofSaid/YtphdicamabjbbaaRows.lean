/-
  No cell of these rows narrows 'for every input' (looked for: loops, veiled, ifaces, maps, wideKeys, modest, calm, conditions, laid).
  DERIVED. THE GIVEN ROWS OF THIS SEAT. 6 by the template 'for every input the law returns true; each argument reads behind the call as it read before'; 0 by the template 'total and deterministic' (their statements: YtphdicamabjbbaaTotals.lean).
  GIVEN WITH THE SEED: the statements are not yours to turn. If you find one false, say at which input.
  Laid BY PROGRAM, IN A SANDBOX (cutbox-rows.mjs): the forced cells as the released guide's own fill.sh prints them over the translation f783ed67271dcdea… (all of the seat's roots in one cut). By AI agents, Wed Nov 11 2026. No macro, syntax, notation, axiom, sorry.
-/
import Derived.Test.YtphdicamabjbbaaChecked
import GoSem.Claim
import GoSem.ClaimJoined
import GoSem.ClaimMapViews
import Derived.JoinedTies
import Derived.KernelRfl
namespace Go.Proofs.Ytphdicamabjbbaa
/- THE CELL 'sum', in the pinned program and in every row, IS THE sha256 OF THE DUMP (.gsa) THAT YtphdicamabjbbaaProg.lean LOADS. Nothing in Lean hashes anything: it is a label: what it is worth is what the hold of that sum in a sandbox is worth. -/
noncomputable def Try.pinned : Pinned := { name := "ytphdicamabjbbaa", sum := "f783ed67271dcdea21961a765b33c94b1bb2a2a565426ddca5bdff3d9921b34c", checked := Try.checked }
namespace Rows
def none {H : Type} : Left H := { results := [], args := [] }

/-- 'laws.FnExactProofName': WHATEVER THE INPUT: true; the input reads as it did. -/
def fnExactProofNameSpec : ChangeSpec := { name := "fnExactProofName", fn := fun _ => fun
  | [d] => { results := [.lit (.bool true)], args := [d] }
  | _ => none }
def fnExactProofNameRow : OpenClaim := { program := "ytphdicamabjbbaa", sum := "f783ed67271dcdea21961a765b33c94b1bb2a2a565426ddca5bdff3d9921b34c", func := "loop.example/g01005/laws.FnExactProofName", spec := "fnExactProofName", apart := false }
def FnExactProofNameSaid : Prop := fnExactProofNameRow.holds Try.pinned (OpenSpec.ofChange fnExactProofNameSpec)

/-- ITS FALSE NEIGHBOUR: 'it returns false'. Refute it at one input. -/
def fnExactProofNameWrong : ChangeSpec := { name := "fnExactProofName", fn := fun _ => fun
  | [d] => { results := [.lit (.bool false)], args := [d] }
  | _ => none }
def FnExactProofNameWrongFalsely : Prop := fnExactProofNameRow.holds Try.pinned (OpenSpec.ofChange fnExactProofNameWrong)

/-- 'laws.FnExactSameState': WHATEVER THE INPUT: true; the input reads as it did. -/
def fnExactSameStateSpec : ChangeSpec := { name := "fnExactSameState", fn := fun _ => fun
  | [d1, d2] => { results := [.lit (.bool true)], args := [d1, d2] }
  | _ => none }
def fnExactSameStateRow : OpenClaim := { program := "ytphdicamabjbbaa", sum := "f783ed67271dcdea21961a765b33c94b1bb2a2a565426ddca5bdff3d9921b34c", func := "loop.example/g01005/laws.FnExactSameState", spec := "fnExactSameState", apart := false }
def FnExactSameStateSaid : Prop := fnExactSameStateRow.holds Try.pinned (OpenSpec.ofChange fnExactSameStateSpec)

/-- ITS FALSE NEIGHBOUR: 'it returns false'. Refute it at one input. -/
def fnExactSameStateWrong : ChangeSpec := { name := "fnExactSameState", fn := fun _ => fun
  | [d1, d2] => { results := [.lit (.bool false)], args := [d1, d2] }
  | _ => none }
def FnExactSameStateWrongFalsely : Prop := fnExactSameStateRow.holds Try.pinned (OpenSpec.ofChange fnExactSameStateWrong)

/-- 'laws.FnExactValidState': WHATEVER THE INPUT: true; the input reads as it did. -/
def fnExactValidStateSpec : ChangeSpec := { name := "fnExactValidState", fn := fun _ => fun
  | [d] => { results := [.lit (.bool true)], args := [d] }
  | _ => none }
def fnExactValidStateRow : OpenClaim := { program := "ytphdicamabjbbaa", sum := "f783ed67271dcdea21961a765b33c94b1bb2a2a565426ddca5bdff3d9921b34c", func := "loop.example/g01005/laws.FnExactValidState", spec := "fnExactValidState", apart := false }
def FnExactValidStateSaid : Prop := fnExactValidStateRow.holds Try.pinned (OpenSpec.ofChange fnExactValidStateSpec)

/-- ITS FALSE NEIGHBOUR: 'it returns false'. Refute it at one input. -/
def fnExactValidStateWrong : ChangeSpec := { name := "fnExactValidState", fn := fun _ => fun
  | [d] => { results := [.lit (.bool false)], args := [d] }
  | _ => none }
def FnExactValidStateWrongFalsely : Prop := fnExactValidStateRow.holds Try.pinned (OpenSpec.ofChange fnExactValidStateWrong)

/-- 'laws.FnExactSameItems': WHATEVER THE INPUT: true; the input reads as it did. -/
def fnExactSameItemsSpec : ChangeSpec := { name := "fnExactSameItems", fn := fun _ => fun
  | [d1, d2] => { results := [.lit (.bool true)], args := [d1, d2] }
  | _ => none }
def fnExactSameItemsRow : OpenClaim := { program := "ytphdicamabjbbaa", sum := "f783ed67271dcdea21961a765b33c94b1bb2a2a565426ddca5bdff3d9921b34c", func := "loop.example/g01005/laws.FnExactSameItems", spec := "fnExactSameItems", unfollowed := true, recurses := true, apart := false }
def FnExactSameItemsSaid : Prop := fnExactSameItemsRow.holds Try.pinned (OpenSpec.ofChange fnExactSameItemsSpec)

/-- ITS FALSE NEIGHBOUR: 'it returns false'. Refute it at one input. -/
def fnExactSameItemsWrong : ChangeSpec := { name := "fnExactSameItems", fn := fun _ => fun
  | [d1, d2] => { results := [.lit (.bool false)], args := [d1, d2] }
  | _ => none }
def FnExactSameItemsWrongFalsely : Prop := fnExactSameItemsRow.holds Try.pinned (OpenSpec.ofChange fnExactSameItemsWrong)

/-- 'laws.FnExactSameHistory': WHATEVER THE INPUT: true; the input reads as it did. -/
def fnExactSameHistorySpec : ChangeSpec := { name := "fnExactSameHistory", fn := fun _ => fun
  | [d1, d2] => { results := [.lit (.bool true)], args := [d1, d2] }
  | _ => none }
def fnExactSameHistoryRow : OpenClaim := { program := "ytphdicamabjbbaa", sum := "f783ed67271dcdea21961a765b33c94b1bb2a2a565426ddca5bdff3d9921b34c", func := "loop.example/g01005/laws.FnExactSameHistory", spec := "fnExactSameHistory", unfollowed := true, recurses := true, apart := false }
def FnExactSameHistorySaid : Prop := fnExactSameHistoryRow.holds Try.pinned (OpenSpec.ofChange fnExactSameHistorySpec)

/-- ITS FALSE NEIGHBOUR: 'it returns false'. Refute it at one input. -/
def fnExactSameHistoryWrong : ChangeSpec := { name := "fnExactSameHistory", fn := fun _ => fun
  | [d1, d2] => { results := [.lit (.bool false)], args := [d1, d2] }
  | _ => none }
def FnExactSameHistoryWrongFalsely : Prop := fnExactSameHistoryRow.holds Try.pinned (OpenSpec.ofChange fnExactSameHistoryWrong)

/-- 'laws.FnExactSameProof': WHATEVER THE INPUT: true; the input reads as it did. -/
def fnExactSameProofSpec : ChangeSpec := { name := "fnExactSameProof", fn := fun _ => fun
  | [d1, d2] => { results := [.lit (.bool true)], args := [d1, d2] }
  | _ => none }
def fnExactSameProofRow : OpenClaim := { program := "ytphdicamabjbbaa", sum := "f783ed67271dcdea21961a765b33c94b1bb2a2a565426ddca5bdff3d9921b34c", func := "loop.example/g01005/laws.FnExactSameProof", spec := "fnExactSameProof", unfollowed := true, recurses := true, apart := false }
def FnExactSameProofSaid : Prop := fnExactSameProofRow.holds Try.pinned (OpenSpec.ofChange fnExactSameProofSpec)

/-- ITS FALSE NEIGHBOUR: 'it returns false'. Refute it at one input. -/
def fnExactSameProofWrong : ChangeSpec := { name := "fnExactSameProof", fn := fun _ => fun
  | [d1, d2] => { results := [.lit (.bool false)], args := [d1, d2] }
  | _ => none }
def FnExactSameProofWrongFalsely : Prop := fnExactSameProofRow.holds Try.pinned (OpenSpec.ofChange fnExactSameProofWrong)

/- THE SECOND FORM. 'bulk': how many values and letters a reading holds, each counted each time it is reached (what is shared counts as often as it is met; a slice's spare places count too). A statement '..UptoSaid' is the law's where the arguments, and the package variables that the reading takes, are together of bulk at most 1048576: NARROWER than '..Said'. Prove '..Said' where nothing that the law and all that it calls make is longer than what came in: it says more and counts as full. Else prove '..UptoSaid'. A law counts once. -/
mutual
def uptoBulk {H : Type} : DataW H → Nat
  | .lit (.string bytes) => bytes.length + 1
  | .lit _ => 1
  | .nil => 1
  | .ptr d => uptoBulk d + 1
  | .slice elems spare => uptoBulkAll elems + uptoBulkAll spare + 1
  | .agg parts => uptoBulkAll parts + 1
  | .iface _ d => uptoBulk d + 1
  | .map entries => uptoBulkEntries entries + 1
  | .held _ => 1
def uptoBulkAll {H : Type} : List (DataW H) → Nat
  | [] => 0
  | d :: r => uptoBulk d + uptoBulkAll r
def uptoBulkEntries {H : Type} : List (Lit × DataW H) → Nat
  | [] => 0
  | x :: r => uptoBulkEntry x + uptoBulkEntries r
def uptoBulkEntry {H : Type} : Lit × DataW H → Nat
  | (.string bytes, d) => bytes.length + uptoBulk d + 1
  | (_, d) => uptoBulk d + 1
 end
def uptoSmall : (H : Type) → List (DataW H) → Bool := fun _ ds => decide (uptoBulkAll ds ≤ 1048576)
def OpenSpec.upto (s : _root_.Go.ChangeSpec) : _root_.Go.OpenSpec := { _root_.Go.OpenSpec.ofChange s with cond := some uptoSmall }

/-- 'laws.FnExactProofName', WHERE WHAT IT READS IS OF BULK AT MOST 1048576: true; the input reads as it did. -/
def fnExactProofNameUptoRow : OpenClaim := { program := "ytphdicamabjbbaa", sum := "f783ed67271dcdea21961a765b33c94b1bb2a2a565426ddca5bdff3d9921b34c", func := "loop.example/g01005/laws.FnExactProofName", spec := "fnExactProofName", apart := false, narrowed := true }
def FnExactProofNameUptoSaid : Prop := fnExactProofNameUptoRow.holds Try.pinned (OpenSpec.upto fnExactProofNameSpec)

/-- 'laws.FnExactSameState', WHERE WHAT IT READS IS OF BULK AT MOST 1048576: true; the input reads as it did. -/
def fnExactSameStateUptoRow : OpenClaim := { program := "ytphdicamabjbbaa", sum := "f783ed67271dcdea21961a765b33c94b1bb2a2a565426ddca5bdff3d9921b34c", func := "loop.example/g01005/laws.FnExactSameState", spec := "fnExactSameState", apart := false, narrowed := true }
def FnExactSameStateUptoSaid : Prop := fnExactSameStateUptoRow.holds Try.pinned (OpenSpec.upto fnExactSameStateSpec)

/-- 'laws.FnExactValidState', WHERE WHAT IT READS IS OF BULK AT MOST 1048576: true; the input reads as it did. -/
def fnExactValidStateUptoRow : OpenClaim := { program := "ytphdicamabjbbaa", sum := "f783ed67271dcdea21961a765b33c94b1bb2a2a565426ddca5bdff3d9921b34c", func := "loop.example/g01005/laws.FnExactValidState", spec := "fnExactValidState", apart := false, narrowed := true }
def FnExactValidStateUptoSaid : Prop := fnExactValidStateUptoRow.holds Try.pinned (OpenSpec.upto fnExactValidStateSpec)

/-- 'laws.FnExactSameItems', WHERE WHAT IT READS IS OF BULK AT MOST 1048576: true; the input reads as it did. -/
def fnExactSameItemsUptoRow : OpenClaim := { program := "ytphdicamabjbbaa", sum := "f783ed67271dcdea21961a765b33c94b1bb2a2a565426ddca5bdff3d9921b34c", func := "loop.example/g01005/laws.FnExactSameItems", spec := "fnExactSameItems", unfollowed := true, recurses := true, apart := false, narrowed := true }
def FnExactSameItemsUptoSaid : Prop := fnExactSameItemsUptoRow.holds Try.pinned (OpenSpec.upto fnExactSameItemsSpec)

/-- 'laws.FnExactSameHistory', WHERE WHAT IT READS IS OF BULK AT MOST 1048576: true; the input reads as it did. -/
def fnExactSameHistoryUptoRow : OpenClaim := { program := "ytphdicamabjbbaa", sum := "f783ed67271dcdea21961a765b33c94b1bb2a2a565426ddca5bdff3d9921b34c", func := "loop.example/g01005/laws.FnExactSameHistory", spec := "fnExactSameHistory", unfollowed := true, recurses := true, apart := false, narrowed := true }
def FnExactSameHistoryUptoSaid : Prop := fnExactSameHistoryUptoRow.holds Try.pinned (OpenSpec.upto fnExactSameHistorySpec)

/-- 'laws.FnExactSameProof', WHERE WHAT IT READS IS OF BULK AT MOST 1048576: true; the input reads as it did. -/
def fnExactSameProofUptoRow : OpenClaim := { program := "ytphdicamabjbbaa", sum := "f783ed67271dcdea21961a765b33c94b1bb2a2a565426ddca5bdff3d9921b34c", func := "loop.example/g01005/laws.FnExactSameProof", spec := "fnExactSameProof", unfollowed := true, recurses := true, apart := false, narrowed := true }
def FnExactSameProofUptoSaid : Prop := fnExactSameProofUptoRow.holds Try.pinned (OpenSpec.upto fnExactSameProofSpec)

end Rows
end Go.Proofs.Ytphdicamabjbbaa
