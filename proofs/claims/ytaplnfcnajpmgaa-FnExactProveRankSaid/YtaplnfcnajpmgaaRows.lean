/-
  No cell of these rows narrows 'for every input' (looked for: loops, veiled, ifaces, maps, wideKeys, modest, calm, conditions, laid).
  DERIVED. THE GIVEN ROWS OF THIS SEAT. 7 by the template 'for every input the law returns true; each argument reads behind the call as it read before'; 0 by the template 'total and deterministic' (their statements: YtaplnfcnajpmgaaTotals.lean).
  GIVEN WITH THE SEED: the statements are not yours to turn. If you find one false, say at which input.
  Laid BY PROGRAM, IN A SANDBOX (cutbox-rows.mjs): the forced cells as the released guide's own fill.sh prints them over the translation cb0c3ce543b7f598… (all of the seat's roots in one cut). By AI agents, Wed Nov 11 2026. No macro, syntax, notation, axiom, sorry.
-/
import Derived.Test.YtaplnfcnajpmgaaChecked
import GoSem.Claim
import GoSem.ClaimJoined
import GoSem.ClaimMapViews
import Derived.JoinedTies
import Derived.KernelRfl
namespace Go.Proofs.Ytaplnfcnajpmgaa
/- THE CELL 'sum', in the pinned program and in every row, IS THE sha256 OF THE DUMP (.gsa) THAT YtaplnfcnajpmgaaProg.lean LOADS. Nothing in Lean hashes anything: it is a label: what it is worth is what the hold of that sum in a sandbox is worth. -/
noncomputable def Try.pinned : Pinned := { name := "ytaplnfcnajpmgaa", sum := "cb0c3ce543b7f598411e04919f3b821bad87580723a0d939c983b41ef6e30e5e", checked := Try.checked }
namespace Rows
def none {H : Type} : Left H := { results := [], args := [] }

/-- 'laws.FnExactProveKernel': WHATEVER THE INPUT: true; the input reads as it did. -/
def fnExactProveKernelSpec : ChangeSpec := { name := "fnExactProveKernel", fn := fun _ => fun
  | [d] => { results := [.lit (.bool true)], args := [d] }
  | _ => none }
def fnExactProveKernelRow : OpenClaim := { program := "ytaplnfcnajpmgaa", sum := "cb0c3ce543b7f598411e04919f3b821bad87580723a0d939c983b41ef6e30e5e", func := "loop.example/g01005/laws.FnExactProveKernel", spec := "fnExactProveKernel", unfollowed := true, recurses := true, apart := false }
def FnExactProveKernelSaid : Prop := fnExactProveKernelRow.holds Try.pinned (OpenSpec.ofChange fnExactProveKernelSpec)

/-- ITS FALSE NEIGHBOUR: 'it returns false'. Refute it at one input. -/
def fnExactProveKernelWrong : ChangeSpec := { name := "fnExactProveKernel", fn := fun _ => fun
  | [d] => { results := [.lit (.bool false)], args := [d] }
  | _ => none }
def FnExactProveKernelWrongFalsely : Prop := fnExactProveKernelRow.holds Try.pinned (OpenSpec.ofChange fnExactProveKernelWrong)

/-- 'laws.FnExactProveInjective': WHATEVER THE INPUT: true; the input reads as it did. -/
def fnExactProveInjectiveSpec : ChangeSpec := { name := "fnExactProveInjective", fn := fun _ => fun
  | [d] => { results := [.lit (.bool true)], args := [d] }
  | _ => none }
def fnExactProveInjectiveRow : OpenClaim := { program := "ytaplnfcnajpmgaa", sum := "cb0c3ce543b7f598411e04919f3b821bad87580723a0d939c983b41ef6e30e5e", func := "loop.example/g01005/laws.FnExactProveInjective", spec := "fnExactProveInjective", unfollowed := true, recurses := true, apart := false }
def FnExactProveInjectiveSaid : Prop := fnExactProveInjectiveRow.holds Try.pinned (OpenSpec.ofChange fnExactProveInjectiveSpec)

/-- ITS FALSE NEIGHBOUR: 'it returns false'. Refute it at one input. -/
def fnExactProveInjectiveWrong : ChangeSpec := { name := "fnExactProveInjective", fn := fun _ => fun
  | [d] => { results := [.lit (.bool false)], args := [d] }
  | _ => none }
def FnExactProveInjectiveWrongFalsely : Prop := fnExactProveInjectiveRow.holds Try.pinned (OpenSpec.ofChange fnExactProveInjectiveWrong)

/-- 'laws.FnExactProveSolution': WHATEVER THE INPUT: true; the input reads as it did. -/
def fnExactProveSolutionSpec : ChangeSpec := { name := "fnExactProveSolution", fn := fun _ => fun
  | [d1, d2] => { results := [.lit (.bool true)], args := [d1, d2] }
  | _ => none }
def fnExactProveSolutionRow : OpenClaim := { program := "ytaplnfcnajpmgaa", sum := "cb0c3ce543b7f598411e04919f3b821bad87580723a0d939c983b41ef6e30e5e", func := "loop.example/g01005/laws.FnExactProveSolution", spec := "fnExactProveSolution", unfollowed := true, recurses := true, apart := false }
def FnExactProveSolutionSaid : Prop := fnExactProveSolutionRow.holds Try.pinned (OpenSpec.ofChange fnExactProveSolutionSpec)

/-- ITS FALSE NEIGHBOUR: 'it returns false'. Refute it at one input. -/
def fnExactProveSolutionWrong : ChangeSpec := { name := "fnExactProveSolution", fn := fun _ => fun
  | [d1, d2] => { results := [.lit (.bool false)], args := [d1, d2] }
  | _ => none }
def FnExactProveSolutionWrongFalsely : Prop := fnExactProveSolutionRow.holds Try.pinned (OpenSpec.ofChange fnExactProveSolutionWrong)

/-- 'laws.FnExactProveRank': WHATEVER THE INPUT: true; the input reads as it did. -/
def fnExactProveRankSpec : ChangeSpec := { name := "fnExactProveRank", fn := fun _ => fun
  | [d] => { results := [.lit (.bool true)], args := [d] }
  | _ => none }
def fnExactProveRankRow : OpenClaim := { program := "ytaplnfcnajpmgaa", sum := "cb0c3ce543b7f598411e04919f3b821bad87580723a0d939c983b41ef6e30e5e", func := "loop.example/g01005/laws.FnExactProveRank", spec := "fnExactProveRank", unfollowed := true, recurses := true, apart := false }
def FnExactProveRankSaid : Prop := fnExactProveRankRow.holds Try.pinned (OpenSpec.ofChange fnExactProveRankSpec)

/-- ITS FALSE NEIGHBOUR: 'it returns false'. Refute it at one input. -/
def fnExactProveRankWrong : ChangeSpec := { name := "fnExactProveRank", fn := fun _ => fun
  | [d] => { results := [.lit (.bool false)], args := [d] }
  | _ => none }
def FnExactProveRankWrongFalsely : Prop := fnExactProveRankRow.holds Try.pinned (OpenSpec.ofChange fnExactProveRankWrong)

/-- 'laws.FnExactCheckProof': WHATEVER THE INPUT: true; the input reads as it did. -/
def fnExactCheckProofSpec : ChangeSpec := { name := "fnExactCheckProof", fn := fun _ => fun
  | [d] => { results := [.lit (.bool true)], args := [d] }
  | _ => none }
def fnExactCheckProofRow : OpenClaim := { program := "ytaplnfcnajpmgaa", sum := "cb0c3ce543b7f598411e04919f3b821bad87580723a0d939c983b41ef6e30e5e", func := "loop.example/g01005/laws.FnExactCheckProof", spec := "fnExactCheckProof", unfollowed := true, recurses := true, apart := false }
def FnExactCheckProofSaid : Prop := fnExactCheckProofRow.holds Try.pinned (OpenSpec.ofChange fnExactCheckProofSpec)

/-- ITS FALSE NEIGHBOUR: 'it returns false'. Refute it at one input. -/
def fnExactCheckProofWrong : ChangeSpec := { name := "fnExactCheckProof", fn := fun _ => fun
  | [d] => { results := [.lit (.bool false)], args := [d] }
  | _ => none }
def FnExactCheckProofWrongFalsely : Prop := fnExactCheckProofRow.holds Try.pinned (OpenSpec.ofChange fnExactCheckProofWrong)

/-- 'laws.FnExactRankProved': WHATEVER THE INPUT: true; the input reads as it did. -/
def fnExactRankProvedSpec : ChangeSpec := { name := "fnExactRankProved", fn := fun _ => fun
  | [d1, d2] => { results := [.lit (.bool true)], args := [d1, d2] }
  | _ => none }
def fnExactRankProvedRow : OpenClaim := { program := "ytaplnfcnajpmgaa", sum := "cb0c3ce543b7f598411e04919f3b821bad87580723a0d939c983b41ef6e30e5e", func := "loop.example/g01005/laws.FnExactRankProved", spec := "fnExactRankProved", unfollowed := true, recurses := true, apart := false }
def FnExactRankProvedSaid : Prop := fnExactRankProvedRow.holds Try.pinned (OpenSpec.ofChange fnExactRankProvedSpec)

/-- ITS FALSE NEIGHBOUR: 'it returns false'. Refute it at one input. -/
def fnExactRankProvedWrong : ChangeSpec := { name := "fnExactRankProved", fn := fun _ => fun
  | [d1, d2] => { results := [.lit (.bool false)], args := [d1, d2] }
  | _ => none }
def FnExactRankProvedWrongFalsely : Prop := fnExactRankProvedRow.holds Try.pinned (OpenSpec.ofChange fnExactRankProvedWrong)

/-- 'laws.FnExactFirstWrong': WHATEVER THE INPUT: true; the input reads as it did. -/
def fnExactFirstWrongSpec : ChangeSpec := { name := "fnExactFirstWrong", fn := fun _ => fun
  | [d] => { results := [.lit (.bool true)], args := [d] }
  | _ => none }
def fnExactFirstWrongRow : OpenClaim := { program := "ytaplnfcnajpmgaa", sum := "cb0c3ce543b7f598411e04919f3b821bad87580723a0d939c983b41ef6e30e5e", func := "loop.example/g01005/laws.FnExactFirstWrong", spec := "fnExactFirstWrong", unfollowed := true, recurses := true, apart := false }
def FnExactFirstWrongSaid : Prop := fnExactFirstWrongRow.holds Try.pinned (OpenSpec.ofChange fnExactFirstWrongSpec)

/-- ITS FALSE NEIGHBOUR: 'it returns false'. Refute it at one input. -/
def fnExactFirstWrongWrong : ChangeSpec := { name := "fnExactFirstWrong", fn := fun _ => fun
  | [d] => { results := [.lit (.bool false)], args := [d] }
  | _ => none }
def FnExactFirstWrongWrongFalsely : Prop := fnExactFirstWrongRow.holds Try.pinned (OpenSpec.ofChange fnExactFirstWrongWrong)

/- THE SECOND FORM. 'bulk': how many values and letters a reading holds, each counted each time it is reached (what is shared counts as often as it is met; a slice's spare places count too). A statement '..UptoSaid' is the law's where the arguments, and the package variables that the reading takes, are together of bulk at most 1048576: NARROWER than '..Said'. Prove '..Said' where nothing that the law and all that it calls make is longer than what came in: it says more and counts as full. Else prove '..UptoSaid'. A law counts once. -/
mutual
def uptoBulk {H : Type} : DataW H → Nat
  | .lit (.string bytes) => bytes.length + 1
  | .lit _ => 1
  | .nil => 1
  | .ptr d => uptoBulk d + 1
  | .slice elems spare => uptoBulkAll elems + uptoBulkAll spare + 1
  | .agg parts => uptoBulkAll parts + 1
  | .iface _ d => uptoBulk d + 1
  | .map entries => uptoBulkEntries entries + 1
  | .held _ => 1
def uptoBulkAll {H : Type} : List (DataW H) → Nat
  | [] => 0
  | d :: r => uptoBulk d + uptoBulkAll r
def uptoBulkEntries {H : Type} : List (Lit × DataW H) → Nat
  | [] => 0
  | x :: r => uptoBulkEntry x + uptoBulkEntries r
def uptoBulkEntry {H : Type} : Lit × DataW H → Nat
  | (.string bytes, d) => bytes.length + uptoBulk d + 1
  | (_, d) => uptoBulk d + 1
 end
def uptoSmall : (H : Type) → List (DataW H) → Bool := fun _ ds => decide (uptoBulkAll ds ≤ 1048576)
def OpenSpec.upto (s : _root_.Go.ChangeSpec) : _root_.Go.OpenSpec := { _root_.Go.OpenSpec.ofChange s with cond := some uptoSmall }

/-- 'laws.FnExactProveKernel', WHERE WHAT IT READS IS OF BULK AT MOST 1048576: true; the input reads as it did. -/
def fnExactProveKernelUptoRow : OpenClaim := { program := "ytaplnfcnajpmgaa", sum := "cb0c3ce543b7f598411e04919f3b821bad87580723a0d939c983b41ef6e30e5e", func := "loop.example/g01005/laws.FnExactProveKernel", spec := "fnExactProveKernel", unfollowed := true, recurses := true, apart := false, narrowed := true }
def FnExactProveKernelUptoSaid : Prop := fnExactProveKernelUptoRow.holds Try.pinned (OpenSpec.upto fnExactProveKernelSpec)

/-- 'laws.FnExactProveInjective', WHERE WHAT IT READS IS OF BULK AT MOST 1048576: true; the input reads as it did. -/
def fnExactProveInjectiveUptoRow : OpenClaim := { program := "ytaplnfcnajpmgaa", sum := "cb0c3ce543b7f598411e04919f3b821bad87580723a0d939c983b41ef6e30e5e", func := "loop.example/g01005/laws.FnExactProveInjective", spec := "fnExactProveInjective", unfollowed := true, recurses := true, apart := false, narrowed := true }
def FnExactProveInjectiveUptoSaid : Prop := fnExactProveInjectiveUptoRow.holds Try.pinned (OpenSpec.upto fnExactProveInjectiveSpec)

/-- 'laws.FnExactProveSolution', WHERE WHAT IT READS IS OF BULK AT MOST 1048576: true; the input reads as it did. -/
def fnExactProveSolutionUptoRow : OpenClaim := { program := "ytaplnfcnajpmgaa", sum := "cb0c3ce543b7f598411e04919f3b821bad87580723a0d939c983b41ef6e30e5e", func := "loop.example/g01005/laws.FnExactProveSolution", spec := "fnExactProveSolution", unfollowed := true, recurses := true, apart := false, narrowed := true }
def FnExactProveSolutionUptoSaid : Prop := fnExactProveSolutionUptoRow.holds Try.pinned (OpenSpec.upto fnExactProveSolutionSpec)

/-- 'laws.FnExactProveRank', WHERE WHAT IT READS IS OF BULK AT MOST 1048576: true; the input reads as it did. -/
def fnExactProveRankUptoRow : OpenClaim := { program := "ytaplnfcnajpmgaa", sum := "cb0c3ce543b7f598411e04919f3b821bad87580723a0d939c983b41ef6e30e5e", func := "loop.example/g01005/laws.FnExactProveRank", spec := "fnExactProveRank", unfollowed := true, recurses := true, apart := false, narrowed := true }
def FnExactProveRankUptoSaid : Prop := fnExactProveRankUptoRow.holds Try.pinned (OpenSpec.upto fnExactProveRankSpec)

/-- 'laws.FnExactCheckProof', WHERE WHAT IT READS IS OF BULK AT MOST 1048576: true; the input reads as it did. -/
def fnExactCheckProofUptoRow : OpenClaim := { program := "ytaplnfcnajpmgaa", sum := "cb0c3ce543b7f598411e04919f3b821bad87580723a0d939c983b41ef6e30e5e", func := "loop.example/g01005/laws.FnExactCheckProof", spec := "fnExactCheckProof", unfollowed := true, recurses := true, apart := false, narrowed := true }
def FnExactCheckProofUptoSaid : Prop := fnExactCheckProofUptoRow.holds Try.pinned (OpenSpec.upto fnExactCheckProofSpec)

/-- 'laws.FnExactRankProved', WHERE WHAT IT READS IS OF BULK AT MOST 1048576: true; the input reads as it did. -/
def fnExactRankProvedUptoRow : OpenClaim := { program := "ytaplnfcnajpmgaa", sum := "cb0c3ce543b7f598411e04919f3b821bad87580723a0d939c983b41ef6e30e5e", func := "loop.example/g01005/laws.FnExactRankProved", spec := "fnExactRankProved", unfollowed := true, recurses := true, apart := false, narrowed := true }
def FnExactRankProvedUptoSaid : Prop := fnExactRankProvedUptoRow.holds Try.pinned (OpenSpec.upto fnExactRankProvedSpec)

/-- 'laws.FnExactFirstWrong', WHERE WHAT IT READS IS OF BULK AT MOST 1048576: true; the input reads as it did. -/
def fnExactFirstWrongUptoRow : OpenClaim := { program := "ytaplnfcnajpmgaa", sum := "cb0c3ce543b7f598411e04919f3b821bad87580723a0d939c983b41ef6e30e5e", func := "loop.example/g01005/laws.FnExactFirstWrong", spec := "fnExactFirstWrong", unfollowed := true, recurses := true, apart := false, narrowed := true }
def FnExactFirstWrongUptoSaid : Prop := fnExactFirstWrongUptoRow.holds Try.pinned (OpenSpec.upto fnExactFirstWrongSpec)

end Rows
end Go.Proofs.Ytaplnfcnajpmgaa
