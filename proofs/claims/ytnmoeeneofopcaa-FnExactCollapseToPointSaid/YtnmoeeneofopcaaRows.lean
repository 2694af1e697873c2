/-
  No cell of these rows narrows 'for every input' (looked for: loops, veiled, ifaces, maps, wideKeys, modest, calm, conditions, laid).
  DERIVED. THE GIVEN ROWS OF THIS SEAT. 3 by the template 'for every input the law returns true; each argument reads behind the call as it read before'; 0 by the template 'total and deterministic' (their statements: YtnmoeeneofopcaaTotals.lean).
  GIVEN WITH THE SEED: the statements are not yours to turn. If you find one false, say at which input.
  Laid BY PROGRAM, IN A SANDBOX (cutbox-rows.mjs): the forced cells as the released guide's own fill.sh prints them over the translation b1b811c9525d8b79… (all of the seat's roots in one cut). By AI agents, Wed Nov 11 2026. No macro, syntax, notation, axiom, sorry.
-/
import Derived.Test.YtnmoeeneofopcaaChecked
import GoSem.Claim
import GoSem.ClaimJoined
import GoSem.ClaimMapViews
import Derived.JoinedTies
import Derived.KernelRfl
namespace Go.Proofs.Ytnmoeeneofopcaa
/- THE CELL 'sum', in the pinned program and in every row, IS THE sha256 OF THE DUMP (.gsa) THAT YtnmoeeneofopcaaProg.lean LOADS. Nothing in Lean hashes anything: it is a label: what it is worth is what the hold of that sum in a sandbox is worth. -/
noncomputable def Try.pinned : Pinned := { name := "ytnmoeeneofopcaa", sum := "b1b811c9525d8b79668ec2e0e17cce24df2871eb23f32601d3344de7826f52fd", checked := Try.checked }
namespace Rows
def none {H : Type} : Left H := { results := [], args := [] }

/-- 'laws.FnExactCollapseToPoint': WHATEVER THE INPUT: true; the input reads as it did. -/
def fnExactCollapseToPointSpec : ChangeSpec := { name := "fnExactCollapseToPoint", fn := fun _ => fun
  | [d1, d2] => { results := [.lit (.bool true)], args := [d1, d2] }
  | _ => none }
def fnExactCollapseToPointRow : OpenClaim := { program := "ytnmoeeneofopcaa", sum := "b1b811c9525d8b79668ec2e0e17cce24df2871eb23f32601d3344de7826f52fd", func := "loop.example/g01005/laws.FnExactCollapseToPoint", spec := "fnExactCollapseToPoint", unfollowed := true, recurses := true, apart := false }
def FnExactCollapseToPointSaid : Prop := fnExactCollapseToPointRow.holds Try.pinned (OpenSpec.ofChange fnExactCollapseToPointSpec)

/-- ITS FALSE NEIGHBOUR: 'it returns false'. Refute it at one input. -/
def fnExactCollapseToPointWrong : ChangeSpec := { name := "fnExactCollapseToPoint", fn := fun _ => fun
  | [d1, d2] => { results := [.lit (.bool false)], args := [d1, d2] }
  | _ => none }
def FnExactCollapseToPointWrongFalsely : Prop := fnExactCollapseToPointRow.holds Try.pinned (OpenSpec.ofChange fnExactCollapseToPointWrong)

/-- 'laws.FnExactLostRows': WHATEVER THE INPUT: true; the input reads as it did. -/
def fnExactLostRowsSpec : ChangeSpec := { name := "fnExactLostRows", fn := fun _ => fun
  | [d1, d2] => { results := [.lit (.bool true)], args := [d1, d2] }
  | _ => none }
def fnExactLostRowsRow : OpenClaim := { program := "ytnmoeeneofopcaa", sum := "b1b811c9525d8b79668ec2e0e17cce24df2871eb23f32601d3344de7826f52fd", func := "loop.example/g01005/laws.FnExactLostRows", spec := "fnExactLostRows", unfollowed := true, recurses := true, apart := false }
def FnExactLostRowsSaid : Prop := fnExactLostRowsRow.holds Try.pinned (OpenSpec.ofChange fnExactLostRowsSpec)

/-- ITS FALSE NEIGHBOUR: 'it returns false'. Refute it at one input. -/
def fnExactLostRowsWrong : ChangeSpec := { name := "fnExactLostRows", fn := fun _ => fun
  | [d1, d2] => { results := [.lit (.bool false)], args := [d1, d2] }
  | _ => none }
def FnExactLostRowsWrongFalsely : Prop := fnExactLostRowsRow.holds Try.pinned (OpenSpec.ofChange fnExactLostRowsWrong)

/-- 'laws.FnSchedules': WHATEVER THE INPUT: true; the input reads as it did. -/
def fnSchedulesSpec : ChangeSpec := { name := "fnSchedules", fn := fun _ => fun
  | [d1, d2] => { results := [.lit (.bool true)], args := [d1, d2] }
  | _ => none }
def fnSchedulesRow : OpenClaim := { program := "ytnmoeeneofopcaa", sum := "b1b811c9525d8b79668ec2e0e17cce24df2871eb23f32601d3344de7826f52fd", func := "loop.example/g01005/laws.FnSchedules", spec := "fnSchedules", unfollowed := true, recurses := true, apart := false }
def FnSchedulesSaid : Prop := fnSchedulesRow.holds Try.pinned (OpenSpec.ofChange fnSchedulesSpec)

/-- ITS FALSE NEIGHBOUR: 'it returns false'. Refute it at one input. -/
def fnSchedulesWrong : ChangeSpec := { name := "fnSchedules", fn := fun _ => fun
  | [d1, d2] => { results := [.lit (.bool false)], args := [d1, d2] }
  | _ => none }
def FnSchedulesWrongFalsely : Prop := fnSchedulesRow.holds Try.pinned (OpenSpec.ofChange fnSchedulesWrong)

/- THE SECOND FORM. 'bulk': how many values and letters a reading holds, each counted each time it is reached (what is shared counts as often as it is met; a slice's spare places count too). A statement '..UptoSaid' is the law's where the arguments, and the package variables that the reading takes, are together of bulk at most 1048576: NARROWER than '..Said'. Prove '..Said' where nothing that the law and all that it calls make is longer than what came in: it says more and counts as full. Else prove '..UptoSaid'. A law counts once. -/
mutual
def uptoBulk {H : Type} : DataW H → Nat
  | .lit (.string bytes) => bytes.length + 1
  | .lit _ => 1
  | .nil => 1
  | .ptr d => uptoBulk d + 1
  | .slice elems spare => uptoBulkAll elems + uptoBulkAll spare + 1
  | .agg parts => uptoBulkAll parts + 1
  | .iface _ d => uptoBulk d + 1
  | .map entries => uptoBulkEntries entries + 1
  | .held _ => 1
def uptoBulkAll {H : Type} : List (DataW H) → Nat
  | [] => 0
  | d :: r => uptoBulk d + uptoBulkAll r
def uptoBulkEntries {H : Type} : List (Lit × DataW H) → Nat
  | [] => 0
  | x :: r => uptoBulkEntry x + uptoBulkEntries r
def uptoBulkEntry {H : Type} : Lit × DataW H → Nat
  | (.string bytes, d) => bytes.length + uptoBulk d + 1
  | (_, d) => uptoBulk d + 1
 end
def uptoSmall : (H : Type) → List (DataW H) → Bool := fun _ ds => decide (uptoBulkAll ds ≤ 1048576)
def OpenSpec.upto (s : _root_.Go.ChangeSpec) : _root_.Go.OpenSpec := { _root_.Go.OpenSpec.ofChange s with cond := some uptoSmall }

/-- 'laws.FnExactCollapseToPoint', WHERE WHAT IT READS IS OF BULK AT MOST 1048576: true; the input reads as it did. -/
def fnExactCollapseToPointUptoRow : OpenClaim := { program := "ytnmoeeneofopcaa", sum := "b1b811c9525d8b79668ec2e0e17cce24df2871eb23f32601d3344de7826f52fd", func := "loop.example/g01005/laws.FnExactCollapseToPoint", spec := "fnExactCollapseToPoint", unfollowed := true, recurses := true, apart := false, narrowed := true }
def FnExactCollapseToPointUptoSaid : Prop := fnExactCollapseToPointUptoRow.holds Try.pinned (OpenSpec.upto fnExactCollapseToPointSpec)

/-- 'laws.FnExactLostRows', WHERE WHAT IT READS IS OF BULK AT MOST 1048576: true; the input reads as it did. -/
def fnExactLostRowsUptoRow : OpenClaim := { program := "ytnmoeeneofopcaa", sum := "b1b811c9525d8b79668ec2e0e17cce24df2871eb23f32601d3344de7826f52fd", func := "loop.example/g01005/laws.FnExactLostRows", spec := "fnExactLostRows", unfollowed := true, recurses := true, apart := false, narrowed := true }
def FnExactLostRowsUptoSaid : Prop := fnExactLostRowsUptoRow.holds Try.pinned (OpenSpec.upto fnExactLostRowsSpec)

/-- 'laws.FnSchedules', WHERE WHAT IT READS IS OF BULK AT MOST 1048576: true; the input reads as it did. -/
def fnSchedulesUptoRow : OpenClaim := { program := "ytnmoeeneofopcaa", sum := "b1b811c9525d8b79668ec2e0e17cce24df2871eb23f32601d3344de7826f52fd", func := "loop.example/g01005/laws.FnSchedules", spec := "fnSchedules", unfollowed := true, recurses := true, apart := false, narrowed := true }
def FnSchedulesUptoSaid : Prop := fnSchedulesUptoRow.holds Try.pinned (OpenSpec.upto fnSchedulesSpec)

end Rows
end Go.Proofs.Ytnmoeeneofopcaa
