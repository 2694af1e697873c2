/-
  No cell of these rows narrows 'for every input' (looked for: loops, veiled, ifaces, maps, wideKeys, modest, calm, conditions, laid).
  DERIVED. THE GIVEN ROWS OF THIS SEAT. 5 by the template 'for every input the law returns true; each argument reads behind the call as it read before'; 0 by the template 'total and deterministic' (their statements: YtnmoeeneofopcaaGreatTotals.lean).
  GIVEN WITH THE SEED: the statements are not yours to turn. If you find one false, say at which input.
  Laid BY PROGRAM, IN A SANDBOX (cutbox-rows.mjs): the forced cells as the released guide's own fill.sh prints them over the translation 0420b2819a7d1415… (all of the seat's roots in one cut). By AI agents, Wed Nov 11 2026. No macro, syntax, notation, axiom, sorry.
-/
import Derived.Test.YtnmoeeneofopcaaGreatChecked
import GoSem.Claim
import GoSem.ClaimJoined
import GoSem.ClaimMapViews
import Derived.JoinedTies
import Derived.KernelRfl
namespace Go.Proofs.YtnmoeeneofopcaaGreat
/- THE CELL 'sum', in the pinned program and in every row, IS THE sha256 OF THE DUMP (.gsa) THAT YtnmoeeneofopcaaGreatProg.lean LOADS. Nothing in Lean hashes anything: it is a label: what it is worth is what the hold of that sum in a sandbox is worth. -/
noncomputable def Tryz.pinned : Pinned := { name := "ytnmoeeneofopcaagreat", sum := "0420b2819a7d1415634ea244c52902a515e04479ebb56c4c2975c0c1c50e0cd1", checked := Tryz.checked }
namespace Rows
def none {H : Type} : Left H := { results := [], args := [] }

/-- 'laws.FnExactDropName': WHATEVER THE INPUT: true; the input reads as it did. -/
def fnExactDropNameSpec : ChangeSpec := { name := "fnExactDropName", fn := fun _ => fun
  | [d1, d2] => { results := [.lit (.bool true)], args := [d1, d2] }
  | _ => none }
def fnExactDropNameRow : OpenClaim := { program := "ytnmoeeneofopcaagreat", sum := "0420b2819a7d1415634ea244c52902a515e04479ebb56c4c2975c0c1c50e0cd1", func := "loop.example/g01005/laws.FnExactDropName", spec := "fnExactDropName", unfollowed := true, recurses := true, apart := false }
def FnExactDropNameSaid : Prop := fnExactDropNameRow.holds Tryz.pinned (OpenSpec.ofChange fnExactDropNameSpec)

/-- ITS FALSE NEIGHBOUR: 'it returns false'. Refute it at one input. -/
def fnExactDropNameWrong : ChangeSpec := { name := "fnExactDropName", fn := fun _ => fun
  | [d1, d2] => { results := [.lit (.bool false)], args := [d1, d2] }
  | _ => none }
def FnExactDropNameWrongFalsely : Prop := fnExactDropNameRow.holds Tryz.pinned (OpenSpec.ofChange fnExactDropNameWrong)

/-- 'laws.FnExactGreatestAgreement': WHATEVER THE INPUT: true; the input reads as it did. -/
def fnExactGreatestAgreementSpec : ChangeSpec := { name := "fnExactGreatestAgreement", fn := fun _ => fun
  | [d1, d2, d3] => { results := [.lit (.bool true)], args := [d1, d2, d3] }
  | _ => none }
def fnExactGreatestAgreementRow : OpenClaim := { program := "ytnmoeeneofopcaagreat", sum := "0420b2819a7d1415634ea244c52902a515e04479ebb56c4c2975c0c1c50e0cd1", func := "loop.example/g01005/laws.FnExactGreatestAgreement", spec := "fnExactGreatestAgreement", unfollowed := true, recurses := true, apart := false }
def FnExactGreatestAgreementSaid : Prop := fnExactGreatestAgreementRow.holds Tryz.pinned (OpenSpec.ofChange fnExactGreatestAgreementSpec)

/-- ITS FALSE NEIGHBOUR: 'it returns false'. Refute it at one input. -/
def fnExactGreatestAgreementWrong : ChangeSpec := { name := "fnExactGreatestAgreement", fn := fun _ => fun
  | [d1, d2, d3] => { results := [.lit (.bool false)], args := [d1, d2, d3] }
  | _ => none }
def FnExactGreatestAgreementWrongFalsely : Prop := fnExactGreatestAgreementRow.holds Tryz.pinned (OpenSpec.ofChange fnExactGreatestAgreementWrong)

/-- 'laws.FnExactIsContextual': WHATEVER THE INPUT: true; the input reads as it did. -/
def fnExactIsContextualSpec : ChangeSpec := { name := "fnExactIsContextual", fn := fun _ => fun
  | [d1, d2] => { results := [.lit (.bool true)], args := [d1, d2] }
  | _ => none }
def fnExactIsContextualRow : OpenClaim := { program := "ytnmoeeneofopcaagreat", sum := "0420b2819a7d1415634ea244c52902a515e04479ebb56c4c2975c0c1c50e0cd1", func := "loop.example/g01005/laws.FnExactIsContextual", spec := "fnExactIsContextual", unfollowed := true, recurses := true, apart := false }
def FnExactIsContextualSaid : Prop := fnExactIsContextualRow.holds Tryz.pinned (OpenSpec.ofChange fnExactIsContextualSpec)

/-- ITS FALSE NEIGHBOUR: 'it returns false'. Refute it at one input. -/
def fnExactIsContextualWrong : ChangeSpec := { name := "fnExactIsContextual", fn := fun _ => fun
  | [d1, d2] => { results := [.lit (.bool false)], args := [d1, d2] }
  | _ => none }
def FnExactIsContextualWrongFalsely : Prop := fnExactIsContextualRow.holds Tryz.pinned (OpenSpec.ofChange fnExactIsContextualWrong)

/-- 'laws.FnGlobal': WHATEVER THE INPUT: true; the input reads as it did. -/
def fnGlobalSpec : ChangeSpec := { name := "fnGlobal", fn := fun _ => fun
  | [d] => { results := [.lit (.bool true)], args := [d] }
  | _ => none }
def fnGlobalRow : OpenClaim := { program := "ytnmoeeneofopcaagreat", sum := "0420b2819a7d1415634ea244c52902a515e04479ebb56c4c2975c0c1c50e0cd1", func := "loop.example/g01005/laws.FnGlobal", spec := "fnGlobal", unfollowed := true, recurses := true, apart := false }
def FnGlobalSaid : Prop := fnGlobalRow.holds Tryz.pinned (OpenSpec.ofChange fnGlobalSpec)

/-- ITS FALSE NEIGHBOUR: 'it returns false'. Refute it at one input. -/
def fnGlobalWrong : ChangeSpec := { name := "fnGlobal", fn := fun _ => fun
  | [d] => { results := [.lit (.bool false)], args := [d] }
  | _ => none }
def FnGlobalWrongFalsely : Prop := fnGlobalRow.holds Tryz.pinned (OpenSpec.ofChange fnGlobalWrong)

/-- 'laws.FnSensors': WHATEVER THE INPUT: true; the input reads as it did. -/
def fnSensorsSpec : ChangeSpec := { name := "fnSensors", fn := fun _ => fun
  | [d1, d2] => { results := [.lit (.bool true)], args := [d1, d2] }
  | _ => none }
def fnSensorsRow : OpenClaim := { program := "ytnmoeeneofopcaagreat", sum := "0420b2819a7d1415634ea244c52902a515e04479ebb56c4c2975c0c1c50e0cd1", func := "loop.example/g01005/laws.FnSensors", spec := "fnSensors", unfollowed := true, recurses := true, apart := false }
def FnSensorsSaid : Prop := fnSensorsRow.holds Tryz.pinned (OpenSpec.ofChange fnSensorsSpec)

/-- ITS FALSE NEIGHBOUR: 'it returns false'. Refute it at one input. -/
def fnSensorsWrong : ChangeSpec := { name := "fnSensors", fn := fun _ => fun
  | [d1, d2] => { results := [.lit (.bool false)], args := [d1, d2] }
  | _ => none }
def FnSensorsWrongFalsely : Prop := fnSensorsRow.holds Tryz.pinned (OpenSpec.ofChange fnSensorsWrong)

/- THE SECOND FORM. 'bulk': how many values and letters a reading holds, each counted each time it is reached (what is shared counts as often as it is met; a slice's spare places count too). A statement '..UptoSaid' is the law's where the arguments, and the package variables that the reading takes, are together of bulk at most 1048576: NARROWER than '..Said'. Prove '..Said' where nothing that the law and all that it calls make is longer than what came in: it says more and counts as full. Else prove '..UptoSaid'. A law counts once. -/
mutual
def uptoBulk {H : Type} : DataW H → Nat
  | .lit (.string bytes) => bytes.length + 1
  | .lit _ => 1
  | .nil => 1
  | .ptr d => uptoBulk d + 1
  | .slice elems spare => uptoBulkAll elems + uptoBulkAll spare + 1
  | .agg parts => uptoBulkAll parts + 1
  | .iface _ d => uptoBulk d + 1
  | .map entries => uptoBulkEntries entries + 1
  | .held _ => 1
def uptoBulkAll {H : Type} : List (DataW H) → Nat
  | [] => 0
  | d :: r => uptoBulk d + uptoBulkAll r
def uptoBulkEntries {H : Type} : List (Lit × DataW H) → Nat
  | [] => 0
  | x :: r => uptoBulkEntry x + uptoBulkEntries r
def uptoBulkEntry {H : Type} : Lit × DataW H → Nat
  | (.string bytes, d) => bytes.length + uptoBulk d + 1
  | (_, d) => uptoBulk d + 1
 end
def uptoSmall : (H : Type) → List (DataW H) → Bool := fun _ ds => decide (uptoBulkAll ds ≤ 1048576)
def OpenSpec.upto (s : _root_.Go.ChangeSpec) : _root_.Go.OpenSpec := { _root_.Go.OpenSpec.ofChange s with cond := some uptoSmall }

/-- 'laws.FnExactDropName', WHERE WHAT IT READS IS OF BULK AT MOST 1048576: true; the input reads as it did. -/
def fnExactDropNameUptoRow : OpenClaim := { program := "ytnmoeeneofopcaagreat", sum := "0420b2819a7d1415634ea244c52902a515e04479ebb56c4c2975c0c1c50e0cd1", func := "loop.example/g01005/laws.FnExactDropName", spec := "fnExactDropName", unfollowed := true, recurses := true, apart := false, narrowed := true }
def FnExactDropNameUptoSaid : Prop := fnExactDropNameUptoRow.holds Tryz.pinned (OpenSpec.upto fnExactDropNameSpec)

/-- 'laws.FnExactGreatestAgreement', WHERE WHAT IT READS IS OF BULK AT MOST 1048576: true; the input reads as it did. -/
def fnExactGreatestAgreementUptoRow : OpenClaim := { program := "ytnmoeeneofopcaagreat", sum := "0420b2819a7d1415634ea244c52902a515e04479ebb56c4c2975c0c1c50e0cd1", func := "loop.example/g01005/laws.FnExactGreatestAgreement", spec := "fnExactGreatestAgreement", unfollowed := true, recurses := true, apart := false, narrowed := true }
def FnExactGreatestAgreementUptoSaid : Prop := fnExactGreatestAgreementUptoRow.holds Tryz.pinned (OpenSpec.upto fnExactGreatestAgreementSpec)

/-- 'laws.FnExactIsContextual', WHERE WHAT IT READS IS OF BULK AT MOST 1048576: true; the input reads as it did. -/
def fnExactIsContextualUptoRow : OpenClaim := { program := "ytnmoeeneofopcaagreat", sum := "0420b2819a7d1415634ea244c52902a515e04479ebb56c4c2975c0c1c50e0cd1", func := "loop.example/g01005/laws.FnExactIsContextual", spec := "fnExactIsContextual", unfollowed := true, recurses := true, apart := false, narrowed := true }
def FnExactIsContextualUptoSaid : Prop := fnExactIsContextualUptoRow.holds Tryz.pinned (OpenSpec.upto fnExactIsContextualSpec)

/-- 'laws.FnGlobal', WHERE WHAT IT READS IS OF BULK AT MOST 1048576: true; the input reads as it did. -/
def fnGlobalUptoRow : OpenClaim := { program := "ytnmoeeneofopcaagreat", sum := "0420b2819a7d1415634ea244c52902a515e04479ebb56c4c2975c0c1c50e0cd1", func := "loop.example/g01005/laws.FnGlobal", spec := "fnGlobal", unfollowed := true, recurses := true, apart := false, narrowed := true }
def FnGlobalUptoSaid : Prop := fnGlobalUptoRow.holds Tryz.pinned (OpenSpec.upto fnGlobalSpec)

/-- 'laws.FnSensors', WHERE WHAT IT READS IS OF BULK AT MOST 1048576: true; the input reads as it did. -/
def fnSensorsUptoRow : OpenClaim := { program := "ytnmoeeneofopcaagreat", sum := "0420b2819a7d1415634ea244c52902a515e04479ebb56c4c2975c0c1c50e0cd1", func := "loop.example/g01005/laws.FnSensors", spec := "fnSensors", unfollowed := true, recurses := true, apart := false, narrowed := true }
def FnSensorsUptoSaid : Prop := fnSensorsUptoRow.holds Tryz.pinned (OpenSpec.upto fnSensorsSpec)

end Rows
end Go.Proofs.YtnmoeeneofopcaaGreat
