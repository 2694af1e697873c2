/- SameMatrix and SameProof, the reference and the program. No statement of the seat is proved here. -/
import Derived.Test.YtnafogjagbhdbaaDoorPiFSameDef
namespace Go.Proofs.YtnafogjagbhdbaaDoor.Pi
open Go
set_option maxRecDepth 10000
set_option linter.unusedVariables false

--[ spec.l04SameRows
--]
def sameMatrix (x y : Matrix) : Bool := sameInt x.prime y.prime && (sameInt x.rows y.rows && (sameInt x.columns y.columns && sameBy sameInt x.cells y.cells))
def sameProof (x y : Proof) : Bool := sameInt x.kind y.kind && (sameMatrix x.claim y.claim && sameBy (sameBy sameInt) x.vectors y.vectors)

--[ impl.SameProof
--]
--[ spec.SameMatrix
--]
--[ spec.SameProof spec.l04SameRows
--]
end Go.Proofs.YtnafogjagbhdbaaDoor.Pi
