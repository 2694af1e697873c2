/- Deep copies, marks and what is held, as the laws have them. No statement of the seat is proved here. -/
import Derived.Test.YtnafogjagbhdbaaDoorPiM1
namespace Go.Proofs.YtnafogjagbhdbaaDoor.Pi
open Go
set_option maxRecDepth 10000
set_option linter.unusedVariables false
set_option linter.unusedSimpArgs false

instance : Mk Version := ⟨fun x k => ⟨k, k + 1, tx (k + 2), mkL x.state (k + 3)⟩, fun x => 3 + Mk.cnt x.state⟩

instance : Big Version := ⟨fun x => x.state.length ≤ 1099511627776⟩

end Go.Proofs.YtnafogjagbhdbaaDoor.Pi
