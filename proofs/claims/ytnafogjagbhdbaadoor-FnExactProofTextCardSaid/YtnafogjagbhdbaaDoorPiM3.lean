/- Deep copies, marks and what is held, as the laws have them. No statement of the seat is proved here. -/
import Derived.Test.YtnafogjagbhdbaaDoorPiM1
namespace Go.Proofs.YtnafogjagbhdbaaDoor.Pi
open Go
set_option maxRecDepth 10000
set_option linter.unusedVariables false
set_option linter.unusedSimpArgs false

instance : Mk Item := ⟨fun x k => ⟨tx (k), mkL x.needs (k + 1), k + 1 + Mk.cnt x.needs, k + 2 + Mk.cnt x.needs⟩, fun x => 3 + Mk.cnt x.needs⟩

instance : Big Item := ⟨fun x => x.needs.length ≤ 1099511627776⟩

end Go.Proofs.YtnafogjagbhdbaaDoor.Pi
