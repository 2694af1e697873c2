/- Products of rows and columns, tables, rows and columns of matrices: the reference and the program. No statement of the seat is proved here. -/
import Derived.Test.YtnmoeeneofopcaaPiMat
import Derived.Test.YtnmoeeneofopcaaPiFMatrix
import Derived.Test.YtnmoeeneofopcaaPiFSameProof
namespace Go.Proofs.Ytnmoeeneofopcaa.Pi
open Go
set_option maxRecDepth 10000
set_option maxHeartbeats 1600000
set_option linter.unusedVariables false

end Go.Proofs.Ytnmoeeneofopcaa.Pi
