/- The package's variables that are laid ahead of a call: the powers of ten. No statement of the seat is proved here. -/
import Derived.Below
import Derived.Lib.LaidTab
import Derived.Lib.ItoaNum
namespace Go.Proofs.YtnafogjagbhdbaaDoor.Pi
open Go
/-- Where the powers of ten lie. -/
def powG : Nat := 1
/-- The blocks of the variables that the row lists, and what lies in them. -/
def laid : List (Nat × Array Value) := [(powG, (Lib.pow10Tab.map fun z => Value.int .u64 z).toArray)]
/-- Is it told of calls that they only draw more? -/
def drawG : Bool := false
end Go.Proofs.YtnafogjagbhdbaaDoor.Pi
