/- What is alike. No statement of the seat is proved here. -/
import Derived.Test.YtnafogjagbhdbaaDoorPiEnc
namespace Go.Proofs.YtnafogjagbhdbaaDoor.Pi
open Go
set_option maxRecDepth 10000
set_option linter.unusedVariables false

def sameStr (a b : ByteArray) : Bool := a.toList == b.toList
def sameInt (a b : Int) : Bool := a == b
def sameSetting (x y : Setting) : Bool := (x.name == y.name) && ((x.value == y.value) && true)
def sameItem (x y : Item) : Bool := sameStr x.name y.name && (sameBy sameStr x.needs y.needs && (sameInt x.made y.made && sameInt x.cost y.cost))
def sameVersion (x y : Version) : Bool := sameInt x.number y.number && (sameInt x.parent y.parent && (sameStr x.memo y.memo && sameBy sameSetting x.state y.state))

end Go.Proofs.YtnafogjagbhdbaaDoor.Pi
