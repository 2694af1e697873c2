/- The package's variables that are laid ahead of a call: none. No statement of the seat is proved here. -/
import Derived.Below
namespace Go.Proofs.Ytjolahiflldepab.Pi
open Go
/-- The blocks of the variables that the row lists, and what lies in them. -/
def laid : List (Nat × Array Value) := []
end Go.Proofs.Ytjolahiflldepab.Pi
