/- How each law of this seat ends. -/
import Derived.Test.YtckagcbjcpfjpaaAlive
namespace Go.Proofs.Ytckagcbjcpfjpaa
open Go.RowKit
/-- a law's ending: it returned true, and wrote only into what is new -/
def TrueEnd (w : World) (e : Ending) (w' : World) : Prop := e = .returned (.bool true) ∧ Below w.heap.size w w'
end Go.Proofs.Ytckagcbjcpfjpaa
