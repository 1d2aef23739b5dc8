/- Can: whether there is a legal move: both functions. Each contract holds for every argument, under the premises that it states. -/
import Derived.Test.YtcgbbjlcijhcnaaSRes
import Derived.Deep.RegionHeld3
namespace Go.Proofs.Ytcgbbjlcijhcnaa
set_option linter.unusedSimpArgs false
set_option linter.unusedVariables false
set_option linter.unnecessarySimpa false
open Go.RowKit Go.ChangeShapes Go.WideShapes Go.ChangeAt Go.Joins

def canP (r : R) (p : P) : Bool := p.ok r && decide (0 < (allP r p).length)
end Go.Proofs.Ytcgbbjlcijhcnaa
