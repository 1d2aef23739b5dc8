/- Own: a position of one's own: the reference's function. The contract holds for every argument, under the premises that it states. -/
import Derived.Test.YtbjdfgfebepacaaNew
import Derived.Test.YtbjdfgfebepacaaHeld
import Derived.Test.YtbjdfgfebepacaaCore1
namespace Go.Proofs.Ytbjdfgfebepacaa
set_option linter.unusedSimpArgs false
set_option linter.unusedVariables false
set_option linter.unnecessarySimpa false
open Go.RowKit Go.ChangeShapes Go.WideShapes Go.ChangeAt Go.Joins


/-! ### PosS: whether two positions are equal: both sides' functions. Each contract holds for every argument, under the premises that it states. -/

end Go.Proofs.Ytbjdfgfebepacaa
