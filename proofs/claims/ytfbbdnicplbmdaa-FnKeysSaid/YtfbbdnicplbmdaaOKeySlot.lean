
/- How a law's argument of type []KeySlot is read. -/
import Derived.Test.YtfbbdnicplbmdaaOpen
import Derived.Test.YtfbbdnicplbmdaaTypes
set_option linter.unusedVariables false
namespace Go.Proofs.Ytfbbdnicplbmdaa
open Go.ChangeShapes Go.WideShapes Go.Deep Go.RowKit Sp

end Go.Proofs.Ytfbbdnicplbmdaa
