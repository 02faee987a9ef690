
/- How a law's argument of type []KeySlot is read. -/
import Derived.Test.YtmbmflhcimkjpaaOpen
import Derived.Test.YtmbmflhcimkjpaaTypes
set_option linter.unusedVariables false
namespace Go.Proofs.Ytmbmflhcimkjpaa
open Go.ChangeShapes Go.WideShapes Go.Deep Go.RowKit Sp

end Go.Proofs.Ytmbmflhcimkjpaa
