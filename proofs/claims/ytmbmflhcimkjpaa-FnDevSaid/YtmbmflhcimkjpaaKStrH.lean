
/- Walks: the laws' helper that reads the marks of a row of strings. -/
import Derived.Test.YtmbmflhcimkjpaaKStrM
import Derived.Test.YtmbmflhcimkjpaaMark
import Derived.Test.YtmbmflhcimkjpaaTouch
import Derived.Test.YtmbmflhcimkjpaaKStrA
import Derived.WalkKit
import Derived.WalkSpells
import Derived.WalkLawsBesides
import Derived.BigQuiet
import Derived.Lib.QuietBelow
import Derived.Lib.Hide
set_option linter.unusedVariables false
set_option linter.unusedSimpArgs false
namespace Go.Proofs.Ytmbmflhcimkjpaa
open Go.RowKit Sp Go.Sort

end Go.Proofs.Ytmbmflhcimkjpaa
