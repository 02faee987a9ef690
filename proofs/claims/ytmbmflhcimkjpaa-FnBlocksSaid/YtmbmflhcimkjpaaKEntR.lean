
/- Walks: the laws' helper that marks a row of Ent, nil or not, said of rows. -/
import Derived.Test.YtmbmflhcimkjpaaKEntM
import Derived.Test.YtmbmflhcimkjpaaKEntH
import Derived.Test.YtmbmflhcimkjpaaRow
set_option linter.unusedVariables false
set_option linter.unusedSimpArgs false
namespace Go.Proofs.Ytmbmflhcimkjpaa
open Go.RowKit Sp Go.Sort

end Go.Proofs.Ytmbmflhcimkjpaa
