
/- Walks: the laws' helper that marks a row of Put, nil or not, said of rows. -/
import Derived.Test.YtmbmflhcimkjpaaKPutM
import Derived.Test.YtmbmflhcimkjpaaKPutH
import Derived.Test.YtmbmflhcimkjpaaRow
set_option linter.unusedVariables false
set_option linter.unusedSimpArgs false
namespace Go.Proofs.Ytmbmflhcimkjpaa
open Go.RowKit Sp Go.Sort

end Go.Proofs.Ytmbmflhcimkjpaa
