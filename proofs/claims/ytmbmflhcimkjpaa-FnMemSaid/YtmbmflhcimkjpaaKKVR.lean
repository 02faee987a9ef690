
/- Walks: the laws' helper that marks a row of KV, nil or not, said of rows. -/
import Derived.Test.YtmbmflhcimkjpaaKKVM
import Derived.Test.YtmbmflhcimkjpaaKKVH
import Derived.Test.YtmbmflhcimkjpaaRow
set_option linter.unusedVariables false
set_option linter.unusedSimpArgs false
namespace Go.Proofs.Ytmbmflhcimkjpaa
open Go.RowKit Sp Go.Sort

end Go.Proofs.Ytmbmflhcimkjpaa
