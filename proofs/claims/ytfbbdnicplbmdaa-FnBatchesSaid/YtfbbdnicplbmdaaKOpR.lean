
/- Walks: the laws' helper that marks a row of Op, nil or not, said of rows. -/
import Derived.Test.YtfbbdnicplbmdaaKOpM
import Derived.Test.YtfbbdnicplbmdaaKOpH
import Derived.Test.YtfbbdnicplbmdaaRow
set_option linter.unusedVariables false
set_option linter.unusedSimpArgs false
namespace Go.Proofs.Ytfbbdnicplbmdaa
open Go.RowKit Sp Go.Sort

end Go.Proofs.Ytfbbdnicplbmdaa
