
/- Walks: the laws' helpers for slices of strings. -/
import Derived.Test.YtmbmflhcimkjpaaTypes
import Derived.Test.YtmbmflhcimkjpaaKStr0
import Derived.Test.YtmbmflhcimkjpaaLaws
import Derived.Test.YtmbmflhcimkjpaaRep
import Derived.Test.YtmbmflhcimkjpaaSlices
import Derived.WalkKit
import Derived.WalkSpells
import Derived.WalkLawsBesides
import Derived.BigQuiet
import Derived.Lib.QuietBelow
import Derived.Lib.Hide
set_option linter.unusedVariables false
set_option linter.unusedSimpArgs false
namespace Go.Proofs.Ytmbmflhcimkjpaa
open Go.RowKit Sp Go.Sort
theorem zeros_Str (n : Nat) : (madeCells (Value.string ByteArray.empty).cells (n * 1)).toList = (List.replicate n [Value.string ByteArray.empty]).flatten := madeCells_rows #[.string ByteArray.empty] n
end Go.Proofs.Ytmbmflhcimkjpaa
