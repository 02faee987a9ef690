
/- Walks: Fixed of the reference. -/
import Derived.Test.YtfbbdnicplbmdaaDoorRows
import Derived.Test.YtfbbdnicplbmdaaDoorNum
import Derived.Test.YtfbbdnicplbmdaaDoorIn
import Derived.WalkKit
import Derived.WalkSpells
import Derived.WalkLawsBesides
import Derived.Lib.Hide
set_option linter.unusedVariables false
set_option linter.unusedSimpArgs false
namespace Go.Proofs.YtfbbdnicplbmdaaDoor
open Go.RowKit Sp
attribute [local go_sem] str_size str_append

end Go.Proofs.YtfbbdnicplbmdaaDoor
