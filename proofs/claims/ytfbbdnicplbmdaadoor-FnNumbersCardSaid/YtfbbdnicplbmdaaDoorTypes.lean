
/- The rows of the element types' table, and what each shape of slice is made of. -/
import Derived.Test.YtfbbdnicplbmdaaDoorRows
import Derived.Test.YtfbbdnicplbmdaaDoorNum
import Derived.WalkKit
set_option linter.unusedVariables false
set_option linter.unusedSimpArgs false
namespace Go.Proofs.YtfbbdnicplbmdaaDoor
theorem info_u8 : (Tryd.prog.info? 5).map (fun i => (i.zero, i.size, i.bytes)) = some (some (.int .u8 0), 1, 1) := by kernel_rfl
end Go.Proofs.YtfbbdnicplbmdaaDoor
