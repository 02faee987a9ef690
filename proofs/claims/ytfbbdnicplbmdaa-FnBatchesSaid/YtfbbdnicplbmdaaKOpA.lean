
/- Walks: the laws' helpers for Op: its size, its copy, its comparison. -/
import Derived.Test.YtfbbdnicplbmdaaTypes
import Derived.Test.YtfbbdnicplbmdaaLaws
import Derived.Test.YtfbbdnicplbmdaaRep
import Derived.Test.YtfbbdnicplbmdaaSlices
import Derived.WalkKit
import Derived.WalkSpells
import Derived.WalkLawsBesides
import Derived.BigQuiet
import Derived.Lib.QuietBelow
import Derived.Lib.Hide
set_option linter.unusedVariables false
set_option linter.unusedSimpArgs false
namespace Go.Proofs.Ytfbbdnicplbmdaa
open Go.RowKit Sp Go.Sort

theorem info_Op : (Try.prog.info? 138).map (fun i => (i.zero, i.size, i.bytes)) = some (some (.agg #[.string ByteArray.empty, .bool false, .string ByteArray.empty]), 3, 40) := by kernel_rfl

theorem OpR.len (x : OpR) : x.cells.length = 3 := rfl

theorem zeros_Op (n : Nat) : (madeCells (Value.agg #[.string ByteArray.empty, .bool false, .string ByteArray.empty]).cells (n * 3)).toList = (List.replicate n [.string ByteArray.empty, .bool false, .string ByteArray.empty]).flatten := madeCells_rows #[.string ByteArray.empty, .bool false, .string ByteArray.empty] n
end Go.Proofs.Ytfbbdnicplbmdaa
