
/- Walks: the laws' helpers for KV: its size, its copy, its comparison. -/
import Derived.Test.YtfbbdnicplbmdaaTypes
import Derived.Test.YtfbbdnicplbmdaaLaws
import Derived.Test.YtfbbdnicplbmdaaRep
import Derived.Test.YtfbbdnicplbmdaaSlices
import Derived.WalkKit
import Derived.WalkSpells
import Derived.WalkLawsBesides
import Derived.BigQuiet
import Derived.Lib.QuietBelow
import Derived.Lib.Hide
set_option linter.unusedVariables false
set_option linter.unusedSimpArgs false
namespace Go.Proofs.Ytfbbdnicplbmdaa
open Go.RowKit Sp Go.Sort

theorem info_KV : (Try.prog.info? 134).map (fun i => (i.zero, i.size, i.bytes)) = some (some (.agg #[.string ByteArray.empty, .string ByteArray.empty]), 2, 32) := by kernel_rfl

theorem KV.len (x : KV) : x.cells.length = 2 := rfl

theorem zeros_KV (n : Nat) : (madeCells (Value.agg #[.string ByteArray.empty, .string ByteArray.empty]).cells (n * 2)).toList = (List.replicate n [.string ByteArray.empty, .string ByteArray.empty]).flatten := madeCells_rows #[.string ByteArray.empty, .string ByteArray.empty] n
end Go.Proofs.Ytfbbdnicplbmdaa
