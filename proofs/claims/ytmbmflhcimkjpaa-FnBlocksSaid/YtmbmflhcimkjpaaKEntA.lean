
/- Walks: the laws' helpers for Ent: its size, its copy, its comparison. -/
import Derived.Test.YtmbmflhcimkjpaaTypes
import Derived.Test.YtmbmflhcimkjpaaLaws
import Derived.Test.YtmbmflhcimkjpaaRep
import Derived.Test.YtmbmflhcimkjpaaSlices
import Derived.WalkKit
import Derived.WalkSpells
import Derived.WalkLawsBesides
import Derived.BigQuiet
import Derived.Lib.QuietBelow
import Derived.Lib.Hide
set_option linter.unusedVariables false
set_option linter.unusedSimpArgs false
namespace Go.Proofs.Ytmbmflhcimkjpaa
open Go.RowKit Sp Go.Sort

theorem info_Ent : (Try.prog.info? 30).map (fun i => (i.zero, i.size, i.bytes)) = some (some (.agg #[.string ByteArray.empty, .int .i64 0, .bool false, .string ByteArray.empty]), 4, 48) := by kernel_rfl

theorem EntR.len (x : EntR) : x.cells.length = 4 := rfl

theorem zeros_Ent (n : Nat) : (madeCells (Value.agg #[.string ByteArray.empty, .int .i64 0, .bool false, .string ByteArray.empty]).cells (n * 4)).toList = (List.replicate n [.string ByteArray.empty, .int .i64 0, .bool false, .string ByteArray.empty]).flatten := madeCells_rows #[.string ByteArray.empty, .int .i64 0, .bool false, .string ByteArray.empty] n
end Go.Proofs.Ytmbmflhcimkjpaa
