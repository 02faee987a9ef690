
/- Plain: slices of strings. -/
import Derived.Test.YtfbbdnicplbmdaaTypes
import Derived.Test.YtfbbdnicplbmdaaLaws
import Derived.Test.YtfbbdnicplbmdaaRep
import Derived.Test.YtfbbdnicplbmdaaSlices
import Derived.WalkKit
import Derived.WalkSpells
import Derived.WalkLawsBesides
import Derived.BigQuiet
import Derived.Lib.QuietBelow
import Derived.Lib.Hide
set_option linter.unusedVariables false
set_option linter.unusedSimpArgs false
namespace Go.Proofs.Ytfbbdnicplbmdaa
open Go.RowKit Sp Go.Sort
theorem info_Str : (Try.prog.info? 9).map (fun i => (i.zero, i.size, i.bytes)) = some (some (.string ByteArray.empty), 1, 16) := by kernel_rfl
namespace Sp
def strSz (x : ByteArray) : Int := x.size
theorem strSz_nonneg (x : ByteArray) : 0 ≤ strSz x := by unfold strSz; omega
end Sp
theorem str_cell {w : World} {b off : Nat} {l : List ByteArray} (h : ∀ i (hi : i < l.length) j u, (strCells l[i])[j]? = some u → w.cell? ⟨b, off + i * 1 + j, none⟩ = some u) (k : Nat) (hk : k < l.length) : w.cell? ⟨b, off + k, none⟩ = some (.string l[k]) := by
  have := h k hk 0 _ rfl
  rw [Nat.mul_one] at this
  exact this

end Go.Proofs.Ytfbbdnicplbmdaa
