
/- Walks: the laws' helper that marks a row of Put. -/
import Derived.Test.YtmbmflhcimkjpaaMark
import Derived.Test.YtmbmflhcimkjpaaTouch
import Derived.Test.YtmbmflhcimkjpaaTypes
import Derived.Test.YtmbmflhcimkjpaaLaws
import Derived.Test.YtmbmflhcimkjpaaRep
import Derived.Test.YtmbmflhcimkjpaaSlices
import Derived.WalkKit
import Derived.WalkSpells
import Derived.WalkLawsBesides
import Derived.BigQuiet
import Derived.Lib.QuietBelow
import Derived.Lib.Hide
set_option linter.unusedVariables false
set_option linter.unusedSimpArgs false
namespace Go.Proofs.Ytmbmflhcimkjpaa
open Go.RowKit Sp Go.Sort

namespace Sp
def mkPut (k : Nat) : PutR := ⟨((k : Nat) : Int), str (markL (k + 1))⟩
def marksPut (k m : Nat) : List PutR := (List.range m).map fun i => mkPut (k + 2 * i)
theorem marksPut_length (k m : Nat) : (marksPut k m).length = m := by simp [marksPut]
theorem marksPut_step (k : Nat) (l : List PutR) (i : Nat) (h : i < l.length) : ((marksPut k i ++ l.drop i).map PutR.cells).set i (mkPut (k + 2 * i)).cells = (marksPut k (i + 1) ++ l.drop (i + 1)).map PutR.cells := by
  rw [List.map_append, List.set_append_right _ _ (by simp [marksPut_length])]
  rw [show i - ((marksPut k i).map PutR.cells).length = 0 from by simp [marksPut_length], List.drop_eq_getElem_cons h, List.map_cons, List.set_cons_zero]
  unfold marksPut
  rw [List.range_succ]
  simp
end Sp

end Go.Proofs.Ytmbmflhcimkjpaa
