
/- Walks: the laws' helper that marks a row of Ent. -/
import Derived.Test.YtmbmflhcimkjpaaMark
import Derived.Test.YtmbmflhcimkjpaaTouch
import Derived.Test.YtmbmflhcimkjpaaTypes
import Derived.Test.YtmbmflhcimkjpaaLaws
import Derived.Test.YtmbmflhcimkjpaaRep
import Derived.Test.YtmbmflhcimkjpaaSlices
import Derived.WalkKit
import Derived.WalkSpells
import Derived.WalkLawsBesides
import Derived.BigQuiet
import Derived.Lib.QuietBelow
import Derived.Lib.Hide
set_option linter.unusedVariables false
set_option linter.unusedSimpArgs false
namespace Go.Proofs.Ytmbmflhcimkjpaa
open Go.RowKit Sp Go.Sort

namespace Sp
def mkEnt (k : Nat) : EntR := ⟨str (markL k), (((k + 1) : Nat) : Int), decide ((k + 2) % 3 = 0), str (markL (k + 3))⟩
def marksEnt (k m : Nat) : List EntR := (List.range m).map fun i => mkEnt (k + 4 * i)
theorem marksEnt_length (k m : Nat) : (marksEnt k m).length = m := by simp [marksEnt]
theorem marksEnt_step (k : Nat) (l : List EntR) (i : Nat) (h : i < l.length) : ((marksEnt k i ++ l.drop i).map EntR.cells).set i (mkEnt (k + 4 * i)).cells = (marksEnt k (i + 1) ++ l.drop (i + 1)).map EntR.cells := by
  rw [List.map_append, List.set_append_right _ _ (by simp [marksEnt_length])]
  rw [show i - ((marksEnt k i).map EntR.cells).length = 0 from by simp [marksEnt_length], List.drop_eq_getElem_cons h, List.map_cons, List.set_cons_zero]
  unfold marksEnt
  rw [List.range_succ]
  simp
end Sp

end Go.Proofs.Ytmbmflhcimkjpaa
