
/- Walks: the laws' helper that marks a row of Op. -/
import Derived.Test.YtfbbdnicplbmdaaMark
import Derived.Test.YtfbbdnicplbmdaaTouch
import Derived.Test.YtfbbdnicplbmdaaTypes
import Derived.Test.YtfbbdnicplbmdaaLaws
import Derived.Test.YtfbbdnicplbmdaaRep
import Derived.Test.YtfbbdnicplbmdaaSlices
import Derived.WalkKit
import Derived.WalkSpells
import Derived.WalkLawsBesides
import Derived.BigQuiet
import Derived.Lib.QuietBelow
import Derived.Lib.Hide
set_option linter.unusedVariables false
set_option linter.unusedSimpArgs false
namespace Go.Proofs.Ytfbbdnicplbmdaa
open Go.RowKit Sp Go.Sort

namespace Sp
def mkOp (k : Nat) : OpR := ⟨str (markL k), decide ((k + 1) % 3 = 0), str (markL (k + 2))⟩
def marksOp (k m : Nat) : List OpR := (List.range m).map fun i => mkOp (k + 3 * i)
theorem marksOp_length (k m : Nat) : (marksOp k m).length = m := by simp [marksOp]
theorem marksOp_step (k : Nat) (l : List OpR) (i : Nat) (h : i < l.length) : ((marksOp k i ++ l.drop i).map OpR.cells).set i (mkOp (k + 3 * i)).cells = (marksOp k (i + 1) ++ l.drop (i + 1)).map OpR.cells := by
  rw [List.map_append, List.set_append_right _ _ (by simp [marksOp_length])]
  rw [show i - ((marksOp k i).map OpR.cells).length = 0 from by simp [marksOp_length], List.drop_eq_getElem_cons h, List.map_cons, List.set_cons_zero]
  unfold marksOp
  rw [List.range_succ]
  simp
end Sp

end Go.Proofs.Ytfbbdnicplbmdaa
