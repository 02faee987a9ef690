
/- Walks: the laws' helper that marks a row of KV. -/
import Derived.Test.YtfbbdnicplbmdaaMark
import Derived.Test.YtfbbdnicplbmdaaTouch
import Derived.Test.YtfbbdnicplbmdaaTypes
import Derived.Test.YtfbbdnicplbmdaaLaws
import Derived.Test.YtfbbdnicplbmdaaRep
import Derived.Test.YtfbbdnicplbmdaaSlices
import Derived.WalkKit
import Derived.WalkSpells
import Derived.WalkLawsBesides
import Derived.BigQuiet
import Derived.Lib.QuietBelow
import Derived.Lib.Hide
set_option linter.unusedVariables false
set_option linter.unusedSimpArgs false
namespace Go.Proofs.Ytfbbdnicplbmdaa
open Go.RowKit Sp Go.Sort

namespace Sp
def mkKV (k : Nat) : KV := ⟨str (markL k), str (markL (k + 1))⟩
def marksKV (k m : Nat) : List KV := (List.range m).map fun i => mkKV (k + 2 * i)
theorem marksKV_length (k m : Nat) : (marksKV k m).length = m := by simp [marksKV]
theorem marksKV_step (k : Nat) (l : List KV) (i : Nat) (h : i < l.length) : ((marksKV k i ++ l.drop i).map KV.cells).set i (mkKV (k + 2 * i)).cells = (marksKV k (i + 1) ++ l.drop (i + 1)).map KV.cells := by
  rw [List.map_append, List.set_append_right _ _ (by simp [marksKV_length])]
  rw [show i - ((marksKV k i).map KV.cells).length = 0 from by simp [marksKV_length], List.drop_eq_getElem_cons h, List.map_cons, List.set_cons_zero]
  unfold marksKV
  rw [List.range_succ]
  simp
end Sp

end Go.Proofs.Ytfbbdnicplbmdaa
