
/- Walks: the laws' helper that marks a row of strings. -/
import Derived.Test.YtmbmflhcimkjpaaMark
import Derived.Test.YtmbmflhcimkjpaaTouch
import Derived.Test.YtmbmflhcimkjpaaKStrA
import Derived.WalkKit
import Derived.WalkSpells
import Derived.WalkLawsBesides
import Derived.BigQuiet
import Derived.Lib.QuietBelow
import Derived.Lib.Hide
set_option linter.unusedVariables false
set_option linter.unusedSimpArgs false
namespace Go.Proofs.Ytmbmflhcimkjpaa
open Go.RowKit Sp Go.Sort

namespace Sp
def mkStr (k : Nat) : ByteArray := str (markL k)
def marksStr (k m : Nat) : List ByteArray := (List.range m).map fun i => mkStr (k + 1 * i)
theorem marksStr_length (k m : Nat) : (marksStr k m).length = m := by simp [marksStr]
theorem marksStr_step (k : Nat) (l : List ByteArray) (i : Nat) (h : i < l.length) : ((marksStr k i ++ l.drop i).map strCells).set i (strCells (mkStr (k + 1 * i))) = (marksStr k (i + 1) ++ l.drop (i + 1)).map strCells := by
  rw [List.map_append, List.set_append_right _ _ (by simp [marksStr_length])]
  rw [show i - ((marksStr k i).map strCells).length = 0 from by simp [marksStr_length], List.drop_eq_getElem_cons h, List.map_cons, List.set_cons_zero]
  unfold marksStr
  rw [List.range_succ]
  simp
theorem set_row1 {ll : List (List Value)} (hs : ∀ c ∈ ll, c.length = 1) (k : Nat) (hk : k < ll.length) (u0 : Value) : ll.flatten.set k u0 = (ll.set k [u0]).flatten := by
  have hl := hs ll[k] (List.getElem_mem _)
  have h0 := flat_set ll hs k hk 0 (by omega) u0
  rw [Nat.add_zero, Nat.mul_one] at h0
  rw [h0]
  have e1 : (ll[k].set 0 u0) = [u0] := by
    match ll[k], hl with
    | [_], _ => rfl
  rw [e1]
end Sp

end Go.Proofs.Ytmbmflhcimkjpaa
