
/- Walks: the tests of keys and values (for seats without MapOk). -/
import Derived.Test.YtfbbdnicplbmdaaTypes
import Derived.Test.YtfbbdnicplbmdaaLaws
import Derived.Test.YtfbbdnicplbmdaaMapP
import Derived.Test.YtfbbdnicplbmdaaIn
import Derived.WalkKit
import Derived.WalkSpells
import Derived.WalkLawsBesides
import Derived.BigQuiet
import Derived.Lib.QuietBelow
import Derived.Lib.Hide
set_option linter.unusedVariables false
set_option linter.unusedSimpArgs false
namespace Go.Proofs.Ytfbbdnicplbmdaa
open Go.RowKit Sp Go.Sort

set_option maxRecDepth 100000 in
set_option maxHeartbeats 400000 in
theorem l7Op_any (k v : ByteArray) (d : Bool) (w : World) :
    Calls Try.prog 99 #[.agg #[.string k, .bool d, .string v]] w fun e w' => e = .returned (.bool (opB k d v)) ∧ Below w.heap.size w w' := by
  go_enter Try.func99, Try.ntmps99
  go_wp2_with (go_at_call 104; refine (l1In_any _ _ _ _).mono ?_; rintro e w' ⟨rfl, rfl⟩)
  all_goals go_ret
  all_goals refine ⟨?_, (Below.refl _ _).alloc (Nat.le_refl _) _⟩
  all_goals simp_all [opB, keyB, valB]
  all_goals omega

set_option maxRecDepth 100000 in
set_option maxHeartbeats 400000 in
theorem isKey_any (k : ByteArray) (w : World) : Calls Try.prog 153 #[.string k] w fun e w' => e = .returned (.bool (keyB k)) ∧ w = w' := by
  go_enter Try.func153, Try.ntmps153
  go_wp2_with (go_at_call 108; refine (inRange_any _ _ _ _).mono ?_; rintro e w' ⟨rfl, rfl⟩)
  go_ret
  exact ⟨rfl, rfl⟩

namespace Sp
def valOk (d : Bool) (v : ByteArray) : Bool := valB v && (!d || v.toList.isEmpty)
end Sp
set_option maxRecDepth 100000 in
set_option maxHeartbeats 400000 in
theorem isVal_any (d : Bool) (v : ByteArray) (w : World) : Calls Try.prog 154 #[.bool d, .string v] w fun e w' => e = .returned (.bool (valOk d v)) ∧ w = w' := by
  go_enter Try.func154, Try.ntmps154
  go_wp2
  all_goals go_ret
  all_goals refine ⟨?_, rfl⟩
  all_goals simp_all [valOk, valB]
  all_goals omega

end Go.Proofs.Ytfbbdnicplbmdaa
