
/- Walks: the tests of keys and values (for seats without MapOk). -/
import Derived.Test.YtmbmflhcimkjpaaTypes
import Derived.Test.YtmbmflhcimkjpaaLaws
import Derived.Test.YtmbmflhcimkjpaaMapP
import Derived.Test.YtmbmflhcimkjpaaIn
import Derived.WalkKit
import Derived.WalkSpells
import Derived.WalkLawsBesides
import Derived.BigQuiet
import Derived.Lib.QuietBelow
import Derived.Lib.Hide
set_option linter.unusedVariables false
set_option linter.unusedSimpArgs false
namespace Go.Proofs.Ytmbmflhcimkjpaa
open Go.RowKit Sp Go.Sort

set_option maxRecDepth 100000 in
set_option maxHeartbeats 400000 in
theorem l7Op_any (k v : ByteArray) (d : Bool) (w : World) :
    Calls Try.prog 124 #[.agg #[.string k, .bool d, .string v]] w fun e w' => e = .returned (.bool (opB k d v)) ∧ Below w.heap.size w w' := by
  go_enter Try.func124, Try.ntmps124
  go_wp2_with (go_at_call 107; refine (l1In_any _ _ _ _).mono ?_; rintro e w' ⟨rfl, rfl⟩)
  all_goals go_ret
  all_goals refine ⟨?_, (Below.refl _ _).alloc (Nat.le_refl _) _⟩
  all_goals simp_all [opB, keyB, valB]
  all_goals omega

set_option maxRecDepth 100000 in
set_option maxHeartbeats 400000 in
theorem isKey_any (k : ByteArray) (w : World) : Calls Try.prog 175 #[.string k] w fun e w' => e = .returned (.bool (keyB k)) ∧ w = w' := by
  go_enter Try.func175, Try.ntmps175
  go_wp2_with (go_at_call 105; refine (inRange_any _ _ _ _).mono ?_; rintro e w' ⟨rfl, rfl⟩)
  go_ret
  exact ⟨rfl, rfl⟩

namespace Sp
def valOk (d : Bool) (v : ByteArray) : Bool := valB v && (!d || v.toList.isEmpty)
end Sp
set_option maxRecDepth 100000 in
set_option maxHeartbeats 400000 in
theorem isVal_any (d : Bool) (v : ByteArray) (w : World) : Calls Try.prog 176 #[.bool d, .string v] w fun e w' => e = .returned (.bool (valOk d v)) ∧ w = w' := by
  go_enter Try.func176, Try.ntmps176
  go_wp2
  all_goals go_ret
  all_goals refine ⟨?_, rfl⟩
  all_goals simp_all [valOk, valB]
  all_goals omega

end Go.Proofs.Ytmbmflhcimkjpaa
