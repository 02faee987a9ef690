
/- Walks: sums and pieces. -/
import Derived.Test.YtfbbdnicplbmdaaCrc
import Derived.Test.YtfbbdnicplbmdaaFixedI
import Derived.Test.YtfbbdnicplbmdaaVarW
import Derived.Test.YtfbbdnicplbmdaaIn
import Derived.Test.YtfbbdnicplbmdaaPieW
set_option linter.unusedVariables false
set_option linter.unusedSimpArgs false
namespace Go.Proofs.Ytfbbdnicplbmdaa
namespace Sp
/-- A string behind its sum. -/
def sumL (l : List UInt8) : List UInt8 := fixedL (crcV l) 4 ++ l
end Sp
open Go.RowKit Sp
attribute [local go_sem] str_size str_append

set_option maxRecDepth 100000 in
set_option maxHeartbeats 400000 in
theorem summed_any (l : List UInt8) (w : World) (hl : (l.length : Int) ≤ 4611686018427387904) :
    Calls Try.prog 113 #[.string (str l)] w fun e w' => e = .returned (.string (str (sumL l))) ∧ Below w.heap.size w w' := by
  have hb := crcV_bd l
  have hf := fixedL_length_le (crcV l) 4
  go_enter Try.func113, Try.ntmps113
  go_wp2_with (go_at_call 159; refine (implCrc _ _ (by rw [str_size]; omega)).mono ?_; rintro e w' ⟨rfl, rfl⟩; rw [str_data])
  go_wp2_with (go_at_call 150; refine (implFixed _ _ _ (by omega)).mono ?_; rintro e w1 ⟨rfl, b1⟩)
  go_ret
  exact ⟨rfl, b1⟩
end Go.Proofs.Ytfbbdnicplbmdaa
