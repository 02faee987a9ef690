/- Walk: the law of the constants. -/
import Derived.Test.YtlbniglhbfmeiaaRows
import Derived.WalkKit
set_option linter.unusedVariables false
namespace Go.Proofs.Ytlbniglhbfmeiaa
open Go.RowKit
set_option maxHeartbeats 1000000 in
theorem walkFnExactConstants (w : World) : Calls Try.prog 3 #[] w fun e w' => e = .returned (.bool true) ∧ Below w.heap.size w w' := by
  go_enter Try.func3, Try.ntmps3
  go_wp2
  go_ret
  exact ⟨rfl, Below.refl _ _⟩
end Go.Proofs.Ytlbniglhbfmeiaa
