/- Walk: the law of Unhex. -/
import Derived.Test.YtlbniglhbfmeiaaUnhex
import Derived.WalkKit
import Derived.WalkSpells
import Derived.WalkLawsBesides
set_option linter.unusedVariables false
set_option linter.unusedSimpArgs false
namespace Go.Proofs.Ytlbniglhbfmeiaa
open Go.RowKit Sp

set_option maxRecDepth 100000 in
set_option maxHeartbeats 400000 in
theorem walkFnExactUnhex (a0 : ByteArray) (w0 : a0.size ≤ maxLen) (w : World) :
    Calls Try.prog 11 #[.string a0] w fun e w' => e = .returned (.bool true) ∧ Below w.heap.size w w' := by
  by_cases hbig : (1048576 : Int) < a0.size
  · go_enter Try.func11, Try.ntmps11
    go_wp2
    go_ret
    exact ⟨rfl, Below.refl _ _⟩
  · go_enter Try.func11, Try.ntmps11
    go_wp2_with fail
    refine (specUnhex _ _ (by omega)).mono ?_
    rintro e w1 ⟨rfl, b1⟩
    go_wp2_with fail
    refine (implUnhex _ _ (by omega)).mono ?_
    rintro e w2 ⟨rfl, b2⟩
    cases (unhexV a0.data.toList).2 <;>
    · go_wp2
      go_ret
      exact ⟨rfl, b1.trans (b2.mono b1.size)⟩
end Go.Proofs.Ytlbniglhbfmeiaa
