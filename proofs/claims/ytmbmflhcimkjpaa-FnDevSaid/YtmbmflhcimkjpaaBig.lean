
/- Walk: the laws' test of a code that is too long. -/
import Derived.Test.YtmbmflhcimkjpaaDrawT
set_option linter.unusedVariables false
set_option linter.unusedSimpArgs false
namespace Go.Proofs.Ytmbmflhcimkjpaa
open Go.RowKit Sp Go.Sort
set_option maxRecDepth 100000 in
theorem big_any (v : Value) (xs : List UInt8) (w : World) (h : SlT bytC 1 w v xs) :
    Calls Try.prog 10 #[v] w fun e w' => e = .returned (.bool (decide (1048576 < (xs.length : Int)))) ∧ w = w' := by
  obtain ⟨ao, cap, rfl, hlc, hcm, hsh⟩ := h.shape
  go_enter Try.func10, Try.ntmps10
  go_wp2
  go_ret
  exact ⟨rfl, rfl⟩
end Go.Proofs.Ytmbmflhcimkjpaa
