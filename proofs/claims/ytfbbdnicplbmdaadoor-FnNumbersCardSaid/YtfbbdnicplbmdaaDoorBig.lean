
/- Walk: the laws' test of a code that is too long. -/
import Derived.Test.YtfbbdnicplbmdaaDoorDrawT
set_option linter.unusedVariables false
set_option linter.unusedSimpArgs false
namespace Go.Proofs.YtfbbdnicplbmdaaDoor
open Go.RowKit Sp Go.Sort
set_option maxRecDepth 100000 in
theorem big_any (v : Value) (xs : List UInt8) (w : World) (h : SlT bytC 1 w v xs) :
    Calls Tryd.prog 4 #[v] w fun e w' => e = .returned (.bool (decide (1048576 < (xs.length : Int)))) ∧ w = w' := by
  obtain ⟨ao, cap, rfl, hlc, hcm, hsh⟩ := h.shape
  go_enter Tryd.func4, Tryd.ntmps4
  go_wp2
  go_ret
  exact ⟨rfl, rfl⟩
end Go.Proofs.YtfbbdnicplbmdaaDoor
