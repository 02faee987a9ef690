
/- Walks: pieces (for seats without sums). -/
import Derived.Test.YtfbbdnicplbmdaaVarW
import Derived.Test.YtfbbdnicplbmdaaIn
set_option linter.unusedVariables false
set_option linter.unusedSimpArgs false
namespace Go.Proofs.Ytfbbdnicplbmdaa
namespace Sp
/-- A string behind its length. -/
def pieL (l : List UInt8) : List UInt8 := varL l.length ++ l
end Sp
open Go.RowKit Sp
attribute [local go_sem] str_size str_append

set_option maxRecDepth 100000 in
set_option maxHeartbeats 400000 in
theorem short_any (s : ByteArray) (w : World) (hl : (s.size : Int) ≤ 1048576) :
    Calls Try.prog 78 #[.string s] w fun e w' => e = .returned (.string (str (pieL s.data.toList))) ∧ Below w.heap.size w w' := by
  have hq : (str (varL s.size) ++ s) = str (pieL s.data.toList) := by rw [← str_of s, str_append, str_data]; unfold pieL; rw [str_size]
  have hv := varL_length (s.size : Int)
  have HZ : ((str (varL s.size) ++ s).size : Int) = (varL s.size).length + s.size := by rw [ByteArray.size_append, str_size]; omega
  go_enter Try.func78, Try.ntmps78
  go_wp2_with (go_at_call 77; refine (implVar _ _).mono ?_; rintro e w1 ⟨rfl, b1⟩)
  go_ret
  exact ⟨rfl, b1⟩
set_option maxRecDepth 100000 in
set_option maxHeartbeats 400000 in
theorem l6Piece_any (s : ByteArray) (w : World) (hl : (s.size : Int) ≤ 1048576) :
    Calls Try.prog 132 #[.string s] w fun e w' => e = .returned (.string (str (pieL s.data.toList))) ∧ Below w.heap.size w w' := by
  have hq : (str (varL s.size) ++ s) = str (pieL s.data.toList) := by rw [← str_of s, str_append, str_data]; unfold pieL; rw [str_size]
  have hv := varL_length (s.size : Int)
  have HZ : ((str (varL s.size) ++ s).size : Int) = (varL s.size).length + s.size := by rw [ByteArray.size_append, str_size]; omega
  go_enter Try.func132, Try.ntmps132
  go_wp2_with (go_at_call 131; refine (specVar _ _).mono ?_; rintro e w1 ⟨rfl, b1⟩)
  go_ret
  exact ⟨rfl, b1⟩
end Go.Proofs.Ytfbbdnicplbmdaa
