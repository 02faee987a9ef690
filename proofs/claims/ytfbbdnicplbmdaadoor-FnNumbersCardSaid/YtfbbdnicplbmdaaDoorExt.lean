
/- Plain: byte arrays, their lists and their parts. -/
import Derived.Test.YtfbbdnicplbmdaaDoorNum
import Derived.Lib.Strings
set_option linter.unusedVariables false
set_option linter.unusedSimpArgs false
namespace Go.Proofs.YtfbbdnicplbmdaaDoor
open Go.RowKit Sp
theorem toList_data (t : ByteArray) : t.toList = t.data.toList := by
  have h := str_toList t.data.toList
  rw [str_of] at h; exact h
theorem ext_str (s : ByteArray) (i j : Nat) : s.extract i j = str ((s.data.toList.drop i).take (j - i)) := by
  have h := Lib.extract_toList s i j
  rw [toList_data] at h
  rw [← h, str_of]
theorem ext_head (l : List UInt8) (j : Nat) : (str l).extract 0 j = str (l.take j) := by rw [ext_str, str_data, List.drop_zero, Nat.sub_zero]
theorem emp_iff (l : List UInt8) (h : 0 < l.length) : (str l).toList.isEmpty = false := by
  rw [str_toList]; cases l with
  | nil => cases h
  | cons x l => rfl
theorem emp_nil : (str []).toList.isEmpty = true := by rw [str_toList]; rfl
end Go.Proofs.YtfbbdnicplbmdaaDoor
