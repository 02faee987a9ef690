/- Walks: the laws' helpers for LogRow: its size, its copy, one by one. -/
import Derived.Test.YtoflclofcnpjlaaTypes
import Derived.Test.YtoflclofcnpjlaaLaws
import Derived.Test.YtoflclofcnpjlaaRep
import Derived.Test.YtoflclofcnpjlaaSlices
import Derived.WalkKit
import Derived.WalkSpells
import Derived.WalkLawsBesides
import Derived.BigQuiet
import Derived.Lib.QuietBelow
import Derived.Lib.Hide
set_option linter.unusedVariables false
set_option linter.unusedSimpArgs false
namespace Go.Proofs.Ytoflclofcnpjlaa
open Go.RowKit Sp Go.Sort

theorem info_LogRow : (Try.prog.info? 28).map (fun i => (i.zero, i.size, i.bytes)) = some (some (.agg #[.int .i64 0, .int .i64 0, .int .i64 0, .string ByteArray.empty, .bool false]), 5, 48) := by kernel_rfl

theorem RowR.len (x : RowR) : x.cells.length = 5 := rfl

set_option maxRecDepth 100000 in
set_option maxHeartbeats 400000 in
theorem szLogRow_any (x : RowR) (hx : x.ok) (left : Int) (w : World) (h0 : 0 ≤ left) (h1 : left ≤ 1048576) :
    Calls Try.prog 16 #[.agg #[.int .i64 x.ten, .int .i64 x.boot, .int .i64 x.seq, .string x.text, .bool x.sync], .int .i64 left] w fun e w' => e = .returned (.int .i64 (dec left x.sz)) ∧ Below w.heap.size w w' := by
  obtain ⟨ten, boot, seq, text, sync⟩ := x
  obtain ⟨hx0, hx1, hx2, hx3, hx4⟩ := hx
  simp only [szOk, inI64] at hx0 hx1 hx2 hx3
  by_cases c0 : left - (text.size : Int) < 0
  · go_enter Try.func16, Try.ntmps16
    go_wp2
    go_ret
    exact ⟨by rw [dec_neg (by simp only [RowR.sz]; omega)]; rfl, (Below.refl _ _).alloc (Nat.le_refl _) _⟩
  go_enter Try.func16, Try.ntmps16
  go_wp2
  go_ret
  exact ⟨by rw [dec_pos (by simp only [RowR.sz]; omega)] <;> exact ret_int (by simp only [RowR.sz] <;> omega), (Below.refl _ _).alloc (Nat.le_refl _) _⟩


set_option maxRecDepth 100000 in
theorem toLogRow_any (ten : Int) (boot : Int) (seq : Int) (text : ByteArray) (sync : Bool) (w : World) :
    Calls Try.prog 18 #[.agg #[.int .i64 ten, .int .i64 boot, .int .i64 seq, .string text, .bool sync]] w fun e w' => e = .returned (.agg #[.int .i64 ten, .int .i64 boot, .int .i64 seq, .string text, .bool sync]) ∧ Below w.heap.size w w' := by
  go_enter Try.func18, Try.ntmps18
  go_wp2
  refine bodyPost_ret (v := .agg #[.int .i64 ten, .int .i64 boot, .int .i64 seq, .string text, .bool sync]) (by simp [results, Try.results18, go_sem]) rfl ⟨rfl, ?_⟩
  repeat (first | exact Below.refl _ _ | refine Below.setCell ?_ (by simp <;> omega) _ | refine Below.alloc ?_ (by simp <;> omega) _)


end Go.Proofs.Ytoflclofcnpjlaa
