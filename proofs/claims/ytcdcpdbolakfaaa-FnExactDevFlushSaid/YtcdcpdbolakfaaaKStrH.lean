/- Walks: the laws' helper that reads the marks of a row of strings. -/
import Derived.Test.YtcdcpdbolakfaaaKStrM
import Derived.Test.YtcdcpdbolakfaaaMark
import Derived.Test.YtcdcpdbolakfaaaTouch
import Derived.Test.YtcdcpdbolakfaaaKStrA
import Derived.WalkKit
import Derived.WalkSpells
import Derived.WalkLawsBesides
import Derived.BigQuiet
import Derived.Lib.QuietBelow
import Derived.Lib.Hide
set_option linter.unusedVariables false
set_option linter.unusedSimpArgs false
namespace Go.Proofs.Ytcdcpdbolakfaaa
open Go.RowKit Sp Go.Sort

set_option maxRecDepth 100000 in
set_option maxHeartbeats 800000 in
theorem heldStrS_any (v : Value) (k m : Nat) (w : World) (h : SlT strCells 1 w v (marksStr k m)) (hk1 : 1 ≤ (k : Int)) (hkl : (k : Int) + 1 * m ≤ 999999999) :
    Calls Try.prog 91 #[v, .int .i64 k] w fun e w' => e = .returned (.int .i64 ((k + 1 * m : Nat) : Int)) ∧ Below w.heap.size w w' := by
  obtain ⟨ao, cap, rfl, hlc, hcm, hsh⟩ := h.shape
  rw [marksStr_length] at *
  go_enter Try.func91, Try.ntmps91
  go_wp2
  go_loopw [1, 5] (fun a i wr => ∃ j : Nat, j ≤ m ∧ i = .int .i64 j ∧ a = .int .i64 ((k : Int) + j) ∧ Below w.heap.size w wr) (fun _ i _ => m - (intOf i).toNat)
  case atStart => exact ⟨0, by omega, rfl, by simp, Below.refl _ _⟩
  case round =>
    obtain ⟨j, hj, rfl, rfl, hbl⟩ := hrel
    by_cases hlt : j < m
    · obtain ⟨b, off, rfl, hb, hc⟩ := hsh (by first | omega | (rw [marksStr_length]; omega))
      have c0 : w.cell? ⟨b, off + j, none⟩ = some (.string (str (markL (k + j)))) := by
        have := str_cell hc j (by rw [marksStr_length]; exact hlt)
        simpa [marksStr, mkStr] using this
      clear hsh hc h
      have d0 := cell_regrown ((hbl.cell (by exact hb)).trans c0)
      have v0 : ∀ d os, Calls Try.prog 80 #[.int .i64 ((k : Int) + j)] (grow (redrawn wr d) os) fun e w'' => e = .returned (.string (str (markL (k + j)))) ∧ ∃ p : Regrown, w'' = grow (redrawn wr p.d) p.os := fun d os => Calls.regrown_of (by have h := markText_int ((k : Int) + j) (grow (redrawn wr d) os) (by omega) (by omega); rwa [show ((k : Int) + j).toNat = (k + j) from by omega] at h)
      go_wp2
      refine wp_region_quiet_below (by kernel_rfl) (by kernel_rfl) ?_
      repeat (first | go_big_quiet_step (exact v0 _ _) | go_big_quiet_step (fail))
      refine wpQuiet_nil ?_
      intro w0 hw0
      have b0 : RowKit.Below w.heap.size w w0 := by obtain ⟨p, rfl⟩ := hw0; exact hbl.trans ((below_regrown _ _ _).mono hbl.size)
      clear hw0 v0 d0
      go_wp2
      go_roundw
      case rel => exact ⟨j + 1, by omega, by go_num, by go_num, b0⟩
      case measure => simp [intOf]; omega
    · obtain rfl : j = m := by omega
      clear hsh h
      go_wp2
      go_ret
      exact ⟨ret_int (by omega), hbl⟩
end Go.Proofs.Ytcdcpdbolakfaaa
