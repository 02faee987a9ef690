/- Walks: the laws' helper that reads the marks of a row of Op. -/
import Derived.Test.YtajjefpopjdfaaaKOpM
import Derived.Test.YtajjefpopjdfaaaTypes
import Derived.Test.YtajjefpopjdfaaaLaws
import Derived.Test.YtajjefpopjdfaaaRep
import Derived.Test.YtajjefpopjdfaaaSlices
import Derived.WalkKit
import Derived.WalkSpells
import Derived.WalkLawsBesides
import Derived.BigQuiet
import Derived.Lib.QuietBelow
import Derived.Lib.Hide
set_option linter.unusedVariables false
set_option linter.unusedSimpArgs false
namespace Go.Proofs.Ytajjefpopjdfaaa
open Go.RowKit Sp Go.Sort

set_option maxRecDepth 100000 in
set_option maxHeartbeats 800000 in
theorem heldOpS_any (v : Value) (k m : Nat) (w : World) (h : SlT OpR.cells 3 w v (marksOp k m)) (hk1 : 1 ≤ (k : Int)) (hkl : (k : Int) + 3 * m ≤ 999999999) :
    Calls Try.prog 25 #[v, .int .i64 k] w fun e w' => e = .returned (.int .i64 ((k + 3 * m : Nat) : Int)) ∧ Below w.heap.size w w' := by
  obtain ⟨ao, cap, rfl, hlc, hcm, hsh⟩ := h.shape
  rw [marksOp_length] at *
  go_enter Try.func25, Try.ntmps25
  go_wp2
  go_loopw [1, 5] (fun a i wr => ∃ j : Nat, j ≤ m ∧ i = .int .i64 j ∧ a = .int .i64 ((k : Int) + 3 * j) ∧ Below w.heap.size w wr) (fun _ i _ => m - (intOf i).toNat)
  case atStart => exact ⟨0, by omega, rfl, by simp, Below.refl _ _⟩
  case round =>
    obtain ⟨j, hj, rfl, rfl, hbl⟩ := hrel
    by_cases hlt : j < m
    · obtain ⟨b, off, rfl, hb, hc⟩ := hsh (by first | omega | (rw [marksOp_length]; omega))
      have c0 : w.cell? ⟨b, off + j * 3, none⟩ = some (.string (str (markL (k + 3 * j)))) := hc j (by rw [marksOp_length]; exact hlt) 0 _ (by simp [marksOp, mkOp, OpR.cells])
      have c1 : w.cell? ⟨b, off + j * 3 + 1, none⟩ = some (.bool (decide ((k + 3 * j + 1) % 3 = 0))) := hc j (by rw [marksOp_length]; exact hlt) 1 _ (by simp [marksOp, mkOp, OpR.cells])
      have c2 : w.cell? ⟨b, off + j * 3 + 2, none⟩ = some (.string (str (markL (k + 3 * j + 2)))) := hc j (by rw [marksOp_length]; exact hlt) 2 _ (by simp [marksOp, mkOp, OpR.cells])
      clear hsh hc h
      have d0 := cell_regrown ((hbl.cell (by exact hb)).trans c0)
      have v0 : ∀ d os, Calls Try.prog 60 #[.int .i64 ((k : Int) + 3 * j)] (grow (redrawn wr d) os) fun e w'' => e = .returned (.string (str (markL (k + 3 * j)))) ∧ ∃ p : Regrown, w'' = grow (redrawn wr p.d) p.os := fun d os => Calls.regrown_of (by have h := markText_int ((k : Int) + 3 * j) (grow (redrawn wr d) os) (by omega) (by omega); rwa [show ((k : Int) + 3 * j).toNat = (k + 3 * j) from by omega] at h)
      go_wp2
      refine wp_region_quiet_below (by kernel_rfl) (by kernel_rfl) ?_
      repeat (first | go_big_quiet_step (exact v0 _ _) | go_big_quiet_step (fail))
      refine wpQuiet_nil ?_
      intro w0 hw0
      have b0 : RowKit.Below w.heap.size w w0 := by obtain ⟨p, rfl⟩ := hw0; exact hbl.trans ((below_regrown _ _ _).mono hbl.size)
      clear hw0 v0 d0
      have hbe : (Value.bool ((((k : Int) + 3 * j + 1)) % 3 == 0)) = .bool (decide ((k + 3 * j + 1) % 3 = 0)) := congrArg Value.bool (by rw [Bool.eq_iff_iff]; simp only [beq_iff_eq, decide_eq_true_eq]; omega)
      have e1 : w0.cell? ⟨b, off + j * 3 + 1, none⟩ = some (.bool ((((k : Int) + 3 * j + 1)) % 3 == 0)) := by rw [b0.cell (by exact hb), c1, hbe]
      clear c1 hbe
      have d2 := cell_regrown ((b0.cell (by exact hb)).trans c2)
      have v2 : ∀ d os, Calls Try.prog 60 #[.int .i64 ((k : Int) + 3 * j + 1 + 1)] (grow (redrawn w0 d) os) fun e w'' => e = .returned (.string (str (markL (k + 3 * j + 2)))) ∧ ∃ p : Regrown, w'' = grow (redrawn w0 p.d) p.os := fun d os => Calls.regrown_of (by have h := markText_int ((k : Int) + 3 * j + 1 + 1) (grow (redrawn w0 d) os) (by omega) (by omega); rwa [show ((k : Int) + 3 * j + 1 + 1).toNat = (k + 3 * j + 2) from by omega] at h)
      go_wp2
      refine wp_region_quiet_below (by kernel_rfl) (by kernel_rfl) ?_
      repeat (first | go_big_quiet_step (exact v2 _ _) | go_big_quiet_step (fail))
      refine wpQuiet_nil ?_
      intro w2 hw2
      have b2 : RowKit.Below w.heap.size w w2 := by obtain ⟨p, rfl⟩ := hw2; exact b0.trans ((below_regrown _ _ _).mono b0.size)
      clear hw2 v2 d2
      go_wp2
      go_roundw
      case rel => exact ⟨j + 1, by omega, by go_num, by go_num, b2⟩
      case measure => simp [intOf]; omega
    · obtain rfl : j = m := by omega
      clear hsh h
      go_wp2
      go_ret
      exact ⟨by go_num, hbl⟩
end Go.Proofs.Ytajjefpopjdfaaa
