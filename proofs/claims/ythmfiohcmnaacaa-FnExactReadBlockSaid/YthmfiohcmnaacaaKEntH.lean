/- Walks: the laws' helper that reads the marks of a row of Ent. -/
import Derived.Test.YthmfiohcmnaacaaKEntM
import Derived.Test.YthmfiohcmnaacaaTypes
import Derived.Test.YthmfiohcmnaacaaLaws
import Derived.Test.YthmfiohcmnaacaaRep
import Derived.Test.YthmfiohcmnaacaaSlices
import Derived.WalkKit
import Derived.WalkSpells
import Derived.WalkLawsBesides
import Derived.BigQuiet
import Derived.Lib.QuietBelow
import Derived.Lib.Hide
set_option linter.unusedVariables false
set_option linter.unusedSimpArgs false
namespace Go.Proofs.Ythmfiohcmnaacaa
open Go.RowKit Sp Go.Sort

set_option maxRecDepth 100000 in
set_option maxHeartbeats 800000 in
theorem heldEntS_any (v : Value) (k m : Nat) (w : World) (h : SlT EntR.cells 4 w v (marksEnt k m)) (hk1 : 1 ≤ (k : Int)) (hkl : (k : Int) + 4 * m ≤ 999999999) :
    Calls Try.prog 37 #[v, .int .i64 k] w fun e w' => e = .returned (.int .i64 ((k + 4 * m : Nat) : Int)) ∧ Below w.heap.size w w' := by
  obtain ⟨ao, cap, rfl, hlc, hcm, hsh⟩ := h.shape
  rw [marksEnt_length] at *
  go_enter Try.func37, Try.ntmps37
  go_wp2
  go_loopw [1, 5] (fun a i wr => ∃ j : Nat, j ≤ m ∧ i = .int .i64 j ∧ a = .int .i64 ((k : Int) + 4 * j) ∧ Below w.heap.size w wr) (fun _ i _ => m - (intOf i).toNat)
  case atStart => exact ⟨0, by omega, rfl, by simp, Below.refl _ _⟩
  case round =>
    obtain ⟨j, hj, rfl, rfl, hbl⟩ := hrel
    by_cases hlt : j < m
    · obtain ⟨b, off, rfl, hb, hc⟩ := hsh (by first | omega | (rw [marksEnt_length]; omega))
      have c0 : w.cell? ⟨b, off + j * 4, none⟩ = some (.string (str (markL (k + 4 * j)))) := hc j (by rw [marksEnt_length]; exact hlt) 0 _ (by simp [marksEnt, mkEnt, EntR.cells])
      have c1 : w.cell? ⟨b, off + j * 4 + 1, none⟩ = some (.int .i64 (((k + 4 * j + 1) : Nat) : Int)) := hc j (by rw [marksEnt_length]; exact hlt) 1 _ (by simp [marksEnt, mkEnt, EntR.cells])
      have c2 : w.cell? ⟨b, off + j * 4 + 2, none⟩ = some (.bool (decide ((k + 4 * j + 2) % 3 = 0))) := hc j (by rw [marksEnt_length]; exact hlt) 2 _ (by simp [marksEnt, mkEnt, EntR.cells])
      have c3 : w.cell? ⟨b, off + j * 4 + 3, none⟩ = some (.string (str (markL (k + 4 * j + 3)))) := hc j (by rw [marksEnt_length]; exact hlt) 3 _ (by simp [marksEnt, mkEnt, EntR.cells])
      clear hsh hc h
      have d0 := cell_regrown ((hbl.cell (by exact hb)).trans c0)
      have v0 : ∀ d os, Calls Try.prog 62 #[.int .i64 ((k : Int) + 4 * j)] (grow (redrawn wr d) os) fun e w'' => e = .returned (.string (str (markL (k + 4 * j)))) ∧ ∃ p : Regrown, w'' = grow (redrawn wr p.d) p.os := fun d os => Calls.regrown_of (by have h := markText_int ((k : Int) + 4 * j) (grow (redrawn wr d) os) (by omega) (by omega); rwa [show ((k : Int) + 4 * j).toNat = (k + 4 * j) from by omega] at h)
      go_wp2
      refine wp_region_quiet_below (by kernel_rfl) (by kernel_rfl) ?_
      repeat (first | go_big_quiet_step (exact v0 _ _) | go_big_quiet_step (fail))
      refine wpQuiet_nil ?_
      intro w0 hw0
      have b0 : RowKit.Below w.heap.size w w0 := by obtain ⟨p, rfl⟩ := hw0; exact hbl.trans ((below_regrown _ _ _).mono hbl.size)
      clear hw0 v0 d0
      have e1 : w0.cell? ⟨b, off + j * 4 + 1, none⟩ = some (.int .i64 ((k : Int) + 4 * j + 1)) := by rw [b0.cell (by exact hb), c1]; exact congrArg (fun x => some (Value.int .i64 x)) (by omega)
      clear c1
      have hbe : (Value.bool ((((k : Int) + 4 * j + 1 + 1)) % 3 == 0)) = .bool (decide ((k + 4 * j + 2) % 3 = 0)) := congrArg Value.bool (by rw [Bool.eq_iff_iff]; simp only [beq_iff_eq, decide_eq_true_eq]; omega)
      have e2 : w0.cell? ⟨b, off + j * 4 + 2, none⟩ = some (.bool ((((k : Int) + 4 * j + 1 + 1)) % 3 == 0)) := by rw [b0.cell (by exact hb), c2, hbe]
      clear c2 hbe
      have d3 := cell_regrown ((b0.cell (by exact hb)).trans c3)
      have v3 : ∀ d os, Calls Try.prog 62 #[.int .i64 ((k : Int) + 4 * j + 1 + 1 + 1)] (grow (redrawn w0 d) os) fun e w'' => e = .returned (.string (str (markL (k + 4 * j + 3)))) ∧ ∃ p : Regrown, w'' = grow (redrawn w0 p.d) p.os := fun d os => Calls.regrown_of (by have h := markText_int ((k : Int) + 4 * j + 1 + 1 + 1) (grow (redrawn w0 d) os) (by omega) (by omega); rwa [show ((k : Int) + 4 * j + 1 + 1 + 1).toNat = (k + 4 * j + 3) from by omega] at h)
      go_wp2
      refine wp_region_quiet_below (by kernel_rfl) (by kernel_rfl) ?_
      repeat (first | go_big_quiet_step (exact v3 _ _) | go_big_quiet_step (fail))
      refine wpQuiet_nil ?_
      intro w3 hw3
      have b3 : RowKit.Below w.heap.size w w3 := by obtain ⟨p, rfl⟩ := hw3; exact b0.trans ((below_regrown _ _ _).mono b0.size)
      clear hw3 v3 d3
      go_wp2
      go_roundw
      case rel => exact ⟨j + 1, by omega, by go_num, by go_num, b3⟩
      case measure => simp [intOf]; omega
    · obtain rfl : j = m := by omega
      clear hsh h
      go_wp2
      go_ret
      exact ⟨by go_num, hbl⟩
end Go.Proofs.Ythmfiohcmnaacaa
