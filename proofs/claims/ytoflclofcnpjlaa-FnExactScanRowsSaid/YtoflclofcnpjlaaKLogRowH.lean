/- Walks: the laws' helper that reads the marks of a row of LogRow. -/
import Derived.Test.YtoflclofcnpjlaaKLogRowM
import Derived.Test.YtoflclofcnpjlaaTypes
import Derived.Test.YtoflclofcnpjlaaLaws
import Derived.Test.YtoflclofcnpjlaaRep
import Derived.Test.YtoflclofcnpjlaaSlices
import Derived.WalkKit
import Derived.WalkSpells
import Derived.WalkLawsBesides
import Derived.BigQuiet
import Derived.Lib.QuietBelow
import Derived.Lib.Hide
set_option linter.unusedVariables false
set_option linter.unusedSimpArgs false
namespace Go.Proofs.Ytoflclofcnpjlaa
open Go.RowKit Sp Go.Sort

set_option maxRecDepth 100000 in
set_option maxHeartbeats 800000 in
theorem heldLogRowS_any (v : Value) (k m : Nat) (w : World) (h : SlT RowR.cells 5 w v (marksLogRow k m)) (hk1 : 1 ≤ (k : Int)) (hkl : (k : Int) + 5 * m ≤ 999999999) :
    Calls Try.prog 40 #[v, .int .i64 k] w fun e w' => e = .returned (.int .i64 ((k + 5 * m : Nat) : Int)) ∧ Below w.heap.size w w' := by
  obtain ⟨ao, cap, rfl, hlc, hcm, hsh⟩ := h.shape
  rw [marksLogRow_length] at *
  go_enter Try.func40, Try.ntmps40
  go_wp2
  go_loopw [1, 5] (fun a i wr => ∃ j : Nat, j ≤ m ∧ i = .int .i64 j ∧ a = .int .i64 ((k : Int) + 5 * j) ∧ Below w.heap.size w wr) (fun _ i _ => m - (intOf i).toNat)
  case atStart => exact ⟨0, by omega, rfl, by simp, Below.refl _ _⟩
  case round =>
    obtain ⟨j, hj, rfl, rfl, hbl⟩ := hrel
    by_cases hlt : j < m
    · obtain ⟨b, off, rfl, hb, hc⟩ := hsh (by first | omega | (rw [marksLogRow_length]; omega))
      have c0 : w.cell? ⟨b, off + j * 5, none⟩ = some (.int .i64 (((k + 5 * j) : Nat) : Int)) := hc j (by rw [marksLogRow_length]; exact hlt) 0 _ (by simp [marksLogRow, mkLogRow, RowR.cells])
      have c1 : w.cell? ⟨b, off + j * 5 + 1, none⟩ = some (.int .i64 (((k + 5 * j + 1) : Nat) : Int)) := hc j (by rw [marksLogRow_length]; exact hlt) 1 _ (by simp [marksLogRow, mkLogRow, RowR.cells])
      have c2 : w.cell? ⟨b, off + j * 5 + 2, none⟩ = some (.int .i64 (((k + 5 * j + 2) : Nat) : Int)) := hc j (by rw [marksLogRow_length]; exact hlt) 2 _ (by simp [marksLogRow, mkLogRow, RowR.cells])
      have c3 : w.cell? ⟨b, off + j * 5 + 3, none⟩ = some (.string (str (markL (k + 5 * j + 3)))) := hc j (by rw [marksLogRow_length]; exact hlt) 3 _ (by simp [marksLogRow, mkLogRow, RowR.cells])
      have c4 : w.cell? ⟨b, off + j * 5 + 4, none⟩ = some (.bool (decide ((k + 5 * j + 4) % 3 = 0))) := hc j (by rw [marksLogRow_length]; exact hlt) 4 _ (by simp [marksLogRow, mkLogRow, RowR.cells])
      clear hsh hc h
      have e0 : wr.cell? ⟨b, off + j * 5, none⟩ = some (.int .i64 ((k : Int) + 5 * j)) := by rw [hbl.cell (by exact hb), c0]; exact congrArg (fun x => some (Value.int .i64 x)) (by omega)
      clear c0
      have e1 : wr.cell? ⟨b, off + j * 5 + 1, none⟩ = some (.int .i64 ((k : Int) + 5 * j + 1)) := by rw [hbl.cell (by exact hb), c1]; exact congrArg (fun x => some (Value.int .i64 x)) (by omega)
      clear c1
      have e2 : wr.cell? ⟨b, off + j * 5 + 2, none⟩ = some (.int .i64 ((k : Int) + 5 * j + 1 + 1)) := by rw [hbl.cell (by exact hb), c2]; exact congrArg (fun x => some (Value.int .i64 x)) (by omega)
      clear c2
      have d3 := cell_regrown ((hbl.cell (by exact hb)).trans c3)
      have v3 : ∀ d os, Calls Try.prog 68 #[.int .i64 ((k : Int) + 5 * j + 1 + 1 + 1)] (grow (redrawn wr d) os) fun e w'' => e = .returned (.string (str (markL (k + 5 * j + 3)))) ∧ ∃ p : Regrown, w'' = grow (redrawn wr p.d) p.os := fun d os => Calls.regrown_of (by have h := markText_int ((k : Int) + 5 * j + 1 + 1 + 1) (grow (redrawn wr d) os) (by omega) (by omega); rwa [show ((k : Int) + 5 * j + 1 + 1 + 1).toNat = (k + 5 * j + 3) from by omega] at h)
      go_wp2
      refine wp_region_quiet_below (by kernel_rfl) (by kernel_rfl) ?_
      repeat (first | go_big_quiet_step (exact v3 _ _) | go_big_quiet_step (fail))
      refine wpQuiet_nil ?_
      intro w3 hw3
      have b3 : RowKit.Below w.heap.size w w3 := by obtain ⟨p, rfl⟩ := hw3; exact hbl.trans ((below_regrown _ _ _).mono hbl.size)
      clear hw3 v3 d3
      have hbe : (Value.bool ((((k : Int) + 5 * j + 1 + 1 + 1 + 1)) % 3 == 0)) = .bool (decide ((k + 5 * j + 4) % 3 = 0)) := congrArg Value.bool (by rw [Bool.eq_iff_iff]; simp only [beq_iff_eq, decide_eq_true_eq]; omega)
      have e4 : w3.cell? ⟨b, off + j * 5 + 4, none⟩ = some (.bool ((((k : Int) + 5 * j + 1 + 1 + 1 + 1)) % 3 == 0)) := by rw [b3.cell (by exact hb), c4, hbe]
      clear c4 hbe
      go_wp2
      go_roundw
      case rel => exact ⟨j + 1, by omega, by go_num, by go_num, b3⟩
      case measure => simp [intOf]; omega
    · obtain rfl : j = m := by omega
      clear hsh h
      go_wp2
      go_ret
      exact ⟨by go_num, hbl⟩
end Go.Proofs.Ytoflclofcnpjlaa