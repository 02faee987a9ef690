/- Walks: the laws' helper that marks a row of LogRow. -/
import Derived.Test.YtoflclofcnpjlaaMark
import Derived.Test.YtoflclofcnpjlaaTouch
import Derived.Test.YtoflclofcnpjlaaTypes
import Derived.Test.YtoflclofcnpjlaaLaws
import Derived.Test.YtoflclofcnpjlaaRep
import Derived.Test.YtoflclofcnpjlaaSlices
import Derived.WalkKit
import Derived.WalkSpells
import Derived.WalkLawsBesides
import Derived.BigQuiet
import Derived.Lib.QuietBelow
import Derived.Lib.Hide
set_option linter.unusedVariables false
set_option linter.unusedSimpArgs false
namespace Go.Proofs.Ytoflclofcnpjlaa
open Go.RowKit Sp Go.Sort

namespace Sp
def mkLogRow (k : Nat) : RowR := ⟨((k : Nat) : Int), (((k + 1) : Nat) : Int), (((k + 2) : Nat) : Int), str (markL (k + 3)), decide ((k + 4) % 3 = 0)⟩
def marksLogRow (k m : Nat) : List RowR := (List.range m).map fun i => mkLogRow (k + 5 * i)
theorem marksLogRow_length (k m : Nat) : (marksLogRow k m).length = m := by simp [marksLogRow]
theorem marksLogRow_step (k : Nat) (l : List RowR) (i : Nat) (h : i < l.length) : ((marksLogRow k i ++ l.drop i).map RowR.cells).set i (mkLogRow (k + 5 * i)).cells = (marksLogRow k (i + 1) ++ l.drop (i + 1)).map RowR.cells := by
  rw [List.map_append, List.set_append_right _ _ (by simp [marksLogRow_length])]
  rw [show i - ((marksLogRow k i).map RowR.cells).length = 0 from by simp [marksLogRow_length], List.drop_eq_getElem_cons h, List.map_cons, List.set_cons_zero]
  unfold marksLogRow
  rw [List.range_succ]
  simp
end Sp

set_option maxRecDepth 100000 in
set_option maxHeartbeats 800000 in
theorem markLogRowS_any (l : List RowR) (k : Nat) (w : World) (base g cap : Nat) (hown : w.ownsRow base 28 5 (.slice (some ⟨g, 0, none⟩) l.length cap) l.length (l.map RowR.cells).flatten) (hcap : l.length ≤ cap) (hk1 : 1 ≤ (k : Int)) (hkl : (k : Int) + 5 * l.length ≤ 999999999) :
    Calls Try.prog 39 #[(.slice (some ⟨g, 0, none⟩) l.length cap), .int .i64 k] w fun e w' => e = .returned (.int .i64 ((k + 5 * l.length : Nat) : Int)) ∧ w'.ownsRow base 28 5 (.slice (some ⟨g, 0, none⟩) l.length cap) l.length ((marksLogRow k l.length).map RowR.cells).flatten ∧ w.grownBy w' (some g) := by
  have hdrop : ∀ i, (marksLogRow k i ++ l.drop i).length = max i l.length := by intro i; simp [marksLogRow_length]; omega
  go_enter Try.func39, Try.ntmps39
  go_wp2
  go_loopw [1, 5] (fun a i wr => ∃ j : Nat, j ≤ l.length ∧ i = .int .i64 j ∧ a = .int .i64 ((k : Int) + 5 * j) ∧ wr.ownsRow base 28 5 (.slice (some ⟨g, 0, none⟩) l.length cap) l.length ((marksLogRow k j ++ l.drop j).map RowR.cells).flatten ∧ w.grownBy wr (some g)) (fun _ i _ => l.length - (intOf i).toNat)
  case atStart => exact ⟨0, by omega, rfl, by simp, by simpa [marksLogRow] using hown, touch_refl _ _⟩
  case round =>
    obtain ⟨j, hj, rfl, rfl, hr, ht⟩ := hrel
    by_cases hlt : j < l.length
    · have hll := hdrop j
      have hsz0 : g < wr.heap.size := (hr.lt _ rfl).2
      have hx : ∀ (xs : List Value), xs.length = l.length * 5 → j * 5 + 5 ≤ xs.length := fun xs h => by rw [h]; have : j + 1 ≤ l.length := hlt; have := Nat.mul_le_mul_right 5 this; omega
      have hst := marksLogRow_step k l j hlt
      have hbe : (Value.bool (decide (((k : Int) + 5 * j + 4).tmod 3 = 0))) = .bool (decide ((k + 5 * j + 4) % 3 = 0)) := by rw [Int.tmod_eq_emod_of_nonneg (by omega)]; exact congrArg Value.bool (decide_eq_decide.2 (by omega))
      have HE := Lib.hid ((set_row5 (ll := (marksLogRow k j ++ l.drop j).map RowR.cells) (fun c hc => by obtain ⟨x, _, rfl⟩ := List.mem_map.1 hc; rfl) j (by simp only [List.length_map]; omega) (.int .i64 ((k : Int) + 5 * j)) (.int .i64 ((k : Int) + 5 * j + 1)) (.int .i64 ((k : Int) + 5 * j + 2)) (.string (str (markL (k + 5 * j + 3)))) (.bool (decide (((k : Int) + 5 * j + 4).tmod 3 = 0)))).trans ((by rw [hbe]; exact congrArg List.flatten hst) : _ = ((marksLogRow k (j + 1) ++ l.drop (j + 1)).map RowR.cells).flatten))
      clear hst hbe
      obtain ⟨x0, q0⟩ := cell_owns hr (j * 5) (by have := hr.1; omega); have z0 := hr.frozenAt; have s0 := (hr.stored (j * 5) (.int .i64 ((k : Int) + 5 * j))).1; have y0 := touch_set ht (j * 5) (.int .i64 ((k : Int) + 5 * j))
      obtain ⟨x1, q1⟩ := cell_owns s0 (j * 5 + 1) (by have := s0.1; omega); have z1 := s0.frozenAt; have s1 := (s0.stored (j * 5 + 1) (.int .i64 ((k : Int) + 5 * j + 1))).1; have y1 := touch_set y0 (j * 5 + 1) (.int .i64 ((k : Int) + 5 * j + 1))
      obtain ⟨x2, q2⟩ := cell_owns s1 (j * 5 + 2) (by have := s1.1; omega); have z2 := s1.frozenAt; have s2 := (s1.stored (j * 5 + 2) (.int .i64 ((k : Int) + 5 * j + 2))).1; have y2 := touch_set y1 (j * 5 + 2) (.int .i64 ((k : Int) + 5 * j + 2))
      go_wp2_with (go_at_call 68; refine (markText_int _ _ (by omega) (by omega)).mono ?_; rintro e w3 ⟨rfl, b3⟩; have r3 := own_below s2 b3; have t3 := touch_below y2 b3; obtain ⟨x3, q3⟩ := cell_owns r3 (j * 5 + 3) (by have := r3.1; omega); have z3 := r3.frozenAt; have s3 := (r3.stored (j * 5 + 3) (.string (str (markL (k + 5 * j + 3))))).1; have y3 := touch_set t3 (j * 5 + 3) (.string (str (markL (k + 5 * j + 3)))); obtain ⟨x4, q4⟩ := cell_owns s3 (j * 5 + 4) (by have := s3.1; omega); have z4 := s3.frozenAt; have s4 := (s3.stored (j * 5 + 4) (.bool (decide (((k : Int) + 5 * j + 4).tmod 3 = 0)))).1; have y4 := touch_set y3 (j * 5 + 4) (.bool (decide (((k : Int) + 5 * j + 4).tmod 3 = 0))))
      go_roundw
      case rel => exact ⟨j + 1, by omega, by go_num, by go_num, by rw [← HE.out]; exact s4, y4⟩
      case measure => simp [intOf]; omega
    · obtain rfl : j = l.length := by omega
      go_wp2
      go_ret
      exact ⟨by go_num, by simpa using hr, ht⟩
end Go.Proofs.Ytoflclofcnpjlaa
