/- Walks: the laws' helper that marks a row of Ent. -/
import Derived.Test.YthmfiohcmnaacaaMark
import Derived.Test.YthmfiohcmnaacaaTouch
import Derived.Test.YthmfiohcmnaacaaTypes
import Derived.Test.YthmfiohcmnaacaaLaws
import Derived.Test.YthmfiohcmnaacaaRep
import Derived.Test.YthmfiohcmnaacaaSlices
import Derived.WalkKit
import Derived.WalkSpells
import Derived.WalkLawsBesides
import Derived.BigQuiet
import Derived.Lib.QuietBelow
import Derived.Lib.Hide
set_option linter.unusedVariables false
set_option linter.unusedSimpArgs false
namespace Go.Proofs.Ythmfiohcmnaacaa
open Go.RowKit Sp Go.Sort

namespace Sp
def mkEnt (k : Nat) : EntR := ⟨str (markL k), (((k + 1) : Nat) : Int), decide ((k + 2) % 3 = 0), str (markL (k + 3))⟩
def marksEnt (k m : Nat) : List EntR := (List.range m).map fun i => mkEnt (k + 4 * i)
theorem marksEnt_length (k m : Nat) : (marksEnt k m).length = m := by simp [marksEnt]
theorem marksEnt_step (k : Nat) (l : List EntR) (i : Nat) (h : i < l.length) : ((marksEnt k i ++ l.drop i).map EntR.cells).set i (mkEnt (k + 4 * i)).cells = (marksEnt k (i + 1) ++ l.drop (i + 1)).map EntR.cells := by
  rw [List.map_append, List.set_append_right _ _ (by simp [marksEnt_length])]
  rw [show i - ((marksEnt k i).map EntR.cells).length = 0 from by simp [marksEnt_length], List.drop_eq_getElem_cons h, List.map_cons, List.set_cons_zero]
  unfold marksEnt
  rw [List.range_succ]
  simp
end Sp

set_option maxRecDepth 100000 in
set_option maxHeartbeats 800000 in
theorem markEntS_any (l : List EntR) (k : Nat) (w : World) (base g cap : Nat) (hown : w.ownsRow base 30 4 (.slice (some ⟨g, 0, none⟩) l.length cap) l.length (l.map EntR.cells).flatten) (hcap : l.length ≤ cap) (hk1 : 1 ≤ (k : Int)) (hkl : (k : Int) + 4 * l.length ≤ 999999999) :
    Calls Try.prog 26 #[(.slice (some ⟨g, 0, none⟩) l.length cap), .int .i64 k] w fun e w' => e = .returned (.int .i64 ((k + 4 * l.length : Nat) : Int)) ∧ w'.ownsRow base 30 4 (.slice (some ⟨g, 0, none⟩) l.length cap) l.length ((marksEnt k l.length).map EntR.cells).flatten ∧ w.grownBy w' (some g) := by
  have hdrop : ∀ i, (marksEnt k i ++ l.drop i).length = max i l.length := by intro i; simp [marksEnt_length]; omega
  go_enter Try.func26, Try.ntmps26
  go_wp2
  go_loopw [1, 5] (fun a i wr => ∃ j : Nat, j ≤ l.length ∧ i = .int .i64 j ∧ a = .int .i64 ((k : Int) + 4 * j) ∧ wr.ownsRow base 30 4 (.slice (some ⟨g, 0, none⟩) l.length cap) l.length ((marksEnt k j ++ l.drop j).map EntR.cells).flatten ∧ w.grownBy wr (some g)) (fun _ i _ => l.length - (intOf i).toNat)
  case atStart => exact ⟨0, by omega, rfl, by simp, by simpa [marksEnt] using hown, touch_refl _ _⟩
  case round =>
    obtain ⟨j, hj, rfl, rfl, hr, ht⟩ := hrel
    by_cases hlt : j < l.length
    · have hll := hdrop j
      have hsz0 : g < wr.heap.size := (hr.lt _ rfl).2
      have hx : ∀ (xs : List Value), xs.length = l.length * 4 → j * 4 + 4 ≤ xs.length := fun xs h => by rw [h]; have : j + 1 ≤ l.length := hlt; have := Nat.mul_le_mul_right 4 this; omega
      have hst := marksEnt_step k l j hlt
      have hbe : (Value.bool (decide (((k : Int) + 4 * j + 2).tmod 3 = 0))) = .bool (decide ((k + 4 * j + 2) % 3 = 0)) := by rw [Int.tmod_eq_emod_of_nonneg (by omega)]; exact congrArg Value.bool (decide_eq_decide.2 (by omega))
      have HE := Lib.hid ((set_row4 (ll := (marksEnt k j ++ l.drop j).map EntR.cells) (fun c hc => by obtain ⟨x, _, rfl⟩ := List.mem_map.1 hc; rfl) j (by simp only [List.length_map]; omega) (.string (str (markL (k + 4 * j)))) (.int .i64 ((k : Int) + 4 * j + 1)) (.bool (decide (((k : Int) + 4 * j + 2).tmod 3 = 0))) (.string (str (markL (k + 4 * j + 3))))).trans ((by rw [hbe]; exact congrArg List.flatten hst) : _ = ((marksEnt k (j + 1) ++ l.drop (j + 1)).map EntR.cells).flatten))
      clear hst hbe
      go_wp2_with (go_at_call 62; refine (markText_int _ _ (by omega) (by omega)).mono ?_; rintro e w0 ⟨rfl, b0⟩; have r0 := own_below hr b0; have t0 := touch_below ht b0; obtain ⟨x0, q0⟩ := cell_owns r0 (j * 4) (by have := r0.1; omega); have z0 := r0.frozenAt; have s0 := (r0.stored (j * 4) (.string (str (markL (k + 4 * j))))).1; have y0 := touch_set t0 (j * 4) (.string (str (markL (k + 4 * j)))); obtain ⟨x1, q1⟩ := cell_owns s0 (j * 4 + 1) (by have := s0.1; omega); have z1 := s0.frozenAt; have s1 := (s0.stored (j * 4 + 1) (.int .i64 ((k : Int) + 4 * j + 1))).1; have y1 := touch_set y0 (j * 4 + 1) (.int .i64 ((k : Int) + 4 * j + 1)); obtain ⟨x2, q2⟩ := cell_owns s1 (j * 4 + 2) (by have := s1.1; omega); have z2 := s1.frozenAt; have s2 := (s1.stored (j * 4 + 2) (.bool (decide (((k : Int) + 4 * j + 2).tmod 3 = 0)))).1; have y2 := touch_set y1 (j * 4 + 2) (.bool (decide (((k : Int) + 4 * j + 2).tmod 3 = 0))))
      go_wp2_with (go_at_call 62; refine (markText_int _ _ (by omega) (by omega)).mono ?_; rintro e w3 ⟨rfl, b3⟩; have r3 := own_below s2 b3; have t3 := touch_below y2 b3; obtain ⟨x3, q3⟩ := cell_owns r3 (j * 4 + 3) (by have := r3.1; omega); have z3 := r3.frozenAt; have s3 := (r3.stored (j * 4 + 3) (.string (str (markL (k + 4 * j + 3))))).1; have y3 := touch_set t3 (j * 4 + 3) (.string (str (markL (k + 4 * j + 3)))))
      go_roundw
      case rel => exact ⟨j + 1, by omega, by go_num, by go_num, by rw [← HE.out]; exact s3, y3⟩
      case measure => simp [intOf]; omega
    · obtain rfl : j = l.length := by omega
      go_wp2
      go_ret
      exact ⟨by go_num, by simpa using hr, ht⟩
end Go.Proofs.Ythmfiohcmnaacaa
