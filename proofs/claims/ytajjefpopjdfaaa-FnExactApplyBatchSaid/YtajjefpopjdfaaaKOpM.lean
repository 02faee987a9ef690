/- Walks: the laws' helper that marks a row of Op. -/
import Derived.Test.YtajjefpopjdfaaaMark
import Derived.Test.YtajjefpopjdfaaaTouch
import Derived.Test.YtajjefpopjdfaaaTypes
import Derived.Test.YtajjefpopjdfaaaLaws
import Derived.Test.YtajjefpopjdfaaaRep
import Derived.Test.YtajjefpopjdfaaaSlices
import Derived.WalkKit
import Derived.WalkSpells
import Derived.WalkLawsBesides
import Derived.BigQuiet
import Derived.Lib.QuietBelow
import Derived.Lib.Hide
set_option linter.unusedVariables false
set_option linter.unusedSimpArgs false
namespace Go.Proofs.Ytajjefpopjdfaaa
open Go.RowKit Sp Go.Sort

namespace Sp
def mkOp (k : Nat) : OpR := ⟨str (markL k), decide ((k + 1) % 3 = 0), str (markL (k + 2))⟩
def marksOp (k m : Nat) : List OpR := (List.range m).map fun i => mkOp (k + 3 * i)
theorem marksOp_length (k m : Nat) : (marksOp k m).length = m := by simp [marksOp]
theorem marksOp_step (k : Nat) (l : List OpR) (i : Nat) (h : i < l.length) : ((marksOp k i ++ l.drop i).map OpR.cells).set i (mkOp (k + 3 * i)).cells = (marksOp k (i + 1) ++ l.drop (i + 1)).map OpR.cells := by
  rw [List.map_append, List.set_append_right _ _ (by simp [marksOp_length])]
  rw [show i - ((marksOp k i).map OpR.cells).length = 0 from by simp [marksOp_length], List.drop_eq_getElem_cons h, List.map_cons, List.set_cons_zero]
  unfold marksOp
  rw [List.range_succ]
  simp
end Sp

set_option maxRecDepth 100000 in
set_option maxHeartbeats 800000 in
theorem markOpS_any (l : List OpR) (k : Nat) (w : World) (base g cap : Nat) (hown : w.ownsRow base 58 3 (.slice (some ⟨g, 0, none⟩) l.length cap) l.length (l.map OpR.cells).flatten) (hcap : l.length ≤ cap) (hk1 : 1 ≤ (k : Int)) (hkl : (k : Int) + 3 * l.length ≤ 999999999) :
    Calls Try.prog 24 #[(.slice (some ⟨g, 0, none⟩) l.length cap), .int .i64 k] w fun e w' => e = .returned (.int .i64 ((k + 3 * l.length : Nat) : Int)) ∧ w'.ownsRow base 58 3 (.slice (some ⟨g, 0, none⟩) l.length cap) l.length ((marksOp k l.length).map OpR.cells).flatten ∧ w.grownBy w' (some g) := by
  have hdrop : ∀ i, (marksOp k i ++ l.drop i).length = max i l.length := by intro i; simp [marksOp_length]; omega
  go_enter Try.func24, Try.ntmps24
  go_wp2
  go_loopw [1, 5] (fun a i wr => ∃ j : Nat, j ≤ l.length ∧ i = .int .i64 j ∧ a = .int .i64 ((k : Int) + 3 * j) ∧ wr.ownsRow base 58 3 (.slice (some ⟨g, 0, none⟩) l.length cap) l.length ((marksOp k j ++ l.drop j).map OpR.cells).flatten ∧ w.grownBy wr (some g)) (fun _ i _ => l.length - (intOf i).toNat)
  case atStart => exact ⟨0, by omega, rfl, by simp, by simpa [marksOp] using hown, touch_refl _ _⟩
  case round =>
    obtain ⟨j, hj, rfl, rfl, hr, ht⟩ := hrel
    by_cases hlt : j < l.length
    · have hll := hdrop j
      have hsz0 : g < wr.heap.size := (hr.lt _ rfl).2
      have hx : ∀ (xs : List Value), xs.length = l.length * 3 → j * 3 + 3 ≤ xs.length := fun xs h => by rw [h]; have : j + 1 ≤ l.length := hlt; have := Nat.mul_le_mul_right 3 this; omega
      have hst := marksOp_step k l j hlt
      have hbe : (Value.bool (decide (((k : Int) + 3 * j + 1).tmod 3 = 0))) = .bool (decide ((k + 3 * j + 1) % 3 = 0)) := by rw [Int.tmod_eq_emod_of_nonneg (by omega)]; exact congrArg Value.bool (decide_eq_decide.2 (by omega))
      have HE := Lib.hid ((set_row3 (ll := (marksOp k j ++ l.drop j).map OpR.cells) (fun c hc => by obtain ⟨x, _, rfl⟩ := List.mem_map.1 hc; rfl) j (by simp only [List.length_map]; omega) (.string (str (markL (k + 3 * j)))) (.bool (decide (((k : Int) + 3 * j + 1).tmod 3 = 0))) (.string (str (markL (k + 3 * j + 2))))).trans ((by rw [hbe]; exact congrArg List.flatten hst) : _ = ((marksOp k (j + 1) ++ l.drop (j + 1)).map OpR.cells).flatten))
      clear hst hbe
      go_wp2_with (go_at_call 60; refine (markText_int _ _ (by omega) (by omega)).mono ?_; rintro e w0 ⟨rfl, b0⟩; have r0 := own_below hr b0; have t0 := touch_below ht b0; obtain ⟨x0, q0⟩ := cell_owns r0 (j * 3) (by have := r0.1; omega); have z0 := r0.frozenAt; have s0 := (r0.stored (j * 3) (.string (str (markL (k + 3 * j))))).1; have y0 := touch_set t0 (j * 3) (.string (str (markL (k + 3 * j)))); obtain ⟨x1, q1⟩ := cell_owns s0 (j * 3 + 1) (by have := s0.1; omega); have z1 := s0.frozenAt; have s1 := (s0.stored (j * 3 + 1) (.bool (decide (((k : Int) + 3 * j + 1).tmod 3 = 0)))).1; have y1 := touch_set y0 (j * 3 + 1) (.bool (decide (((k : Int) + 3 * j + 1).tmod 3 = 0))))
      go_wp2_with (go_at_call 60; refine (markText_int _ _ (by omega) (by omega)).mono ?_; rintro e w2 ⟨rfl, b2⟩; have r2 := own_below s1 b2; have t2 := touch_below y1 b2; obtain ⟨x2, q2⟩ := cell_owns r2 (j * 3 + 2) (by have := r2.1; omega); have z2 := r2.frozenAt; have s2 := (r2.stored (j * 3 + 2) (.string (str (markL (k + 3 * j + 2))))).1; have y2 := touch_set t2 (j * 3 + 2) (.string (str (markL (k + 3 * j + 2)))))
      go_roundw
      case rel => exact ⟨j + 1, by omega, by go_num, by go_num, by rw [← HE.out]; exact s2, y2⟩
      case measure => simp [intOf]; omega
    · obtain rfl : j = l.length := by omega
      go_wp2
      go_ret
      exact ⟨by go_num, by simpa using hr, ht⟩
end Go.Proofs.Ytajjefpopjdfaaa
