/- Walks: the laws' helper that marks a row of KeySlot. -/
import Derived.Test.YtcdcpdbolakfaaaMark
import Derived.Test.YtcdcpdbolakfaaaTouch
import Derived.Test.YtcdcpdbolakfaaaTypes
import Derived.Test.YtcdcpdbolakfaaaLaws
import Derived.Test.YtcdcpdbolakfaaaRep
import Derived.Test.YtcdcpdbolakfaaaSlices
import Derived.WalkKit
import Derived.WalkSpells
import Derived.WalkLawsBesides
import Derived.BigQuiet
import Derived.Lib.QuietBelow
import Derived.Lib.Hide
set_option linter.unusedVariables false
set_option linter.unusedSimpArgs false
namespace Go.Proofs.Ytcdcpdbolakfaaa
open Go.RowKit Sp Go.Sort

namespace Sp
def mkKeySlot (k : Nat) : SlotR := ⟨((k : Nat) : Int), str (markL (k + 1))⟩
def marksKeySlot (k m : Nat) : List SlotR := (List.range m).map fun i => mkKeySlot (k + 2 * i)
theorem marksKeySlot_length (k m : Nat) : (marksKeySlot k m).length = m := by simp [marksKeySlot]
theorem marksKeySlot_step (k : Nat) (l : List SlotR) (i : Nat) (h : i < l.length) : ((marksKeySlot k i ++ l.drop i).map SlotR.cells).set i (mkKeySlot (k + 2 * i)).cells = (marksKeySlot k (i + 1) ++ l.drop (i + 1)).map SlotR.cells := by
  rw [List.map_append, List.set_append_right _ _ (by simp [marksKeySlot_length])]
  rw [show i - ((marksKeySlot k i).map SlotR.cells).length = 0 from by simp [marksKeySlot_length], List.drop_eq_getElem_cons h, List.map_cons, List.set_cons_zero]
  unfold marksKeySlot
  rw [List.range_succ]
  simp
end Sp

set_option maxRecDepth 100000 in
set_option maxHeartbeats 800000 in
theorem markKeySlotS_any (l : List SlotR) (k : Nat) (w : World) (base g cap : Nat) (hown : w.ownsRow base 92 2 (.slice (some ⟨g, 0, none⟩) l.length cap) l.length (l.map SlotR.cells).flatten) (hcap : l.length ≤ cap) (hk1 : 1 ≤ (k : Int)) (hkl : (k : Int) + 2 * l.length ≤ 999999999) :
    Calls Try.prog 85 #[(.slice (some ⟨g, 0, none⟩) l.length cap), .int .i64 k] w fun e w' => e = .returned (.int .i64 ((k + 2 * l.length : Nat) : Int)) ∧ w'.ownsRow base 92 2 (.slice (some ⟨g, 0, none⟩) l.length cap) l.length ((marksKeySlot k l.length).map SlotR.cells).flatten ∧ w.grownBy w' (some g) := by
  have hdrop : ∀ i, (marksKeySlot k i ++ l.drop i).length = max i l.length := by intro i; simp [marksKeySlot_length]; omega
  go_enter Try.func85, Try.ntmps85
  go_wp2
  go_loopw [1, 5] (fun a i wr => ∃ j : Nat, j ≤ l.length ∧ i = .int .i64 j ∧ a = .int .i64 ((k : Int) + 2 * j) ∧ wr.ownsRow base 92 2 (.slice (some ⟨g, 0, none⟩) l.length cap) l.length ((marksKeySlot k j ++ l.drop j).map SlotR.cells).flatten ∧ w.grownBy wr (some g)) (fun _ i _ => l.length - (intOf i).toNat)
  case atStart => exact ⟨0, by omega, rfl, by simp, by simpa [marksKeySlot] using hown, touch_refl _ _⟩
  case round =>
    obtain ⟨j, hj, rfl, rfl, hr, ht⟩ := hrel
    by_cases hlt : j < l.length
    · have hll := hdrop j
      have hsz0 : g < wr.heap.size := (hr.lt _ rfl).2
      have hx : ∀ (xs : List Value), xs.length = l.length * 2 → j * 2 + 2 ≤ xs.length := fun xs h => by rw [h]; have : j + 1 ≤ l.length := hlt; have := Nat.mul_le_mul_right 2 this; omega
      have hst := marksKeySlot_step k l j hlt
      have HE := Lib.hid ((set_row2 (ll := (marksKeySlot k j ++ l.drop j).map SlotR.cells) (fun c hc => by obtain ⟨x, _, rfl⟩ := List.mem_map.1 hc; rfl) j (by simp only [List.length_map]; omega) (.int .i64 ((k : Int) + 2 * j)) (.string (str (markL (k + 2 * j + 1))))).trans (congrArg List.flatten hst))
      clear hst
      obtain ⟨x0, q0⟩ := cell_owns hr (j * 2) (by have := hr.1; omega); have z0 := hr.frozenAt; have s0 := (hr.stored (j * 2) (.int .i64 ((k : Int) + 2 * j))).1; have y0 := touch_set ht (j * 2) (.int .i64 ((k : Int) + 2 * j))
      go_wp2_with (go_at_call 80; refine (markText_int _ _ (by omega) (by omega)).mono ?_; rintro e w1 ⟨rfl, b1⟩; have r1 := own_below s0 b1; have t1 := touch_below y0 b1; obtain ⟨x1, q1⟩ := cell_owns r1 (j * 2 + 1) (by have := r1.1; omega); have z1 := r1.frozenAt; have s1 := (r1.stored (j * 2 + 1) (.string (str (markL (k + 2 * j + 1))))).1; have y1 := touch_set t1 (j * 2 + 1) (.string (str (markL (k + 2 * j + 1)))))
      go_roundw
      case rel => exact ⟨j + 1, by omega, by go_num, by go_num, by rw [← HE.out]; exact s1, y1⟩
      case measure => simp [intOf]; omega
    · obtain rfl : j = l.length := by omega
      go_wp2
      go_ret
      exact ⟨by go_num, by simpa using hr, ht⟩
end Go.Proofs.Ytcdcpdbolakfaaa
