/- Walks: the laws' helper that marks a row of KV. -/
import Derived.Test.YtajjefpopjdfaaaMark
import Derived.Test.YtajjefpopjdfaaaTouch
import Derived.Test.YtajjefpopjdfaaaTypes
import Derived.Test.YtajjefpopjdfaaaLaws
import Derived.Test.YtajjefpopjdfaaaRep
import Derived.Test.YtajjefpopjdfaaaSlices
import Derived.WalkKit
import Derived.WalkSpells
import Derived.WalkLawsBesides
import Derived.BigQuiet
import Derived.Lib.QuietBelow
import Derived.Lib.Hide
set_option linter.unusedVariables false
set_option linter.unusedSimpArgs false
namespace Go.Proofs.Ytajjefpopjdfaaa
open Go.RowKit Sp Go.Sort

namespace Sp
def mkKV (k : Nat) : KV := ⟨str (markL k), str (markL (k + 1))⟩
def marksKV (k m : Nat) : List KV := (List.range m).map fun i => mkKV (k + 2 * i)
theorem marksKV_length (k m : Nat) : (marksKV k m).length = m := by simp [marksKV]
theorem marksKV_step (k : Nat) (l : List KV) (i : Nat) (h : i < l.length) : ((marksKV k i ++ l.drop i).map KV.cells).set i (mkKV (k + 2 * i)).cells = (marksKV k (i + 1) ++ l.drop (i + 1)).map KV.cells := by
  rw [List.map_append, List.set_append_right _ _ (by simp [marksKV_length])]
  rw [show i - ((marksKV k i).map KV.cells).length = 0 from by simp [marksKV_length], List.drop_eq_getElem_cons h, List.map_cons, List.set_cons_zero]
  unfold marksKV
  rw [List.range_succ]
  simp
end Sp

set_option maxRecDepth 100000 in
set_option maxHeartbeats 800000 in
theorem markKVS_any (l : List KV) (k : Nat) (w : World) (base g cap : Nat) (hown : w.ownsRow base 95 2 (.slice (some ⟨g, 0, none⟩) l.length cap) l.length (l.map KV.cells).flatten) (hcap : l.length ≤ cap) (hk1 : 1 ≤ (k : Int)) (hkl : (k : Int) + 2 * l.length ≤ 999999999) :
    Calls Try.prog 33 #[(.slice (some ⟨g, 0, none⟩) l.length cap), .int .i64 k] w fun e w' => e = .returned (.int .i64 ((k + 2 * l.length : Nat) : Int)) ∧ w'.ownsRow base 95 2 (.slice (some ⟨g, 0, none⟩) l.length cap) l.length ((marksKV k l.length).map KV.cells).flatten ∧ w.grownBy w' (some g) := by
  have hdrop : ∀ i, (marksKV k i ++ l.drop i).length = max i l.length := by intro i; simp [marksKV_length]; omega
  go_enter Try.func33, Try.ntmps33
  go_wp2
  go_loopw [1, 5] (fun a i wr => ∃ j : Nat, j ≤ l.length ∧ i = .int .i64 j ∧ a = .int .i64 ((k : Int) + 2 * j) ∧ wr.ownsRow base 95 2 (.slice (some ⟨g, 0, none⟩) l.length cap) l.length ((marksKV k j ++ l.drop j).map KV.cells).flatten ∧ w.grownBy wr (some g)) (fun _ i _ => l.length - (intOf i).toNat)
  case atStart => exact ⟨0, by omega, rfl, by simp, by simpa [marksKV] using hown, touch_refl _ _⟩
  case round =>
    obtain ⟨j, hj, rfl, rfl, hr, ht⟩ := hrel
    by_cases hlt : j < l.length
    · have hll := hdrop j
      have hsz0 : g < wr.heap.size := (hr.lt _ rfl).2
      have hx : ∀ (xs : List Value), xs.length = l.length * 2 → j * 2 + 2 ≤ xs.length := fun xs h => by rw [h]; have : j + 1 ≤ l.length := hlt; have := Nat.mul_le_mul_right 2 this; omega
      have hst := marksKV_step k l j hlt
      have HE := Lib.hid ((set_row2 (ll := (marksKV k j ++ l.drop j).map KV.cells) (fun c hc => by obtain ⟨x, _, rfl⟩ := List.mem_map.1 hc; rfl) j (by simp only [List.length_map]; omega) (.string (str (markL (k + 2 * j)))) (.string (str (markL (k + 2 * j + 1))))).trans (congrArg List.flatten hst))
      clear hst
      go_wp2_with (go_at_call 60; refine (markText_int _ _ (by omega) (by omega)).mono ?_; rintro e w0 ⟨rfl, b0⟩; have r0 := own_below hr b0; have t0 := touch_below ht b0; obtain ⟨x0, q0⟩ := cell_owns r0 (j * 2) (by have := r0.1; omega); have z0 := r0.frozenAt; have s0 := (r0.stored (j * 2) (.string (str (markL (k + 2 * j))))).1; have y0 := touch_set t0 (j * 2) (.string (str (markL (k + 2 * j)))))
      go_wp2_with (go_at_call 60; refine (markText_int _ _ (by omega) (by omega)).mono ?_; rintro e w1 ⟨rfl, b1⟩; have r1 := own_below s0 b1; have t1 := touch_below y0 b1; obtain ⟨x1, q1⟩ := cell_owns r1 (j * 2 + 1) (by have := r1.1; omega); have z1 := r1.frozenAt; have s1 := (r1.stored (j * 2 + 1) (.string (str (markL (k + 2 * j + 1))))).1; have y1 := touch_set t1 (j * 2 + 1) (.string (str (markL (k + 2 * j + 1)))))
      go_roundw
      case rel => exact ⟨j + 1, by omega, by go_num, by go_num, by rw [← HE.out]; exact s1, y1⟩
      case measure => simp [intOf]; omega
    · obtain rfl : j = l.length := by omega
      go_wp2
      go_ret
      exact ⟨by go_num, by simpa using hr, ht⟩
end Go.Proofs.Ytajjefpopjdfaaa
