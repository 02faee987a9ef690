/- Walks: the laws' helper that marks a row of strings. -/
import Derived.Test.YtcdcpdbolakfaaaMark
import Derived.Test.YtcdcpdbolakfaaaTouch
import Derived.Test.YtcdcpdbolakfaaaKStrA
import Derived.WalkKit
import Derived.WalkSpells
import Derived.WalkLawsBesides
import Derived.BigQuiet
import Derived.Lib.QuietBelow
import Derived.Lib.Hide
set_option linter.unusedVariables false
set_option linter.unusedSimpArgs false
namespace Go.Proofs.Ytcdcpdbolakfaaa
open Go.RowKit Sp Go.Sort

namespace Sp
def mkStr (k : Nat) : ByteArray := str (markL k)
def marksStr (k m : Nat) : List ByteArray := (List.range m).map fun i => mkStr (k + 1 * i)
theorem marksStr_length (k m : Nat) : (marksStr k m).length = m := by simp [marksStr]
theorem marksStr_step (k : Nat) (l : List ByteArray) (i : Nat) (h : i < l.length) : ((marksStr k i ++ l.drop i).map strCells).set i (strCells (mkStr (k + 1 * i))) = (marksStr k (i + 1) ++ l.drop (i + 1)).map strCells := by
  rw [List.map_append, List.set_append_right _ _ (by simp [marksStr_length])]
  rw [show i - ((marksStr k i).map strCells).length = 0 from by simp [marksStr_length], List.drop_eq_getElem_cons h, List.map_cons, List.set_cons_zero]
  unfold marksStr
  rw [List.range_succ]
  simp
theorem set_row1 {ll : List (List Value)} (hs : ∀ c ∈ ll, c.length = 1) (k : Nat) (hk : k < ll.length) (u0 : Value) : ll.flatten.set k u0 = (ll.set k [u0]).flatten := by
  have hl := hs ll[k] (List.getElem_mem _)
  have h0 := flat_set ll hs k hk 0 (by omega) u0
  rw [Nat.add_zero, Nat.mul_one] at h0
  rw [h0]
  have e1 : (ll[k].set 0 u0) = [u0] := by
    match ll[k], hl with
    | [_], _ => rfl
  rw [e1]
end Sp

set_option maxRecDepth 100000 in
set_option maxHeartbeats 800000 in
theorem markStrS_any (l : List ByteArray) (k : Nat) (w : World) (base g cap : Nat) (hown : w.ownsRow base 9 1 (.slice (some ⟨g, 0, none⟩) l.length cap) l.length (l.map strCells).flatten) (hcap : l.length ≤ cap) (hk1 : 1 ≤ (k : Int)) (hkl : (k : Int) + 1 * l.length ≤ 999999999) :
    Calls Try.prog 89 #[(.slice (some ⟨g, 0, none⟩) l.length cap), .int .i64 k] w fun e w' => e = .returned (.int .i64 ((k + 1 * l.length : Nat) : Int)) ∧ w'.ownsRow base 9 1 (.slice (some ⟨g, 0, none⟩) l.length cap) l.length ((marksStr k l.length).map strCells).flatten ∧ w.grownBy w' (some g) := by
  have hdrop : ∀ i, (marksStr k i ++ l.drop i).length = max i l.length := by intro i; simp [marksStr_length]; omega
  go_enter Try.func89, Try.ntmps89
  go_wp2
  go_loopw [1, 5] (fun a i wr => ∃ j : Nat, j ≤ l.length ∧ i = .int .i64 j ∧ a = .int .i64 ((k : Int) + j) ∧ wr.ownsRow base 9 1 (.slice (some ⟨g, 0, none⟩) l.length cap) l.length ((marksStr k j ++ l.drop j).map strCells).flatten ∧ w.grownBy wr (some g)) (fun _ i _ => l.length - (intOf i).toNat)
  case atStart => exact ⟨0, by omega, rfl, by simp, by simpa [marksStr] using hown, touch_refl _ _⟩
  case round =>
    obtain ⟨j, hj, rfl, rfl, hr, ht⟩ := hrel
    by_cases hlt : j < l.length
    · have hll := hdrop j
      have hsz0 : g < wr.heap.size := (hr.lt _ rfl).2
      have hst := marksStr_step k l j hlt
      have hln : (((marksStr k j ++ l.drop j).map strCells).flatten).length = l.length * 1 := hr.1
      have HE := Lib.hid ((set_row1 (ll := (marksStr k j ++ l.drop j).map strCells) (fun c hc => by obtain ⟨x, _, rfl⟩ := List.mem_map.1 hc; rfl) j (by simp only [List.length_map]; omega) (.string (str (markL (k + j))))).trans ((by rw [Nat.one_mul] at hst; exact congrArg List.flatten hst) : _ = ((marksStr k (j + 1) ++ l.drop (j + 1)).map strCells).flatten))
      clear hst
      go_wp2_with (go_at_call 80; refine (markText_int _ _ (by omega) (by omega)).mono ?_; rintro e w0 ⟨rfl, b0⟩; have r0 := own_below hr b0; have t0 := touch_below ht b0; obtain ⟨x0, q0⟩ := cell_owns r0 j (by have := r0.1; omega); have z0 := r0.frozenAt; have s0 := (r0.stored j (.string (str (markL (k + j))))).1; have y0 := touch_set t0 j (.string (str (markL (k + j)))))
      go_roundw
      case rel => exact ⟨j + 1, by omega, by go_num, by go_num, by rw [← HE.out]; exact s0, y0⟩
      case measure => simp [intOf]; omega
    · obtain rfl : j = l.length := by omega
      go_wp2
      go_ret
      exact ⟨ret_int (by omega), by simpa using hr, ht⟩
end Go.Proofs.Ytcdcpdbolakfaaa
