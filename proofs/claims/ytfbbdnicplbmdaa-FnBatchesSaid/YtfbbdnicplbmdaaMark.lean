
/- Walks: markText of the laws. -/
import Derived.Test.YtfbbdnicplbmdaaTypes
import Derived.Test.YtfbbdnicplbmdaaLaws
import Derived.WalkKit
import Derived.WalkSpells
import Derived.WalkLawsBesides
import Derived.Lib.Hide
set_option linter.unusedVariables false
set_option linter.unusedSimpArgs false
namespace Go.Proofs.Ytfbbdnicplbmdaa
open Go.RowKit Sp
attribute [local go_sem] str_size str_append
namespace Sp
/-- The digits of a number, none of 0. -/
def digs (n : Nat) : List UInt8 := if h : n = 0 then [] else digs (n / 10) ++ [UInt8.ofNat (48 + n % 10)]
termination_by n
decreasing_by omega
theorem digs_zero : digs 0 = [] := by rw [digs]; simp
theorem digs_pos {n : Nat} (h : n ≠ 0) : digs n = digs (n / 10) ++ [UInt8.ofNat (48 + n % 10)] := by rw [digs]; simp [h]
theorem digs_length (k : Nat) : ∀ n, n < 10 ^ k → (digs n).length ≤ k := by
  induction k with
  | zero => intro n h; have : n = 0 := by omega
            subst this; simp [digs_zero]
  | succ k ih =>
    intro n h
    by_cases h0 : n = 0
    · subst h0; simp [digs_zero]
    · rw [digs_pos h0, List.length_append]
      have := ih (n / 10) (by rw [Nat.pow_succ] at h; omega)
      simp; omega
/-- The mark of a number above 0. -/
def markL (n : Nat) : List UInt8 := 109 :: digs n
end Sp

set_option maxRecDepth 100000 in
set_option maxHeartbeats 400000 in
theorem markText_any (m : Nat) (w : World) (h1 : 1 ≤ (m : Int)) (h : (m : Int) ≤ 999999999) :
    Calls Try.prog 127 #[.int .i64 m] w fun e w' => e = .returned (.string (str (markL m))) ∧ Below w.heap.size w w' := by
  have hlen : (digs m).length ≤ 9 := digs_length 9 m (by omega)
  go_enter Try.func127, Try.ntmps127
  go_wp2
  go_loopw [0, 3] (fun a o wr => ∃ (q : Nat) (out : List UInt8), (q : Int) ≤ 999999999 ∧ a = .int .i64 q ∧ o = .string (str out) ∧ digs m = digs q ++ out ∧ Below w.heap.size w wr) (fun a _ _ => (intOf a).toNat)
  case atStart => exact ⟨m, [], h, rfl, rfl, by simp, Below.refl _ _⟩
  case round =>
    obtain ⟨q, out, hq, rfl, rfl, hinv, hbl⟩ := hrel
    have hol : out.length ≤ 9 := by have := congrArg List.length hinv; simp only [List.length_append] at this; omega
    by_cases hz : 0 < (q : Int)
    · have hst := digs_pos (n := q) (by omega)
      have HI := Lib.hid (show digs m = digs (q / 10) ++ (UInt8.ofNat (48 + q % 10) :: out) from by rw [hinv, hst, List.append_assoc]; rfl)
      clear hst hinv
      have kc := conv_one (P := Try.prog) Try.underlying22 Try.underlying5 Try.underlying9
      have hu : (48 + (q : Int) % 10).toNat = 48 + q % 10 := by omega
      have hcat : str (UInt8.ofNat (48 + q % 10) :: out) = str [UInt8.ofNat (48 + q % 10)] ++ str out := by rw [str_append]; rfl
      have HC := Lib.hid hcat
      clear hcat
      go_wp2
      go_roundw
      case rel => exact ⟨q / 10, UInt8.ofNat (48 + q % 10) :: out, by omega, by go_num, by rw [show UInt8.ofNat (48 + q % 10) = 48 + UInt8.ofNat (q % 10) from by rw [UInt8.ofNat_add]; rfl], HI.out, hbl.alloc (by have := hbl.size; omega) _⟩
      case measure => simp [intOf]; omega
    · obtain rfl : q = 0 := by omega
      have HI := Lib.hid (show markL m = 109 :: out from by unfold markL; rw [hinv, digs_zero]; rfl)
      clear hinv
      have HC := Lib.hid (show str (109 :: out) = str [109] ++ str out from by rw [str_append]; rfl)
      go_wp2
      go_ret
      exact ⟨by rw [HI.out, HC.out]; rfl, hbl⟩
theorem markText_int (x : Int) (w : World) (h1 : 1 ≤ x) (h : x ≤ 999999999) :
    Calls Try.prog 127 #[.int .i64 x] w fun e w' => e = .returned (.string (str (markL x.toNat))) ∧ Below w.heap.size w w' := by
  obtain ⟨m, rfl⟩ : ∃ m : Nat, x = m := ⟨x.toNat, by omega⟩
  exact markText_any m w h1 h
end Go.Proofs.Ytfbbdnicplbmdaa
