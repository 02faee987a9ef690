
/- Walks: ReadFixed of the reference and of the program. -/
import Derived.Test.YtfbbdnicplbmdaaDoorTypes
import Derived.Test.YtfbbdnicplbmdaaDoorLaws
import Derived.Test.YtfbbdnicplbmdaaDoorFixedW
import Derived.WalkKit
import Derived.WalkSpells
import Derived.WalkLawsBesides
import Derived.Lib.Hide
set_option linter.unusedVariables false
set_option linter.unusedSimpArgs false
namespace Go.Proofs.YtfbbdnicplbmdaaDoor
namespace Sp
def beVal (l : List UInt8) : Nat := l.foldl (fun n c => n * 256 + c.toNat) 0
theorem beVal_snoc (l : List UInt8) (c : UInt8) : beVal (l ++ [c]) = beVal l * 256 + c.toNat := by simp [beVal, List.foldl_append]
theorem beVal_lt (l : List UInt8) : beVal l < 256 ^ l.length := by
  suffices h : ∀ (l : List UInt8) (r : List UInt8), l = r.reverse → beVal l < 256 ^ l.length from h l l.reverse (by simp)
  intro l r
  induction r generalizing l with
  | nil => rintro rfl; simp [beVal]
  | cons c r ih =>
    rintro rfl
    rw [List.reverse_cons, beVal_snoc, List.length_append, List.length_singleton, Nat.pow_succ]
    have := ih r.reverse rfl
    have := c.toNat_lt
    omega
theorem beVal_le6 {l : List UInt8} (h : l.length ≤ 6) : beVal l ≤ 281474976710655 := by
  have h1 := beVal_lt l
  have h2 : 256 ^ l.length ≤ 256 ^ 6 := Nat.pow_le_pow_right (by omega) h
  omega
/-- The result of ReadFixed. -/
def readFixedL (s : List UInt8) (w : Int) : Nat × Bool := if (1 ≤ w ∧ w ≤ 7) ∧ w ≤ s.length then (beVal (s.take w.toNat), true) else (0, false)
theorem or_byte (q c : Nat) (hq : q ≤ 281474976710655) (hc : c ≤ 255) : bits .or .i64 ((q : Int) * 256) (c : Int) = ((q * 256 + c : Nat) : Int) := by
  have h := i64_or (q * 256) c (by omega) (by omega)
  rw [show ((q : Int) * 256) = ((q * 256 : Nat) : Int) from by simp, h]
  congr 1
  rw [show q * 256 = q <<< 8 from by rw [Nat.shiftLeft_eq], Nat.shiftLeft_add_eq_or_of_lt (by omega)]
end Sp
open Go.RowKit Sp

set_option maxHeartbeats 400000 in
theorem implReadFixed_any (s : ByteArray) (d : Nat) (w : World) (h1 : 1 ≤ (d : Int)) (h7 : (d : Int) ≤ 7) (hs : d ≤ s.size) :
    Calls Tryd.prog 10 #[.string s, .int .i64 d] w fun e w' => e = .returned (.tuple #[.int .i64 (beVal (s.data.toList.take d) : Nat), .bool true]) ∧ w = w' := by
  have hb : inB (d : Int) 1 7 = true := inB_true ⟨h1, h7⟩
  have hl : decide ((s.size : Int) < (d : Int)) = false := by simp; omega
  go_enter Tryd.func10, Tryd.ntmps10
  go_wp2_with (go_at_call 19; refine (inRange_any _ _ _ _).mono ?_; rintro e w' ⟨rfl, rfl⟩)
  go_loop [6, 18] (fun n i => ∃ k : Nat, k ≤ d ∧ i = .int .i64 k ∧ n = .int .i64 (beVal (s.data.toList.take k) : Nat)) (fun _ i => d - (intOf i).toNat)
  case atStart => exact ⟨0, Nat.zero_le _, rfl, rfl⟩
  case round =>
    obtain ⟨k, hk, rfl, rfl⟩ := hrel
    by_cases hlt : k < d
    · have hks : k < s.size := by omega
      have hn := beVal_le6 (l := s.data.toList.take k) (by simp; omega)
      have hsn := beVal_snoc (s.data.toList.take k) s[k]
      rw [← take_snoc s k hks] at hsn
      have HS := Lib.hid hsn
      clear hsn
      have hby : (s[k].toNat : Int) ≤ 255 := by have := s[k].toNat_lt; omega
      have hor := or_byte (beVal (s.data.toList.take k)) s[k].toNat (by omega) (by omega)
      go_wp2
      go_round
      case rel => exact ⟨k + 1, by omega, by go_num, by rw [HS.out]; go_num⟩
      case measure => simp [intOf]; omega
    · obtain rfl : k = d := by omega
      go_wp2
      go_ret2
      exact ⟨rfl, rfl⟩

set_option maxHeartbeats 400000 in
theorem implReadFixed_not (s : ByteArray) (d : Int) (w : World) (h : ¬ ((1 ≤ d ∧ d ≤ 7) ∧ d ≤ s.size)) :
    Calls Tryd.prog 10 #[.string s, .int .i64 d] w fun e w' => e = .returned (.tuple #[.int .i64 0, .bool false]) ∧ w = w' := by
  by_cases h1 : 1 ≤ d ∧ d ≤ 7
  · have hb : inB d 1 7 = true := inB_true h1
    have hl : (s.size : Int) < d := by omega
    go_enter Tryd.func10, Tryd.ntmps10
    go_wp2_with (go_at_call 19; refine (inRange_any _ _ _ _).mono ?_; rintro e w' ⟨rfl, rfl⟩)
    go_ret2
    exact ⟨rfl, rfl⟩
  · have hb : inB d 1 7 = false := inB_false h1
    go_enter Tryd.func10, Tryd.ntmps10
    go_wp2_with (go_at_call 19; refine (inRange_any _ _ _ _).mono ?_; rintro e w' ⟨rfl, rfl⟩)
    go_ret2
    exact ⟨rfl, rfl⟩

theorem implReadFixed (s : ByteArray) (d : Int) (w : World) :
    Calls Tryd.prog 10 #[.string s, .int .i64 d] w fun e w' => e = .returned (.tuple #[.int .i64 ((readFixedL s.data.toList d).1 : Nat), .bool (readFixedL s.data.toList d).2]) ∧ w = w' := by
  by_cases h : (1 ≤ d ∧ d ≤ 7) ∧ d ≤ s.size
  · obtain ⟨k, rfl⟩ := Int.eq_ofNat_of_zero_le (show 0 ≤ d by omega)
    rw [show readFixedL s.data.toList (k : Int) = (beVal (s.data.toList.take k), true) from by unfold readFixedL; rw [if_pos (by simpa using h), Int.toNat_natCast]]
    exact implReadFixed_any s k w h.1.1 h.1.2 (by omega)
  · rw [show readFixedL s.data.toList d = (0, false) from by unfold readFixedL; rw [if_neg (by simpa using h)]]
    exact implReadFixed_not s d w h
end Go.Proofs.YtfbbdnicplbmdaaDoor
