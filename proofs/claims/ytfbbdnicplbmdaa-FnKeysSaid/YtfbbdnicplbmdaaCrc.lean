
/- Walks: Crc of the reference and of the program. -/
import Derived.Test.YtfbbdnicplbmdaaTypes
import Derived.Test.YtfbbdnicplbmdaaLaws
import Derived.WalkKit
import Derived.WalkSpells
import Derived.WalkLawsBesides
import Derived.Lib.Hide
set_option linter.unusedVariables false
set_option linter.unusedSimpArgs false
namespace Go.Proofs.Ytfbbdnicplbmdaa
namespace Sp
def crcPoly : Nat := 2197175160
/-- One bit of the checksum. -/
def crcStep (c : Nat) : Nat := if c % 2 = 1 then c / 2 ^^^ crcPoly else c / 2
def crcSteps : Nat → Nat → Nat
  | 0, c => c
  | k + 1, c => crcStep (crcSteps k c)
def crcByte (c : Nat) (x : UInt8) : Nat := crcSteps 8 (c ^^^ x.toNat)
def crcL (l : List UInt8) : Nat := l.foldl crcByte 4294967295
theorem crcL_snoc (l : List UInt8) (x : UInt8) : l.foldl crcByte 4294967295 = crcL l ∧ crcL (l ++ [x]) = crcByte (crcL l) x := by simp [crcL, List.foldl_append]
theorem crcStep_lt {c : Nat} (h : c < 4294967296) : crcStep c < 4294967296 := by
  unfold crcStep; split
  · exact Nat.xor_lt_two_pow (n := 32) (by omega) (by decide)
  · omega
theorem crcSteps_lt {c : Nat} (h : c < 4294967296) (k : Nat) : crcSteps k c < 4294967296 := by
  induction k with
  | zero => exact h
  | succ k ih => exact crcStep_lt ih
theorem crcX_lt {c : Nat} (x : UInt8) (h : c < 4294967296) : c ^^^ x.toNat < 4294967296 := Nat.xor_lt_two_pow (n := 32) (by omega) (by have := x.toNat_lt; omega)
theorem crcL_lt (l : List UInt8) : crcL l < 4294967296 := by
  suffices h : ∀ (r : List UInt8) (l : List UInt8), l = r.reverse → crcL l < 4294967296 from h l.reverse l (by simp)
  intro r
  induction r with
  | nil => rintro l rfl; decide
  | cons x r ih =>
    rintro l rfl
    rw [List.reverse_cons, (crcL_snoc _ x).2]
    exact crcSteps_lt (crcX_lt x (ih _ rfl)) 8
/-- The result of Crc. -/
def crcV (l : List UInt8) : Int := 4294967295 - (crcL l : Int)
theorem crcV_bd (l : List UInt8) : 0 ≤ crcV l ∧ crcV l ≤ 4294967295 := by
  have := crcL_lt l
  unfold crcV; omega
end Sp
open Go.RowKit Sp

theorem crcStep_odd {c : Nat} (h : c % 2 = 1) : crcStep c = c / 2 ^^^ 2197175160 := by unfold crcStep; rw [if_pos h]; rfl
theorem crcStep_even {c : Nat} (h : ¬ c % 2 = 1) : crcStep c = c / 2 := by unfold crcStep; rw [if_neg h]

theorem xorP (x : Nat) (h : x < 9223372036854775808) : bits .xor .i64 ((x : Int) / 2) 2197175160 = ((x / 2 ^^^ 2197175160 : Nat) : Int) := i64_xor (x / 2) 2197175160 (by omega) (by omega)
theorem ofInt_u32 (a : Nat) (ha : a < 4294967296) : (BitVec.ofInt 32 (a : Int)).toNat = a := by
  rw [BitVec.ofInt_natCast, BitVec.toNat_ofNat]; exact Nat.mod_eq_of_lt (by omega)
theorem u32_xor (a b : Nat) (ha : a < 4294967296) (hb : b < 4294967296) : bits .xor .u32 (a : Int) (b : Int) = ((a ^^^ b : Nat) : Int) := by
  have hx : a ^^^ b < 2 ^ 32 := Nat.xor_lt_two_pow (by omega) (by omega)
  show IntKind.u32.wrap ((BitVec.ofInt 32 (a : Int) ^^^ BitVec.ofInt 32 (b : Int)).toNat : Int) = _
  rw [BitVec.toNat_xor, ofInt_u32 a ha, ofInt_u32 b hb, IntKind.wrap_u32]
  omega
theorem u32_and1 (a : Nat) (ha : a < 4294967296) : bits .and .u32 (a : Int) 1 = (a : Int) % 2 := by
  show IntKind.u32.wrap ((BitVec.ofInt 32 (a : Int) &&& BitVec.ofInt 32 ((1 : Nat) : Int)).toNat : Int) = _
  rw [BitVec.toNat_and, ofInt_u32 a ha, ofInt_u32 1 (by omega), IntKind.wrap_u32, Nat.and_one_is_mod]
  omega
theorem xorP32 (x : Nat) (h : x < 4294967296) : bits .xor .u32 ((x : Int) / 2) 2197175160 = ((x / 2 ^^^ 2197175160 : Nat) : Int) := u32_xor (x / 2) 2197175160 (by omega) (by omega)

set_option maxRecDepth 100000 in
set_option maxHeartbeats 400000 in
theorem specCrc (s : ByteArray) (w : World) (hs : (s.size : Int) ≤ 9223372036854775807) :
    Calls Try.prog 158 #[.string s] w fun e w' => e = .returned (.int .i64 (crcV s.data.toList)) ∧ w = w' := by
  go_enter Try.func158, Try.ntmps158
  go_wp2
  go_loop [3, 4] (fun c i => ∃ k : Nat, (k : Int) ≤ s.size ∧ i = .int .i64 k ∧ c = .int .i64 (crcL (s.data.toList.take k) : Nat)) (fun _ i => s.size - (intOf i).toNat)
  case atStart => exact ⟨0, by omega, rfl, rfl⟩
  case round =>
    obtain ⟨k, hk, rfl, rfl⟩ := hrel
    have hlt := crcL_lt (s.data.toList.take k)
    by_cases hks : (k : Int) < s.size
    · have hks' : k < s.size := by omega
      have hsn := (crcL_snoc (s.data.toList.take k) s[k]).2
      rw [← take_snoc s k hks'] at hsn
      have HS := Lib.hid hsn
      have hx := crcX_lt s[k] hlt
      have hby : (s[k].toNat : Int) ≤ 255 := by have := s[k].toNat_lt; omega
      have hxo := i64_xor (crcL (s.data.toList.take k)) s[k].toNat (by omega) (by omega)
      clear hsn
      generalize crcL (s.data.toList.take k) = c at *
      go_wp2
      go_loop [3, 5] (fun c' j => ∃ q : Nat, q ≤ 8 ∧ j = .int .i64 q ∧ c' = .int .i64 (crcSteps q (c ^^^ s[k].toNat) : Nat)) (fun _ j => 8 - (intOf j).toNat)
      case atStart => exact ⟨0, by omega, rfl, rfl⟩
      case round =>
        obtain ⟨q, hq, rfl, rfl⟩ := hrel
        have hl := crcSteps_lt hx q
        have hst : crcSteps (q + 1) (c ^^^ s[k].toNat) = crcStep (crcSteps q (c ^^^ s[k].toNat)) := rfl
        have hfin : q = 8 → crcL (s.data.toList.take (k + 1)) = crcSteps q (c ^^^ s[k].toNat) := by rintro rfl; rw [HS.out]; rfl
        have HF := Lib.hid hfin
        have HT := Lib.hid hst
        clear hfin hst hxo
        generalize crcSteps q (c ^^^ s[k].toNat) = x at *
        by_cases h8 : q < 8
        · have hx2 := xorP x (by omega)
          by_cases ho : x % 2 = 1
          · have HO := Lib.hid (crcStep_odd ho)
            have ho' : ((x : Int) % 2 == 1) = true := by simp; omega
            clear ho
            go_wp2
            go_round
            case rel => exact ⟨q + 1, by omega, by go_num, by rw [HT.out, HO.out]⟩
            case measure => simp [intOf]; omega
          · have HO := Lib.hid (crcStep_even ho)
            have ho' : ((x : Int) % 2 == 1) = false := by simp; omega
            clear ho
            go_wp2
            go_round
            case rel => exact ⟨q + 1, by omega, by go_num, by rw [HT.out, HO.out]; go_num⟩
            case measure => simp [intOf]; omega
        · obtain rfl : q = 8 := by omega
          go_wp2
          go_round
          case rel => exact ⟨k + 1, by omega, by go_num, by rw [HF.out rfl]⟩
          case measure => simp [intOf]; omega
    · obtain rfl : k = s.size := by omega
      go_wp2
      go_ret
      exact ⟨by rw [crcV, List.take_of_length_le (by simp)]; rfl, rfl⟩

set_option maxRecDepth 100000 in
set_option maxHeartbeats 400000 in
theorem implCrc (s : ByteArray) (w : World) (hs : (s.size : Int) ≤ 9223372036854775807) :
    Calls Try.prog 159 #[.string s] w fun e w' => e = .returned (.int .i64 (crcV s.data.toList)) ∧ w = w' := by
  go_enter Try.func159, Try.ntmps159
  go_wp2
  go_loop [3, 4] (fun c i => ∃ k : Nat, (k : Int) ≤ s.size ∧ i = .int .i64 k ∧ c = .int .u32 (crcL (s.data.toList.take k) : Nat)) (fun _ i => s.size - (intOf i).toNat)
  case atStart => exact ⟨0, by omega, rfl, rfl⟩
  case round =>
    obtain ⟨k, hk, rfl, rfl⟩ := hrel
    have hlt := crcL_lt (s.data.toList.take k)
    by_cases hks : (k : Int) < s.size
    · have hks' : k < s.size := by omega
      have hsn := (crcL_snoc (s.data.toList.take k) s[k]).2
      rw [← take_snoc s k hks'] at hsn
      have HS := Lib.hid hsn
      have hx := crcX_lt s[k] hlt
      have hby : (s[k].toNat : Int) ≤ 255 := by have := s[k].toNat_lt; omega
      have hxo := u32_xor (crcL (s.data.toList.take k)) s[k].toNat (by omega) (by omega)
      clear hsn
      generalize crcL (s.data.toList.take k) = c at *
      go_wp2
      go_loop [3, 18] (fun c' j => ∃ q : Nat, q ≤ 8 ∧ j = .int .i64 q ∧ c' = .int .u32 (crcSteps q (c ^^^ s[k].toNat) : Nat)) (fun _ j => 8 - (intOf j).toNat)
      case atStart => exact ⟨0, by omega, rfl, rfl⟩
      case round =>
        obtain ⟨q, hq, rfl, rfl⟩ := hrel
        have hl := crcSteps_lt hx q
        have hst : crcSteps (q + 1) (c ^^^ s[k].toNat) = crcStep (crcSteps q (c ^^^ s[k].toNat)) := rfl
        have hfin : q = 8 → crcL (s.data.toList.take (k + 1)) = crcSteps q (c ^^^ s[k].toNat) := by rintro rfl; rw [HS.out]; rfl
        have HF := Lib.hid hfin
        have HT := Lib.hid hst
        clear hfin hst hxo
        generalize crcSteps q (c ^^^ s[k].toNat) = x at *
        have han := u32_and1 x (by omega)
        by_cases h8 : q < 8
        · have hx2 := xorP32 x (by omega)
          by_cases ho : x % 2 = 1
          · have HO := Lib.hid (crcStep_odd ho)
            have ho' : ((x : Int) % 2 == 1) = true := by simp; omega
            clear ho
            go_wp2
            go_round
            case rel => exact ⟨q + 1, by omega, by go_num, by rw [HT.out, HO.out]⟩
            case measure => simp [intOf]; omega
          · have HO := Lib.hid (crcStep_even ho)
            have ho' : ((x : Int) % 2 == 1) = false := by simp; omega
            clear ho
            go_wp2
            go_round
            case rel => exact ⟨q + 1, by omega, by go_num, by rw [HT.out, HO.out]; go_num⟩
            case measure => simp [intOf]; omega
        · obtain rfl : q = 8 := by omega
          go_wp2
          go_round
          case rel => exact ⟨k + 1, by omega, by go_num, by rw [HF.out rfl]⟩
          case measure => simp [intOf]; omega
    · obtain rfl : k = s.size := by omega
      go_wp2
      go_ret
      exact ⟨by rw [crcV, List.take_of_length_le (by simp)]; rfl, rfl⟩
end Go.Proofs.Ytfbbdnicplbmdaa
