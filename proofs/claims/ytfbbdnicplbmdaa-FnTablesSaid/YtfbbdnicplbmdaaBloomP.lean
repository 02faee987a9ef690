
/- Plain: the places and the bits that a filter's test reads. -/
import Derived.Test.YtfbbdnicplbmdaaCrc
import Derived.Test.YtfbbdnicplbmdaaMapP
set_option linter.unusedVariables false
set_option linter.unusedSimpArgs false
namespace Go.Proofs.Ytfbbdnicplbmdaa
open Sp
namespace Sp
/-- The k-th place of a key in a filter of n bytes. -/
def bpos (key : ByteArray) (n : Int) (k : Nat) : Int := (crcV key.data.toList + k * crcV (key.data.toList ++ [120])) % (8 * n)
theorem bpos_bd (key : ByteArray) {n : Int} (h : 1 ≤ n) (k : Nat) : 0 ≤ bpos key n k ∧ bpos key n k < 8 * n := ⟨Int.emod_nonneg _ (by omega), Int.emod_lt_of_pos _ (by omega)⟩
def bitAt (s : List UInt8) (p : Nat) : Nat := ((s[p / 8]?.getD 0).toNat / 2 ^ (p % 8)) % 2
def bloomB (b key : ByteArray) : Bool := inB b.size 1 64 && allIx 3 fun k => bitAt b.data.toList (bpos key b.size k).toNat == 1
theorem bloomB_out {b key : ByteArray} (h : inB b.size 1 64 = false) : bloomB b key = false := by simp [bloomB, h]
theorem bloomB_false {b key : ByteArray} {k : Nat} (hk : k < 3) (h : bitAt b.data.toList (bpos key b.size k).toNat = 0) : bloomB b key = false := by
  unfold bloomB; rw [allIx_false hk (by rw [h]; rfl), Bool.and_false]
theorem bloomB_true {b key : ByteArray} (hi : inB b.size 1 64 = true) (h : AllTo (fun k => bitAt b.data.toList (bpos key b.size k).toNat == 1) 3) : bloomB b key = true := by
  unfold bloomB; rw [hi, allIx_true h]; rfl
theorem bit_two (s : List UInt8) (p : Nat) : bitAt s p = 0 ∨ bitAt s p = 1 := by unfold bitAt; omega
end Sp
theorem div_pow (x r : Nat) : (x : Int) / 2 ^ r = ((x / 2 ^ r : Nat) : Int) := by
  rw [Int.natCast_ediv, Int.natCast_pow]; rfl
theorem i64_bit (x r : Nat) (hx : (x : Int) ≤ 255) : bits .and .i64 ((x : Int) / 2 ^ r) 1 = ((x / 2 ^ r % 2 : Nat) : Int) := by
  have hle : x / 2 ^ r ≤ x := Nat.div_le_self _ _
  rw [div_pow, show (1 : Int) = ((1 : Nat) : Int) from rfl, i64_and _ _ (by omega) (by omega), Nat.and_one_is_mod]
theorem ofInt_u8 (a : Nat) (ha : a < 256) : (BitVec.ofInt 8 (a : Int)).toNat = a := by
  rw [BitVec.ofInt_natCast, BitVec.toNat_ofNat]; exact Nat.mod_eq_of_lt (by omega)
theorem u8_bit (x r : Nat) (hx : (x : Int) ≤ 255) : bits .and .u8 ((x : Int) / 2 ^ r) 1 = ((x / 2 ^ r % 2 : Nat) : Int) := by
  have hle : x / 2 ^ r ≤ x := Nat.div_le_self _ _
  rw [div_pow]
  show IntKind.u8.wrap ((BitVec.ofInt 8 ((x / 2 ^ r : Nat) : Int) &&& BitVec.ofInt 8 ((1 : Nat) : Int)).toNat : Int) = _
  rw [BitVec.toNat_and, ofInt_u8 _ (by omega), ofInt_u8 1 (by omega), Nat.and_one_is_mod, IntKind.wrap_u8]
  omega
end Go.Proofs.Ytfbbdnicplbmdaa
