
/- Walks: ReadVar of the program. -/
import Derived.Test.YtfbbdnicplbmdaaDoorVarW
import Derived.WalkKit
import Derived.WalkSpells
import Derived.WalkLawsBesides
import Derived.Lib.Hide
set_option linter.unusedVariables false
set_option linter.unusedSimpArgs false
namespace Go.Proofs.YtfbbdnicplbmdaaDoor
open Go.RowKit Sp

def RVInv (l : List UInt8) (k n : Nat) : Prop := readVarL l = rvGo (7 - k) k n (l.drop k)
theorem RVInv.end7 {l : List UInt8} {k n : Nat} (h : RVInv l k n) (hk : k = 7) : readVarL l = (0, 0) := by
  unfold RVInv at h; rw [h, hk]; rfl
theorem RVInv.endl {l : List UInt8} {k n : Nat} (h : RVInv l k n) (hk : l.length ≤ k) : readVarL l = (0, 0) := by
  unfold RVInv at h; rw [h, List.drop_eq_nil_of_le hk]
  cases 7 - k <;> rfl
theorem RVInv.open' {s : ByteArray} {k n : Nat} (h : RVInv s.data.toList k n) (hk : k < s.size) (h7 : k < 7) :
    readVarL s.data.toList = rvGo (7 - (k + 1) + 1) k n (s[k] :: s.data.toList.drop (k + 1)) := by
  unfold RVInv at h
  rw [h, show 7 - k = 7 - (k + 1) + 1 from by omega, List.drop_eq_getElem_cons (by simpa using hk)]
  rfl
theorem RVInv.more {s : ByteArray} {k n : Nat} (h : RVInv s.data.toList k n) (hk : k < s.size) (h7 : k < 7) (hc : 128 ≤ s[k].toNat) : RVInv s.data.toList (k + 1) (n + s[k].toNat % 128 * 128 ^ k) := by
  have h1 := h.open' hk h7
  rw [rvGo, if_pos hc] at h1
  exact h1
theorem RVInv.zero {s : ByteArray} {k n : Nat} (h : RVInv s.data.toList k n) (hk : k < s.size) (h7 : k < 7) (hc : s[k].toNat = 0) (h0 : 0 < k) : readVarL s.data.toList = (0, 0) := by
  rw [h.open' hk h7, rvGo, if_neg (by omega), if_pos ⟨hc, h0⟩]
theorem RVInv.hit {s : ByteArray} {k n : Nat} (h : RVInv s.data.toList k n) (hk : k < s.size) (h7 : k < 7) (hc : s[k].toNat < 128) (h0 : ¬ (s[k].toNat = 0 ∧ 0 < k)) : readVarL s.data.toList = (n + s[k].toNat % 128 * 128 ^ k, k + 1) := by
  rw [h.open' hk h7, rvGo, if_neg (by omega), if_neg h0]
theorem u8_and127 (c : Nat) (h : c < 256) : bits .and .u8 (c : Int) 127 = (c : Int) % 128 := by
  have key : ∀ x : Fin 256, bits .and .u8 ((x.val : Nat) : Int) 127 = ((x.val : Nat) : Int) % 128 := by decide +kernel
  exact key ⟨c, h⟩
theorem pow_128 (k : Nat) : (2 : Int) ^ (7 * k) = ((128 ^ k : Nat) : Int) := by
  rw [show (128 : Nat) ^ k = 2 ^ (7 * k) from by rw [show (128 : Nat) = 2 ^ 7 from rfl, ← Nat.pow_mul]]; simp
theorem or_shift (a c k : Nat) (ha : a < 128 ^ k) (hk : k < 7) : bits .or .i64 (a : Int) ((c : Int) % 128 * 2 ^ (7 * k)) = ((a + c % 128 * 128 ^ k : Nat) : Int) := by
  have hp : 128 ^ k ≤ 4398046511104 := by
    have : 128 ^ k ≤ 128 ^ 6 := Nat.pow_le_pow_right (by omega) (by omega)
    omega
  have hc : c % 128 * 128 ^ k ≤ 127 * 128 ^ k := Nat.mul_le_mul_right _ (by omega)
  have h := i64_or a (c % 128 * 128 ^ k) (by omega) (by omega)
  rw [pow_128, show ((c : Int) % 128 * ((128 ^ k : Nat) : Int)) = ((c % 128 * 128 ^ k : Nat) : Int) from by simp, h]
  congr 1
  rw [show (128 : Nat) ^ k = 2 ^ (7 * k) from by rw [show (128 : Nat) = 2 ^ 7 from rfl, ← Nat.pow_mul]] at *
  rw [show c % 128 * 2 ^ (7 * k) = (c % 128) <<< (7 * k) from by rw [Nat.shiftLeft_eq], Nat.or_comm, Nat.add_comm, Nat.shiftLeft_add_eq_or_of_lt ha]
theorem shift_bd (c k : Nat) (hk : k < 7) : (c : Int) % 128 * 2 ^ (7 * k) ≤ 562949953421311 ∧ 0 ≤ (c : Int) % 128 * 2 ^ (7 * k) := by
  have hp : 128 ^ k ≤ 4398046511104 := by
    have : 128 ^ k ≤ 128 ^ 6 := Nat.pow_le_pow_right (by omega) (by omega)
    omega
  have hc : c % 128 * 128 ^ k ≤ 127 * 128 ^ k := Nat.mul_le_mul_right _ (by omega)
  rw [pow_128, show ((c : Int) % 128 * ((128 ^ k : Nat) : Int)) = ((c % 128 * 128 ^ k : Nat) : Int) from by simp]
  omega
theorem pow7 {k : Nat} (h : k < 7) : 128 ^ k ≤ 4398046511104 := by
  have : 128 ^ k ≤ 128 ^ 6 := Nat.pow_le_pow_right (by omega) (by omega)
  omega

set_option maxRecDepth 100000 in
set_option maxHeartbeats 400000 in
theorem implReadVar (s : ByteArray) (w : World) (hs : (s.size : Int) ≤ 9223372036854775807) :
    Calls Tryd.prog 8 #[.string s] w fun e w' => e = .returned (.tuple #[.int .i64 ((readVarL s.data.toList).1 : Nat), .int .i64 ((readVarL s.data.toList).2 : Nat)]) ∧ w = w' := by
  go_enter Tryd.func8, Tryd.ntmps8
  go_wp2
  go_loop [4, 5] (fun n i => ∃ k a : Nat, (k : Int) ≤ 7 ∧ i = .int .i64 k ∧ n = .int .i64 a ∧ a < 128 ^ k ∧ RVInv s.data.toList k a) (fun _ i => 7 - (intOf i).toNat)
  case atStart => exact ⟨0, 0, by omega, rfl, rfl, by simp, by simp [RVInv, readVarL]⟩
  case round =>
    obtain ⟨k, a, hk, rfl, rfl, ha, hinv⟩ := hrel
    by_cases h7 : (k : Int) < 7
    · by_cases hks : (k : Int) < s.size
      · have hks' : k < s.size := by omega
        have hp := pow7 (show k < 7 by omega)
        have hby : (s[k].toNat : Int) ≤ 255 := by have := s[k].toNat_lt; omega
        have hlt := s[k].toNat_lt
        have hand := u8_and127 s[k].toNat (by omega)
        have hor := or_shift a s[k].toNat k ha (by omega)
        obtain ⟨hb1, hb2⟩ := shift_bd s[k].toNat k (by omega)
        clear hlt
        by_cases hc : 128 ≤ (s[k].toNat : Int)
        · have hm := hinv.more hks' (by omega) (by omega)
          go_wp2
          go_round
          case rel => exact ⟨k + 1, a + s[k].toNat % 128 * 128 ^ k, by omega, by go_num, by go_num, by rw [Nat.pow_succ]; have : s[k].toNat % 128 * 128 ^ k ≤ 127 * 128 ^ k := Nat.mul_le_mul_right _ (by omega); omega, hm⟩
          case measure => simp [intOf]; omega
        · by_cases hz : s[k].toNat = 0
          · by_cases h0 : 0 < k
            · have hend := hinv.zero hks' (by omega) hz h0
              have HE := Lib.hid hend
              clear hend hand hor hb1 hb2
              go_wp2
              go_ret2
              exact ⟨by rw [HE.out]; rfl, rfl⟩
            · have hend := hinv.hit hks' (by omega) (by omega) (by omega)
              obtain rfl : k = 0 := by omega
              obtain rfl : a = 0 := by simpa using ha
              rw [hz] at hend
              have HE := Lib.hid hend
              clear hend hand hor hb1 hb2
              have h00 : bits .and .u8 0 127 = 0 := by decide +kernel
              have h01 : bits .or .i64 0 0 = 0 := by decide +kernel
              go_wp2
              go_ret2
              exact ⟨by rw [HE.out]; rfl, rfl⟩
          · have hend := hinv.hit hks' (by omega) (by omega) (by omega)
            have HE := Lib.hid hend
            clear hend
            go_wp2
            go_ret2
            exact ⟨by rw [HE.out]; rfl, rfl⟩
      · go_wp2
        go_ret2
        exact ⟨by rw [hinv.endl (by simp; omega)]; rfl, rfl⟩
    · go_wp2
      go_ret2
      exact ⟨by rw [hinv.end7 (by omega)]; rfl, rfl⟩
end Go.Proofs.YtfbbdnicplbmdaaDoor
