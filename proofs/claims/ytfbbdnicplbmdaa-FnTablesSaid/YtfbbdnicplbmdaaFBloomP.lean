
/- Plain: a filter reports every key that was added. No program in sight. -/
import Derived.Test.YtfbbdnicplbmdaaBloomQ
set_option linter.unusedVariables false
set_option linter.unusedSimpArgs false
namespace Go.Proofs.Ytfbbdnicplbmdaa
open Sp
namespace Sp
theorem bit_test (l : List UInt8) (p : Nat) : bitAt l p = 1 ↔ ((l[p / 8]?.getD 0).toNat).testBit (p % 8) = true := by
  unfold bitAt
  rw [Nat.testBit_eq_decide_div_mod_eq, decide_eq_true_eq]
theorem orBit_get (l : List UInt8) (p : Nat) (hp : p / 8 < l.length) : ((orBit l p)[p / 8]?.getD 0).toNat = (l[p / 8]?.getD 0).toNat ||| 2 ^ (p % 8) := by
  have h1 : (l[p / 8]?.getD 0).toNat < 2 ^ 8 := (l[p / 8]?.getD 0).toNat_lt
  have h2 : 2 ^ (p % 8) < 2 ^ 8 := Nat.pow_lt_pow_right (by omega) (Nat.mod_lt _ (by omega))
  have h3 := Nat.or_lt_two_pow h1 h2
  unfold orBit
  rw [List.getElem?_set_self hp, Option.getD_some, UInt8.toNat_ofNat']
  exact Nat.mod_eq_of_lt h3
theorem orBit_same (l : List UInt8) (p : Nat) (hp : p / 8 < l.length) : bitAt (orBit l p) p = 1 := by
  rw [bit_test, orBit_get l p hp, Nat.testBit_or, Nat.testBit_two_pow_self, Bool.or_true]
theorem orBit_keeps (l : List UInt8) (p q : Nat) (hq : bitAt l q = 1) : bitAt (orBit l p) q = 1 := by
  by_cases he : p / 8 = q / 8
  · by_cases hp : p / 8 < l.length
    · rw [bit_test] at hq ⊢
      rw [← he, orBit_get l p hp, Nat.testBit_or, he, hq, Bool.true_or]
    · have : orBit l p = l := by unfold orBit; rw [List.set_eq_of_length_le (by omega)]
      rw [this, hq]
  · rw [bit_test] at hq ⊢
    unfold orBit
    rw [List.getElem?_set_ne he]; exact hq
theorem bloom3_keeps (key : ByteArray) (n : Int) (l : List UInt8) (k q : Nat) (hq : bitAt l q = 1) : bitAt (bloom3 key n l k) q = 1 := by
  induction k with
  | zero => exact hq
  | succ k ih => exact orBit_keeps _ _ _ ih
theorem bloom3_has (key : ByteArray) {n : Nat} (hn : 1 ≤ n) {l : List UInt8} (hl : l.length = n) (k j : Nat) (hj : j < k) : bitAt (bloom3 key n l k) (bpos key n j).toNat = 1 := by
  induction k with
  | zero => omega
  | succ k ih =>
    by_cases h : j = k
    · subst h
      refine orBit_same _ _ ?_
      have := bpos_bd key (n := (n : Int)) (by omega) j
      rw [bloom3_length, hl]; omega
    · exact orBit_keeps _ _ _ (ih (by omega))
theorem bloomTo_has (keys : List ByteArray) {n : Nat} (hn : 1 ≤ n) (m i j : Nat) (him : i < m) (hm : m ≤ keys.length) (hj : j < 3) : bitAt (bloomTo keys n m) (bpos (keys[i]'(by omega)) n j).toNat = 1 := by
  induction m with
  | zero => omega
  | succ m ih =>
    rw [bloomTo_step keys n (by omega)]
    by_cases h : i = m
    · subst h
      exact bloom3_has _ hn (bloomTo_length _ _ _) 3 j hj
    · exact bloom3_keeps _ _ _ _ _ (ih (by omega) (by omega))
/-- A key that was added is reported. -/
theorem bloom_has (keys : List ByteArray) (n : Int) (i : Nat) (hi : i < keys.length) (hb : bloomL keys n ≠ []) : bloomB (str (bloomL keys n)) keys[i] = true := by
  by_cases h : inB n 1 64 = true ∧ keys.length ≤ 60
  · have hn := (inB_iff.1 h.1)
    obtain ⟨m, rfl⟩ : ∃ m : Nat, n = (m : Int) := ⟨n.toNat, by omega⟩
    rw [bloomL_yes h]
    have hs : (str (bloomTo keys m keys.length)).size = m := by rw [str_size, bloomTo_length]
    refine bloomB_true (by rw [hs]; exact h.1) fun k hk => ?_
    show (bitAt (str (bloomTo keys m keys.length)).data.toList (bpos keys[i] ((str (bloomTo keys m keys.length)).size : Nat) k).toNat == 1) = true
    rw [hs, str_data, bloomTo_has keys (n := m) (by omega) keys.length i k hi (Nat.le_refl _) hk]
    rfl
  · exact absurd (bloomL_not h) hb
theorem bloomL_len (keys : List ByteArray) (n : Int) : bloomL keys n = [] ∨ ((bloomL keys n).length : Int) = n := by
  by_cases h : inB n 1 64 = true ∧ keys.length ≤ 60
  · have hn := (inB_iff.1 h.1)
    obtain ⟨m, rfl⟩ : ∃ m : Nat, n = (m : Int) := ⟨n.toNat, by omega⟩
    right
    rw [bloomL_yes h, bloomTo_length]
  · exact .inl (bloomL_not h)
end Sp
end Go.Proofs.Ytfbbdnicplbmdaa
