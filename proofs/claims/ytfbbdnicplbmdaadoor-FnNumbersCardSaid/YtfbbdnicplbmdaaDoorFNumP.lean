
/- Plain: what the law of the numbers asks. -/
import Derived.Test.YtfbbdnicplbmdaaDoorVarP
import Derived.Test.YtfbbdnicplbmdaaDoorReadFixed
import Derived.Test.YtfbbdnicplbmdaaDoorDecP
import Derived.Test.YtfbbdnicplbmdaaDoorUnhex
set_option linter.unusedVariables false
set_option linter.unusedSimpArgs false
namespace Go.Proofs.YtfbbdnicplbmdaaDoor
open Sp
namespace Sp
theorem val_varB (n : Nat) : val (varB n) = n := by
  induction n using Nat.strongRecOn with
  | ind n ih =>
    by_cases h : n < 128
    · rw [varB_small h]
      simp only [val, UInt8.toNat_ofNat']
      omega
    · rw [varB_big h, val, ih (n / 128) (by omega)]
      simp only [UInt8.toNat_ofNat']
      omega
theorem str_app_data (l : List UInt8) (t : ByteArray) : (str l ++ t).data.toList = l ++ t.data.toList := by
  rw [← str_of t, str_append, str_data, str_of]
/-- A varint is read back, whatever follows. -/
theorem var_back {m : Nat} (h : (m : Int) ≤ 562949953421311) (t : ByteArray) : readVarL (str (varB m) ++ t).data.toList = (m, (varB m).length) := by
  have h7 := varB_length_7 (n := m) (by omega)
  have hp := varB_pos m
  rw [str_app_data]
  have ht : (varB m ++ t.data.toList).take (varB m).length = varB m := by simp
  have := readVarL_can (k := (varB m).length) (s := varB m ++ t.data.toList) hp h7 (by simp) (by rw [ht, can_iff, val_varB])
  rw [this, ht, val_varB]
theorem readVar_text (s : List UInt8) (h : (readVarL s).2 ≠ 0) : (readVarL s).2 ≤ s.length ∧ varL ((readVarL s).1 : Int) = s.take (readVarL s).2 ∧ ((readVarL s).1 : Int) ≤ 562949953421311 := by
  obtain ⟨k, h1, h7, hs, hc, _, he⟩ := rvGo_found 7 0 0 s h
  have e : readVarL s = (val (s.take k), k) := by
    have : readVarL s = rvGo 7 0 0 s := rfl
    rw [this, he]; simp
  rw [e]
  have hv := val_lt7 (l := s.take k) (by rw [List.length_take]; omega)
  refine ⟨hs, ?_, by show ((val (s.take k) : Nat) : Int) ≤ _; omega⟩
  show varL ((val (s.take k) : Nat) : Int) = s.take k
  rw [varL_nat hv]
  exact (can_iff _).1 hc
theorem beVal_beB : ∀ (k n : Nat), n < 256 ^ k → beVal (beB k n) = n
  | 0, n, h => by
    have : n = 0 := by simpa using h
    subst this; rfl
  | k + 1, n, h => by
    rw [beB, beVal_snoc, beVal_beB k (n / 256) (by rw [Nat.pow_succ] at h; exact Nat.div_lt_of_lt_mul (by rw [Nat.mul_comm]; exact h))]
    simp only [UInt8.toNat_ofNat']
    omega
theorem fixed_back {m : Nat} (h : m < 72057594037927936) (t : ByteArray) : fixedL (m : Int) 7 = beB 7 m ∧ readFixedL (str (beB 7 m) ++ t).data.toList 7 = (m, true) := by
  have hl := beB_length 7 m
  refine ⟨?_, ?_⟩
  · unfold fixedL
    rw [if_pos (by decide)]
    exact fixedN_zero (by show m / 256 ^ 7 = 0; omega)
  · rw [str_app_data]
    unfold readFixedL
    rw [if_pos ⟨by decide, by rw [List.length_append, hl]; omega⟩]
    have ht : (beB 7 m ++ t.data.toList).take (7 : Int).toNat = beB 7 m := by
      show (beB 7 m ++ t.data.toList).take 7 = _
      rw [List.take_append_of_le_length (by rw [hl]; exact Nat.le_refl _), List.take_of_length_le (by rw [hl]; exact Nat.le_refl _)]
    rw [ht, beVal_beB 7 m (by show m < 256 ^ 7; omega)]
theorem fixed_not {n : Int} (h : n < 0 ∨ 72057594037927936 ≤ n) : fixedL n 7 = [] := by
  unfold fixedL
  rw [if_pos (by decide)]
  show fixedN n 7 = []
  unfold fixedN
  rw [if_neg (by show ¬ (0 ≤ n ∧ n.toNat / 256 ^ 7 = 0); omega)]
theorem dec_back {n m : Int} {b : Bool} (h : Reads (Lib.itoa n) m b) : b = decide (-1000000000 < n ∧ n < 1000000000) ∧ (b = true → m = n) := by
  by_cases hs : small n
  · obtain ⟨e1, e2⟩ := reads_one h (.inl ⟨rfl, hs, rfl⟩ : Reads (Lib.itoa n) n true)
    refine ⟨?_, fun _ => e1⟩
    rw [e2, decide_eq_true]
    unfold small at hs; omega
  · rcases h with ⟨rfl, h1, h2⟩ | ⟨rfl, h1, h2⟩
    · have : m = n := by rw [← read_itoa m, ← read_itoa n, ← h2]
      subst this; exact (hs h1).elim
    · refine ⟨?_, fun h => by cases h⟩
      rw [decide_eq_false]
      unfold small at hs; omega
theorem unDig_hex (k : Nat) (hk : k < 16) : unDig (hexDig k) = k := unDig_hit _ k hk rfl
theorem unhex_hex : ∀ l : List UInt8, unhexL (hexL l) = some l
  | [] => rfl
  | c :: l => by
    have hc := c.toNat_lt
    have h1 := unDig_hex (c.toNat / 16) (by omega)
    have h2 := unDig_hex (c.toNat % 16) (by omega)
    show unhexL (hexDig (c.toNat / 16) :: hexDig (c.toNat % 16) :: hexL l) = _
    rw [unhexL, h1, h2, if_neg (by omega), unhex_hex l]
    have : (16 * ((c.toNat / 16 : Nat) : Int) + ((c.toNat % 16 : Nat) : Int)).toNat = c.toNat := by omega
    rw [this]
    simp
theorem unhexV_hex (l : List UInt8) : unhexV (hexL l) = (l, true) := unhexV_some (unhex_hex l)
end Sp
end Go.Proofs.YtfbbdnicplbmdaaDoor
