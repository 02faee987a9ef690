
/- Plain: decimal digits, from the last on; what a numeral is read as. -/
import Derived.Test.YtfbbdnicplbmdaaDoorNum
import Derived.Lib.ItoaMem
import Derived.Lib.Strings
set_option linter.unusedVariables false
set_option linter.unusedSimpArgs false
namespace Go.Proofs.YtfbbdnicplbmdaaDoor
open Sp
namespace Sp
def digR (q : Nat) : List UInt8 := if q = 0 then [] else Lib.decDigits q
theorem digR_zero : digR 0 = [] := rfl
theorem digR_pos {q : Nat} (h : 0 < q) : digR q = Lib.decDigits q := if_neg (by omega)
theorem digR_step {q : Nat} (h : 0 < q) : digR q = digR (q / 10) ++ [UInt8.ofNat (48 + q % 10)] := by
  rw [digR_pos h, Lib.decDigits]
  by_cases h10 : q < 10
  · rw [dif_pos h10, Nat.div_eq_of_lt h10, Nat.mod_eq_of_lt h10]; rfl
  · rw [dif_neg h10, digR_pos (by omega)]
theorem itoa_zero : Lib.itoa 0 = [48] := by rw [show (0 : Int) = ((0 : Nat) : Int) from rfl, Lib.itoa_nonneg, Lib.decDigits, dif_pos (by omega)]; rfl

/-- A byte that is a decimal digit. -/
def isDig (c : UInt8) : Bool := decide (48 ≤ c.toNat) && decide (c.toNat ≤ 57)
/-- The digits of a string, read as a number; all else passed by. -/
def valD (l : List UInt8) : Nat := l.foldl (fun n c => if isDig c then n * 10 + (c.toNat - 48) else n) 0
/-- How many digits. -/
def cntD (l : List UInt8) : Nat := l.countP isDig
theorem valD_snoc (l : List UInt8) (c : UInt8) : valD (l ++ [c]) = if isDig c then valD l * 10 + (c.toNat - 48) else valD l := by simp [valD, List.foldl_append]
theorem cntD_snoc (l : List UInt8) (c : UInt8) : cntD (l ++ [c]) = if isDig c then cntD l + 1 else cntD l := by
  simp only [cntD, List.countP_append, List.countP_cons, List.countP_nil]; cases isDig c <;> simp
theorem cntD_le (l : List UInt8) : cntD l ≤ l.length := List.countP_le_length
theorem valD_lt (l : List UInt8) : valD l < 10 ^ cntD l := by
  rw [← List.reverse_reverse l]
  generalize l.reverse = r
  induction r with
  | nil => simp [valD, cntD]
  | cons c r ih =>
    rw [List.reverse_cons, valD_snoc, cntD_snoc]
    by_cases h : isDig c = true
    · rw [if_pos h, if_pos h, Nat.pow_succ]
      have : c.toNat ≤ 57 := by simp [isDig] at h; exact h.2
      omega
    · rw [if_neg h, if_neg h]; exact ih
theorem dig_ofNat (q : Nat) (h : q < 10) : isDig (UInt8.ofNat (48 + q)) = true ∧ (UInt8.ofNat (48 + q)).toNat = 48 + q := by
  have : (UInt8.ofNat (48 + q)).toNat = 48 + q := by simp; omega
  exact ⟨by simp [isDig, this]; omega, this⟩
theorem dec_all (q : Nat) : ∀ c ∈ Lib.decDigits q, isDig c = true := by
  induction q using Nat.strongRecOn with
  | _ q ih =>
    intro c hc
    rw [Lib.decDigits] at hc
    by_cases h : q < 10
    · rw [dif_pos h] at hc
      simp only [List.mem_singleton] at hc
      subst hc; exact (dig_ofNat q h).1
    · rw [dif_neg h] at hc
      rcases List.mem_append.1 hc with h1 | h1
      · exact ih _ (by omega) c h1
      · simp only [List.mem_singleton] at h1
        subst h1; exact (dig_ofNat _ (by omega)).1
theorem cntD_all {l : List UInt8} (h : ∀ c ∈ l, isDig c = true) : cntD l = l.length := List.countP_eq_length.2 h
theorem valD_dec (q : Nat) : valD (Lib.decDigits q) = q := by
  induction q using Nat.strongRecOn with
  | _ q ih =>
    rw [Lib.decDigits]
    by_cases h : q < 10
    · rw [dif_pos h]
      have := dig_ofNat q h
      rw [show [UInt8.ofNat (48 + q)] = [] ++ [UInt8.ofNat (48 + q)] from rfl, valD_snoc, if_pos this.1, this.2]
      simp [valD]
    · rw [dif_neg h]
      have := dig_ofNat (q % 10) (by omega)
      rw [valD_snoc, if_pos this.1, this.2, ih _ (by omega)]
      omega
theorem dec_len (d : Nat) : ∀ q, q < 10 ^ (d + 1) → (Lib.decDigits q).length ≤ d + 1 := by
  induction d with
  | zero => intro q h; rw [Lib.decDigits, dif_pos (by simpa using h)]; simp
  | succ d ih =>
    intro q h
    rw [Lib.decDigits]
    by_cases h10 : q < 10
    · rw [dif_pos h10]; simp
    · rw [dif_neg h10]
      have := ih (q / 10) (by rw [Nat.pow_succ] at h; omega)
      simp; omega
theorem dec_ne (q : Nat) : 1 ≤ (Lib.decDigits q).length := by rw [Lib.decDigits_length]; exact Lib.nDigits_pos q
theorem isDig_dash : isDig 45 = false := by decide
theorem valD_dash (l : List UInt8) : valD (45 :: l) = valD l := by simp [valD, isDig_dash]
theorem cntD_dash (l : List UInt8) : cntD (45 :: l) = cntD l := by simp [cntD, isDig_dash]

/-- What a string is read as, if it is read at all. -/
def sgn (l : List UInt8) : Bool := l.head? == some 45
theorem dec_head (q : Nat) : sgn (Lib.decDigits q) = false := by
  have h1 := dec_ne q
  have h2 := dec_all q
  unfold sgn
  cases hl : Lib.decDigits q with
  | nil => rfl
  | cons c r =>
    rw [hl] at h2
    have := h2 c (by simp)
    simp only [List.head?_cons]
    by_cases hc : c = 45
    · subst hc; simp [isDig_dash] at this
    · simpa using hc
theorem itoa_cases (m : Int) : (0 ≤ m ∧ Lib.itoa m = Lib.decDigits m.toNat) ∨ (m < 0 ∧ Lib.itoa m = 45 :: Lib.decDigits m.natAbs) := by
  unfold Lib.itoa
  by_cases h : m < 0
  · exact .inr ⟨h, if_pos h⟩
  · exact .inl ⟨by omega, if_neg h⟩
/-- A numeral is read as its number. -/
theorem read_itoa (m : Int) : (if sgn (Lib.itoa m) then -(valD (Lib.itoa m) : Int) else (valD (Lib.itoa m) : Int)) = m := by
  rcases itoa_cases m with ⟨h, he⟩ | ⟨h, he⟩ <;> rw [he]
  · rw [dec_head, valD_dec]; simp; omega
  · rw [valD_dash, valD_dec]; simp [sgn]; omega
/-- The number that a string of at most 9 digits stands for. -/
def small (m : Int) : Prop := -999999999 ≤ m ∧ m ≤ 999999999
theorem itoa_small {m : Int} (h : small m) : (Lib.itoa m).length ≤ 10 ∧ cntD (Lib.itoa m) ≤ 9 := by
  obtain ⟨h1, h2⟩ := h
  rcases itoa_cases m with ⟨h, he⟩ | ⟨h, he⟩ <;> rw [he]
  · have := dec_len 8 m.toNat (by simp; omega)
    have := cntD_le (Lib.decDigits m.toNat)
    omega
  · have := dec_len 8 m.natAbs (by simp; omega)
    have := cntD_le (Lib.decDigits m.natAbs)
    rw [cntD_dash]; simp; omega
/-- Of a string: (m, true) where it is the numeral of a small number m, (0, false) else. -/
def Reads (l : List UInt8) (n : Int) (b : Bool) : Prop := (b = true ∧ small n ∧ l = Lib.itoa n) ∨ (b = false ∧ n = 0 ∧ ∀ m, small m → l ≠ Lib.itoa m)
theorem reads_one {l : List UInt8} {n m : Int} {b c : Bool} (h : Reads l n b) (k : Reads l m c) : n = m ∧ b = c := by
  rcases h with ⟨rfl, h1, h2⟩ | ⟨rfl, rfl, h3⟩ <;> rcases k with ⟨rfl, k1, k2⟩ | ⟨rfl, rfl, k3⟩
  · refine ⟨?_, rfl⟩
    rw [← read_itoa n, ← read_itoa m, ← h2, ← k2]
  · exact absurd h2 (k3 _ h1)
  · exact absurd k2 (h3 _ k1)
  · exact ⟨rfl, rfl⟩
theorem small_of_cnt {l : List UInt8} (h : cntD l ≤ 9) : small (valD l) ∧ small (-(valD l : Int)) := by
  have h1 := valD_lt l
  have h2 : 10 ^ cntD l ≤ 10 ^ 9 := Nat.pow_le_pow_right (by omega) h
  unfold small; omega
/-- The reference's way. -/
theorem spec_reads (l : List UInt8) (n : Int) (hn : n = (if sgn l then -(valD (l.take 11) : Int) else (valD (l.take 11) : Int))) :
    (cntD (l.take 11) ≤ 9 → l.length ≤ 10 → Lib.itoa n = l → Reads l n true) ∧ ((9 < cntD (l.take 11) ∨ 10 < l.length ∨ Lib.itoa n ≠ l) → Reads l 0 false) := by
  refine ⟨fun h1 h2 h3 => .inl ⟨rfl, ?_, h3.symm⟩, fun h => .inr ⟨rfl, rfl, fun m hm he => ?_⟩⟩
  · have := small_of_cnt h1
    rw [hn]; split
    · exact this.2
    · exact this.1
  · have hs := itoa_small hm
    rw [← he] at hs
    rw [List.take_of_length_le (by omega)] at hn h
    have hr := read_itoa m
    rw [← he, ← hn] at hr
    rcases h with h | h | h
    · omega
    · omega
    · exact h (by rw [hr, he])
/-- The program's way. -/
theorem impl_reads (l d : List UInt8) (hd : d = if sgn l then l.drop 1 else l) (n : Int) (hn : n = (if d.length < l.length then -(valD d : Int) else (valD d : Int))) :
    (d.length ≤ 9 → Lib.itoa n = l → Reads l n true) ∧ ((d.length < 1 ∨ 9 < d.length ∨ (∃ c ∈ d, isDig c = false) ∨ Lib.itoa n ≠ l) → Reads l 0 false) := by
  refine ⟨fun h1 h3 => .inl ⟨rfl, ?_, h3.symm⟩, fun h => .inr ⟨rfl, rfl, fun m hm he => ?_⟩⟩
  · have := small_of_cnt (l := d) (by have := cntD_le d; omega)
    rw [hn]; split
    · exact this.2
    · exact this.1
  · have hm' := hm
    obtain ⟨h1, h2⟩ := hm'
    have key : (1 ≤ d.length ∧ d.length ≤ 9 ∧ (∀ c ∈ d, isDig c = true)) ∧ n = m := by
      rcases itoa_cases m with ⟨h0, e⟩ | ⟨h0, e⟩
      · rw [e] at he
        have hd' : d = Lib.decDigits m.toNat := by rw [hd, he, dec_head]; rfl
        have hlen : ¬ d.length < l.length := by rw [hd', he]; omega
        rw [if_neg hlen, hd', valD_dec] at hn
        rw [hd']
        exact ⟨⟨dec_ne _, dec_len 8 _ (by simp; omega), dec_all _⟩, by omega⟩
      · rw [e] at he
        have hd' : d = Lib.decDigits m.natAbs := by rw [hd, he]; rfl
        have hlen : d.length < l.length := by rw [hd', he]; simp
        rw [if_pos hlen, hd', valD_dec] at hn
        rw [hd']
        exact ⟨⟨dec_ne _, dec_len 8 _ (by simp; omega), dec_all _⟩, by omega⟩
    obtain ⟨⟨k1, k2, k3⟩, rfl⟩ := key
    rcases h with h | h | ⟨c, hc, h⟩ | h
    · omega
    · omega
    · rw [k3 c hc] at h; cases h
    · exact h he.symm
theorem trim_dash (s : ByteArray) : Lib.trimPrefix s.data.toList [45] = if sgn s.data.toList then s.data.toList.drop 1 else s.data.toList := by
  unfold Lib.trimPrefix Lib.hasPrefix sgn
  cases s.data.toList with
  | nil => rfl
  | cons c r =>
    by_cases h : c = 45
    · subst h; rfl
    · have h1 : ((45 : UInt8) == c) = false := by rw [beq_eq_false_iff_ne]; exact fun e => h e.symm
      have h2 : (some c == some (45 : UInt8)) = false := by rw [beq_eq_false_iff_ne]; exact fun e => h (Option.some.inj e)
      simp only [List.isPrefixOf, h1, Bool.false_and, List.head?_cons, h2, Bool.false_eq_true, if_false]
end Sp
end Go.Proofs.YtfbbdnicplbmdaaDoor
