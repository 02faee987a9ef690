
/- Plain: reading numbers, pieces and flags of a string, one after another. No program in sight. -/
import Derived.Test.YtfbbdnicplbmdaaRdW
import Derived.Test.YtfbbdnicplbmdaaReadVarS
import Derived.Test.YtfbbdnicplbmdaaPieW
set_option linter.unusedVariables false
set_option linter.unusedSimpArgs false
namespace Go.Proofs.Ytfbbdnicplbmdaa
open Sp
namespace Sp
theorem val_varB : ∀ n : Nat, val (varB n) = n := by
  intro n
  induction n using Nat.strongRecOn with
  | ind n ih =>
    by_cases h : n < 128
    · rw [varB_small h]; simp [val]; omega
    · rw [varB_big h]
      simp only [val]
      rw [ih (n / 128) (by omega)]
      have e : (UInt8.ofNat (128 + n % 128)).toNat = 128 + n % 128 := by simp; omega
      rw [e]; omega
theorem can_varB (n : Nat) : can (varB n) = true := by rw [can_iff, val_varB]
/-- What is left of a string from a place on. -/
def rem (s : ByteArray) (p : Nat) : List UInt8 := s.data.toList.drop p
theorem rem_length (s : ByteArray) (p : Nat) : (rem s p).length = s.size - p := by simp [rem]
theorem rem_drop (s : ByteArray) (p k : Nat) : (rem s p).drop k = rem s (p + k) := by simp [rem]
theorem rem_zero (s : ByteArray) : rem s 0 = s.data.toList := by simp [rem]
theorem readVarL_some {l : List UInt8} (h : (readVarL l).2 ≠ 0) : l = varB (readVarL l).1 ++ l.drop (readVarL l).2 ∧ (readVarL l).1 ≤ 562949953421311 ∧ (readVarL l).2 ≤ l.length ∧ (varB (readVarL l).1).length = (readVarL l).2 := by
  by_cases hn : ∀ k, 1 ≤ k → k ≤ 7 → k ≤ l.length → can (l.take k) = false
  · rw [readVarL_none hn] at h; exact absurd rfl h
  · simp only [Classical.not_forall] at hn
    obtain ⟨k, h1, h7, hs, hc⟩ := hn
    have hc' : can (l.take k) = true := by simpa using hc
    have e := readVarL_can h1 h7 hs hc'
    have hv := val_lt7 (l := l.take k) (by simp; omega)
    rw [e]
    have hb := (can_iff _).1 hc'
    exact ⟨by simp only [hb]; simp, hv, hs, by simp only [hb]; simp; omega⟩
theorem readVarL_of {n : Nat} {r l : List UInt8} (hn : n ≤ 562949953421311) (h : l = varB n ++ r) : readVarL l = (n, (varB n).length) := by
  have hp := varB_pos n
  have h7 := varB_length_7 hn
  have ht : l.take (varB n).length = varB n := by rw [h]; simp
  have := readVarL_can (s := l) hp h7 (by rw [h]; simp) (by rw [ht]; exact can_varB n)
  rw [this, ht, val_varB]
/-- A number, and where it ends. -/
def takeV (s : ByteArray) (p : Nat) : Option (Nat × Nat) :=
  if (readVarL (rem s p)).2 = 0 then none else some ((readVarL (rem s p)).1, p + (readVarL (rem s p)).2)
theorem takeV_some {s : ByteArray} {p x q : Nat} (h : takeV s p = some (x, q)) : rem s p = varB x ++ rem s q ∧ x ≤ 562949953421311 ∧ p < q ∧ q ≤ s.size := by
  unfold takeV at h
  split at h
  · cases h
  · rename_i hk
    obtain ⟨h1, h2, h3, h4⟩ := readVarL_some hk
    have hl := rem_length s p
    simp only [Option.some.injEq, Prod.mk.injEq] at h
    obtain ⟨rfl, rfl⟩ := h
    rw [rem_drop] at h1
    exact ⟨h1, h2, by omega, by omega⟩
theorem takeV_of {s : ByteArray} {p n : Nat} {r : List UInt8} (hn : n ≤ 562949953421311) (h : rem s p = varB n ++ r) : takeV s p = some (n, p + (varB n).length) ∧ rem s (p + (varB n).length) = r := by
  have e := readVarL_of hn h
  have hp := varB_pos n
  refine ⟨by unfold takeV; rw [e, if_neg (by show ¬ (varB n).length = 0; omega)], ?_⟩
  rw [← rem_drop, h]; simp
theorem rdNum_take (s : ByteArray) (p : Nat) : rdNum s p false = match takeV s p with | none => (0, p, true) | some (x, q) => (x, q, false) := by
  unfold rdNum takeV rem
  rw [if_neg (by simp)]
  by_cases h : (readVarL (s.data.toList.drop p)).2 = 0
  · rw [if_pos h, if_pos h]
  · rw [if_neg h, if_neg h]
theorem rdNum_none {s : ByteArray} {p : Nat} (h : takeV s p = none) : rdNum s p false = (0, p, true) := by rw [rdNum_take, h]
theorem rdNum_some {s : ByteArray} {p x q : Nat} (h : takeV s p = some (x, q)) : rdNum s p false = (x, q, false) := by rw [rdNum_take, h]
theorem rdNum_bad (s : ByteArray) (p : Nat) : rdNum s p true = (0, p, true) := rfl
theorem rdBytes_bad (s : ByteArray) (p n : Nat) : rdBytes s p true n = ([], p, true) := if_pos (.inl rfl)
theorem rdBytes_short {s : ByteArray} {p n : Nat} (h : s.size - p < n) : rdBytes s p false n = ([], p, true) := if_pos (.inr h)
theorem rdBytes_ok {s : ByteArray} {p n : Nat} (h : ¬ s.size - p < n) : rdBytes s p false n = ((rem s p).take n, p + n, false) := if_neg (by simp; omega)
theorem rdBytes_bd (s : ByteArray) (p : Nat) (bad : Bool) (n : Nat) (h : p ≤ s.size) : (rdBytes s p bad n).2.1 ≤ s.size ∧ (rdBytes s p bad n).1.length ≤ s.size := by
  unfold rdBytes
  split
  · exact ⟨h, by simp⟩
  · rename_i hh
    simp only [not_or] at hh
    exact ⟨by simp only; omega, by simp; omega⟩
/-- A piece: a number of bytes and these. -/
def takeP (s : ByteArray) (p : Nat) : Option (ByteArray × Nat) :=
  match takeV s p with
  | none => none
  | some (n, q) => if s.size - q < n then none else some (str ((rem s q).take n), q + n)
theorem pieL_of (t : ByteArray) (h : t.size ≤ 562949953421311) : pieL t.data.toList = varB t.size ++ t.data.toList := by
  have e : t.data.toList.length = t.size := by simp
  unfold pieL
  rw [e, varL_nat (by omega)]
theorem takeP_some {s t : ByteArray} {p q : Nat} (h : takeP s p = some (t, q)) : rem s p = pieL t.data.toList ++ rem s q ∧ t.size ≤ 562949953421311 ∧ p < q ∧ q ≤ s.size ∧ t.size ≤ s.size := by
  unfold takeP at h
  rcases hv : takeV s p with _ | ⟨n, q'⟩
  · rw [hv] at h; cases h
  · rw [hv] at h
    obtain ⟨h1, h2, h3, h4⟩ := takeV_some hv
    simp only at h
    split at h
    · cases h
    · rename_i hlt
      simp only [Option.some.injEq, Prod.mk.injEq] at h
      obtain ⟨rfl, rfl⟩ := h
      have hl := rem_length s q'
      have hsz : (str ((rem s q').take n)).size = n := by rw [str_size, List.length_take]; omega
      refine ⟨?_, by omega, by omega, by omega, by omega⟩
      rw [pieL_of _ (by omega), hsz, str_data, h1, List.append_assoc, ← rem_drop, List.take_append_drop]
theorem takeP_of {s t : ByteArray} {p : Nat} {r : List UInt8} (ht : t.size ≤ 562949953421311) (h : rem s p = pieL t.data.toList ++ r) : takeP s p = some (t, p + (pieL t.data.toList).length) ∧ rem s (p + (pieL t.data.toList).length) = r := by
  rw [pieL_of t ht] at h ⊢
  rw [List.append_assoc] at h
  obtain ⟨e1, e2⟩ := takeV_of ht h
  have hl := rem_length s (p + (varB t.size).length)
  rw [e2] at hl
  have e : t.data.toList.length = t.size := by simp
  rw [List.length_append, e] at hl
  refine ⟨?_, ?_⟩
  · unfold takeP
    rw [e1]
    simp only
    rw [if_neg (by omega), e2, List.take_append_of_le_length (by rw [e]; omega), List.take_of_length_le (by rw [e]; omega), str_of, List.length_append, e, Nat.add_assoc]
  · rw [← rem_drop, h, List.length_append, ← List.drop_drop]
    simp
/-- What short of a reader gives. -/
def rdShort (s : ByteArray) (p : Nat) (bad : Bool) : ByteArray × Nat × Bool :=
  (str (rdBytes s (rdNum s p bad).2.1 (rdNum s p bad).2.2 (rdNum s p bad).1).1, (rdBytes s (rdNum s p bad).2.1 (rdNum s p bad).2.2 (rdNum s p bad).1).2)
theorem rdShort_bad (s : ByteArray) (p : Nat) : rdShort s p true = (str [], p, true) := by
  unfold rdShort; rw [rdNum_bad, rdBytes_bad]
theorem rdShort_some {s t : ByteArray} {p q : Nat} (h : takeP s p = some (t, q)) : rdShort s p false = (t, q, false) := by
  unfold takeP at h
  rcases hv : takeV s p with _ | ⟨n, q'⟩
  · rw [hv] at h; cases h
  · rw [hv] at h
    simp only at h
    split at h
    · cases h
    · rename_i hlt
      simp only [Option.some.injEq, Prod.mk.injEq] at h
      obtain ⟨rfl, rfl⟩ := h
      unfold rdShort
      rw [rdNum_some hv, rdBytes_ok hlt]
theorem rdShort_none {s : ByteArray} {p : Nat} (h : takeP s p = none) : (rdShort s p false).1 = str [] ∧ (rdShort s p false).2.2 = true := by
  unfold takeP at h
  rcases hv : takeV s p with _ | ⟨n, q'⟩
  · unfold rdShort; rw [rdNum_none hv, rdBytes_bad]; exact ⟨rfl, rfl⟩
  · rw [hv] at h
    simp only at h
    split at h
    · rename_i hlt
      unfold rdShort; rw [rdNum_some hv, rdBytes_short hlt]; exact ⟨rfl, rfl⟩
    · cases h
theorem rdNum_bdI (s : ByteArray) (p : Nat) (bad : Bool) (h : (p : Int) ≤ s.size) : ((rdNum s p bad).2.1 : Int) ≤ s.size ∧ ((rdNum s p bad).1 : Int) ≤ 562949953421311 := by
  have := rdNum_bd s p bad (by omega); omega
theorem rdShort_bd (s : ByteArray) (p : Nat) (bad : Bool) (h : (p : Int) ≤ s.size) : ((rdShort s p bad).2.1 : Int) ≤ s.size ∧ ((rdShort s p bad).1.size : Int) ≤ s.size := by
  have h1 := rdNum_bd s p bad (by omega)
  have h2 := rdBytes_bd s (rdNum s p bad).2.1 (rdNum s p bad).2.2 (rdNum s p bad).1 h1.1
  have e : (rdShort s p bad).1.size = (rdBytes s (rdNum s p bad).2.1 (rdNum s p bad).2.2 (rdNum s p bad).1).1.length := str_size _
  have e2 : (rdShort s p bad).2.1 = (rdBytes s (rdNum s p bad).2.1 (rdNum s p bad).2.2 (rdNum s p bad).1).2.1 := rfl
  omega
/-- What flag of a reader gives. -/
def rdFlag (s : ByteArray) (p : Nat) (bad : Bool) : Bool × Nat × Bool :=
  if (rdBytes s p bad 1).1 = [0] then (false, (rdBytes s p bad 1).2) else if (rdBytes s p bad 1).1 = [1] then (true, (rdBytes s p bad 1).2) else (false, (rdBytes s p bad 1).2.1, true)
def flagL (b : Bool) : List UInt8 := if b then [1] else [0]
theorem rdFlag_bad (s : ByteArray) (p : Nat) : rdFlag s p true = (false, p, true) := by
  unfold rdFlag; rw [rdBytes_bad]; rfl
theorem rdFlag_of {s : ByteArray} {p : Nat} {b : Bool} {r : List UInt8} (h : rem s p = flagL b ++ r) : rdFlag s p false = (b, p + 1, false) ∧ rem s (p + 1) = r := by
  have hl := rem_length s p
  have e1 : (flagL b).length = 1 := by unfold flagL; split <;> rfl
  rw [h, List.length_append, e1] at hl
  have hok : rdBytes s p false 1 = (flagL b, p + 1, false) := by
    rw [rdBytes_ok (by omega), h, List.take_append_of_le_length (by omega), List.take_of_length_le (by omega)]
  refine ⟨?_, by rw [← rem_drop, h]; rw [List.drop_append_of_le_length (by omega), List.drop_of_length_le (by omega)]; rfl⟩
  unfold rdFlag
  rw [hok]
  cases b <;> simp [flagL]
theorem rdFlag_some {s : ByteArray} {p : Nat} (h : (rdFlag s p false).2.2 = false) : (rdFlag s p false).2.1 = p + 1 ∧ rem s p = flagL (rdFlag s p false).1 ++ rem s (p + 1) ∧ p + 1 ≤ s.size := by
  by_cases hlt : s.size - p < 1
  · unfold rdFlag at h; rw [rdBytes_short hlt] at h; simp at h
  · have hok := rdBytes_ok hlt
    have hrem : rem s p = (rem s p).take 1 ++ rem s (p + 1) := by rw [← rem_drop, List.take_append_drop]
    unfold rdFlag at h ⊢
    rw [hok] at h ⊢
    simp only at h ⊢
    by_cases h0 : (rem s p).take 1 = [0]
    · rw [if_pos h0] at h ⊢; exact ⟨rfl, by rw [h0] at hrem; exact hrem, by omega⟩
    · rw [if_neg h0] at h ⊢
      by_cases h1 : (rem s p).take 1 = [1]
      · rw [if_pos h1] at h ⊢; exact ⟨rfl, by rw [h1] at hrem; exact hrem, by omega⟩
      · rw [if_neg h1] at h; simp at h
theorem rdFlag_bd (s : ByteArray) (p : Nat) (bad : Bool) (h : (p : Int) ≤ s.size) : ((rdFlag s p bad).2.1 : Int) ≤ s.size := by
  have h2 := rdBytes_bd s p bad 1 (by omega)
  have : (rdFlag s p bad).2.1 = (rdBytes s p bad 1).2.1 := by
    unfold rdFlag
    split
    · rfl
    · split <;> rfl
  omega
/-- A piece read by the reference from a place that may be none. -/
def tkP (s : ByteArray) (at_ : Int) : ByteArray × Int :=
  if at_ < 0 then (str [], -1) else match takeP s at_.toNat with | none => (str [], -1) | some (t, q) => (t, (q : Int))
theorem tkP_neg {s : ByteArray} {a : Int} (h : a < 0) : tkP s a = (str [], -1) := if_pos h
theorem tkP_nat (s : ByteArray) (p : Nat) : tkP s (p : Int) = match takeP s p with | none => (str [], -1) | some (t, q) => (t, (q : Int)) := by
  unfold tkP; rw [if_neg (by omega), Int.toNat_natCast]
theorem tkP_none {s : ByteArray} {p : Nat} (h : takeP s p = none) : tkP s (p : Int) = (str [], -1) := by rw [tkP_nat, h]
theorem tkP_some {s t : ByteArray} {p q : Nat} (h : takeP s p = some (t, q)) : tkP s (p : Int) = (t, (q : Int)) := by rw [tkP_nat, h]
theorem tkP_bd (s : ByteArray) (a : Int) : (tkP s a).2 ≤ s.size ∧ -1 ≤ (tkP s a).2 ∧ ((tkP s a).1.size : Int) ≤ s.size := by
  by_cases h : a < 0
  · rw [tkP_neg h]; refine ⟨by show (-1 : Int) ≤ _; omega, Int.le_refl _, by rw [str_size]; simp⟩
  · obtain ⟨p, rfl⟩ : ∃ p : Nat, a = (p : Int) := ⟨a.toNat, by omega⟩
    rcases hv : takeP s p with _ | ⟨t, q⟩
    · rw [tkP_none hv]; refine ⟨by show (-1 : Int) ≤ _; omega, Int.le_refl _, by rw [str_size]; simp⟩
    · obtain ⟨h1, h2, h3, h4, h5⟩ := takeP_some hv
      rw [tkP_some hv]; exact ⟨by show (q : Int) ≤ _; omega, by show (-1 : Int) ≤ (q : Int); omega, by show (t.size : Int) ≤ _; omega⟩
end Sp
end Go.Proofs.Ytfbbdnicplbmdaa
