
/- Plain: the varint of a number, and reading it. -/
import Derived.Test.YtfbbdnicplbmdaaDoorNum
import Derived.Laws.BitsAllLaws
set_option linter.unusedVariables false
set_option linter.unusedSimpArgs false
namespace Go.Proofs.YtfbbdnicplbmdaaDoor
namespace Sp

def varB (n : Nat) : List UInt8 := if n < 128 then [UInt8.ofNat n] else UInt8.ofNat (128 + n % 128) :: varB (n / 128)
termination_by n
decreasing_by omega
theorem varB_small {n : Nat} (h : n < 128) : varB n = [UInt8.ofNat n] := by rw [varB, if_pos h]
theorem varB_big {n : Nat} (h : ¬ n < 128) : varB n = UInt8.ofNat (128 + n % 128) :: varB (n / 128) := by rw [varB, if_neg h]
theorem varB_ne (n : Nat) : varB n ≠ [] := by
  by_cases h : n < 128
  · rw [varB_small h]; simp
  · rw [varB_big h]; simp
theorem varB_length_le (k : Nat) : ∀ n, n < 128 ^ (k + 1) → (varB n).length ≤ k + 1 := by
  induction k with
  | zero => intro n h; rw [varB_small (by simpa using h)]; simp
  | succ k ih =>
    intro n h
    by_cases h1 : n < 128
    · rw [varB_small h1]; simp
    · rw [varB_big h1, List.length_cons]
      have := ih (n / 128) (by rw [Nat.div_lt_iff_lt_mul (by omega)]; rw [Nat.pow_succ] at h; omega)
      omega
theorem varB_length_7 {n : Nat} (h : n ≤ 562949953421311) : (varB n).length ≤ 7 := varB_length_le 6 n (by omega)
theorem varB_pos (n : Nat) : 0 < (varB n).length := List.length_pos_iff.2 (varB_ne n)
/-- The result of Var. -/
def varL (n : Int) : List UInt8 := if 0 ≤ n ∧ n ≤ 562949953421311 then varB n.toNat else []
theorem varL_nat {n : Nat} (h : n ≤ 562949953421311) : varL (n : Int) = varB n := by
  unfold varL; rw [if_pos (by omega), Int.toNat_natCast]
theorem varL_not {n : Int} (h : ¬ (0 ≤ n ∧ n ≤ 562949953421311)) : varL n = [] := by unfold varL; rw [if_neg h]
theorem varL_length (n : Int) : (varL n).length ≤ 7 := by
  unfold varL; split
  · exact varB_length_7 (by omega)
  · simp

/-- The number that a list of seven-bit groups stands for, the least first. -/
def val : List UInt8 → Nat
  | [] => 0
  | c :: r => c.toNat % 128 + 128 * val r
theorem val_lt (l : List UInt8) : val l < 128 ^ l.length := by
  induction l with
  | nil => simp [val]
  | cons c r ih => simp only [val, List.length_cons, Nat.pow_succ]; omega
theorem val_lt7 {l : List UInt8} (h : l.length ≤ 7) : val l ≤ 562949953421311 := by
  have h1 := val_lt l
  have h2 : 128 ^ l.length ≤ 128 ^ 7 := Nat.pow_le_pow_right (by omega) h
  omega
theorem val_append (a b : List UInt8) : val (a ++ b) = val a + 128 ^ a.length * val b := by
  induction a with
  | nil => simp [val]
  | cons c r ih =>
    simp only [List.cons_append, val, ih, List.length_cons, Nat.pow_succ, Nat.mul_add]
    rw [← Nat.mul_assoc, Nat.mul_comm 128 (128 ^ r.length)]; omega

/-- Is it the varint of the number that it stands for? -/
def can : List UInt8 → Bool
  | [] => false
  | [c] => decide (c.toNat < 128)
  | c :: d :: r => decide (128 ≤ c.toNat) && can (d :: r) && decide (val (d :: r) ≠ 0)
theorem ofNat_small {n : Nat} {c : UInt8} (h : n % 256 = c.toNat) : UInt8.ofNat n = c := by
  apply UInt8.toNat_inj.1; simpa using h
theorem can_iff (l : List UInt8) : can l = true ↔ varB (val l) = l := by
  induction l with
  | nil => simp [can, varB_ne]
  | cons c r ih =>
    cases r with
    | nil =>
      have hc := c.toNat_lt
      have e : val [c] = c.toNat % 128 := by simp [val]
      rw [e, varB_small (by omega)]
      simp only [can, decide_eq_true_eq, List.cons.injEq, and_true]
      constructor
      · intro h; exact ofNat_small (by omega)
      · intro h
        have : (UInt8.ofNat (c.toNat % 128)).toNat = c.toNat := by rw [h]
        simp at this; omega
    | cons d r =>
      have hc := c.toNat_lt
      simp only [can, Bool.and_eq_true, decide_eq_true_eq]
      rw [show val (c :: d :: r) = c.toNat % 128 + 128 * val (d :: r) from rfl]
      constructor
      · rintro ⟨⟨h1, h2⟩, h3⟩
        have hv := ih.1 h2
        rw [varB_big (by omega)]
        rw [show (c.toNat % 128 + 128 * val (d :: r)) / 128 = val (d :: r) from by omega, hv]
        rw [show 128 + (c.toNat % 128 + 128 * val (d :: r)) % 128 = c.toNat from by omega]
        simp
      · intro h
        by_cases hz : c.toNat % 128 + 128 * val (d :: r) < 128
        · rw [varB_small hz] at h; simp at h
        · rw [varB_big hz] at h
          rw [show (c.toNat % 128 + 128 * val (d :: r)) / 128 = val (d :: r) from by omega] at h
          rw [show (c.toNat % 128 + 128 * val (d :: r)) % 128 = c.toNat % 128 from by omega] at h
          simp only [List.cons.injEq] at h
          refine ⟨⟨?_, ih.2 h.2⟩, by omega⟩
          have : (UInt8.ofNat (128 + c.toNat % 128)).toNat = c.toNat := by rw [h.1]
          simp at this; omega

/-- ReadVar: the number and how many bytes it takes; 0 and 0 where there is none. -/
def rvGo : Nat → Nat → Nat → List UInt8 → Nat × Nat
  | 0, _, _, _ => (0, 0)
  | _ + 1, _, _, [] => (0, 0)
  | f + 1, i, acc, c :: r =>
    if 128 ≤ c.toNat then rvGo f (i + 1) (acc + c.toNat % 128 * 128 ^ i) r
    else if c.toNat = 0 ∧ 0 < i then (0, 0) else (acc + c.toNat % 128 * 128 ^ i, i + 1)
def readVarL (s : List UInt8) : Nat × Nat := rvGo 7 0 0 s

theorem val_ne_last {l : List UInt8} (h : can l = true) (h2 : 2 ≤ l.length) : val l ≠ 0 := by
  match l, h2 with
  | c :: d :: r, _ =>
    simp only [can, Bool.and_eq_true, decide_eq_true_eq] at h
    simp only [val] at h ⊢; omega

theorem rvGo_can : ∀ (k f i acc : Nat) (s : List UInt8), 1 ≤ k → k ≤ f → k ≤ s.length → can (s.take k) = true → (0 < i → val (s.take k) ≠ 0) → rvGo f i acc s = (acc + val (s.take k) * 128 ^ i, i + k) := by
  intro k
  induction k with
  | zero => intro f i acc s h; omega
  | succ k ih =>
    intro f i acc s _ hf hs hc hi
    match f, s, hf, hs with
    | f + 1, c :: r, hf, hs =>
      rw [List.take_succ_cons] at hc hi ⊢
      cases k with
      | zero =>
        simp only [List.take_zero, can, decide_eq_true_eq] at hc
        simp only [List.take_zero, val] at hi ⊢
        rw [rvGo, if_neg (by omega), if_neg (by intro h; have := hi h.2; omega)]
        simp
      | succ k =>
        have hr : 0 < r.length := by simp at hs; omega
        match r, hr with
        | d :: r, _ =>
          rw [List.take_succ_cons] at hc hi ⊢
          simp only [can, Bool.and_eq_true, decide_eq_true_eq] at hc
          rw [rvGo, if_pos hc.1.1, ih f (i + 1) _ (d :: r) (by omega) (by omega) (by simp at hs ⊢; omega) (by rw [List.take_succ_cons]; exact hc.1.2) (fun _ => by rw [List.take_succ_cons]; exact hc.2)]
          rw [List.take_succ_cons]
          refine Prod.ext ?_ (by show i + 1 + (k + 1) = i + (k + 1 + 1); omega)
          show acc + c.toNat % 128 * 128 ^ i + val (d :: r.take k) * 128 ^ (i + 1) = acc + (c.toNat % 128 + 128 * val (d :: r.take k)) * 128 ^ i
          rw [Nat.pow_succ, Nat.add_mul, ← Nat.add_assoc]
          congr 1
          rw [Nat.mul_comm 128, Nat.mul_assoc, Nat.mul_comm (128 ^ i) 128]

theorem readVarL_can {k : Nat} {s : List UInt8} (h1 : 1 ≤ k) (h7 : k ≤ 7) (hs : k ≤ s.length) (hc : can (s.take k) = true) : readVarL s = (val (s.take k), k) := by
  have := rvGo_can k 7 0 0 s h1 h7 hs hc (by omega)
  simpa [readVarL] using this

/-- What rvGo finds is a varint. -/
theorem rvGo_found : ∀ (f i acc : Nat) (s : List UInt8), (rvGo f i acc s).2 ≠ 0 → ∃ k, 1 ≤ k ∧ k ≤ f ∧ k ≤ s.length ∧ can (s.take k) = true ∧ (0 < i → val (s.take k) ≠ 0) ∧ rvGo f i acc s = (acc + val (s.take k) * 128 ^ i, i + k) := by
  intro f
  induction f with
  | zero => intro i acc s h; simp [rvGo] at h
  | succ f ih =>
    intro i acc s h
    match s, h with
    | [], h => simp [rvGo] at h
    | c :: r, h =>
      rw [rvGo] at h ⊢
      by_cases hc : 128 ≤ c.toNat
      · rw [if_pos hc] at h ⊢
        obtain ⟨k, h1, h2, h3, h4, h5, h6⟩ := ih _ _ _ h
        match k, r, h1, h3 with
        | k + 1, d :: r, _, h3 =>
        refine ⟨k + 2, by omega, by omega, by simp at h3 ⊢; omega, ?_, ?_, ?_⟩
        · rw [List.take_succ_cons] at h4 h5
          rw [List.take_succ_cons, List.take_succ_cons]
          simp only [can, Bool.and_eq_true, decide_eq_true_eq]
          exact ⟨⟨hc, h4⟩, h5 (by omega)⟩
        · intro _
          have h5 := h5 (by omega)
          rw [List.take_succ_cons] at h5
          rw [List.take_succ_cons, List.take_succ_cons]
          simp only [val] at h5 ⊢; omega
        · rw [h6]
          rw [List.take_succ_cons, List.take_succ_cons]
          refine Prod.ext ?_ (by show i + 1 + (k + 1) = i + (k + 1 + 1); omega)
          show acc + c.toNat % 128 * 128 ^ i + val (d :: r.take k) * 128 ^ (i + 1) = acc + (c.toNat % 128 + 128 * val (d :: r.take k)) * 128 ^ i
          rw [Nat.pow_succ, Nat.add_mul, ← Nat.add_assoc]
          congr 1
          rw [Nat.mul_comm 128, Nat.mul_assoc, Nat.mul_comm (128 ^ i) 128]
      · rw [if_neg hc] at h ⊢
        by_cases hz : c.toNat = 0 ∧ 0 < i
        · rw [if_pos hz] at h; simp at h
        · rw [if_neg hz]
          refine ⟨1, by omega, by omega, by simp, by simp [can]; omega, ?_, by simp [val]⟩
          intro hi; simp [val]; omega

theorem readVarL_none {s : List UInt8} (h : ∀ k, 1 ≤ k → k ≤ 7 → k ≤ s.length → can (s.take k) = false) : readVarL s = (0, 0) := by
  by_cases h0 : (readVarL s).2 = 0
  · -- the second is 0, so the first is 0 too
    have key : ∀ (f i acc : Nat) (s : List UInt8), (rvGo f i acc s).2 = 0 → rvGo f i acc s = (0, 0) := by
      intro f
      induction f with
      | zero => intro i acc s _; rfl
      | succ f ih =>
        intro i acc s h
        match s, h with
        | [], _ => rfl
        | c :: r, h =>
          rw [rvGo] at h ⊢
          split
          · rename_i hc; rw [if_pos hc] at h; exact ih _ _ _ h
          · rename_i hc; rw [if_neg hc] at h
            split
            · rfl
            · rename_i hz; rw [if_neg hz] at h; simp at h
    exact key _ _ _ _ h0
  · obtain ⟨k, h1, h2, h3, h4, _, _⟩ := rvGo_found 7 0 0 s h0
    rw [h k h1 h2 h3] at h4; cases h4
end Sp
end Go.Proofs.YtfbbdnicplbmdaaDoor
