
/- Plain: entries in order with one put in. No program in sight. -/
import Derived.Test.YtfbbdnicplbmdaaMemQ
set_option linter.unusedVariables false
set_option linter.unusedSimpArgs false
namespace Go.Proofs.Ytfbbdnicplbmdaa
open Go.RowKit Sp
namespace Sp
section
variable {α : Type}
def insAt (l : List α) (p : Nat) (x : α) : List α := l.take p ++ x :: l.drop p
def outG (l : List α) (x : α) (p k : Nat) : List α := if k ≤ p then l.take k else l.take p ++ x :: (l.take k).drop p
theorem insAt_length (l : List α) (p : Nat) (x : α) (hp : p ≤ l.length) : (insAt l p x).length = l.length + 1 := by
  simp [insAt]; omega
theorem outG_le (l : List α) (x : α) (p k : Nat) : (outG l x p k).length ≤ l.length + 1 := by
  unfold outG; split <;> simp <;> omega
theorem outG_step {l : List α} {x : α} {p k : Nat} (h : k < l.length) (hp : k ≠ p) : outG l x p (k + 1) = outG l x p k ++ [l[k]] := by
  unfold outG
  by_cases h1 : k + 1 ≤ p
  · rw [if_pos h1, if_pos (by omega), List.take_succ_eq_append_getElem h]
  · rw [if_neg h1, if_neg (by omega), List.take_succ_eq_append_getElem h, List.drop_append_of_le_length (by simp; omega)]
    simp
theorem outG_put {l : List α} {x : α} {p k : Nat} (h : k < l.length) (hp : k = p) : outG l x p (k + 1) = (outG l x p k ++ [x]) ++ [l[k]] := by
  subst hp
  unfold outG
  rw [if_neg (by omega), if_pos (Nat.le_refl _), List.take_succ_eq_append_getElem h, List.drop_append_of_le_length (by simp; omega)]
  simp
theorem outG_end (l : List α) (x : α) (p : Nat) (h : p < l.length) : outG l x p l.length = insAt l p x := by
  unfold outG insAt
  rw [if_neg (by omega), List.take_length]
theorem outG_last (l : List α) (x : α) (p : Nat) (hp : p ≤ l.length) (h : ¬ p < l.length) : outG l x p l.length ++ [x] = insAt l p x := by
  have e : p = l.length := by omega
  subst e
  unfold outG insAt
  rw [if_pos (Nat.le_refl _)]
  simp
theorem insAt_lo (l : List α) (p : Nat) (x : α) (hp : p ≤ l.length) (j : Nat) (h : j < p) (hj : j < (insAt l p x).length) : (insAt l p x)[j] = l[j]'(by omega) := by
  simp only [insAt]
  rw [List.getElem_append_left (by simp; omega)]
  simp
theorem insAt_at (l : List α) (p : Nat) (x : α) (hp : p ≤ l.length) (hj : p < (insAt l p x).length) : (insAt l p x)[p] = x := by
  simp only [insAt]
  rw [List.getElem_append_right (by rw [List.length_take]; omega)]
  simp only [List.length_take, Nat.min_eq_left hp, Nat.sub_self, List.getElem_cons_zero]
theorem insAt_hi (l : List α) (p : Nat) (x : α) (hp : p ≤ l.length) (j : Nat) (h : p ≤ j) (hj : j + 1 < (insAt l p x).length) (hl : j < l.length) : (insAt l p x)[j + 1] = l[j] := by
  simp only [insAt]
  rw [List.getElem_append_right (by rw [List.length_take]; omega)]
  simp only [List.length_take, Nat.min_eq_left hp]
  have e : j + 1 - p = (j - p) + 1 := by omega
  simp only [e, List.getElem_cons_succ, List.getElem_drop]
  congr 1; omega
end
theorem ahead_irr (a : EntR) : aheadB a a = false := by simp [aheadB, less_irrefl]
theorem ahead_asymm {a b : EntR} (h : aheadB a b = true) : aheadB b a = false := by
  rcases hb : aheadB b a with _ | _
  · rfl
  · have := ahead_trans h hb
    rw [ahead_irr] at this
    cases this
theorem cmpE_zero (a b : EntR) : (cmpE a b == 0) = (!aheadB a b && !aheadB b a) := by
  unfold cmpE aheadB cmpS cmpI orI
  rcases less_total a.key b.key with h | h | h
  · have h1 := less_asymm h
    simp [h]
  · have h1 : less a.key b.key = false := by unfold less; rw [h, bytesLess_eq]; exact decide_eq_false (List.lt_irrefl _)
    have h2 : less b.key a.key = false := by unfold less; rw [h, bytesLess_eq]; exact decide_eq_false (List.lt_irrefl _)
    simp only [h1, h2, h, beq_self_eq_true, Bool.false_or, Bool.true_and]
    by_cases h3 : b.seq < a.seq
    · simp [h3]
    · by_cases h4 : a.seq < b.seq <;> simp [h3, h4]
  · have h1 := less_asymm h
    simp [h, h1]
def posE : List EntR → EntR → Nat
  | [], _ => 0
  | x :: l, e => if aheadB e x then 0 else posE l e + 1
theorem posE_le : ∀ (l : List EntR) (e : EntR), posE l e ≤ l.length
  | [], _ => Nat.le_refl _
  | x :: l, e => by unfold posE; have := posE_le l e; split <;> simp; omega
theorem posE_lt : ∀ (l : List EntR) (e : EntR) (j : Nat) (hj : j < l.length), j < posE l e → aheadB e l[j] = false
  | [], _, j, hj, _ => by simp at hj
  | x :: l, e, 0, _, h => by unfold posE at h; split at h <;> first | omega | (rename_i hx; simpa using hx)
  | x :: l, e, j + 1, hj, h => by
    unfold posE at h
    split at h
    · omega
    · simpa using posE_lt l e j (by simpa using hj) (by omega)
theorem posE_at : ∀ (l : List EntR) (e : EntR) (h : posE l e < l.length), aheadB e l[posE l e] = true
  | [], _, h => by simp at h
  | x :: l, e, h => by
    by_cases hx : aheadB e x = true
    · have e1 : posE (x :: l) e = 0 := by rw [posE, if_pos hx]
      simp only [e1]
      simpa using hx
    · have e1 : posE (x :: l) e = posE l e + 1 := by rw [posE, if_neg hx]
      simp only [e1] at h ⊢
      simpa using posE_at l e (by simpa using h)
def putE (l : List EntR) (e : EntR) : List EntR := insAt l (posE l e) e
theorem putE_length (l : List EntR) (e : EntR) : (putE l e).length = l.length + 1 := insAt_length _ _ _ (posE_le l e)
def putB (l : List EntR) (e : EntR) : Bool := memB l && memB (putE l e)
def memPut (l : List EntR) (e : EntR) : List EntR := if memB l then (if putB l e then putE l e else l) else []
theorem put_eq {l : List EntR} {e : EntR} {k : Nat} (hk : k < l.length) (h : cmpE l[k] e = 0) : memB (putE l e) = false := by
  rcases hm : memB (putE l e) with _ | _
  · rfl
  exfalso
  have hz := cmpE_zero l[k] e
  rw [h] at hz
  simp at hz
  have hp := posE_le l e
  have hl := putE_length l e
  rcases Nat.lt_or_ge k (posE l e) with hlt | hge
  · have := ents_mono hm (i := k) (j := posE l e) hlt (by omega)
    unfold putE at this
    rw [insAt_lo _ _ _ hp _ hlt, insAt_at _ _ _ hp] at this
    rw [hz.1] at this; cases this
  · have := ents_mono hm (i := posE l e) (j := k + 1) (by omega) (by omega)
    unfold putE at this
    rw [insAt_at _ _ _ hp, insAt_hi _ _ _ hp _ hge _ hk] at this
    rw [hz.2] at this; cases this
theorem put_bad {l : List EntR} {e : EntR} (h : entB e = false) : memB (putE l e) = false := by
  rcases hm : memB (putE l e) with _ | _
  · rfl
  have hp := posE_le l e
  have hl := putE_length l e
  have hk : posE l e < (putE l e).length := by omega
  have := memB_ents hm (posE l e) hk
  have hat : (putE l e)[posE l e] = e := insAt_at _ _ _ hp hk
  rw [entAt_bad hk (by rw [hat]; exact h)] at this
  cases this
theorem put_full {l : List EntR} {e : EntR} (h : l.length = 60) : memB (putE l e) = false := by
  rcases hm : memB (putE l e) with _ | _
  · rfl
  have := memB_len hm
  rw [putE_length] at this
  omega
/-- Where an entry stands or would stand. -/
structure IsPos (l : List EntR) (e : EntR) (q : Nat) : Prop where
  le : q ≤ l.length
  lo : ∀ i (h : i < l.length), i < q → aheadB l[i] e = true
  hi : ∀ i (h : i < l.length), q ≤ i → aheadB l[i] e = false
theorem put_new {l : List EntR} {e : EntR} {q : Nat} (hm : memB l = true) (he : entB e = true) (hl : l.length < 60) (hq : IsPos l e q) (hn : ∀ h : q < l.length, cmpE l[q] e ≠ 0) : posE l e = q ∧ memB (putE l e) = true := by
  have hah : ∀ h : q < l.length, aheadB e l[q] = true := fun h => by
    have h1 := hq.hi q h (Nat.le_refl _)
    have h2 := cmpE_zero l[q] e
    have h3 : (cmpE l[q] e == 0) = false := by simpa using hn h
    rw [h3, h1] at h2
    simpa using h2
  have hp : posE l e = q := by
    rcases Nat.lt_trichotomy (posE l e) q with h | h | h
    · have hlt : posE l e < l.length := by have := hq.le; omega
      have h1 := posE_at l e hlt
      have h2 := ahead_asymm (hq.lo _ hlt h)
      rw [h2] at h1; cases h1
    · exact h
    · have hlt : q < l.length := by have := posE_le l e; omega
      have h1 := posE_lt l e q hlt h
      rw [hah hlt] at h1; cases h1
  refine ⟨hp, ?_⟩
  have hln := putE_length l e
  unfold putE at hln ⊢
  rw [hp] at hln ⊢
  have hle := hq.le
  simp only [memB, Bool.and_eq_true, decide_eq_true_eq]
  refine ⟨by rw [hln]; omega, entsB_true fun j hj => ?_⟩
  rcases Nat.lt_trichotomy j q with h | h | h
  · have g1 := insAt_lo l q e hle j h hj
    have hjl : j < l.length := by omega
    have h1 := memB_ents hm j hjl
    by_cases h0 : j = 0
    · rw [entAt_first hj h0, g1, ← entAt_first hjl h0]; exact h1
    · rw [entAt_next hj h0 (by omega), g1, insAt_lo l q e hle (j - 1) (by omega) (by omega), ← entAt_next hjl h0 (by omega)]; exact h1
  · subst h
    have g1 := insAt_at l j e hle hj
    by_cases h0 : j = 0
    · rw [entAt_first hj h0, g1]; exact he
    · rw [entAt_next hj h0 (by omega), g1, insAt_lo l j e hle (j - 1) (by omega) (by omega), he, hq.lo (j - 1) (by omega) (by omega)]; rfl
  · obtain ⟨i, rfl⟩ : ∃ i, j = i + 1 := ⟨j - 1, by omega⟩
    have hil : i < l.length := by omega
    have g1 := insAt_hi l q e hle i (by omega) hj hil
    have h1 := memB_ents hm i hil
    have hb : entB l[i] = true := by
      by_cases h0 : i = 0
      · rw [entAt_first hil h0] at h1; exact h1
      · rw [entAt_next hil h0 (by omega)] at h1; simp at h1; exact h1.1
    rw [entAt_next hj (by omega) (by omega), g1, hb, Bool.true_and]
    simp only [Nat.add_sub_cancel]
    by_cases hiq : i = q
    · subst hiq
      rw [insAt_at l i e hle]; exact hah hil
    · obtain ⟨k, rfl⟩ : ∃ k, i = k + 1 := ⟨i - 1, by omega⟩
      rw [insAt_hi l q e hle k (by omega) _ (by omega)]
      exact ents_mono hm (by omega) hil
theorem memPut_len (l : List EntR) (e : EntR) (l0 : (l.length : Int) ≤ 1048576) : ((memPut l e).length : Int) ≤ 1048576 := by
  unfold memPut
  split
  · split
    · rename_i _ h
      simp only [putB, Bool.and_eq_true] at h
      have := memB_len h.2
      omega
    · exact l0
  · simp
/-- The halves of a search. -/
theorem half_lo {l : List EntR} {e : EntR} {i m : Nat} (hm : memB l = true) (h : m < l.length) (ha : aheadB l[m] e = true) : ∀ t (ht : t < l.length), t < m + 1 → aheadB l[t] e = true := by
  intro t ht htm
  by_cases h2 : t = m
  · subst h2; exact ha
  · exact ahead_trans (ents_mono hm (by omega) h) ha
theorem half_hi {l : List EntR} {e : EntR} {m : Nat} (hm : memB l = true) (h : m < l.length) (ha : aheadB l[m] e = false) : ∀ t (ht : t < l.length), m ≤ t → aheadB l[t] e = false := by
  intro t ht htm
  by_cases h2 : m = t
  · subst h2; exact ha
  · rcases hx : aheadB l[t] e with _ | _
    · rfl
    · have := ahead_trans (ents_mono hm (show m < t by omega) ht) hx
      rw [ha] at this; cases this
end Sp
end Go.Proofs.Ytfbbdnicplbmdaa
