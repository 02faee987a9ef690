
/- Plain: what makes keys, values and maps right. -/
import Derived.Test.YtfbbdnicplbmdaaRep
import Derived.Sort.Walk0
set_option linter.unusedVariables false
set_option linter.unusedSimpArgs false
namespace Go.Proofs.Ytfbbdnicplbmdaa
namespace Sp
/-- Is a test true at every index below n? -/
def allIx (n : Nat) (p : Nat → Bool) : Bool := (List.range n).all p
theorem allIx_true {n : Nat} {p : Nat → Bool} (h : ∀ i, i < n → p i = true) : allIx n p = true := by
  unfold allIx; rw [List.all_eq_true]; intro i hi; exact h i (List.mem_range.1 hi)
theorem allIx_false {n : Nat} {p : Nat → Bool} {i : Nat} (hi : i < n) (h : p i = false) : allIx n p = false := by
  unfold allIx; rw [List.all_eq_false]; exact ⟨i, List.mem_range.2 hi, by simp [h]⟩
theorem allIx_spec {n : Nat} {p : Nat → Bool} (h : allIx n p = true) : ∀ i, i < n → p i = true := by
  unfold allIx at h; rw [List.all_eq_true] at h; intro i hi; exact h i (List.mem_range.2 hi)
/-- Every index below k passes. -/
def AllTo (p : Nat → Bool) (k : Nat) : Prop := ∀ i, i < k → p i = true
theorem AllTo.zero (p : Nat → Bool) : AllTo p 0 := fun i hi => by omega
theorem AllTo.step {p : Nat → Bool} {k : Nat} (h : AllTo p k) (hk : p k = true) : AllTo p (k + 1) := fun i hi => by
  by_cases he : i = k
  · rw [he]; exact hk
  · exact h i (by omega)

/-- Strings in their order. -/
def less (a b : ByteArray) : Bool := Op.bytesLess a.toList b.toList
theorem less_irrefl (a : ByteArray) : less a a = false := by
  unfold less; rw [bytesLess_eq]; exact decide_eq_false (List.lt_irrefl _)
theorem less_asymm {a b : ByteArray} (h : less a b = true) : less b a = false := by
  unfold less at *; rw [bytesLess_eq] at *; simp only [decide_eq_true_eq, decide_eq_false_iff_not] at *
  exact List.lt_asymm h
theorem less_trans {a b c : ByteArray} (h : less a b = true) (h' : less b c = true) : less a c = true := by
  unfold less at *; rw [bytesLess_eq] at *; simp only [decide_eq_true_eq] at *
  exact List.lt_trans h h'
theorem less_total (a b : ByteArray) : less a b = true ∨ a.toList = b.toList ∨ less b a = true := by
  unfold less; simp only [bytesLess_eq, decide_eq_true_eq]
  rcases Decidable.em (a.toList < b.toList) with h | h
  · exact .inl h
  · rcases Decidable.em (b.toList < a.toList) with h' | h'
    · exact .inr (.inr h')
    · exact .inr (.inl (List.le_antisymm (List.not_lt.1 h') (List.not_lt.1 h)))
/-- x <= y is: not y < x. -/
theorem leq_less (a b : ByteArray) : (Op.bytesLess a.toList b.toList || a.toList == b.toList) = !less b a := by
  rcases less_total a b with h | h | h
  · have h2 := less_asymm h
    unfold less at h h2 ⊢; rw [h, h2]; rfl
  · unfold less; rw [h, bytesLess_eq, decide_eq_false (List.lt_irrefl _)]; simp
  · have h2 := less_asymm h
    have h3 : (a.toList == b.toList) = false := by
      rw [beq_eq_false_iff_ne]; intro he
      unfold less at h; rw [he, bytesLess_eq] at h; simp only [decide_eq_true_eq] at h; exact List.lt_irrefl _ h
    unfold less at h h2 ⊢; rw [h, h2, h3]; rfl

/-- A key is right. -/
def keyB (k : ByteArray) : Bool := inB k.size 1 10
/-- A value is right. -/
def valB (v : ByteArray) : Bool := decide ((v.size : Int) ≤ 16)
/-- An operation is right. -/
def opB (k : ByteArray) (d : Bool) (v : ByteArray) : Bool := keyB k && valB v && (!d || v.toList.isEmpty)
def kvB (x : KV) : Bool := keyB x.key && valB x.val
/-- The element at an index is right, and behind the one ahead of it. -/
def kvAt (l : List KV) (i : Nat) : Bool := match l[i]? with
  | some x => kvB x && (match i with | 0 => true | j + 1 => match l[j]? with | some y => less y.key x.key | none => false)
  | none => false
def mapB (l : List KV) : Bool := allIx l.length (kvAt l)
theorem kvAt_zero {l : List KV} (h : 0 < l.length) : kvAt l 0 = kvB l[0] := by simp [kvAt, h]
theorem kvAt_succ {l : List KV} {j : Nat} (h : j + 1 < l.length) : kvAt l (j + 1) = (kvB l[j + 1] && less l[j].key l[j + 1].key) := by
  have hj : j < l.length := by omega
  simp [kvAt, h, hj]
theorem kvAt_bad {l : List KV} {k : Nat} (h : k < l.length) (hb : kvB l[k] = false) : kvAt l k = false := by
  simp [kvAt, h, hb]
theorem kvAt_first {l : List KV} {k : Nat} (h : k < l.length) (h0 : k = 0) : kvAt l k = kvB l[k] := by
  subst h0; exact kvAt_zero h
theorem kvAt_next {l : List KV} {k : Nat} (h : k < l.length) (h0 : k ≠ 0) (hp : k - 1 < l.length) : kvAt l k = (kvB l[k] && less l[k - 1].key l[k].key) := by
  obtain ⟨j, rfl⟩ : ∃ j, k = j + 1 := ⟨k - 1, by omega⟩
  exact kvAt_succ h
theorem kvB_mk {x : KV} (h1 : keyB x.key = true) (h2 : ¬ (16 : Int) < (x.val.size : Int)) : kvB x = true := by simp [kvB, valB, h1]; omega
theorem mapB_true {l : List KV} (h : AllTo (kvAt l) l.length) : mapB l = true := allIx_true h
theorem mapB_false {l : List KV} {k : Nat} (hk : k < l.length) (h : kvAt l k = false) : mapB l = false := allIx_false hk h
end Sp
end Go.Proofs.Ytfbbdnicplbmdaa
