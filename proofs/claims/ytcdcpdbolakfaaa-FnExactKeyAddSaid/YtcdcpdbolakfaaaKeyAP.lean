/- Plain: a key device with one slot added. -/
import Derived.Test.YtcdcpdbolakfaaaKeyWP
set_option linter.unusedVariables false
set_option linter.unusedSimpArgs false
namespace Go.Proofs.Ytcdcpdbolakfaaa
open Go.RowKit Sp Go.Sort
namespace Sp
def posOf : List SlotR → Int → Nat
  | [], _ => 0
  | x :: l, n => if x.ten < n then posOf l n + 1 else 0
theorem posOf_le : ∀ (l : List SlotR) (n : Int), posOf l n ≤ l.length
  | [], _ => Nat.le_refl _
  | x :: l, n => by unfold posOf; have := posOf_le l n; split <;> simp; omega
theorem posOf_lt : ∀ (l : List SlotR) (n : Int) (j : Nat) (hj : j < l.length), j < posOf l n → l[j].ten < n
  | [], _, j, hj, _ => by simp at hj
  | x :: l, n, 0, _, h => by unfold posOf at h; split at h <;> first | simpa | omega
  | x :: l, n, j + 1, hj, h => by
    unfold posOf at h
    split at h
    · simpa using posOf_lt l n j (by simpa using hj) (by omega)
    · omega
theorem posOf_at : ∀ (l : List SlotR) (n : Int) (h : posOf l n < l.length), n ≤ l[posOf l n].ten
  | [], _, h => by simp at h
  | x :: l, n, h => by
    by_cases hx : x.ten < n
    · have e : posOf (x :: l) n = posOf l n + 1 := by rw [posOf, if_pos hx]
      simp only [e] at h ⊢
      simpa using posOf_at l n (by simpa using h)
    · have e : posOf (x :: l) n = 0 := by rw [posOf, if_neg hx]
      simp only [e]
      simpa using hx
def addS (l : List SlotR) (n : Int) (key : ByteArray) : List SlotR := l.take (posOf l n) ++ ⟨n, key⟩ :: l.drop (posOf l n)
theorem addS_length (l : List SlotR) (n : Int) (key : ByteArray) : (addS l n key).length = l.length + 1 := by
  have := posOf_le l n
  simp [addS]; omega
/-- What the loop has built behind k rounds. -/
def outAt (l : List SlotR) (n : Int) (key : ByteArray) (k : Nat) : List SlotR := if k ≤ posOf l n then l.take k else l.take (posOf l n) ++ ⟨n, key⟩ :: (l.take k).drop (posOf l n)
theorem outAt_le (l : List SlotR) (n : Int) (key : ByteArray) (k : Nat) : (outAt l n key k).length ≤ l.length + 1 := by
  have := posOf_le l n
  unfold outAt; split <;> simp <;> omega
theorem outAt_step {l : List SlotR} {n : Int} {key : ByteArray} {k : Nat} (h : k < l.length) (hp : k ≠ posOf l n) : outAt l n key (k + 1) = outAt l n key k ++ [l[k]] := by
  unfold outAt
  by_cases h1 : k + 1 ≤ posOf l n
  · rw [if_pos h1, if_pos (by omega), List.take_succ_eq_append_getElem h]
  · rw [if_neg h1, if_neg (by omega), List.take_succ_eq_append_getElem h, List.drop_append_of_le_length (by simp; omega)]
    simp
theorem outAt_put {l : List SlotR} {n : Int} {key : ByteArray} {k : Nat} (h : k < l.length) (hp : k = posOf l n) : outAt l n key (k + 1) = (outAt l n key k ++ [⟨n, key⟩]) ++ [l[k]] := by
  unfold outAt
  rw [if_neg (by omega), if_pos (by omega), List.take_succ_eq_append_getElem h, List.drop_append_of_le_length (by simp; omega), ← hp]
  simp
theorem outAt_end (l : List SlotR) (n : Int) (key : ByteArray) (h : posOf l n < l.length) : outAt l n key l.length = addS l n key := by
  unfold outAt addS
  rw [if_neg (by omega), List.take_length]
theorem outAt_last (l : List SlotR) (n : Int) (key : ByteArray) (h : ¬ posOf l n < l.length) : outAt l n key l.length ++ [⟨n, key⟩] = addS l n key := by
  have := posOf_le l n
  have e : posOf l n = l.length := by omega
  unfold outAt addS
  rw [if_pos (by omega), e]
  simp
def keyAddS (d : KeyDevR) (n : Int) (key : ByteArray) : KeyDevR := ⟨d.master, addS d.slots n key, d.wiped⟩
def addB (d : KeyDevR) (n : Int) (key : ByteArray) : Bool := keyDevB d && keyDevB (keyAddS d n key)
def keyAdd (d : KeyDevR) (n : Int) (key : ByteArray) : KeyDevR := if keyDevB d then (if addB d n key then keyAddS d n key else d) else noKeys
theorem keyAdd_dup {d : KeyDevR} {n : Int} {key : ByteArray} {k : Nat} (hk : k < d.slots.length) (he : d.slots[k].ten = n) : keyDevB (keyAddS d n key) = false := by
  rcases hb : keyDevB (keyAddS d n key) with _ | _
  · rfl
  exfalso
  have hple := posOf_le d.slots n
  have hp : posOf d.slots n ≤ k := by
    rcases Nat.lt_or_ge k (posOf d.slots n) with h | h
    · have := posOf_lt d.slots n k hk h; omega
    · exact h
  have hl : (keyAddS d n key).slots.length = d.slots.length + 1 := addS_length _ _ _
  have := keyDevB_mono hb (i := posOf d.slots n) (j := k + 1) (by omega) (by omega)
  simp only [keyAddS, addS] at this
  rw [List.getElem_append_right (by rw [List.length_take]; omega), List.getElem_append_right (by rw [List.length_take]; omega)] at this
  simp only [List.length_take, Nat.min_eq_left hple, Nat.sub_self, List.getElem_cons_zero] at this
  have e : k + 1 - posOf d.slots n = (k - posOf d.slots n) + 1 := by omega
  simp only [e, List.getElem_cons_succ, List.getElem_drop] at this
  have e2 : posOf d.slots n + (k - posOf d.slots n) = k := by omega
  simp only [e2] at this
  omega
theorem keyAdd_len (d : KeyDevR) (n : Int) (key : ByteArray) (l0 : (d.slots.length : Int) ≤ 1048576) : ((keyAdd d n key).slots.length : Int) ≤ 1048576 := by
  unfold keyAdd
  split
  · split
    · rename_i _ h
      simp only [addB, Bool.and_eq_true] at h
      have := keyDevB_heads h.2
      omega
    · exact l0
  · simp [noKeys]
end Sp
end Go.Proofs.Ytcdcpdbolakfaaa
