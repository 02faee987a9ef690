/- Plain: a key device with one slot wiped. -/
import Derived.Test.YtcdcpdbolakfaaaKeyG
set_option linter.unusedVariables false
set_option linter.unusedSimpArgs false
namespace Go.Proofs.Ytcdcpdbolakfaaa
open Go.RowKit Sp Go.Sort
namespace Sp
def noKeys : KeyDevR := ⟨ByteArray.empty, [], 0⟩
def others (l : List SlotR) (n : Int) : List SlotR := l.filter (fun x => x.ten != n)
def wipeB (d : KeyDevR) (n : Int) : Bool := keyDevB d && (!((others d.slots n).length == d.slots.length) && decide (d.wiped < 1000000))
def keyWipe (d : KeyDevR) (n : Int) : KeyDevR := if keyDevB d then (if wipeB d n then ⟨d.master, others d.slots n, d.wiped + 1⟩ else d) else noKeys
theorem others_step (l : List SlotR) (n : Int) (k : Nat) (h : k < l.length) : others (l.take (k + 1)) n = if l[k].ten = n then others (l.take k) n else others (l.take k) n ++ [l[k]] := by
  unfold others
  rw [List.take_succ_eq_append_getElem h, List.filter_append]
  by_cases hk : l[k].ten = n <;> simp [hk]
theorem others_le (l : List SlotR) (n : Int) : (others l n).length ≤ l.length := List.length_filter_le _ _
theorem others_none {l : List SlotR} {n : Int} (hno : ∀ i (hi : i < l.length), l[i].ten ≠ n) : others l n = l := by
  unfold others
  rw [List.filter_eq_self]
  intro x hx
  obtain ⟨i, hi, rfl⟩ := List.getElem_of_mem hx
  simpa using hno i hi
theorem others_lt {l : List SlotR} {n : Int} {k : Nat} (hk : k < l.length) (he : l[k].ten = n) : (others l n).length < l.length := by
  unfold others
  refine Nat.lt_of_le_of_ne (List.length_filter_le _ _) fun h => ?_
  have := List.length_filter_eq_length_iff.1 h l[k] (List.getElem_mem _)
  simp [he] at this
theorem keyDevB_slot {d : KeyDevR} (h : keyDevB d = true) {k : Nat} (hk : k < d.slots.length) : slotAt d.slots k = true := by
  have h2 : allIx d.slots.length (slotAt d.slots) = true := by simp [keyDevB] at h; exact h.2
  exact allIx_spec h2 k hk
theorem keyDevB_heads {d : KeyDevR} (h : keyDevB d = true) : d.slots.length ≤ 4 ∧ 0 ≤ d.wiped ∧ d.wiped ≤ 1000000 := by
  have : keyHead d = true := by simp [keyDevB] at h; exact h.1
  simp [keyHead, inB] at this
  omega
theorem keyDevB_mono {d : KeyDevR} (h : keyDevB d = true) {i j : Nat} (hij : i < j) (hj : j < d.slots.length) : (d.slots[i]'(by omega)).ten < d.slots[j].ten := by
  induction j with
  | zero => omega
  | succ j ih =>
    have hs := keyDevB_slot h hj
    rw [slotAt_next hj (by omega) (by omega)] at hs
    simp at hs
    rcases Nat.lt_or_ge i j with hlt | hge
    · exact Int.lt_trans (ih hlt (by omega)) hs.2
    · obtain rfl : i = j := by omega
      exact hs.2
theorem others_cut {d : KeyDevR} (h : keyDevB d = true) {n : Int} {k : Nat} (hk : k < d.slots.length) (he : d.slots[k].ten = n) : others d.slots n = d.slots.take k ++ d.slots.drop (k + 1) := by
  have e : d.slots = d.slots.take k ++ (d.slots[k] :: d.slots.drop (k + 1)) := by rw [← List.drop_eq_getElem_cons hk, List.take_append_drop]
  have h1 : others (d.slots.take k) n = d.slots.take k := others_none fun i hi => by
    simp at hi
    have := keyDevB_mono h (i := i) (j := k) (by omega) hk
    simp only [List.getElem_take]; omega
  have h2 : others (d.slots.drop (k + 1)) n = d.slots.drop (k + 1) := others_none fun i hi => by
    simp at hi
    have := keyDevB_mono h (i := k) (j := k + 1 + i) (by omega) (by omega)
    simp only [List.getElem_drop]; omega
  unfold others at *
  conv => lhs; rw [e]
  rw [List.filter_append, List.filter_cons, h1, h2]
  simp [he]
theorem keyWipe_len (d : KeyDevR) (n : Int) (l0 : (d.slots.length : Int) ≤ 1048576) : ((keyWipe d n).slots.length : Int) ≤ 1048576 := by
  have := others_le d.slots n
  unfold keyWipe
  split
  · split
    · simp only []; omega
    · exact l0
  · simp [noKeys]
end Sp
end Go.Proofs.Ytcdcpdbolakfaaa
