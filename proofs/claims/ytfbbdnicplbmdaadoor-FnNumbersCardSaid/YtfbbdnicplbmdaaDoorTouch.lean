
/- Plain and laws: a row of one's own that is written record by record, with other blocks laid in between. -/
import Derived.Test.YtfbbdnicplbmdaaDoorLaws
import Derived.Test.YtfbbdnicplbmdaaDoorRep
import Derived.Test.YtfbbdnicplbmdaaDoorSlices
set_option linter.unusedVariables false
set_option linter.unusedSimpArgs false
namespace Go.Proofs.YtfbbdnicplbmdaaDoor
open Go.RowKit Sp
theorem touch_refl (w : World) (g : Nat) : w.grownBy w (some g) := ⟨rfl, rfl, rfl, Nat.le_refl _, fun k _ _ => rfl⟩
theorem touch_below {w wr w1 : World} {g : Nat} (h : w.grownBy wr (some g)) (b : Below wr.heap.size wr w1) : w.grownBy w1 (some g) :=
  ⟨b.os.trans h.os, b.tape.trans h.tape, b.output.trans h.output, Nat.le_trans h.size b.size, fun k hk hne => (b.block k (Nat.lt_of_lt_of_le hk h.size)).trans (h.block k hk hne)⟩
theorem touch_set {w wr : World} {g : Nat} (h : w.grownBy wr (some g)) (o : Nat) (u : Value) : w.grownBy (wr.setCell ⟨g, o, none⟩ u) (some g) :=
  ⟨h.os, h.tape, h.output, by simp [World.setCell]; exact h.size, fun k hk hne => (Below.heap_setCell _ _ _ _ (by intro he; exact hne (congrArg some he))).trans (h.block k hk hne)⟩
/-- A slice of records in another block reads as before. -/
theorem SlT.touch {α : Type} {enc : α → List Value} {size : Nat} {w w' : World} {v : Value} {l : List α} {g : Nat} (h : SlT enc size w v l) (ht : w.grownBy w' (some g)) (hg : ∀ a n c, v = .slice (some a) n c → 0 < n → a.block ≠ g) : SlT enc size w' v l := by
  obtain ⟨ao, cap, hv, hc, hm, hh⟩ := h
  refine ⟨ao, cap, hv, hc, hm, fun hl => ?_⟩
  obtain ⟨b, off, ha, hlt, hcell⟩ := hh hl
  have hne : b ≠ g := by rw [ha] at hv; exact hg _ _ _ hv hl
  have hb : w'.heap[b]? = w.heap[b]? := ht.block b hlt (by simpa using hne)
  refine ⟨b, off, ha, Nat.lt_of_lt_of_le hlt ht.size, fun i cs hi j u hj => ?_⟩
  have := hcell i cs hi j u hj
  simp only [World.cell?] at this ⊢
  rw [hb]; exact this
section
variable {ll : List (List Value)}
theorem set_row2 (hs : ∀ c ∈ ll, c.length = 2) (k : Nat) (hk : k < ll.length) (u0 u1 : Value) : ((ll.flatten.set (k * 2) u0).set (k * 2 + 1) u1) = (ll.set k [u0, u1]).flatten := by
  have hl := hs ll[k] (List.getElem_mem _)
  have h0 := flat_set ll hs k hk 0 (by omega) u0
  rw [Nat.add_zero] at h0
  rw [h0]
  rw [flat_set (ll.set k (ll[k].set 0 u0)) (set_size hs k _ (by simp [hl])) k (by simp; exact hk) 1 (by omega) u1, List.set_set, List.getElem_set_self]
  have e1 : ((ll[k].set 0 u0).set 1 u1) = [u0, u1] := by
    match ll[k], hl with
    | [_, _], _ => rfl
  rw [e1]
theorem set_row3 (hs : ∀ c ∈ ll, c.length = 3) (k : Nat) (hk : k < ll.length) (u0 u1 u2 : Value) : (((ll.flatten.set (k * 3) u0).set (k * 3 + 1) u1).set (k * 3 + 2) u2) = (ll.set k [u0, u1, u2]).flatten := by
  have hl := hs ll[k] (List.getElem_mem _)
  have h0 := flat_set ll hs k hk 0 (by omega) u0
  rw [Nat.add_zero] at h0
  rw [h0]
  rw [flat_set (ll.set k (ll[k].set 0 u0)) (set_size hs k _ (by simp [hl])) k (by simp; exact hk) 1 (by omega) u1, List.set_set, List.getElem_set_self]
  rw [flat_set (ll.set k ((ll[k].set 0 u0).set 1 u1)) (set_size hs k _ (by simp [hl])) k (by simp; exact hk) 2 (by omega) u2, List.set_set, List.getElem_set_self]
  have e1 : (((ll[k].set 0 u0).set 1 u1).set 2 u2) = [u0, u1, u2] := by
    match ll[k], hl with
    | [_, _, _], _ => rfl
  rw [e1]
theorem set_row4 (hs : ∀ c ∈ ll, c.length = 4) (k : Nat) (hk : k < ll.length) (u0 u1 u2 u3 : Value) : ((((ll.flatten.set (k * 4) u0).set (k * 4 + 1) u1).set (k * 4 + 2) u2).set (k * 4 + 3) u3) = (ll.set k [u0, u1, u2, u3]).flatten := by
  have hl := hs ll[k] (List.getElem_mem _)
  have h0 := flat_set ll hs k hk 0 (by omega) u0
  rw [Nat.add_zero] at h0
  rw [h0]
  rw [flat_set (ll.set k (ll[k].set 0 u0)) (set_size hs k _ (by simp [hl])) k (by simp; exact hk) 1 (by omega) u1, List.set_set, List.getElem_set_self]
  rw [flat_set (ll.set k ((ll[k].set 0 u0).set 1 u1)) (set_size hs k _ (by simp [hl])) k (by simp; exact hk) 2 (by omega) u2, List.set_set, List.getElem_set_self]
  rw [flat_set (ll.set k (((ll[k].set 0 u0).set 1 u1).set 2 u2)) (set_size hs k _ (by simp [hl])) k (by simp; exact hk) 3 (by omega) u3, List.set_set, List.getElem_set_self]
  have e1 : ((((ll[k].set 0 u0).set 1 u1).set 2 u2).set 3 u3) = [u0, u1, u2, u3] := by
    match ll[k], hl with
    | [_, _, _, _], _ => rfl
  rw [e1]
theorem set_row5 (hs : ∀ c ∈ ll, c.length = 5) (k : Nat) (hk : k < ll.length) (u0 u1 u2 u3 u4 : Value) : (((((ll.flatten.set (k * 5) u0).set (k * 5 + 1) u1).set (k * 5 + 2) u2).set (k * 5 + 3) u3).set (k * 5 + 4) u4) = (ll.set k [u0, u1, u2, u3, u4]).flatten := by
  have hl := hs ll[k] (List.getElem_mem _)
  have h0 := flat_set ll hs k hk 0 (by omega) u0
  rw [Nat.add_zero] at h0
  rw [h0]
  rw [flat_set (ll.set k (ll[k].set 0 u0)) (set_size hs k _ (by simp [hl])) k (by simp; exact hk) 1 (by omega) u1, List.set_set, List.getElem_set_self]
  rw [flat_set (ll.set k ((ll[k].set 0 u0).set 1 u1)) (set_size hs k _ (by simp [hl])) k (by simp; exact hk) 2 (by omega) u2, List.set_set, List.getElem_set_self]
  rw [flat_set (ll.set k (((ll[k].set 0 u0).set 1 u1).set 2 u2)) (set_size hs k _ (by simp [hl])) k (by simp; exact hk) 3 (by omega) u3, List.set_set, List.getElem_set_self]
  rw [flat_set (ll.set k ((((ll[k].set 0 u0).set 1 u1).set 2 u2).set 3 u3)) (set_size hs k _ (by simp [hl])) k (by simp; exact hk) 4 (by omega) u4, List.set_set, List.getElem_set_self]
  have e1 : (((((ll[k].set 0 u0).set 1 u1).set 2 u2).set 3 u3).set 4 u4) = [u0, u1, u2, u3, u4] := by
    match ll[k], hl with
    | [_, _, _, _, _], _ => rfl
  rw [e1]
end
end Go.Proofs.YtfbbdnicplbmdaaDoor
