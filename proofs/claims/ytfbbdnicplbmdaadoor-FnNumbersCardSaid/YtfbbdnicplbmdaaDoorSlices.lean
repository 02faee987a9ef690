
/- Plain: sizes of records, rows of a slice that is copied element by element, marks. No program in sight. -/
import Derived.Test.YtfbbdnicplbmdaaDoorRep
import Derived.WalkKit
set_option linter.unusedVariables false
set_option linter.unusedSimpArgs false
namespace Go.Proofs.YtfbbdnicplbmdaaDoor
open Go.RowKit
theorem ret_int {k : IntKind} {a b : Int} (h : a = b) : Ending.returned (.int k a) = .returned (.int k b) := by rw [h]
namespace Sp
/-- What is left of a purse; -1 where it does not suffice. -/
def dec (left n : Int) : Int := if left - n < 0 then -1 else left - n
theorem dec_neg {left n : Int} (h : left - n < 0) : dec left n = -1 := if_pos h
theorem dec_pos {left n : Int} (h : ¬ left - n < 0) : dec left n = left - n := if_neg h
def sumSz {α : Type} (sz : α → Int) (l : List α) : Int := (l.map sz).sum
theorem sumSz_nonneg {α : Type} {sz : α → Int} (h : ∀ x, 0 ≤ sz x) (l : List α) : 0 ≤ sumSz sz l := by
  unfold sumSz
  induction l with
  | nil => simp
  | cons x l ih => simp only [List.map_cons, List.sum_cons]; have := h x; omega
theorem sumSz_append {α : Type} (sz : α → Int) (a b : List α) : sumSz sz (a ++ b) = sumSz sz a + sumSz sz b := by simp [sumSz]
theorem sumSz_step {α : Type} (sz : α → Int) (l : List α) (k : Nat) (h : k < l.length) : sumSz sz (l.take (k + 1)) = sumSz sz (l.take k) + sz l[k] := by
  rw [List.take_succ_eq_append_getElem h, sumSz_append]; simp [sumSz]
theorem sumSz_take_le {α : Type} {sz : α → Int} (h : ∀ x, 0 ≤ sz x) (l : List α) (k : Nat) : sumSz sz (l.take k) ≤ sumSz sz l := by
  have h1 := sumSz_append sz (l.take k) (l.drop k)
  rw [List.take_append_drop] at h1
  have := sumSz_nonneg h (l.drop k)
  omega
def szOk (s : ByteArray) : Prop := (s.size : Int) ≤ 9223372036854775807
def inI64 (n : Int) : Prop := -9223372036854775808 ≤ n ∧ n ≤ 9223372036854775807
def KV.ok (x : KV) : Prop := szOk x.key ∧ szOk x.val
def KV.sz (x : KV) : Int := x.key.size + x.val.size
theorem KV.sz_nonneg (x : KV) : 0 ≤ x.sz := by unfold KV.sz; omega
def OpR.ok (x : OpR) : Prop := szOk x.key ∧ True ∧ szOk x.val
def OpR.sz (x : OpR) : Int := x.key.size + x.val.size
theorem OpR.sz_nonneg (x : OpR) : 0 ≤ x.sz := by unfold OpR.sz; omega
def EntR.ok (x : EntR) : Prop := szOk x.key ∧ inI64 x.seq ∧ True ∧ szOk x.val
def EntR.sz (x : EntR) : Int := x.key.size + x.val.size
theorem EntR.sz_nonneg (x : EntR) : 0 ≤ x.sz := by unfold EntR.sz; omega
def SlotR.ok (x : SlotR) : Prop := inI64 x.ten ∧ szOk x.key
def SlotR.sz (x : SlotR) : Int := x.key.size
theorem SlotR.sz_nonneg (x : SlotR) : 0 ≤ x.sz := by unfold SlotR.sz; omega
def PutR.ok (x : PutR) : Prop := inI64 x.sec ∧ szOk x.text
def PutR.sz (x : PutR) : Int := x.text.size
theorem PutR.sz_nonneg (x : PutR) : 0 ≤ x.sz := by unfold PutR.sz; omega
def PartR.ok (x : PartR) : Prop := szOk x.last ∧ szOk x.text
def PartR.sz (x : PartR) : Int := x.last.size + x.text.size
theorem PartR.sz_nonneg (x : PartR) : 0 ≤ x.sz := by unfold PartR.sz; omega
def RowR.ok (x : RowR) : Prop := inI64 x.ten ∧ inI64 x.boot ∧ inI64 x.seq ∧ szOk x.text ∧ True
def RowR.sz (x : RowR) : Int := x.text.size
theorem RowR.sz_nonneg (x : RowR) : 0 ≤ x.sz := by unfold RowR.sz; omega

/-- The first k rows are copied, the others still zero. -/
def copied (ll : List (List Value)) (z : List Value) (k : Nat) : List (List Value) := ll.take k ++ List.replicate (ll.length - k) z
theorem copied_zero (ll : List (List Value)) (z : List Value) : copied ll z 0 = List.replicate ll.length z := by simp [copied]
theorem copied_full {ll : List (List Value)} {z : List Value} {k : Nat} (h : ll.length = k) : copied ll z k = ll := by subst h; simp [copied]
theorem copied_step (ll : List (List Value)) (z : List Value) (k : Nat) (h : k < ll.length) : copied ll z (k + 1) = (copied ll z k).set k ll[k] := by
  unfold copied
  rw [List.set_append_right _ _ (by simp; omega)]
  rw [show k - (ll.take k).length = 0 from by simp; omega, show ll.length - k = (ll.length - (k + 1)) + 1 from by omega, List.replicate_succ, List.set_cons_zero]
  rw [List.take_succ_eq_append_getElem h, List.append_assoc]
  rfl
theorem copied_size {ll : List (List Value)} {z : List Value} {k size : Nat} (h : ∀ c ∈ ll, c.length = size) (hz : z.length = size) : ∀ c ∈ copied ll z k, c.length = size := by
  intro c hc
  unfold copied at hc
  rcases List.mem_append.1 hc with h1 | h1
  · exact h c (List.mem_of_mem_take h1)
  · rw [List.eq_of_mem_replicate h1]; exact hz
theorem copied_length {ll : List (List Value)} {z : List Value} {k : Nat} (h : k ≤ ll.length) : (copied ll z k).length = ll.length := by simp [copied]; omega

/-- Setting one cell of a row. -/
theorem flat_set {size : Nat} : ∀ (ll : List (List Value)), (∀ c ∈ ll, c.length = size) → ∀ (k : Nat) (hk : k < ll.length) (j : Nat), j < size → ∀ u, ll.flatten.set (k * size + j) u = (ll.set k (ll[k].set j u)).flatten
  | [], _, k, hk, _, _, _ => by simp at hk
  | c :: ll, h, 0, _, j, hj, u => by
    have hc := h c (by simp)
    rw [List.flatten_cons, Nat.zero_mul, Nat.zero_add, List.set_append_left _ _ (by omega)]
    simp
  | c :: ll, h, k + 1, hk, j, hj, u => by
    have hc := h c (by simp)
    rw [List.flatten_cons, List.set_append_right _ _ (by rw [hc, Nat.succ_mul]; omega), hc]
    rw [show (k + 1) * size + j - size = k * size + j from by rw [Nat.succ_mul]; omega]
    rw [flat_set ll (fun c hc => h c (by simp [hc])) k (by simpa using hk) j hj u]
    simp
end Sp
open Sp
theorem own_below {w w' : World} {base e size : Nat} {v : Value} {n : Nat} {xs : List Value} (h : w.ownsRow base e size v n xs) (hb : Below w.heap.size w w') : w'.ownsRow base e size v n xs := by
  refine ⟨h.1, ?_⟩
  rcases h.2 with hn | ⟨g, cap, cur, hv, hb', hg, rest⟩
  · exact .inl hn
  · exact .inr ⟨g, cap, cur, hv, hb', (hb.block g (Array.getElem?_eq_some_iff.1 hg).1).trans hg, rest⟩
theorem own_other {w : World} {base e size : Nat} {v : Value} {n : Nat} {xs : List Value} (h : w.ownsRow base e size v n xs) (p : Addr) (hp : p.block < base) (u : Value) : (w.setCell p u).ownsRow base e size v n xs := by
  refine ⟨h.1, ?_⟩
  rcases h.2 with hn | ⟨g, cap, cur, hv, hb', hg, rest⟩
  · exact .inl hn
  · exact .inr ⟨g, cap, cur, hv, hb', (Below.heap_setCell _ _ _ _ (by omega)).trans hg, rest⟩
theorem own_mono {w : World} {base base' e size : Nat} {v : Value} {n : Nat} {xs : List Value} (h : w.ownsRow base e size v n xs) (hb : base' ≤ base) : w.ownsRow base' e size v n xs := by
  refine ⟨h.1, ?_⟩
  rcases h.2 with hn | ⟨g, cap, cur, hv, hb', rest⟩
  · exact .inl hn
  · exact .inr ⟨g, cap, cur, hv, Nat.le_trans hb hb', rest⟩
theorem madeCells_rows (z : Array Value) (n : Nat) : (madeCells z (n * z.size)).toList = (List.replicate n z.toList).flatten := by
  apply List.ext_getElem?
  intro j
  by_cases hz : z.size = 0
  · have : z = #[] := Array.eq_empty_of_size_eq_zero hz
    subst this; simp [madeCells]
  by_cases hj : j < n * z.size
  · have hd : j / z.size < n := by rw [Nat.div_lt_iff_lt_mul (by omega)]; exact hj
    have hm : j % z.size < z.size := Nat.mod_lt _ (by omega)
    have e := flat_at (size := z.size) (List.replicate n z.toList) (fun cs h => by rw [List.eq_of_mem_replicate h]; simp) (j / z.size) z.toList (by simp [hd]) (j % z.size) z[j % z.size] (by simp [hm])
    rw [show j / z.size * z.size + j % z.size = j from by rw [Nat.mul_comm]; exact Nat.div_add_mod _ _] at e
    rw [e]
    simp [madeCells, hj, hm]
  · have h1 : (madeCells z (n * z.size)).toList.length = n * z.size := by simp [madeCells]
    have h2 : (List.replicate n z.toList).flatten.length = n * z.size := by simp
    rw [List.getElem?_eq_none (by omega), List.getElem?_eq_none (by omega)]
section
variable {w : World} {base e g n cap : Nat} {ll : List (List Value)}
theorem set_size {size : Nat} (hs : ∀ c ∈ ll, c.length = size) (k : Nat) (c : List Value) (hc : c.length = size) : ∀ d ∈ ll.set k c, d.length = size := by
  intro d hd
  rcases List.mem_or_eq_of_mem_set hd with h | h
  · exact hs d h
  · rw [h]; exact hc

theorem own_row1 (h : w.ownsRow base e 1 (.slice (some ⟨g, 0, none⟩) n cap) n ll.flatten) (hs : ∀ c ∈ ll, c.length = 1) (k : Nat) (hk : k < ll.length) (u0 : Value) :
    (w.setCell ⟨g, k * 1, none⟩ u0).ownsRow base e 1 (.slice (some ⟨g, 0, none⟩) n cap) n (ll.set k [u0]).flatten := by
  have hl := hs ll[k] (List.getElem_mem _)
  have h0 := (h.stored (k * 1 + 0) u0).1
  rw [flat_set ll hs k hk 0 (by omega) u0] at h0
  have e1 : (ll[k].set 0 u0) = [u0] := by
    match ll[k], hl with
    | [_], _ => rfl
  rw [e1] at h0
  exact h0

theorem own_row2 (h : w.ownsRow base e 2 (.slice (some ⟨g, 0, none⟩) n cap) n ll.flatten) (hs : ∀ c ∈ ll, c.length = 2) (k : Nat) (hk : k < ll.length) (u0 u1 : Value) :
    ((w.setCell ⟨g, k * 2, none⟩ u0).setCell ⟨g, k * 2 + 1, none⟩ u1).ownsRow base e 2 (.slice (some ⟨g, 0, none⟩) n cap) n (ll.set k [u0, u1]).flatten := by
  have hl := hs ll[k] (List.getElem_mem _)
  have h0 := (h.stored (k * 2 + 0) u0).1
  rw [flat_set ll hs k hk 0 (by omega) u0] at h0
  have h1 := (h0.stored (k * 2 + 1) u1).1
  rw [flat_set (ll.set k (ll[k].set 0 u0)) (set_size hs k _ (by simp [hl])) k (by simp; exact hk) 1 (by omega) u1, List.set_set, List.getElem_set_self] at h1
  have e1 : ((ll[k].set 0 u0).set 1 u1) = [u0, u1] := by
    match ll[k], hl with
    | [_, _], _ => rfl
  rw [e1] at h1
  exact h1

theorem own_row3 (h : w.ownsRow base e 3 (.slice (some ⟨g, 0, none⟩) n cap) n ll.flatten) (hs : ∀ c ∈ ll, c.length = 3) (k : Nat) (hk : k < ll.length) (u0 u1 u2 : Value) :
    (((w.setCell ⟨g, k * 3, none⟩ u0).setCell ⟨g, k * 3 + 1, none⟩ u1).setCell ⟨g, k * 3 + 2, none⟩ u2).ownsRow base e 3 (.slice (some ⟨g, 0, none⟩) n cap) n (ll.set k [u0, u1, u2]).flatten := by
  have hl := hs ll[k] (List.getElem_mem _)
  have h0 := (h.stored (k * 3 + 0) u0).1
  rw [flat_set ll hs k hk 0 (by omega) u0] at h0
  have h1 := (h0.stored (k * 3 + 1) u1).1
  rw [flat_set (ll.set k (ll[k].set 0 u0)) (set_size hs k _ (by simp [hl])) k (by simp; exact hk) 1 (by omega) u1, List.set_set, List.getElem_set_self] at h1
  have h2 := (h1.stored (k * 3 + 2) u2).1
  rw [flat_set (ll.set k ((ll[k].set 0 u0).set 1 u1)) (set_size hs k _ (by simp [hl])) k (by simp; exact hk) 2 (by omega) u2, List.set_set, List.getElem_set_self] at h2
  have e1 : (((ll[k].set 0 u0).set 1 u1).set 2 u2) = [u0, u1, u2] := by
    match ll[k], hl with
    | [_, _, _], _ => rfl
  rw [e1] at h2
  exact h2

theorem own_row4 (h : w.ownsRow base e 4 (.slice (some ⟨g, 0, none⟩) n cap) n ll.flatten) (hs : ∀ c ∈ ll, c.length = 4) (k : Nat) (hk : k < ll.length) (u0 u1 u2 u3 : Value) :
    ((((w.setCell ⟨g, k * 4, none⟩ u0).setCell ⟨g, k * 4 + 1, none⟩ u1).setCell ⟨g, k * 4 + 2, none⟩ u2).setCell ⟨g, k * 4 + 3, none⟩ u3).ownsRow base e 4 (.slice (some ⟨g, 0, none⟩) n cap) n (ll.set k [u0, u1, u2, u3]).flatten := by
  have hl := hs ll[k] (List.getElem_mem _)
  have h0 := (h.stored (k * 4 + 0) u0).1
  rw [flat_set ll hs k hk 0 (by omega) u0] at h0
  have h1 := (h0.stored (k * 4 + 1) u1).1
  rw [flat_set (ll.set k (ll[k].set 0 u0)) (set_size hs k _ (by simp [hl])) k (by simp; exact hk) 1 (by omega) u1, List.set_set, List.getElem_set_self] at h1
  have h2 := (h1.stored (k * 4 + 2) u2).1
  rw [flat_set (ll.set k ((ll[k].set 0 u0).set 1 u1)) (set_size hs k _ (by simp [hl])) k (by simp; exact hk) 2 (by omega) u2, List.set_set, List.getElem_set_self] at h2
  have h3 := (h2.stored (k * 4 + 3) u3).1
  rw [flat_set (ll.set k (((ll[k].set 0 u0).set 1 u1).set 2 u2)) (set_size hs k _ (by simp [hl])) k (by simp; exact hk) 3 (by omega) u3, List.set_set, List.getElem_set_self] at h3
  have e1 : ((((ll[k].set 0 u0).set 1 u1).set 2 u2).set 3 u3) = [u0, u1, u2, u3] := by
    match ll[k], hl with
    | [_, _, _, _], _ => rfl
  rw [e1] at h3
  exact h3

theorem own_row5 (h : w.ownsRow base e 5 (.slice (some ⟨g, 0, none⟩) n cap) n ll.flatten) (hs : ∀ c ∈ ll, c.length = 5) (k : Nat) (hk : k < ll.length) (u0 u1 u2 u3 u4 : Value) :
    (((((w.setCell ⟨g, k * 5, none⟩ u0).setCell ⟨g, k * 5 + 1, none⟩ u1).setCell ⟨g, k * 5 + 2, none⟩ u2).setCell ⟨g, k * 5 + 3, none⟩ u3).setCell ⟨g, k * 5 + 4, none⟩ u4).ownsRow base e 5 (.slice (some ⟨g, 0, none⟩) n cap) n (ll.set k [u0, u1, u2, u3, u4]).flatten := by
  have hl := hs ll[k] (List.getElem_mem _)
  have h0 := (h.stored (k * 5 + 0) u0).1
  rw [flat_set ll hs k hk 0 (by omega) u0] at h0
  have h1 := (h0.stored (k * 5 + 1) u1).1
  rw [flat_set (ll.set k (ll[k].set 0 u0)) (set_size hs k _ (by simp [hl])) k (by simp; exact hk) 1 (by omega) u1, List.set_set, List.getElem_set_self] at h1
  have h2 := (h1.stored (k * 5 + 2) u2).1
  rw [flat_set (ll.set k ((ll[k].set 0 u0).set 1 u1)) (set_size hs k _ (by simp [hl])) k (by simp; exact hk) 2 (by omega) u2, List.set_set, List.getElem_set_self] at h2
  have h3 := (h2.stored (k * 5 + 3) u3).1
  rw [flat_set (ll.set k (((ll[k].set 0 u0).set 1 u1).set 2 u2)) (set_size hs k _ (by simp [hl])) k (by simp; exact hk) 3 (by omega) u3, List.set_set, List.getElem_set_self] at h3
  have h4 := (h3.stored (k * 5 + 4) u4).1
  rw [flat_set (ll.set k ((((ll[k].set 0 u0).set 1 u1).set 2 u2).set 3 u3)) (set_size hs k _ (by simp [hl])) k (by simp; exact hk) 4 (by omega) u4, List.set_set, List.getElem_set_self] at h4
  have e1 : (((((ll[k].set 0 u0).set 1 u1).set 2 u2).set 3 u3).set 4 u4) = [u0, u1, u2, u3, u4] := by
    match ll[k], hl with
    | [_, _, _, _, _], _ => rfl
  rw [e1] at h4
  exact h4

end
/-- A copy that a call owns reads as its records. -/
theorem SlT.of_own {α : Type} {enc : α → List Value} {size : Nat} {w : World} {base e : Nat} {v : Value} {n : Nat} {l : List α} (h : w.ownsRow base e size v n (l.map enc).flatten) (hs : ∀ x, (enc x).length = size) (hp : 0 < size) : SlT enc size w v l :=
  SlR.of_owns h (fun cs hc => by obtain ⟨x, _, rfl⟩ := List.mem_map.1 hc; exact hs x) hp
end Go.Proofs.YtfbbdnicplbmdaaDoor
