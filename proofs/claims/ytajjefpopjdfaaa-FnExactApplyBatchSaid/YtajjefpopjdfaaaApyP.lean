/- Plain: a map behind an operation. No program in sight. -/
import Derived.Test.YtajjefpopjdfaaaBatchW
import Derived.Test.YtajjefpopjdfaaaExt
set_option linter.unusedVariables false
set_option linter.unusedSimpArgs false
namespace Go.Proofs.Ytajjefpopjdfaaa
open Sp
namespace Sp
def mapP (l : List KV) : Prop := (∀ x ∈ l, kvB x = true) ∧ l.Pairwise (fun a b => less a.key b.key = true)
theorem mapB_all {l : List KV} (h : mapB l = true) (k : Nat) (hk : k < l.length) : kvB l[k] = true := by
  have h1 := allIx_spec h k hk
  by_cases h0 : k = 0
  · rw [kvAt_first hk h0] at h1; exact h1
  · rw [kvAt_next hk h0 (by omega)] at h1; simp at h1; exact h1.1
theorem map_mono {l : List KV} (h : mapB l = true) {i j : Nat} (hij : i < j) (hj : j < l.length) : less (l[i]'(by omega)).key l[j].key = true := by
  induction j with
  | zero => omega
  | succ j ih =>
    have hs := allIx_spec h _ hj
    rw [kvAt_next hj (by omega) (by omega)] at hs
    simp only [Nat.add_sub_cancel, Bool.and_eq_true] at hs
    rcases Nat.lt_or_ge i j with hlt | hge
    · exact less_trans (ih hlt (by omega)) hs.2
    · obtain rfl : i = j := by omega
      exact hs.2
theorem mapB_P {l : List KV} (h : mapB l = true) : mapP l := by
  refine ⟨fun x hx => ?_, ?_⟩
  · obtain ⟨k, hk, rfl⟩ := List.getElem_of_mem hx
    exact mapB_all h k hk
  · rw [List.pairwise_iff_getElem]
    intro i j hi hj hij
    exact map_mono h hij hj
theorem mapP_B {l : List KV} (h : mapP l) : mapB l = true := by
  refine mapB_true fun k hk => ?_
  by_cases h0 : k = 0
  · rw [kvAt_first hk h0]; exact h.1 _ (List.getElem_mem _)
  · rw [kvAt_next hk h0 (by omega), h.1 _ (List.getElem_mem _), Bool.true_and]
    exact (List.pairwise_iff_getElem.1 h.2) _ _ _ _ (by omega)
/-- Where a key stands or would stand. -/
def posK : List KV → ByteArray → Nat
  | [], _ => 0
  | x :: l, k => if less x.key k then posK l k + 1 else 0
theorem posK_le : ∀ (l : List KV) (k : ByteArray), posK l k ≤ l.length
  | [], _ => Nat.le_refl _
  | x :: l, k => by unfold posK; have := posK_le l k; split <;> simp; omega
theorem posK_lt : ∀ (l : List KV) (k : ByteArray) (j : Nat) (hj : j < l.length), j < posK l k → less l[j].key k = true
  | [], _, j, hj, _ => by simp at hj
  | x :: l, k, 0, _, h => by unfold posK at h; split at h <;> first | omega | (rename_i hx; simpa using hx)
  | x :: l, k, j + 1, hj, h => by
    unfold posK at h
    split at h
    · simpa using posK_lt l k j (by simpa using hj) (by omega)
    · omega
theorem posK_at : ∀ (l : List KV) (k : ByteArray) (h : posK l k < l.length), less l[posK l k].key k = false
  | [], _, h => by simp at h
  | x :: l, k, h => by
    by_cases hx : less x.key k = true
    · have e1 : posK (x :: l) k = posK l k + 1 := by rw [posK, if_pos hx]
      simp only [e1] at h ⊢
      simpa using posK_at l k (by simpa using h)
    · have e1 : posK (x :: l) k = 0 := by rw [posK, if_neg hx]
      simp only [e1]
      simpa using hx
structure IsPosK (l : List KV) (k : ByteArray) (q : Nat) : Prop where
  le : q ≤ l.length
  lo : ∀ i (h : i < l.length), i < q → less l[i].key k = true
  hi : ∀ i (h : i < l.length), q ≤ i → less l[i].key k = false
theorem posK_eq {l : List KV} {k : ByteArray} {q : Nat} (h : IsPosK l k q) : posK l k = q := by
  rcases Nat.lt_trichotomy (posK l k) q with h1 | h1 | h1
  · have hlt : posK l k < l.length := by have := h.le; omega
    have h2 := posK_at l k hlt
    rw [h.lo _ hlt h1] at h2; cases h2
  · exact h1
  · have hlt : q < l.length := by have := posK_le l k; omega
    have h2 := posK_lt l k q hlt h1
    rw [h.hi _ hlt (Nat.le_refl _)] at h2; cases h2
theorem posK_is {l : List KV} (hm : mapB l = true) (k : ByteArray) : IsPosK l k (posK l k) := by
  refine ⟨posK_le l k, fun i h hi => posK_lt l k i h hi, fun i h hi => ?_⟩
  have hp : posK l k < l.length := by omega
  have h0 := posK_at l k hp
  rcases Nat.lt_or_ge (posK l k) i with hlt | hge
  · rcases hx : less l[i].key k with _ | _
    · rfl
    · have := less_trans (map_mono hm hlt h) hx
      rw [h0] at this; cases this
  · have e : i = posK l k := by omega
    subst e; exact h0
def hitK (l : List KV) (k : ByteArray) (q : Nat) : Bool := match l[q]? with | some x => x.key.toList == k.toList | none => false
theorem hitK_in {l : List KV} {k : ByteArray} {q : Nat} (h : q < l.length) : hitK l k q = (l[q].key.toList == k.toList) := by simp [hitK, h]
theorem hitK_out {l : List KV} {k : ByteArray} {q : Nat} (h : ¬ q < l.length) : hitK l k q = false := by
  unfold hitK; rw [List.getElem?_eq_none (by omega)]
def newK (o : OpR) : List KV := if o.del then [] else [⟨o.key, o.val⟩]
theorem newK_del {o : OpR} (h : o.del = true) : newK o = [] := by simp [newK, h]
theorem newK_put {o : OpR} (h : o.del = false) : newK o = [⟨o.key, o.val⟩] := by simp [newK, h]
def nxt (h : Bool) (q : Nat) : Nat := if h then q + 1 else q
def put7 (m : List KV) (o : OpR) : List KV := m.take (posK m o.key) ++ newK o ++ m.drop (nxt (hitK m o.key (posK m o.key)) (posK m o.key))
theorem put7_len (m : List KV) (o : OpR) : (put7 m o).length ≤ m.length + 1 := by
  have := posK_le m o.key
  unfold put7 newK nxt
  split <;> split <;> simp <;> omega
theorem less_ne {a b : ByteArray} (h : less a b = true) : ¬ a.toList = b.toList := by
  intro he
  unfold less at h
  rw [he, bytesLess_eq] at h
  simp only [decide_eq_true_eq] at h
  exact List.lt_irrefl _ h
theorem less_congr {a b c : ByteArray} (h : a.toList = b.toList) : less a c = less b c ∧ less c a = less c b := by unfold less; rw [h]; exact ⟨rfl, rfl⟩
/-- What stands behind the place is greater. -/
theorem behind {m : List KV} (hm : mapB m = true) (k : ByteArray) {i : Nat} (hi : i < m.length) (h : nxt (hitK m k (posK m k)) (posK m k) ≤ i) : less k m[i].key = true := by
  have hp := posK_is hm k
  have hq : posK m k ≤ i := by unfold nxt at h; split at h <;> omega
  have h1 := hp.hi i hi hq
  rcases less_total k m[i].key with h2 | h2 | h2
  · exact h2
  · exfalso
    rcases Nat.lt_or_ge (posK m k) i with hlt | hge
    · have h3 := map_mono hm hlt hi
      have h4 := hp.hi (posK m k) (by omega) (Nat.le_refl _)
      rw [← (less_congr (c := m[posK m k].key) h2).2] at h3
      rw [h4] at h3; cases h3
    · have e : i = posK m k := by omega
      have hh : hitK m k (posK m k) = true := by rw [hitK_in (by omega)]; subst e; simp [h2]
      rw [hh] at h; simp [nxt] at h; omega
  · rw [h1] at h2; cases h2
theorem put7_map {m : List KV} {o : OpR} (hm : mapB m = true) (ho : opR o = true) : mapB (put7 m o) = true := by
  have hP := mapB_P hm
  have hp := posK_is hm o.key
  have hob : keyB o.key = true ∧ valB o.val = true := by
    simp only [opR, opB, Bool.and_eq_true] at ho; exact ho.1
  have hnew : ∀ x ∈ newK o, kvB x = true ∧ x.key = o.key := by
    intro x hx
    unfold newK at hx
    split at hx
    · cases hx
    · simp at hx; subst hx
      exact ⟨by simp [kvB, hob.1, hob.2], rfl⟩
  have hlo : ∀ x ∈ m.take (posK m o.key), less x.key o.key = true := by
    intro x hx
    obtain ⟨i, hi, rfl⟩ := List.getElem_of_mem hx
    rw [List.getElem_take]
    rw [List.length_take] at hi
    exact hp.lo i (by omega) (by omega)
  have hhi : ∀ x ∈ m.drop (nxt (hitK m o.key (posK m o.key)) (posK m o.key)), less o.key x.key = true := by
    intro x hx
    obtain ⟨i, hi, rfl⟩ := List.getElem_of_mem hx
    rw [List.getElem_drop]
    rw [List.length_drop] at hi
    exact behind hm o.key (by omega) (by omega)
  refine mapP_B ⟨fun x hx => ?_, ?_⟩
  · unfold put7 at hx
    rcases List.mem_append.1 hx with hx | hx
    · rcases List.mem_append.1 hx with hx | hx
      · exact hP.1 x (List.mem_of_mem_take hx)
      · exact (hnew x hx).1
    · exact hP.1 x (List.mem_of_mem_drop hx)
  · unfold put7
    rw [List.pairwise_append, List.pairwise_append]
    refine ⟨⟨hP.2.sublist (List.take_sublist _ _), ?_, ?_⟩, hP.2.sublist (List.drop_sublist _ _), ?_⟩
    · unfold newK; split <;> simp
    · intro a ha b hb
      rw [(hnew b hb).2]; exact hlo a ha
    · intro a ha b hb
      rcases List.mem_append.1 ha with ha | ha
      · exact less_trans (hlo a ha) (hhi b hb)
      · rw [(hnew a ha).2]; exact hhi b hb
/-- The reference's loop. -/
def outK (m : List KV) (o : OpR) (k : Nat) : List KV :=
  if k ≤ posK m o.key then m.take k else m.take (posK m o.key) ++ newK o ++ (m.take k).drop (nxt (hitK m o.key (posK m o.key)) (posK m o.key))
def putK (m : List KV) (o : OpR) (k : Nat) : Bool := o.del || decide (posK m o.key < k)
theorem outK_zero (m : List KV) (o : OpR) : outK m o 0 = [] := by unfold outK; rw [if_pos (Nat.zero_le _)]; rfl
theorem outK_le (m : List KV) (o : OpR) (k : Nat) : (outK m o k).length ≤ m.length + 1 := by
  have hn : (newK o).length ≤ 1 := by unfold newK; split <;> simp
  have hx : posK m o.key ≤ nxt (hitK m o.key (posK m o.key)) (posK m o.key) := by unfold nxt; split <;> omega
  unfold outK
  split
  · rw [List.length_take]; omega
  · rw [List.length_append, List.length_append, List.length_drop, List.length_take, List.length_take]; omega
theorem outK_lo {m : List KV} {o : OpR} {k : Nat} (h : k < m.length) (hq : k < posK m o.key) : outK m o (k + 1) = outK m o k ++ [m[k]] := by
  unfold outK
  rw [if_pos (by omega), if_pos (by omega), List.take_succ_eq_append_getElem h]
theorem outK_hi {m : List KV} {o : OpR} {k : Nat} (h : k < m.length) (hq : posK m o.key < k) : outK m o (k + 1) = outK m o k ++ [m[k]] := by
  unfold outK
  rw [if_neg (by omega), if_neg (by omega), List.take_succ_eq_append_getElem h, List.drop_append_of_le_length (by unfold nxt; simp; split <;> omega)]
  simp
theorem outK_at_hit {m : List KV} {o : OpR} {k : Nat} (h : k < m.length) (hq : k = posK m o.key) (hh : hitK m o.key k = true) : outK m o (k + 1) = outK m o k ++ newK o := by
  unfold outK
  rw [if_neg (by omega), if_pos (by omega), ← hq, hh]
  have : (m.take (k + 1)).drop (nxt true k) = [] := by simp [nxt]
  rw [this, List.append_nil]
theorem outK_at_miss {m : List KV} {o : OpR} {k : Nat} (h : k < m.length) (hq : k = posK m o.key) (hh : hitK m o.key k = false) : outK m o (k + 1) = outK m o k ++ newK o ++ [m[k]] := by
  unfold outK
  rw [if_neg (by omega), if_pos (by omega), ← hq, hh]
  have : (m.take (k + 1)).drop (nxt false k) = [m[k]] := by
    simp only [nxt, Bool.false_eq_true, if_false]
    rw [List.take_succ_eq_append_getElem h, List.drop_append, List.length_take, List.drop_of_length_le (by rw [List.length_take]; omega)]
    rw [show k - min k m.length = 0 from by omega]; rfl
  rw [this]
theorem outK_end (m : List KV) (o : OpR) (h : putK m o m.length = true) : outK m o m.length = put7 m o := by
  have hp := posK_le m o.key
  unfold outK put7
  by_cases hq : posK m o.key < m.length
  · rw [if_neg (by omega), List.take_length]
  · have e : posK m o.key = m.length := by omega
    have hd : o.del = true := by unfold putK at h; simp at h; rcases h with h | h; exact h; omega
    rw [if_pos (by omega), e, newK_del hd, hitK_out (by omega)]
    simp [nxt]
theorem outK_last (m : List KV) (o : OpR) (h : putK m o m.length = false) : outK m o m.length ++ [⟨o.key, o.val⟩] = put7 m o := by
  have hp := posK_le m o.key
  unfold putK at h
  simp at h
  have e : posK m o.key = m.length := by omega
  unfold outK put7
  rw [if_pos (by omega), e, newK_put h.1, hitK_out (by omega)]
  simp [nxt]
def puts (m : List KV) (l : List OpR) : List KV := l.foldl put7 m
theorem puts_zero (m : List KV) (l : List OpR) : puts m (l.take 0) = m := by simp [puts]
theorem puts_step (m : List KV) (l : List OpR) (k : Nat) (h : k < l.length) : puts m (l.take (k + 1)) = put7 (puts m (l.take k)) l[k] := by
  unfold puts
  rw [List.take_succ_eq_append_getElem h, List.foldl_append]; rfl
theorem puts_len (m : List KV) : ∀ l : List OpR, (puts m l).length ≤ m.length + l.length := by
  intro l
  induction l generalizing m with
  | nil => simp [puts]
  | cons o l ih =>
    have h1 := put7_len m o
    have h2 := ih (put7 m o)
    unfold puts at h2 ⊢
    simp only [List.foldl_cons, List.length_cons] at h2 ⊢
    omega
theorem puts_map {m : List KV} : ∀ {l : List OpR}, mapB m = true → (∀ x ∈ l, opR x = true) → mapB (puts m l) = true := by
  intro l
  induction l generalizing m with
  | nil => intro h _; simpa [puts] using h
  | cons o l ih =>
    intro h hl
    have h1 := put7_map h (hl o (by simp))
    exact ih h1 (fun x hx => hl x (by simp [hx]))
def applyB (m : List KV) (l : List OpR) : Bool := mapB m && batchB l
def applyL (m : List KV) (l : List OpR) : List KV := if mapB m then (if batchB l then puts m l else m) else []
theorem applyL_len (m : List KV) (l : List OpR) (h : (m.length : Int) ≤ 1048576) : (applyL m l).length ≤ 1048582 := by
  unfold applyL
  split
  · split
    · rename_i _ hb
      have := (puts_len m l)
      unfold batchB at hb
      rw [Bool.and_eq_true] at hb
      have := (inB_iff.1 hb.1).2
      omega
    · omega
  · simp
end Sp
end Go.Proofs.Ytajjefpopjdfaaa
