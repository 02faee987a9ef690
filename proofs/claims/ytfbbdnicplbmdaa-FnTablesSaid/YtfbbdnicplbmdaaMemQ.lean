
/- Plain: the map of entries in order that is visible at a number. -/
import Derived.Test.YtfbbdnicplbmdaaMemP
set_option linter.unusedVariables false
set_option linter.unusedSimpArgs false
namespace Go.Proofs.Ytfbbdnicplbmdaa
open Sp
namespace Sp
/-- Entry k is the first of its key that is old enough. -/
def visB (l : List EntR) (seq : Int) (k : Nat) (e : EntR) : Bool := decide (e.seq ≤ seq) && !((l.take k).any fun x => x.key.toList == e.key.toList && decide (x.seq ≤ seq))
def mapTo (l : List EntR) (seq : Int) : Nat → List KV
  | 0 => []
  | k + 1 => match l[k]? with
    | some e => if visB l seq k e && !e.del then mapTo l seq k ++ [⟨e.key, e.val⟩] else mapTo l seq k
    | none => mapTo l seq k
theorem mapTo_hit {l : List EntR} {seq : Int} {k : Nat} (hk : k < l.length) (h : (visB l seq k l[k] && !l[k].del) = true) : mapTo l seq (k + 1) = mapTo l seq k ++ [⟨l[k].key, l[k].val⟩] := by
  conv => lhs; unfold mapTo
  simp only [List.getElem?_eq_getElem hk, h, if_true]
theorem mapTo_miss {l : List EntR} {seq : Int} {k : Nat} (hk : k < l.length) (h : (visB l seq k l[k] && !l[k].del) = false) : mapTo l seq (k + 1) = mapTo l seq k := by
  conv => lhs; unfold mapTo
  simp only [List.getElem?_eq_getElem hk, h]
  simp
theorem mapTo_len (l : List EntR) (seq : Int) : ∀ k, (mapTo l seq k).length ≤ k
  | 0 => Nat.le_refl _
  | k + 1 => by
    have := mapTo_len l seq k
    unfold mapTo
    split
    · split
      · simp; omega
      · omega
    · omega
def memMap (l : List EntR) (seq : Int) : List KV := if memB l then mapTo l seq l.length else []
theorem memMap_ok {l : List EntR} (seq : Int) (h : memB l = true) : memMap l seq = mapTo l seq l.length := by simp [memMap, h]
theorem memMap_not {l : List EntR} (seq : Int) (h : memB l = false) : memMap l seq = [] := by simp [memMap, h]
theorem memMap_len (l : List EntR) (seq : Int) : (memMap l seq).length ≤ l.length := by
  unfold memMap; split
  · exact mapTo_len _ _ _
  · simp
/-- Entries in order. -/
theorem memB_ents {l : List EntR} (h : memB l = true) : ∀ k, k < l.length → entAt l k = true := by
  have : entsB l = true := by simp [memB] at h; exact h.2
  exact allIx_spec this
theorem memB_len {l : List EntR} (h : memB l = true) : l.length ≤ 60 := by simp [memB] at h; omega
def aheadP (a b : EntR) : Prop := aheadB a b = true
theorem ahead_le {a b : EntR} (h : aheadB a b = true) : less b.key a.key = false := by
  unfold aheadB at h
  rcases less_total a.key b.key with h1 | h1 | h1
  · exact less_asymm h1
  · unfold less; rw [h1, bytesLess_eq]; exact decide_eq_false (List.lt_irrefl _)
  · have h2 := less_asymm h1
    have h3 : (a.key.toList == b.key.toList) = false := by
      rw [beq_eq_false_iff_ne]; intro he
      unfold less at h1; rw [he, bytesLess_eq] at h1; simp only [decide_eq_true_eq] at h1; exact List.lt_irrefl _ h1
    simp [h2, h3] at h
theorem ahead_trans {a b c : EntR} (h : aheadB a b = true) (h' : aheadB b c = true) : aheadB a c = true := by
  unfold aheadB at *
  simp only [Bool.or_eq_true, Bool.and_eq_true, beq_iff_eq, decide_eq_true_eq] at *
  rcases h with h | ⟨h1, h2⟩ <;> rcases h' with h' | ⟨h3, h4⟩
  · exact .inl (less_trans h h')
  · left; unfold less at *; rw [← h3]; exact h
  · left; unfold less at *; rw [h1]; exact h'
  · exact .inr ⟨h1.trans h3, by omega⟩
theorem ents_mono {l : List EntR} (h : memB l = true) {i j : Nat} (hij : i < j) (hj : j < l.length) : aheadB (l[i]'(by omega)) l[j] = true := by
  induction j with
  | zero => omega
  | succ j ih =>
    have hs := memB_ents h _ hj
    rw [entAt_next hj (by omega) (by omega)] at hs
    simp only [Nat.add_sub_cancel, Bool.and_eq_true] at hs
    rcases Nat.lt_or_ge i j with hlt | hge
    · exact ahead_trans (ih hlt (by omega)) hs.2
    · obtain rfl : i = j := by omega
      exact hs.2
/-- Of one key, the later entry is older. -/
theorem ents_seq {l : List EntR} (h : memB l = true) {i j : Nat} (hij : i < j) (hj : j < l.length) (hk : (l[i]'(by omega)).key.toList = l[j].key.toList) : l[j].seq < (l[i]'(by omega)).seq := by
  have := ents_mono h hij hj
  unfold aheadB at this
  have h1 : less (l[i]'(by omega)).key l[j].key = false := by unfold less; rw [hk, bytesLess_eq]; exact decide_eq_false (List.lt_irrefl _)
  simpa [h1, hk] using this
theorem keys_eq {a b : ByteArray} (h1 : less a b = false) (h2 : less b a = false) : a.toList = b.toList := by
  rcases less_total a b with h | h | h
  · rw [h] at h1; cases h1
  · exact h
  · rw [h] at h2; cases h2
theorem any_take {l : List EntR} {p : EntR → Bool} {k : Nat} (hk : k ≤ l.length) : (l.take k).any p = true ↔ ∃ i, ∃ h : i < l.length, i < k ∧ p l[i] = true := by
  rw [List.any_eq_true]
  constructor
  · rintro ⟨x, hx, hp⟩
    obtain ⟨i, hi, rfl⟩ := List.getElem_of_mem hx
    rw [List.length_take] at hi
    exact ⟨i, by omega, by omega, by simpa using hp⟩
  · rintro ⟨i, h, hik, hp⟩
    exact ⟨l[i], by rw [List.mem_take_iff_getElem]; exact ⟨i, by omega, rfl⟩, hp⟩
/-- What the program keeps of the entries that it has passed. -/
def Seen (l : List EntR) (seq : Int) (k : Nat) (last : ByteArray) (has : Bool) : Prop :=
  (has = true → ∃ j, ∃ h : j < l.length, j < k ∧ l[j].seq ≤ seq ∧ l[j].key.toList = last.toList) ∧ (∀ j (h : j < l.length), j < k → l[j].seq ≤ seq → has = true ∧ less last l[j].key = false)
theorem Seen.start (l : List EntR) (seq : Int) (b : ByteArray) : Seen l seq 0 b false := ⟨by simp, fun j h hj => by omega⟩
theorem Seen.skip {l : List EntR} {seq : Int} {k : Nat} {last : ByteArray} {has : Bool} (h : Seen l seq k last has) (hk : k < l.length) (hs : seq < l[k].seq) : Seen l seq (k + 1) last has := by
  refine ⟨fun hh => ?_, fun j hj hjk hjs => ?_⟩
  · obtain ⟨j, hj, hjk, hr⟩ := h.1 hh
    exact ⟨j, hj, by omega, hr⟩
  · rcases Nat.lt_or_ge j k with hlt | hge
    · exact h.2 j hj hlt hjs
    · obtain rfl : j = k := by omega
      omega
theorem Seen.same {l : List EntR} {seq : Int} {k : Nat} {last : ByteArray} {has : Bool} (h : Seen l seq k last has) (hk : k < l.length) (hh : has = true) (he : l[k].key.toList = last.toList) : Seen l seq (k + 1) last has := by
  refine ⟨fun hh => ?_, fun j hj hjk hjs => ?_⟩
  · obtain ⟨j, hj, hjk, hr⟩ := h.1 hh
    exact ⟨j, hj, by omega, hr⟩
  · rcases Nat.lt_or_ge j k with hlt | hge
    · exact h.2 j hj hlt hjs
    · obtain rfl : j = k := by omega
      refine ⟨hh, ?_⟩
      unfold less; rw [he, bytesLess_eq]; exact decide_eq_false (List.lt_irrefl _)
theorem Seen.new {l : List EntR} {seq : Int} {k : Nat} {last : ByteArray} {has : Bool} (hm : memB l = true) (h : Seen l seq k last has) (hk : k < l.length) (hs : l[k].seq ≤ seq) : Seen l seq (k + 1) l[k].key true := by
  refine ⟨fun _ => ⟨k, hk, by omega, hs, rfl⟩, fun j hj hjk hjs => ⟨rfl, ?_⟩⟩
  rcases Nat.lt_or_ge j k with hlt | hge
  · exact ahead_le (ents_mono hm hlt hk)
  · obtain rfl : j = k := by omega
    unfold less; rw [bytesLess_eq]; exact decide_eq_false (List.lt_irrefl _)
theorem vis_old {l : List EntR} {seq : Int} {k : Nat} (hk : k < l.length) (hs : seq < l[k].seq) : visB l seq k l[k] = false := by simp [visB]; omega
theorem vis_same {l : List EntR} {seq : Int} {k : Nat} {last : ByteArray} {has : Bool} (h : Seen l seq k last has) (hk : k < l.length) (hh : has = true) (he : l[k].key.toList = last.toList) : visB l seq k l[k] = false := by
  obtain ⟨j, hj, hjk, hjs, hjl⟩ := h.1 hh
  have : ((l.take k).any fun x => x.key.toList == l[k].key.toList && decide (x.seq ≤ seq)) = true := (any_take (by omega)).2 ⟨j, hj, hjk, by simp only [Bool.and_eq_true, beq_iff_eq, decide_eq_true_eq]; exact ⟨hjl.trans he.symm, hjs⟩⟩
  simp [visB, this]
theorem vis_new {l : List EntR} {seq : Int} {k : Nat} {last : ByteArray} {has : Bool} (hm : memB l = true) (h : Seen l seq k last has) (hk : k < l.length) (hs : l[k].seq ≤ seq) (hne : ¬ (has = true ∧ l[k].key.toList = last.toList)) : visB l seq k l[k] = true := by
  have : ((l.take k).any fun x => x.key.toList == l[k].key.toList && decide (x.seq ≤ seq)) = false := by
    rw [Bool.eq_false_iff]
    intro hc
    obtain ⟨j, hj, hjk, hp⟩ := (any_take (by omega)).1 hc
    simp only [Bool.and_eq_true, beq_iff_eq, decide_eq_true_eq] at hp
    obtain ⟨hh, h1⟩ := h.2 j hj hjk hp.2
    obtain ⟨i, hi, hik, his, hil⟩ := h.1 hh
    have h2 := ahead_le (ents_mono hm hik hk)
    refine hne ⟨hh, keys_eq ?_ ?_⟩
    · unfold less at h2 ⊢; rw [← hil]; exact h2
    · unfold less at h1 ⊢; rw [← hp.1]; exact h1
  simp [visB, this, hs]
end Sp
end Go.Proofs.Ytfbbdnicplbmdaa
