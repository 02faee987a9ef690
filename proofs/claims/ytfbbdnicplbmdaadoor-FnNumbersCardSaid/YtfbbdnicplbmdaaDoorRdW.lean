
/- Plain and walks: the reader's methods number, bytes, done. -/
import Derived.Test.YtfbbdnicplbmdaaDoorReadVarI
import Derived.Test.YtfbbdnicplbmdaaDoorTouch
import Derived.Test.YtfbbdnicplbmdaaDoorExt
import Derived.Lib.QuietBelow
import Derived.BigQuiet
import Derived.Lib.Builder
import Derived.Deep.DeepCutAuto
set_option linter.unusedVariables false
set_option linter.unusedSimpArgs false
namespace Go.Proofs.YtfbbdnicplbmdaaDoor
open Go.RowKit Sp Go.Sort
namespace Sp
def rdNum (s : ByteArray) (p : Nat) (bad : Bool) : Nat × Nat × Bool :=
  if bad then (0, p, true) else if (readVarL (s.data.toList.drop p)).2 = 0 then (0, p, true) else ((readVarL (s.data.toList.drop p)).1, p + (readVarL (s.data.toList.drop p)).2, false)
def rdBytes (s : ByteArray) (p : Nat) (bad : Bool) (n : Nat) : List UInt8 × Nat × Bool :=
  if bad = true ∨ s.size - p < n then ([], p, true) else ((s.data.toList.drop p).take n, p + n, false)
theorem readVarL_bd (l : List UInt8) : (readVarL l).2 ≤ l.length ∧ ((readVarL l).1 : Int) ≤ 562949953421311 := by
  by_cases h : (readVarL l).2 = 0
  · by_cases hn : ∀ k, 1 ≤ k → k ≤ 7 → k ≤ l.length → can (l.take k) = false
    · rw [readVarL_none hn]; exact ⟨Nat.zero_le _, by decide⟩
    · exfalso
      simp only [Classical.not_forall] at hn
      obtain ⟨k, h1, h7, hs, hc⟩ := hn
      have := readVarL_can h1 h7 hs (by simpa using hc)
      rw [this] at h; simp at h; omega
  · by_cases hn : ∀ k, 1 ≤ k → k ≤ 7 → k ≤ l.length → can (l.take k) = false
    · rw [readVarL_none hn] at h; exact absurd rfl h
    · simp only [Classical.not_forall] at hn
      obtain ⟨k, h1, h7, hs, hc⟩ := hn
      have e := readVarL_can h1 h7 hs (by simpa using hc)
      have hv := val_lt7 (l := l.take k) (by simp; omega)
      rw [e]; exact ⟨hs, by omega⟩
theorem rdNum_bd (s : ByteArray) (p : Nat) (bad : Bool) (h : p ≤ s.size) : (rdNum s p bad).2.1 ≤ s.size ∧ ((rdNum s p bad).1 : Int) ≤ 562949953421311 := by
  have hb := readVarL_bd (s.data.toList.drop p)
  have hl : (s.data.toList.drop p).length = s.size - p := by simp
  unfold rdNum
  split
  · exact ⟨h, by show ((0 : Nat) : Int) ≤ _; omega⟩
  · split
    · exact ⟨h, by show ((0 : Nat) : Int) ≤ _; omega⟩
    · exact ⟨by simp only; omega, hb.2⟩
end Sp
/-- The block b holds a reader of s at p. -/
def Rd (w : World) (b : Nat) (s : ByteArray) (p : Nat) (bad : Bool) : Prop := ∃ T, w.heap[b]? = some (.cells #[.string s, .int .i64 (p : Nat), .bool bad] T (0, 0))
theorem Rd.below {w w' : World} {b p : Nat} {s : ByteArray} {bad : Bool} (h : Rd w b s p bad) (hb : Below w.heap.size w w') : Rd w' b s p bad := by
  obtain ⟨T, hT⟩ := h
  exact ⟨T, (hb.block b (Array.getElem?_eq_some_iff.1 hT).1).trans hT⟩
theorem Rd.lt {w : World} {b p : Nat} {s : ByteArray} {bad : Bool} (h : Rd w b s p bad) : b < w.heap.size := by
  obtain ⟨T, hT⟩ := h; exact (Array.getElem?_eq_some_iff.1 hT).1
theorem Rd.facts {w : World} {b p : Nat} {s : ByteArray} {bad : Bool} (h : Rd w b s p bad) :
    w.cell? ⟨b, 0, none⟩ = some (.string s) ∧ w.cell? ⟨b, 1, none⟩ = some (.int .i64 (p : Nat)) ∧ w.cell? ⟨b, 2, none⟩ = some (.bool bad) ∧ ∀ j, w.frozen? ⟨b, j, none⟩ = false := by
  obtain ⟨T, hT⟩ := h
  exact ⟨by rw [Lib.cell_of_heap hT]; rfl, by rw [Lib.cell_of_heap hT]; rfl, by rw [Lib.cell_of_heap hT]; rfl, fun j => Lib.frozen_of_heap hT j⟩
theorem Rd.setAt {w : World} {b p : Nat} {s : ByteArray} {bad : Bool} (h : Rd w b s p bad) (q : Nat) : Rd (w.setCell ⟨b, 1, none⟩ (.int .i64 (q : Nat))) b s q bad := by
  obtain ⟨T, hT⟩ := h
  refine ⟨T, ?_⟩
  simp only [World.setCell]
  rw [Array.getElem?_modify, if_pos rfl, hT]; rfl
theorem Rd.setBad {w : World} {b p : Nat} {s : ByteArray} {bad : Bool} (h : Rd w b s p bad) (q : Bool) : Rd (w.setCell ⟨b, 2, none⟩ (.bool q)) b s p q := by
  obtain ⟨T, hT⟩ := h
  refine ⟨T, ?_⟩
  simp only [World.setCell]
  rw [Array.getElem?_modify, if_pos rfl, hT]; rfl
theorem below_touch {B b : Nat} {w wa wb : World} (h : Below B w wa) (t : wa.grownBy wb (some b)) (hb : B ≤ b) (hB : B ≤ wa.heap.size) : Below B w wb :=
  h.trans ⟨t.os, t.tape, t.output, t.size, fun k hk => t.block k (Nat.lt_of_lt_of_le hk hB) (by intro he; have := Option.some.inj he; omega)⟩
theorem ext_from (s : ByteArray) (p : Nat) : (s.extract p s.size).data.toList = s.data.toList.drop p := by
  rw [ext_str, str_data, List.take_of_length_le (by simp)]

end Go.Proofs.YtfbbdnicplbmdaaDoor
