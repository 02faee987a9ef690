
/- Plain: boxes of one's own, and what keeps them. -/
import Derived.Test.YtfbbdnicplbmdaaDoorRdW
import Derived.Test.YtfbbdnicplbmdaaDoorRow
import Derived.Test.YtfbbdnicplbmdaaDoorOwn
set_option linter.unusedVariables false
set_option linter.unusedSimpArgs false
namespace Go.Proofs.YtfbbdnicplbmdaaDoor
open Go.RowKit Sp Go.Sort
/-- The block b holds the cells c. -/
def Bx (w : World) (b : Nat) (c : Array Value) : Prop := ∃ T, w.heap[b]? = some (.cells c T (0, 0))
theorem Bx.new (w : World) (c : Array Value) (T : TypeId) : Bx (w.alloc (.cells c T)) w.heap.size c := ⟨T, heap_alloc_new w _⟩
theorem Bx.lt {w : World} {b : Nat} {c : Array Value} (h : Bx w b c) : b < w.heap.size := by
  obtain ⟨T, hT⟩ := h; exact (Array.getElem?_eq_some_iff.1 hT).1
theorem Bx.below {w w' : World} {b : Nat} {c : Array Value} (h : Bx w b c) (hb : Below w.heap.size w w') : Bx w' b c := by
  obtain ⟨T, hT⟩ := h
  exact ⟨T, (hb.block b (Array.getElem?_eq_some_iff.1 hT).1).trans hT⟩
theorem Bx.grown {w w' : World} {b : Nat} {c : Array Value} (h : Bx w b c) {r : Option Nat} (hg : w.grownBy w' r) (hn : r ≠ some b) : Bx w' b c := by
  have hl := h.lt
  obtain ⟨T, hT⟩ := h
  exact ⟨T, (hg.block b hl (fun e => hn e.symm)).trans hT⟩
theorem Bx.cell {w : World} {b : Nat} {c : Array Value} (h : Bx w b c) (i : Nat) (u : Value) (hu : c[i]? = some u) : w.cell? ⟨b, i, none⟩ = some u := by
  obtain ⟨T, hT⟩ := h
  rw [Lib.cell_of_heap hT]; exact hu
theorem Bx.frozen {w : World} {b : Nat} {c : Array Value} (h : Bx w b c) (j : Nat) : w.frozen? ⟨b, j, none⟩ = false := by
  obtain ⟨T, hT⟩ := h
  exact Lib.frozen_of_heap hT j
theorem Bx.set {w : World} {b : Nat} {c : Array Value} (h : Bx w b c) (i : Nat) (u : Value) : Bx (w.setCell ⟨b, i, none⟩ u) b (c.setIfInBounds i u) := by
  obtain ⟨T, hT⟩ := h
  refine ⟨T, ?_⟩
  simp only [World.setCell]
  rw [Array.getElem?_modify, if_pos rfl, hT]; rfl
theorem Bx.far {w : World} {b : Nat} {c : Array Value} (h : Bx w b c) (p : Addr) (u : Value) (hp : b ≠ p.block) : Bx (w.setCell p u) b c := by
  obtain ⟨T, hT⟩ := h
  exact ⟨T, (Below.heap_setCell _ _ _ _ hp).trans hT⟩
theorem Rd.bx {w : World} {b p : Nat} {s : ByteArray} {bad : Bool} (h : Rd w b s p bad) : Bx w b #[.string s, .int .i64 (p : Nat), .bool bad] := h
theorem Rd.of {w : World} {b p : Nat} {s : ByteArray} {bad : Bool} (h : Bx w b #[.string s, .int .i64 (p : Nat), .bool bad]) : Rd w b s p bad := h
theorem below_set {B : Nat} {w wa : World} (h : Below B w wa) (p : Addr) (u : Value) (hp : B ≤ p.block) : Below B w (wa.setCell p u) :=
  h.trans ⟨rfl, rfl, rfl, by simp [World.setCell], fun k hk => Below.heap_setCell _ _ _ _ (by omega)⟩
end Go.Proofs.YtfbbdnicplbmdaaDoor
