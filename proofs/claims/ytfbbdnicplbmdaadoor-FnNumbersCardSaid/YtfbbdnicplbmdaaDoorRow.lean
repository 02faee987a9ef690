
/- Plain: rows of one's own that lie between two block numbers; worlds that differ in such blocks alone. -/
import Derived.Test.YtfbbdnicplbmdaaDoorTouch
set_option linter.unusedVariables false
set_option linter.unusedSimpArgs false
namespace Go.Proofs.YtfbbdnicplbmdaaDoor
open Go.RowKit Sp

/-- The later world differs from the elder, of the blocks that this has, in those from lo up to below hi alone. -/
structure Wrote (lo hi : Nat) (w w' : World) : Prop where
  os : w'.os = w.os
  tape : w'.tape = w.tape
  output : w'.output = w.output
  size : w.heap.size ≤ w'.heap.size
  block : ∀ k, k < w.heap.size → (k < lo ∨ hi ≤ k) → w'.heap[k]? = w.heap[k]?
theorem Wrote.refl (lo hi : Nat) (w : World) : Wrote lo hi w w := ⟨rfl, rfl, rfl, Nat.le_refl _, fun _ _ _ => rfl⟩
theorem Wrote.trans {lo hi : Nat} {a b c : World} (h : Wrote lo hi a b) (k : Wrote lo hi b c) : Wrote lo hi a c :=
  ⟨k.os.trans h.os, k.tape.trans h.tape, k.output.trans h.output, Nat.le_trans h.size k.size, fun i hi h' => (k.block i (Nat.lt_of_lt_of_le hi h.size) h').trans (h.block i hi h')⟩
theorem Wrote.wide {lo hi lo' hi' : Nat} {a b : World} (h : Wrote lo hi a b) (h1 : lo' ≤ lo) (h2 : hi ≤ hi') : Wrote lo' hi' a b :=
  ⟨h.os, h.tape, h.output, h.size, fun k hk hh => h.block k hk (by omega)⟩
theorem Wrote.of_below {lo hi : Nat} {a b : World} (h : Below a.heap.size a b) : Wrote lo hi a b := ⟨h.os, h.tape, h.output, h.size, fun k hk _ => h.block k hk⟩
theorem Wrote.below {lo hi B : Nat} {a b : World} (h : Wrote lo hi a b) (hB : B ≤ lo) (hs : B ≤ a.heap.size) : Below B a b := ⟨h.os, h.tape, h.output, h.size, fun k hk => h.block k (by omega) (by omega)⟩
theorem Wrote.of_touch {lo hi : Nat} {a b : World} {r : Option Nat} (h : a.grownBy b r) (hr : ∀ k, r = some k → lo ≤ k ∧ k < hi) : Wrote lo hi a b :=
  ⟨h.os, h.tape, h.output, h.size, fun k hk hh => h.block k hk (fun e => by have := hr k e.symm; omega)⟩
theorem Wrote.cell {lo hi : Nat} {a b : World} (h : Wrote lo hi a b) {p : Addr} (hp : p.block < a.heap.size) (hh : p.block < lo ∨ hi ≤ p.block) : b.cell? p = a.cell? p := by
  simp only [World.cell?]; rw [h.block _ hp hh]

theorem bcellB {B : Nat} {W w1 : World} (hb : Below B W w1) : (∀ b o, b < B → w1.cell? ⟨b, o, none⟩ = W.cell? ⟨b, o, none⟩) ∧ (∀ b o, b < B → w1.frozen? ⟨b, o, none⟩ = W.frozen? ⟨b, o, none⟩) :=
  ⟨fun b o h => hb.cell (p := ⟨b, o, none⟩) h, fun b o h => hb.frozen (p := ⟨b, o, none⟩) h⟩

/-- v is a row of one's own of the records l, in a block from lo up to below hi (or nil). -/
def Row {α : Type} (enc : α → List Value) (T : TypeId) (size lo hi : Nat) (w : World) (v : Value) (l : List α) : Prop :=
  w.ownsRow lo T size v l.length (l.map enc).flatten ∧ ∀ k, v.ownBlock = some k → k < hi
section
variable {α : Type} {enc : α → List Value} {T : TypeId} {size lo hi : Nat} {w w' : World} {v : Value} {l : List α}
theorem Row.of_own {n : Nat} (h : w.ownsRow lo T size v n (l.map enc).flatten) (hn : n = l.length) : Row enc T size lo w.heap.size w v l := by
  subst hn; exact ⟨h, fun k hk => (h.lt k hk).2⟩
theorem Row.nil (w : World) (lo hi : Nat) : Row enc T size lo hi w (.slice none 0 0) ([] : List α) := ⟨World.ownsRow_nil w lo T size, fun k hk => by simp [Value.ownBlock] at hk⟩
theorem Row.wide (h : Row enc T size lo hi w v l) {lo' hi' : Nat} (h1 : lo' ≤ lo) (h2 : hi ≤ hi') : Row enc T size lo' hi' w v l :=
  ⟨own_mono h.1 h1, fun k hk => Nat.lt_of_lt_of_le (h.2 k hk) h2⟩
theorem Row.slT (h : Row enc T size lo hi w v l) (hs : ∀ x, (enc x).length = size) (hp : 0 < size) : SlT enc size w v l := SlT.of_own h.1 hs hp
theorem Row.below (h : Row enc T size lo hi w v l) (hb : Below w.heap.size w w') : Row enc T size lo hi w' v l := ⟨own_below h.1 hb, h.2⟩
/-- A row outside the blocks that were written. -/
theorem Row.kept (h : Row enc T size lo hi w v l) {a b : Nat} (hw : Wrote a b w w') (hd : hi ≤ a ∨ b ≤ lo) : Row enc T size lo hi w' v l := by
  refine ⟨⟨h.1.1, ?_⟩, h.2⟩
  rcases h.1.2 with hn | ⟨g, cap, cur, hv, hb', hg, rest⟩
  · exact .inl hn
  · have h2 := h.2 g (by rw [hv]; rfl)
    exact .inr ⟨g, cap, cur, hv, hb', (hw.block g (Array.getElem?_eq_some_iff.1 hg).1 (by omega)).trans hg, rest⟩
/-- A row whose block is known lies between any numbers about it. -/
theorem Row.cut {g n cap : Nat} (h : Row enc T size lo hi w (.slice (some ⟨g, 0, none⟩) n cap) l) {lo' hi' : Nat} (h0 : lo' ≤ g) (h2 : g < hi') : Row enc T size lo' hi' w (.slice (some ⟨g, 0, none⟩) n cap) l := by
  refine ⟨⟨h.1.1, ?_⟩, fun k hk => by simp [Value.ownBlock] at hk; omega⟩
  rcases h.1.2 with hn | ⟨g', cap', cur, hv, hb', rest⟩
  · exact .inl hn
  · simp at hv
    exact .inr ⟨g', cap', cur, by simp [hv], by omega, rest⟩
/-- nil, or a slice of its own block. -/
theorem Row.shape (h : Row enc T size lo hi w v l) : (v = .slice none 0 0 ∧ l = []) ∨ ∃ g cap, v = .slice (some ⟨g, 0, none⟩) l.length cap ∧ l.length ≤ cap ∧ cap ≤ 9223372036854775807 ∧ lo ≤ g ∧ g < hi ∧ g < w.heap.size := by
  rcases h.1.2 with ⟨hv, hn⟩ | ⟨g, cap, cur, hv, hb', hg, hc, hm, _⟩
  · exact .inl ⟨hv, List.eq_nil_of_length_eq_zero hn⟩
  · exact .inr ⟨g, cap, hv, hc, by simpa [maxLen] using hm, hb', h.2 g (by rw [hv]; rfl), (Array.getElem?_eq_some_iff.1 hg).1⟩
theorem Row.form (h : Row enc T size lo hi w v l) : ∃ ao cap, v = .slice ao l.length cap := by
  rcases h.shape with ⟨rfl, rfl⟩ | ⟨g, cap, rfl, _⟩
  · exact ⟨none, 0, rfl⟩
  · exact ⟨_, cap, rfl⟩
/-- A row that was laid above a block number. -/
theorem Row.up {n lo' : Nat} (h : w.ownsRow lo' T size v n (l.map enc).flatten) (hn : n = l.length) (hlo : lo ≤ lo') : Row enc T size lo w.heap.size w v l :=
  (Row.of_own h hn).wide hlo (Nat.le_refl _)
end
end Go.Proofs.YtfbbdnicplbmdaaDoor
