
/- Walks: DrawKeyWipe, DrawKeyAdd, DrawUnwrap. -/
import Derived.Test.YtfbbdnicplbmdaaKeyM1
import Derived.Deep.DeepCutAuto
import Derived.Deep.RegionHeld
import Derived.Deep.RegionLaw
import Derived.Test.YtfbbdnicplbmdaaSealP
import Derived.Test.YtfbbdnicplbmdaaSumW
import Derived.Test.YtfbbdnicplbmdaaFixedW
import Derived.Lib.QuietBelow
import Derived.BigQuiet
/- Walks: the draw of a key device. -/
set_option linter.unusedVariables false
set_option linter.unusedSimpArgs false
namespace Go.Proofs.Ytfbbdnicplbmdaa
open Go.RowKit Sp Go.Sort
theorem below_drew (W : World) : Below W.heap.size W W.drew := (Below.refl _ _).drew
theorem hal2 (W : World) (o : Obj) : RowKit.Below W.heap.size W (W.alloc o) := (Below.refl _ _).alloc (Nat.le_refl _) _
theorem grown_far {w W : World} {r : Option Nat} (h : w.grownBy W r) (p : Addr) (u : Value) (hp : w.heap.size ≤ p.block) : w.grownBy (W.setCell p u) r :=
  ⟨h.os, h.tape, h.output, by simp [World.setCell]; exact h.size, fun k hk hne => (Below.heap_setCell _ _ _ _ (by omega)).trans (h.block k hk hne)⟩
/-- A key device in the box g, its slots a row of one's own from lo on and below hi, in a block that is not the box. -/
structure KeyIn (lo hi g : Nat) (a0 : Option Addr) (c0 : Nat) (d : KeyDevR) (W : World) : Prop where
  bx : Bx W g #[.string d.master, .slice a0 d.slots.length c0, .int .i64 d.wiped]
  r0 : W.ownsRow lo 150 2 (.slice a0 d.slots.length c0) d.slots.length (d.slots.map SlotR.cells).flatten
  n0 : ∀ k, (Value.slice a0 d.slots.length c0).ownBlock = some k → k ≠ g ∧ k < hi
  gh : g < hi
section
variable {lo hi g : Nat} {a0 : Option Addr} {c0 : Nat} {d : KeyDevR} {W W' : World}
theorem KeyIn.below (h : KeyIn lo hi g a0 c0 d W) (hb : Below W.heap.size W W') : KeyIn lo hi g a0 c0 d W' :=
  ⟨h.bx.below hb, own_below h.r0 hb, h.n0, h.gh⟩
theorem KeyIn.grown {b : Nat} (h : KeyIn lo hi g a0 c0 d W) (hg : W.grownBy W' (some b)) (hb : b < lo) (hbg : b ≠ g) : KeyIn lo hi g a0 c0 d W' :=
  ⟨h.bx.grown hg (by simpa using hbg), own_grown h.r0 hg (fun k hk e => by have := (h.r0.lt k hk).1; have := Option.some.inj e; omega), h.n0, h.gh⟩
theorem KeyIn.far (h : KeyIn lo hi g a0 c0 d W) (p : Addr) (u : Value) (hp : hi ≤ p.block) : KeyIn lo hi g a0 c0 d (W.setCell p u) :=
  ⟨h.bx.far p u (by have := h.gh; omega), own_far h.r0 p u (fun e => by have := (h.n0 _ e).2; omega), h.n0, h.gh⟩
end
/-- What the draw of a key device holds between its steps. -/
structure KSt (b : Nat) (w0 : World) (v : Value) (xs : List UInt8) (w : World) (hi g : Nat) (a0 : Option Addr) (c0 : Nat) (d : KeyDevR) (W : World) : Prop where
  cu : Cu W b w0 v xs
  dev : KeyIn (w.heap.size + 1) hi g a0 c0 d W
  gr : w.grownBy W (some b)
  rb : Bx W w.heap.size #[.string ⟨#[]⟩, .slice none 0 0, .int .i64 0]
  gl : w.heap.size < g
  bl : b < w.heap.size
  sz : hi ≤ W.heap.size
section
variable {b : Nat} {w0 : World} {v : Value} {xs : List UInt8} {w : World} {hi g : Nat} {a0 : Option Addr} {c0 : Nat} {d : KeyDevR} {W W' : World}
theorem KSt.below (h : KSt b w0 v xs w hi g a0 c0 d W) (hb : Below W.heap.size W W') : KSt b w0 v xs w hi g a0 c0 d W' :=
  ⟨h.cu.below hb, h.dev.below hb, grown_below h.gr hb, h.rb.below hb, h.gl, h.bl, Nat.le_trans h.sz hb.size⟩
theorem KSt.step (h : KSt b w0 v xs w hi g a0 c0 d W) (hg : W.grownBy W' (some b)) (hc : Cu W' b w0 v xs) : KSt b w0 v xs w hi g a0 c0 d W' :=
  ⟨hc, h.dev.grown hg (by have := h.bl; omega) (by have := h.bl; have := h.gl; omega), grown2 h.gr hg, h.rb.grown hg (by have := h.bl; simp; omega), h.gl, h.bl, Nat.le_trans h.sz hg.size⟩
theorem KSt.far (h : KSt b w0 v xs w hi g a0 c0 d W) (p : Addr) (u : Value) (hp : hi ≤ p.block) : KSt b w0 v xs w hi g a0 c0 d (W.setCell p u) := by
  have h1 := h.gl
  have h2 := h.dev.gh
  have h3 := h.cu.old_le
  exact ⟨h.cu.far p u (by have := h.bl; omega) (by have := h.bl; have := h.cu.lo; omega), h.dev.far p u hp, grown_far h.gr p u (by omega), h.rb.far p u (by omega), h.gl, h.bl, by simp [World.setCell]; exact h.sz⟩
theorem KSt.S (h : KSt b w0 v xs w hi g a0 c0 d W) : W.cell? ⟨g, 0, none⟩ = some (.string d.master) ∧ W.cell? ⟨g, 1, none⟩ = some (.slice a0 d.slots.length c0) ∧ W.cell? ⟨g, 2, none⟩ = some (.int .i64 d.wiped) ∧ KSt b w0 v xs w hi g a0 c0 d W :=
  ⟨h.dev.bx.cell 0 _ rfl, h.dev.bx.cell 1 _ rfl, h.dev.bx.cell 2 _ rfl, h⟩
theorem KSt.of (h : W.cell? ⟨g, 0, none⟩ = some (.string d.master) ∧ W.cell? ⟨g, 1, none⟩ = some (.slice a0 d.slots.length c0) ∧ W.cell? ⟨g, 2, none⟩ = some (.int .i64 d.wiped) ∧ KSt b w0 v xs w hi g a0 c0 d W) : KSt b w0 v xs w hi g a0 c0 d W := h.2.2.2
theorem KSt.sl0 (h : KSt b w0 v xs w hi g a0 c0 d W) : SlT SlotR.cells 2 W (.slice a0 d.slots.length c0) d.slots := SlT.of_own h.dev.r0 (fun _ => rfl) (by decide)
theorem KSt.facts (h : KSt b w0 v xs w hi g a0 c0 d W) : W.cell? ⟨g, 0, none⟩ = some (.string d.master) ∧ W.cell? ⟨g, 1, none⟩ = some (.slice a0 d.slots.length c0) ∧ W.cell? ⟨g, 2, none⟩ = some (.int .i64 d.wiped) ∧ (∀ j, W.frozen? ⟨g, j, none⟩ = false) ∧ W.cell? ⟨w.heap.size, 0, none⟩ = some (.string ⟨#[]⟩) ∧ W.cell? ⟨w.heap.size, 1, none⟩ = some (.slice none 0 0) ∧ W.cell? ⟨w.heap.size, 2, none⟩ = some (.int .i64 0) ∧ (∀ j, W.frozen? ⟨w.heap.size, j, none⟩ = false) :=
  ⟨h.dev.bx.cell 0 _ rfl, h.dev.bx.cell 1 _ rfl, h.dev.bx.cell 2 _ rfl, h.dev.bx.frozen, h.rb.cell 0 _ rfl, h.rb.cell 1 _ rfl, h.rb.cell 2 _ rfl, h.rb.frozen⟩
theorem KSt.put (h : KSt b w0 v xs w hi g a0 c0 d W) {hi5 g5 : Nat} {e0 : Option Addr} {f0 : Nat} {d5 : KeyDevR} (h5 : KeyIn (g + 1) hi5 g5 e0 f0 d5 W) :
    KSt b w0 v xs w W.heap.size g e0 f0 d5 (((W.setCell ⟨g, 0, none⟩ (.string d5.master)).setCell ⟨g, 1, none⟩ (.slice e0 d5.slots.length f0)).setCell ⟨g, 2, none⟩ (.int .i64 d5.wiped)) := by
  have h1 := h.gl
  have h2 := h.bl
  have h3 := h.cu.lo
  have n0 : ∀ j, (Value.slice e0 d5.slots.length f0).ownBlock = some j → j ≠ g ∧ j < W.heap.size := fun j e => by have := h5.r0.lt j e; omega
  refine ⟨?_, ⟨((h.dev.bx.set 0 _).set 1 _).set 2 _, ?_, n0, h.dev.bx.lt⟩, ?_, ?_, h.gl, h.bl, by simp [World.setCell]⟩
  · exact ((h.cu.far _ _ (by show b ≠ g; omega) (by show w0.heap.size ≤ g; omega)).far _ _ (by show b ≠ g; omega) (by show w0.heap.size ≤ g; omega)).far _ _ (by show b ≠ g; omega) (by show w0.heap.size ≤ g; omega)
  · exact own_far (own_far (own_far (own_mono h5.r0 (by omega)) _ _ (fun e => (n0 _ e).1 rfl)) _ _ (fun e => (n0 _ e).1 rfl)) _ _ (fun e => (n0 _ e).1 rfl)
  · exact grown_far (grown_far (grown_far h.gr _ _ (by show w.heap.size ≤ g; omega)) _ _ (by show w.heap.size ≤ g; omega)) _ _ (by show w.heap.size ≤ g; omega)
  · exact ((h.rb.far _ _ (by show w.heap.size ≠ g; omega)).far _ _ (by show w.heap.size ≠ g; omega)).far _ _ (by show w.heap.size ≠ g; omega)
theorem KSt.setM (h : KSt b w0 v xs w hi g a0 c0 d W) (s : ByteArray) : KSt b w0 v xs w hi g a0 c0 ⟨s, d.slots, d.wiped⟩ (W.setCell ⟨g, 0, none⟩ (.string s)) := by
  have h1 := h.gl
  have h2 := h.bl
  have h3 := h.cu.lo
  exact ⟨h.cu.far _ _ (by show b ≠ g; omega) (by show w0.heap.size ≤ g; omega), ⟨h.dev.bx.set 0 _, own_far h.dev.r0 _ _ (fun e => (h.dev.n0 _ e).1 rfl), h.dev.n0, h.dev.gh⟩, grown_far h.gr _ _ (by show w.heap.size ≤ g; omega), h.rb.far _ _ (by show w.heap.size ≠ g; omega), h1, h2, by simp [World.setCell]; exact h.sz⟩
theorem KSt.setW (h : KSt b w0 v xs w hi g a0 c0 d W) (n : Int) : KSt b w0 v xs w hi g a0 c0 ⟨d.master, d.slots, n⟩ (W.setCell ⟨g, 2, none⟩ (.int .i64 n)) := by
  have h1 := h.gl
  have h2 := h.bl
  have h3 := h.cu.lo
  exact ⟨h.cu.far _ _ (by show b ≠ g; omega) (by show w0.heap.size ≤ g; omega), ⟨h.dev.bx.set 2 _, own_far h.dev.r0 _ _ (fun e => (h.dev.n0 _ e).1 rfl), h.dev.n0, h.dev.gh⟩, grown_far h.gr _ _ (by show w.heap.size ≤ g; omega), h.rb.far _ _ (by show w.heap.size ≠ g; omega), h1, h2, by simp [World.setCell]; exact h.sz⟩
theorem KSt.fin (h : KSt b w0 v xs w hi g a0 c0 d W) (u0 u1 u2 : Value) :
    Bx (((W.setCell ⟨w.heap.size, 0, none⟩ u0).setCell ⟨w.heap.size, 1, none⟩ u1).setCell ⟨w.heap.size, 2, none⟩ u2) w.heap.size #[u0, u1, u2] ∧
    (((W.setCell ⟨w.heap.size, 0, none⟩ u0).setCell ⟨w.heap.size, 1, none⟩ u1).setCell ⟨w.heap.size, 2, none⟩ u2).ownsRow (w.heap.size + 1) 150 2 (.slice a0 d.slots.length c0) d.slots.length (d.slots.map SlotR.cells).flatten ∧
    Cu (((W.setCell ⟨w.heap.size, 0, none⟩ u0).setCell ⟨w.heap.size, 1, none⟩ u1).setCell ⟨w.heap.size, 2, none⟩ u2) b w0 v xs ∧
    w.grownBy (((W.setCell ⟨w.heap.size, 0, none⟩ u0).setCell ⟨w.heap.size, 1, none⟩ u1).setCell ⟨w.heap.size, 2, none⟩ u2) (some b) := by
  have h1 := h.bl
  have h4 := h.cu.lo
  have n0 : (Value.slice a0 d.slots.length c0).ownBlock ≠ some w.heap.size := fun e => by have := (h.dev.r0.lt _ e).1; omega
  refine ⟨((h.rb.set 0 u0).set 1 u1).set 2 u2, own_far (own_far (own_far h.dev.r0 _ _ n0) _ _ n0) _ _ n0, ?_, ?_⟩
  · exact ((h.cu.far _ _ (by show b ≠ w.heap.size; omega) (by show w0.heap.size ≤ w.heap.size; omega)).far _ _ (by show b ≠ w.heap.size; omega) (by show w0.heap.size ≤ w.heap.size; omega)).far _ _ (by show b ≠ w.heap.size; omega) (by show w0.heap.size ≤ w.heap.size; omega)
  · exact grown_far (grown_far (grown_far h.gr _ _ (Nat.le_refl _)) _ _ (Nat.le_refl _)) _ _ (Nat.le_refl _)
end
theorem KeyIn.laid {W : World} {lo' lo : Nat} {a0 : Option Addr} {c0 : Nat} {d : KeyDevR} (T : TypeId) (h0 : W.ownsRow lo' 150 2 (.slice a0 d.slots.length c0) d.slots.length (d.slots.map SlotR.cells).flatten) (hl : lo ≤ lo') :
    KeyIn lo (W.alloc (.cells #[.string d.master, .slice a0 d.slots.length c0, .int .i64 d.wiped] T)).heap.size W.heap.size a0 c0 d (W.alloc (.cells #[.string d.master, .slice a0 d.slots.length c0, .int .i64 d.wiped] T)) :=
  ⟨Bx.new _ _ _, (own_mono h0 hl).alloc _, fun k e => by have := (h0.lt k e).2; simp; omega, by simp⟩
theorem KeyIn.stored {W : World} {lo' lo : Nat} {a0 : Option Addr} {c0 : Nat} {d : KeyDevR} {k : Nat} {z0 z1 z2 : Value} (hb : Bx W k #[z0, z1, z2]) (h0 : W.ownsRow lo' 150 2 (.slice a0 d.slots.length c0) d.slots.length (d.slots.map SlotR.cells).flatten) (hl : lo ≤ lo') (hk : k < lo') :
    KeyIn lo (((W.setCell ⟨k, 0, none⟩ (.string d.master)).setCell ⟨k, 1, none⟩ (.slice a0 d.slots.length c0)).setCell ⟨k, 2, none⟩ (.int .i64 d.wiped)).heap.size k a0 c0 d (((W.setCell ⟨k, 0, none⟩ (.string d.master)).setCell ⟨k, 1, none⟩ (.slice a0 d.slots.length c0)).setCell ⟨k, 2, none⟩ (.int .i64 d.wiped)) := by
  have n0 : ∀ j, (Value.slice a0 d.slots.length c0).ownBlock = some j → j ≠ k ∧ j < W.heap.size := fun j e => by have := h0.lt j e; omega
  have hz : (((W.setCell ⟨k, 0, none⟩ (.string d.master)).setCell ⟨k, 1, none⟩ (.slice a0 d.slots.length c0)).setCell ⟨k, 2, none⟩ (.int .i64 d.wiped)).heap.size = W.heap.size := by simp [World.setCell]
  refine ⟨((hb.set 0 _).set 1 _).set 2 _, ?_, fun j e => by rw [hz]; exact n0 j e, by rw [hz]; exact hb.lt⟩
  exact own_far (own_far (own_far (own_mono h0 hl) _ _ (fun e => (n0 _ e).1 rfl)) _ _ (fun e => (n0 _ e).1 rfl)) _ _ (fun e => (n0 _ e).1 rfl)
theorem KSt.app {b : Nat} {w0 : World} {v : Value} {xs : List UInt8} {w : World} {hi g : Nat} {a0 : Option Addr} {c0 : Nat} {d : KeyDevR} {W w' : World} {v' : Value} (h : KSt b w0 v xs w hi g a0 c0 d W) (x : SlotR)
    (r : w'.ownsRow (w.heap.size + 1) 150 2 v' (d.slots.length + 1) ((d.slots.map SlotR.cells).flatten ++ SlotR.cells x)) (gr : W.grownBy w' (Value.slice a0 d.slots.length c0).ownBlock)
    (ob : v'.ownBlock = (Value.slice a0 d.slots.length c0).ownBlock ∨ ∃ k, v'.ownBlock = some k ∧ W.heap.size ≤ k) :
    ∃ e0 f0, v' = .slice e0 (d.slots.length + 1) f0 ∧ KSt b w0 v xs w w'.heap.size g e0 f0 ⟨d.master, d.slots ++ [x], d.wiped⟩ (w'.setCell ⟨g, 1, none⟩ v') := by
  have h1 := h.gl
  have h2 := h.bl
  have h3 := h.cu.lo
  have hg := h.dev.bx.lt
  have o1 := fun k (e : (Value.slice a0 d.slots.length c0).ownBlock = some k) => And.intro (h.dev.n0 k e) (h.dev.r0.lt k e)
  have n1 : ∀ j, v'.ownBlock = some j → j ≠ g ∧ j < w'.heap.size := fun j e => by
    have h7 := r.lt j e
    refine ⟨?_, h7.2⟩
    rcases ob with ho | ⟨k, ho, hk⟩
    · exact (o1 j (ho ▸ e)).1.1
    · rw [ho] at e; have := Option.some.inj e; omega
  obtain ⟨e0, f0, rfl⟩ := own_form r
  have hl : (d.slots ++ [x]).length = d.slots.length + 1 := by simp
  have hgr : w.grownBy w' (some b) := ⟨gr.os.trans h.gr.os, gr.tape.trans h.gr.tape, gr.output.trans h.gr.output, Nat.le_trans h.gr.size gr.size, fun k hk hne => (gr.block k (Nat.lt_of_lt_of_le hk h.gr.size) (fun e => by have := (o1 _ e.symm).2; omega)).trans (h.gr.block k hk hne)⟩
  have hc : Cu w' b w0 v xs := h.cu.grown gr (fun e => by have := (o1 _ e).2; omega) (fun k e => by have := (o1 _ e).2; omega)
  have hx := h.dev.bx.grown gr (fun e => (o1 _ e).1.1 rfl)
  refine ⟨e0, f0, rfl, hc.far _ _ (by show b ≠ g; omega) (by show w0.heap.size ≤ g; omega), ⟨?_, ?_, ?_, Nat.lt_of_lt_of_le hg gr.size⟩, grown_far hgr _ _ (by show w.heap.size ≤ g; omega), (h.rb.grown gr (fun e => by have := (o1 _ e).2; omega)).far _ _ (by show w.heap.size ≠ g; omega), h1, h2, by simp [World.setCell]⟩
  · show Bx _ g #[.string d.master, .slice e0 (d.slots ++ [x]).length f0, .int .i64 d.wiped]
    rw [hl]; exact hx.set 1 _
  · show World.ownsRow _ _ _ _ (.slice e0 (d.slots ++ [x]).length f0) _ _
    rw [hl, List.map_append, List.flatten_append]
    exact own_far (by simpa using r) _ _ (fun e => (n1 _ e).1 rfl)
  · show ∀ k, (Value.slice e0 (d.slots ++ [x]).length f0).ownBlock = some k → _
    rw [hl]; exact n1
end Go.Proofs.Ytfbbdnicplbmdaa
/- Walks: l4Some. -/
set_option linter.unusedVariables false
set_option linter.unusedSimpArgs false
namespace Go.Proofs.Ytfbbdnicplbmdaa
open Go.RowKit Sp Go.Sort
theorem keyAdd_bd (d : KeyDevR) (n : Int) (key : ByteArray) (m : Int) (l0 : (d.slots.length : Int) ≤ m) (lw : inI64 d.wiped) : addB d n key = true → ((keyAdd d n key).slots.length : Int) ≤ m + 1 ∧ inI64 (keyAdd d n key).wiped := by
  intro h
  have hd : keyDevB d = true := by simp only [addB, Bool.and_eq_true] at h; exact h.1
  have hk : keyAdd d n key = keyAddS d n key := by simp [keyAdd, hd, h]
  rw [hk]
  exact ⟨by show ((addS d.slots n key).length : Int) ≤ _; rw [addS_length]; omega, lw⟩
theorem keyWipe_bd (d : KeyDevR) (n : Int) (m : Int) (l0 : (d.slots.length : Int) ≤ m) : wipeB d n = true → ((keyWipe d n).slots.length : Int) ≤ m ∧ inI64 (keyWipe d n).wiped := by
  intro h
  have hw := h
  simp only [wipeB, Bool.and_eq_true, decide_eq_true_eq] at h
  have hk : keyWipe d n = ⟨d.master, others d.slots n, d.wiped + 1⟩ := by simp [keyWipe, h.1, hw]
  have h1 := others_le d.slots n
  have h2 := keyDevB_heads h.1
  rw [hk]
  exact ⟨by show ((others d.slots n).length : Int) ≤ _; omega, by show inI64 (d.wiped + 1); unfold inI64; omega⟩

set_option maxRecDepth 100000 in
set_option maxHeartbeats 6400000 in
theorem l4Some_any (b : Nat) (w0 : World) (v : Value) (xs : List UInt8) (w : World) (h : Cu w b w0 v xs) :
    Calls Try.prog 114 #[.pointer (some ⟨b, 0, none⟩)] w fun e w' => ∃ (a0 : Option Addr) (c0 : Nat) (d : KeyDevR), e = .returned (.agg #[.string d.master, .slice a0 d.slots.length c0, .int .i64 d.wiped]) ∧ w'.ownsRow (w.heap.size + 1) 150 2 (.slice a0 d.slots.length c0) d.slots.length (d.slots.map SlotR.cells).flatten ∧ (d.slots.length : Int) ≤ 9 ∧ inI64 d.wiped ∧ Cu w' b w0 v xs ∧ w.grownBy w' (some b) := by
  have hlt := h.lt
  have hal : ∀ (W : World) (o : Obj), RowKit.Below W.heap.size W (W.alloc o) := fun W o => (Below.refl _ _).alloc (Nat.le_refl _) _
  have c0 := h.below (hal w (.cells #[.string ⟨#[]⟩, .slice none 0 0, .int .i64 0] 64))
  have g0 := grown_below (World.grownBy.refl w (some b)) (hal w (.cells #[.string ⟨#[]⟩, .slice none 0 0, .int .i64 0] 64))
  have B0 := Bx.new w #[.string ⟨#[]⟩, .slice none 0 0, .int .i64 0] 64
  have z0 : (w.alloc (.cells #[.string ⟨#[]⟩, .slice none 0 0, .int .i64 0] 64)).heap.size = w.heap.size + 1 := by simp
  go_enter Try.func114, Try.ntmps114
  go_upto_region 1 with fail
  generalize w.alloc (.cells #[.string ⟨#[]⟩, .slice none 0 0, .int .i64 0] 64) = wA at *
  go_wp2_with fail
  refine (l3Key_any b w0 v xs _ c0).mono ?_
  rintro e w1 ⟨mk, rfl, hmk, c1, g1⟩
  have q1 := grown2 g0 g1
  have B1 := B0.grown g1 (by simp; omega)
  have z1 := g1.size
  have D0 : KSt b w0 v xs w (w1.heap.size + 1) w1.heap.size none 0 ⟨mk, [], 0⟩ (w1.alloc (.cells #[.string mk, .slice none 0 0, .int .i64 0] 64)) :=
    ⟨c1.below (hal _ _), ⟨Bx.new _ _ _, World.ownsRow_nil _ _ _ _, fun k hk => by simp [Value.ownBlock] at hk, Nat.lt_succ_self _⟩, grown_below q1 (hal _ _), B1.below (hal _ _), by omega, hlt, by simp⟩
  go_upto_region 2 with fail
  generalize w1.alloc (.cells #[.string mk, .slice none 0 0, .int .i64 0] 64) = W3 at *
  generalize w1.heap.size = g at *
  clear c1 q1 B1 c0 g0 B0 g1
  go_wp2_with fail
  refine (l1Below_any b w0 v xs 5 (by decide) _ D0.cu).mono ?_
  rintro e w3 ⟨n3, rfl, hn3, _, c3, g3⟩
  have hn3 := hn3 (by decide)
  have D3 := D0.step g3 c3
  clear D0 c3 g3
  go_wp2_with fail
  go_loopw [4] (fun n wr => ∃ (r hi : Nat) (a0 : Option Addr) (c0 : Nat) (d : KeyDevR), n = .int .i64 r ∧ (r : Int) ≤ 5 ∧ KSt b w0 v xs w hi g a0 c0 d wr ∧ (d.slots.length : Int) ≤ 5 - (r : Int) ∧ inI64 d.wiped) (fun n _ => (intOf n).toNat)
  case atStart => exact ⟨n3, _, _, _, _, rfl, by omega, D3, by simp; omega, by simp [inI64]⟩
  case round =>
    clear D3
    obtain ⟨r, hi, a0, k0, d, rfl, hr, D, l0, lw⟩ := hrel
    by_cases hr0 : 0 < r
    · have R1 : IntKind.i64.wrap ((r : Int) - 1) = ((r - 1 : Nat) : Int) := by rw [IntKind.wrap_i64]; omega
      go_upto_region 5 with fail
      go_cut [5, 6] (fun s5 s6 wx => ∃ (g5 : Nat) (e0 : Option Addr) (f0 : Nat) (d5 : KeyDevR) (bb : Bool), s5 = .pointer (some ⟨g5, 0, none⟩) ∧ s6 = .bool bb ∧ KeyIn (g + 1) wx.heap.size g5 e0 f0 d5 wx ∧ (bb = true → (d5.slots.length : Int) ≤ 5 - (r : Int) + 1 ∧ inI64 d5.wiped) ∧ KSt b w0 v xs w hi g a0 k0 d wx)
      case first =>
        have zr := D.sz
        have zb := D.bl
        have zg := D.dev.gh
        have zl := D.gl
        have zd : wr.drew.heap.size = wr.heap.size := rfl
        have zd2 : (wr.alloc (.cells #[.string ⟨#[]⟩, .slice none 0 0, .int .i64 0] 64)).drew.heap.size = wr.heap.size + 1 := World.size_alloc _ _
        have BZ : Bx (wr.alloc (.cells #[.string ⟨#[]⟩, .slice none 0 0, .int .i64 0] 64)).drew wr.heap.size #[.string ⟨#[]⟩, .slice none 0 0, .int .i64 0] := Bx.new wr _ _
        go_region_held (fun w' => w'.cell? ⟨g, 0, none⟩ = some (.string d.master) ∧ w'.cell? ⟨g, 1, none⟩ = some (.slice a0 d.slots.length k0) ∧ w'.cell? ⟨g, 2, none⟩ = some (.int .i64 d.wiped) ∧ KSt b w0 v xs w hi g a0 k0 d w')
          ((refine KSt.S ?_; first | assumption | exact D.below (below_drew _) | exact (KSt.of (by assumption)).below (hal2 _ _) | exact sp.below (hal2 _ _) | exact ((sp.far _ _ (by simp; omega)).far _ _ (by simp; omega)).far _ _ (by simp; omega)))
          (first
            | (go_at_call 66; refine (l1Below_any b w0 v xs 6 (by decide) _ (KSt.of (by assumption)).cu).mono ?_; rintro e wq ⟨xq, rfl, hxq, _, cq, gq⟩; have sq := KSt.step (KSt.of (by assumption)) gq cq; have zq := gq.size; (try rw [World.size_alloc] at zq); (first | (have x1 := Bx.grown BZ gq (by simp; omega)) | skip))
            | (go_at_call 105; refine (l3Key_any b w0 v xs _ (KSt.of (by assumption)).cu).mono ?_; rintro e wt ⟨xt, rfl, hxt, ct, gt⟩; have st := KSt.step (KSt.of (by assumption)) gt ct; have zt := gt.size; (try rw [World.size_alloc] at zt); (first | (have x2 := Bx.grown x1 gt (by simp; omega)) | (have x2 := Bx.grown (Bx.new _ _ _) gt (by simp; omega)) | skip))
            | (go_at_call 44; go_loud (have hs := KSt.of (b := b) (by assumption); refine (specKeyAdd_row d _ _ a0 k0 _ hs.sl0 (by omega)).mono ?_; rintro e wp ⟨vx, rfl, ⟨s0, rfl, o0⟩, bp⟩; have hbd := keyAdd_bd d (IntKind.i64.wrap (1 + (xq : Int))) xt _ l0 lw; obtain ⟨e0, f0, rfl⟩ := o0.form; have sp := KSt.below (KSt.of (by assumption)) bp; have zp := bp.size; (try rw [World.size_alloc] at zp); (first | (have x3 := Bx.below x2 bp) | (have x3 := Bx.below (Bx.new _ _ _) bp) | skip); (first | (have y0 := x3.cell 0 _ rfl; have y1 := x3.cell 1 _ rfl; have y2 := x3.cell 2 _ rfl; have yf := x3.frozen) | skip))))
        all_goals
          go_wp2_with fail
          go_meet
          have hq := KSt.of (b := b) (by assumption)
          refine ⟨_, e0, f0, _, _, rfl, rfl, ?_, hbd, hq⟩
          first
            | exact KeyIn.laid _ o0.1 (by first | omega | (simp; omega))
            | exact KeyIn.stored x3 o0.1 (by first | omega | (simp; done) | (simp; omega)) (by first | omega | (simp; done) | (simp; omega))
      case rest =>
        obtain ⟨g5, e0, f0, d5, bb, rfl, rfl, I5, hb5, D5⟩ := hcut
        have y0 := I5.bx.cell 0 _ rfl
        have y1 := I5.bx.cell 1 _ rfl
        have y2 := I5.bx.cell 2 _ rfl
        obtain ⟨v0, v1, v2, vf, _, _, _, _⟩ := D5.facts
        cases bb
        · clear hb5 I5 y0 y1 y2 v0 v1 v2 vf D
          go_wp2
          go_roundw
          case rel => exact ⟨r - 1, _, _, _, _, rfl, by omega, D5, by omega, lw⟩
          case measure => simp [intOf]; omega
        · obtain ⟨b1, b2⟩ := hb5 rfl
          have D6 := D5.put I5
          clear D
          go_wp2
          go_roundw
          case rel => exact ⟨r - 1, _, _, _, _, rfl, by omega, D6, by omega, b2⟩
          case measure => simp [intOf]; omega
    · obtain rfl : r = 0 := by omega
      have l5 : (d.slots.length : Int) ≤ 5 := by omega
      clear l0 hr hr0
      go_wp2_with fail
      refine (l1Once_any b w0 v xs 3 (by decide) _ D.cu).mono ?_
      rintro e w6 ⟨on, rfl, c6, g6⟩
      have D6 := D.step g6 c6
      clear D c6 g6
      go_upto_if 31 with (fail)
      go_cut [] (fun wx => ∃ (hi : Nat) (a0 : Option Addr) (k0 : Nat) (d : KeyDevR), KSt b w0 v xs w hi g a0 k0 d wx ∧ (d.slots.length : Int) ≤ 5 ∧ inI64 d.wiped)
      case first =>
        cases on
        · go_wp2
          go_meet
          exact ⟨_, _, _, _, D6, l5, lw⟩
        · go_upto_region 9 with fail
          go_cut [7, 8] (fun s5 s6 wx => ∃ (g5 : Nat) (e0 : Option Addr) (f0 : Nat) (d5 : KeyDevR) (bb : Bool), s5 = .pointer (some ⟨g5, 0, none⟩) ∧ s6 = .bool bb ∧ KeyIn (g + 1) wx.heap.size g5 e0 f0 d5 wx ∧ (bb = true → (d5.slots.length : Int) ≤ 5 ∧ inI64 d5.wiped) ∧ KSt b w0 v xs w hi g a0 k0 d wx)
          case first =>
            have zr := D6.sz
            have zb := D6.bl
            have zg := D6.dev.gh
            have zl := D6.gl
            have zd : w6.drew.heap.size = w6.heap.size := rfl
            have zd2 : (w6.alloc (.cells #[.string ⟨#[]⟩, .slice none 0 0, .int .i64 0] 64)).drew.heap.size = w6.heap.size + 1 := World.size_alloc _ _
            have BZ : Bx (w6.alloc (.cells #[.string ⟨#[]⟩, .slice none 0 0, .int .i64 0] 64)).drew w6.heap.size #[.string ⟨#[]⟩, .slice none 0 0, .int .i64 0] := Bx.new w6 _ _
            go_region_held (fun w' => w'.cell? ⟨g, 0, none⟩ = some (.string d.master) ∧ w'.cell? ⟨g, 1, none⟩ = some (.slice a0 d.slots.length k0) ∧ w'.cell? ⟨g, 2, none⟩ = some (.int .i64 d.wiped) ∧ KSt b w0 v xs w hi g a0 k0 d w')
              ((refine KSt.S ?_; first | assumption | exact D6.below (below_drew _) | exact (KSt.of (by assumption)).below (hal2 _ _) | exact sp.below (hal2 _ _) | exact ((sp.far _ _ (by simp; omega)).far _ _ (by simp; omega)).far _ _ (by simp; omega)))
              (first
                | (go_at_call 66; refine (l1Below_any b w0 v xs 6 (by decide) _ (KSt.of (by assumption)).cu).mono ?_; rintro e wt ⟨xq, rfl, hxq, _, cq, gq⟩; have sq := KSt.step (KSt.of (by assumption)) gq cq; have zq := gq.size; (try rw [World.size_alloc] at zq); (first | (have x2 := Bx.grown BZ gq (by simp; omega)) | (have x2 := Bx.grown (Bx.new _ _ _) gq (by simp; omega)) | skip))
                | (go_at_call 41; go_loud (have hs := KSt.of (b := b) (by assumption); refine (specKeyWipe_row d _ a0 k0 _ hs.sl0 (by omega)).mono ?_; rintro e wp ⟨vx, rfl, ⟨s0, rfl, o0⟩, bp⟩; have hbd := keyWipe_bd d (IntKind.i64.wrap (1 + (xq : Int))) _ l5; obtain ⟨e0, f0, rfl⟩ := o0.form; have sp := KSt.below (KSt.of (by assumption)) bp; have zp := bp.size; (try rw [World.size_alloc] at zp); (first | (have x3 := Bx.below x2 bp) | (have x3 := Bx.below (Bx.new _ _ _) bp) | skip); (first | (have y0 := x3.cell 0 _ rfl; have y1 := x3.cell 1 _ rfl; have y2 := x3.cell 2 _ rfl; have yf := x3.frozen) | skip))))
            all_goals
              go_wp2_with fail
              go_meet
              have hq := KSt.of (b := b) (by assumption)
              refine ⟨_, e0, f0, _, _, rfl, rfl, ?_, hbd, hq⟩
              first
                | exact KeyIn.laid _ o0.1 (by first | omega | (simp; omega))
                | exact KeyIn.stored x3 o0.1 (by first | omega | (simp; done) | (simp; omega)) (by first | omega | (simp; done) | (simp; omega))
          case rest =>
            obtain ⟨g5, e0, f0, d5, bb, rfl, rfl, I5, hb5, D5⟩ := hcut
            have y0 := I5.bx.cell 0 _ rfl
            have y1 := I5.bx.cell 1 _ rfl
            have y2 := I5.bx.cell 2 _ rfl
            obtain ⟨v0, v1, v2, vf, _, _, _, _⟩ := D5.facts
            cases bb
            · go_wp2
              go_meet
              exact ⟨_, _, _, _, D5, l5, lw⟩
            · obtain ⟨b1, b2⟩ := hb5 rfl
              have D7 := D5.put I5
              go_wp2
              go_meet
              exact ⟨_, _, _, _, D7, b1, b2⟩
      case rest =>
        clear D6 l5 lw
        obtain ⟨hi, a0, k0, d, D6, l5, lw⟩ := hcut
        go_wp2_with fail
        refine (l1Once_any b w0 v xs 12 (by decide) _ D6.cu).mono ?_
        rintro e w7 ⟨on2, rfl, c7, g7⟩
        have D7 := D6.step g7 c7
        clear D6 c7 g7
        cases on2
        · skip
          obtain ⟨v0, v1, v2, vf, ra, rb, rc, rf⟩ := D7.facts
          go_wp2
          obtain ⟨F1, F2, F3, F4⟩ := D7.fin (.string (d).master) (.slice a0 (d).slots.length k0) (.int .i64 (d).wiped)
          clear ra rb rc
          have ra := F1.cell 0 _ rfl
          have rb := F1.cell 1 _ rfl
          have rc := F1.cell 2 _ rfl
          generalize World.setCell (World.setCell (World.setCell _ ⟨w.heap.size, 0, none⟩ _) ⟨w.heap.size, 1, none⟩ _) ⟨w.heap.size, 2, none⟩ _ = WW at *
          exact bodyPost_ret (v := .agg #[.string (d).master, .slice a0 (d).slots.length k0, .int .i64 (d).wiped]) (by simp [results, Try.results114, go_sem, ra, rb, rc]) rfl ⟨_, _, d, rfl, F2, by first | omega | (simp; omega), by assumption, F3, F4⟩
        · go_wp2_with fail
          refine (l1Below_any b w0 v xs 3 (by decide) _ D7.cu).mono ?_
          rintro e w8 ⟨sw, rfl, hsw, _, c8, g8⟩
          have hsw := hsw (by decide)
          have D8 := D7.step g8 c8
          clear D7 c8 g8
          rcases (by omega : sw = 0 ∨ sw = 1 ∨ sw = 2) with rfl | rfl | rfl
          · go_wp2_with fail
            have zb := D8.bl
            have zb2 := D8.gr.size
            have hl0 : SlT intC 1 (w8.alloc (.cells #[.int .i64 (-1), .int .i64 1000000, .int .i64 1000001] 3)) (.slice (some ⟨w8.heap.size, 0, none⟩) 3 3) [-1, 1000000, 1000001] :=
              lit_slT intC #[.int .i64 (-1), .int .i64 1000000, .int .i64 1000001] _ 3 w8 3 rfl (fun _ => rfl) rfl (by decide)
            have D9 := D8.below (hal2 w8 (.cells #[.int .i64 (-1), .int .i64 1000000, .int .i64 1000001] 3))
            refine (l1PickInt_any b w0 v xs _ D9.cu _ _ hl0 (fun a n c e _ => by simp only [Value.slice.injEq, Option.some.injEq] at e; rw [← e.1]; show w8.heap.size ≠ b; omega) (by decide) (by decide)).mono ?_
            rintro e w9 ⟨n9, hn9, rfl, c9, g9⟩
            have D10 := D9.step g9 c9
            have hw9 : inI64 n9 := by simp at hn9; unfold inI64; omega
            clear hl0 D8 D9 g9 c9
            obtain ⟨v0, v1, v2, vf, ra, rb, rc, rf⟩ := D10.facts
            have D11 := D10.setW n9
            go_upto_region 19 with fail
            clear v0 v1 v2 vf ra rb rc rf D10
            generalize World.setCell w9 ⟨g, 2, none⟩ (.int .i64 n9) = w10 at *
            obtain ⟨v0, v1, v2, vf, ra, rb, rc, rf⟩ := D11.facts
            go_wp2
            obtain ⟨F1, F2, F3, F4⟩ := D11.fin (.string ((⟨d.master, d.slots, n9⟩ : KeyDevR)).master) (.slice a0 ((⟨d.master, d.slots, n9⟩ : KeyDevR)).slots.length k0) (.int .i64 ((⟨d.master, d.slots, n9⟩ : KeyDevR)).wiped)
            clear ra rb rc
            have ra := F1.cell 0 _ rfl
            have rb := F1.cell 1 _ rfl
            have rc := F1.cell 2 _ rfl
            generalize World.setCell (World.setCell (World.setCell _ ⟨w.heap.size, 0, none⟩ _) ⟨w.heap.size, 1, none⟩ _) ⟨w.heap.size, 2, none⟩ _ = WW at *
            exact bodyPost_ret (v := .agg #[.string ((⟨d.master, d.slots, n9⟩ : KeyDevR)).master, .slice a0 ((⟨d.master, d.slots, n9⟩ : KeyDevR)).slots.length k0, .int .i64 ((⟨d.master, d.slots, n9⟩ : KeyDevR)).wiped]) (by simp [results, Try.results114, go_sem, ra, rb, rc]) rfl ⟨_, _, (⟨d.master, d.slots, n9⟩ : KeyDevR), rfl, F2, by first | omega | (simp; omega), by assumption, F3, F4⟩
          · go_upto_region 18 with fail
            have D9 := D8.below (below_drew w8)
            obtain ⟨v0, v1, v2, vf, ra, rb, rc, rf⟩ := D9.facts
            go_region_law (first
              | (go_simp; go_at_call 66; refine (l1Below_any b w0 v xs 8 (by decide) _ D9.cu).mono ?_; rintro e w9 ⟨n9, rfl, hn9, _, c9, g9⟩; have DA := D9.step g9 c9; obtain ⟨t0, t1, t2, tf, _, _, _, _⟩ := DA.facts)
              | (go_simp; go_at_call 105; refine (l3Key_any b w0 v xs _ DA.cu).mono ?_; rintro e wt ⟨t, rfl, ht, ct, gt⟩; have DB := DA.step gt ct; obtain ⟨s0, s1, s2, sf, _, _, _, _⟩ := DB.facts; have DC := DB.below (hal2 wt (.cells #[.int .i64 (n9 : Int), .string t] 150)); obtain ⟨q0, q1, q2, qf, _, _, _, _⟩ := DC.facts; have zC : w.heap.size + 1 ≤ (wt.alloc (.cells #[.int .i64 (n9 : Int), .string t] 150)).heap.size := (by have := DC.dev.bx.lt; have := DC.gl; omega))
              | (refine step_app_at (v := .slice a0 d.slots.length k0) (o := ⟨some 65, _, _, _, _, _⟩) rfl rfl Try.underlying62 info_KeySlot rfl (by decide) rfl DC.dev.r0 1 rfl (heap_alloc_new wt _) rfl (by simp [Value.oneCell']) (by omega) (Below.refl (w.heap.size + 1) _) (Nat.le_refl _) zC ?_; intro v' w1' r1' b1' g1' e1'; have hx := DC.dev.bx.grown g1' (fun e => (DC.dev.n0 _ e).1 rfl); have k1 := hx.cell 1 _ rfl; have kf := hx.frozen; have r2' : w1'.ownsRow (w.heap.size + 1) 150 2 v' (d.slots.length + 1) ((d.slots.map SlotR.cells).flatten ++ SlotR.cells ⟨(n9 : Int), t⟩) := r1'; obtain ⟨e1, f1, rfl, DD⟩ := DC.app ⟨(n9 : Int), t⟩ r2' g1' (e1'.imp id fun h => ⟨_, h, Nat.le_refl _⟩)))
            all_goals
              have hl9 : ((d.slots ++ [(⟨(n9 : Int), t⟩ : SlotR)]).length : Int) ≤ 9 := by simp; omega
              have hl8 : (d.slots ++ [(⟨(n9 : Int), t⟩ : SlotR)]).length = d.slots.length + 1 := by simp
              clear v0 v1 v2 vf ra rb rc rf t0 t1 t2 tf s0 s1 s2 sf q0 q1 q2 qf k1 kf hx r2' r1' b1' g1' e1' D8 D9 DA DB DC zC
              generalize d.slots ++ [(⟨(n9 : Int), t⟩ : SlotR)] = sl' at *
              rw [← hl8] at DD ⊢
              clear hl8
              generalize World.setCell w1' _ _ = w10 at *
              obtain ⟨v0, v1, v2, vf, ra, rb, rc, rf⟩ := DD.facts
              go_wp2
              obtain ⟨F1, F2, F3, F4⟩ := DD.fin (.string ((⟨d.master, sl', d.wiped⟩ : KeyDevR)).master) (.slice e1 ((⟨d.master, sl', d.wiped⟩ : KeyDevR)).slots.length f1) (.int .i64 ((⟨d.master, sl', d.wiped⟩ : KeyDevR)).wiped)
              clear ra rb rc
              have ra := F1.cell 0 _ rfl
              have rb := F1.cell 1 _ rfl
              have rc := F1.cell 2 _ rfl
              generalize World.setCell (World.setCell (World.setCell _ ⟨w.heap.size, 0, none⟩ _) ⟨w.heap.size, 1, none⟩ _) ⟨w.heap.size, 2, none⟩ _ = WW at *
              exact bodyPost_ret (v := .agg #[.string ((⟨d.master, sl', d.wiped⟩ : KeyDevR)).master, .slice e1 ((⟨d.master, sl', d.wiped⟩ : KeyDevR)).slots.length f1, .int .i64 ((⟨d.master, sl', d.wiped⟩ : KeyDevR)).wiped]) (by simp [results, Try.results114, go_sem, ra, rb, rc]) rfl ⟨_, _, (⟨d.master, sl', d.wiped⟩ : KeyDevR), rfl, F2, by omega, by assumption, F3, F4⟩
          · go_wp2_with fail
            refine (l1Text_any b w0 v xs 33 (by decide) _ D8.cu).mono ?_
            rintro e w9 ⟨t, rfl, ht, c9, g9⟩
            have D9 := D8.step g9 c9
            clear D8 g9 c9
            obtain ⟨v0, v1, v2, vf, ra, rb, rc, rf⟩ := D9.facts
            have D11 := D9.setM t
            go_upto_region 19 with fail
            clear v0 v1 v2 vf ra rb rc rf D9
            generalize World.setCell w9 ⟨g, 0, none⟩ (.string t) = w10 at *
            obtain ⟨v0, v1, v2, vf, ra, rb, rc, rf⟩ := D11.facts
            go_wp2
            obtain ⟨F1, F2, F3, F4⟩ := D11.fin (.string ((⟨t, d.slots, d.wiped⟩ : KeyDevR)).master) (.slice a0 ((⟨t, d.slots, d.wiped⟩ : KeyDevR)).slots.length k0) (.int .i64 ((⟨t, d.slots, d.wiped⟩ : KeyDevR)).wiped)
            clear ra rb rc
            have ra := F1.cell 0 _ rfl
            have rb := F1.cell 1 _ rfl
            have rc := F1.cell 2 _ rfl
            generalize World.setCell (World.setCell (World.setCell _ ⟨w.heap.size, 0, none⟩ _) ⟨w.heap.size, 1, none⟩ _) ⟨w.heap.size, 2, none⟩ _ = WW at *
            exact bodyPost_ret (v := .agg #[.string ((⟨t, d.slots, d.wiped⟩ : KeyDevR)).master, .slice a0 ((⟨t, d.slots, d.wiped⟩ : KeyDevR)).slots.length k0, .int .i64 ((⟨t, d.slots, d.wiped⟩ : KeyDevR)).wiped]) (by simp [results, Try.results114, go_sem, ra, rb, rc]) rfl ⟨_, _, (⟨t, d.slots, d.wiped⟩ : KeyDevR), rfl, F2, by first | omega | (simp; omega), by assumption, F3, F4⟩
end Go.Proofs.Ytfbbdnicplbmdaa
/- Walks: SealFile and Wrap of both sides. -/
set_option linter.unusedVariables false
set_option linter.unusedSimpArgs false
namespace Go.Proofs.Ytfbbdnicplbmdaa
open Go.RowKit Sp
attribute [local go_sem] str_size str_append

set_option maxRecDepth 100000 in
set_option maxHeartbeats 800000 in
theorem specWrap (m key : ByteArray) (n : Int) (w : World) (ht : (key.size : Int) ≤ 1048576) :
    Calls Try.prog 106 #[.string m, .int .i64 n, .string key] w fun e w' => e = .returned (.string (str (wrapL m n key))) ∧ Below w.heap.size w w' := by
  by_cases h1 : (m.size : Int) = 32
  · by_cases h3 : (key.size : Int) = 32
    · by_cases h2 : inB n 0 562949953421311 = true
      · have HR := Lib.hid (show wrapL m n key = sumL (chaS m 0 (str (nonceL 1 n)) key) by unfold wrapL; rw [if_pos ⟨by simp [wrapB, h1, h2], h3⟩])
        have hsl := chaS_length_le m 0 (str (nonceL 1 n)) key
        go_enter Try.func106, Try.ntmps106
        go_wp2_with (first | (go_at_call 104; refine (l1In_any _ _ _ _).mono ?_; rintro e w' ⟨rfl, rfl⟩; rw [h2]) | fail)
        go_wp2_with fail
        refine (specNonce _ _ _).mono ?_
        rintro e w2 ⟨rfl, b2⟩
        go_wp2_with fail
        refine (specChaStream _ _ _ _ _ ht).mono ?_
        rintro e w3 ⟨rfl, b3⟩
        have x3 := b2.trans (b3.mono b2.size)
        generalize chaS m 0 (str (nonceL 1 n)) key = st at *
        have hcb := crcV_bd st
        have hfl := fixedL_length_le (crcV st) 4
        go_wp2_with fail
        refine (specCrc _ _ (by rw [str_size]; omega)).mono ?_
        rintro e w' ⟨rfl, rfl⟩
        rw [str_data]
        go_wp2_with fail
        refine (specFixed _ _ _ (by omega)).mono ?_
        rintro e w9 ⟨rfl, b9⟩
        have x9 := x3.trans (b9.mono x3.size)
        go_wp2
        go_ret
        exact ⟨by rw [HR.out]; rfl, x9⟩
      · have h2' : inB n 0 562949953421311 = false := by simpa using h2
        have HR := Lib.hid (show wrapL m n key = [] by unfold wrapL; rw [if_neg (by intro h; simp [wrapB, h2'] at h)])
        go_enter Try.func106, Try.ntmps106
        go_wp2_with (go_at_call 104; refine (l1In_any _ _ _ _).mono ?_; rintro e w' ⟨rfl, rfl⟩; rw [h2'])
        go_ret
        exact ⟨by rw [HR.out]; rfl, Below.refl _ _⟩
    · have HR := Lib.hid (show wrapL m n key = [] by unfold wrapL; rw [if_neg (by intro h; exact h3 h.2)])
      go_enter Try.func106, Try.ntmps106
      go_wp2
      go_ret
      exact ⟨by rw [HR.out]; rfl, Below.refl _ _⟩
  · have HR := Lib.hid (show wrapL m n key = [] by unfold wrapL; rw [if_neg (by intro h; simp [wrapB, h1] at h)])
    by_cases h3 : (key.size : Int) = 32
    all_goals
      go_enter Try.func106, Try.ntmps106
      go_wp2
      go_ret
      exact ⟨by rw [HR.out]; rfl, Below.refl _ _⟩

set_option maxRecDepth 100000 in
set_option maxHeartbeats 800000 in
theorem implWrap (m key : ByteArray) (n : Int) (w : World) (ht : (key.size : Int) ≤ 1048576) :
    Calls Try.prog 38 #[.string m, .int .i64 n, .string key] w fun e w' => e = .returned (.string (str (wrapL m n key))) ∧ Below w.heap.size w w' := by
  by_cases h1 : (m.size : Int) = 32
  · by_cases h3 : (key.size : Int) = 32
    · by_cases h2 : inB n 0 562949953421311 = true
      · have HR := Lib.hid (show wrapL m n key = sumL (chaS m 0 (str (nonceL 1 n)) key) by unfold wrapL; rw [if_pos ⟨by simp [wrapB, h1, h2], h3⟩])
        have hsl := chaS_length_le m 0 (str (nonceL 1 n)) key
        go_enter Try.func38, Try.ntmps38
        go_wp2_with (first | (go_at_call 108; refine (inRange_any _ _ _ _).mono ?_; rintro e w' ⟨rfl, rfl⟩; rw [h2]) | fail)
        go_wp2_with fail
        refine (implNonce _ _ _).mono ?_
        rintro e w2 ⟨rfl, b2⟩
        go_wp2_with fail
        refine (implChaStream _ _ _ _ _ ht).mono ?_
        rintro e w3 ⟨rfl, b3⟩
        have x3 := b2.trans (b3.mono b2.size)
        generalize chaS m 0 (str (nonceL 1 n)) key = st at *
        go_wp2_with fail
        refine (summed_any _ _ (by omega)).mono ?_
        rintro e w9 ⟨rfl, b9⟩
        have x9 := x3.trans (b9.mono x3.size)
        go_wp2
        go_ret
        exact ⟨by rw [HR.out]; rfl, x9⟩
      · have h2' : inB n 0 562949953421311 = false := by simpa using h2
        have HR := Lib.hid (show wrapL m n key = [] by unfold wrapL; rw [if_neg (by intro h; simp [wrapB, h2'] at h)])
        go_enter Try.func38, Try.ntmps38
        go_wp2_with (go_at_call 108; refine (inRange_any _ _ _ _).mono ?_; rintro e w' ⟨rfl, rfl⟩; rw [h2'])
        go_ret
        exact ⟨by rw [HR.out]; rfl, Below.refl _ _⟩
    · have HR := Lib.hid (show wrapL m n key = [] by unfold wrapL; rw [if_neg (by intro h; exact h3 h.2)])
      go_enter Try.func38, Try.ntmps38
      go_wp2
      go_ret
      exact ⟨by rw [HR.out]; rfl, Below.refl _ _⟩
  · have HR := Lib.hid (show wrapL m n key = [] by unfold wrapL; rw [if_neg (by intro h; simp [wrapB, h1] at h)])
    by_cases h3 : (key.size : Int) = 32
    all_goals
      go_enter Try.func38, Try.ntmps38
      go_wp2
      go_ret
      exact ⟨by rw [HR.out]; rfl, Below.refl _ _⟩
end Go.Proofs.Ytfbbdnicplbmdaa
set_option linter.unusedVariables false
set_option linter.unusedSimpArgs false
namespace Go.Proofs.Ytfbbdnicplbmdaa
open Go.RowKit Sp Go.Sort
theorem Bx.k3 {W : World} {q : Nat} {x y z : Value} (h : Bx W q #[x, y, z]) : W.cell? ⟨q, 0, none⟩ = some x ∧ W.cell? ⟨q, 1, none⟩ = some y ∧ W.cell? ⟨q, 2, none⟩ = some z := ⟨h.cell 0 _ rfl, h.cell 1 _ rfl, h.cell 2 _ rfl⟩
theorem Bx.kfar3 {W : World} {q r : Nat} {c : Array Value} (h : Bx W q c) (hn : q ≠ r) (x y z : Value) : Bx (((W.setCell ⟨r, 0, none⟩ x).setCell ⟨r, 1, none⟩ y).setCell ⟨r, 2, none⟩ z) q c := ((h.far _ _ hn).far _ _ hn).far _ _ hn
set_option maxRecDepth 100000 in
set_option maxHeartbeats 3200000 in
theorem drawKeyWipe_any (v : Value) (xs : List UInt8) (w : World) (h : SlT bytC 1 w v xs) (hs : (xs.length : Int) ≤ 1048576) :
    Calls Try.prog 39 #[v] w fun e w' => ∃ (a0 : Option Addr) (c0 : Nat) (d : KeyDevR) (n : Int), e = .returned (.tuple #[.agg #[.string d.master, .slice a0 d.slots.length c0, .int .i64 d.wiped], .int .i64 n]) ∧ IsKeyDev w' (.agg #[.string d.master, .slice a0 d.slots.length c0, .int .i64 d.wiped]) d ∧ (d.slots.length : Int) ≤ 9 ∧ inI64 d.wiped ∧ Below w.heap.size w w' := by
  have hA := hal2 w (.cells #[.string ⟨#[]⟩, .slice none 0 0, .int .i64 0] 64)
  have B0 := Bx.new w #[.string ⟨#[]⟩, .slice none 0 0, .int .i64 0] 64
  have h' := h.below hA
  go_enter Try.func39, Try.ntmps39
  go_wp2_with fail
  refine (l1New_any v xs _ h' hs).mono ?_
  rintro e w1 ⟨b, rfl, c1, b1⟩
  have B1 := B0.below b1
  have x1 : RowKit.Below w.heap.size w w1 := hA.trans (b1.mono hA.size)
  have lo1 := c1.lo
  have hb1 := c1.lt
  have zA : (w.alloc (.cells #[.string ⟨#[]⟩, .slice none 0 0, .int .i64 0] 64)).heap.size = w.heap.size + 1 := by simp
  generalize w.alloc (.cells #[.string ⟨#[]⟩, .slice none 0 0, .int .i64 0] 64) = wA at *
  clear B0 hA b1
  go_wp2_with fail
  refine (l4Some_any b wA v xs _ c1).mono ?_
  rintro e w2 ⟨a0, c0, d, rfl, o0, hl, hw, c2, g2⟩
  have B2 := B1.grown g2 (by simp; omega)
  have x2 : RowKit.Below w.heap.size w w2 := x1.grown g2 x1.size (fun k e => by have := Option.some.inj e; omega)
  have hb2 := c2.lt
  have zB := B1.lt
  have n2 := g2.size
  have x1s := x1.size
  have o0lo := fun k e => (o0.lt k e).1
  have c3 := c2.below (hal2 w2 (.cells #[.string d.master, .slice a0 d.slots.length c0, .int .i64 d.wiped] 64))
  have B3 := B2.below (hal2 w2 (.cells #[.string d.master, .slice a0 d.slots.length c0, .int .i64 d.wiped] 64))
  have x3 := x2.alloc x2.size (.cells #[.string d.master, .slice a0 d.slots.length c0, .int .i64 d.wiped] 64)
  have Q3 := Bx.new w2 #[.string d.master, .slice a0 d.slots.length c0, .int .i64 d.wiped] 64
  have O0 := o0.alloc (.cells #[.string d.master, .slice a0 d.slots.length c0, .int .i64 d.wiped] 64)
  go_upto_region 3 with fail
  generalize w2.alloc (.cells #[.string d.master, .slice a0 d.slots.length c0, .int .i64 d.wiped] 64) = w3 at *
  generalize w2.heap.size = q at *
  clear B2 c2 B1 c1 g2 o0 x1 x2
  have y0 := Q3.cell 0 _ rfl
  have y1 := Q3.cell 1 _ rfl
  have y2 := Q3.cell 2 _ rfl
  have c3d := c3.below (below_drew w3)
  have B3d := B3.below (below_drew w3)
  have Q3d := Q3.below (below_drew w3)
  have G0 : w3.grownBy w3.drew (some b) := grown_below (World.grownBy.refl _ _) (below_drew w3)
  go_region_held (fun w' => w'.cell? ⟨q, 0, none⟩ = some (.string d.master) ∧ w'.cell? ⟨q, 1, none⟩ = some (.slice a0 d.slots.length c0) ∧ w'.cell? ⟨q, 2, none⟩ = some (.int .i64 d.wiped))
    (first | exact Bx.k3 (by assumption) | exact (Bx.kfar3 (by assumption) (by omega) _ _ _).k3)
    (first | (go_at_call 66; refine (l1Below_any b wA v xs 6 (by decide) _ c3d).mono ?_; rintro e w5 ⟨m5, rfl, hm5, _, c5, g5⟩; have Q5 := Q3d.grown g5 (by simp; omega); have B5 := B3d.grown g5 (by simp; omega); have rf := B5.frozen; have ra := B5.cell 0 _ rfl; have rb := B5.cell 1 _ rfl; have rc := B5.cell 2 _ rfl; have G5 := grown2 G0 g5))
  go_wp2
  refine bodyPost_ret (v := .tuple #[.agg #[.string d.master, .slice a0 d.slots.length c0, .int .i64 d.wiped], .int .i64 (IntKind.i64.wrap (1 + (m5 : Int)))]) (by simp [results, Try.results39, go_sem, ra, rb, rc]) rfl ?_
  have x5 := x3.grown G5 x3.size (fun k e => by have := Option.some.inj e; omega)
  have r0 := own_grown O0 G5 (fun k hk e => by have := o0lo k hk; have := Option.some.inj e; omega)
  have f0 : (Value.slice a0 d.slots.length c0).ownBlock ≠ some w.heap.size := fun e => by have := o0lo _ e; omega
  refine ⟨a0, c0, d, _, rfl, ⟨_, rfl, SlT.of_own (own_far (own_far (own_far r0 _ _ f0) _ _ f0) _ _ f0) (fun _ => rfl) (by decide)⟩, hl, hw, ?_⟩
  exact below_set (below_set (below_set x5 _ _ (Nat.le_refl _)) _ _ (Nat.le_refl _)) _ _ (Nat.le_refl _)
set_option maxRecDepth 100000 in
set_option maxHeartbeats 3200000 in
theorem drawKeyAdd_any (v : Value) (xs : List UInt8) (w : World) (h : SlT bytC 1 w v xs) (hs : (xs.length : Int) ≤ 1048576) :
    Calls Try.prog 42 #[v] w fun e w' => ∃ (a0 : Option Addr) (c0 : Nat) (d : KeyDevR) (n : Int) (t : ByteArray), e = .returned (.tuple #[.agg #[.string d.master, .slice a0 d.slots.length c0, .int .i64 d.wiped], .int .i64 n, .string t]) ∧ IsKeyDev w' (.agg #[.string d.master, .slice a0 d.slots.length c0, .int .i64 d.wiped]) d ∧ (d.slots.length : Int) ≤ 9 ∧ inI64 d.wiped ∧ (t.size : Int) ≤ 32 ∧ Below w.heap.size w w' := by
  have hA := hal2 w (.cells #[.string ⟨#[]⟩, .slice none 0 0, .int .i64 0] 64)
  have B0 := Bx.new w #[.string ⟨#[]⟩, .slice none 0 0, .int .i64 0] 64
  have h' := h.below hA
  go_enter Try.func42, Try.ntmps42
  go_wp2_with fail
  refine (l1New_any v xs _ h' hs).mono ?_
  rintro e w1 ⟨b, rfl, c1, b1⟩
  have B1 := B0.below b1
  have x1 : RowKit.Below w.heap.size w w1 := hA.trans (b1.mono hA.size)
  have lo1 := c1.lo
  have hb1 := c1.lt
  have zA : (w.alloc (.cells #[.string ⟨#[]⟩, .slice none 0 0, .int .i64 0] 64)).heap.size = w.heap.size + 1 := by simp
  generalize w.alloc (.cells #[.string ⟨#[]⟩, .slice none 0 0, .int .i64 0] 64) = wA at *
  clear B0 hA b1
  go_wp2_with fail
  refine (l4Some_any b wA v xs _ c1).mono ?_
  rintro e w2 ⟨a0, c0, d, rfl, o0, hl, hw, c2, g2⟩
  have B2 := B1.grown g2 (by simp; omega)
  have x2 : RowKit.Below w.heap.size w w2 := x1.grown g2 x1.size (fun k e => by have := Option.some.inj e; omega)
  have hb2 := c2.lt
  have zB := B1.lt
  have n2 := g2.size
  have x1s := x1.size
  have o0lo := fun k e => (o0.lt k e).1
  have c3 := c2.below (hal2 w2 (.cells #[.string d.master, .slice a0 d.slots.length c0, .int .i64 d.wiped] 64))
  have B3 := B2.below (hal2 w2 (.cells #[.string d.master, .slice a0 d.slots.length c0, .int .i64 d.wiped] 64))
  have x3 := x2.alloc x2.size (.cells #[.string d.master, .slice a0 d.slots.length c0, .int .i64 d.wiped] 64)
  have Q3 := Bx.new w2 #[.string d.master, .slice a0 d.slots.length c0, .int .i64 d.wiped] 64
  have O0 := o0.alloc (.cells #[.string d.master, .slice a0 d.slots.length c0, .int .i64 d.wiped] 64)
  go_upto_region 3 with fail
  generalize w2.alloc (.cells #[.string d.master, .slice a0 d.slots.length c0, .int .i64 d.wiped] 64) = w3 at *
  generalize w2.heap.size = q at *
  clear B2 c2 B1 c1 g2 o0 x1 x2
  have zw3 := x3.size
  have hl0 : SlT intC 1 (w3.alloc (.cells #[.int .i64 1, .int .i64 2, .int .i64 3, .int .i64 5, .int .i64 99, .int .i64 0, .int .i64 100] 3)) (.slice (some ⟨w3.heap.size, 0, none⟩) 7 7) [1, 2, 3, 5, 99, 0, 100] :=
    lit_slT intC #[.int .i64 1, .int .i64 2, .int .i64 3, .int .i64 5, .int .i64 99, .int .i64 0, .int .i64 100] _ 7 w3 3 rfl (fun _ => rfl) rfl (by decide)
  have hA3 := hal2 w3 (.cells #[.int .i64 1, .int .i64 2, .int .i64 3, .int .i64 5, .int .i64 99, .int .i64 0, .int .i64 100] 3)
  have c4 := c3.below hA3
  have hb3 := c3.lt
  have B4 := B3.below hA3
  have Q4 := Q3.below hA3
  have x4 := x3.trans (hA3.mono x3.size)
  have O4 := own_below O0 hA3
  clear hA3 B3 Q3 x3 O0 c3
  go_wp2_with fail
  refine (l1PickInt_any b wA v xs _ c4 _ _ hl0 (fun a n c e _ => by simp only [Value.slice.injEq, Option.some.injEq] at e; rw [← e.1]; show w3.heap.size ≠ b; omega) (by decide) (by decide)).mono ?_
  rintro e w5 ⟨n, hn, rfl, c5, g5⟩
  have B5 := B4.grown g5 (by simp; omega)
  have Q5 := Q4.grown g5 (by simp; omega)
  have x5 := x4.grown g5 x4.size (fun k e => by have := Option.some.inj e; omega)
  have O5 := own_grown O4 g5 (fun k hk e => by have := o0lo k hk; have := Option.some.inj e; omega)
  clear hl0 c4 B4 Q4 x4 O4 g5
  go_upto_region 4 with fail
  have y0 := Q5.cell 0 _ rfl
  have y1 := Q5.cell 1 _ rfl
  have y2 := Q5.cell 2 _ rfl
  have c5d := c5.below (below_drew w5)
  have B5d := B5.below (below_drew w5)
  have Q5d := Q5.below (below_drew w5)
  have G0 : w5.grownBy w5.drew (some b) := grown_below (World.grownBy.refl _ _) (below_drew w5)
  go_region_held (fun w' => w'.cell? ⟨q, 0, none⟩ = some (.string d.master) ∧ w'.cell? ⟨q, 1, none⟩ = some (.slice a0 d.slots.length c0) ∧ w'.cell? ⟨q, 2, none⟩ = some (.int .i64 d.wiped))
    (first | exact Bx.k3 (by assumption) | exact (Bx.kfar3 (by assumption) (by omega) _ _ _).k3)
    (first | (go_at_call 105; refine (l3Key_any b wA v xs _ c5d).mono ?_; rintro e w6 ⟨t, rfl, ht, c6, g6⟩; have Q6 := Q5d.grown g6 (by simp; omega); have B6 := B5d.grown g6 (by simp; omega); have rf := B6.frozen; have ra := B6.cell 0 _ rfl; have rb := B6.cell 1 _ rfl; have rc := B6.cell 2 _ rfl; have G6 := grown2 G0 g6))
  go_wp2
  refine bodyPost_ret (v := .tuple #[.agg #[.string d.master, .slice a0 d.slots.length c0, .int .i64 d.wiped], .int .i64 n, .string t]) (by simp [results, Try.results42, go_sem, ra, rb, rc]) rfl ?_
  have x6 := x5.grown G6 x5.size (fun k e => by have := Option.some.inj e; omega)
  have r0 := own_grown O5 G6 (fun k hk e => by have := o0lo k hk; have := Option.some.inj e; omega)
  have f0 : (Value.slice a0 d.slots.length c0).ownBlock ≠ some w.heap.size := fun e => by have := o0lo _ e; omega
  refine ⟨a0, c0, d, _, t, rfl, ⟨_, rfl, SlT.of_own (own_far (own_far (own_far r0 _ _ f0) _ _ f0) _ _ f0) (fun _ => rfl) (by decide)⟩, hl, hw, ht, ?_⟩
  exact below_set (below_set (below_set x6 _ _ (Nat.le_refl _)) _ _ (Nat.le_refl _)) _ _ (Nat.le_refl _)
theorem wrapL_len (m : ByteArray) (n : Int) (key : ByteArray) : ((str (wrapL m n key)).size : Int) ≤ 100 := by
  unfold wrapL
  split
  · rename_i hc
    have hl : (chaS m 0 (str (nonceL 1 n)) key).length ≤ key.size := by
      unfold chaS
      split
      · rw [stT_length]; exact Nat.le_refl _
      · simp
    rw [str_size]
    unfold sumL
    rw [List.length_append, fixed4_length]
    omega
  · rw [str_size]; decide
set_option maxRecDepth 100000 in
set_option maxHeartbeats 3200000 in
theorem drawUnwrap_any (v : Value) (xs : List UInt8) (w : World) (h : SlT bytC 1 w v xs) (hs : (xs.length : Int) ≤ 1048576) :
    Calls Try.prog 35 #[v] w fun e w' => ∃ (m : ByteArray) (n : Int) (s : ByteArray), e = .returned (.tuple #[.string m, .int .i64 n, .string s]) ∧ (s.size : Int) ≤ 1048576 ∧ Below w.heap.size w w' := by
  go_enter Try.func35, Try.ntmps35
  go_wp2_with fail
  refine (l1New_any v xs _ h hs).mono ?_
  rintro e w1 ⟨b, rfl, c1, b1⟩
  have lo1 := c1.lo
  go_wp2_with fail
  refine (l3Key_any b w v xs _ c1).mono ?_
  rintro e w2 ⟨m, rfl, hm, c2, g2⟩
  have x2 : RowKit.Below w.heap.size w w2 := b1.grown g2 b1.size (fun k e => by have := Option.some.inj e; omega)
  clear b1 c1 g2
  go_wp2_with fail
  refine (l1Below_any b w v xs 9 (by decide) _ c2).mono ?_
  rintro e w3 ⟨n, rfl, hn, _, c3, g3⟩
  have hn := hn (by decide)
  have x3 : RowKit.Below w.heap.size w w3 := x2.grown g3 x2.size (fun k e => by have := Option.some.inj e; omega)
  have N1 : IntKind.i64.wrap ((n : Int) + 1) = (n : Int) + 1 := by rw [IntKind.wrap_i64]; omega
  clear x2 c2 g3
  go_wp2_with fail
  refine (l3Key_any b w v xs _ c3).mono ?_
  rintro e w4 ⟨key, rfl, hk, c4, g4⟩
  have x4 : RowKit.Below w.heap.size w w4 := x3.grown g4 x3.size (fun k e => by have := Option.some.inj e; omega)
  clear x3 c3 g4
  go_wp2_with fail
  refine (specWrap m key n _ (by omega)).mono ?_
  rintro e w5 ⟨rfl, b5⟩
  have x5 := x4.trans (b5.mono x4.size)
  have c5 := c4.below b5
  have hsz := wrapL_len m n key
  generalize str (wrapL m n key) = s at *
  clear x4 c4 b5
  go_wp2_with fail
  refine (l1Below_any b w v xs 4 (by decide) _ c5).mono ?_
  rintro e w6 ⟨sw, rfl, hsw, _, c6, g6⟩
  have hsw := hsw (by decide)
  have x6 : RowKit.Below w.heap.size w w6 := x5.grown g6 x5.size (fun k e => by have := Option.some.inj e; omega)
  clear x5 c5 g6
  rcases (by omega : sw = 0 ∨ sw = 1 ∨ sw = 2 ∨ sw = 3) with rfl | rfl | rfl | rfl
  · go_wp2_with fail
    refine (l1Spoil_any b w v xs s (by omega) _ c6).mono ?_
    rintro e w7 ⟨t, rfl, ht, c7, g7⟩
    have x7 : RowKit.Below w.heap.size w w7 := x6.grown g7 x6.size (fun k e => by have := Option.some.inj e; omega)
    go_wp2
    exact bodyPost_ret (v := .tuple #[.string m, .int .i64 (n : Int), .string t]) (by simp [results, Try.results35, go_sem]) rfl ⟨m, _, t, rfl, ht, x7⟩
  · go_wp2
    exact bodyPost_ret (v := .tuple #[.string m, .int .i64 ((n : Int) + 1), .string s]) (by simp [results, Try.results35, go_sem]) rfl ⟨m, _, s, rfl, by omega, x6⟩
  all_goals
    go_wp2
    exact bodyPost_ret (v := .tuple #[.string m, .int .i64 (n : Int), .string s]) (by simp [results, Try.results35, go_sem]) rfl ⟨m, _, s, rfl, by omega, x6⟩
end Go.Proofs.Ytfbbdnicplbmdaa
