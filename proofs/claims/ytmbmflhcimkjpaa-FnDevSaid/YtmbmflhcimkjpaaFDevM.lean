
/- Walk: the law FnDev. -/
import Derived.Test.YtmbmflhcimkjpaaDrawT
import Derived.Test.YtmbmflhcimkjpaaDevG
import Derived.Deep.DeepCutAuto
import Derived.Deep.RegionHeld
import Derived.Deep.RegionLaw
import Derived.Test.YtmbmflhcimkjpaaDevR
import Derived.Test.YtmbmflhcimkjpaaBig
/- Walks: the draws of devices. -/
set_option linter.unusedVariables false
set_option linter.unusedSimpArgs false
namespace Go.Proofs.Ytmbmflhcimkjpaa
open Go.RowKit Sp Go.Sort
theorem below_drew (W : World) : Below W.heap.size W W.drew := (Below.refl _ _).drew
theorem hal2 (W : World) (o : Obj) : RowKit.Below W.heap.size W (W.alloc o) := (Below.refl _ _).alloc (Nat.le_refl _) _
/-- A device in the box g, its slices rows of one's own from lo on and below hi, in blocks that are not the box. -/
structure DevIn (lo hi g : Nat) (a0 a1 : Option Addr) (c0 c1 : Nat) (d : DevR) (W : World) : Prop where
  bx : Bx W g #[.slice a0 d.sectors.length c0, .slice a1 d.cached.length c1, .int .i64 d.writes]
  r0 : W.ownsRow lo 9 1 (.slice a0 d.sectors.length c0) d.sectors.length (d.sectors.map strCells).flatten
  r1 : W.ownsRow lo 61 2 (.slice a1 d.cached.length c1) d.cached.length (d.cached.map PutR.cells).flatten
  ap : Apart (.slice a0 d.sectors.length c0) (.slice a1 d.cached.length c1)
  n0 : ∀ k, (Value.slice a0 d.sectors.length c0).ownBlock = some k → k ≠ g ∧ k < hi
  n1 : ∀ k, (Value.slice a1 d.cached.length c1).ownBlock = some k → k ≠ g ∧ k < hi
  gh : g < hi
section
variable {lo hi g : Nat} {a0 a1 : Option Addr} {c0 c1 : Nat} {d : DevR} {W W' : World}
theorem DevIn.below (h : DevIn lo hi g a0 a1 c0 c1 d W) (hb : Below W.heap.size W W') : DevIn lo hi g a0 a1 c0 c1 d W' :=
  ⟨h.bx.below hb, own_below h.r0 hb, own_below h.r1 hb, h.ap, h.n0, h.n1, h.gh⟩
theorem DevIn.grown {b : Nat} (h : DevIn lo hi g a0 a1 c0 c1 d W) (hg : W.grownBy W' (some b)) (hb : b < lo) (hbg : b ≠ g) : DevIn lo hi g a0 a1 c0 c1 d W' :=
  ⟨h.bx.grown hg (by simpa using hbg), own_grown h.r0 hg (fun k hk e => by have := (h.r0.lt k hk).1; have := Option.some.inj e; omega), own_grown h.r1 hg (fun k hk e => by have := (h.r1.lt k hk).1; have := Option.some.inj e; omega), h.ap, h.n0, h.n1, h.gh⟩
theorem DevIn.far (h : DevIn lo hi g a0 a1 c0 c1 d W) (p : Addr) (u : Value) (hp : hi ≤ p.block) : DevIn lo hi g a0 a1 c0 c1 d (W.setCell p u) :=
  ⟨h.bx.far p u (by have := h.gh; omega), own_far h.r0 p u (fun e => by have := (h.n0 _ e).2; omega), own_far h.r1 p u (fun e => by have := (h.n1 _ e).2; omega), h.ap, h.n0, h.n1, h.gh⟩
theorem DevIn.wide (h : DevIn lo hi g a0 a1 c0 c1 d W) {lo' hi' : Nat} (h1 : lo' ≤ lo) (h2 : hi ≤ hi') : DevIn lo' hi' g a0 a1 c0 c1 d W :=
  ⟨h.bx, own_mono h.r0 h1, own_mono h.r1 h1, h.ap, fun k e => ⟨(h.n0 k e).1, by have := (h.n0 k e).2; omega⟩, fun k e => ⟨(h.n1 k e).1, by have := (h.n1 k e).2; omega⟩, by have := h.gh; omega⟩
end
/-- What the draw of a device holds between its steps. -/
structure DSt (b : Nat) (w0 : World) (v : Value) (xs : List UInt8) (w : World) (hi g : Nat) (a0 a1 : Option Addr) (c0 c1 : Nat) (d : DevR) (W : World) : Prop where
  cu : Cu W b w0 v xs
  dev : DevIn (w.heap.size + 1) hi g a0 a1 c0 c1 d W
  gr : w.grownBy W (some b)
  rb : Bx W w.heap.size #[.slice none 0 0, .slice none 0 0, .int .i64 0]
  gl : w.heap.size < g
  bl : b < w.heap.size
  sz : hi ≤ W.heap.size
section
variable {b : Nat} {w0 : World} {v : Value} {xs : List UInt8} {w : World} {hi g : Nat} {a0 a1 : Option Addr} {c0 c1 : Nat} {d : DevR} {W W' : World}
theorem DSt.below (h : DSt b w0 v xs w hi g a0 a1 c0 c1 d W) (hb : Below W.heap.size W W') : DSt b w0 v xs w hi g a0 a1 c0 c1 d W' :=
  ⟨h.cu.below hb, h.dev.below hb, grown_below h.gr hb, h.rb.below hb, h.gl, h.bl, Nat.le_trans h.sz hb.size⟩
theorem DSt.step (h : DSt b w0 v xs w hi g a0 a1 c0 c1 d W) (hg : W.grownBy W' (some b)) (hc : Cu W' b w0 v xs) : DSt b w0 v xs w hi g a0 a1 c0 c1 d W' :=
  ⟨hc, h.dev.grown hg (by have := h.bl; omega) (by have := h.bl; have := h.gl; omega), grown2 h.gr hg, h.rb.grown hg (by have := h.bl; simp; omega), h.gl, h.bl, Nat.le_trans h.sz hg.size⟩
theorem DSt.far (h : DSt b w0 v xs w hi g a0 a1 c0 c1 d W) (p : Addr) (u : Value) (hp : hi ≤ p.block) : DSt b w0 v xs w hi g a0 a1 c0 c1 d (W.setCell p u) := by
  have h1 := h.gl
  have h2 := h.dev.gh
  have h3 := h.cu.old_le
  refine ⟨h.cu.far p u (by have := h.bl; omega) (by have := h.bl; have := h.cu.lo; omega), h.dev.far p u hp, ?_, h.rb.far p u (by omega), h.gl, h.bl, by simp [World.setCell]; exact h.sz⟩
  exact ⟨h.gr.os, h.gr.tape, h.gr.output, by simp [World.setCell]; exact h.gr.size, fun k hk hne => (Below.heap_setCell _ _ _ _ (by omega)).trans (h.gr.block k hk hne)⟩
theorem DSt.S (h : DSt b w0 v xs w hi g a0 a1 c0 c1 d W) : W.cell? ⟨g, 0, none⟩ = some (.slice a0 d.sectors.length c0) ∧ W.cell? ⟨g, 1, none⟩ = some (.slice a1 d.cached.length c1) ∧ W.cell? ⟨g, 2, none⟩ = some (.int .i64 d.writes) ∧ DSt b w0 v xs w hi g a0 a1 c0 c1 d W :=
  ⟨h.dev.bx.cell 0 _ rfl, h.dev.bx.cell 1 _ rfl, h.dev.bx.cell 2 _ rfl, h⟩
theorem DSt.of (h : W.cell? ⟨g, 0, none⟩ = some (.slice a0 d.sectors.length c0) ∧ W.cell? ⟨g, 1, none⟩ = some (.slice a1 d.cached.length c1) ∧ W.cell? ⟨g, 2, none⟩ = some (.int .i64 d.writes) ∧ DSt b w0 v xs w hi g a0 a1 c0 c1 d W) : DSt b w0 v xs w hi g a0 a1 c0 c1 d W := h.2.2.2
end
theorem devPut_bd (d : DevR) (n : Int) (t : ByteArray) (l0 : (d.sectors.length : Int) ≤ 6) : devPutB d n t = true → ((devPut d n t).sectors.length : Int) ≤ 6 ∧ ((devPut d n t).cached.length : Int) ≤ 20 ∧ inI64 (devPut d n t).writes := by
  intro h
  simp only [devPutB, Bool.and_eq_true] at h
  have e : devPut d n t = addPut d n t := by simp [devPut, h.1, h.2]
  rw [e]
  have h1 := devB_cached h.2
  have h2 := devB_writes h.2
  exact ⟨l0, h1, by unfold inI64; omega⟩
theorem DSt.sl0 {b : Nat} {w0 : World} {v : Value} {xs : List UInt8} {w : World} {hi g : Nat} {a0 a1 : Option Addr} {c0 c1 : Nat} {d : DevR} {W : World} (h : DSt b w0 v xs w hi g a0 a1 c0 c1 d W) : SlT strCells 1 W (.slice a0 d.sectors.length c0) d.sectors := SlT.of_own h.dev.r0 (fun _ => rfl) (by decide)
theorem DSt.sl1 {b : Nat} {w0 : World} {v : Value} {xs : List UInt8} {w : World} {hi g : Nat} {a0 a1 : Option Addr} {c0 c1 : Nat} {d : DevR} {W : World} (h : DSt b w0 v xs w hi g a0 a1 c0 c1 d W) : SlT PutR.cells 2 W (.slice a1 d.cached.length c1) d.cached := SlT.of_own h.dev.r1 (fun _ => rfl) (by decide)
theorem DevIn.laid {W : World} {lo' lo : Nat} {a0 a1 : Option Addr} {c0 c1 : Nat} {d : DevR} (T : TypeId) (h0 : W.ownsRow lo' 9 1 (.slice a0 d.sectors.length c0) d.sectors.length (d.sectors.map strCells).flatten) (h1 : W.ownsRow lo' 61 2 (.slice a1 d.cached.length c1) d.cached.length (d.cached.map PutR.cells).flatten) (ap : Apart (.slice a0 d.sectors.length c0) (.slice a1 d.cached.length c1)) (hl : lo ≤ lo') :
    DevIn lo (W.alloc (.cells #[.slice a0 d.sectors.length c0, .slice a1 d.cached.length c1, .int .i64 d.writes] T)).heap.size W.heap.size a0 a1 c0 c1 d (W.alloc (.cells #[.slice a0 d.sectors.length c0, .slice a1 d.cached.length c1, .int .i64 d.writes] T)) :=
  ⟨Bx.new _ _ _, (own_mono h0 hl).alloc _, (own_mono h1 hl).alloc _, ap, fun k e => by have := (h0.lt k e).2; simp; omega, fun k e => by have := (h1.lt k e).2; simp; omega, by simp⟩
theorem DevIn.stored {W : World} {lo' lo : Nat} {a0 a1 : Option Addr} {c0 c1 : Nat} {d : DevR} {k : Nat} {z0 z1 z2 : Value} (hb : Bx W k #[z0, z1, z2]) (h0 : W.ownsRow lo' 9 1 (.slice a0 d.sectors.length c0) d.sectors.length (d.sectors.map strCells).flatten) (h1 : W.ownsRow lo' 61 2 (.slice a1 d.cached.length c1) d.cached.length (d.cached.map PutR.cells).flatten) (ap : Apart (.slice a0 d.sectors.length c0) (.slice a1 d.cached.length c1)) (hl : lo ≤ lo') (hk : k < lo') :
    DevIn lo (((W.setCell ⟨k, 0, none⟩ (.slice a0 d.sectors.length c0)).setCell ⟨k, 1, none⟩ (.slice a1 d.cached.length c1)).setCell ⟨k, 2, none⟩ (.int .i64 d.writes)).heap.size k a0 a1 c0 c1 d (((W.setCell ⟨k, 0, none⟩ (.slice a0 d.sectors.length c0)).setCell ⟨k, 1, none⟩ (.slice a1 d.cached.length c1)).setCell ⟨k, 2, none⟩ (.int .i64 d.writes)) := by
  have n0 : ∀ j, (Value.slice a0 d.sectors.length c0).ownBlock = some j → j ≠ k ∧ j < W.heap.size := fun j e => by have := h0.lt j e; omega
  have n1 : ∀ j, (Value.slice a1 d.cached.length c1).ownBlock = some j → j ≠ k ∧ j < W.heap.size := fun j e => by have := h1.lt j e; omega
  have hz : (((W.setCell ⟨k, 0, none⟩ (.slice a0 d.sectors.length c0)).setCell ⟨k, 1, none⟩ (.slice a1 d.cached.length c1)).setCell ⟨k, 2, none⟩ (.int .i64 d.writes)).heap.size = W.heap.size := by simp [World.setCell]
  refine ⟨((hb.set 0 _).set 1 _).set 2 _, ?_, ?_, ap, fun j e => by rw [hz]; exact n0 j e, fun j e => by rw [hz]; exact n1 j e, by rw [hz]; exact hb.lt⟩
  · exact own_far (own_far (own_far (own_mono h0 hl) _ _ (fun e => (n0 _ e).1 rfl)) _ _ (fun e => (n0 _ e).1 rfl)) _ _ (fun e => (n0 _ e).1 rfl)
  · exact own_far (own_far (own_far (own_mono h1 hl) _ _ (fun e => (n1 _ e).1 rfl)) _ _ (fun e => (n1 _ e).1 rfl)) _ _ (fun e => (n1 _ e).1 rfl)
theorem grown_far {w W : World} {r : Option Nat} (h : w.grownBy W r) (p : Addr) (u : Value) (hp : w.heap.size ≤ p.block) : w.grownBy (W.setCell p u) r :=
  ⟨h.os, h.tape, h.output, by simp [World.setCell]; exact h.size, fun k hk hne => (Below.heap_setCell _ _ _ _ (by omega)).trans (h.block k hk hne)⟩
theorem DSt.putR {b : Nat} {w0 : World} {v : Value} {xs : List UInt8} {w : World} {hi g : Nat} {a0 a1 : Option Addr} {c0 c1 : Nat} {d : DevR} {W : World} (h : DSt b w0 v xs w hi g a0 a1 c0 c1 d W)
    {lo' : Nat} {e0 e1 : Option Addr} {f0 f1 : Nat} {d5 : DevR} (r0 : W.ownsRow lo' 9 1 (.slice e0 d5.sectors.length f0) d5.sectors.length (d5.sectors.map strCells).flatten) (r1 : W.ownsRow lo' 61 2 (.slice e1 d5.cached.length f1) d5.cached.length (d5.cached.map PutR.cells).flatten) (ap : Apart (.slice e0 d5.sectors.length f0) (.slice e1 d5.cached.length f1)) (hl : g + 1 ≤ lo') :
    DSt b w0 v xs w W.heap.size g e0 e1 f0 f1 d5 (((W.setCell ⟨g, 0, none⟩ (.slice e0 d5.sectors.length f0)).setCell ⟨g, 1, none⟩ (.slice e1 d5.cached.length f1)).setCell ⟨g, 2, none⟩ (.int .i64 d5.writes)) := by
  have h1 := h.gl
  have h2 := h.bl
  have h3 := h.cu.lo
  have n0 : ∀ j, (Value.slice e0 d5.sectors.length f0).ownBlock = some j → j ≠ g ∧ j < W.heap.size := fun j e => by have := r0.lt j e; omega
  have n1 : ∀ j, (Value.slice e1 d5.cached.length f1).ownBlock = some j → j ≠ g ∧ j < W.heap.size := fun j e => by have := r1.lt j e; omega
  refine ⟨?_, ⟨((h.dev.bx.set 0 _).set 1 _).set 2 _, ?_, ?_, ap, n0, n1, h.dev.bx.lt⟩, ?_, ?_, h.gl, h.bl, by simp [World.setCell]⟩
  · exact ((h.cu.far _ _ (by show b ≠ g; omega) (by show w0.heap.size ≤ g; omega)).far _ _ (by show b ≠ g; omega) (by show w0.heap.size ≤ g; omega)).far _ _ (by show b ≠ g; omega) (by show w0.heap.size ≤ g; omega)
  · exact own_far (own_far (own_far (own_mono r0 (by omega)) _ _ (fun e => (n0 _ e).1 rfl)) _ _ (fun e => (n0 _ e).1 rfl)) _ _ (fun e => (n0 _ e).1 rfl)
  · exact own_far (own_far (own_far (own_mono r1 (by omega)) _ _ (fun e => (n1 _ e).1 rfl)) _ _ (fun e => (n1 _ e).1 rfl)) _ _ (fun e => (n1 _ e).1 rfl)
  · exact grown_far (grown_far (grown_far h.gr _ _ (by show w.heap.size ≤ g; omega)) _ _ (by show w.heap.size ≤ g; omega)) _ _ (by show w.heap.size ≤ g; omega)
  · exact ((h.rb.far _ _ (by show w.heap.size ≠ g; omega)).far _ _ (by show w.heap.size ≠ g; omega)).far _ _ (by show w.heap.size ≠ g; omega)
theorem DSt.put {b : Nat} {w0 : World} {v : Value} {xs : List UInt8} {w : World} {hi g : Nat} {a0 a1 : Option Addr} {c0 c1 : Nat} {d : DevR} {W : World} (h : DSt b w0 v xs w hi g a0 a1 c0 c1 d W)
    {hi5 g5 : Nat} {e0 e1 : Option Addr} {f0 f1 : Nat} {d5 : DevR} (h5 : DevIn (g + 1) hi5 g5 e0 e1 f0 f1 d5 W) :
    DSt b w0 v xs w W.heap.size g e0 e1 f0 f1 d5 (((W.setCell ⟨g, 0, none⟩ (.slice e0 d5.sectors.length f0)).setCell ⟨g, 1, none⟩ (.slice e1 d5.cached.length f1)).setCell ⟨g, 2, none⟩ (.int .i64 d5.writes)) := h.putR h5.r0 h5.r1 h5.ap (Nat.le_refl _)
theorem grown_alloc {W W1 : World} {o : Obj} {r : Option Nat} (h : (W.alloc o).grownBy W1 r) : W.grownBy W1 r :=
  ⟨h.os, h.tape, h.output, Nat.le_trans (by simp) h.size, fun k hk hne => (h.block k (by simp; omega) hne).trans (Below.heap_alloc W _ k hk)⟩
theorem DSt.app {b : Nat} {w0 : World} {v : Value} {xs : List UInt8} {w : World} {hi g : Nat} {a0 a1 : Option Addr} {c0 c1 : Nat} {d : DevR} {W W1 : World} (h : DSt b w0 v xs w hi g a0 a1 c0 c1 d W) (p : PutR) {v' : Value}
    (r : W1.ownsRow (w.heap.size + 1) 61 2 v' (d.cached.length + 1) ((d.cached.map PutR.cells).flatten ++ PutR.cells p)) (gr : W.grownBy W1 (Value.slice a1 d.cached.length c1).ownBlock)
    (ob : v'.ownBlock = (Value.slice a1 d.cached.length c1).ownBlock ∨ ∃ k, v'.ownBlock = some k ∧ W.heap.size ≤ k) :
    ∃ e1 f1, v' = .slice e1 (d.cached.length + 1) f1 ∧ DSt b w0 v xs w W1.heap.size g a0 e1 c0 f1 ⟨d.sectors, d.cached ++ [p], d.writes⟩ (W1.setCell ⟨g, 1, none⟩ v') := by
  have h1 := h.gl
  have h2 := h.bl
  have h3 := h.cu.lo
  have h4 := h.cu.old_le
  have h5 := h.sz
  have hg := h.dev.bx.lt
  have hw := gr.size
  have o1 := fun k (e : (Value.slice a1 d.cached.length c1).ownBlock = some k) => And.intro (h.dev.n1 k e) (h.dev.r1.lt k e)
  have n1 : ∀ j, v'.ownBlock = some j → j ≠ g ∧ j < W1.heap.size ∧ w.heap.size + 1 ≤ j := fun j e => by
    have h7 := r.lt j e
    refine ⟨?_, h7.2, h7.1⟩
    rcases ob with ho | ⟨k, ho, hk⟩
    · exact (o1 j (ho ▸ e)).1.1
    · rw [ho] at e; have := Option.some.inj e; omega
  obtain ⟨e1, f1, rfl⟩ := own_form r
  refine ⟨e1, f1, rfl, ?_⟩
  have hl : (d.cached ++ [p]).length = d.cached.length + 1 := by simp
  have hc : Cu W1 b w0 v xs := h.cu.grown gr (fun e => by have := (o1 _ e).2; omega) (fun k e => by have := (o1 _ e).2; omega)
  have hx := h.dev.bx.grown gr (fun e => (o1 _ e).1.1 rfl)
  refine ⟨hc.far _ _ (by show b ≠ g; omega) (by show w0.heap.size ≤ g; omega), ⟨?_, ?_, ?_, ?_, ?_, ?_, Nat.lt_of_lt_of_le hg hw⟩, ?_, ?_, h1, h2, by simp [World.setCell]⟩
  · show Bx _ g #[.slice a0 d.sectors.length c0, .slice e1 (d.cached ++ [p]).length f1, .int .i64 d.writes]
    rw [hl]
    exact hx.set 1 _
  · exact own_far (own_grown h.dev.r0 gr h.dev.ap) _ _ (fun e => (h.dev.n0 _ e).1 rfl)
  · show World.ownsRow _ _ _ _ (.slice e1 (d.cached ++ [p]).length f1) _ _
    rw [hl, List.map_append, List.flatten_append]
    exact own_far (by simpa using r) _ _ (fun e => (n1 _ e).1 rfl)
  · show Apart _ (.slice e1 (d.cached ++ [p]).length f1)
    rw [hl]
    intro k h6 h7
    rcases ob with ho | ⟨j, ho, hj⟩
    · exact h.dev.ap k h6 (ho ▸ h7)
    · rw [ho] at h7
      have := Option.some.inj h7
      have := (h.dev.n0 _ h6).2
      omega
  · intro k e
    have := h.dev.n0 k e
    exact ⟨this.1, by omega⟩
  · show ∀ k, (Value.slice e1 (d.cached ++ [p]).length f1).ownBlock = some k → _
    rw [hl]
    exact fun k e => ⟨(n1 k e).1, (n1 k e).2.1⟩
  · exact grown_far ⟨gr.os.trans h.gr.os, gr.tape.trans h.gr.tape, gr.output.trans h.gr.output, Nat.le_trans h.gr.size gr.size, fun k hk hne => (gr.block k (Nat.lt_of_lt_of_le hk h.gr.size) (fun e => by have := (o1 _ e.symm).2; omega)).trans (h.gr.block k hk hne)⟩ _ _ (by show w.heap.size ≤ g; omega)
  · exact (h.rb.grown gr (fun e => by have := (o1 _ e).2; omega)).far _ _ (by show w.heap.size ≠ g; omega)
theorem DSt.setW {b : Nat} {w0 : World} {v : Value} {xs : List UInt8} {w : World} {hi g : Nat} {a0 a1 : Option Addr} {c0 c1 : Nat} {d : DevR} {W : World} (h : DSt b w0 v xs w hi g a0 a1 c0 c1 d W) (n : Int) :
    DSt b w0 v xs w hi g a0 a1 c0 c1 ⟨d.sectors, d.cached, n⟩ (W.setCell ⟨g, 2, none⟩ (.int .i64 n)) := by
  have h1 := h.gl
  have h2 := h.bl
  have h3 := h.cu.lo
  exact ⟨h.cu.far _ _ (by show b ≠ g; omega) (by show w0.heap.size ≤ g; omega), ⟨h.dev.bx.set 2 _, own_far h.dev.r0 _ _ (fun e => (h.dev.n0 _ e).1 rfl), own_far h.dev.r1 _ _ (fun e => (h.dev.n1 _ e).1 rfl), h.dev.ap, h.dev.n0, h.dev.n1, h.dev.gh⟩, grown_far h.gr _ _ (by show w.heap.size ≤ g; omega), h.rb.far _ _ (by show w.heap.size ≠ g; omega), h1, h2, by simp [World.setCell]; exact h.sz⟩
theorem DSt.setS {b : Nat} {w0 : World} {v : Value} {xs : List UInt8} {w : World} {hi g : Nat} {a0 a1 : Option Addr} {c0 c1 : Nat} {d : DevR} {W : World} (h : DSt b w0 v xs w hi g a0 a1 c0 c1 d W) :
    DSt b w0 v xs w (W.heap.size + 1) g (some ⟨W.heap.size, 0, none⟩) a1 0 c1 ⟨[], d.cached, d.writes⟩ ((W.setCell ⟨g, 0, none⟩ (.slice (some ⟨W.heap.size, 0, none⟩) 0 0)).alloc (.cells #[] 9)) := by
  have h1 := h.gl
  have h2 := h.bl
  have h3 := h.cu.lo
  have h4 := h.dev.gh
  have h5 := h.sz
  have hg := h.dev.bx.lt
  have hz : (W.setCell ⟨g, 0, none⟩ (.slice (some ⟨W.heap.size, 0, none⟩) 0 0)).heap.size = W.heap.size := by simp [World.setCell]
  have hal := hal2 (W.setCell ⟨g, 0, none⟩ (.slice (some ⟨W.heap.size, 0, none⟩) 0 0)) (.cells #[] 9)
  refine ⟨(h.cu.far _ _ (by show b ≠ g; omega) (by show w0.heap.size ≤ g; omega)).below hal, ⟨(h.dev.bx.set 0 _).below hal, ?_, own_below (own_far h.dev.r1 _ _ (fun e => (h.dev.n1 _ e).1 rfl)) hal, ?_, ?_, ?_, by omega⟩, grown_below (grown_far h.gr _ _ (by show w.heap.size ≤ g; omega)) hal, (h.rb.far _ _ (by show w.heap.size ≠ g; omega)).below hal, h1, h2, by simp [World.setCell]⟩
  · have := own0 (e := 9) (size := 1) (base := w.heap.size + 1) hz (by omega)
    exact this
  · intro k e1 e2
    simp [Value.ownBlock] at e1
    have := (h.dev.r1.lt _ e2).2
    omega
  · intro k e1
    simp [Value.ownBlock] at e1
    omega
  · intro k e1
    have := h.dev.n1 k e1
    have := (h.dev.r1.lt _ e1).2
    exact ⟨by omega, by omega⟩
/-- What it hands back. -/
theorem DSt.fin {b : Nat} {w0 : World} {v : Value} {xs : List UInt8} {w : World} {hi g : Nat} {a0 a1 : Option Addr} {c0 c1 : Nat} {d : DevR} {W : World} (h : DSt b w0 v xs w hi g a0 a1 c0 c1 d W) (u0 u1 u2 : Value) :
    OwnDev w.heap.size (((W.setCell ⟨w.heap.size, 0, none⟩ u0).setCell ⟨w.heap.size, 1, none⟩ u1).setCell ⟨w.heap.size, 2, none⟩ u2) (.agg #[.slice a0 d.sectors.length c0, .slice a1 d.cached.length c1, .int .i64 d.writes]) d ∧
    Cu (((W.setCell ⟨w.heap.size, 0, none⟩ u0).setCell ⟨w.heap.size, 1, none⟩ u1).setCell ⟨w.heap.size, 2, none⟩ u2) b w0 v xs ∧
    w.grownBy (((W.setCell ⟨w.heap.size, 0, none⟩ u0).setCell ⟨w.heap.size, 1, none⟩ u1).setCell ⟨w.heap.size, 2, none⟩ u2) (some b) := by
  have h2 := h.bl
  have h3 := h.cu.lo
  have n0 := fun k (e : (Value.slice a0 d.sectors.length c0).ownBlock = some k) => h.dev.r0.lt k e
  have n1 := fun k (e : (Value.slice a1 d.cached.length c1).ownBlock = some k) => h.dev.r1.lt k e
  refine ⟨⟨_, _, rfl, ?_, ?_, h.dev.ap⟩, ?_, ?_⟩
  · exact own_far (own_far (own_far (own_mono h.dev.r0 (by omega)) _ _ (fun e => by have := n0 _ e; simp at this; omega)) _ _ (fun e => by have := n0 _ e; simp at this; omega)) _ _ (fun e => by have := n0 _ e; simp at this; omega)
  · exact own_far (own_far (own_far (own_mono h.dev.r1 (by omega)) _ _ (fun e => by have := n1 _ e; simp at this; omega)) _ _ (fun e => by have := n1 _ e; simp at this; omega)) _ _ (fun e => by have := n1 _ e; simp at this; omega)
  · exact ((h.cu.far _ _ (by show b ≠ w.heap.size; omega) (by show w0.heap.size ≤ w.heap.size; omega)).far _ _ (by show b ≠ w.heap.size; omega) (by show w0.heap.size ≤ w.heap.size; omega)).far _ _ (by show b ≠ w.heap.size; omega) (by show w0.heap.size ≤ w.heap.size; omega)
  · exact grown_far (grown_far (grown_far h.gr _ _ (by show w.heap.size ≤ w.heap.size; omega)) _ _ (by show w.heap.size ≤ w.heap.size; omega)) _ _ (by show w.heap.size ≤ w.heap.size; omega)
theorem devFlush_bd (d : DevR) (l0 : (d.sectors.length : Int) ≤ 6) (lw : inI64 d.writes) : ((devFall d 0 true).sectors.length : Int) ≤ 6 ∧ ((devFall d 0 true).cached.length : Int) ≤ 20 ∧ inI64 (devFall d 0 true).writes := by
  unfold devFall
  split
  · exact ⟨by rw [landTo_length]; exact l0, by simp, lw⟩
  · simp [noDev, inI64]

set_option maxRecDepth 100000 in
set_option maxHeartbeats 1600000 in
theorem l5Some_any (b : Nat) (w0 : World) (v : Value) (xs : List UInt8) (w : World) (h : Cu w b w0 v xs) :
    Calls Try.prog 110 #[.pointer (some ⟨b, 0, none⟩)] w fun e w' => ∃ (u : Value) (d : DevR), e = .returned u ∧ OwnDev w.heap.size w' u d ∧ (d.sectors.length : Int) ≤ 6 ∧ (d.cached.length : Int) ≤ 30 ∧ inI64 d.writes ∧ Cu w' b w0 v xs ∧ w.grownBy w' (some b) := by
  have hlt := h.lt
  have hle := h.old_le
  have hal : ∀ (W : World) (o : Obj), RowKit.Below W.heap.size W (W.alloc o) := fun W o => (Below.refl _ _).alloc (Nat.le_refl _) _
  have c0 := h.below (hal w (.cells #[.slice none 0 0, .slice none 0 0, .int .i64 0] 52))
  have g0 := grown_below (World.grownBy.refl w (some b)) (hal w (.cells #[.slice none 0 0, .slice none 0 0, .int .i64 0] 52))
  have B0 := Bx.new w #[.slice none 0 0, .slice none 0 0, .int .i64 0] 52
  go_enter Try.func110, Try.ntmps110
  go_wp2_with fail
  refine (l1Below_any b w0 v xs 6 (by decide) _ c0).mono ?_
  rintro e w1 ⟨n0, rfl, hn0, _, c1, g1⟩
  have hn0 := hn0 (by decide)
  have q1 := grown2 g0 g1
  have B1 := B0.grown g1 (by simp; omega)
  have zB := B1.lt
  have N1 : IntKind.i64.wrap (1 + (n0 : Int)) = ((1 + n0 : Nat) : Int) := by rw [IntKind.wrap_i64]; omega
  clear c0 g0 B0 g1
  go_wp2_with (at_make; refine mk_full rfl rfl Try.underlying43 info_Str (1 + n0) rfl rfl rfl (by omega) w1.heap.size (Below.refl _ _) (Nat.le_refl _) (Nat.le_refl _) ?_; intro w2 hown hb1 hg1)
  rw [show (madeCells (Value.string ByteArray.empty).cells ((1 + n0) * 1)).toList = ((List.replicate (1 + n0) ByteArray.empty).map strCells).flatten from by rw [List.map_replicate]; exact madeCells_rows #[.string ByteArray.empty] (1 + n0)] at hown
  have z2 := hb1.size
  have D0 : DSt b w0 v xs w (w2.heap.size + 1) w2.heap.size (some ⟨w1.heap.size, 0, none⟩) none (1 + n0) 0 ⟨List.replicate (1 + n0) ByteArray.empty, [], 0⟩ (w2.alloc (.cells #[.slice (some ⟨w1.heap.size, 0, none⟩) (1 + n0) (1 + n0), .slice none 0 0, .int .i64 0] 52)) := by
    refine ⟨(c1.below hb1).below (hal _ _), ⟨?_, ?_, ?_, ?_, ?_, ?_, Nat.lt_succ_self _⟩, grown_below (grown_below q1 hb1) (hal _ _), (B1.below hb1).below (hal _ _), by omega, hlt, by simp⟩
    · simp only [List.length_replicate]; exact Bx.new _ _ _
    · simp only [List.length_replicate]; exact (own_mono hown (by omega)).alloc _
    · exact World.ownsRow_nil _ _ _ _
    · intro k h1 h2; simp [Value.ownBlock] at h2
    · intro k hk
      have := (hown.lt k (by simpa using hk)).2
      exact ⟨by omega, by omega⟩
    · intro k hk; simp [Value.ownBlock] at hk
  generalize (w2.alloc (.cells #[.slice (some ⟨w1.heap.size, 0, none⟩) (1 + n0) (1 + n0), .slice none 0 0, .int .i64 0] 52)) = W3 at *
  generalize w2.heap.size = g at *
  clear c1 q1 B1 hown hb1 hg1 N1 zB
  go_wp2_with fail
  refine (l1Below_any b w0 v xs 12 (by decide) _ D0.cu).mono ?_
  rintro e w3 ⟨n3, rfl, hn3, _, c3, g3⟩
  have hn3 := hn3 (by decide)
  have D3 := D0.step g3 c3
  clear D0 c3 g3
  go_wp2_with fail
  go_loopw [4] (fun n wr => ∃ (r hi : Nat) (a0 a1 : Option Addr) (c0 c1 : Nat) (d : DevR), n = .int .i64 r ∧ (r : Int) ≤ 12 ∧ DSt b w0 v xs w hi g a0 a1 c0 c1 d wr ∧ (d.sectors.length : Int) ≤ 6 ∧ (d.cached.length : Int) ≤ 20 ∧ inI64 d.writes) (fun n _ => (intOf n).toNat)
  case atStart => exact ⟨n3, _, _, _, _, _, _, rfl, by omega, D3, by simp; omega, by simp, by simp [inI64]⟩
  case round =>
    clear D3
    obtain ⟨r, hi, a0, a1, k0, k1, d, rfl, hr, D, l0, l1, lw⟩ := hrel
    by_cases hr0 : 0 < r
    · have R1 : IntKind.i64.wrap ((r : Int) - 1) = ((r - 1 : Nat) : Int) := by rw [IntKind.wrap_i64]; omega
      go_upto_region 5 with fail
      go_cut [5, 6] (fun s5 s6 wx => ∃ (g5 : Nat) (e0 e1 : Option Addr) (f0 f1 : Nat) (d5 : DevR) (bb : Bool), s5 = .pointer (some ⟨g5, 0, none⟩) ∧ s6 = .bool bb ∧ DevIn (g + 1) wx.heap.size g5 e0 e1 f0 f1 d5 wx ∧ (bb = true → (d5.sectors.length : Int) ≤ 6 ∧ (d5.cached.length : Int) ≤ 20 ∧ inI64 d5.writes) ∧ DSt b w0 v xs w hi g a0 a1 k0 k1 d wx)
      case first =>
        have zr := D.sz
        have zb := D.bl
        have zg := D.dev.gh
        have zl := D.gl
        have zd : wr.drew.heap.size = wr.heap.size := rfl
        have zd2 : (wr.alloc (.cells #[.slice none 0 0, .slice none 0 0, .int .i64 0] 52)).drew.heap.size = wr.heap.size + 1 := World.size_alloc _ _
        have BZ : Bx (wr.alloc (.cells #[.slice none 0 0, .slice none 0 0, .int .i64 0] 52)).drew wr.heap.size #[.slice none 0 0, .slice none 0 0, .int .i64 0] := Bx.new wr _ _
        go_region_held (fun w' => w'.cell? ⟨g, 0, none⟩ = some (.slice a0 d.sectors.length k0) ∧ w'.cell? ⟨g, 1, none⟩ = some (.slice a1 d.cached.length k1) ∧ w'.cell? ⟨g, 2, none⟩ = some (.int .i64 d.writes) ∧ DSt b w0 v xs w hi g a0 a1 k0 k1 d w')
          ((refine DSt.S ?_; first | assumption | exact D.below (below_drew _) | exact (DSt.of (by assumption)).below (hal2 _ _) | exact sp.below (hal2 _ _) | exact ((sp.far _ _ (by simp; omega)).far _ _ (by simp; omega)).far _ _ (by simp; omega)))
          (first
            | (go_at_call 81; refine (l1Below_any b w0 v xs 6 (by decide) _ (DSt.of (by assumption)).cu).mono ?_; rintro e wq ⟨xq, rfl, hxq, _, cq, gq⟩; have sq := DSt.step (DSt.of (by assumption)) gq cq; have zq := gq.size; (try rw [World.size_alloc] at zq); (first | (have x1 := Bx.grown BZ gq (by simp; omega)) | skip))
            | (go_at_call 109; refine (l1Text_any b w0 v xs 5 (by decide) _ (DSt.of (by assumption)).cu).mono ?_; rintro e wt ⟨xt, rfl, hxt, ct, gt⟩; have st := DSt.step (DSt.of (by assumption)) gt ct; have zt := gt.size; (try rw [World.size_alloc] at zt); (first | (have x2 := Bx.grown x1 gt (by simp; omega)) | (have x2 := Bx.grown (Bx.new _ _ _) gt (by simp; omega)) | skip))
            | (go_at_call 34; go_loud (have hs := DSt.of (b := b) (by assumption); refine (specDevPut_own d _ _ a0 a1 k0 k1 _ hs.sl0 hs.sl1 (by omega) (by omega)).mono ?_; rintro e wp ⟨vx, rfl, ⟨s0, s1, rfl, o0, o1, apx⟩, bp⟩; have hbd := devPut_bd d xq xt l0; obtain ⟨e0, f0, rfl⟩ := own_form o0; obtain ⟨e1, f1, rfl⟩ := own_form o1; have sp := DSt.below (DSt.of (by assumption)) bp; have zp := bp.size; (try rw [World.size_alloc] at zp); (first | (have x3 := Bx.below x2 bp) | (have x3 := Bx.below (Bx.new _ _ _) bp) | skip); (first | (have y0 := x3.cell 0 _ rfl; have y1 := x3.cell 1 _ rfl; have y2 := x3.cell 2 _ rfl; have yf := x3.frozen) | skip))))
        --MARK
        all_goals
          go_wp2_with fail
          go_meet
          have hq := DSt.of (b := b) (by assumption)
          refine ⟨_, e0, e1, f0, f1, _, _, rfl, rfl, ?_, hbd, hq⟩
          first
            | exact DevIn.laid _ o0 o1 apx (by first | omega | (simp; omega))
            | exact DevIn.stored x3 o0 o1 apx (by first | omega | (simp; done) | (simp; omega)) (by first | omega | (simp; done) | (simp; omega))
      case rest =>
        obtain ⟨g5, e0, e1, f0, f1, d5, bb, rfl, rfl, I5, hb5, D5⟩ := hcut
        have y0 := I5.bx.cell 0 _ rfl
        have y1 := I5.bx.cell 1 _ rfl
        have y2 := I5.bx.cell 2 _ rfl
        have z0 := D5.dev.bx.cell 0 _ rfl
        have z1 := D5.dev.bx.cell 1 _ rfl
        have z2 := D5.dev.bx.cell 2 _ rfl
        have zf := D5.dev.bx.frozen
        cases bb
        · clear hb5 I5 y0 y1 y2 z0 z1 z2 zf D
          go_wp2_with fail
          refine (l1Once_any b w0 v xs 6 (by decide) _ D5.cu).mono ?_
          rintro e w6 ⟨on, rfl, c6, g6⟩
          have D6 := D5.step g6 c6
          clear D5 g6 c6
          have v0 := D6.dev.bx.cell 0 _ rfl
          have v1 := D6.dev.bx.cell 1 _ rfl
          have v2 := D6.dev.bx.cell 2 _ rfl
          cases on
          · go_wp2
            go_roundw
            case rel => exact ⟨r - 1, _, _, _, _, _, _, rfl, by omega, D6, l0, l1, lw⟩
            case measure => simp [intOf]; omega
          · go_wp2_with fail
            refine (specDevFlush_own d a0 a1 k0 k1 _ D6.sl0 D6.sl1 (by omega) (by omega)).mono ?_
            rintro e w7 ⟨vy, rfl, ⟨s0, s1, rfl, o0, o1, apy⟩, b7⟩
            have hfl := devFlush_bd d l0 lw
            obtain ⟨j0, i0, rfl⟩ := own_form o0
            obtain ⟨j1, i1, rfl⟩ := own_form o1
            have gl6 := D6.dev.bx.lt
            have E7 := D6.below b7
            have u0 := E7.dev.bx.cell 0 _ rfl
            have u1 := E7.dev.bx.cell 1 _ rfl
            have u2 := E7.dev.bx.cell 2 _ rfl
            have uf := E7.dev.bx.frozen
            have ul := E7.dev.bx.lt
            have ug : ¬ w7.heap.size = g := by omega
            have ug' : ¬ g = w7.heap.size := by omega
            have D8 := (E7.putR o0 o1 apy (by omega : g + 1 ≤ w6.heap.size)).below (hal2 _ (.cells #[.slice j0 (devFall d 0 true).sectors.length i0, .slice j1 (devFall d 0 true).cached.length i1, .int .i64 (devFall d 0 true).writes] 52))
            clear D6 v0 v1 v2 E7
            go_wp2
            go_roundw
            case rel => exact ⟨r - 1, _, _, _, _, _, _, rfl, by omega, D8, hfl.1, hfl.2.1, hfl.2.2⟩
            case measure => simp [intOf]; omega
        · obtain ⟨m0, m1, m2⟩ := hb5 rfl
          have DP := D5.put I5
          clear D D5 I5 l0 l1 lw
          go_wp2_with fail
          refine (l1Once_any b w0 v xs 6 (by decide) _ DP.cu).mono ?_
          rintro e w6 ⟨on, rfl, c6, g6⟩
          have D6 := DP.step g6 c6
          clear DP g6 c6
          have v0 := D6.dev.bx.cell 0 _ rfl
          have v1 := D6.dev.bx.cell 1 _ rfl
          have v2 := D6.dev.bx.cell 2 _ rfl
          cases on
          · go_wp2
            go_roundw
            case rel => exact ⟨r - 1, _, _, _, _, _, _, rfl, by omega, D6, m0, m1, m2⟩
            case measure => simp [intOf]; omega
          · go_wp2_with fail
            refine (specDevFlush_own d5 e0 e1 f0 f1 _ D6.sl0 D6.sl1 (by omega) (by omega)).mono ?_
            rintro e w7 ⟨vy, rfl, ⟨s0, s1, rfl, o0, o1, apy⟩, b7⟩
            have hfl := devFlush_bd d5 m0 m2
            obtain ⟨j0, i0, rfl⟩ := own_form o0
            obtain ⟨j1, i1, rfl⟩ := own_form o1
            have gl6 := D6.dev.bx.lt
            have E7 := D6.below b7
            have u0 := E7.dev.bx.cell 0 _ rfl
            have u1 := E7.dev.bx.cell 1 _ rfl
            have u2 := E7.dev.bx.cell 2 _ rfl
            have uf := E7.dev.bx.frozen
            have ul := E7.dev.bx.lt
            have ug : ¬ w7.heap.size = g := by omega
            have ug' : ¬ g = w7.heap.size := by omega
            have D8 := (E7.putR o0 o1 apy (by omega : g + 1 ≤ w6.heap.size)).below (hal2 _ (.cells #[.slice j0 (devFall d5 0 true).sectors.length i0, .slice j1 (devFall d5 0 true).cached.length i1, .int .i64 (devFall d5 0 true).writes] 52))
            clear D6 v0 v1 v2 E7
            go_wp2
            go_roundw
            case rel => exact ⟨r - 1, _, _, _, _, _, _, rfl, by omega, D8, hfl.1, hfl.2.1, hfl.2.2⟩
            case measure => simp [intOf]; omega
    · obtain rfl : r = 0 := by omega
      go_wp2_with fail
      refine (l1Once_any b w0 v xs 10 (by decide) _ D.cu).mono ?_
      rintro e w6 ⟨on, rfl, c6, g6⟩
      have D6 := D.step g6 c6
      clear D g6 c6
      have v0 := D6.dev.bx.cell 0 _ rfl
      have v1 := D6.dev.bx.cell 1 _ rfl
      have v2 := D6.dev.bx.cell 2 _ rfl
      have rf := D6.rb.frozen
      have ra := D6.rb.cell 0 _ rfl
      have rb := D6.rb.cell 1 _ rfl
      have rc := D6.rb.cell 2 _ rfl
      cases on
      · go_wp2
        refine bodyPost_ret (v := .agg #[.slice a0 d.sectors.length k0, .slice a1 d.cached.length k1, .int .i64 d.writes]) (by simp [results, Try.results110, go_sem, ra, rb, rc]) rfl ?_
        obtain ⟨p1, p2, p3⟩ := D6.fin (.slice a0 d.sectors.length k0) (.slice a1 d.cached.length k1) (.int .i64 d.writes)
        exact ⟨_, d, rfl, p1, l0, by omega, lw, p2, p3⟩
      · clear v0 v1 v2 rf ra rb rc
        go_wp2_with fail
        refine (l1Below_any b w0 v xs 4 (by decide) _ D6.cu).mono ?_
        rintro e w7 ⟨sw, rfl, hsw, _, c7, g7⟩
        have hsw := hsw (by decide)
        have D7 := D6.step g7 c7
        clear D6 g7 c7
        rcases (by omega : sw = 0 ∨ sw = 1 ∨ sw = 2 ∨ sw = 3) with rfl | rfl | rfl | rfl
        · have hl0 : SlT intC 1 (w7.alloc (.cells #[.int .i64 (-1), .int .i64 1000000, .int .i64 1000001] 3)) (.slice (some ⟨w7.heap.size, 0, none⟩) 3 3) [-1, 1000000, 1000001] :=
            lit_slT intC #[.int .i64 (-1), .int .i64 1000000, .int .i64 1000001] _ 3 w7 3 rfl (fun _ => rfl) rfl (by decide)
          have D8 := D7.below (hal2 w7 (.cells #[.int .i64 (-1), .int .i64 1000000, .int .i64 1000001] 3))
          have zb := D7.bl
          have zb2 := D7.gr.size
          go_wp2_with fail
          refine (l1PickInt_any b w0 v xs _ D8.cu _ _ hl0 (fun a n c e _ => by simp only [Value.slice.injEq, Option.some.injEq] at e; rw [← e.1]; show w7.heap.size ≠ b; omega) (by decide) (by decide)).mono ?_
          rintro e w8 ⟨n8, hn8, rfl, c8, g8⟩
          have D9 := D8.step g8 c8
          have v0 := D9.dev.bx.cell 0 _ rfl
          have v1 := D9.dev.bx.cell 1 _ rfl
          have v2 := D9.dev.bx.cell 2 _ rfl
          have vf := D9.dev.bx.frozen
          have D10 := D9.setW n8
          have hn9 : inI64 n8 := by simp at hn8; unfold inI64; omega
          clear hl0 D8 g8 c8 D7
          go_upto_region 22 with fail
          clear v0 v1 v2 vf D9
          have v0 := D10.dev.bx.cell 0 _ rfl
          have v1 := D10.dev.bx.cell 1 _ rfl
          have v2 := D10.dev.bx.cell 2 _ rfl
          have rf := D10.rb.frozen
          have ra := D10.rb.cell 0 _ rfl
          have rb := D10.rb.cell 1 _ rfl
          have rc := D10.rb.cell 2 _ rfl
          generalize World.setCell w8 _ _ = WW at *
          clear hal
          go_wp2
          refine bodyPost_ret (v := .agg #[.slice a0 (DevR.sectors (⟨d.sectors, d.cached, n8⟩ : DevR)).length k0, .slice a1 (DevR.cached (⟨d.sectors, d.cached, n8⟩ : DevR)).length k1, .int .i64 (DevR.writes (⟨d.sectors, d.cached, n8⟩ : DevR))]) (by simp [results, Try.results110, go_sem, ra, rb, rc]) rfl ?_
          obtain ⟨p1, p2, p3⟩ := D10.fin (.slice a0 (DevR.sectors (⟨d.sectors, d.cached, n8⟩ : DevR)).length k0) (.slice a1 (DevR.cached (⟨d.sectors, d.cached, n8⟩ : DevR)).length k1) (.int .i64 (DevR.writes (⟨d.sectors, d.cached, n8⟩ : DevR)))
          exact ⟨_, rfl, (⟨d.sectors, d.cached, n8⟩ : DevR), p1, l0, (by show (d.cached.length : Int) ≤ 30; omega), hn9, p2, p3⟩
        · go_upto_region 17 with fail
          have D8 := D7.below (below_drew w7)
          have v0 := D8.dev.bx.cell 0 _ rfl
          have v1 := D8.dev.bx.cell 1 _ rfl
          have v2 := D8.dev.bx.cell 2 _ rfl
          have vf := D8.dev.bx.frozen
          go_region_law (first
            | (go_simp; go_at_call 81; go_loud (refine (l1Below_any b w0 v xs 8 (by decide) _ D8.cu).mono ?_; rintro e w8 ⟨n8, rfl, hn8, _, c8, g8⟩; have D9 := D8.step g8 c8; have hn8 := hn8 (by decide); have N8 : IntKind.i64.wrap ((n8 : Int) - 1) = (n8 : Int) - 1 := (by rw [IntKind.wrap_i64]; omega); have u0 := D9.dev.bx.cell 0 _ rfl; have u1 := D9.dev.bx.cell 1 _ rfl; have u2 := D9.dev.bx.cell 2 _ rfl; have uf := D9.dev.bx.frozen; have ul := D9.dev.bx.lt; have ub := D9.bl; have ug := D9.gr.size))
            | (refine step_app_at (o := ⟨some 61, _, _, _, _, _⟩) rfl rfl Try.underlying50 info_Put rfl (by decide) rfl (D9.dev.r1.alloc _) 1 rfl (heap_alloc_new _ _) rfl (by simp [Value.oneCell']) (by omega) (Below.refl (w.heap.size + 1) _) (Nat.le_refl _) (by simp; omega) ?_; intro v' w1' r1' b1' g1' e1'; have GG := grown_alloc g1'; have hx := D9.dev.bx.grown GG (fun e => (D9.dev.n1 _ e).1 rfl); have t1 := hx.cell 1 _ rfl; have tf := hx.frozen; have r2' : w1'.ownsRow (w.heap.size + 1) 61 2 v' (d.cached.length + 1) ((d.cached.map PutR.cells).flatten ++ PutR.cells ⟨(n8 : Int) - 1, ByteArray.empty⟩) := r1'; obtain ⟨e1, f1, rfl, DA⟩ := D9.app ⟨(n8 : Int) - 1, ByteArray.empty⟩ r2' GG (e1'.imp id fun h => ⟨_, h, by simp⟩)))
          all_goals
            clear u0 u1 u2 uf v0 v1 v2 vf t1 tf r2' r1' b1' g1' e1' GG hx D7 D8 D9
            go_upto_region 22 with fail
            obtain ⟨d2, DB, m0, m1, m2⟩ : ∃ d2 : DevR, DSt b w0 v xs w w1'.heap.size g a0 e1 k0 f1 d2 (w1'.setCell ⟨g, 1, none⟩ (.slice e1 (d.cached.length + 1) f1)) ∧ (d2.sectors.length : Int) ≤ 6 ∧ (d2.cached.length : Int) ≤ 30 ∧ inI64 d2.writes := ⟨_, DA, l0, (by simp; omega), lw⟩
            clear DA
            obtain ⟨WW, hWW⟩ : ∃ WW, WW = w1'.setCell ⟨g, 1, none⟩ (.slice e1 (d.cached.length + 1) f1) := ⟨_, rfl⟩
            rw [← hWW] at DB ⊢
            clear hWW
            have v0 := DB.dev.bx.cell 0 _ rfl
            have v1 := DB.dev.bx.cell 1 _ rfl
            have v2 := DB.dev.bx.cell 2 _ rfl
            have rf := DB.rb.frozen
            have ra := DB.rb.cell 0 _ rfl
            have rb := DB.rb.cell 1 _ rfl
            have rc := DB.rb.cell 2 _ rfl
            clear hal
            go_wp2
            refine bodyPost_ret (v := .agg #[.slice a0 (DevR.sectors d2).length k0, .slice e1 (DevR.cached d2).length f1, .int .i64 (DevR.writes d2)]) (by simp [results, Try.results110, go_sem, ra, rb, rc]) rfl ?_
            obtain ⟨p1, p2, p3⟩ := DB.fin (.slice a0 (DevR.sectors d2).length k0) (.slice e1 (DevR.cached d2).length f1) (.int .i64 (DevR.writes d2))
            first | exact ⟨_, d2, rfl, p1, m0, m1, m2, p2, p3⟩ | exact ⟨_, rfl, d2, p1, m0, m1, m2, p2, p3⟩
        · go_wp2_with fail
          refine (l1Below_any b w0 v xs 3 (by decide) _ D7.cu).mono ?_
          rintro e w8 ⟨n8, rfl, hn8, _, c8, g8⟩
          have hn8 := hn8 (by decide)
          have D8 := D7.step g8 c8
          have N8 : IntKind.i64.wrap (19 + (n8 : Int)) = ((19 + n8 : Nat) : Int) := by rw [IntKind.wrap_i64]; omega
          clear D7 g8 c8
          go_wp2_with fail
          go_loopw [70] (fun _ wr => ∃ (hi : Nat) (a1' : Option Addr) (k1' : Nat) (d' : DevR), DSt b w0 v xs w hi g a0 a1' k0 k1' d' wr ∧ (d'.sectors.length : Int) ≤ 6 ∧ (d'.cached.length : Int) ≤ 30 ∧ inI64 d'.writes) (fun _ wr => match wr.cell? ⟨g, 1, none⟩ with | some (.slice _ n _) => 30 - n | _ => 0)
          case atStart => exact ⟨_, _, _, d, D8, l0, by omega, lw⟩
          case round =>
            clear D8 l0 l1 lw
            obtain ⟨hi', a1', k1', d', D, l0, l1, lw⟩ := hrel
            have v0 := D.dev.bx.cell 0 _ rfl
            have v1 := D.dev.bx.cell 1 _ rfl
            have v2 := D.dev.bx.cell 2 _ rfl
            have vf := D.dev.bx.frozen
            have zz := D.gl
            have zg := D.dev.bx.lt
            have zh := D.dev.r1
            by_cases hlt : (d'.cached.length : Int) < ((19 + n8 : Nat) : Int)
            · go_wp2_with (at_builtin; go_loud (refine app_new_at rfl rfl Try.underlying50 info_Put rfl (by decide) zh rfl 1 (by simp [Act.eval]) rfl (by simp [Value.oneCell']) (by omega) (Below.refl (w.heap.size + 1) wr) (Nat.le_refl _) (by omega) ?_; intro v3 w3 o3 x3 g3 p3; have hx := D.dev.bx.grown g3 (fun e => (D.dev.n1 _ e).1 rfl); have t1 := hx.cell 1 _ rfl; have tf := hx.frozen; have r2' : w3.ownsRow (w.heap.size + 1) 61 2 v3 (d'.cached.length + 1) ((d'.cached.map PutR.cells).flatten ++ PutR.cells ⟨0, ByteArray.empty⟩) := o3; obtain ⟨e1, f1, rfl, DA⟩ := D.app ⟨0, ByteArray.empty⟩ r2' g3 (p3.imp id fun h => ⟨_, h, by simp⟩)))
              have w1' := DA.dev.bx.cell 1 _ rfl
              go_roundw
              case rel => exact ⟨_, _, _, _, DA, l0, (by show ((d'.cached ++ [_]).length : Int) ≤ 30; simp; omega), lw⟩
              case measure => simp [v1, w1']; omega
            · go_upto_region 22 with fail
              clear v0 v1 v2 vf
              have v0 := D.dev.bx.cell 0 _ rfl
              have v1 := D.dev.bx.cell 1 _ rfl
              have v2 := D.dev.bx.cell 2 _ rfl
              have rf := D.rb.frozen
              have ra := D.rb.cell 0 _ rfl
              have rb := D.rb.cell 1 _ rfl
              have rc := D.rb.cell 2 _ rfl
              go_wp2
              refine bodyPost_ret (v := .agg #[.slice a0 (DevR.sectors d').length k0, .slice a1' (DevR.cached d').length k1', .int .i64 (DevR.writes d')]) (by simp [results, Try.results110, go_sem, ra, rb, rc]) rfl ?_
              obtain ⟨p1, p2, p3⟩ := D.fin (.slice a0 (DevR.sectors d').length k0) (.slice a1' (DevR.cached d').length k1') (.int .i64 (DevR.writes d'))
              first | exact ⟨_, d', rfl, p1, l0, l1, lw, p2, p3⟩ | exact ⟨_, rfl, d', p1, l0, l1, lw, p2, p3⟩
        · have v0 := D7.dev.bx.cell 0 _ rfl
          have v1 := D7.dev.bx.cell 1 _ rfl
          have v2 := D7.dev.bx.cell 2 _ rfl
          have vf := D7.dev.bx.frozen
          have ng3 := D7.dev.bx.lt
          have ng4 : ¬ w7.heap.size = g := by omega
          have ng5 : ¬ g = w7.heap.size := by omega
          have D10 := D7.setS
          go_upto_region 22 with fail
          clear v0 v1 v2 vf D7
          have v0 := D10.dev.bx.cell 0 _ rfl
          have v1 := D10.dev.bx.cell 1 _ rfl
          have v2 := D10.dev.bx.cell 2 _ rfl
          have rf := D10.rb.frozen
          have ra := D10.rb.cell 0 _ rfl
          have rb := D10.rb.cell 1 _ rfl
          have rc := D10.rb.cell 2 _ rfl
          generalize World.alloc _ _ = WW at *
          clear hal
          go_wp2
          refine bodyPost_ret (v := .agg #[.slice (some ⟨w7.heap.size, 0, none⟩) (DevR.sectors (⟨[], d.cached, d.writes⟩ : DevR)).length 0, .slice a1 (DevR.cached (⟨[], d.cached, d.writes⟩ : DevR)).length k1, .int .i64 (DevR.writes (⟨[], d.cached, d.writes⟩ : DevR))]) (by simp [results, Try.results110, go_sem, ra, rb, rc]) rfl ?_
          obtain ⟨p1, p2, p3⟩ := D10.fin (.slice (some ⟨w7.heap.size, 0, none⟩) (DevR.sectors (⟨[], d.cached, d.writes⟩ : DevR)).length 0) (.slice a1 (DevR.cached (⟨[], d.cached, d.writes⟩ : DevR)).length k1) (.int .i64 (DevR.writes (⟨[], d.cached, d.writes⟩ : DevR)))
          exact ⟨_, rfl, (⟨[], d.cached, d.writes⟩ : DevR), p1, (by simp), (by show (d.cached.length : Int) ≤ 30; omega), lw, p2, p3⟩
end Go.Proofs.Ytmbmflhcimkjpaa
/- Walks: DrawDevFall, DrawDevPut. -/
set_option linter.unusedVariables false
set_option linter.unusedSimpArgs false
namespace Go.Proofs.Ytmbmflhcimkjpaa
open Go.RowKit Sp Go.Sort
theorem Cu.setFar {w : World} {b : Nat} {w0 : World} {v : Value} {xs : List UInt8} (h : Cu w b w0 v xs) (p : Addr) (u : Value) (hp : b ≠ p.block) (hl : w0.heap.size ≤ p.block) : Cu (w.setCell p u) b w0 v xs := h.far p u hp hl

theorem Bx.s3 {W : World} {q : Nat} {x y z : Value} (h : Bx W q #[x, y, z]) : W.cell? ⟨q, 0, none⟩ = some x ∧ W.cell? ⟨q, 1, none⟩ = some y ∧ W.cell? ⟨q, 2, none⟩ = some z := ⟨h.cell 0 _ rfl, h.cell 1 _ rfl, h.cell 2 _ rfl⟩
theorem Bx.far3 {W : World} {q r : Nat} {c : Array Value} (h : Bx W q c) (hn : q ≠ r) (x y z : Value) : Bx (((W.setCell ⟨r, 0, none⟩ x).setCell ⟨r, 1, none⟩ y).setCell ⟨r, 2, none⟩ z) q c := ((h.far _ _ hn).far _ _ hn).far _ _ hn
set_option maxRecDepth 100000 in
set_option maxHeartbeats 1600000 in
theorem drawDevFall_any (v : Value) (xs : List UInt8) (w : World) (h : SlT bytC 1 w v xs) (hs : (xs.length : Int) ≤ 1048576) :
    Calls Try.prog 27 #[v] w fun e w' => ∃ (a0 a1 : Option Addr) (c0 c1 : Nat) (d : DevR) (m : Int), e = .returned (.tuple #[.agg #[.slice a0 d.sectors.length c0, .slice a1 d.cached.length c1, .int .i64 d.writes], .int .i64 m]) ∧ IsDev w' (.agg #[.slice a0 d.sectors.length c0, .slice a1 d.cached.length c1, .int .i64 d.writes]) d ∧ (d.sectors.length : Int) ≤ 6 ∧ (d.cached.length : Int) ≤ 30 ∧ inI64 d.writes ∧ inI64 m ∧ Below w.heap.size w w' := by
  have hA := hal2 w (.cells #[.slice none 0 0, .slice none 0 0, .int .i64 0] 52)
  have B0 := Bx.new w #[.slice none 0 0, .slice none 0 0, .int .i64 0] 52
  have h' := h.below hA
  go_enter Try.func27, Try.ntmps27
  go_wp2_with fail
  refine (l1New_any v xs _ h' hs).mono ?_
  rintro e w1 ⟨b, rfl, c1, b1⟩
  have B1 := B0.below b1
  have x1 : RowKit.Below w.heap.size w w1 := hA.trans (b1.mono hA.size)
  have lo1 := c1.lo
  have hb1 := c1.lt
  have zA : (w.alloc (.cells #[.slice none 0 0, .slice none 0 0, .int .i64 0] 52)).heap.size = w.heap.size + 1 := by simp
  generalize w.alloc (.cells #[.slice none 0 0, .slice none 0 0, .int .i64 0] 52) = wA at *
  clear B0 hA b1
  go_wp2_with fail
  refine (l5Some_any b wA v xs _ c1).mono ?_
  rintro e w2 ⟨u, d, rfl, ⟨s0, s1, rfl, o0, o1, ap⟩, l0, l1, lw, c2, g2⟩
  obtain ⟨a0, k0, rfl⟩ := own_form o0
  obtain ⟨a1, k1, rfl⟩ := own_form o1
  have B2 := B1.grown g2 (by simp; omega)
  have x2 : RowKit.Below w.heap.size w w2 := x1.grown g2 x1.size (fun k e => by have := Option.some.inj e; omega)
  have hb2 := c2.lt
  have zB := B1.lt
  have y0 : ∀ W, W = w2.alloc (.cells #[.slice a0 d.sectors.length k0, .slice a1 d.cached.length k1, .int .i64 d.writes] 52) → True := fun _ _ => trivial
  clear y0
  go_upto_region 3 with fail
  have c3 := c2.below (hal2 w2 (.cells #[.slice a0 d.sectors.length k0, .slice a1 d.cached.length k1, .int .i64 d.writes] 52))
  have B3 := B2.below (hal2 w2 (.cells #[.slice a0 d.sectors.length k0, .slice a1 d.cached.length k1, .int .i64 d.writes] 52))
  have x3 := x2.alloc x2.size (.cells #[.slice a0 d.sectors.length k0, .slice a1 d.cached.length k1, .int .i64 d.writes] 52)
  have Q3 := Bx.new w2 #[.slice a0 d.sectors.length k0, .slice a1 d.cached.length k1, .int .i64 d.writes] 52
  have O0 := o0.alloc (.cells #[.slice a0 d.sectors.length k0, .slice a1 d.cached.length k1, .int .i64 d.writes] 52)
  have O1 := o1.alloc (.cells #[.slice a0 d.sectors.length k0, .slice a1 d.cached.length k1, .int .i64 d.writes] 52)
  have n2 := g2.size
  have x1s := x1.size
  have o0lo := fun k e => (o0.lt k e).1
  have o1lo := fun k e => (o1.lt k e).1
  generalize w2.alloc (.cells #[.slice a0 d.sectors.length k0, .slice a1 d.cached.length k1, .int .i64 d.writes] 52) = w3 at *
  generalize w2.heap.size = q at *
  clear B2 c2 B1 c1 g2 o0 o1 x1 x2
  have y0 := Q3.cell 0 _ rfl
  have y1 := Q3.cell 1 _ rfl
  have y2 := Q3.cell 2 _ rfl
  have c3d := c3.below (below_drew w3)
  have B3d := B3.below (below_drew w3)
  have Q3d := Q3.below (below_drew w3)
  have G0 : w3.grownBy w3.drew (some b) := grown_below (World.grownBy.refl _ _) (below_drew w3)
  go_region_held (fun w' => w'.cell? ⟨q, 0, none⟩ = some (.slice a0 d.sectors.length k0) ∧ w'.cell? ⟨q, 1, none⟩ = some (.slice a1 d.cached.length k1) ∧ w'.cell? ⟨q, 2, none⟩ = some (.int .i64 d.writes))
    (first | exact Bx.s3 (by assumption) | exact (Bx.far3 (by assumption) (by omega) _ _ _).s3)
    (first
      | (go_at_call 81; with_reducible refine (l1Below_any b wA v xs 256 (by decide) _ c3d).mono ?_; rintro e w4 ⟨n4, rfl, hn4, _, c4, g4⟩; have Q4 := Q3d.grown g4 (by simp; omega); have B4 := B3d.grown g4 (by simp; omega); have rf := B4.frozen; have ra := B4.cell 0 _ rfl; have rb := B4.cell 1 _ rfl; have rc := B4.cell 2 _ rfl; have G4 := grown2 G0 g4)
      | (go_at_call 81; with_reducible refine (l1Below_any b wA v xs 9 (by decide) _ c4).mono ?_; rintro e w5 ⟨n5, rfl, hn5, _, c5, g5⟩; have Q5 := Q4.grown g5 (by simp; omega); have B5 := B4.grown g5 (by simp; omega); have rf := B5.frozen; have ra := B5.cell 0 _ rfl; have rb := B5.cell 1 _ rfl; have rc := B5.cell 2 _ rfl; have G5 := grown2 G4 g5))
  go_wp2
  refine bodyPost_ret (v := .tuple #[.agg #[.slice a0 d.sectors.length k0, .slice a1 d.cached.length k1, .int .i64 d.writes], .int .i64 (IntKind.i64.wrap (IntKind.i64.wrap ((n4 : Int) * n5) - 1))]) (by simp [results, Try.results27, go_sem, ra, rb, rc]) rfl ?_
  have x5 := x3.grown G5 x3.size (fun k e => by have := Option.some.inj e; omega)
  have r0 := own_grown O0 G5 (fun k hk e => by have := o0lo k hk; have := Option.some.inj e; omega)
  have r1 := own_grown O1 G5 (fun k hk e => by have := o1lo k hk; have := Option.some.inj e; omega)
  have f0 : (Value.slice a0 d.sectors.length k0).ownBlock ≠ some w.heap.size := fun e => by have := o0lo _ e; omega
  have f1 : (Value.slice a1 d.cached.length k1).ownBlock ≠ some w.heap.size := fun e => by have := o1lo _ e; omega
  refine ⟨a0, a1, k0, k1, d, _, rfl, ⟨_, _, rfl, SlT.of_own (own_far (own_far (own_far r0 _ _ f0) _ _ f0) _ _ f0) (fun _ => rfl) (by decide), SlT.of_own (own_far (own_far (own_far r1 _ _ f1) _ _ f1) _ _ f1) (fun _ => rfl) (by decide)⟩, l0, l1, lw, by rw [IntKind.wrap_i64]; unfold inI64; omega, ?_⟩
  exact below_set (below_set (below_set x5 _ _ (Nat.le_refl _)) _ _ (Nat.le_refl _)) _ _ (Nat.le_refl _)

set_option maxRecDepth 100000 in
set_option maxHeartbeats 1600000 in
theorem drawDevPut_any (v : Value) (xs : List UInt8) (w : World) (h : SlT bytC 1 w v xs) (hs : (xs.length : Int) ≤ 1048576) :
    Calls Try.prog 32 #[v] w fun e w' => ∃ (a0 a1 : Option Addr) (c0 c1 : Nat) (d : DevR) (m : Int) (t : ByteArray), e = .returned (.tuple #[.agg #[.slice a0 d.sectors.length c0, .slice a1 d.cached.length c1, .int .i64 d.writes], .int .i64 m, .string t]) ∧ IsDev w' (.agg #[.slice a0 d.sectors.length c0, .slice a1 d.cached.length c1, .int .i64 d.writes]) d ∧ (d.sectors.length : Int) ≤ 6 ∧ (d.cached.length : Int) ≤ 30 ∧ inI64 d.writes ∧ inI64 m ∧ (t.size : Int) ≤ 6 ∧ Below w.heap.size w w' := by
  have hA := hal2 w (.cells #[.slice none 0 0, .slice none 0 0, .int .i64 0] 52)
  have B0 := Bx.new w #[.slice none 0 0, .slice none 0 0, .int .i64 0] 52
  have h' := h.below hA
  go_enter Try.func32, Try.ntmps32
  go_wp2_with fail
  refine (l1New_any v xs _ h' hs).mono ?_
  rintro e w1 ⟨b, rfl, c1, b1⟩
  have B1 := B0.below b1
  have x1 : RowKit.Below w.heap.size w w1 := hA.trans (b1.mono hA.size)
  have lo1 := c1.lo
  have hb1 := c1.lt
  have zA : (w.alloc (.cells #[.slice none 0 0, .slice none 0 0, .int .i64 0] 52)).heap.size = w.heap.size + 1 := by simp
  generalize w.alloc (.cells #[.slice none 0 0, .slice none 0 0, .int .i64 0] 52) = wA at *
  clear B0 hA b1
  go_wp2_with fail
  refine (l5Some_any b wA v xs _ c1).mono ?_
  rintro e w2 ⟨u, d, rfl, ⟨s0, s1, rfl, o0, o1, ap⟩, l0, l1, lw, c2, g2⟩
  obtain ⟨a0, k0, rfl⟩ := own_form o0
  obtain ⟨a1, k1, rfl⟩ := own_form o1
  have B2 := B1.grown g2 (by simp; omega)
  have x2 : RowKit.Below w.heap.size w w2 := x1.grown g2 x1.size (fun k e => by have := Option.some.inj e; omega)
  have hb2 := c2.lt
  have zB := B1.lt
  have y0 : ∀ W, W = w2.alloc (.cells #[.slice a0 d.sectors.length k0, .slice a1 d.cached.length k1, .int .i64 d.writes] 52) → True := fun _ _ => trivial
  clear y0
  go_wp2_with fail
  have c3 := c2.below (hal2 w2 (.cells #[.slice a0 d.sectors.length k0, .slice a1 d.cached.length k1, .int .i64 d.writes] 52))
  have B3 := B2.below (hal2 w2 (.cells #[.slice a0 d.sectors.length k0, .slice a1 d.cached.length k1, .int .i64 d.writes] 52))
  have x3 := x2.alloc x2.size (.cells #[.slice a0 d.sectors.length k0, .slice a1 d.cached.length k1, .int .i64 d.writes] 52)
  have Q3 := Bx.new w2 #[.slice a0 d.sectors.length k0, .slice a1 d.cached.length k1, .int .i64 d.writes] 52
  have O0 := o0.alloc (.cells #[.slice a0 d.sectors.length k0, .slice a1 d.cached.length k1, .int .i64 d.writes] 52)
  have O1 := o1.alloc (.cells #[.slice a0 d.sectors.length k0, .slice a1 d.cached.length k1, .int .i64 d.writes] 52)
  have n2 := g2.size
  have x1s := x1.size
  have o0lo := fun k e => (o0.lt k e).1
  have o1lo := fun k e => (o1.lt k e).1
  generalize w2.alloc (.cells #[.slice a0 d.sectors.length k0, .slice a1 d.cached.length k1, .int .i64 d.writes] 52) = w3' at *
  generalize w2.heap.size = q at *
  clear B2 c2 B1 c1 g2 o0 o1 x1 x2
  refine (l1Below_any b wA v xs 8 (by decide) _ c3).mono ?_
  rintro e w3 ⟨n8, rfl, hn8, _, c3', gm⟩
  have hn8 := hn8 (by decide)
  have N8 : IntKind.i64.wrap ((n8 : Int) - 1) = (n8 : Int) - 1 := by rw [IntKind.wrap_i64]; omega
  have B3' := B3.grown gm (by simp; omega)
  have Q3' := Q3.grown gm (by simp; omega)
  have x3' := x3.grown gm x3.size (fun k e => by have := Option.some.inj e; omega)
  have O0' := own_grown O0 gm (fun k hk e => by have := o0lo k hk; have := Option.some.inj e; omega)
  have O1' := own_grown O1 gm (fun k hk e => by have := o1lo k hk; have := Option.some.inj e; omega)
  clear c3 B3 Q3 x3 O0 O1 gm
  have c3 := c3'
  have B3 := B3'
  have Q3 := Q3'
  have x3 := x3'
  have O0 := O0'
  have O1 := O1'
  clear c3' B3' Q3' x3' O0' O1'
  go_upto_region 4 with fail
  have y0 := Q3.cell 0 _ rfl
  have y1 := Q3.cell 1 _ rfl
  have y2 := Q3.cell 2 _ rfl
  have c3d := c3.below (below_drew w3)
  have B3d := B3.below (below_drew w3)
  have Q3d := Q3.below (below_drew w3)
  have G0 : w3.grownBy w3.drew (some b) := grown_below (World.grownBy.refl _ _) (below_drew w3)
  go_region_held (fun w' => w'.cell? ⟨q, 0, none⟩ = some (.slice a0 d.sectors.length k0) ∧ w'.cell? ⟨q, 1, none⟩ = some (.slice a1 d.cached.length k1) ∧ w'.cell? ⟨q, 2, none⟩ = some (.int .i64 d.writes))
    (first | exact Bx.s3 (by assumption) | exact (Bx.far3 (by assumption) (by omega) _ _ _).s3)
    (first | (go_at_call 109; refine (l1Text_any b wA v xs 6 (by decide) _ c3d).mono ?_; rintro e w5 ⟨t, rfl, ht, c5, g5⟩; have Q5 := Q3d.grown g5 (by simp; omega); have B5 := B3d.grown g5 (by simp; omega); have rf := B5.frozen; have ra := B5.cell 0 _ rfl; have rb := B5.cell 1 _ rfl; have rc := B5.cell 2 _ rfl; have G5 := grown2 G0 g5))
  go_wp2
  refine bodyPost_ret (v := .tuple #[.agg #[.slice a0 d.sectors.length k0, .slice a1 d.cached.length k1, .int .i64 d.writes], .int .i64 ((n8 : Int) - 1), .string t]) (by simp [results, Try.results32, go_sem, ra, rb, rc]) rfl ?_
  have x5 := x3.grown G5 x3.size (fun k e => by have := Option.some.inj e; omega)
  have r0 := own_grown O0 G5 (fun k hk e => by have := o0lo k hk; have := Option.some.inj e; omega)
  have r1 := own_grown O1 G5 (fun k hk e => by have := o1lo k hk; have := Option.some.inj e; omega)
  have f0 : (Value.slice a0 d.sectors.length k0).ownBlock ≠ some w.heap.size := fun e => by have := o0lo _ e; omega
  have f1 : (Value.slice a1 d.cached.length k1).ownBlock ≠ some w.heap.size := fun e => by have := o1lo _ e; omega
  refine ⟨a0, a1, k0, k1, d, _, t, rfl, ⟨_, _, rfl, SlT.of_own (own_far (own_far (own_far r0 _ _ f0) _ _ f0) _ _ f0) (fun _ => rfl) (by decide), SlT.of_own (own_far (own_far (own_far r1 _ _ f1) _ _ f1) _ _ f1) (fun _ => rfl) (by decide)⟩, l0, l1, lw, by unfold inI64; omega, ht, ?_⟩
  exact below_set (below_set (below_set x5 _ _ (Nat.le_refl _)) _ _ (Nat.le_refl _)) _ _ (Nat.le_refl _)
end Go.Proofs.Ytmbmflhcimkjpaa
/- Plain: what a device reads behind a fall, a flush, a put. No program in sight. -/
set_option linter.unusedVariables false
set_option linter.unusedSimpArgs false
namespace Go.Proofs.Ytmbmflhcimkjpaa
open Sp
namespace Sp
theorem devB_text {d : DevR} (h : devB d = true) : (∀ i (hi : i < d.sectors.length), (d.sectors[i].size : Int) ≤ 200) ∧ (∀ i (hi : i < d.cached.length), (d.cached[i].text.size : Int) ≤ 200) := by
  simp only [devB, Bool.and_eq_true] at h
  refine ⟨fun i hi => ?_, fun i hi => ?_⟩
  · have := allIx_spec h.2.1 i hi
    rw [secAt_in hi] at this
    exact of_decide_eq_true this
  · have := allIx_spec h.2.2 i hi
    rw [putAt_in hi] at this
    simp only [putB, Bool.and_eq_true] at this
    exact of_decide_eq_true this.2
theorem devB_headT {d : DevR} (h : devB d = true) : devHead d = true := by simp only [devB, Bool.and_eq_true] at h; exact h.1
/-- A landed sector is what it was, or one of the puts of it. -/
theorem landTo_get (p : Nat → Bool) (secs : List ByteArray) (l : List PutR) (hl : ∀ i (hi : i < l.length), 0 ≤ l[i].sec) (i : Nat) (hi : i < secs.length) (k : Nat) (hk : k ≤ l.length) :
    (landTo p secs l k)[i]'(by rw [landTo_length]; exact hi) = secs[i] ∨ ∃ (j : Nat) (hj : j < k), (l[j]'(by omega)).sec = i ∧ (l[j]'(by omega)).text = (landTo p secs l k)[i]'(by rw [landTo_length]; exact hi) := by
  induction k with
  | zero => exact .inl rfl
  | succ k ih =>
    have ih := ih (by omega)
    have hkl : k < l.length := by omega
    rcases hp : p k with _ | _
    · have e := landTo_miss (secs := secs) hkl hp
      have e2 : (landTo p secs l (k + 1))[i]'(by rw [landTo_length]; exact hi) = (landTo p secs l k)[i]'(by rw [landTo_length]; exact hi) := by simp [e]
      rw [e2]
      rcases ih with h | ⟨j, hj, h⟩
      · exact .inl h
      · exact .inr ⟨j, by omega, h⟩
    · have e := landTo_hit (secs := secs) hkl hp
      by_cases hs : l[k].sec.toNat = i
      · have e2 : (landTo p secs l (k + 1))[i]'(by rw [landTo_length]; exact hi) = l[k].text := by simp [e, hs]
        rw [e2]
        exact .inr ⟨k, by omega, by have := hl k hkl; omega, rfl⟩
      · have e2 : (landTo p secs l (k + 1))[i]'(by rw [landTo_length]; exact hi) = (landTo p secs l k)[i]'(by rw [landTo_length]; exact hi) := by simp [e, hs]
        rw [e2]
        rcases ih with h | ⟨j, hj, h⟩
        · exact .inl h
        · exact .inr ⟨j, by omega, h⟩
/-- Flushed: the last put of it, else what it was. -/
theorem landAll_get (p : Nat → Bool) (hp : ∀ k, p k = true) (secs : List ByteArray) (l : List PutR) (hl : ∀ i (hi : i < l.length), 0 ≤ l[i].sec) (i : Nat) (hi : i < secs.length) (k : Nat) (hk : k ≤ l.length) :
    (landTo p secs l k)[i]'(by rw [landTo_length]; exact hi) = lastPut i secs[i] (l.take k) := by
  induction k with
  | zero => rfl
  | succ k ih =>
    have ih := ih (by omega)
    have hkl : k < l.length := by omega
    have e := landTo_hit (secs := secs) hkl (hp k)
    rw [lastPut_step _ _ _ _ hkl]
    by_cases hs : l[k].sec.toNat = i
    · have hs' : l[k].sec = (i : Int) := by have := hl k hkl; omega
      rw [if_pos hs']
      simp [e, hs]
    · have hs' : ¬ l[k].sec = (i : Int) := by omega
      rw [if_neg hs', ← ih]
      simp [e, hs]
theorem devB_secs0 {d : DevR} (h : devB d = true) : ∀ i (hi : i < d.cached.length), 0 ≤ d.cached[i].sec := fun i hi => (devB_at h hi).1
theorem devFall_devB (d : DevR) (mask : Int) (all : Bool) (h : devB d = true) : devB (devFall d mask all) = true := by
  rw [devFall_ok mask all h]
  have hh := devB_headT h
  have ht := devB_text h
  refine devB_all ?_ ?_ ?_
  · simp only [devHead, Bool.and_eq_true, decide_eq_true_eq] at hh ⊢
    rw [landTo_length]
    exact ⟨⟨hh.1.1, by simp⟩, hh.2⟩
  · intro i hi
    rw [secAt_in hi]
    have hi' : i < d.sectors.length := by rwa [landTo_length] at hi
    refine decide_eq_true ?_
    rcases landTo_get (hit mask all) d.sectors d.cached (devB_secs0 h) i hi' d.cached.length (Nat.le_refl _) with e | ⟨j, hj, _, e⟩
    · show ((landTo (hit mask all) d.sectors d.cached d.cached.length)[i].size : Int) ≤ 200
      rw [e]; exact ht.1 i hi'
    · show ((landTo (hit mask all) d.sectors d.cached d.cached.length)[i].size : Int) ≤ 200
      rw [← e]; exact ht.2 j hj
  · intro i hi; simp at hi
theorem devFall_secs (d : DevR) (mask : Int) (all : Bool) (h : devB d = true) : (devFall d mask all).sectors.length = d.sectors.length := by
  rw [devFall_ok mask all h]; exact landTo_length _ _ _ _
theorem devIn_at {d : DevR} (h : devB d = true) {i : Nat} (hi : i < d.sectors.length) : devIn d (i : Int) = true := by
  simp only [devIn, h, Bool.true_and]
  exact inB_true (by omega)
/-- Is what is read at i behind a fall the sector's text, or that of one of the first k puts of it? -/
def mayTo (d : DevR) (s : ByteArray) (i k : Nat) : Bool := (s.toList == (d.sectors[i]?.getD ByteArray.empty).toList) || (List.range k).any fun j => match d.cached[j]? with | some x => decide (x.sec = (i : Int)) && (x.text.toList == s.toList) | none => false
theorem mayTo_step {d : DevR} {s : ByteArray} {i k : Nat} (hk : k < d.cached.length) : mayTo d s i (k + 1) = (mayTo d s i k || (decide (d.cached[k].sec = (i : Int)) && (d.cached[k].text.toList == s.toList))) := by
  unfold mayTo
  rw [List.range_succ, List.any_append]
  simp [hk, Bool.or_assoc]
theorem mayTo_all {d : DevR} (mask : Int) (all : Bool) (h : devB d = true) {i : Nat} (hi : i < d.sectors.length) : mayTo d (devRead (devFall d mask all) i) i d.cached.length = true := by
  have hB := devFall_devB d mask all h
  have hl := devFall_secs d mask all h
  rw [devRead_in (devIn_at hB (by omega)) (by omega)]
  have hc : (devFall d mask all).cached = [] := by rw [devFall_ok mask all h]
  rw [hc]
  have e0 : lastPut (i : Int) ((devFall d mask all).sectors[i]'(by omega)) [] = (devFall d mask all).sectors[i]'(by omega) := rfl
  rw [e0]
  have e1 : (devFall d mask all).sectors[i]'(by omega) = (landTo (hit mask all) d.sectors d.cached d.cached.length)[i]'(by rw [landTo_length]; exact hi) := by simp [devFall_ok mask all h]
  rw [e1]
  unfold mayTo
  rw [Bool.or_eq_true]
  rcases landTo_get (hit mask all) d.sectors d.cached (devB_secs0 h) i hi d.cached.length (Nat.le_refl _) with e | ⟨j, hj, e2, e⟩
  · left; rw [e]; simp [hi]
  · right
    rw [List.any_eq_true]
    exact ⟨j, List.mem_range.2 hj, by rw [List.getElem?_eq_getElem hj]; simp [e2, e]⟩
theorem flush_read {d : DevR} (h : devB d = true) {i : Nat} (hi : i < d.sectors.length) : devRead (devFall d 0 true) i = devRead d i := by
  have hB := devFall_devB d 0 true h
  have hl := devFall_secs d 0 true h
  rw [devRead_in (devIn_at hB (by omega)) (by omega), devRead_in (devIn_at h hi) hi]
  have hc : (devFall d 0 true).cached = [] := by rw [devFall_ok 0 true h]
  rw [hc]
  have e0 : lastPut (i : Int) ((devFall d 0 true).sectors[i]'(by omega)) [] = (devFall d 0 true).sectors[i]'(by omega) := rfl
  rw [e0]
  have e1 : (devFall d 0 true).sectors[i]'(by omega) = (landTo (hit 0 true) d.sectors d.cached d.cached.length)[i]'(by rw [landTo_length]; exact hi) := by simp [devFall_ok 0 true h]
  rw [e1, landAll_get (hit 0 true) (fun k => rfl) d.sectors d.cached (devB_secs0 h) i hi _ (Nat.le_refl _), List.take_length]
theorem put_read {d : DevR} {n : Int} {t : ByteArray} (h : devPutB d n t = true) : devIn (devPut d n t) n = true ∧ devRead (devPut d n t) n = t ∧ (devPut d n t).writes = d.writes + 1 ∧ 0 ≤ d.writes ∧ d.writes ≤ 1000000 := by
  simp only [devPutB, Bool.and_eq_true] at h
  have e : devPut d n t = addPut d n t := by simp [devPut, h.1, h.2]
  rw [e]
  have hk : d.cached.length < (addPut d n t).cached.length := by simp [addPut]
  have hat := devB_at h.2 hk
  have e2 : (addPut d n t).cached[d.cached.length].sec = n := by simp [addPut]
  rw [e2] at hat
  have hs : (addPut d n t).sectors.length = d.sectors.length := rfl
  obtain ⟨m, rfl⟩ : ∃ m : Nat, n = (m : Int) := ⟨n.toNat, by omega⟩
  have hm : m < d.sectors.length := by rw [hs] at hat; omega
  have hin := devIn_at h.2 (i := m) (by rw [hs]; exact hm)
  have hw := devB_writes h.1
  refine ⟨hin, ?_, rfl, hw.1, hw.2⟩
  rw [devRead_in hin (by rw [hs]; exact hm)]
  show lastPut m d.sectors[m] (d.cached ++ [⟨m, t⟩]) = t
  simp [lastPut, List.foldl_append]
end Sp
end Go.Proofs.Ytmbmflhcimkjpaa
set_option linter.unusedVariables false
set_option linter.unusedSimpArgs false
namespace Go.Proofs.Ytmbmflhcimkjpaa
open Go.RowKit Sp Go.Sort
/-- The block q holds a device that reads as d. -/
structure BD (W : World) (q : Nat) (a0 a1 : Option Addr) (c0 c1 : Nat) (d : DevR) : Prop where
  bx : Bx W q #[.slice a0 d.sectors.length c0, .slice a1 d.cached.length c1, .int .i64 d.writes]
  s0 : SlT strCells 1 W (.slice a0 d.sectors.length c0) d.sectors
  s1 : SlT PutR.cells 2 W (.slice a1 d.cached.length c1) d.cached
theorem BD.below {W W' : World} {q : Nat} {a0 a1 : Option Addr} {c0 c1 : Nat} {d : DevR} (h : BD W q a0 a1 c0 c1 d) (hb : Below W.heap.size W W') : BD W' q a0 a1 c0 c1 d := ⟨h.bx.below hb, h.s0.below hb, h.s1.below hb⟩
theorem BD.is {W : World} {q : Nat} {a0 a1 : Option Addr} {c0 c1 : Nat} {d : DevR} (h : BD W q a0 a1 c0 c1 d) : IsDev W (.agg #[.slice a0 d.sectors.length c0, .slice a1 d.cached.length c1, .int .i64 d.writes]) d := ⟨_, _, rfl, h.s0, h.s1⟩
theorem BD.new {W : World} {a0 a1 : Option Addr} {c0 c1 : Nat} {d : DevR} (T : TypeId) (h0 : SlT strCells 1 W (.slice a0 d.sectors.length c0) d.sectors) (h1 : SlT PutR.cells 2 W (.slice a1 d.cached.length c1) d.cached) :
    BD (W.alloc (.cells #[.slice a0 d.sectors.length c0, .slice a1 d.cached.length c1, .int .i64 d.writes] T)) W.heap.size a0 a1 c0 c1 d := ⟨Bx.new _ _ _, h0.below (hal2 _ _), h1.below (hal2 _ _)⟩
theorem RowDev.forms {lo hi : Nat} {w : World} {v : Value} {d : DevR} (h : RowDev lo hi w v d) : ∃ (a0 a1 : Option Addr) (c0 c1 : Nat), v = .agg #[.slice a0 d.sectors.length c0, .slice a1 d.cached.length c1, .int .i64 d.writes] ∧ SlT strCells 1 w (.slice a0 d.sectors.length c0) d.sectors ∧ SlT PutR.cells 2 w (.slice a1 d.cached.length c1) d.cached := by
  obtain ⟨s0, s1, m1, rfl, e0, e1, r0, r1⟩ := h
  obtain ⟨a0, c0, rfl⟩ := r0.form
  obtain ⟨a1, c1, rfl⟩ := r1.form
  exact ⟨a0, a1, c0, c1, rfl, r0.slT (fun _ => rfl) (by decide), r1.slT (fun _ => rfl) (by decide)⟩
theorem IsDev.forms {w : World} {v : Value} {d : DevR} (h : IsDev w v d) : ∃ (a0 a1 : Option Addr) (c0 c1 : Nat), v = .agg #[.slice a0 d.sectors.length c0, .slice a1 d.cached.length c1, .int .i64 d.writes] ∧ SlT strCells 1 w (.slice a0 d.sectors.length c0) d.sectors ∧ SlT PutR.cells 2 w (.slice a1 d.cached.length c1) d.cached := by
  obtain ⟨s0, s1, rfl, r0, r1⟩ := h
  obtain ⟨a0, c0, rfl, _⟩ := r0.shape
  obtain ⟨a1, c1, rfl, _⟩ := r1.shape
  exact ⟨a0, a1, c0, c1, rfl, r0, r1⟩

set_option maxRecDepth 100000 in
set_option maxHeartbeats 1600000 in
theorem walkFnDev (w : World) (v : Value) (xs : List UInt8) (h : SlT bytC 1 w v xs) :
    Calls Try.prog 5 #[v] w fun e w' => e = .returned (.bool true) ∧ Below w.heap.size w w' := by
  by_cases hbig : 1048576 < (xs.length : Int)
  · go_enter Try.func5, Try.ntmps5
    go_wp2_with fail
    refine (big_any v xs _ h).mono ?_
    rintro e w1 ⟨rfl, rfl⟩
    rw [decide_eq_true hbig]
    go_wp2
    go_ret
    exact ⟨rfl, Below.refl _ _⟩
  · go_enter Try.func5, Try.ntmps5
    go_wp2_with fail
    refine (big_any v xs _ h).mono ?_
    rintro e w1 ⟨rfl, rfl⟩
    rw [decide_eq_false (show ¬ 1048576 < (xs.length : Int) from by omega)]
    go_wp2_with fail
    refine (drawDevFall_any v xs _ h (by omega)).mono ?_
    rintro e w1 ⟨a0, a1, c0, c1, d, m, rfl, hI, l0, l1, lw, hm, b1⟩
    have D1 := BD.new 52 hI.s0 hI.s1
    have x1 := b1.alloc b1.size (.cells #[.slice a0 d.sectors.length c0, .slice a1 d.cached.length c1, .int .i64 d.writes] 52)
    have hs1 := h.below x1
    go_wp2_with fail
    refine (implDevFall d m a0 a1 c0 c1 _ D1.s0 D1.s1 (by omega) (by omega)).mono ?_
    rintro e w2 ⟨vx, rfl, Rx, b2⟩
    obtain ⟨e0, e1, f0, f1, rfl, X0, X1⟩ := Rx.forms
    have x2 := x1.trans (b2.mono x1.size)
    have D2 := D1.below b2
    have DX := BD.new 52 X0 X1
    have D3 := D2.below (hal2 w2 (.cells #[.slice e0 (devFall d m false).sectors.length f0, .slice e1 (devFall d m false).cached.length f1, .int .i64 (devFall d m false).writes] 52))
    have x3 := x2.alloc x2.size (.cells #[.slice e0 (devFall d m false).sectors.length f0, .slice e1 (devFall d m false).cached.length f1, .int .i64 (devFall d m false).writes] 52)
    generalize hq3 : w1.heap.size = q3 at *
    go_upto_region 5 with fail
    clear hI b1 b2 D1 D2 X0 X1 Rx x1 x2 hs1
    generalize w2.alloc (.cells #[.slice e0 (devFall d m false).sectors.length f0, .slice e1 (devFall d m false).cached.length f1, .int .i64 (devFall d m false).writes] 52) = W3 at *
    generalize w2.heap.size = q5 at *
    have y0 := D3.bx.cell 0 _ rfl
    have y1 := D3.bx.cell 1 _ rfl
    have y2 := D3.bx.cell 2 _ rfl
    go_wp2_with fail
    refine (specDevOk _ d _ D3.is (by omega) (by omega)).mono ?_
    rintro e w4 ⟨rfl, b4⟩
    have x4 := x3.trans (b4.mono x3.size)
    have D4 := D3.below b4
    have E4 := DX.below b4
    clear D3 DX x3 b4 y0 y1 y2
    rcases hd : devB d with _ | _
    · have hl0 : (devFall d m false).sectors.length = 0 := by rw [devFall_not m false hd]; rfl
      have y0 := E4.bx.cell 0 _ rfl
      rw [hl0] at y0
      go_wp2
      go_ret
      exact ⟨rfl, x4⟩
    · have HD := Lib.hid hd
      have LX := Lib.hid (show (devFall d m false).sectors.length = d.sectors.length ∧ (devFall d m false).cached.length = 0 from ⟨devFall_secs d m false hd, by rw [devFall_ok m false hd]; rfl⟩)
      have HM := Lib.hid (fun i hi => mayTo_all (d := d) m false hd (i := i) hi)
      have HR := Lib.hid (fun i hi => flush_read hd (i := i) hi)
      clear hd
      generalize devFall d m false = x at *
      go_wp2_with fail
      go_loopw [7] (fun i wr => ∃ k : Nat, i = .int .i64 k ∧ k ≤ d.sectors.length ∧ Below w.heap.size w wr ∧ BD wr q3 a0 a1 c0 c1 d ∧ BD wr q5 e0 e1 f0 f1 x) (fun i _ => d.sectors.length - (intOf i).toNat)
      case atStart => exact ⟨0, rfl, Nat.zero_le _, x4, D4, E4⟩
      case round =>
        clear x4 D4 E4
        obtain ⟨k, rfl, hk, xr, D, E⟩ := hrel
        have y0 := D.bx.cell 0 _ rfl
        have y1 := D.bx.cell 1 _ rfl
        have z0 := E.bx.cell 0 _ rfl
        have z1 := E.bx.cell 1 _ rfl
        have z2 := E.bx.cell 2 _ rfl
        by_cases hlt : k < d.sectors.length
        · go_wp2_with fail
          refine (implDevRead _ x k _ E.is (by have := LX.out; omega) (by have := LX.out; omega)).mono ?_
          rintro e w5 ⟨rfl, b5⟩
          have x5 := xr.trans (b5.mono xr.size)
          have D5 := D.below b5
          have E5 := E.below b5
          clear xr D E b5 y0 y1 z0 z1 z2
          have hM := Lib.hid (HM.out k hlt)
          generalize devRead x k = s at *
          generalize devIn x k = inb at *
          obtain ⟨ao, cp, hv0, _, _, hsh⟩ := D5.s0.shape
          obtain ⟨rfl, rfl⟩ : a0 = ao ∧ c0 = cp := by simpa using hv0
          obtain ⟨b, off, rfl, hb, hc⟩ := hsh (by omega)
          have e0 : w5.cell? ⟨b, off + k, none⟩ = some (.string d.sectors[k]) := str_cell hc k hlt
          have y0 := D5.bx.cell 0 _ rfl
          have y1 := D5.bx.cell 1 _ rfl
          clear hc hsh hv0
          go_wp2_with fail
          have hm0 : mayTo d s k 0 = (s.toList == d.sectors[k].toList) := by simp [mayTo, hlt]
          have HS := Lib.hid (fun kk hk => mayTo_step (d := d) (s := s) (i := k) (k := kk) hk)
          go_loopw [10, 11] (fun mv i wr => ∃ kk : Nat, i = .int .i64 kk ∧ kk ≤ d.cached.length ∧ mv = .bool (mayTo d s k kk) ∧ wr = w5) (fun _ i _ => d.cached.length - (intOf i).toNat)
          case atStart => exact ⟨0, rfl, Nat.zero_le _, by rw [hm0], rfl⟩
          case round =>
            obtain ⟨kk, rfl, hkk, rfl, rfl⟩ := hrel
            clear hm0
            by_cases hlk : kk < d.cached.length
            · obtain ⟨ao, cp, hv0, _, _, hsh⟩ := D5.s1.shape
              obtain ⟨rfl, rfl⟩ : a1 = ao ∧ c1 = cp := by simpa using hv0
              obtain ⟨b', off', rfl, hb', hc⟩ := hsh (by omega)
              have p0 : wr.cell? ⟨b', off' + kk * 2, none⟩ = some (.int .i64 d.cached[kk].sec) := hc kk hlk 0 _ rfl
              have p1 := hc kk hlk 1 _ rfl
              have HSk := Lib.hid (HS.out kk hlk)
              clear hc hsh hv0
              rcases hmt : mayTo d s k kk with _ | _
              · by_cases hsec : d.cached[kk].sec = (k : Int)
                · go_wp2
                  go_roundw
                  case rel => exact ⟨kk + 1, by go_num, hlk, by rw [HSk.out, hmt, Bool.false_or]; simp [hsec], trivial⟩
                  case measure => simp [intOf]; omega
                · go_wp2
                  go_roundw
                  case rel => exact ⟨kk + 1, by go_num, hlk, by rw [HSk.out, hmt, Bool.false_or]; simp [hsec], trivial⟩
                  case measure => simp [intOf]; omega
              · go_wp2
                go_roundw
                case rel => exact ⟨kk + 1, by go_num, hlk, by rw [HSk.out, hmt, Bool.true_or], trivial⟩
                case measure => simp [intOf]; omega
            · obtain rfl : kk = d.cached.length := by omega
              have hmt := hM.out
              go_wp2
              go_roundw
              case rel => exact ⟨k + 1, by go_num, hlt, x5, D5, E5⟩
              case measure => simp [intOf]; omega
        · obtain rfl : k = d.sectors.length := by omega
          have y2 := D.bx.cell 2 _ rfl
          go_wp2_with fail
          refine (implDevFlush d a0 a1 c0 c1 _ D.s0 D.s1 (by omega) (by omega)).mono ?_
          rintro e w6 ⟨vy, rfl, Ry, b6⟩
          obtain ⟨h0, h1, j0, j1, rfl, Y0, Y1⟩ := Ry.forms
          have x6 := xr.trans (b6.mono xr.size)
          have D6 := D.below b6
          have LY := Lib.hid (show (devFall d 0 true).cached.length = 0 from by rw [devFall_ok 0 true HD.out]; rfl)
          have LY2 := Lib.hid (show (devFall d 0 true).sectors.length = d.sectors.length from devFall_secs d 0 true HD.out)
          generalize devFall d 0 true = y at *
          have F6 := BD.new 52 Y0 Y1
          have D7 := D6.below (hal2 w6 (.cells #[.slice h0 y.sectors.length j0, .slice h1 y.cached.length j1, .int .i64 y.writes] 52))
          have x7 := x6.alloc x6.size (.cells #[.slice h0 y.sectors.length j0, .slice h1 y.cached.length j1, .int .i64 y.writes] 52)
          clear Ry Y0 Y1 D6 b6 x6 xr D E y0 y1 y2 z0 z1 z2
          go_upto_region 21 with fail
          generalize w6.alloc (.cells #[.slice h0 y.sectors.length j0, .slice h1 y.cached.length j1, .int .i64 y.writes] 52) = W6 at *
          generalize w6.heap.size = q12 at *
          go_wp2_with fail
          refine (drawDevPut_any v xs _ (h.below x7) (by omega)).mono ?_
          rintro e w8 ⟨p0, p1, r0, r1, p, n, t, rfl, hI, m0, m1, mw, hn, ht, b8⟩
          have D8 := (D7.below b8).below (hal2 w8 (.cells #[.slice p0 p.sectors.length r0, .slice p1 p.cached.length r1, .int .i64 p.writes] 52))
          have F8 := (F6.below b8).below (hal2 w8 (.cells #[.slice p0 p.sectors.length r0, .slice p1 p.cached.length r1, .int .i64 p.writes] 52))
          have P8 := BD.new 52 hI.s0 hI.s1
          have x8 := (x7.trans (b8.mono x7.size)).alloc (x7.trans (b8.mono x7.size)).size (.cells #[.slice p0 p.sectors.length r0, .slice p1 p.cached.length r1, .int .i64 p.writes] 52)
          clear hI D7 F6 x7 b8
          go_upto_region 22 with fail
          generalize w8.alloc (.cells #[.slice p0 p.sectors.length r0, .slice p1 p.cached.length r1, .int .i64 p.writes] 52) = W8 at *
          generalize w8.heap.size = q14 at *
          have y0 := P8.bx.cell 0 _ rfl
          have y1 := P8.bx.cell 1 _ rfl
          have y2 := P8.bx.cell 2 _ rfl
          go_wp2_with fail
          refine (implDevPut p n t p0 p1 r0 r1 _ P8.s0 P8.s1 (by omega) (by omega)).mono ?_
          rintro e w9 ⟨vz, rfl, Rz, b9⟩
          obtain ⟨g0, g1, i0, i1, rfl, Z0, Z1⟩ := Rz.forms
          have D9 := (D8.below b9).below (hal2 w9 (.cells #[.slice g0 (devPut p n t).sectors.length i0, .slice g1 (devPut p n t).cached.length i1, .int .i64 (devPut p n t).writes] 52))
          have F9 := (F8.below b9).below (hal2 w9 (.cells #[.slice g0 (devPut p n t).sectors.length i0, .slice g1 (devPut p n t).cached.length i1, .int .i64 (devPut p n t).writes] 52))
          have P9 := (P8.below b9).below (hal2 w9 (.cells #[.slice g0 (devPut p n t).sectors.length i0, .slice g1 (devPut p n t).cached.length i1, .int .i64 (devPut p n t).writes] 52))
          have Z9 := BD.new 52 Z0 Z1
          have x9 := (x8.trans (b9.mono x8.size)).alloc (x8.trans (b9.mono x8.size)).size (.cells #[.slice g0 (devPut p n t).sectors.length i0, .slice g1 (devPut p n t).cached.length i1, .int .i64 (devPut p n t).writes] 52)
          have HZ := Lib.hid (devPut_len p n t (by omega) (by omega))
          have HP := Lib.hid (fun h => put_read (d := p) (n := n) (t := t) h)
          clear Rz Z0 Z1 D8 F8 P8 x8 b9 y0 y1 y2
          go_upto_region 23 with fail
          generalize w9.alloc (.cells #[.slice g0 (devPut p n t).sectors.length i0, .slice g1 (devPut p n t).cached.length i1, .int .i64 (devPut p n t).writes] 52) = W9 at *
          generalize w9.heap.size = q17 at *
          have y0 := P9.bx.cell 0 _ rfl
          have y1 := P9.bx.cell 1 _ rfl
          have y2 := P9.bx.cell 2 _ rfl
          go_wp2_with fail
          refine (specDevPut p n t p0 p1 r0 r1 _ P9.s0 P9.s1 (by omega) (by omega)).mono ?_
          rintro e w10 ⟨vq, rfl, Rq, b10⟩
          obtain ⟨g0', g1', i0', i1', rfl, _, _⟩ := Rq.forms
          have D10 := (D9.below b10).below (hal2 w10 (.cells #[.slice g0' (devPut p n t).sectors.length i0', .slice g1' (devPut p n t).cached.length i1', .int .i64 (devPut p n t).writes] 52))
          have F10 := (F9.below b10).below (hal2 w10 (.cells #[.slice g0' (devPut p n t).sectors.length i0', .slice g1' (devPut p n t).cached.length i1', .int .i64 (devPut p n t).writes] 52))
          have P10 := (P9.below b10).below (hal2 w10 (.cells #[.slice g0' (devPut p n t).sectors.length i0', .slice g1' (devPut p n t).cached.length i1', .int .i64 (devPut p n t).writes] 52))
          have Z10 := (Z9.below b10).below (hal2 w10 (.cells #[.slice g0' (devPut p n t).sectors.length i0', .slice g1' (devPut p n t).cached.length i1', .int .i64 (devPut p n t).writes] 52))
          have x10 := (x9.trans (b10.mono x9.size)).alloc (x9.trans (b10.mono x9.size)).size (.cells #[.slice g0' (devPut p n t).sectors.length i0', .slice g1' (devPut p n t).cached.length i1', .int .i64 (devPut p n t).writes] 52)
          clear Rq D9 F9 P9 Z9 x9 b10 y0 y1 y2
          go_upto_region 24 with fail
          generalize w10.alloc (.cells #[.slice g0' (devPut p n t).sectors.length i0', .slice g1' (devPut p n t).cached.length i1', .int .i64 (devPut p n t).writes] 52) = W10 at *
          generalize devPut p n t = z at *
          go_wp2_with fail
          go_loopw [21] (fun i wr => ∃ k : Nat, i = .int .i64 k ∧ k ≤ d.sectors.length ∧ Below w.heap.size w wr ∧ BD wr q3 a0 a1 c0 c1 d ∧ BD wr q12 h0 h1 j0 j1 y ∧ BD wr q14 p0 p1 r0 r1 p ∧ BD wr q17 g0 g1 i0 i1 z) (fun i _ => d.sectors.length - (intOf i).toNat)
          case atStart => exact ⟨0, rfl, Nat.zero_le _, x10, D10, F10, P10, Z10⟩
          case round =>
            clear x10 D10 F10 P10 Z10
            obtain ⟨k, rfl, hk, xr, D, F, PP, Z⟩ := hrel
            have y0 := D.bx.cell 0 _ rfl
            have y1 := D.bx.cell 1 _ rfl
            have y2 := D.bx.cell 2 _ rfl
            by_cases hlt : k < d.sectors.length
            · go_wp2_with fail
              refine (implDevRead _ d k _ D.is (by omega) (by omega)).mono ?_
              rintro e w11 ⟨rfl, b11⟩
              have x11 := xr.trans (b11.mono xr.size)
              have D11 := D.below b11
              have F11 := F.below b11
              have P11 := PP.below b11
              have Z11 := Z.below b11
              have z0 := F11.bx.cell 0 _ rfl
              have z1 := F11.bx.cell 1 _ rfl
              have z2 := F11.bx.cell 2 _ rfl
              clear xr D F PP Z b11 y0 y1 y2
              go_wp2_with fail
              refine (implDevRead _ y k _ F11.is (by have := LY2.out; omega) (by have := LY.out; omega)).mono ?_
              rintro e w12 ⟨rfl, b12⟩
              rw [HR.out k hlt]
              generalize devRead d k = s at *
              have x12 := x11.trans (b12.mono x11.size)
              have D12 := D11.below b12
              have F12 := F11.below b12
              have P12 := P11.below b12
              have Z12 := Z11.below b12
              clear x11 D11 F11 P11 Z11 b12 z0 z1 z2
              go_wp2
              go_roundw
              case rel => exact ⟨k + 1, by go_num, hlt, x12, D12, F12, P12, Z12⟩
              case measure => simp [intOf]; omega
            · have z0 := Z.bx.cell 0 _ rfl
              have z1 := Z.bx.cell 1 _ rfl
              have z2 := Z.bx.cell 2 _ rfl
              go_wp2_with fail
              refine (implDevRead _ z n _ Z.is HZ.out.1 HZ.out.2).mono ?_
              rintro e w13 ⟨rfl, b13⟩
              have x13 := xr.trans (b13.mono xr.size)
              have F13 := F.below b13
              have P13 := PP.below b13
              have Z13 := Z.below b13
              clear xr D F PP Z b13 y0 y1 y2 z0 z1 z2
              have z2 := Z13.bx.cell 2 _ rfl
              have y2 := P13.bx.cell 2 _ rfl
              have f1 := F13.bx.cell 1 _ rfl
              rw [LY.out] at f1
              rcases hp : devPutB p n t with _ | _
              · go_wp2
                go_ret
                exact ⟨rfl, x13⟩
              · obtain ⟨t1, t2, t3, t4, t5⟩ := HP.out hp
                have W1 : IntKind.i64.wrap (p.writes + 1) = p.writes + 1 := by rw [IntKind.wrap_i64]; omega
                rw [t1, t2]
                rw [t3] at z2
                go_wp2
                go_ret
                exact ⟨rfl, x13⟩
end Go.Proofs.Ytmbmflhcimkjpaa
