
/- Walks: the cursor of the draws: a byte, a number below another one. -/
import Derived.Test.YtfbbdnicplbmdaaDoorBx
import Derived.Test.YtfbbdnicplbmdaaDoorStepR
import Derived.Test.YtfbbdnicplbmdaaDoorTouch
import Derived.Lib.QuietBelow
import Derived.BigQuiet
set_option linter.unusedVariables false
set_option linter.unusedSimpArgs false
namespace Go.Proofs.YtfbbdnicplbmdaaDoor
open Go.RowKit Sp Go.Sort
def bytC (x : UInt8) : List Value := [B x]
/-- The block b holds a cursor over the code that stood in the world w0. -/
structure Cu (w : World) (b : Nat) (w0 : World) (v : Value) (xs : List UInt8) : Prop where
  bx : ∃ (i : Nat) (h : Int), Bx w b #[v, .int .i64 i, .int .i64 h] ∧ i ≤ xs.length ∧ inI64 h
  old : SlT bytC 1 w0 v xs
  bel : Below w0.heap.size w0 w
  lo : w0.heap.size ≤ b
  sz : (xs.length : Int) ≤ 1048576
theorem Cu.lt {w : World} {b : Nat} {w0 : World} {v : Value} {xs : List UInt8} (h : Cu w b w0 v xs) : b < w.heap.size := by
  obtain ⟨i, hh, hb, _⟩ := h.bx; exact hb.lt
theorem Cu.below {w w' : World} {b : Nat} {w0 : World} {v : Value} {xs : List UInt8} (h : Cu w b w0 v xs) (hb : Below w.heap.size w w') : Cu w' b w0 v xs := by
  obtain ⟨⟨i, hh, hx, hi, hw⟩, old, bel, lo, sz⟩ := h
  exact ⟨⟨i, hh, hx.below hb, hi, hw⟩, old, bel.trans (hb.mono bel.size), lo, sz⟩
theorem Cu.grown {w w' : World} {b : Nat} {w0 : World} {v : Value} {xs : List UInt8} (h : Cu w b w0 v xs) {r : Option Nat} (hg : w.grownBy w' r) (hn : r ≠ some b) (hr : ∀ k, r = some k → w0.heap.size ≤ k) : Cu w' b w0 v xs := by
  obtain ⟨⟨i, hh, hx, hi, hw⟩, old, bel, lo, sz⟩ := h
  exact ⟨⟨i, hh, hx.grown hg hn, hi, hw⟩, old, bel.grown hg bel.size hr, lo, sz⟩
theorem Cu.far {w : World} {b : Nat} {w0 : World} {v : Value} {xs : List UInt8} (h : Cu w b w0 v xs) (p : Addr) (u : Value) (hp : b ≠ p.block) (hl : w0.heap.size ≤ p.block) : Cu (w.setCell p u) b w0 v xs := by
  obtain ⟨⟨i, hh, hx, hi, hw⟩, old, bel, lo, sz⟩ := h
  exact ⟨⟨i, hh, hx.far p u hp, hi, hw⟩, old, below_set bel p u hl, lo, sz⟩
theorem wrap64_in (a : Int) : inI64 (wrap64 a) := by
  have := wrap64_wf a
  simp only [Lit.wf, IntKind.min, IntKind.max, IntKind.signed, IntKind.bits, Bool.and_eq_true, decide_eq_true_eq, if_true] at this
  unfold inI64; omega
theorem grown_drewN {a b : World} {r : Option Nat} (h : a.grownBy b r) (n : Nat) : a.grownBy (b.drewN n) r := ⟨h.os, h.tape, h.output, h.size, h.block⟩
theorem and255 (a : Int) : ∃ x : Nat, bits .and .i64 a 255 = (x : Int) ∧ (x : Int) ≤ 255 := by
  have h : (BitVec.ofInt 64 a &&& BitVec.ofInt 64 255).toNat ≤ 255 := by
    rw [BitVec.toNat_and]
    exact Nat.le_trans Nat.and_le_right (by decide)
  refine ⟨(BitVec.ofInt 64 a &&& BitVec.ofInt 64 255).toNat, ?_, by omega⟩
  show IntKind.i64.wrap ((BitVec.ofInt 64 a &&& BitVec.ofInt 64 255).toNat : Int) = _
  rw [IntKind.wrap_i64]; omega

set_option maxRecDepth 100000 in
set_option maxHeartbeats 800000 in
theorem l1Byte_any (b : Nat) (w0 : World) (v : Value) (xs : List UInt8) (w : World) (h : Cu w b w0 v xs) :
    Calls Tryd.prog 28 #[.pointer (some ⟨b, 0, none⟩)] w fun e w' => ∃ x : Nat, e = .returned (.int .i64 x) ∧ (x : Int) ≤ 255 ∧ Cu w' b w0 v xs ∧ w.grownBy w' (some b) := by
  obtain ⟨⟨i, hh, hb, hi, hw⟩, old, bel, lo, sz⟩ := h
  obtain ⟨ao, cap, rfl, hlc, hcm, hsh⟩ := (old.below bel).shape
  have c0 : w.cell? ⟨b, 0, none⟩ = some (.slice ao xs.length cap) := hb.cell 0 _ rfl
  have c1 : w.cell? ⟨b, 1, none⟩ = some (.int .i64 i) := hb.cell 1 _ rfl
  have c2 : w.cell? ⟨b, 2, none⟩ = some (.int .i64 hh) := hb.cell 2 _ rfl
  have zf := hb.frozen
  have zl := hb.lt
  have hwr := wrap64_in (wrap64 (hh * 6364136223846793005) + 1442695040888963407)
  by_cases hlt : i < xs.length
  · go_enter Tryd.func28, Tryd.ntmps28
    go_wp2
    generalize wrap64 (wrap64 (hh * 6364136223846793005) + 1442695040888963407) = H at *
    have B1 : Bx (w.setCell ⟨b, 2, none⟩ (.int .i64 H)) b #[.slice ao xs.length cap, .int .i64 i, .int .i64 H] := hb.set 2 _
    have g1 : w.grownBy (w.setCell ⟨b, 2, none⟩ (.int .i64 H)) (some b) := touch_set (World.grownBy.refl _ _) 2 _
    generalize w.setCell ⟨b, 2, none⟩ (.int .i64 H) = w1 at *
    have d0 : w1.cell? ⟨b, 0, none⟩ = some (.slice ao xs.length cap) := B1.cell 0 _ rfl
    have d1 : w1.cell? ⟨b, 1, none⟩ = some (.int .i64 i) := B1.cell 1 _ rfl
    have d2 : w1.cell? ⟨b, 2, none⟩ = some (.int .i64 H) := B1.cell 2 _ rfl
    clear c0 c1 c2 zf zl
    go_quiet (fail)
    obtain ⟨x, hx, hx2⟩ := and255 (bits BinOp.xor IntKind.i64 (H / 8589934592) (H / 35184372088832))
    rw [hx]
    have B2 := B1.below (below_drewN (Below.refl _ w1) nq)
    have g2 := grown_drewN g1 nq
    generalize w1.drewN nq = w2 at *
    have e0 : w2.cell? ⟨b, 0, none⟩ = some (.slice ao xs.length cap) := B2.cell 0 _ rfl
    have e1 : w2.cell? ⟨b, 1, none⟩ = some (.int .i64 i) := B2.cell 1 _ rfl
    have zf := B2.frozen
    have zl := B2.lt
    clear d0 d1 d2 hx
    have hil : (i : Int) < xs.length := by omega
    obtain ⟨gb, off, rfl, hgl, hcell⟩ := hsh (by omega)
    have ce : w.cell? ⟨gb, off + i, none⟩ = some (.int .u8 (xs[i].toNat : Int)) := by
      have := hcell i hlt 0 (B xs[i]) rfl
      rwa [Nat.mul_one, Nat.add_zero] at this
    have hgb : gb < w0.heap.size := by
      obtain ⟨ao2, cap2, h2, _, _, hs2⟩ := old.shape
      obtain ⟨b2, o2, h3, h4, _⟩ := hs2 (by omega)
      simp only [Value.slice.injEq] at h2
      rw [h3] at h2
      have := Option.some.inj h2.1
      simp only [Addr.mk.injEq] at this
      omega
    have ce2 : w2.cell? ⟨gb, off + i, none⟩ = some (.int .u8 (xs[i].toNat : Int)) := by
      exact ((gcell g2 (b := gb) (by have := bel.size; omega) (by intro e; have := Option.some.inj e; omega)).1 _).trans ce
    go_wp2
    go_quiet (fail)
    have B3 := B2.below (below_drewN (Below.refl _ w2) nq)
    have g3 := grown_drewN g2 nq
    have ce3 : (w2.drewN nq).cell? ⟨gb, off + i, none⟩ = some (.int .u8 (xs[i].toNat : Int)) := ce2
    generalize w2.drewN nq = w3 at *
    have y0 : w3.cell? ⟨b, 0, none⟩ = some (.slice (some ⟨gb, off, none⟩) xs.length cap) := B3.cell 0 _ rfl
    have y1 : w3.cell? ⟨b, 1, none⟩ = some (.int .i64 i) := B3.cell 1 _ rfl
    clear e0 e1 zf zl ce ce2
    go_wp2
    go_quiet (fail)
    obtain ⟨y, hy, hy2⟩ := and255 (wrap64 ((x : Int) + wrap64 (xs[i].toNat : Int)))
    rw [hy]
    clear hy
    have B4 := B3.below (below_drewN (Below.refl _ w3) nq)
    have g4 := grown_drewN g3 nq
    generalize w3.drewN nq = w4 at *
    clear y0 y1 ce3
    have e1 : w4.cell? ⟨b, 1, none⟩ = some (.int .i64 i) := B4.cell 1 _ rfl
    have zf := B4.frozen
    have zl := B4.lt
    have W1 : IntKind.i64.wrap ((i : Int) + 1) = (i : Int) + 1 := by rw [IntKind.wrap_i64]; omega
    go_wp2
    go_ret
    exact ⟨y, rfl, hy2, ⟨⟨i + 1, H, B4.set 1 (.int .i64 ((i : Int) + 1)), hlt, hwr⟩, old, bel.grown (touch_set g4 1 _) bel.size (fun k e => by have := Option.some.inj e; omega), lo, sz⟩, touch_set g4 1 _⟩
  · go_enter Tryd.func28, Tryd.ntmps28
    go_wp2
    generalize wrap64 (wrap64 (hh * 6364136223846793005) + 1442695040888963407) = H at *
    have B1 : Bx (w.setCell ⟨b, 2, none⟩ (.int .i64 H)) b #[.slice ao xs.length cap, .int .i64 i, .int .i64 H] := hb.set 2 _
    have g1 : w.grownBy (w.setCell ⟨b, 2, none⟩ (.int .i64 H)) (some b) := touch_set (World.grownBy.refl _ _) 2 _
    generalize w.setCell ⟨b, 2, none⟩ (.int .i64 H) = w1 at *
    have d0 : w1.cell? ⟨b, 0, none⟩ = some (.slice ao xs.length cap) := B1.cell 0 _ rfl
    have d1 : w1.cell? ⟨b, 1, none⟩ = some (.int .i64 i) := B1.cell 1 _ rfl
    have d2 : w1.cell? ⟨b, 2, none⟩ = some (.int .i64 H) := B1.cell 2 _ rfl
    clear c0 c1 c2 zf zl
    go_quiet (fail)
    obtain ⟨x, hx, hx2⟩ := and255 (bits BinOp.xor IntKind.i64 (H / 8589934592) (H / 35184372088832))
    rw [hx]
    have B2 := B1.below (below_drewN (Below.refl _ w1) nq)
    have g2 := grown_drewN g1 nq
    generalize w1.drewN nq = w2 at *
    have e0 : w2.cell? ⟨b, 0, none⟩ = some (.slice ao xs.length cap) := B2.cell 0 _ rfl
    have e1 : w2.cell? ⟨b, 1, none⟩ = some (.int .i64 i) := B2.cell 1 _ rfl
    have zf := B2.frozen
    have zl := B2.lt
    clear d0 d1 d2 hx
    have hil : ¬ (i : Int) < xs.length := by omega
    go_wp2
    go_quiet (fail)
    go_wp2
    go_ret
    exact ⟨x, rfl, hx2, ⟨⟨i, H, B2.below (below_drewN (Below.refl _ w2) _), hi, hwr⟩, old, bel.grown (grown_drewN g2 _) bel.size (fun k e => by have := Option.some.inj e; omega), lo, sz⟩, grown_drewN g2 _⟩
end Go.Proofs.YtfbbdnicplbmdaaDoor
