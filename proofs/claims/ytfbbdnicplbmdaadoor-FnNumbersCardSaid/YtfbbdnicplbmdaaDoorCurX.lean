
/- Walks: the cursor of the draws, with its very state and its very answers. -/
import Derived.Test.YtfbbdnicplbmdaaDoorDrawS
set_option linter.unusedVariables false
set_option linter.unusedSimpArgs false
namespace Go.Proofs.YtfbbdnicplbmdaaDoor
open Go.RowKit Sp Go.Sort
namespace Sp
structure CsR where
  i : Nat
  h : Int
def csByte (xs : List UInt8) (c : CsR) : Nat × CsR := match xs[c.i]? with
  | some y => ((bits .and .i64 (wrap64 (((bits .and .i64 (bits .xor .i64 (wrap64 (wrap64 (c.h * 6364136223846793005) + 1442695040888963407) / 8589934592) (wrap64 (wrap64 (c.h * 6364136223846793005) + 1442695040888963407) / 35184372088832)) 255)) + wrap64 (y.toNat : Int))) 255).toNat, ⟨c.i + 1, wrap64 (wrap64 (c.h * 6364136223846793005) + 1442695040888963407)⟩)
  | none => ((bits .and .i64 (bits .xor .i64 (wrap64 (wrap64 (c.h * 6364136223846793005) + 1442695040888963407) / 8589934592) (wrap64 (wrap64 (c.h * 6364136223846793005) + 1442695040888963407) / 35184372088832)) 255).toNat, ⟨c.i, wrap64 (wrap64 (c.h * 6364136223846793005) + 1442695040888963407)⟩)
theorem csByte_le (xs : List UInt8) (c : CsR) : ((csByte xs c).1 : Int) ≤ 255 := by
  unfold csByte
  split
  · obtain ⟨x, h1, h2⟩ := and255 (wrap64 (((bits .and .i64 (bits .xor .i64 (wrap64 (wrap64 (c.h * 6364136223846793005) + 1442695040888963407) / 8589934592) (wrap64 (wrap64 (c.h * 6364136223846793005) + 1442695040888963407) / 35184372088832)) 255)) + wrap64 ((‹UInt8›).toNat : Int)))
    simp only [h1, Int.toNat_natCast]; exact h2
  · obtain ⟨x, h1, h2⟩ := and255 (bits .xor .i64 (wrap64 (wrap64 (c.h * 6364136223846793005) + 1442695040888963407) / 8589934592) (wrap64 (wrap64 (c.h * 6364136223846793005) + 1442695040888963407) / 35184372088832))
    simp only [h1, Int.toNat_natCast]; exact h2
def csFour (xs : List UInt8) (c : CsR) : Nat × CsR :=
  let x := csByte xs c
  let y := csByte xs x.2
  let z := csByte xs y.2
  let u := csByte xs z.2
  (x.1 * 16777216 + y.1 * 65536 + z.1 * 256 + u.1, u.2)
def csBelow (xs : List UInt8) (n : Int) (c : CsR) : Nat × CsR :=
  if n ≤ 0 then (0, c) else if n ≤ 256 then ((csByte xs c).1 % n.toNat, (csByte xs c).2) else ((csFour xs c).1 % n.toNat, (csFour xs c).2)
theorem csBelow_lt (xs : List UInt8) (n : Int) (c : CsR) (h : 0 < n) : ((csBelow xs n c).1 : Int) < n := by
  unfold csBelow
  rw [if_neg (by omega)]
  split
  · have := Nat.mod_lt (csByte xs c).1 (show 0 < n.toNat by omega)
    show (((csByte xs c).1 % n.toNat : Nat) : Int) < n
    omega
  · have := Nat.mod_lt (csFour xs c).1 (show 0 < n.toNat by omega)
    show (((csFour xs c).1 % n.toNat : Nat) : Int) < n
    omega
end Sp
/-- The block b holds a cursor over the code that stood in the world w0, in the state c. -/
structure CuX (w : World) (b : Nat) (w0 : World) (v : Value) (xs : List UInt8) (c : CsR) : Prop where
  bx : Bx w b #[v, .int .i64 c.i, .int .i64 c.h]
  le : c.i ≤ xs.length
  hi : inI64 c.h
  old : SlT bytC 1 w0 v xs
  bel : Below w0.heap.size w0 w
  lo : w0.heap.size ≤ b
  sz : (xs.length : Int) ≤ 1048576
section
variable {w w' : World} {b : Nat} {w0 : World} {v : Value} {xs : List UInt8} {c : CsR}
theorem CuX.lt (h : CuX w b w0 v xs c) : b < w.heap.size := h.bx.lt
theorem CuX.below (h : CuX w b w0 v xs c) (hb : Below w.heap.size w w') : CuX w' b w0 v xs c := ⟨h.bx.below hb, h.le, h.hi, h.old, h.bel.trans (hb.mono h.bel.size), h.lo, h.sz⟩
theorem CuX.grown (h : CuX w b w0 v xs c) {r : Option Nat} (hg : w.grownBy w' r) (hn : r ≠ some b) (hr : ∀ k, r = some k → w0.heap.size ≤ k) : CuX w' b w0 v xs c := ⟨h.bx.grown hg hn, h.le, h.hi, h.old, h.bel.grown hg h.bel.size hr, h.lo, h.sz⟩
theorem CuX.old_le (h : CuX w b w0 v xs c) : w0.heap.size ≤ w.heap.size := h.bel.size
end
set_option maxRecDepth 100000 in
set_option maxHeartbeats 800000 in
theorem l1Byte_ex (b : Nat) (w0 : World) (v : Value) (xs : List UInt8) (c : CsR) (w : World) (h : CuX w b w0 v xs c) :
    Calls Tryd.prog 28 #[.pointer (some ⟨b, 0, none⟩)] w fun e w' => e = .returned (.int .i64 ((csByte xs c).1 : Int)) ∧ CuX w' b w0 v xs (csByte xs c).2 ∧ w.grownBy w' (some b) := by
  obtain ⟨i, hh⟩ := c
  obtain ⟨hb, hi, hw, old, bel, lo, sz⟩ := h
  obtain ⟨ao, cap, rfl, hlc, hcm, hsh⟩ := (old.below bel).shape
  have c0 : w.cell? ⟨b, 0, none⟩ = some (.slice ao xs.length cap) := hb.cell 0 _ rfl
  have c1 : w.cell? ⟨b, 1, none⟩ = some (.int .i64 i) := hb.cell 1 _ rfl
  have c2 : w.cell? ⟨b, 2, none⟩ = some (.int .i64 hh) := hb.cell 2 _ rfl
  have zf := hb.frozen
  have zl := hb.lt
  have hwr := wrap64_in (wrap64 (hh * 6364136223846793005) + 1442695040888963407)
  by_cases hlt : i < xs.length
  · have HB := Lib.hid (show csByte xs ⟨i, hh⟩ = ((bits .and .i64 (wrap64 (((bits .and .i64 (bits .xor .i64 (wrap64 (wrap64 (hh * 6364136223846793005) + 1442695040888963407) / 8589934592) (wrap64 (wrap64 (hh * 6364136223846793005) + 1442695040888963407) / 35184372088832)) 255)) + wrap64 (xs[i].toNat : Int))) 255).toNat, ⟨i + 1, wrap64 (wrap64 (hh * 6364136223846793005) + 1442695040888963407)⟩) from by simp only [csByte, List.getElem?_eq_getElem hlt])
    go_enter Tryd.func28, Tryd.ntmps28
    go_wp2
    generalize wrap64 (wrap64 (hh * 6364136223846793005) + 1442695040888963407) = H at *
    have B1 : Bx (w.setCell ⟨b, 2, none⟩ (.int .i64 H)) b #[.slice ao xs.length cap, .int .i64 i, .int .i64 H] := hb.set 2 _
    have g1 : w.grownBy (w.setCell ⟨b, 2, none⟩ (.int .i64 H)) (some b) := touch_set (World.grownBy.refl _ _) 2 _
    generalize w.setCell ⟨b, 2, none⟩ (.int .i64 H) = w1 at *
    have d0 : w1.cell? ⟨b, 0, none⟩ = some (.slice ao xs.length cap) := B1.cell 0 _ rfl
    have d1 : w1.cell? ⟨b, 1, none⟩ = some (.int .i64 i) := B1.cell 1 _ rfl
    have d2 : w1.cell? ⟨b, 2, none⟩ = some (.int .i64 H) := B1.cell 2 _ rfl
    clear c0 c1 c2 zf zl
    go_quiet (fail)
    obtain ⟨x, hx, hx2⟩ := and255 (bits BinOp.xor IntKind.i64 (H / 8589934592) (H / 35184372088832))
    rw [hx] at HB ⊢
    have B2 := B1.below (below_drewN (Below.refl _ w1) nq)
    have g2 := grown_drewN g1 nq
    generalize w1.drewN nq = w2 at *
    have e0 : w2.cell? ⟨b, 0, none⟩ = some (.slice ao xs.length cap) := B2.cell 0 _ rfl
    have e1 : w2.cell? ⟨b, 1, none⟩ = some (.int .i64 i) := B2.cell 1 _ rfl
    have zf := B2.frozen
    have zl := B2.lt
    clear d0 d1 d2 hx
    have hil : (i : Int) < xs.length := by omega
    obtain ⟨gb, off, rfl, hgl, hcell⟩ := hsh (by omega)
    have ce : w.cell? ⟨gb, off + i, none⟩ = some (.int .u8 (xs[i].toNat : Int)) := by
      have := hcell i hlt 0 (B xs[i]) rfl
      rwa [Nat.mul_one, Nat.add_zero] at this
    have hgb : gb < w0.heap.size := by
      obtain ⟨ao2, cap2, h2, _, _, hs2⟩ := old.shape
      obtain ⟨b2, o2, h3, h4, _⟩ := hs2 (by omega)
      simp only [Value.slice.injEq] at h2
      rw [h3] at h2
      have := Option.some.inj h2.1
      simp only [Addr.mk.injEq] at this
      omega
    have ce2 : w2.cell? ⟨gb, off + i, none⟩ = some (.int .u8 (xs[i].toNat : Int)) := by
      exact ((gcell g2 (b := gb) (by have := bel.size; omega) (by intro e; have := Option.some.inj e; omega)).1 _).trans ce
    go_wp2
    go_quiet (fail)
    have B3 := B2.below (below_drewN (Below.refl _ w2) nq)
    have g3 := grown_drewN g2 nq
    have ce3 : (w2.drewN nq).cell? ⟨gb, off + i, none⟩ = some (.int .u8 (xs[i].toNat : Int)) := ce2
    generalize w2.drewN nq = w3 at *
    have y0 : w3.cell? ⟨b, 0, none⟩ = some (.slice (some ⟨gb, off, none⟩) xs.length cap) := B3.cell 0 _ rfl
    have y1 : w3.cell? ⟨b, 1, none⟩ = some (.int .i64 i) := B3.cell 1 _ rfl
    clear e0 e1 zf zl ce ce2
    go_wp2
    go_quiet (fail)
    obtain ⟨y, hy, hy2⟩ := and255 (wrap64 ((x : Int) + wrap64 (xs[i].toNat : Int)))
    rw [hy] at HB ⊢
    clear hy
    have B4 := B3.below (below_drewN (Below.refl _ w3) nq)
    have g4 := grown_drewN g3 nq
    generalize w3.drewN nq = w4 at *
    clear y0 y1 ce3
    have e1 : w4.cell? ⟨b, 1, none⟩ = some (.int .i64 i) := B4.cell 1 _ rfl
    have zf := B4.frozen
    have zl := B4.lt
    have W1 : IntKind.i64.wrap ((i : Int) + 1) = (i : Int) + 1 := by rw [IntKind.wrap_i64]; omega
    go_wp2
    go_ret
    rw [HB.out, Int.toNat_natCast]
    exact ⟨rfl, ⟨B4.set 1 (.int .i64 ((i : Int) + 1)), hlt, hwr, old, bel.grown (touch_set g4 1 _) bel.size (fun k e => by have := Option.some.inj e; omega), lo, sz⟩, touch_set g4 1 _⟩
  · have HB := Lib.hid (show csByte xs ⟨i, hh⟩ = ((bits .and .i64 (bits .xor .i64 (wrap64 (wrap64 (hh * 6364136223846793005) + 1442695040888963407) / 8589934592) (wrap64 (wrap64 (hh * 6364136223846793005) + 1442695040888963407) / 35184372088832)) 255).toNat, ⟨i, wrap64 (wrap64 (hh * 6364136223846793005) + 1442695040888963407)⟩) from by simp only [csByte, List.getElem?_eq_none (Nat.le_of_not_lt hlt)])
    go_enter Tryd.func28, Tryd.ntmps28
    go_wp2
    generalize wrap64 (wrap64 (hh * 6364136223846793005) + 1442695040888963407) = H at *
    have B1 : Bx (w.setCell ⟨b, 2, none⟩ (.int .i64 H)) b #[.slice ao xs.length cap, .int .i64 i, .int .i64 H] := hb.set 2 _
    have g1 : w.grownBy (w.setCell ⟨b, 2, none⟩ (.int .i64 H)) (some b) := touch_set (World.grownBy.refl _ _) 2 _
    generalize w.setCell ⟨b, 2, none⟩ (.int .i64 H) = w1 at *
    have d0 : w1.cell? ⟨b, 0, none⟩ = some (.slice ao xs.length cap) := B1.cell 0 _ rfl
    have d1 : w1.cell? ⟨b, 1, none⟩ = some (.int .i64 i) := B1.cell 1 _ rfl
    have d2 : w1.cell? ⟨b, 2, none⟩ = some (.int .i64 H) := B1.cell 2 _ rfl
    clear c0 c1 c2 zf zl
    go_quiet (fail)
    obtain ⟨x, hx, hx2⟩ := and255 (bits BinOp.xor IntKind.i64 (H / 8589934592) (H / 35184372088832))
    rw [hx] at HB ⊢
    have B2 := B1.below (below_drewN (Below.refl _ w1) nq)
    have g2 := grown_drewN g1 nq
    generalize w1.drewN nq = w2 at *
    have e0 : w2.cell? ⟨b, 0, none⟩ = some (.slice ao xs.length cap) := B2.cell 0 _ rfl
    have e1 : w2.cell? ⟨b, 1, none⟩ = some (.int .i64 i) := B2.cell 1 _ rfl
    have zf := B2.frozen
    have zl := B2.lt
    clear d0 d1 d2 hx
    have hil : ¬ (i : Int) < xs.length := by omega
    go_wp2
    go_quiet (fail)
    go_wp2
    go_ret
    rw [HB.out, Int.toNat_natCast]
    exact ⟨rfl, ⟨B2.below (below_drewN (Below.refl _ w2) _), hi, hwr, old, bel.grown (grown_drewN g2 _) bel.size (fun k e => by have := Option.some.inj e; omega), lo, sz⟩, grown_drewN g2 _⟩

set_option maxRecDepth 100000 in
set_option maxHeartbeats 800000 in
theorem l1Below_ex (b : Nat) (w0 : World) (v : Value) (xs : List UInt8) (n : Int) (hn : n ≤ 4611686018427387904) (c : CsR) (w : World) (h : CuX w b w0 v xs c) :
    Calls Tryd.prog 26 #[.pointer (some ⟨b, 0, none⟩), .int .i64 n] w fun e w' => e = .returned (.int .i64 ((csBelow xs n c).1 : Int)) ∧ CuX w' b w0 v xs (csBelow xs n c).2 ∧ w.grownBy w' (some b) := by
  by_cases h0 : n ≤ 0
  · have HB := Lib.hid (show csBelow xs n c = (0, c) from by simp only [csBelow, if_pos h0])
    go_enter Tryd.func26, Tryd.ntmps26
    go_wp2
    go_ret
    rw [HB.out]
    exact ⟨rfl, h, World.grownBy.refl _ _⟩
  · obtain ⟨m, rfl⟩ : ∃ m : Nat, n = (m : Int) := ⟨n.toNat, by omega⟩
    have hm : (m : Int) ≠ 0 := by omega
    by_cases h1 : (m : Int) ≤ 256
    · have HB := Lib.hid (show csBelow xs m c = ((csByte xs c).1 % m, (csByte xs c).2) from by simp only [csBelow, if_neg h0, if_pos h1, Int.toNat_natCast])
      go_enter Tryd.func26, Tryd.ntmps26
      go_wp2_with fail
      refine (l1Byte_ex b w0 v xs c _ h).mono ?_
      rintro e w1 ⟨rfl, c1, g1⟩
      generalize csByte xs c = r1 at *
      have HT := tmod_nat r1.1 m
      generalize r1.1 % m = r at *
      go_wp2
      go_ret
      rw [HB.out]
      exact ⟨rfl, c1, g1⟩
    · have HB := Lib.hid (show csBelow xs m c = ((csFour xs c).1 % m, (csFour xs c).2) from by simp only [csBelow, if_neg h0, if_neg h1, Int.toNat_natCast])
      have HF := Lib.hid (show csFour xs c = ((csByte xs c).1 * 16777216 + (csByte xs (csByte xs c).2).1 * 65536 + (csByte xs (csByte xs (csByte xs c).2).2).1 * 256 + (csByte xs (csByte xs (csByte xs (csByte xs c).2).2).2).1, (csByte xs (csByte xs (csByte xs (csByte xs c).2).2).2).2) from rfl)
      go_enter Tryd.func26, Tryd.ntmps26
      go_wp2_with fail
      refine (l1Byte_ex b w0 v xs c _ h).mono ?_
      rintro e w1 ⟨rfl, c1, g1⟩
      have hx := csByte_le xs c
      generalize csByte xs c = r1 at *
      obtain ⟨x, d1⟩ := r1
      go_wp2_with fail
      refine (l1Byte_ex b w0 v xs d1 _ c1).mono ?_
      rintro e w2 ⟨rfl, c2, g2⟩
      have hy := csByte_le xs d1
      try dsimp only at HF
      generalize csByte xs d1 = r2 at *
      obtain ⟨y, d2⟩ := r2
      go_wp2_with fail
      refine (l1Byte_ex b w0 v xs d2 _ c2).mono ?_
      rintro e w3 ⟨rfl, c3, g3⟩
      have hz := csByte_le xs d2
      try dsimp only at HF
      generalize csByte xs d2 = r3 at *
      obtain ⟨z, d3⟩ := r3
      go_wp2_with fail
      refine (l1Byte_ex b w0 v xs d3 _ c3).mono ?_
      rintro e w4 ⟨rfl, c4, g4⟩
      have hu := csByte_le xs d3
      try dsimp only at HF
      generalize csByte xs d3 = r4 at *
      obtain ⟨u, d4⟩ := r4
      dsimp only at *
      obtain ⟨s, hs, hs2, W1, W2, W3, W4, W5⟩ := comb x y z u hx hy hz hu
      have W6 := wrap_i64_small s hs2
      have W7 := wrap_small s hs2
      have HT := tmod_nat s m
      have HS := Lib.hid (show x * 16777216 + y * 65536 + z * 256 + u = s from by omega)
      rw [HF.out] at HB
      dsimp only at HB
      rw [HS.out] at HB
      clear HF
      generalize s % m = r at *
      go_wp2
      go_ret
      rw [HB.out]
      exact ⟨rfl, c4, grown2 (grown2 (grown2 g1 g2) g3) g4⟩
end Go.Proofs.YtfbbdnicplbmdaaDoor
