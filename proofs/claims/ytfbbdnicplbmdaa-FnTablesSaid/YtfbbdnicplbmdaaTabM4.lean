
/- How a law's argument of type []byte is read. -/
import Derived.Test.YtfbbdnicplbmdaaTabM1
import Derived.Test.YtfbbdnicplbmdaaTouch
import Derived.Lib.QuietBelow
import Derived.BigQuiet
import Derived.Lib.AppendIntMem
import Derived.Test.YtfbbdnicplbmdaaMemPP
import Derived.Test.YtfbbdnicplbmdaaMemW
import Derived.Deep.DeepCutAuto
import Derived.Lib.Hide
import Derived.Test.YtfbbdnicplbmdaaKEntA
import Derived.Deep.RegionLaw
import Derived.Deep.RegionHeld
import Derived.Test.YtfbbdnicplbmdaaTabM2
import Derived.Test.YtfbbdnicplbmdaaTabM3
import Derived.Test.YtfbbdnicplbmdaaFBloomP
import Derived.Test.YtfbbdnicplbmdaaMemG
import Derived.Test.YtfbbdnicplbmdaaOpen
/- Walks: the cursor of the draws: a byte, a number below another one. -/
set_option linter.unusedVariables false
set_option linter.unusedSimpArgs false
namespace Go.Proofs.Ytfbbdnicplbmdaa
open Go.RowKit Sp Go.Sort
def bytC (x : UInt8) : List Value := [B x]
/-- The block b holds a cursor over the code that stood in the world w0. -/
structure Cu (w : World) (b : Nat) (w0 : World) (v : Value) (xs : List UInt8) : Prop where
  bx : ∃ (i : Nat) (h : Int), Bx w b #[v, .int .i64 i, .int .i64 h] ∧ i ≤ xs.length ∧ inI64 h
  old : SlT bytC 1 w0 v xs
  bel : Below w0.heap.size w0 w
  lo : w0.heap.size ≤ b
  sz : (xs.length : Int) ≤ 1048576
theorem Cu.lt {w : World} {b : Nat} {w0 : World} {v : Value} {xs : List UInt8} (h : Cu w b w0 v xs) : b < w.heap.size := by
  obtain ⟨i, hh, hb, _⟩ := h.bx; exact hb.lt
theorem Cu.below {w w' : World} {b : Nat} {w0 : World} {v : Value} {xs : List UInt8} (h : Cu w b w0 v xs) (hb : Below w.heap.size w w') : Cu w' b w0 v xs := by
  obtain ⟨⟨i, hh, hx, hi, hw⟩, old, bel, lo, sz⟩ := h
  exact ⟨⟨i, hh, hx.below hb, hi, hw⟩, old, bel.trans (hb.mono bel.size), lo, sz⟩
theorem Cu.grown {w w' : World} {b : Nat} {w0 : World} {v : Value} {xs : List UInt8} (h : Cu w b w0 v xs) {r : Option Nat} (hg : w.grownBy w' r) (hn : r ≠ some b) (hr : ∀ k, r = some k → w0.heap.size ≤ k) : Cu w' b w0 v xs := by
  obtain ⟨⟨i, hh, hx, hi, hw⟩, old, bel, lo, sz⟩ := h
  exact ⟨⟨i, hh, hx.grown hg hn, hi, hw⟩, old, bel.grown hg bel.size hr, lo, sz⟩
theorem Cu.far {w : World} {b : Nat} {w0 : World} {v : Value} {xs : List UInt8} (h : Cu w b w0 v xs) (p : Addr) (u : Value) (hp : b ≠ p.block) (hl : w0.heap.size ≤ p.block) : Cu (w.setCell p u) b w0 v xs := by
  obtain ⟨⟨i, hh, hx, hi, hw⟩, old, bel, lo, sz⟩ := h
  exact ⟨⟨i, hh, hx.far p u hp, hi, hw⟩, old, below_set bel p u hl, lo, sz⟩
theorem wrap64_in (a : Int) : inI64 (wrap64 a) := by
  have := wrap64_wf a
  simp only [Lit.wf, IntKind.min, IntKind.max, IntKind.signed, IntKind.bits, Bool.and_eq_true, decide_eq_true_eq, if_true] at this
  unfold inI64; omega
theorem grown_drewN {a b : World} {r : Option Nat} (h : a.grownBy b r) (n : Nat) : a.grownBy (b.drewN n) r := ⟨h.os, h.tape, h.output, h.size, h.block⟩
theorem and255 (a : Int) : ∃ x : Nat, bits .and .i64 a 255 = (x : Int) ∧ (x : Int) ≤ 255 := by
  have h : (BitVec.ofInt 64 a &&& BitVec.ofInt 64 255).toNat ≤ 255 := by
    rw [BitVec.toNat_and]
    exact Nat.le_trans Nat.and_le_right (by decide)
  refine ⟨(BitVec.ofInt 64 a &&& BitVec.ofInt 64 255).toNat, ?_, by omega⟩
  show IntKind.i64.wrap ((BitVec.ofInt 64 a &&& BitVec.ofInt 64 255).toNat : Int) = _
  rw [IntKind.wrap_i64]; omega

set_option maxRecDepth 100000 in
set_option maxHeartbeats 800000 in
theorem l1Byte_any (b : Nat) (w0 : World) (v : Value) (xs : List UInt8) (w : World) (h : Cu w b w0 v xs) :
    Calls Try.prog 137 #[.pointer (some ⟨b, 0, none⟩)] w fun e w' => ∃ x : Nat, e = .returned (.int .i64 x) ∧ (x : Int) ≤ 255 ∧ Cu w' b w0 v xs ∧ w.grownBy w' (some b) := by
  obtain ⟨⟨i, hh, hb, hi, hw⟩, old, bel, lo, sz⟩ := h
  obtain ⟨ao, cap, rfl, hlc, hcm, hsh⟩ := (old.below bel).shape
  have c0 : w.cell? ⟨b, 0, none⟩ = some (.slice ao xs.length cap) := hb.cell 0 _ rfl
  have c1 : w.cell? ⟨b, 1, none⟩ = some (.int .i64 i) := hb.cell 1 _ rfl
  have c2 : w.cell? ⟨b, 2, none⟩ = some (.int .i64 hh) := hb.cell 2 _ rfl
  have zf := hb.frozen
  have zl := hb.lt
  have hwr := wrap64_in (wrap64 (hh * 6364136223846793005) + 1442695040888963407)
  by_cases hlt : i < xs.length
  · go_enter Try.func137, Try.ntmps137
    go_wp2
    generalize wrap64 (wrap64 (hh * 6364136223846793005) + 1442695040888963407) = H at *
    have B1 : Bx (w.setCell ⟨b, 2, none⟩ (.int .i64 H)) b #[.slice ao xs.length cap, .int .i64 i, .int .i64 H] := hb.set 2 _
    have g1 : w.grownBy (w.setCell ⟨b, 2, none⟩ (.int .i64 H)) (some b) := touch_set (World.grownBy.refl _ _) 2 _
    generalize w.setCell ⟨b, 2, none⟩ (.int .i64 H) = w1 at *
    have d0 : w1.cell? ⟨b, 0, none⟩ = some (.slice ao xs.length cap) := B1.cell 0 _ rfl
    have d1 : w1.cell? ⟨b, 1, none⟩ = some (.int .i64 i) := B1.cell 1 _ rfl
    have d2 : w1.cell? ⟨b, 2, none⟩ = some (.int .i64 H) := B1.cell 2 _ rfl
    clear c0 c1 c2 zf zl
    go_quiet (fail)
    obtain ⟨x, hx, hx2⟩ := and255 (bits BinOp.xor IntKind.i64 (H / 8589934592) (H / 35184372088832))
    rw [hx]
    have B2 := B1.below (below_drewN (Below.refl _ w1) nq)
    have g2 := grown_drewN g1 nq
    generalize w1.drewN nq = w2 at *
    have e0 : w2.cell? ⟨b, 0, none⟩ = some (.slice ao xs.length cap) := B2.cell 0 _ rfl
    have e1 : w2.cell? ⟨b, 1, none⟩ = some (.int .i64 i) := B2.cell 1 _ rfl
    have zf := B2.frozen
    have zl := B2.lt
    clear d0 d1 d2 hx
    have hil : (i : Int) < xs.length := by omega
    obtain ⟨gb, off, rfl, hgl, hcell⟩ := hsh (by omega)
    have ce : w.cell? ⟨gb, off + i, none⟩ = some (.int .u8 (xs[i].toNat : Int)) := by
      have := hcell i hlt 0 (B xs[i]) rfl
      rwa [Nat.mul_one, Nat.add_zero] at this
    have hgb : gb < w0.heap.size := by
      obtain ⟨ao2, cap2, h2, _, _, hs2⟩ := old.shape
      obtain ⟨b2, o2, h3, h4, _⟩ := hs2 (by omega)
      simp only [Value.slice.injEq] at h2
      rw [h3] at h2
      have := Option.some.inj h2.1
      simp only [Addr.mk.injEq] at this
      omega
    have ce2 : w2.cell? ⟨gb, off + i, none⟩ = some (.int .u8 (xs[i].toNat : Int)) := by
      exact ((gcell g2 (b := gb) (by have := bel.size; omega) (by intro e; have := Option.some.inj e; omega)).1 _).trans ce
    go_wp2
    go_quiet (fail)
    have B3 := B2.below (below_drewN (Below.refl _ w2) nq)
    have g3 := grown_drewN g2 nq
    have ce3 : (w2.drewN nq).cell? ⟨gb, off + i, none⟩ = some (.int .u8 (xs[i].toNat : Int)) := ce2
    generalize w2.drewN nq = w3 at *
    have y0 : w3.cell? ⟨b, 0, none⟩ = some (.slice (some ⟨gb, off, none⟩) xs.length cap) := B3.cell 0 _ rfl
    have y1 : w3.cell? ⟨b, 1, none⟩ = some (.int .i64 i) := B3.cell 1 _ rfl
    clear e0 e1 zf zl ce ce2
    go_wp2
    go_quiet (fail)
    obtain ⟨y, hy, hy2⟩ := and255 (wrap64 ((x : Int) + wrap64 (xs[i].toNat : Int)))
    rw [hy]
    clear hy
    have B4 := B3.below (below_drewN (Below.refl _ w3) nq)
    have g4 := grown_drewN g3 nq
    generalize w3.drewN nq = w4 at *
    clear y0 y1 ce3
    have e1 : w4.cell? ⟨b, 1, none⟩ = some (.int .i64 i) := B4.cell 1 _ rfl
    have zf := B4.frozen
    have zl := B4.lt
    have W1 : IntKind.i64.wrap ((i : Int) + 1) = (i : Int) + 1 := by rw [IntKind.wrap_i64]; omega
    go_wp2
    go_ret
    exact ⟨y, rfl, hy2, ⟨⟨i + 1, H, B4.set 1 (.int .i64 ((i : Int) + 1)), hlt, hwr⟩, old, bel.grown (touch_set g4 1 _) bel.size (fun k e => by have := Option.some.inj e; omega), lo, sz⟩, touch_set g4 1 _⟩
  · go_enter Try.func137, Try.ntmps137
    go_wp2
    generalize wrap64 (wrap64 (hh * 6364136223846793005) + 1442695040888963407) = H at *
    have B1 : Bx (w.setCell ⟨b, 2, none⟩ (.int .i64 H)) b #[.slice ao xs.length cap, .int .i64 i, .int .i64 H] := hb.set 2 _
    have g1 : w.grownBy (w.setCell ⟨b, 2, none⟩ (.int .i64 H)) (some b) := touch_set (World.grownBy.refl _ _) 2 _
    generalize w.setCell ⟨b, 2, none⟩ (.int .i64 H) = w1 at *
    have d0 : w1.cell? ⟨b, 0, none⟩ = some (.slice ao xs.length cap) := B1.cell 0 _ rfl
    have d1 : w1.cell? ⟨b, 1, none⟩ = some (.int .i64 i) := B1.cell 1 _ rfl
    have d2 : w1.cell? ⟨b, 2, none⟩ = some (.int .i64 H) := B1.cell 2 _ rfl
    clear c0 c1 c2 zf zl
    go_quiet (fail)
    obtain ⟨x, hx, hx2⟩ := and255 (bits BinOp.xor IntKind.i64 (H / 8589934592) (H / 35184372088832))
    rw [hx]
    have B2 := B1.below (below_drewN (Below.refl _ w1) nq)
    have g2 := grown_drewN g1 nq
    generalize w1.drewN nq = w2 at *
    have e0 : w2.cell? ⟨b, 0, none⟩ = some (.slice ao xs.length cap) := B2.cell 0 _ rfl
    have e1 : w2.cell? ⟨b, 1, none⟩ = some (.int .i64 i) := B2.cell 1 _ rfl
    have zf := B2.frozen
    have zl := B2.lt
    clear d0 d1 d2 hx
    have hil : ¬ (i : Int) < xs.length := by omega
    go_wp2
    go_quiet (fail)
    go_wp2
    go_ret
    exact ⟨x, rfl, hx2, ⟨⟨i, H, B2.below (below_drewN (Below.refl _ w2) _), hi, hwr⟩, old, bel.grown (grown_drewN g2 _) bel.size (fun k e => by have := Option.some.inj e; omega), lo, sz⟩, grown_drewN g2 _⟩
end Go.Proofs.Ytfbbdnicplbmdaa
/- Walks: the draws' helpers: a number below another one, once in n, one of a list. -/
set_option linter.unusedVariables false
set_option linter.unusedSimpArgs false
namespace Go.Proofs.Ytfbbdnicplbmdaa
open Go.RowKit Sp Go.Sort
theorem grown2 {a b c : World} {r : Option Nat} (h : a.grownBy b r) (k : b.grownBy c r) : a.grownBy c r :=
  ⟨k.os.trans h.os, k.tape.trans h.tape, k.output.trans h.output, Nat.le_trans h.size k.size, fun i hi hne => (k.block i (Nat.lt_of_lt_of_le hi h.size) hne).trans (h.block i hi hne)⟩
theorem wrap_small (s : Nat) (h : (s : Int) ≤ 4611686018427387904) : wrap64 (s : Int) = s := by unfold wrap64; omega
theorem wrap_i64_small (s : Nat) (h : (s : Int) ≤ 4611686018427387904) : IntKind.i64.wrap (s : Int) = s := by rw [IntKind.wrap_i64]; omega
theorem combI (x y z u : Int) (hx : 0 ≤ x ∧ x ≤ 255) (hy : 0 ≤ y ∧ y ≤ 255) (hz : 0 ≤ z ∧ z ≤ 255) (hu : 0 ≤ u ∧ u ≤ 255) :
    0 ≤ x * 16777216 + y * 65536 + z * 256 + u ∧ x * 16777216 + y * 65536 + z * 256 + u ≤ 4611686018427387904 ∧
    IntKind.i64.wrap (x * 16777216) = x * 16777216 ∧ IntKind.i64.wrap (y * 65536) = y * 65536 ∧ IntKind.i64.wrap (z * 256) = z * 256 ∧
    IntKind.i64.wrap (x * 16777216 + y * 65536) = x * 16777216 + y * 65536 ∧ IntKind.i64.wrap (x * 16777216 + y * 65536 + z * 256) = x * 16777216 + y * 65536 + z * 256 := by
  simp only [IntKind.wrap_i64]
  omega
theorem comb (x y z u : Nat) (hx : (x : Int) ≤ 255) (hy : (y : Int) ≤ 255) (hz : (z : Int) ≤ 255) (hu : (u : Int) ≤ 255) :
    ∃ s : Nat, (x : Int) * 16777216 + (y : Int) * 65536 + (z : Int) * 256 + (u : Int) = (s : Int) ∧ (s : Int) ≤ 4611686018427387904 ∧
    IntKind.i64.wrap ((x : Int) * 16777216) = (x : Int) * 16777216 ∧ IntKind.i64.wrap ((y : Int) * 65536) = (y : Int) * 65536 ∧ IntKind.i64.wrap ((z : Int) * 256) = (z : Int) * 256 ∧
    IntKind.i64.wrap ((x : Int) * 16777216 + (y : Int) * 65536) = (x : Int) * 16777216 + (y : Int) * 65536 ∧ IntKind.i64.wrap ((x : Int) * 16777216 + (y : Int) * 65536 + (z : Int) * 256) = (x : Int) * 16777216 + (y : Int) * 65536 + (z : Int) * 256 := by
  obtain ⟨h1, h2, h3⟩ := combI x y z u ⟨Int.natCast_nonneg _, hx⟩ ⟨Int.natCast_nonneg _, hy⟩ ⟨Int.natCast_nonneg _, hz⟩ ⟨Int.natCast_nonneg _, hu⟩
  obtain ⟨s, hs⟩ := Int.eq_ofNat_of_zero_le h1
  exact ⟨s, hs, by rw [← hs]; exact h2, h3⟩
theorem tmod_nat (x m : Nat) : Int.tmod (x : Int) (m : Int) = ((x % m : Nat) : Int) := rfl

set_option maxRecDepth 100000 in
set_option maxHeartbeats 800000 in
theorem l1Below_any (b : Nat) (w0 : World) (v : Value) (xs : List UInt8) (n : Int) (hn : n ≤ 4611686018427387904) (w : World) (h : Cu w b w0 v xs) :
    Calls Try.prog 66 #[.pointer (some ⟨b, 0, none⟩), .int .i64 n] w fun e w' => ∃ x : Nat, e = .returned (.int .i64 x) ∧ (0 < n → (x : Int) < n) ∧ (n ≤ 0 → x = 0) ∧ Cu w' b w0 v xs ∧ w.grownBy w' (some b) := by
  by_cases h0 : n ≤ 0
  · go_enter Try.func66, Try.ntmps66
    go_wp2
    go_ret
    exact ⟨0, rfl, fun h => by omega, fun _ => rfl, h, World.grownBy.refl _ _⟩
  · obtain ⟨m, rfl⟩ : ∃ m : Nat, n = (m : Int) := ⟨n.toNat, by omega⟩
    have hm : (m : Int) ≠ 0 := by omega
    by_cases h1 : (m : Int) ≤ 256
    · go_enter Try.func66, Try.ntmps66
      go_wp2_with fail
      refine (l1Byte_any b w0 v xs _ h).mono ?_
      rintro e w1 ⟨x, rfl, hx, c1, g1⟩
      have HT := tmod_nat x m
      have hlt : x % m < m := Nat.mod_lt _ (by omega)
      generalize x % m = r at *
      go_wp2
      go_ret
      exact ⟨r, rfl, fun _ => by omega, fun h => by omega, c1, g1⟩
    · go_enter Try.func66, Try.ntmps66
      go_wp2_with fail
      refine (l1Byte_any b w0 v xs _ h).mono ?_
      rintro e w1 ⟨x, rfl, hx, c1, g1⟩
      go_wp2_with fail
      refine (l1Byte_any b w0 v xs _ c1).mono ?_
      rintro e w2 ⟨y, rfl, hy, c2, g2⟩
      go_wp2_with fail
      refine (l1Byte_any b w0 v xs _ c2).mono ?_
      rintro e w3 ⟨z, rfl, hz, c3, g3⟩
      go_wp2_with fail
      refine (l1Byte_any b w0 v xs _ c3).mono ?_
      rintro e w4 ⟨u, rfl, hu, c4, g4⟩
      obtain ⟨s, hs, hs2, W1, W2, W3, W4, W5⟩ := comb x y z u hx hy hz hu
      have W6 := wrap_i64_small s hs2
      have W7 := wrap_small s hs2
      have HT := tmod_nat s m
      have hlt : s % m < m := Nat.mod_lt _ (by omega)
      generalize s % m = r at *
      go_wp2
      go_ret
      exact ⟨r, rfl, fun _ => by omega, fun h => by omega, c4, grown2 (grown2 (grown2 g1 g2) g3) g4⟩

set_option maxRecDepth 100000 in
set_option maxHeartbeats 800000 in
theorem l1Once_any (b : Nat) (w0 : World) (v : Value) (xs : List UInt8) (n : Int) (hn : n ≤ 4611686018427387904) (w : World) (h : Cu w b w0 v xs) :
    Calls Try.prog 88 #[.pointer (some ⟨b, 0, none⟩), .int .i64 n] w fun e w' => ∃ x : Bool, e = .returned (.bool x) ∧ Cu w' b w0 v xs ∧ w.grownBy w' (some b) := by
  go_enter Try.func88, Try.ntmps88
  go_wp2_with fail
  refine (l1Below_any b w0 v xs n hn _ h).mono ?_
  rintro e w1 ⟨x, rfl, _, _, c1, g1⟩
  go_wp2
  go_ret
  exact ⟨_, rfl, c1, g1⟩

theorem lit_slT {α : Type} (enc : α → List Value) (cs : Array Value) (l : List α) (n : Nat) (W : World) (T : TypeId) (hl : (l.map enc).flatten = cs.toList) (h1 : ∀ x, (enc x).length = 1) (hc : cs.size = n * 1) (hn : n ≤ 1000) : SlT enc 1 (W.alloc (.cells cs T)) (.slice (some ⟨W.heap.size, 0, none⟩) n n) l := by
  have h := World.ownsRow_lit (base := W.heap.size) (e := T) (size := 1) W cs n (Nat.le_refl _) (by simp only [maxLen]; omega) hc
  rw [← hl] at h
  exact SlT.of_own h h1 (by decide)
/-- One of a list of numbers. -/
def intC (x : Int) : List Value := [.int .i64 x]
set_option maxRecDepth 100000 in
set_option maxHeartbeats 800000 in
theorem l1PickInt_any (b : Nat) (w0 : World) (v : Value) (xs : List UInt8) (w : World) (h : Cu w b w0 v xs) (vl : Value) (l : List Int) (hl : SlT intC 1 w vl l) (hb : ∀ a n c, vl = .slice (some a) n c → 0 < n → a.block ≠ b) (h0 : 0 < l.length) (hl2 : (l.length : Int) ≤ 1000) :
    Calls Try.prog 120 #[.pointer (some ⟨b, 0, none⟩), vl] w fun e w' => ∃ x, x ∈ l ∧ e = .returned (.int .i64 x) ∧ Cu w' b w0 v xs ∧ w.grownBy w' (some b) := by
  obtain ⟨ao, cap, rfl, hlc, hcm, hsh⟩ := hl.shape
  go_enter Try.func120, Try.ntmps120
  go_wp2_with fail
  refine (l1Below_any b w0 v xs (l.length : Int) (by omega) _ h).mono ?_
  rintro e w1 ⟨k, rfl, hk, _, c1, g1⟩
  have hk := hk (by omega)
  have hkl : k < l.length := by omega
  obtain ⟨gb, off, rfl, hgl, hcell⟩ := hsh h0
  have ce : w1.cell? ⟨gb, off + k, none⟩ = some (.int .i64 l[k]) := by
    have := hcell k hkl 0 (.int .i64 l[k]) rfl
    rw [Nat.mul_one, Nat.add_zero] at this
    exact ((gcell g1 (b := gb) hgl (by intro e; exact hb _ _ _ rfl h0 (Option.some.inj e).symm)).1 _).trans this
  go_wp2
  go_ret
  exact ⟨_, List.getElem_mem hkl, rfl, c1, g1⟩

set_option maxRecDepth 100000 in
set_option maxHeartbeats 800000 in
theorem l1Pick_any (b : Nat) (w0 : World) (v : Value) (xs : List UInt8) (w : World) (h : Cu w b w0 v xs) (vl : Value) (l : List ByteArray) (hl : SlT strCells 1 w vl l) (hb : ∀ a n c, vl = .slice (some a) n c → 0 < n → a.block ≠ b) (h0 : 0 < l.length) (hl2 : (l.length : Int) ≤ 1000) :
    Calls Try.prog 136 #[.pointer (some ⟨b, 0, none⟩), vl] w fun e w' => ∃ x, x ∈ l ∧ e = .returned (.string x) ∧ Cu w' b w0 v xs ∧ w.grownBy w' (some b) := by
  obtain ⟨ao, cap, rfl, hlc, hcm, hsh⟩ := hl.shape
  go_enter Try.func136, Try.ntmps136
  go_wp2_with fail
  refine (l1Below_any b w0 v xs (l.length : Int) (by omega) _ h).mono ?_
  rintro e w1 ⟨k, rfl, hk, _, c1, g1⟩
  have hk := hk (by omega)
  have hkl : k < l.length := by omega
  obtain ⟨gb, off, rfl, hgl, hcell⟩ := hsh h0
  have ce : w1.cell? ⟨gb, off + k, none⟩ = some (.string l[k]) := by
    have := hcell k hkl 0 (.string l[k]) rfl
    rw [Nat.mul_one, Nat.add_zero] at this
    exact ((gcell g1 (b := gb) hgl (by intro e; exact hb _ _ _ rfl h0 (Option.some.inj e).symm)).1 _).trans this
  go_wp2
  go_ret
  exact ⟨_, List.getElem_mem hkl, rfl, c1, g1⟩
end Go.Proofs.Ytfbbdnicplbmdaa
/- Walks: the draws' text, and a new cursor. -/
set_option linter.unusedVariables false
set_option linter.unusedSimpArgs false
namespace Go.Proofs.Ytfbbdnicplbmdaa
open Go.RowKit Sp Go.Sort
/-- What grows a block of one's own, or lays new ones, leaves the rest alone. -/
theorem grown_own {w a c : World} {b : Nat} {r : Option Nat} (h : w.grownBy a (some b)) (k : a.grownBy c r) (hr : ∀ g, r = some g → w.heap.size ≤ g) : w.grownBy c (some b) :=
  ⟨k.os.trans h.os, k.tape.trans h.tape, k.output.trans h.output, Nat.le_trans h.size k.size, fun i hi hne => (k.block i (Nat.lt_of_lt_of_le hi h.size) (fun e => by have := hr i e.symm; omega)).trans (h.block i hi hne)⟩
theorem grown_below {w a c : World} {r : Option Nat} (h : w.grownBy a r) (k : Below a.heap.size a c) : w.grownBy c r :=
  ⟨k.os.trans h.os, k.tape.trans h.tape, k.output.trans h.output, Nat.le_trans h.size k.size, fun i hi hne => (k.block i (Nat.lt_of_lt_of_le hi h.size)).trans (h.block i hi hne)⟩
theorem Cu.old_le {w : World} {b : Nat} {w0 : World} {v : Value} {xs : List UInt8} (h : Cu w b w0 v xs) : w0.heap.size ≤ w.heap.size := h.bel.size

theorem own_slD {w : World} {base e size n : Nat} {v : Value} {xs : List Value} (h : w.ownsRow base e size v n xs) (hn : 0 < n) : ∃ g cap, v = .slice (some ⟨g, 0, none⟩) n cap := by
  rcases h.2 with ⟨_, h0⟩ | ⟨g, cap, cur, hv, _⟩
  · omega
  · exact ⟨g, cap, hv⟩
theorem own_form {w : World} {base e size n : Nat} {v : Value} {xs : List Value} (h : w.ownsRow base e size v n xs) : ∃ ao cp, v = .slice ao n cp := by
  rcases h.2 with ⟨h1, h2⟩ | ⟨g, cap, cur, hv, _⟩
  · exact ⟨none, 0, by rw [h1, h2]⟩
  · exact ⟨_, cap, hv⟩
theorem own_byte {w : World} {base e n : Nat} {v : Value} {l : List UInt8} {z : Int} (h : w.ownsRow base e 1 v n (l.map B ++ #[Value.int .u8 z].toList)) (hz : 0 ≤ z ∧ z ≤ 255) : w.ownsRow base e 1 v n ((l ++ [UInt8.ofNat z.toNat]).map B) := by
  rw [List.map_append, List.map_singleton, B_ofNat, Int.toNat_of_nonneg hz.1, Int.emod_eq_of_lt hz.1 (by omega)]
  exact h

set_option maxRecDepth 100000 in
set_option maxHeartbeats 800000 in
theorem l1Text_any (b : Nat) (w0 : World) (v : Value) (xs : List UInt8) (most : Nat) (hm : (most : Int) ≤ 1000) (w : World) (h : Cu w b w0 v xs) :
    Calls Try.prog 151 #[.pointer (some ⟨b, 0, none⟩), .int .i64 most] w fun e w' => ∃ t : ByteArray, e = .returned (.string t) ∧ (t.size : Int) ≤ most ∧ Cu w' b w0 v xs ∧ w.grownBy w' (some b) := by
  have hlt := h.lt
  have hle := h.old_le
  have hal : ∀ (W : World) (o : Obj), RowKit.Below W.heap.size W (W.alloc o) := fun W o => (Below.refl _ _).alloc (Nat.le_refl _) _
  have h0 : (w.alloc (.cells #[] 5)).ownsRow w.heap.size 5 1 (.slice (some ⟨w.heap.size, 0, none⟩) 0 0) 0 (([] : List UInt8).map B) := World.ownsRow_lit w #[] 0 (Nat.le_refl _) (by simp [maxLen]) rfl
  have c0 := h.below (hal w (.cells #[] 5))
  have g0 := grown_below (World.grownBy.refl w (some b)) (hal w (.cells #[] 5))
  have M1 : IntKind.i64.wrap ((most : Int) + 1) = (most : Int) + 1 := by rw [IntKind.wrap_i64]; omega
  go_enter Try.func151, Try.ntmps151
  go_wp2_with fail
  refine (l1Below_any b w0 v xs 4 (by decide) _ c0).mono ?_
  rintro e w1 ⟨st, rfl, hst, _, c1, g1⟩
  have o1 := own_grown h0 g1 (fun k hk e => by have := (h0.lt _ hk).1; have := Option.some.inj e; omega)
  have q1 := grown2 g0 g1
  go_wp2_with fail
  refine (l1Below_any b w0 v xs ((most : Int) + 1) (by omega) _ c1).mono ?_
  rintro e w2 ⟨n0, rfl, hn0, _, c2, g2⟩
  have o2 := own_grown o1 g2 (fun k hk e => by have := (o1.lt _ hk).1; have := Option.some.inj e; omega)
  have q2 := grown2 q1 g2
  have hn0 := hn0 (by omega)
  have hst := hst (by decide)
  clear h0 c0 g0 c1 g1 o1 q1 g2
  go_wp2_with fail
  go_loopw [5, 7] (fun o n wr => ∃ (r : Nat) (l : List UInt8) (kk : Nat), n = .int .i64 r ∧ RowKit.Hid (l.length = kk) ∧ wr.ownsRow w.heap.size 5 1 o kk (l.map B) ∧ kk + r ≤ most ∧ Cu wr b w0 v xs ∧ w.grownBy wr (some b)) (fun _ n _ => (intOf n).toNat)
  case atStart => exact ⟨n0, [], 0, rfl, rfl, o2, by omega, c2, q2⟩
  case round =>
    clear o2 c2 q2
    obtain ⟨r, l, kk, rfl, hkl, ho, hr, c3, q3⟩ := hrel
    by_cases hr0 : 0 < r
    · have R1 : IntKind.i64.wrap ((r : Int) - 1) = ((r - 1 : Nat) : Int) := by rw [IntKind.wrap_i64]; omega
      go_wp2_with fail
      refine (l1Byte_any b w0 v xs _ c3).mono ?_
      rintro e w4 ⟨x, rfl, hx, c4, g4⟩
      have o4 := own_grown ho g4 (fun k hk e => by have := (ho.lt _ hk).1; have := Option.some.inj e; omega)
      have q4 := grown2 q3 g4
      have T2 := tmod_nat x 2
      have T4 := tmod_nat x 4
      rcases (by omega : st = 1 ∨ st = 2 ∨ (st ≠ 1 ∧ st ≠ 2)) with rfl | rfl | ⟨s1, s2⟩
      · skip
        go_wp2_with (at_builtin; go_loud (refine app_new rfl rfl Try.underlying22 info_u8 rfl (by decide) o4 rfl 1 (by simp [Act.eval]) rfl (by simp [Value.oneCell']) (by omega) (Below.refl w.heap.size w4) (Nat.le_refl _) q4.size ?_; intro v8 w8 r8 x8 g8))
        have c8 := c4.grown g8 (fun e => by have := (o4.lt _ e).1; omega) (fun k e => by have := (o4.lt _ e).1; omega)
        have q8 := grown_own q4 g8 (fun k e => (o4.lt _ e).1)
        have r9 := own_byte r8 (by omega)
        obtain ⟨gg, cap, rfl⟩ := own_slD r9 (by omega)
        go_roundw
        case rel => exact ⟨r - 1, rfl, l ++ [UInt8.ofNat ((x : Int) % 2 : Int).toNat], kk + 1, (by rw [List.length_append, hkl.out]; rfl), r9, by omega, c8, q8⟩
        case measure => simp [intOf]; omega
      · skip
        go_wp2_with (at_builtin; go_loud (refine app_new rfl rfl Try.underlying22 info_u8 rfl (by decide) o4 rfl 1 (by simp [Act.eval]) rfl (by simp [Value.oneCell']) (by omega) (Below.refl w.heap.size w4) (Nat.le_refl _) q4.size ?_; intro v8 w8 r8 x8 g8))
        have c8 := c4.grown g8 (fun e => by have := (o4.lt _ e).1; omega) (fun k e => by have := (o4.lt _ e).1; omega)
        have q8 := grown_own q4 g8 (fun k e => (o4.lt _ e).1)
        have r9 := own_byte r8 (by omega)
        obtain ⟨gg, cap, rfl⟩ := own_slD r9 (by omega)
        go_roundw
        case rel => exact ⟨r - 1, rfl, l ++ [UInt8.ofNat (97 + (x : Int) % 4 : Int).toNat], kk + 1, (by rw [List.length_append, hkl.out]; rfl), r9, by omega, c8, q8⟩
        case measure => simp [intOf]; omega
      · have s1' : ¬ (st : Int) = 1 := by omega
        have s2' : ¬ (st : Int) = 2 := by omega
        go_wp2_with (at_builtin; go_loud (refine app_new rfl rfl Try.underlying22 info_u8 rfl (by decide) o4 rfl 1 (by simp [Act.eval]) rfl (by simp [Value.oneCell']) (by omega) (Below.refl w.heap.size w4) (Nat.le_refl _) q4.size ?_; intro v8 w8 r8 x8 g8))
        have c8 := c4.grown g8 (fun e => by have := (o4.lt _ e).1; omega) (fun k e => by have := (o4.lt _ e).1; omega)
        have q8 := grown_own q4 g8 (fun k e => (o4.lt _ e).1)
        have r9 := own_byte r8 (by omega)
        obtain ⟨gg, cap, rfl⟩ := own_slD r9 (by omega)
        go_roundw
        case rel => exact ⟨r - 1, l ++ [UInt8.ofNat ((x : Int) : Int).toNat], kk + 1, rfl, (by rw [List.length_append, hkl.out]; rfl), r9, by omega, c8, q8⟩
        case measure => simp [intOf]; omega
    · obtain rfl : r = 0 := by omega
      have kc := conv_owns (P := Try.prog) (dst := 9) ho Try.underlying22 Try.underlying5 Try.underlying9
      go_wp2
      go_ret
      exact ⟨str l, rfl, by rw [str_size]; have := hkl.out; omega, c3, q3⟩

theorem and_in (a c : Int) : inI64 (bits .and .i64 a c) := by
  show inI64 (IntKind.i64.wrap _)
  rw [IntKind.wrap_i64]
  unfold inI64; omega
set_option maxRecDepth 100000 in
set_option maxHeartbeats 800000 in
theorem l1New_any (v : Value) (xs : List UInt8) (w : World) (h : SlT bytC 1 w v xs) (hs : (xs.length : Int) ≤ 1048576) :
    Calls Try.prog 63 #[v] w fun e w' => ∃ b, e = .returned (.pointer (some ⟨b, 0, none⟩)) ∧ Cu w' b w v xs ∧ Below w.heap.size w w' := by
  obtain ⟨ao, cap, rfl, hlc, hcm, hsh⟩ := h.shape
  have hal : ∀ (W : World) (o : Obj), RowKit.Below W.heap.size W (W.alloc o) := fun W o => (Below.refl _ _).alloc (Nat.le_refl _) _
  go_enter Try.func63, Try.ntmps63
  go_wp2
  go_loopw [3, 4] (fun hv i wr => ∃ (k : Nat) (z : Int), hv = .int .i64 z ∧ inI64 z ∧ i = .int .i64 k ∧ k ≤ xs.length ∧ (k : Int) ≤ 4000 ∧ wr = w) (fun _ i _ => 4000 - (intOf i).toNat)
  case atStart => exact ⟨0, 10101 + xs.length, rfl, ⟨by omega, by omega⟩, rfl, by omega, by omega, rfl⟩
  case round =>
    obtain ⟨k, z, rfl, hz, rfl, hk, hk4, rfl⟩ := hrel
    by_cases hgo : k < xs.length ∧ k < 4000
    · obtain ⟨g1, g2⟩ := hgo
      obtain ⟨gb, off, rfl, hgl, hcell⟩ := hsh (by omega)
      have ce : wr.cell? ⟨gb, off + k, none⟩ = some (.int .u8 (xs[k].toNat : Int)) := by
        have := hcell k g1 0 (B xs[k]) rfl
        rwa [Nat.mul_one, Nat.add_zero] at this
      have K1 : IntKind.i64.wrap ((k : Int) + 1) = ((k + 1 : Nat) : Int) := by rw [IntKind.wrap_i64]; omega
      go_wp2
      go_roundw
      case rel => exact ⟨k + 1, _, rfl, and_in _ _, by go_num, g1, by omega, trivial⟩
      case measure => simp [intOf]; omega
    · have hgo2 : (k : Int) < xs.length → ¬ (k : Int) < 4000 := fun h1 h2 => hgo ⟨by omega, by omega⟩
      go_wp2
      all_goals
        go_ret
        exact ⟨_, rfl, ⟨⟨0, z, Bx.new wr _ _, Nat.zero_le _, hz⟩, h, hal _ _, Nat.le_refl _, hs⟩, hal _ _⟩
end Go.Proofs.Ytfbbdnicplbmdaa
/- Walk: slices.BinarySearchFunc at Ent with compareEnts. -/
set_option linter.unusedVariables false
set_option linter.unusedSimpArgs false
namespace Go.Proofs.Ytfbbdnicplbmdaa
open Go.RowKit Sp Go.Sort

end Go.Proofs.Ytfbbdnicplbmdaa
/- Walks: l9Put and MemPut of the reference. -/
set_option linter.unusedVariables false
set_option linter.unusedSimpArgs false
namespace Go.Proofs.Ytfbbdnicplbmdaa
open Go.RowKit Sp Go.Sort

theorem ent1 : ∀ x : EntR, ∀ u ∈ EntR.cells x, u.oneCell' = true := by
  intro x u hu
  simp [EntR.cells] at hu
  rcases hu with rfl | rfl | rfl | rfl <;> rfl

set_option maxRecDepth 100000 in
set_option maxHeartbeats 1600000 in
theorem l9Put_any (ad : Option Addr) (cap : Nat) (l : List EntR) (e : EntR) (w : World) (h : SlT EntR.cells 4 w (.slice ad l.length cap) l) (hl : (l.length : Int) ≤ 1048576) :
    Calls Try.prog 188 #[.slice ad l.length cap, .agg #[.string e.key, .int .i64 e.seq, .bool e.del, .string e.val]] w fun r w' => ∃ v', r = .returned v' ∧ w'.ownsRow w.heap.size 30 4 v' (putE l e).length ((putE l e).map EntR.cells).flatten ∧ Below w.heap.size w w' := by
  have t0 : (w.alloc (.cells #[.string e.key, .int .i64 e.seq, .bool e.del, .string e.val] 30)).cell? ⟨w.heap.size, 0, none⟩ = some (.string e.key) := by simp [go_sem]
  have t1 : (w.alloc (.cells #[.string e.key, .int .i64 e.seq, .bool e.del, .string e.val] 30)).cell? ⟨w.heap.size, 1, none⟩ = some (.int .i64 e.seq) := by simp [go_sem]
  have t2 : (w.alloc (.cells #[.string e.key, .int .i64 e.seq, .bool e.del, .string e.val] 30)).cell? ⟨w.heap.size, 2, none⟩ = some (.bool e.del) := by simp [go_sem]
  have t3 : (w.alloc (.cells #[.string e.key, .int .i64 e.seq, .bool e.del, .string e.val] 30)).cell? ⟨w.heap.size, 3, none⟩ = some (.string e.val) := by simp [go_sem]
  have hal : RowKit.Below w.heap.size w (w.alloc (.cells #[.string e.key, .int .i64 e.seq, .bool e.del, .string e.val] 30)) := (Below.refl _ _).alloc (Nat.le_refl _) _
  have hsz : (w.alloc (.cells #[.string e.key, .int .i64 e.seq, .bool e.del, .string e.val] 30)).heap.size = w.heap.size + 1 := by simp
  have hple := posE_le l e
  go_enter Try.func188, Try.ntmps188
  go_upto_region 1 with fail
  generalize (w.alloc (.cells #[.string e.key, .int .i64 e.seq, .bool e.del, .string e.val] 30)) = W at *
  go_wp2
  have oZ : (W.alloc (.cells #[] 30)).ownsRow (w.heap.size + 1) 30 4 (.slice (some ⟨w.heap.size + 1, 0, none⟩) 0 0) 0 [] := own0 hsz (Nat.le_refl _)
  have bZ : RowKit.Below (w.heap.size + 1) W (W.alloc (.cells #[] 30)) := (Below.refl _ _).alloc (by omega) _
  go_loopw [5, 6, 7] (fun o p i wr => ∃ (k : Nat) (b : Bool), k ≤ l.length ∧ i = .int .i64 k ∧ p = .bool b ∧ Hid (b = decide (posE l e < k)) ∧ wr.ownsRow (w.heap.size + 1) 30 4 o (outG l e (posE l e) k).length ((outG l e (posE l e) k).map EntR.cells).flatten ∧ RowKit.Below (w.heap.size + 1) W wr) (fun _ _ i _ => l.length - (intOf i).toNat)
  case atStart => exact ⟨0, false, by omega, rfl, rfl, Lib.hid (by simp), by simpa [outG] using oZ, bZ⟩
  case round =>
    obtain ⟨k, b, hk, rfl, rfl, HB, hr, hbl⟩ := hrel
    have hb := HB.out
    clear HB
    have hzw := hbl.size
    have hle := outG_le l e (posE l e) k
    obtain ⟨oo, co, rfl⟩ := (Row.of_own hr rfl).form
    by_cases hlt : k < l.length
    · obtain ⟨bo', cp', hv, hlc, hcm, hsh⟩ := h.shape
      obtain ⟨bk, off, hbk, hbs, hcc⟩ := hsh (by omega)
      obtain rfl : ad = some ⟨bk, off, none⟩ := by simp at hv; rw [hbk] at hv; simpa using hv.1
      have kk : ∀ (wz : World), RowKit.Below (w.heap.size + 1) W wz → wz.cell? ⟨bk, off + k * 4, none⟩ = some (.string l[k].key) ∧ wz.cell? ⟨bk, off + k * 4 + 1, none⟩ = some (.int .i64 l[k].seq) ∧ wz.cell? ⟨bk, off + k * 4 + 2, none⟩ = some (.bool l[k].del) ∧ wz.cell? ⟨bk, off + k * 4 + 3, none⟩ = some (.string l[k].val) ∧ wz.cell? ⟨w.heap.size, 0, none⟩ = some (.string e.key) ∧ wz.cell? ⟨w.heap.size, 1, none⟩ = some (.int .i64 e.seq) ∧ wz.cell? ⟨w.heap.size, 2, none⟩ = some (.bool e.del) ∧ wz.cell? ⟨w.heap.size, 3, none⟩ = some (.string e.val) := fun wz hz => by
        have hz1 := (bcellB hz).1
        exact ⟨(hz1 bk _ (by omega)).trans ((hal.cell (p := ⟨bk, off + k * 4, none⟩) hbs).trans (hcc k hlt 0 _ rfl)), (hz1 bk _ (by omega)).trans ((hal.cell (p := ⟨bk, off + k * 4 + 1, none⟩) hbs).trans (hcc k hlt 1 _ rfl)), (hz1 bk _ (by omega)).trans ((hal.cell (p := ⟨bk, off + k * 4 + 2, none⟩) hbs).trans (hcc k hlt 2 _ rfl)), (hz1 bk _ (by omega)).trans ((hal.cell (p := ⟨bk, off + k * 4 + 3, none⟩) hbs).trans (hcc k hlt 3 _ rfl)), (hz1 _ _ (by omega)).trans t0, (hz1 _ _ (by omega)).trans t1, (hz1 _ _ (by omega)).trans t2, (hz1 _ _ (by omega)).trans t3⟩
      obtain ⟨e0, e1, e2, e3, y0, y1, y2, y3⟩ := kk _ hbl
      clear hcc hsh hv hbk t0 t1 t2 t3 oZ bZ
      rcases Nat.lt_trichotomy k (posE l e) with hq | hq | hq
      · obtain rfl : b = false := by rw [hb]; simp; omega
        have hten := posE_lt l e k hlt hq
        have HS := Lib.hid (outG_step (x := e) hlt (by omega : k ≠ posE l e))
        have HQ := Lib.hid hq
        have cE : ∀ d os, Calls Try.prog 177 #[.agg #[.string e.key, .int .i64 e.seq, .bool e.del, .string e.val], .agg #[.string l[k].key, .int .i64 l[k].seq, .bool l[k].del, .string l[k].val]] (grow (redrawn wr d) os) fun e' w'' => e' = .returned (.bool (aheadB e l[k])) ∧ ∃ p : Regrown, w'' = grow (redrawn wr p.d) p.os := fun d os => Calls.regrown_of (l9Ahead_any _ _ _)
        have k0 := cell_regrown e0
        have k1 := cell_regrown e1
        have k2 := cell_regrown e2
        have k3 := cell_regrown e3
        have j0 := cell_regrown y0
        have j1 := cell_regrown y1
        have j2 := cell_regrown y2
        have j3 := cell_regrown y3
        rw [hten] at cE
        clear hb hten hq h
        go_upto_region 6 with fail
        refine wp_region_quiet_below (by kernel_rfl) (by kernel_rfl) ?_
        iterate 8 (go_big_quiet_step (fail))
        go_big_quiet_step (exact cE _ _)
        repeat (go_big_quiet_step (fail))
        refine wpQuiet_nil ?_
        intro w2 hw'
        have bw2 : RowKit.Below wr.heap.size wr w2 := by obtain ⟨p, rfl⟩ := hw'; exact below_regrown _ _ _
        have hb2 := hbl.trans (bw2.mono (show w.heap.size + 1 ≤ wr.heap.size by omega))
        have r2 := own_below hr bw2
        have z2 := bw2.size
        obtain ⟨f0, f1, f2, f3, b0, b1, b2, b3⟩ := kk _ hb2

        clear hw' cE k0 k1 k2 k3 j0 j1 j2 j3 y0 y1 y2 y3 e0 e1 e2 e3
        go_wp2_with (at_builtin; refine app_new_at rfl rfl Try.underlying33 info_Ent rfl (by decide) r2 rfl 1 rfl rfl (by simp [Value.oneCell']) (by omega) hb2 (Nat.le_refl _) (by omega) ?_; intro v3 w3 o3 x3 g3 p3; have z3 := x3.size)
        go_roundw
        case rel => exact ⟨k + 1, false, by omega, by go_num, rfl, Lib.hid (by have := HQ.out; simp; omega), by rw [HS.out]; simpa [EntR.cells] using o3, x3⟩
        case measure => simp [intOf]; omega
      · obtain rfl : b = false := by rw [hb]; simp; omega
        have hten : aheadB e l[k] = true := by
          have := posE_at l e (by omega)
          simpa only [← hq] using this
        have HS := Lib.hid (outG_put (x := e) hlt hq)
        have HQ := Lib.hid hq
        have cE : ∀ d os, Calls Try.prog 177 #[.agg #[.string e.key, .int .i64 e.seq, .bool e.del, .string e.val], .agg #[.string l[k].key, .int .i64 l[k].seq, .bool l[k].del, .string l[k].val]] (grow (redrawn wr d) os) fun e' w'' => e' = .returned (.bool (aheadB e l[k])) ∧ ∃ p : Regrown, w'' = grow (redrawn wr p.d) p.os := fun d os => Calls.regrown_of (l9Ahead_any _ _ _)
        have k0 := cell_regrown e0
        have k1 := cell_regrown e1
        have k2 := cell_regrown e2
        have k3 := cell_regrown e3
        have j0 := cell_regrown y0
        have j1 := cell_regrown y1
        have j2 := cell_regrown y2
        have j3 := cell_regrown y3
        rw [hten] at cE
        clear hb hten hq h
        go_upto_region 6 with fail
        refine wp_region_quiet_below (by kernel_rfl) (by kernel_rfl) ?_
        iterate 8 (go_big_quiet_step (fail))
        go_big_quiet_step (exact cE _ _)
        repeat (go_big_quiet_step (fail))
        refine wpQuiet_nil ?_
        intro w2 hw'
        have bw2 : RowKit.Below wr.heap.size wr w2 := by obtain ⟨p, rfl⟩ := hw'; exact below_regrown _ _ _
        have hb2 := hbl.trans (bw2.mono (show w.heap.size + 1 ≤ wr.heap.size by omega))
        have r2 := own_below hr bw2
        have z2 := bw2.size
        obtain ⟨f0, f1, f2, f3, b0, b1, b2, b3⟩ := kk _ hb2

        clear hw' cE k0 k1 k2 k3 j0 j1 j2 j3 y0 y1 y2 y3 e0 e1 e2 e3
        go_wp2_with (first | (at_builtin; refine app_new_at rfl rfl Try.underlying33 info_Ent rfl (by decide) o3 rfl 1 rfl rfl (by simp [Value.oneCell']) (by omega) x3 (Nat.le_refl _) (by omega) ?_; intro v4 w4 o4 x4 g4 p4; have z4 := x4.size) | (at_builtin; refine app_new_at rfl rfl Try.underlying33 info_Ent rfl (by decide) r2 rfl 1 rfl rfl (by simp [Value.oneCell']) (by omega) hb2 (Nat.le_refl _) (by omega) ?_; intro v3 w3 o3 x3 g3 p3; have z3 := x3.size; obtain ⟨c0, c1, c2, c3, _⟩ := kk _ x3))
        go_roundw
        case rel => exact ⟨k + 1, true, by omega, by go_num, rfl, Lib.hid (by have := HQ.out; simp; omega), by rw [HS.out]; simpa [EntR.cells] using o4, x4⟩
        case measure => simp [intOf]; omega
      · obtain rfl : b = true := by rw [hb]; simp; omega
        have HS := Lib.hid (outG_step (x := e) hlt (by omega : k ≠ posE l e))
        have HQ := Lib.hid hq
        clear hb hq h
        go_upto_region 6 with fail
        refine wp_region_quiet_below (by kernel_rfl) (by kernel_rfl) ?_
        repeat (go_big_quiet_step (fail))
        refine wpQuiet_nil ?_
        intro w2 hw'
        have bw2 : RowKit.Below wr.heap.size wr w2 := by obtain ⟨p, rfl⟩ := hw'; exact below_regrown _ _ _
        have hb2 := hbl.trans (bw2.mono (show w.heap.size + 1 ≤ wr.heap.size by omega))
        have r2 := own_below hr bw2
        have z2 := bw2.size
        obtain ⟨f0, f1, f2, f3, b0, b1, b2, b3⟩ := kk _ hb2

        clear hw' y0 y1 y2 y3 e0 e1 e2 e3
        go_wp2_with (at_builtin; refine app_new_at rfl rfl Try.underlying33 info_Ent rfl (by decide) r2 rfl 1 rfl rfl (by simp [Value.oneCell']) (by omega) hb2 (Nat.le_refl _) (by omega) ?_; intro v3 w3 o3 x3 g3 p3; have z3 := x3.size)
        go_roundw
        case rel => exact ⟨k + 1, true, by omega, by go_num, rfl, Lib.hid (by have := HQ.out; simp; omega), by rw [HS.out]; simpa [EntR.cells] using o3, x3⟩
        case measure => simp [intOf]; omega
    · obtain rfl : k = l.length := by omega
      by_cases hpl : posE l e < l.length
      · obtain rfl : b = true := by rw [hb]; simpa using hpl
        clear hb
        rw [outG_end l e _ hpl] at hr ⊢
        go_wp2
        go_ret
        exact ⟨_, rfl, own_mono hr (by omega), hal.trans (hbl.mono (by omega))⟩
      · obtain rfl : b = false := by rw [hb]; simpa using hpl
        clear hb
        have HE := Lib.hid (outG_last l e _ hple hpl)
        have hz1 := (bcellB hbl).1
        have y0 := (hz1 w.heap.size 0 (by omega)).trans t0
        have y1 := (hz1 w.heap.size 1 (by omega)).trans t1
        have y2 := (hz1 w.heap.size 2 (by omega)).trans t2
        have y3 := (hz1 w.heap.size 3 (by omega)).trans t3
        clear hz1
        go_wp2_with (at_builtin; refine app_new_at rfl rfl Try.underlying33 info_Ent rfl (by decide) hr rfl 1 rfl rfl (by simp [Value.oneCell']) (by omega) hbl (Nat.le_refl _) (by omega) ?_; intro v3 w3 o3 x3 g3 p3; have z3 := x3.size)
        go_ret
        exact ⟨_, rfl, by unfold putE; rw [← HE.out]; simpa [EntR.cells] using own_mono o3 (show w.heap.size ≤ w.heap.size + 1 by omega), hal.trans (x3.mono (by omega))⟩

set_option maxRecDepth 100000 in
set_option maxHeartbeats 800000 in
theorem specMemPut_row (ad : Option Addr) (cap : Nat) (l : List EntR) (e : EntR) (w : World) (h : SlT EntR.cells 4 w (.slice ad l.length cap) l) (hl : (l.length : Int) ≤ 1048576) :
    Calls Try.prog 175 #[.slice ad l.length cap, .agg #[.string e.key, .int .i64 e.seq, .bool e.del, .string e.val]] w fun r w' => ∃ v', r = .returned (.tuple #[v', .bool (putB l e)]) ∧ w'.ownsRow w.heap.size 30 4 v' (memPut l e).length ((memPut l e).map EntR.cells).flatten ∧ Below w.heap.size w w' := by
  have t0 : (w.alloc (.cells #[.string e.key, .int .i64 e.seq, .bool e.del, .string e.val] 30)).cell? ⟨w.heap.size, 0, none⟩ = some (.string e.key) := by simp [go_sem]
  have t1 : (w.alloc (.cells #[.string e.key, .int .i64 e.seq, .bool e.del, .string e.val] 30)).cell? ⟨w.heap.size, 1, none⟩ = some (.int .i64 e.seq) := by simp [go_sem]
  have t2 : (w.alloc (.cells #[.string e.key, .int .i64 e.seq, .bool e.del, .string e.val] 30)).cell? ⟨w.heap.size, 2, none⟩ = some (.bool e.del) := by simp [go_sem]
  have t3 : (w.alloc (.cells #[.string e.key, .int .i64 e.seq, .bool e.del, .string e.val] 30)).cell? ⟨w.heap.size, 3, none⟩ = some (.string e.val) := by simp [go_sem]
  have hal : RowKit.Below w.heap.size w (w.alloc (.cells #[.string e.key, .int .i64 e.seq, .bool e.del, .string e.val] 30)) := (Below.refl _ _).alloc (Nat.le_refl _) _
  have hsz : (w.alloc (.cells #[.string e.key, .int .i64 e.seq, .bool e.del, .string e.val] 30)).heap.size = w.heap.size + 1 := by simp
  rcases hm : memB l with _ | _
  · have HR := Lib.hid (show memPut l e = [] from by simp [memPut, hm])
    have HB := Lib.hid (show putB l e = false from by simp [putB, hm])
    go_enter Try.func175, Try.ntmps175
    go_upto_region 1 with fail
    generalize (w.alloc (.cells #[.string e.key, .int .i64 e.seq, .bool e.del, .string e.val] 30)) = W at *
    go_wp2_with (go_at_call 72; refine (specMemOk _ l _ (h.below hal) hl).mono ?_; rintro r w1 ⟨rfl, b1⟩; rw [hm]; have x1 := hal.trans (b1.mono (by omega)))
    go_wp2
    have oZ : (w1.alloc (.cells #[] 30)).ownsRow w1.heap.size 30 4 (.slice (some ⟨w1.heap.size, 0, none⟩) 0 0) 0 [] := own0 rfl (Nat.le_refl _)
    refine bodyPost_ret (v := .tuple #[.slice (some ⟨w1.heap.size, 0, none⟩) 0 0, .bool false]) (by simp [results, Try.results175, go_sem]) rfl ?_
    rw [HB.out, HR.out]
    exact ⟨_, rfl, own_mono oZ x1.size, x1.alloc x1.size _⟩
  have hln := memB_len hm
  have hpl : ((putE l e).length : Int) ≤ 1048576 := by rw [putE_length]; omega
  rcases hp : memB (putE l e) with _ | _
  · have HR := Lib.hid (show memPut l e = l from by simp [memPut, hm, putB, hp])
    have HB := Lib.hid (show putB l e = false from by simp [putB, hp])
    go_enter Try.func175, Try.ntmps175
    go_upto_region 1 with fail
    generalize (w.alloc (.cells #[.string e.key, .int .i64 e.seq, .bool e.del, .string e.val] 30)) = W at *
    go_wp2_with (go_at_call 72; refine (specMemOk _ l _ (h.below hal) hl).mono ?_; rintro r w1 ⟨rfl, b1⟩; rw [hm]; have x1 := hal.trans (b1.mono (by omega)); have z1 := b1.size; obtain ⟨hc, hf⟩ := bcell b1; have y0 := (hc w.heap.size 0 (by first | omega | (simp <;> omega))).trans t0; have y1 := (hc w.heap.size 1 (by first | omega | (simp <;> omega))).trans t1; have y2 := (hc w.heap.size 2 (by first | omega | (simp <;> omega))).trans t2; have y3 := (hc w.heap.size 3 (by first | omega | (simp <;> omega))).trans t3; clear hc hf)
    go_wp2_with (go_at_call 188; refine (l9Put_any ad cap l e _ (h.below x1) hl).mono ?_; rintro r w2 ⟨v2, rfl, r2, b2⟩; have x2 := x1.trans (b2.mono x1.size); have z2 := b2.size)
    have hS := SlT.of_own (l := putE l e) r2 (fun _ => rfl) (by decide)
    go_upto_region 5 with (go_at_call 72; refine (specMemOk _ (putE l e) _ hS hpl).mono ?_; rintro r w3 ⟨rfl, b3⟩; rw [hp]; have x3 := x2.trans (b3.mono x2.size); have z3 := b3.size)
    have oZ : (w3.alloc (.cells #[] 30)).ownsRow w3.heap.size 30 4 (.slice (some ⟨w3.heap.size, 0, none⟩) 0 0) 0 [] := own0 rfl (Nat.le_refl _)
    have bZ : RowKit.Below w.heap.size w (w3.alloc (.cells #[] 30)) := x3.alloc x3.size _
    go_wp2_with (at_builtin; refine app_recs rfl rfl Try.underlying33 info_Ent rfl (by decide) oZ rfl ad cap (h.below bZ) rfl (fun _ => rfl) ent1 (by omega) bZ (by omega) (by simp <;> omega) ?_; intro v4 w4 o4 x4 g4)
    go_wp2
    refine bodyPost_ret (v := .tuple #[v4, .bool false]) (by simp [results, Try.results175, go_sem]) rfl ?_
    rw [HB.out, HR.out]
    exact ⟨_, rfl, own_mono (base := w3.heap.size) (by simpa using o4) x3.size, x4⟩
  · have HR := Lib.hid (show memPut l e = putE l e from by simp [memPut, hm, putB, hp])
    have HB := Lib.hid (show putB l e = true from by simp [putB, hm, hp])
    go_enter Try.func175, Try.ntmps175
    go_upto_region 1 with fail
    generalize (w.alloc (.cells #[.string e.key, .int .i64 e.seq, .bool e.del, .string e.val] 30)) = W at *
    go_wp2_with (go_at_call 72; refine (specMemOk _ l _ (h.below hal) hl).mono ?_; rintro r w1 ⟨rfl, b1⟩; rw [hm]; have x1 := hal.trans (b1.mono (by omega)); have z1 := b1.size; obtain ⟨hc, hf⟩ := bcell b1; have y0 := (hc w.heap.size 0 (by first | omega | (simp <;> omega))).trans t0; have y1 := (hc w.heap.size 1 (by first | omega | (simp <;> omega))).trans t1; have y2 := (hc w.heap.size 2 (by first | omega | (simp <;> omega))).trans t2; have y3 := (hc w.heap.size 3 (by first | omega | (simp <;> omega))).trans t3; clear hc hf)
    go_wp2_with (go_at_call 188; refine (l9Put_any ad cap l e _ (h.below x1) hl).mono ?_; rintro r w2 ⟨v2, rfl, r2, b2⟩; have x2 := x1.trans (b2.mono x1.size); have z2 := b2.size)
    have hS := SlT.of_own (l := putE l e) r2 (fun _ => rfl) (by decide)
    go_wp2_with (go_at_call 72; refine (specMemOk _ (putE l e) _ hS hpl).mono ?_; rintro r w3 ⟨rfl, b3⟩; rw [hp]; have x3 := x2.trans (b3.mono x2.size); have z3 := b3.size)
    go_wp2
    refine bodyPost_ret (v := .tuple #[v2, .bool true]) (by simp [results, Try.results175, go_sem]) rfl ?_
    rw [HB.out, HR.out]
    exact ⟨_, rfl, own_below (own_mono r2 x1.size) b3, x3⟩
theorem specMemPut (ad : Option Addr) (cap : Nat) (l : List EntR) (e : EntR) (w : World) (h : SlT EntR.cells 4 w (.slice ad l.length cap) l) (hl : (l.length : Int) ≤ 1048576) :
    Calls Try.prog 175 #[.slice ad l.length cap, .agg #[.string e.key, .int .i64 e.seq, .bool e.del, .string e.val]] w fun r w' => ∃ v', r = .returned (.tuple #[v', .bool (putB l e)]) ∧ SlT EntR.cells 4 w' v' (memPut l e) ∧ Below w.heap.size w w' := by
  refine (specMemPut_row ad cap l e w h hl).mono ?_
  rintro r w' ⟨v', rfl, h, b⟩
  exact ⟨v', rfl, SlT.of_own h (fun _ => rfl) (by decide), b⟩
end Go.Proofs.Ytfbbdnicplbmdaa
/- Walks: the draws of a key and of entries. -/
set_option linter.unusedVariables false
set_option linter.unusedSimpArgs false
namespace Go.Proofs.Ytfbbdnicplbmdaa
open Go.RowKit Sp Go.Sort
theorem below_drew (W : World) : Below W.heap.size W W.drew := (Below.refl _ _).drew
theorem hal2 (W : World) (o : Obj) : RowKit.Below W.heap.size W (W.alloc o) := (Below.refl _ _).alloc (Nat.le_refl _) _
theorem grown_far {w W : World} {r : Option Nat} (h : w.grownBy W r) (p : Addr) (u : Value) (hp : w.heap.size ≤ p.block) : w.grownBy (W.setCell p u) r :=
  ⟨h.os, h.tape, h.output, by simp [World.setCell]; exact h.size, fun k hk hne => (Below.heap_setCell _ _ _ _ (by omega)).trans (h.block k hk hne)⟩
theorem memPut_60 (l : List EntR) (e : EntR) (h : putB l e = true) : ((memPut l e).length : Int) ≤ 60 := by
  simp only [putB, Bool.and_eq_true] at h
  rw [show memPut l e = putE l e from by simp [memPut, h.1, putB, h.2]]
  have := memB_len h.2
  omega
/-- One of a literal list of texts. -/
theorem pickLit (b : Nat) (w0 : World) (v : Value) (xs : List UInt8) (w : World) (h : Cu w b w0 v xs) (cs : Array Value) (l : List ByteArray) (n : Nat) (T : TypeId) (hl : (l.map strCells).flatten = cs.toList) (hc : cs.size = n * 1) (hn : n ≤ 1000) (h0 : 0 < l.length) (hl2 : l.length = n) :
    Calls Try.prog 136 #[.pointer (some ⟨b, 0, none⟩), .slice (some ⟨w.heap.size, 0, none⟩) n n] (w.alloc (.cells cs T)) fun e w' => ∃ x, x ∈ l ∧ e = .returned (.string x) ∧ Cu w' b w0 v xs ∧ w.grownBy w' (some b) := by
  have hb := h.lt
  refine (l1Pick_any b w0 v xs _ (h.below (hal2 w _)) _ l (lit_slT strCells cs l n w T hl (fun _ => rfl) hc hn) (fun a n c e _ => by simp only [Value.slice.injEq, Option.some.injEq] at e; rw [← e.1]; show w.heap.size ≠ b; omega) h0 (by omega)).mono ?_
  rintro e w' ⟨x, hx, rfl, hc, hg⟩
  exact ⟨x, hx, rfl, hc, grown2 (grown_below (World.grownBy.refl _ _) (hal2 w _)) hg⟩
theorem pickIntLit (b : Nat) (w0 : World) (v : Value) (xs : List UInt8) (w : World) (h : Cu w b w0 v xs) (cs : Array Value) (l : List Int) (n : Nat) (T : TypeId) (hl : (l.map intC).flatten = cs.toList) (hc : cs.size = n * 1) (hn : n ≤ 1000) (h0 : 0 < l.length) (hl2 : l.length = n) :
    Calls Try.prog 120 #[.pointer (some ⟨b, 0, none⟩), .slice (some ⟨w.heap.size, 0, none⟩) n n] (w.alloc (.cells cs T)) fun e w' => ∃ x, x ∈ l ∧ e = .returned (.int .i64 x) ∧ Cu w' b w0 v xs ∧ w.grownBy w' (some b) := by
  have hb := h.lt
  refine (l1PickInt_any b w0 v xs _ (h.below (hal2 w _)) _ l (lit_slT intC cs l n w T hl (fun _ => rfl) hc hn) (fun a n c e _ => by simp only [Value.slice.injEq, Option.some.injEq] at e; rw [← e.1]; show w.heap.size ≠ b; omega) h0 (by omega)).mono ?_
  rintro e w' ⟨x, hx, rfl, hc, hg⟩
  exact ⟨x, hx, rfl, hc, grown2 (grown_below (World.grownBy.refl _ _) (hal2 w _)) hg⟩

set_option maxRecDepth 100000 in
set_option maxHeartbeats 800000 in
theorem l7Key_any (b : Nat) (w0 : World) (v : Value) (xs : List UInt8) (w : World) (h : Cu w b w0 v xs) :
    Calls Try.prog 65 #[.pointer (some ⟨b, 0, none⟩)] w fun e w' => ∃ x : ByteArray, e = .returned (.string x) ∧ (x.size : Int) ≤ 3 ∧ Cu w' b w0 v xs ∧ w.grownBy w' (some b) := by
  go_enter Try.func65, Try.ntmps65
  go_wp2_with fail
  refine (pickLit b w0 v xs w h _ [⟨#[97]⟩, ⟨#[98]⟩, ⟨#[97, 98]⟩, ⟨#[97, 98, 99]⟩, ⟨#[98, 48]⟩, ⟨#[99]⟩, ⟨#[0]⟩, ⟨#[122, 122]⟩] 8 _ rfl rfl (by decide) (by decide) rfl).mono ?_
  rintro e w' ⟨x, hx, rfl, hc, hg⟩
  go_wp2
  go_ret
  refine ⟨x, rfl, ?_, hc, hg⟩
  simp only [List.mem_cons, List.not_mem_nil, or_false] at hx
  rcases hx with rfl | rfl | rfl | rfl | rfl | rfl | rfl | rfl <;> decide

set_option maxRecDepth 100000 in
set_option maxHeartbeats 1600000 in
theorem l9Some_any (b : Nat) (w0 : World) (v : Value) (xs : List UInt8) (most : Nat) (hm : (most : Int) ≤ 1000) (w : World) (h : Cu w b w0 v xs) :
    Calls Try.prog 135 #[.pointer (some ⟨b, 0, none⟩), .int .i64 most] w fun e w' => ∃ (ao : Option Addr) (cp : Nat) (l : List EntR), e = .returned (.slice ao l.length cp) ∧ w'.ownsRow w.heap.size 30 4 (.slice ao l.length cp) l.length (l.map EntR.cells).flatten ∧ (l.length : Int) ≤ 60 ∧ Cu w' b w0 v xs ∧ w.grownBy w' (some b) := by
  have hlt := h.lt
  have h0 : (w.alloc (.cells #[] 30)).ownsRow w.heap.size 30 4 (.slice (some ⟨w.heap.size, 0, none⟩) 0 0) 0 (([] : List EntR).map EntR.cells).flatten := World.ownsRow_lit w #[] 0 (Nat.le_refl _) (by simp [maxLen]) rfl
  have c0 := h.below (hal2 w (.cells #[] 30))
  have g0 := grown_below (World.grownBy.refl w (some b)) (hal2 w (.cells #[] 30))
  go_enter Try.func135, Try.ntmps135
  go_wp2_with fail
  refine (l1Below_any b w0 v xs most (by omega) _ c0).mono ?_
  rintro e w1 ⟨n0, rfl, hn0, hn1, c1, g1⟩
  have o1 := own_grown h0 g1 (fun k hk e => by have := (h0.lt _ hk).1; have := Option.some.inj e; omega)
  have q1 := grown2 g0 g1
  clear h0 c0 g0 g1
  go_wp2_with fail
  go_loopw [5, 6] (fun o n wr => ∃ (r : Nat) (ao : Option Addr) (cp : Nat) (l : List EntR), n = .int .i64 r ∧ (r : Int) ≤ 1000 ∧ o = .slice ao l.length cp ∧ wr.ownsRow w.heap.size 30 4 (.slice ao l.length cp) l.length (l.map EntR.cells).flatten ∧ (l.length : Int) ≤ 60 ∧ Cu wr b w0 v xs ∧ w.grownBy wr (some b)) (fun _ n _ => (intOf n).toNat)
  case atStart => exact ⟨n0, _, _, [], rfl, by omega, rfl, o1, by simp, c1, q1⟩
  case round =>
    clear o1 c1 q1
    obtain ⟨r, ao, cp, l, rfl, hr, rfl, ho, hl, c3, q3⟩ := hrel
    by_cases hr0 : 0 < r
    · have R1 : IntKind.i64.wrap ((r : Int) - 1) = ((r - 1 : Nat) : Int) := by rw [IntKind.wrap_i64]; omega
      go_wp2_with fail
      refine (l7Key_any b w0 v xs _ c3).mono ?_
      rintro e w4 ⟨ky, rfl, hky, c4, g4⟩
      have o4 := own_grown ho g4 (fun k hk e => by have := (ho.lt _ hk).1; have := Option.some.inj e; omega)
      have q4 := grown2 q3 g4
      clear c3 q3 ho g4
      go_wp2_with fail
      refine (l1Below_any b w0 v xs 20 (by decide) _ c4).mono ?_
      rintro e w5 ⟨sq, rfl, hsq, _, c5, g5⟩
      have o5 := own_grown o4 g5 (fun k hk e => by have := (o4.lt _ hk).1; have := Option.some.inj e; omega)
      have q5 := grown2 q4 g5
      clear c4 q4 o4 g5
      go_upto_region 6 with fail
      have B6 := Bx.new w5 #[.string ky, .int .i64 sq, .bool false, .string ⟨#[]⟩] 30
      have c6 := c5.below (hal2 w5 (.cells #[.string ky, .int .i64 sq, .bool false, .string ⟨#[]⟩] 30))
      have q6 := grown_below q5 (hal2 w5 (.cells #[.string ky, .int .i64 sq, .bool false, .string ⟨#[]⟩] 30))
      have o6 := o5.alloc (.cells #[.string ky, .int .i64 sq, .bool false, .string ⟨#[]⟩] 30)
      have z5 := q5.size
      have hne : ∀ k, (Value.slice ao l.length cp).ownBlock = some k → k ≠ w5.heap.size := fun k e => by have := (o5.lt k e).2; omega
      generalize w5.alloc (.cells #[.string ky, .int .i64 sq, .bool false, .string ⟨#[]⟩] 30) = W6 at *
      generalize w5.heap.size = g6 at *
      clear c5 o5 q5
      go_wp2_with fail
      refine (l1Once_any b w0 v xs 4 (by decide) _ c6).mono ?_
      rintro e w7 ⟨on, rfl, c7, g7⟩
      have o7 := own_grown o6 g7 (fun k hk e => by have := (o6.lt _ hk).1; have := Option.some.inj e; omega)
      have q7 := grown2 q6 g7
      have B7 := B6.grown g7 (by simp; omega)
      have h3 := c7.lo
      clear c6 o6 q6 B6 g7
      cases on
      · go_wp2_with fail
        refine (l1Text_any b w0 v xs 4 (by decide) _ c7).mono ?_
        rintro e w8 ⟨t, rfl, ht, c8, g8⟩
        have o8 := own_grown o7 g8 (fun k hk e => by have := (o7.lt _ hk).1; have := Option.some.inj e; omega)
        have q8 := grown2 q7 g8
        have B8 := B7.grown g8 (by simp; omega)
        have zf := B8.frozen
        have y3 := B8.cell 3 _ rfl
        have c8 := c8.far ⟨g6, 3, none⟩ (.string t) (by show b ≠ g6; omega) (by show w0.heap.size ≤ g6; omega)
        have o8 := own_far o8 ⟨g6, 3, none⟩ (.string t) (fun e => hne _ e rfl)
        have q8 := grown_far q8 ⟨g6, 3, none⟩ (.string t) (by show w.heap.size ≤ g6; omega)
        have B8 := B8.set 3 (.string t)
        clear c7 o7 q7 B7 g8
        go_upto_region 9 with fail
        clear y3 zf
        generalize w8.setCell ⟨g6, 3, none⟩ (.string t) = W8 at *
        have y0 := B8.cell 0 _ rfl
        have y1 := B8.cell 1 _ rfl
        have y2 := B8.cell 2 _ rfl
        have y3 := B8.cell 3 _ rfl
        go_wp2_with fail
        refine (specMemPut_row ao cp l ⟨ky, sq, false, t⟩ _ (SlT.of_own o8 (fun _ => rfl) (by decide)) (by omega)).mono ?_
        rintro e w9 ⟨v9, rfl, r9, b9⟩
        have o9 := own_below o8 b9
        have c9 := c8.below b9
        have q9 := grown_below q8 b9
        have z8 := q8.size
        have hlen := memPut_60 l ⟨ky, sq, false, t⟩
        clear y0 y1 y2 y3 B8 c8 o8 q8 b9
        rcases hp : putB l ⟨ky, sq, false, t⟩ with _ | _
        · go_wp2
          go_roundw
          case rel => exact ⟨r - 1, ao, cp, l, rfl, by omega, rfl, o9, hl, c9, q9⟩
          case measure => simp [intOf]; omega
        · have hlen := hlen hp
          obtain ⟨ao', cp', rfl⟩ := own_form r9
          have o9' := own_mono r9 z8
          generalize memPut l ⟨ky, sq, false, t⟩ = l' at *
          go_wp2
          go_roundw
          case rel => exact ⟨r - 1, ao', cp', l', rfl, by omega, rfl, o9', hlen, c9, q9⟩
          case measure => simp [intOf]; omega
      · have zf := B7.frozen
        have y2 := B7.cell 2 _ rfl
        have c8 := c7.far ⟨g6, 2, none⟩ (.bool true) (by show b ≠ g6; omega) (by show w0.heap.size ≤ g6; omega)
        have o8 := own_far o7 ⟨g6, 2, none⟩ (.bool true) (fun e => hne _ e rfl)
        have q8 := grown_far q7 ⟨g6, 2, none⟩ (.bool true) (by show w.heap.size ≤ g6; omega)
        have B8 := B7.set 2 (.bool true)
        clear c7 o7 q7 B7
        go_upto_region 9 with fail
        clear y2 zf
        generalize w7.setCell ⟨g6, 2, none⟩ (.bool true) = W8 at *
        have y0 := B8.cell 0 _ rfl
        have y1 := B8.cell 1 _ rfl
        have y2 := B8.cell 2 _ rfl
        have y3 := B8.cell 3 _ rfl
        go_wp2_with fail
        refine (specMemPut_row ao cp l ⟨ky, sq, true, ⟨#[]⟩⟩ _ (SlT.of_own o8 (fun _ => rfl) (by decide)) (by omega)).mono ?_
        rintro e w9 ⟨v9, rfl, r9, b9⟩
        have o9 := own_below o8 b9
        have c9 := c8.below b9
        have q9 := grown_below q8 b9
        have z8 := q8.size
        have hlen := memPut_60 l ⟨ky, sq, true, ⟨#[]⟩⟩
        clear y0 y1 y2 y3 B8 c8 o8 q8 b9
        rcases hp : putB l ⟨ky, sq, true, ⟨#[]⟩⟩ with _ | _
        · go_wp2
          go_roundw
          case rel => exact ⟨r - 1, ao, cp, l, rfl, by omega, rfl, o9, hl, c9, q9⟩
          case measure => simp [intOf]; omega
        · have hlen := hlen hp
          obtain ⟨ao', cp', rfl⟩ := own_form r9
          have o9' := own_mono r9 z8
          generalize memPut l ⟨ky, sq, true, ⟨#[]⟩⟩ = l' at *
          go_wp2
          go_roundw
          case rel => exact ⟨r - 1, ao', cp', l', rfl, by omega, rfl, o9', hlen, c9, q9⟩
          case measure => simp [intOf]; omega
    · obtain rfl : r = 0 := by omega
      go_wp2
      go_ret
      exact ⟨_, _, l, rfl, ho, hl, c3, q3⟩

theorem rec_set {α : Type} {enc : α → List Value} {size : Nat} (hs : ∀ x, (enc x).length = size) (l : List α) (k : Nat) (hk : k < l.length) (j : Nat) (hj : j < size) (u : Value) (e : α) (h : (enc l[k]).set j u = enc e) :
    (l.map enc).flatten.set (k * size + j) u = ((l.set k e).map enc).flatten := by
  rw [flat_set (l.map enc) (fun c hc => by obtain ⟨x, _, rfl⟩ := List.mem_map.1 hc; exact hs x) k (by simpa using hk) j hj u, List.map_set]
  congr 2
  simpa using h
/-- A cell of one element of a row of one's own is there, may be written, and the row is then the list with that element. -/
theorem own_put {α : Type} {enc : α → List Value} {size : Nat} (hs : ∀ x, (enc x).length = size) {W : World} {base T g cap : Nat} {l : List α} (h : W.ownsRow base T size (.slice (some ⟨g, 0, none⟩) l.length cap) l.length (l.map enc).flatten) (k : Nat) (hk : k < l.length) (j : Nat) (hj : j < size) (u : Value) (e : α) (he : (enc l[k]).set j u = enc e) :
    (∃ z, W.cell? ⟨g, k * size + j, none⟩ = some z ∧ (enc l[k])[j]? = some z) ∧ W.frozen? ⟨g, k * size + j, none⟩ = false ∧ (W.setCell ⟨g, k * size + j, none⟩ u).ownsRow base T size (.slice (some ⟨g, 0, none⟩) (l.set k e).length cap) (l.set k e).length ((l.set k e).map enc).flatten := by
  refine ⟨?_, h.frozenAt _, ?_⟩
  · have hl : j < (enc l[k]).length := by rw [hs]; exact hj
    refine ⟨(enc l[k])[j], ?_, List.getElem?_eq_getElem hl⟩
    have hb : k * size + j < l.length * size := by
      have := Nat.mul_le_mul_right size (Nat.succ_le_of_lt hk)
      rw [Nat.succ_mul] at this
      omega
    rw [h.cellAt _ hb]
    exact flat_at (l.map enc) (fun c hc => by obtain ⟨x, _, rfl⟩ := List.mem_map.1 hc; exact hs x) k (enc l[k]) (by simp [hk]) j _ (List.getElem?_eq_getElem hl)
  · have := (h.stored (k * size + j) u).1
    rw [rec_set hs l k hk j hj u e he] at this
    rw [List.length_set]
    exact this

end Go.Proofs.Ytfbbdnicplbmdaa
/- Walks: the draws' spoilt text. -/
set_option linter.unusedVariables false
set_option linter.unusedSimpArgs false
namespace Go.Proofs.Ytfbbdnicplbmdaa
open Go.RowKit Sp Go.Sort

theorem hal3 (W : World) (o : Obj) : RowKit.Below W.heap.size W (W.alloc o) := (Below.refl _ _).alloc (Nat.le_refl _) _
theorem drew_grown {W W' : World} {r : Option Nat} (h : W.drew.grownBy W' r) : W.grownBy W' r := ⟨h.os, h.tape, h.output, h.size, h.block⟩
theorem below_drewS (W : World) : Below W.heap.size W W.drew := (Below.refl _ _).drew
set_option maxRecDepth 100000 in
set_option maxHeartbeats 1600000 in
theorem l1Spoil_any (b : Nat) (w0 : World) (v : Value) (xs : List UInt8) (s : ByteArray) (hs : (s.size : Int) ≤ 1000000) (w : World) (h : Cu w b w0 v xs) :
    Calls Try.prog 89 #[.pointer (some ⟨b, 0, none⟩), .string s] w fun e w' => ∃ t : ByteArray, e = .returned (.string t) ∧ (t.size : Int) ≤ 1048576 ∧ Cu w' b w0 v xs ∧ w.grownBy w' (some b) := by
  by_cases hz : s.size = 0
  · have hz' : (s.size : Int) = 0 := by omega
    go_enter Try.func89, Try.ntmps89
    go_wp2_with fail
    refine (l1Text_any b w0 v xs 3 (by decide) _ h).mono ?_
    rintro e w1 ⟨t, rfl, ht, c1, g1⟩
    go_wp2
    go_ret
    exact ⟨t, rfl, by omega, c1, g1⟩
  · have hz' : ¬ (s.size : Int) = 0 := by omega
    go_enter Try.func89, Try.ntmps89
    go_wp2_with fail
    refine (l1Below_any b w0 v xs (s.size : Int) (by omega) _ h).mono ?_
    rintro e w1 ⟨k, rfl, hk, _, c1, g1⟩
    have hk := hk (by omega)
    go_wp2_with fail
    refine (l1Below_any b w0 v xs 4 (by decide) _ c1).mono ?_
    rintro e w2 ⟨sw, rfl, hsw, _, c2, g2⟩
    have hsw := hsw (by decide)
    have q2 := grown2 g1 g2
    clear c1 g1 g2
    have K1 : IntKind.i64.wrap ((k : Int) + 1) = (k : Int) + 1 := by rw [IntKind.wrap_i64]; omega
    have K2 : ((k : Int) + 1).toNat = k + 1 := by omega
    have z1 : (s.extract 0 k).size = k := by rw [ByteArray.size_extract]; omega
    have z2 : (s.extract (k + 1) s.size).size = s.size - (k + 1) := by rw [ByteArray.size_extract]; omega
    have z3 : (s.extract k s.size).size = s.size - k := by rw [ByteArray.size_extract]; omega
    rcases (by omega : sw = 0 ∨ sw = 1 ∨ sw = 2 ∨ sw = 3) with rfl | rfl | rfl | rfl
    · have f1 : ¬ 9223372036854775807 < k + (s.size - (k + 1)) := by omega
      have f2 : (k : Int) ≤ s.size := by omega
      have f3 : (k : Int) + 1 ≤ s.size := by omega
      have f4 : (0 : Int) ≤ (k : Int) + 1 := by omega
      have c3 := c2.below (below_drewS w2)
      go_wp2_with fail
      go_region
      go_wp2
      go_ret
      exact ⟨_, rfl, by rw [ByteArray.size_append, z1, z2]; omega, c3, grown_drewN q2 1⟩
    · have f1 : ¬ 9223372036854775807 < k + 1 := by omega
      have f5 : ¬ 9223372036854775807 < k + 1 + (s.size - k) := by omega
      have f2 : (k : Int) ≤ s.size := by omega
      have c3 := c2.below (below_drewS w2)
      have hs1 : ∀ c : UInt8, (str [c]).size = 1 := fun _ => rfl
      have cv := fun W x => conv_one (P := Try.prog) (src := 22) (dst := 9) Try.underlying22 Try.underlying5 Try.underlying9 W x
      go_wp2_with fail
      go_region_with (go_at_call 137; refine (l1Byte_any b w0 v xs _ c3).mono ?_; rintro e w3 ⟨y, rfl, hy, c4, g4⟩)
      all_goals
        go_wp2
        go_ret
        exact ⟨_, rfl, by rw [ByteArray.size_append, ByteArray.size_append, z1, z3, hs1]; omega, c4.below (hal3 _ _), grown_below (grown2 q2 (drew_grown g4)) (hal3 _ _)⟩
    · have f2 : (k : Int) ≤ s.size := by omega
      go_wp2
      go_ret
      exact ⟨_, rfl, by rw [z1]; omega, c2, q2⟩
    · have f1 : ¬ 9223372036854775807 < k + 1 := by omega
      have f5 : ¬ 9223372036854775807 < k + 1 + (s.size - (k + 1)) := by omega
      have f2 : (k : Int) ≤ s.size := by omega
      have f3 : (k : Int) + 1 ≤ s.size := by omega
      have f4 : (0 : Int) ≤ (k : Int) + 1 := by omega
      have c3 := c2.below (below_drewS w2)
      have hs1 : ∀ c : UInt8, (str [c]).size = 1 := fun _ => rfl
      have cv := fun W x => conv_one (P := Try.prog) (src := 22) (dst := 9) Try.underlying22 Try.underlying5 Try.underlying9 W x
      go_wp2_with fail
      go_region_with (go_at_call 66; refine (l1Below_any b w0 v xs 255 (by decide) _ c3).mono ?_; rintro e w3 ⟨y, rfl, hy, _, c4, g4⟩)
      all_goals
        go_wp2
        go_ret
        exact ⟨_, rfl, by rw [ByteArray.size_append, ByteArray.size_append, z1, z2, hs1]; omega, c4.below (hal3 _ _), grown_below (grown2 q2 (drew_grown g4)) (hal3 _ _)⟩
end Go.Proofs.Ytfbbdnicplbmdaa
/- Walks: the draw of a table. -/
set_option linter.unusedVariables false
set_option linter.unusedSimpArgs false
namespace Go.Proofs.Ytfbbdnicplbmdaa
open Go.RowKit Sp Go.Sort
theorem tabOf_bd (l : List EntR) : ((tabOf l).parts.length : Int) ≤ 10 ∧ ((tabOf l).bloom.size : Int) ≤ 16 ∧ inI64 (tabOf l).top ∧ ∀ x ∈ (tabOf l).parts, (x.text.size : Int) ≤ 1000000 := by
  rcases h : tabB l with _ | _
  · rw [tabOf_not h]
    refine ⟨by decide, by decide, (by show (-9223372036854775808 : Int) ≤ 0 ∧ (0 : Int) ≤ 9223372036854775807; decide), fun x hx => ?_⟩
    simp [noTab] at hx
  · rw [tabOf_yes h]
    have h1 := (tabB_iff.1 h).2
    have h2 := nch_le (memB_len h1)
    have h3 := topTo_bd h1 l.length (Nat.le_refl _)
    refine ⟨?_, ?_, ?_, fun x hx => ?_⟩
    · show ((prts l (nch l.length)).length : Int) ≤ _
      rw [prts_len]; omega
    · show ((str (bloomL (l.map (·.key)) 16)).size : Int) ≤ _
      rw [str_size, bloomL_16 h1]; decide
    · show inI64 (topTo l l.length)
      unfold inI64; omega
    · have hx : x ∈ (List.range (nch l.length)).map (prt l) := hx
      obtain ⟨j, _, rfl⟩ := List.mem_map.1 hx
      show ((str (showBlkL (chk l j))).size : Int) ≤ _
      rw [str_size]
      have := showBlkL_size (chk l j)
      omega
/-- What the draw of a table holds between its steps. -/
structure TSt (b : Nat) (w0 : World) (v : Value) (xs : List UInt8) (w : World) (B : Nat) (ps : List PartR) (bo : Option Addr) (dp : Nat) (bl : ByteArray) (mx : Int) (W : World) : Prop where
  cu : Cu W b w0 v xs
  row : W.ownsRow (w.heap.size + 1) 99 2 (.slice bo ps.length dp) ps.length (ps.map PartR.cells).flatten
  nb : (Value.slice bo ps.length dp).ownBlock ≠ some B
  bx : Bx W B #[.slice bo ps.length dp, .string bl, .int .i64 mx]
  rs : Bx W w.heap.size #[.slice none 0 0, .string ⟨#[]⟩, .int .i64 0]
  gr : w.grownBy W (some b)
  lb : b < w.heap.size
  lB : w.heap.size < B
/-- The sizes in it. -/
structure TBd (m : Int) (ps : List PartR) (bl : ByteArray) (mx : Int) : Prop where
  n : (ps.length : Int) ≤ m
  bl : (bl.size : Int) ≤ 1048576
  mx : inI64 mx
  ps : ∀ x ∈ ps, (x.text.size : Int) ≤ 1048576
section
variable {b : Nat} {w0 : World} {v : Value} {xs : List UInt8} {w : World} {B : Nat} {ps : List PartR} {bo : Option Addr} {dp : Nat} {bl : ByteArray} {mx : Int} {W W' : World}
theorem TSt.below (h : TSt b w0 v xs w B ps bo dp bl mx W) (hb : Below W.heap.size W W') : TSt b w0 v xs w B ps bo dp bl mx W' :=
  ⟨h.cu.below hb, own_below h.row hb, h.nb, h.bx.below hb, h.rs.below hb, grown_below h.gr hb, h.lb, h.lB⟩
theorem TSt.step (h : TSt b w0 v xs w B ps bo dp bl mx W) (hg : W.grownBy W' (some b)) (hc : Cu W' b w0 v xs) : TSt b w0 v xs w B ps bo dp bl mx W' := by
  have h1 := h.lb
  have h2 := h.lB
  exact ⟨hc, own_grown h.row hg (fun k hk e => by have := (h.row.lt k hk).1; have := Option.some.inj e; omega), h.nb, h.bx.grown hg (fun e => by have := Option.some.inj e; omega), h.rs.grown hg (fun e => by have := Option.some.inj e; omega), grown2 h.gr hg, h.lb, h.lB⟩
theorem TSt.put {g : Nat} (h : TSt b w0 v xs w B ps (some ⟨g, 0, none⟩) dp bl mx W) (k : Nat) (hk : k < ps.length) (j : Nat) (hj : j < 2) (u : Value) (e : PartR) (he : (PartR.cells ps[k]).set j u = PartR.cells e) :
    (∃ z, W.cell? ⟨g, k * 2 + j, none⟩ = some z ∧ (PartR.cells ps[k])[j]? = some z) ∧ W.frozen? ⟨g, k * 2 + j, none⟩ = false ∧ TSt b w0 v xs w B (ps.set k e) (some ⟨g, 0, none⟩) dp bl mx (W.setCell ⟨g, k * 2 + j, none⟩ u) := by
  obtain ⟨p1, p2, p3⟩ := own_put (enc := PartR.cells) (size := 2) (fun _ => rfl) h.row k hk j hj u e he
  have h1 := h.lb
  have h2 := h.lB
  have h3 := (h.row.lt g rfl).1
  have h4 := h.cu.lo
  have h5 : g ≠ B := fun e => h.nb (by rw [← e]; rfl)
  have hn : (ps.set k e).length = ps.length := by simp
  refine ⟨p1, p2, h.cu.far _ _ (by show b ≠ g; omega) (by show w0.heap.size ≤ g; omega), p3, ?_, ?_, h.rs.far _ _ (by show w.heap.size ≠ g; omega), grown_far h.gr _ _ (by show w.heap.size ≤ g; omega), h.lb, h.lB⟩
  · rw [hn]; exact h.nb
  · rw [hn]; exact h.bx.far _ _ (by show B ≠ g; omega)
theorem TSt.setB (h : TSt b w0 v xs w B ps bo dp bl mx W) (s : ByteArray) : TSt b w0 v xs w B ps bo dp s mx (W.setCell ⟨B, 1, none⟩ (.string s)) := by
  have h1 := h.lb
  have h2 := h.lB
  have h4 := h.cu.lo
  exact ⟨h.cu.far _ _ (by show b ≠ B; omega) (by show w0.heap.size ≤ B; omega), own_far h.row _ _ (fun e => h.nb e), h.nb, h.bx.set 1 _, h.rs.far _ _ (by show w.heap.size ≠ B; omega), grown_far h.gr _ _ (by show w.heap.size ≤ B; omega), h.lb, h.lB⟩
theorem TSt.setM (h : TSt b w0 v xs w B ps bo dp bl mx W) (x : Int) : TSt b w0 v xs w B ps bo dp bl x (W.setCell ⟨B, 2, none⟩ (.int .i64 x)) := by
  have h1 := h.lb
  have h2 := h.lB
  have h4 := h.cu.lo
  exact ⟨h.cu.far _ _ (by show b ≠ B; omega) (by show w0.heap.size ≤ B; omega), own_far h.row _ _ (fun e => h.nb e), h.nb, h.bx.set 2 _, h.rs.far _ _ (by show w.heap.size ≠ B; omega), grown_far h.gr _ _ (by show w.heap.size ≤ B; omega), h.lb, h.lB⟩
theorem TSt.app {w' : World} {v' : Value} (h : TSt b w0 v xs w B ps bo dp bl mx W) (x : PartR)
    (r : w'.ownsRow (w.heap.size + 1) 99 2 v' (ps.length + 1) ((ps.map PartR.cells).flatten ++ PartR.cells x)) (g : W.grownBy w' (Value.slice bo ps.length dp).ownBlock)
    (ob : v'.ownBlock = (Value.slice bo ps.length dp).ownBlock ∨ ∃ k, v'.ownBlock = some k ∧ W.heap.size ≤ k) :
    ∃ bo' dp', v' = .slice bo' (ps.length + 1) dp' ∧ TSt b w0 v xs w B (ps ++ [x]) bo' dp' bl mx (w'.setCell ⟨B, 0, none⟩ v') := by
  have h1 := h.lb
  have h2 := h.lB
  have h4 := h.cu.lo
  have h5 := h.bx.lt
  have hlt := fun k (e : (Value.slice bo ps.length dp).ownBlock = some k) => h.row.lt k e
  have hl : (ps ++ [x]).length = ps.length + 1 := by simp
  have hnb : v'.ownBlock ≠ some B := by
    rcases ob with o | ⟨k, o, hk⟩
    · rw [o]; exact h.nb
    · rw [o]; intro e; have := Option.some.inj e; omega
  obtain ⟨bo', dp', rfl⟩ := own_form r
  have hg : w.grownBy w' (some b) := ⟨g.os.trans h.gr.os, g.tape.trans h.gr.tape, g.output.trans h.gr.output, Nat.le_trans h.gr.size g.size, fun k hk hne => (g.block k (Nat.lt_of_lt_of_le hk h.gr.size) (fun e => by have := (hlt _ e.symm).1; omega)).trans (h.gr.block k hk hne)⟩
  refine ⟨bo', dp', rfl, (h.cu.grown g (fun e => by have := (hlt _ e).1; omega) (fun k e => by have := (hlt _ e).1; omega)).far _ _ (by show b ≠ B; omega) (by show w0.heap.size ≤ B; omega), ?_, ?_, ?_, (h.rs.grown g (fun e => by have := (hlt _ e).1; omega)).far _ _ (by show w.heap.size ≠ B; omega), grown_far hg _ _ (by show w.heap.size ≤ B; omega), h.lb, h.lB⟩
  · rw [hl, List.map_append, List.flatten_append]
    exact own_far (by simpa using r) _ _ (fun e => hnb e)
  · rw [hl]; exact hnb
  · rw [hl]; exact (h.bx.grown g (fun e => h.nb e)).set 0 _
theorem TSt.fin (h : TSt b w0 v xs w B ps bo dp bl mx W) (u0 u1 u2 : Value) :
    Bx (((W.setCell ⟨w.heap.size, 0, none⟩ u0).setCell ⟨w.heap.size, 1, none⟩ u1).setCell ⟨w.heap.size, 2, none⟩ u2) w.heap.size #[u0, u1, u2] ∧
    (((W.setCell ⟨w.heap.size, 0, none⟩ u0).setCell ⟨w.heap.size, 1, none⟩ u1).setCell ⟨w.heap.size, 2, none⟩ u2).ownsRow (w.heap.size + 1) 99 2 (.slice bo ps.length dp) ps.length (ps.map PartR.cells).flatten ∧
    Cu (((W.setCell ⟨w.heap.size, 0, none⟩ u0).setCell ⟨w.heap.size, 1, none⟩ u1).setCell ⟨w.heap.size, 2, none⟩ u2) b w0 v xs ∧
    w.grownBy (((W.setCell ⟨w.heap.size, 0, none⟩ u0).setCell ⟨w.heap.size, 1, none⟩ u1).setCell ⟨w.heap.size, 2, none⟩ u2) (some b) := by
  have h1 := h.lb
  have h4 := h.cu.lo
  have n0 : (Value.slice bo ps.length dp).ownBlock ≠ some w.heap.size := fun e => by have := (h.row.lt _ e).1; omega
  refine ⟨((h.rs.set 0 u0).set 1 u1).set 2 u2, own_far (own_far (own_far h.row _ _ n0) _ _ n0) _ _ n0, ?_, ?_⟩
  · exact ((h.cu.far _ _ (by show b ≠ w.heap.size; omega) (by show w0.heap.size ≤ w.heap.size; omega)).far _ _ (by show b ≠ w.heap.size; omega) (by show w0.heap.size ≤ w.heap.size; omega)).far _ _ (by show b ≠ w.heap.size; omega) (by show w0.heap.size ≤ w.heap.size; omega)
  · exact grown_far (grown_far (grown_far h.gr _ _ (Nat.le_refl _)) _ _ (Nat.le_refl _)) _ _ (Nat.le_refl _)
theorem TSt.facts (h : TSt b w0 v xs w B ps bo dp bl mx W) : W.cell? ⟨B, 0, none⟩ = some (.slice bo ps.length dp) ∧ W.cell? ⟨B, 1, none⟩ = some (.string bl) ∧ W.cell? ⟨B, 2, none⟩ = some (.int .i64 mx) ∧ (∀ j, W.frozen? ⟨B, j, none⟩ = false) ∧ W.cell? ⟨w.heap.size, 0, none⟩ = some (.slice none 0 0) ∧ W.cell? ⟨w.heap.size, 1, none⟩ = some (.string ⟨#[]⟩) ∧ W.cell? ⟨w.heap.size, 2, none⟩ = some (.int .i64 0) ∧ (∀ j, W.frozen? ⟨w.heap.size, j, none⟩ = false) :=
  ⟨h.bx.cell 0 _ rfl, h.bx.cell 1 _ rfl, h.bx.cell 2 _ rfl, h.bx.frozen, h.rs.cell 0 _ rfl, h.rs.cell 1 _ rfl, h.rs.cell 2 _ rfl, h.rs.frozen⟩
end
theorem grown_alloc {W W1 : World} {o : Obj} {r : Option Nat} (h : (W.alloc o).grownBy W1 r) : W.grownBy W1 r :=
  ⟨h.os, h.tape, h.output, Nat.le_trans (by simp) h.size, fun k hk hne => (h.block k (by simp; omega) hne).trans (Below.heap_alloc W _ k hk)⟩
theorem TBd.set {m : Int} {ps : List PartR} {bl : ByteArray} {mx : Int} (h : TBd m ps bl mx) (k : Nat) (e : PartR) (he : (e.text.size : Int) ≤ 1048576) : TBd m (ps.set k e) bl mx :=
  ⟨by rw [List.length_set]; exact h.n, h.bl, h.mx, fun x hx => by rcases List.mem_or_eq_of_mem_set hx with h1 | rfl; exact h.ps x h1; exact he⟩
theorem TBd.app {m : Int} {ps : List PartR} {bl : ByteArray} {mx : Int} (h : TBd m ps bl mx) (e : PartR) (he : (e.text.size : Int) ≤ 1048576) : TBd (m + 1) (ps ++ [e]) bl mx :=
  ⟨by have := h.n; simp; omega, h.bl, h.mx, fun x hx => by rcases List.mem_append.1 hx with h1 | h1; exact h.ps x h1; rw [List.mem_singleton.1 h1]; exact he⟩
theorem TBd.more {m m' : Int} {ps : List PartR} {bl : ByteArray} {mx : Int} (h : TBd m ps bl mx) (hm : m ≤ m') : TBd m' ps bl mx := ⟨by have := h.n; omega, h.bl, h.mx, h.ps⟩

set_option maxRecDepth 100000 in
set_option maxHeartbeats 6400000 in
theorem l12Some_any (b : Nat) (w0 : World) (v : Value) (xs : List UInt8) (w : World) (h : Cu w b w0 v xs) :
    Calls Try.prog 64 #[.pointer (some ⟨b, 0, none⟩)] w fun e w' => ∃ (bo : Option Addr) (dp : Nat) (ps : List PartR) (bl : ByteArray) (mx : Int), e = .returned (.agg #[.slice bo ps.length dp, .string bl, .int .i64 mx]) ∧ w'.ownsRow (w.heap.size + 1) 99 2 (.slice bo ps.length dp) ps.length (ps.map PartR.cells).flatten ∧ TBd 11 ps bl mx ∧ Cu w' b w0 v xs ∧ w.grownBy w' (some b) := by
  have hlt := h.lt
  have R0 := Bx.new w #[.slice none 0 0, .string ⟨#[]⟩, .int .i64 0] 26
  have hA := hal2 w (.cells #[.slice none 0 0, .string ⟨#[]⟩, .int .i64 0] 26)
  have h0 := h.below hA
  have q0 : w.grownBy (w.alloc (.cells #[.slice none 0 0, .string ⟨#[]⟩, .int .i64 0] 26)) (some b) := grown_below (World.grownBy.refl _ _) hA
  have z0 : (w.alloc (.cells #[.slice none 0 0, .string ⟨#[]⟩, .int .i64 0] 26)).heap.size = w.heap.size + 1 := by simp
  go_enter Try.func64, Try.ntmps64
  go_upto_region 1 with fail
  generalize w.alloc (.cells #[.slice none 0 0, .string ⟨#[]⟩, .int .i64 0] 26) = wA at *
  clear hA h
  go_wp2_with fail
  refine (l9Some_any b w0 v xs 20 (by decide) _ h0).mono ?_
  rintro e w1 ⟨ao, cp, l, rfl, o1, hl, c1, q1⟩
  have R1 := R0.grown q1 (fun e => by have := Option.some.inj e; omega)
  have Q1 := grown2 q0 q1
  have z1 := q1.size
  have s1 : SlT EntR.cells 4 w1 (.slice ao l.length cp) l := SlT.of_own o1 (fun _ => rfl) (by decide)
  clear R0 q0 q1 h0 o1
  go_wp2_with fail
  refine (specTableOf ao cp l _ s1 (by omega)).mono ?_
  rintro e w2 ⟨vt, rfl, ⟨s0, rfl, rr⟩, b2⟩
  have R2 := R1.below b2
  have Q2 := grown_below Q1 b2
  have C2 := c1.below b2
  obtain ⟨bo, dp, rfl⟩ := rr.form
  have o2 : w2.ownsRow (w.heap.size + 1) 99 2 (.slice bo (tabOf l).parts.length dp) (tabOf l).parts.length ((tabOf l).parts.map PartR.cells).flatten := own_mono rr.1 (by omega)
  have ol2 := o2.lt
  have z2 := b2.size
  obtain ⟨t1, t2, t3, t4⟩ := tabOf_bd l
  clear R1 Q1 c1 b2 s1 rr
  generalize tabB l = tb at *
  generalize tabOf l = tt at *
  obtain ⟨ps, bl, mx⟩ := tt
  simp only at t1 t2 t3 t4 o2 ol2
  have D3 : TSt b w0 v xs w w2.heap.size ps bo dp bl mx (w2.alloc (.cells #[.slice bo ps.length dp, .string bl, .int .i64 mx] 26)) :=
    ⟨C2.below (hal2 w2 _), o2.alloc _, fun e => by have := (ol2 _ e).2; omega, Bx.new _ _ _, R2.below (hal2 w2 _), grown_below Q2 (hal2 w2 _), hlt, by omega⟩
  have BD : TBd 10 ps bl mx := ⟨t1, by omega, t3, fun x hx => by have := t4 x hx; omega⟩
  go_upto_region 3 with fail
  generalize w2.alloc (.cells #[.slice bo ps.length dp, .string bl, .int .i64 mx] 26) = w3 at *
  have HT4 := Lib.hid t4
  clear R2 Q2 C2 o2 ol2 t4 z0 z1
  generalize w2.heap.size = B at *
  by_cases hp0 : 0 < ps.length
  · have hp0I : (0 : Int) < (ps.length : Int) := by omega
    obtain ⟨v0, v1, v2, vf, ra, rb, rc, rf⟩ := D3.facts
    obtain ⟨g, cp', hv⟩ := own_slD D3.row hp0
    obtain ⟨rfl, rfl⟩ : bo = some ⟨g, 0, none⟩ ∧ dp = cp' := by simpa using hv
    clear hv
    go_wp2_with fail
    refine (l1Once_any b w0 v xs 8 (by decide) _ D3.cu).mono ?_
    rintro e w4 ⟨on, rfl, c4, g4⟩
    have D4 := D3.step g4 c4
    clear D3 c4 g4 v0 v1 v2 vf ra rb rc rf
    cases on
    · obtain ⟨v0, v1, v2, vf, ra, rb, rc, rf⟩ := D4.facts
      go_wp2
      obtain ⟨F1, F2, F3, F4⟩ := D4.fin (.slice (some ⟨g, 0, none⟩) (ps).length (dp)) (.string (bl)) (.int .i64 (mx))
      clear ra rb rc
      have ra := F1.cell 0 _ rfl
      have rb := F1.cell 1 _ rfl
      have rc := F1.cell 2 _ rfl
      generalize World.setCell (World.setCell (World.setCell _ ⟨w.heap.size, 0, none⟩ _) ⟨w.heap.size, 1, none⟩ _) ⟨w.heap.size, 2, none⟩ _ = WW at *
      exact bodyPost_ret (v := .agg #[.slice (some ⟨g, 0, none⟩) (ps).length (dp), .string (bl), .int .i64 (mx)]) (by simp [results, Try.results64, go_sem, ra, rb, rc]) rfl ⟨_, _, _, _, _, rfl, F2, BD.more (by decide), F3, F4⟩
    · obtain ⟨v0, v1, v2, vf, ra, rb, rc, rf⟩ := D4.facts
      go_wp2_with fail
      refine (l1Below_any b w0 v xs (ps.length : Int) (by omega) _ D4.cu).mono ?_
      rintro e w5 ⟨k, rfl, hk, _, c5, g5⟩
      have hk := hk hp0I
      have hkl : k < ps.length := by omega
      have D5 := D4.step g5 c5
      clear D4 c5 g5 v0 v1 v2 vf ra rb rc rf
      go_wp2_with fail
      refine (l1Below_any b w0 v xs 5 (by decide) _ D5.cu).mono ?_
      rintro e w6 ⟨sw, rfl, hsw, _, c6, g6⟩
      have hsw := hsw (by decide)
      have D6 := D5.step g6 c6
      clear D5 c6 g6
      rcases (by omega : sw = 0 ∨ sw = 1 ∨ sw = 2 ∨ sw = 3 ∨ sw = 4) with rfl | rfl | rfl | rfl | rfl
      · go_upto_region 8 with fail
        have D7 := D6.below (below_drew w6)
        obtain ⟨v0, v1, v2, vf, ra, rb, rc, rf⟩ := D7.facts
        go_region_law (go_simp; go_at_call 65; go_loud (refine (l7Key_any b w0 v xs _ D7.cu).mono ?_; rintro e w8 ⟨x, rfl, hx, c8, g8⟩; have D8 := D7.step g8 c8; obtain ⟨⟨z, p1, _⟩, p2, D9⟩ := D8.put k hkl 0 (by decide) (.string x) ⟨x, ps[k].text⟩ rfl; rw [Nat.add_zero] at p1 p2 D9; obtain ⟨u0, u1, u2, uf, xa, xb, xc, xf⟩ := D8.facts))
        all_goals
          clear v0 v1 v2 vf ra rb rc rf u0 u1 u2 uf xa xb xc xf p1 p2 D6 D7 D8
          have BD9 := BD.set k ⟨x, ps[k].text⟩ (show (ps[k].text.size : Int) ≤ 1048576 from BD.ps ps[k] (List.getElem_mem hkl))
          generalize World.setCell w8 ⟨g, k * 2, none⟩ (.string x) = w9 at *
          generalize ps.set k ⟨x, ps[k].text⟩ = ps' at *
          obtain ⟨v0, v1, v2, vf, ra, rb, rc, rf⟩ := D9.facts
          go_wp2
          obtain ⟨F1, F2, F3, F4⟩ := D9.fin (.slice (some ⟨g, 0, none⟩) (ps').length (dp)) (.string (bl)) (.int .i64 (mx))
          clear ra rb rc
          have ra := F1.cell 0 _ rfl
          have rb := F1.cell 1 _ rfl
          have rc := F1.cell 2 _ rfl
          generalize World.setCell (World.setCell (World.setCell _ ⟨w.heap.size, 0, none⟩ _) ⟨w.heap.size, 1, none⟩ _) ⟨w.heap.size, 2, none⟩ _ = WW at *
          exact bodyPost_ret (v := .agg #[.slice (some ⟨g, 0, none⟩) (ps').length (dp), .string (bl), .int .i64 (mx)]) (by simp [results, Try.results64, go_sem, ra, rb, rc]) rfl ⟨_, _, _, _, _, rfl, F2, BD9.more (by decide), F3, F4⟩
      · go_upto_region 10 with fail
        have D7 := D6.below (below_drew w6)
        obtain ⟨v0, v1, v2, vf, ra, rb, rc, rf⟩ := D7.facts
        have htx := HT4.out ps[k] (List.getElem_mem hkl)
        obtain ⟨⟨z, y1, hz⟩, _, _⟩ := D7.put k hkl 1 (by decide) (.string ps[k].text) ⟨ps[k].last, ps[k].text⟩ rfl
        obtain rfl : z = .string ps[k].text := (Option.some.inj hz).symm
        go_region_law (go_simp; go_at_call 89; go_loud (refine (l1Spoil_any b w0 v xs ps[k].text htx _ D7.cu).mono ?_; rintro e w8 ⟨x, rfl, hx, c8, g8⟩; have D8 := D7.step g8 c8; obtain ⟨⟨z, p1, _⟩, p2, D9⟩ := D8.put k hkl 1 (by decide) (.string x) ⟨ps[k].last, x⟩ rfl; obtain ⟨u0, u1, u2, uf, xa, xb, xc, xf⟩ := D8.facts))
        all_goals
          clear v0 v1 v2 vf ra rb rc rf u0 u1 u2 uf xa xb xc xf p1 p2 D6 D7 D8 y1
          have BD9 := BD.set k ⟨ps[k].last, x⟩ hx
          generalize World.setCell w8 ⟨g, k * 2 + 1, none⟩ (.string x) = w9 at *
          generalize ps.set k ⟨ps[k].last, x⟩ = ps' at *
          obtain ⟨v0, v1, v2, vf, ra, rb, rc, rf⟩ := D9.facts
          go_wp2
          obtain ⟨F1, F2, F3, F4⟩ := D9.fin (.slice (some ⟨g, 0, none⟩) (ps').length (dp)) (.string (bl)) (.int .i64 (mx))
          clear ra rb rc
          have ra := F1.cell 0 _ rfl
          have rb := F1.cell 1 _ rfl
          have rc := F1.cell 2 _ rfl
          generalize World.setCell (World.setCell (World.setCell _ ⟨w.heap.size, 0, none⟩ _) ⟨w.heap.size, 1, none⟩ _) ⟨w.heap.size, 2, none⟩ _ = WW at *
          exact bodyPost_ret (v := .agg #[.slice (some ⟨g, 0, none⟩) (ps').length (dp), .string (bl), .int .i64 (mx)]) (by simp [results, Try.results64, go_sem, ra, rb, rc]) rfl ⟨_, _, _, _, _, rfl, F2, BD9.more (by decide), F3, F4⟩
      · obtain ⟨v0, v1, v2, vf, ra, rb, rc, rf⟩ := D6.facts
        go_wp2_with fail
        refine (l1Spoil_any b w0 v xs bl (by omega) _ D6.cu).mono ?_
        rintro e w8 ⟨x, rfl, hx, c8, g8⟩
        have D8 := D6.step g8 c8
        clear v0 v1 v2 vf ra rb rc rf D6
        obtain ⟨v0, v1, v2, vf, ra, rb, rc, rf⟩ := D8.facts
        have D9 := D8.setB x
        have BD9 : TBd 10 ps x mx := ⟨BD.n, hx, BD.mx, BD.ps⟩
        go_upto_region 15 with fail
        clear v0 v1 v2 vf ra rb rc rf D8
        generalize World.setCell w8 ⟨B, 1, none⟩ (.string x) = w9 at *
        obtain ⟨v0, v1, v2, vf, ra, rb, rc, rf⟩ := D9.facts
        go_wp2
        obtain ⟨F1, F2, F3, F4⟩ := D9.fin (.slice (some ⟨g, 0, none⟩) (ps).length (dp)) (.string (x)) (.int .i64 (mx))
        clear ra rb rc
        have ra := F1.cell 0 _ rfl
        have rb := F1.cell 1 _ rfl
        have rc := F1.cell 2 _ rfl
        generalize World.setCell (World.setCell (World.setCell _ ⟨w.heap.size, 0, none⟩ _) ⟨w.heap.size, 1, none⟩ _) ⟨w.heap.size, 2, none⟩ _ = WW at *
        exact bodyPost_ret (v := .agg #[.slice (some ⟨g, 0, none⟩) (ps).length (dp), .string (x), .int .i64 (mx)]) (by simp [results, Try.results64, go_sem, ra, rb, rc]) rfl ⟨_, _, _, _, _, rfl, F2, BD9.more (by decide), F3, F4⟩
      · obtain ⟨v0, v1, v2, vf, ra, rb, rc, rf⟩ := D6.facts
        have D9 := D6.setM (wrap64 (mx + 1))
        have BD9 : TBd 10 ps bl (wrap64 (mx + 1)) := ⟨BD.n, BD.bl, wrap64_in _, BD.ps⟩
        go_upto_region 15 with fail
        clear v0 v1 v2 vf ra rb rc rf D6
        generalize World.setCell w6 ⟨B, 2, none⟩ (.int .i64 (wrap64 (mx + 1))) = w9 at *
        generalize wrap64 (mx + 1) = mx' at *
        obtain ⟨v0, v1, v2, vf, ra, rb, rc, rf⟩ := D9.facts
        go_wp2
        obtain ⟨F1, F2, F3, F4⟩ := D9.fin (.slice (some ⟨g, 0, none⟩) (ps).length (dp)) (.string (bl)) (.int .i64 (mx'))
        clear ra rb rc
        have ra := F1.cell 0 _ rfl
        have rb := F1.cell 1 _ rfl
        have rc := F1.cell 2 _ rfl
        generalize World.setCell (World.setCell (World.setCell _ ⟨w.heap.size, 0, none⟩ _) ⟨w.heap.size, 1, none⟩ _) ⟨w.heap.size, 2, none⟩ _ = WW at *
        exact bodyPost_ret (v := .agg #[.slice (some ⟨g, 0, none⟩) (ps).length (dp), .string (bl), .int .i64 (mx')]) (by simp [results, Try.results64, go_sem, ra, rb, rc]) rfl ⟨_, _, _, _, _, rfl, F2, BD9.more (by decide), F3, F4⟩
      · go_upto_region 6 with fail
        have D7 := D6.below (below_drew w6)
        obtain ⟨v0, v1, v2, vf, ra, rb, rc, rf⟩ := D7.facts
        obtain ⟨⟨z, y1, hz⟩, _, _⟩ := D7.put k hkl 1 (by decide) (.string ps[k].text) ⟨ps[k].last, ps[k].text⟩ rfl
        obtain rfl : z = .string ps[k].text := (Option.some.inj hz).symm
        obtain ⟨⟨z, y0, hz⟩, _, _⟩ := D7.put k hkl 0 (by decide) (.string ps[k].last) ⟨ps[k].last, ps[k].text⟩ rfl
        obtain rfl : z = .string ps[k].last := (Option.some.inj hz).symm
        rw [Nat.add_zero] at y0
        have hbl := D7.lB
        have hsz7 := D7.gr.size
        have DL := (D6.below (hal2 w6 (.cells #[.string ps[k].last, .string ps[k].text] 99))).below (below_drew _)
        have zL : w.heap.size + 1 ≤ ((w6.alloc (.cells #[.string ps[k].last, .string ps[k].text] 99)).drew).heap.size := by have := DL.bx.lt; omega
        obtain ⟨k0, k1, k2, kf, ka, kb, kc, kg⟩ := DL.facts
        go_region_law (refine step_app_at (v := .slice (some ⟨g, 0, none⟩) ps.length dp) (o := ⟨some 37, _, _, _, _, _⟩) rfl rfl Try.underlying24 info_Part rfl (by decide) rfl DL.row 1 rfl (heap_alloc_new w6 _) rfl (by simp [Value.oneCell']) (by omega) (Below.refl (w.heap.size + 1) _) (Nat.le_refl _) zL ?_; intro v' w1' r1' b1' g1' e1'; have hx := DL.bx.grown g1' (fun e => DL.nb e); have t1 := hx.cell 0 _ rfl; have tf := hx.frozen; have r2' : w1'.ownsRow (w.heap.size + 1) 99 2 v' (ps.length + 1) ((ps.map PartR.cells).flatten ++ PartR.cells ⟨ps[k].last, ps[k].text⟩) := r1'; obtain ⟨e1, f1, rfl, DA⟩ := DL.app ⟨ps[k].last, ps[k].text⟩ r2' g1' (e1'.imp id fun h => ⟨_, h, Nat.le_refl _⟩))
        all_goals
          have BD9 := BD.app ⟨ps[k].last, ps[k].text⟩ (show (ps[k].text.size : Int) ≤ 1048576 from BD.ps ps[k] (List.getElem_mem hkl))
          have hl9 : (ps ++ [(⟨ps[k].last, ps[k].text⟩ : PartR)]).length = ps.length + 1 := by simp
          clear v0 v1 v2 vf ra rb rc rf t1 tf r2' r1' b1' g1' e1' hx D6 D7 DL zL y0 y1 k0 k1 k2 kf ka kb kc kg
          generalize ps ++ [(⟨ps[k].last, ps[k].text⟩ : PartR)] = ps' at *
          rw [← hl9] at DA ⊢
          clear hl9
          generalize World.setCell w1' _ _ = w9 at *
          obtain ⟨v0, v1, v2, vf, ra, rb, rc, rf⟩ := DA.facts
          go_wp2
          obtain ⟨F1, F2, F3, F4⟩ := DA.fin (.slice (e1) (ps').length (f1)) (.string (bl)) (.int .i64 (mx))
          clear ra rb rc
          have ra := F1.cell 0 _ rfl
          have rb := F1.cell 1 _ rfl
          have rc := F1.cell 2 _ rfl
          generalize World.setCell (World.setCell (World.setCell _ ⟨w.heap.size, 0, none⟩ _) ⟨w.heap.size, 1, none⟩ _) ⟨w.heap.size, 2, none⟩ _ = WW at *
          exact bodyPost_ret (v := .agg #[.slice (e1) (ps').length (f1), .string (bl), .int .i64 (mx)]) (by simp [results, Try.results64, go_sem, ra, rb, rc]) rfl ⟨_, _, _, _, _, rfl, F2, BD9.more (by decide), F3, F4⟩
  · have hp0I : ¬ (0 : Int) < (ps.length : Int) := by omega
    obtain ⟨v0, v1, v2, vf, ra, rb, rc, rf⟩ := D3.facts
    go_wp2
    obtain ⟨F1, F2, F3, F4⟩ := D3.fin (.slice (bo) (ps).length (dp)) (.string (bl)) (.int .i64 (mx))
    clear ra rb rc
    have ra := F1.cell 0 _ rfl
    have rb := F1.cell 1 _ rfl
    have rc := F1.cell 2 _ rfl
    generalize World.setCell (World.setCell (World.setCell _ ⟨w.heap.size, 0, none⟩ _) ⟨w.heap.size, 1, none⟩ _) ⟨w.heap.size, 2, none⟩ _ = WW at *
    exact bodyPost_ret (v := .agg #[.slice (bo) (ps).length (dp), .string (bl), .int .i64 (mx)]) (by simp [results, Try.results64, go_sem, ra, rb, rc]) rfl ⟨_, _, _, _, _, rfl, F2, BD.more (by decide), F3, F4⟩
end Go.Proofs.Ytfbbdnicplbmdaa
/- Walks: DrawTableGet, DrawReadTable. -/
set_option linter.unusedVariables false
set_option linter.unusedSimpArgs false
namespace Go.Proofs.Ytfbbdnicplbmdaa
open Go.RowKit Sp Go.Sort
theorem Bx.s3 {W : World} {q : Nat} {x y z : Value} (h : Bx W q #[x, y, z]) : W.cell? ⟨q, 0, none⟩ = some x ∧ W.cell? ⟨q, 1, none⟩ = some y ∧ W.cell? ⟨q, 2, none⟩ = some z := ⟨h.cell 0 _ rfl, h.cell 1 _ rfl, h.cell 2 _ rfl⟩
theorem Bx.far3 {W : World} {q r : Nat} {c : Array Value} (h : Bx W q c) (hn : q ≠ r) (x y z : Value) : Bx (((W.setCell ⟨r, 0, none⟩ x).setCell ⟨r, 1, none⟩ y).setCell ⟨r, 2, none⟩ z) q c := ((h.far _ _ hn).far _ _ hn).far _ _ hn
set_option maxRecDepth 100000 in
set_option maxHeartbeats 3200000 in
theorem drawTableGet_any (v : Value) (xs : List UInt8) (w : World) (h : SlT bytC 1 w v xs) (hs : (xs.length : Int) ≤ 1048576) :
    Calls Try.prog 12 #[v] w fun e w' => ∃ (bo : Option Addr) (dp : Nat) (ps : List PartR) (bl : ByteArray) (mx : Int) (t : ByteArray) (m : Int), e = .returned (.tuple #[.agg #[.slice bo ps.length dp, .string bl, .int .i64 mx], .string t, .int .i64 m]) ∧ IsTable w' (.agg #[.slice bo ps.length dp, .string bl, .int .i64 mx]) ⟨ps, bl, mx⟩ ∧ TBd 11 ps bl mx ∧ (t.size : Int) ≤ 3 ∧ inI64 m ∧ Below w.heap.size w w' := by
  have hA := hal2 w (.cells #[.slice none 0 0, .string ⟨#[]⟩, .int .i64 0] 26)
  have B0 := Bx.new w #[.slice none 0 0, .string ⟨#[]⟩, .int .i64 0] 26
  have h' := h.below hA
  go_enter Try.func12, Try.ntmps12
  go_wp2_with fail
  refine (l1New_any v xs _ h' hs).mono ?_
  rintro e w1 ⟨b, rfl, c1, b1⟩
  have B1 := B0.below b1
  have x1 : RowKit.Below w.heap.size w w1 := hA.trans (b1.mono hA.size)
  have lo1 := c1.lo
  have hb1 := c1.lt
  have zA : (w.alloc (.cells #[.slice none 0 0, .string ⟨#[]⟩, .int .i64 0] 26)).heap.size = w.heap.size + 1 := by simp
  generalize w.alloc (.cells #[.slice none 0 0, .string ⟨#[]⟩, .int .i64 0] 26) = wA at *
  clear B0 hA b1
  go_wp2_with fail
  refine (l12Some_any b wA v xs _ c1).mono ?_
  rintro e w2 ⟨bo, dp, ps, bl, mx, rfl, o0, bd, c2, g2⟩
  have B2 := B1.grown g2 (by simp; omega)
  have x2 : RowKit.Below w.heap.size w w2 := x1.grown g2 x1.size (fun k e => by have := Option.some.inj e; omega)
  have hb2 := c2.lt
  have zB := B1.lt
  have n2 := g2.size
  have x1s := x1.size
  have o0lo := fun k e => (o0.lt k e).1
  have c3 := c2.below (hal2 w2 (.cells #[.slice bo ps.length dp, .string bl, .int .i64 mx] 26))
  have B3 := B2.below (hal2 w2 (.cells #[.slice bo ps.length dp, .string bl, .int .i64 mx] 26))
  have x3 := x2.alloc x2.size (.cells #[.slice bo ps.length dp, .string bl, .int .i64 mx] 26)
  have Q3 := Bx.new w2 #[.slice bo ps.length dp, .string bl, .int .i64 mx] 26
  have O0 := o0.alloc (.cells #[.slice bo ps.length dp, .string bl, .int .i64 mx] 26)
  go_upto_region 3 with fail
  generalize w2.alloc (.cells #[.slice bo ps.length dp, .string bl, .int .i64 mx] 26) = w3' at *
  generalize w2.heap.size = q at *
  clear B2 c2 B1 c1 g2 o0 x1 x2
  go_wp2_with fail
  refine (l7Key_any b wA v xs _ c3).mono ?_
  rintro e w3 ⟨t, rfl, ht, c3', gm⟩
  have B3' := B3.grown gm (by simp; omega)
  have Q3' := Q3.grown gm (by simp; omega)
  have x3' := x3.grown gm x3.size (fun k e => by have := Option.some.inj e; omega)
  have O0' := own_grown O0 gm (fun k hk e => by have := o0lo k hk; have := Option.some.inj e; omega)
  clear c3 B3 Q3 x3 O0 gm
  have c3 := c3'
  have B3 := B3'
  have Q3 := Q3'
  have x3 := x3'
  have O0 := O0'
  clear c3' B3' Q3' x3' O0'
  go_upto_region 4 with fail
  have y0 := Q3.cell 0 _ rfl
  have y1 := Q3.cell 1 _ rfl
  have y2 := Q3.cell 2 _ rfl
  have c3d := c3.below (below_drew w3)
  have B3d := B3.below (below_drew w3)
  have Q3d := Q3.below (below_drew w3)
  have G0 : w3.grownBy w3.drew (some b) := grown_below (World.grownBy.refl _ _) (below_drew w3)
  go_region_held (fun w' => w'.cell? ⟨q, 0, none⟩ = some (.slice bo ps.length dp) ∧ w'.cell? ⟨q, 1, none⟩ = some (.string bl) ∧ w'.cell? ⟨q, 2, none⟩ = some (.int .i64 mx))
    (first | exact Bx.s3 (by assumption) | exact (Bx.far3 (by assumption) (by omega) _ _ _).s3)
    (first | (go_at_call 66; refine (l1Below_any b wA v xs 22 (by decide) _ c3d).mono ?_; rintro e w5 ⟨m5, rfl, hm5, _, c5, g5⟩; have Q5 := Q3d.grown g5 (by simp; omega); have B5 := B3d.grown g5 (by simp; omega); have rf := B5.frozen; have ra := B5.cell 0 _ rfl; have rb := B5.cell 1 _ rfl; have rc := B5.cell 2 _ rfl; have G5 := grown2 G0 g5))
  have hm5 := hm5 (by decide)
  go_wp2
  refine bodyPost_ret (v := .tuple #[.agg #[.slice bo ps.length dp, .string bl, .int .i64 mx], .string t, .int .i64 (m5 : Int)]) (by simp [results, Try.results12, go_sem, ra, rb, rc]) rfl ?_
  have x5 := x3.grown G5 x3.size (fun k e => by have := Option.some.inj e; omega)
  have r0 := own_grown O0 G5 (fun k hk e => by have := o0lo k hk; have := Option.some.inj e; omega)
  have f0 : (Value.slice bo ps.length dp).ownBlock ≠ some w.heap.size := fun e => by have := o0lo _ e; omega
  refine ⟨bo, dp, ps, bl, mx, t, _, rfl, ⟨_, rfl, SlT.of_own (own_far (own_far (own_far r0 _ _ f0) _ _ f0) _ _ f0) (fun _ => rfl) (by decide)⟩, bd, ht, by unfold inI64; omega, ?_⟩
  exact below_set (below_set (below_set x5 _ _ (Nat.le_refl _)) _ _ (Nat.le_refl _)) _ _ (Nat.le_refl _)

theorem showBlkL_small (l : List EntR) : (showBlkL l).length ≤ 1100 := by
  rcases h : blockB l with _ | _
  · rw [showBlkL_not h]; decide
  · rw [showBlkL_yes h]
    unfold blockB at h
    rw [Bool.and_eq_true, inB_iff] at h
    have h1 := blkTo_len h.2 l.length (Nat.le_refl _)
    have h2 := varL_length ((plcTo l l.length).length : Int)
    have h3 := fixedL_length_le ((blkTo l l.length).length : Int) 2
    have h6 := plcTo_len l l.length
    have h7 := plcL_len (plcTo l l.length)
    unfold showKL
    simp only [List.length_append]
    omega
theorem pcsL_len (ps : List PartR) (h : ∀ p ∈ ps, p.last.size ≤ 10 ∧ p.text.size ≤ 1100) : (pcsL ps).length ≤ 1200 * ps.length := by
  induction ps with
  | nil => simp [pcsL]
  | cons p ps ih =>
    have h1 := ih fun q hq => h q (List.mem_cons_of_mem _ hq)
    have h2 := h p (List.mem_cons_self ..)
    have h3 := pie_len p.last.data.toList
    have h4 := pie_len p.text.data.toList
    have e1 : p.last.data.toList.length = p.last.size := by simp
    have e2 : p.text.data.toList.length = p.text.size := by simp
    have : pcsL (p :: ps) = pcL p ++ pcsL ps := by unfold pcsL; rw [List.flatMap_cons]
    rw [this, List.length_append, List.length_cons]
    unfold pcL
    rw [List.length_append]
    omega
theorem showTab_size (t : TabR) : (showTab t).length ≤ 1000000 := by
  rcases h : entsTB t with _ | _
  · rw [showTab_not h]; simp
  · rw [showTab_yes h]
    obtain ⟨s1, s2, s3, s4, s5⟩ := tab_sizes h
    have h1 := (entsTB_of h).1
    have hp : t.parts = prts (tabEnts t) (nch (tabEnts t).length) := congrArg TabR.parts h1
    have h2 := pcsL_len t.parts (fun p hpm => by
      have hm : p ∈ prts (tabEnts t) (nch (tabEnts t).length) := by rw [← hp]; exact hpm
      have hm : p ∈ (List.range (nch (tabEnts t).length)).map (prt (tabEnts t)) := hm
      have hlast : p.last.size ≤ 10 := by
        obtain ⟨k, hk, rfl⟩ := List.getElem_of_mem hpm
        exact (s5 k hk).1
      refine ⟨hlast, ?_⟩
      obtain ⟨j, _, hj⟩ := List.mem_map.1 hm
      rw [← hj]
      show (str (showBlkL (chk (tabEnts t) j))).size ≤ _
      rw [str_size]
      exact showBlkL_small _)
    have h3 := varL_length (t.parts.length : Int)
    have h4 := varL_length t.top
    have e : t.bloom.data.toList.length = t.bloom.size := by simp
    unfold showTL
    simp only [List.length_append]
    omega
set_option maxRecDepth 100000 in
set_option maxHeartbeats 1600000 in
theorem drawReadTable_any (v : Value) (xs : List UInt8) (w : World) (h : SlT bytC 1 w v xs) (hs : (xs.length : Int) ≤ 1048576) :
    Calls Try.prog 20 #[v] w fun e w' => ∃ t : ByteArray, e = .returned (.string t) ∧ (t.size : Int) ≤ 1048576 ∧ Below w.heap.size w w' := by
  go_enter Try.func20, Try.ntmps20
  go_wp2_with fail
  refine (l1New_any v xs _ h hs).mono ?_
  rintro e w1 ⟨b, rfl, c1, b1⟩
  have lo1 := c1.lo
  go_wp2_with fail
  refine (l12Some_any b w v xs _ c1).mono ?_
  rintro e w2 ⟨bo, dp, ps, bl, mx, rfl, o0, bd, c2, g2⟩
  have x2 : RowKit.Below w.heap.size w w2 := b1.grown g2 b1.size (fun k e => by have := Option.some.inj e; omega)
  have hI : IsTable w2 (.agg #[.slice bo ps.length dp, .string bl, .int .i64 mx]) ⟨ps, bl, mx⟩ := ⟨_, rfl, SlT.of_own o0 (fun _ => rfl) (by decide)⟩
  have hn := bd.n
  have hf : ((flatT ps).length : Int) ≤ 1048576 := by have := flatT_len ps; omega
  have HBD := Lib.hid bd
  clear bd o0 g2 c1 b1
  go_wp2_with fail
  refine (specShowTable _ ⟨ps, bl, mx⟩ _ hI (by show (ps.length : Int) ≤ _; omega) (fun k hk => HBD.out.ps _ (List.getElem_mem hk)) hf).mono ?_
  rintro e w3 ⟨rfl, b3⟩
  have x3 := x2.trans (b3.mono x2.size)
  have c3 := c2.below b3
  have hsz := showTab_size ⟨ps, bl, mx⟩
  have hsz2 : ((str (showTab ⟨ps, bl, mx⟩)).size : Int) ≤ 1000000 := by rw [str_size]; omega
  generalize str (showTab ⟨ps, bl, mx⟩) = ss at *
  clear hI b3 c2 x2 hf
  go_wp2_with fail
  refine (l1Once_any b w v xs 3 (by decide) _ c3).mono ?_
  rintro e w4 ⟨on, rfl, c4, g4⟩
  have x4 : RowKit.Below w.heap.size w w4 := x3.grown g4 x3.size (fun k e => by have := Option.some.inj e; omega)
  clear c3 x3 g4
  cases on
  · go_wp2
    go_ret
    exact ⟨ss, rfl, by omega, x4⟩
  · go_wp2_with fail
    refine (l1Spoil_any b w v xs ss hsz2 _ c4).mono ?_
    rintro e w5 ⟨t, rfl, ht, c5, g5⟩
    have x5 : RowKit.Below w.heap.size w w5 := x4.grown g5 x4.size (fun k e => by have := Option.some.inj e; omega)
    go_wp2
    go_ret
    exact ⟨t, rfl, ht, x5⟩
end Go.Proofs.Ytfbbdnicplbmdaa
/- Walk: the laws' test of a code that is too long. -/
set_option linter.unusedVariables false
set_option linter.unusedSimpArgs false
namespace Go.Proofs.Ytfbbdnicplbmdaa
open Go.RowKit Sp Go.Sort
set_option maxRecDepth 100000 in
theorem big_any (v : Value) (xs : List UInt8) (w : World) (h : SlT bytC 1 w v xs) :
    Calls Try.prog 11 #[v] w fun e w' => e = .returned (.bool (decide (1048576 < (xs.length : Int)))) ∧ w = w' := by
  obtain ⟨ao, cap, rfl, hlc, hcm, hsh⟩ := h.shape
  go_enter Try.func11, Try.ntmps11
  go_wp2
  go_ret
  exact ⟨rfl, rfl⟩
end Go.Proofs.Ytfbbdnicplbmdaa
/- Plain: what the law of the tables asks. -/
set_option linter.unusedVariables false
set_option linter.unusedSimpArgs false
namespace Go.Proofs.Ytfbbdnicplbmdaa
open Sp
namespace Sp
theorem rdsT_zero (key : ByteArray) (seq : Int) : ∀ ps : List PartR, rdsT key seq ps = 0 → ∀ k (hk : k < ps.length), less ps[k].last key = true
  | [], _, k, hk => by simp at hk
  | p :: ps, h, k, hk => by
    rw [rdsT_cons] at h
    rcases hl : less p.last key with _ | _
    · rw [hl] at h
      simp only [Bool.false_eq_true, if_false] at h
      split at h <;> omega
    · rw [hl, if_pos rfl] at h
      cases k with
      | zero => exact hl
      | succ k => exact rdsT_zero key seq ps h k (by simpa using hk)
theorem GI.skips {t : TabR} {key : ByteArray} {seq : Int} (hT : entsTB t = true) (h : ∀ k (hk : k < t.parts.length), less t.parts[k].last key = true) : ∀ k, k ≤ t.parts.length → GI t key seq k 0
  | 0, _ => GI.start t key seq
  | k + 1, hk => GI.skip hT (GI.skips hT h k (by omega)) (by omega) (h k (by omega))
theorem rds_pos {t : TabR} {key : ByteArray} {seq : Int} (hT : entsTB t = true) (h : (getE key seq (tabEnts t)).2 = true) : rdsT key seq t.parts ≠ 0 := by
  intro h0
  have := (GI.fin hT (GI.skips (seq := seq) hT (rdsT_zero key seq t.parts h0) t.parts.length (Nat.le_refl _)) rfl).1
  rw [this] at h
  cases h
/-- What is told of the answers. -/
theorem tabGet_law {t : TabR} (hT : entsTB t = true) (key : ByteArray) (seq : Int) :
    (tabGet t key seq).1 = (memGetE (tabEnts t) key seq).1 ∧ (tabGet t key seq).2 ≤ t.parts.length ∧ ((memGetE (tabEnts t) key seq).2 = true → (tabGet t key seq).2 ≠ 0) := by
  obtain ⟨e1, e2, _⟩ := entsTB_of hT
  have hm := (tabB_iff.1 e2).2
  have hg : memGetE (tabEnts t) key seq = getE key seq (tabEnts t) := by simp [memGetE, hm]
  rw [hg]
  rcases hb : bloomB t.bloom key with _ | _
  · have h0 : (getE key seq (tabEnts t)).2 = false := by
      rcases hx : (getE key seq (tabEnts t)).2 with _ | _
      · rfl
      · exfalso
        obtain ⟨m1, m2, _⟩ := getE_mem hx
        have hkey : (getE key seq (tabEnts t)).1.key = key := bytes_inj m2
        have hin : key ∈ (tabEnts t).map (·.key) := by rw [← hkey]; exact List.mem_map_of_mem m1
        obtain ⟨i, hi, he⟩ := List.getElem_of_mem hin
        have hbl : t.bloom = str (bloomL ((tabEnts t).map (·.key)) 16) := congrArg TabR.bloom e1
        have hne : bloomL ((tabEnts t).map (·.key)) 16 ≠ [] := by
          intro h
          have := bloomL_16 hm
          rw [h] at this
          cases this
        have := bloom_has ((tabEnts t).map (·.key)) 16 i hi hne
        rw [← hbl, he, hb] at this
        cases this
    have hq : tabGet t key seq = (zE, 0) := by unfold tabGet; rw [hb, Bool.and_false]; rfl
    rw [hq, getE_not h0]
    exact ⟨rfl, Nat.zero_le _, fun h => by cases h⟩
  · have hq : tabGet t key seq = ((getE key seq (tabEnts t)).1, rdsT key seq t.parts) := by unfold tabGet; rw [hT, hb]; rfl
    rw [hq]
    exact ⟨rfl, rdsT_le key seq t.parts, fun h => rds_pos hT h⟩
theorem tabGet_not {t : TabR} (hT : entsTB t = false) (key : ByteArray) (seq : Int) : tabGet t key seq = (zE, 0) := by unfold tabGet; rw [hT, Bool.false_and]; rfl
theorem tabOf_ents {t : TabR} (hT : entsTB t = true) : tabOf (tabEnts t) = t ∧ tabB (tabEnts t) = true := by
  obtain ⟨e1, e2, _⟩ := entsTB_of hT
  exact ⟨by rw [tabOf_yes e2]; exact e1.symm, e2⟩
theorem TabC.back {t : TabR} (hT : entsTB t = true) : TabC (str (showTab t)) t true :=
  ⟨fun _ => ⟨hT, (str_data _).symm⟩, fun h => by cases h⟩
end Sp
end Go.Proofs.Ytfbbdnicplbmdaa
/- Walk: the law FnTables. -/
set_option linter.unusedVariables false
set_option linter.unusedSimpArgs false
namespace Go.Proofs.Ytfbbdnicplbmdaa
open Go.RowKit Sp Go.Sort

set_option maxRecDepth 100000 in
set_option maxHeartbeats 6400000 in
theorem walkFnTables (w : World) (v : Value) (xs : List UInt8) (h : SlT bytC 1 w v xs) :
    Calls Try.prog 3 #[v] w fun e w' => e = .returned (.bool true) ∧ Below w.heap.size w w' := by
  by_cases hbig : 1048576 < (xs.length : Int)
  · go_enter Try.func3, Try.ntmps3
    go_wp2_with fail
    refine (big_any v xs _ h).mono ?_
    rintro e w1 ⟨rfl, rfl⟩
    rw [decide_eq_true hbig]
    go_wp2
    go_ret
    exact ⟨rfl, Below.refl _ _⟩
  go_enter Try.func3, Try.ntmps3
  go_wp2_with fail
  refine (big_any v xs _ h).mono ?_
  rintro e w1 ⟨rfl, rfl⟩
  rw [decide_eq_false (show ¬ 1048576 < (xs.length : Int) from by omega)]
  go_wp2_with fail
  refine (drawTableGet_any v xs _ h (by omega)).mono ?_
  rintro e w1 ⟨bo, dp, ps, bl, mx, key, seq, rfl, i1, bd, hkey, hseq, x1⟩
  have l0 : (ps.length : Int) ≤ 1048576 := by have := bd.n; omega
  have lf : ((flatT ps).length : Int) ≤ 1048576 := by have := flatT_len ps; have := bd.n; omega
  have hbl := bd.bl
  have HBD := Lib.hid bd
  have hkl : (key.size : Int) ≤ 1048576 := by omega
  clear bd
  have BT := Bx.new w1 #[.slice bo ps.length dp, .string bl, .int .i64 mx] 26
  have b2 := hal2 w1 (.cells #[.slice bo ps.length dp, .string bl, .int .i64 mx] 26)
  have x2 := x1.trans (b2.mono x1.size)
  go_upto_region 4 with fail
  generalize w1.alloc (.cells #[.slice bo ps.length dp, .string bl, .int .i64 mx] 26) = w2 at *
  have i2 := i1.below b2
  clear i1 b2
  have T_0 := BT.cell 0 _ rfl
  have T_1 := BT.cell 1 _ rfl
  have T_2 := BT.cell 2 _ rfl
  go_wp2_with fail
  refine (implTableGet _ ⟨ps, bl, mx⟩ key seq _ i2 l0 (fun k hk => HBD.out.ps _ (List.getElem_mem hk)) hbl hkl).mono ?_
  rintro e w3 ⟨rfl, b3⟩
  have x3 := x2.trans (b3.mono x2.size)
  have i3 := i2.below b3
  have BT0 := BT.below b3
  clear BT
  have BT := BT0
  clear BT0
  clear i2 b3 T_0 T_1 T_2
  rcases hT : entsTB ⟨ps, bl, mx⟩ with _ | _
  · have HT := Lib.hid hT
    rw [tabGet_not hT, show zE = (⟨⟨#[]⟩, 0, false, ⟨#[]⟩⟩ : EntR) from rfl]
    dsimp only
    clear hT
    have BE := Bx.new w3 #[.string ⟨#[]⟩, .int .i64 0, .bool false, .string ⟨#[]⟩] 30
    have b4 := hal2 w3 (.cells #[.string ⟨#[]⟩, .int .i64 0, .bool false, .string ⟨#[]⟩] 30)
    have x4 := x3.trans (b4.mono x3.size)
    go_upto_region 5 with fail
    generalize w3.alloc (.cells #[.string ⟨#[]⟩, .int .i64 0, .bool false, .string ⟨#[]⟩] 30) = w4 at *
    have i4 := i3.below b4
    have BT0 := BT.below b4
    clear BT
    have BT := BT0
    clear BT0
    clear i3 b4
    have T_0 := BT.cell 0 _ rfl
    have T_1 := BT.cell 1 _ rfl
    have T_2 := BT.cell 2 _ rfl
    go_wp2_with fail
    refine (implTableEnts _ ⟨ps, bl, mx⟩ _ i4 l0 (fun k hk => HBD.out.ps _ (List.getElem_mem hk))).mono ?_
    rintro e w5 ⟨vl, rfl, R5, b5⟩
    rw [HT.out]
    have x5 := x4.trans (b5.mono x4.size)
    have i5 := i4.below b5
    have BT0 := BT.below b5
    clear BT
    have BT := BT0
    clear BT0
    have BE0 := BE.below b5
    clear BE
    have BE := BE0
    clear BE0
    clear i4 b5 T_0 T_1 T_2
    have hlen : ((tabEnts ⟨ps, bl, mx⟩).length : Int) ≤ 60 := by rw [tabEnts_not HT.out]; decide
    generalize tabEnts ⟨ps, bl, mx⟩ = l at *
    obtain ⟨ao, cp, rfl⟩ := R5.form
    have s5 := R5.slT (fun _ => rfl) (by decide)
    clear R5
    go_wp2_with fail
    refine (specMemGet _ l key seq _ s5 (by omega)).mono ?_
    rintro e w6 ⟨rfl, b6⟩
    generalize memGetE l key seq = mg at *
    obtain ⟨⟨mk, ms, md, mv⟩, there⟩ := mg
    have x6 := x5.trans (b6.mono x5.size)
    have i6 := i5.below b6
    have BT0 := BT.below b6
    clear BT
    have BT := BT0
    clear BT0
    have BE0 := BE.below b6
    clear BE
    have BE := BE0
    clear BE0
    clear i5 b6 s5
    have BW := Bx.new w6 #[.string mk, .int .i64 ms, .bool md, .string mv] 30
    have b7 := hal2 w6 (.cells #[.string mk, .int .i64 ms, .bool md, .string mv] 30)
    have x7 := x6.trans (b7.mono x6.size)
    go_upto_region 7 with fail
    generalize w6.alloc (.cells #[.string mk, .int .i64 ms, .bool md, .string mv] 30) = w7 at *
    have i7 := i6.below b7
    have BT0 := BT.below b7
    clear BT
    have BT := BT0
    clear BT0
    have BE0 := BE.below b7
    clear BE
    have BE := BE0
    clear BE0
    clear i6 b7 BW
    have T_0 := BT.cell 0 _ rfl
    have T_1 := BT.cell 1 _ rfl
    have T_2 := BT.cell 2 _ rfl
    go_wp2_with fail
    refine (specTableEnts _ ⟨ps, bl, mx⟩ _ i7 l0 (fun k hk => HBD.out.ps _ (List.getElem_mem hk)) lf).mono ?_
    rintro e w8 ⟨vl2, rfl, _, b8⟩
    rw [HT.out]
    have x8 := x7.trans (b8.mono x7.size)
    have BE0 := BE.below b8
    clear BE
    have BE := BE0
    clear BE0
    clear i7 b8 T_0 T_1 T_2
    have E_0 := BE.cell 0 _ rfl
    have E_1 := BE.cell 1 _ rfl
    have E_2 := BE.cell 2 _ rfl
    have E_3 := BE.cell 3 _ rfl
    go_wp2
    go_ret
    exact ⟨rfl, x8⟩
  · have HT := Lib.hid hT
    obtain ⟨g1, g2, g3⟩ := tabGet_law hT key seq
    clear hT
    generalize tabGet ⟨ps, bl, mx⟩ key seq = gr at *
    obtain ⟨⟨gk, gs, gd, gv⟩, gn⟩ := gr
    simp only at g1 g2 g3
    have g2I : ¬ (ps.length : Int) < (gn : Int) := by omega
    have BE := Bx.new w3 #[.string gk, .int .i64 gs, .bool gd, .string gv] 30
    have b4 := hal2 w3 (.cells #[.string gk, .int .i64 gs, .bool gd, .string gv] 30)
    have x4 := x3.trans (b4.mono x3.size)
    go_upto_region 5 with fail
    generalize w3.alloc (.cells #[.string gk, .int .i64 gs, .bool gd, .string gv] 30) = w4 at *
    have i4 := i3.below b4
    have BT0 := BT.below b4
    clear BT
    have BT := BT0
    clear BT0
    clear i3 b4
    have T_0 := BT.cell 0 _ rfl
    have T_1 := BT.cell 1 _ rfl
    have T_2 := BT.cell 2 _ rfl
    go_wp2_with fail
    refine (implTableEnts _ ⟨ps, bl, mx⟩ _ i4 l0 (fun k hk => HBD.out.ps _ (List.getElem_mem hk))).mono ?_
    rintro e w5 ⟨vl, rfl, R5, b5⟩
    rw [HT.out]
    have x5 := x4.trans (b5.mono x4.size)
    have i5 := i4.below b5
    have BT0 := BT.below b5
    clear BT
    have BT := BT0
    clear BT0
    have BE0 := BE.below b5
    clear BE
    have BE := BE0
    clear BE0
    clear i4 b5 T_0 T_1 T_2
    have hto := tabOf_ents HT.out
    have hmg : memGetE (tabEnts ⟨ps, bl, mx⟩) key seq = (⟨gk, gs, gd, gv⟩, (memGetE (tabEnts ⟨ps, bl, mx⟩) key seq).2) := by rw [g1]
    have hlen : ((tabEnts ⟨ps, bl, mx⟩).length : Int) ≤ 60 := by have := (entsTB_len HT.out).2.1; omega
    generalize tabEnts ⟨ps, bl, mx⟩ = l at *
    have HTO := Lib.hid hto
    clear hto g1
    generalize (memGetE l key seq).2 = there at *
    obtain ⟨ao, cp, rfl⟩ := R5.form
    have s5 := R5.slT (fun _ => rfl) (by decide)
    clear R5
    go_wp2_with fail
    refine (specMemGet _ l key seq _ s5 (by omega)).mono ?_
    rintro e w6 ⟨rfl, b6⟩
    rw [hmg]
    have x6 := x5.trans (b6.mono x5.size)
    have i6 := i5.below b6
    have s6 := s5.below b6
    have BT0 := BT.below b6
    clear BT
    have BT := BT0
    clear BT0
    have BE0 := BE.below b6
    clear BE
    have BE := BE0
    clear BE0
    clear i5 b6 s5 hmg
    have BW := Bx.new w6 #[.string gk, .int .i64 gs, .bool gd, .string gv] 30
    have b7 := hal2 w6 (.cells #[.string gk, .int .i64 gs, .bool gd, .string gv] 30)
    have x7 := x6.trans (b7.mono x6.size)
    go_upto_region 7 with fail
    generalize w6.alloc (.cells #[.string gk, .int .i64 gs, .bool gd, .string gv] 30) = w7 at *
    have i7 := i6.below b7
    have s7 := s6.below b7
    have BT0 := BT.below b7
    clear BT
    have BT := BT0
    clear BT0
    have BE0 := BE.below b7
    clear BE
    have BE := BE0
    clear BE0
    clear i6 b7 s6
    have T_0 := BT.cell 0 _ rfl
    have T_1 := BT.cell 1 _ rfl
    have T_2 := BT.cell 2 _ rfl
    go_wp2_with fail
    refine (specTableEnts _ ⟨ps, bl, mx⟩ _ i7 l0 (fun k hk => HBD.out.ps _ (List.getElem_mem hk)) lf).mono ?_
    rintro e w8 ⟨vl2, rfl, _, b8⟩
    rw [HT.out]
    have x8 := x7.trans (b8.mono x7.size)
    have i8 := i7.below b8
    have s8 := s7.below b8
    have BT0 := BT.below b8
    clear BT
    have BT := BT0
    clear BT0
    have BE0 := BE.below b8
    clear BE
    have BE := BE0
    clear BE0
    have BW0 := BW.below b8
    clear BW
    have BW := BW0
    clear BW0
    clear i7 b8 s7 T_0 T_1 T_2
    have E_0 := BE.cell 0 _ rfl
    have E_1 := BE.cell 1 _ rfl
    have E_2 := BE.cell 2 _ rfl
    have E_3 := BE.cell 3 _ rfl
    have W_0 := BW.cell 0 _ rfl
    have W_1 := BW.cell 1 _ rfl
    have W_2 := BW.cell 2 _ rfl
    have W_3 := BW.cell 3 _ rfl
    have T_0 := BT.cell 0 _ rfl
    have T_1 := BT.cell 1 _ rfl
    have T_2 := BT.cell 2 _ rfl
    have q1 : (gk.toList == gk.toList) = true := beq_self_eq_true _
    have q2 : (gs == gs) = true := beq_self_eq_true _
    have q3 : (gd == gd) = true := beq_self_eq_true _
    have q4 : (gv.toList == gv.toList) = true := beq_self_eq_true _
    have q5 : ((gn : Int) == 0) = true → there = true → False := fun h1 h2 => g3 h2 (by simpa using h1)
    have key5 : there = false ∨ (there = true ∧ ((gn : Int) == 0) = false) := by
      cases there
      · exact .inl rfl
      · refine .inr ⟨rfl, ?_⟩
        rcases h : ((gn : Int) == 0) with _ | _
        · rfl
        · exact (q5 h rfl).elim
    clear q5 g3 g2
    rcases key5 with rfl | ⟨rfl, hz⟩
    all_goals
      go_upto_region 14 with fail
      clear q1 q2 q3 q4 E_0 E_1 E_2 E_3 W_0 W_1 W_2 W_3
      try clear hz
      have HQ : True := trivial
      go_wp2_with fail
      refine (implShowTable _ ⟨ps, bl, mx⟩ _ i8 l0 (fun k hk => HBD.out.ps _ (List.getElem_mem hk))).mono ?_
      rintro e w9 ⟨rfl, b9⟩
      have x9 := x8.trans (b9.mono x8.size)
      have s9 := s8.below b9
      have HBK := Lib.hid (TabC.back HT.out)
      have hsz := showTab_size ⟨ps, bl, mx⟩
      have hsz2 : ((str (showTab ⟨ps, bl, mx⟩)).size : Int) ≤ 1048576 := by rw [str_size]; omega
      have HSH := Lib.hid (rfl : str (showTab ⟨ps, bl, mx⟩) = str (showTab ⟨ps, bl, mx⟩))
      obtain ⟨ss, hss⟩ : ∃ ss, ss = str (showTab ⟨ps, bl, mx⟩) := ⟨_, rfl⟩
      rw [← hss] at HBK hsz2 ⊢
      have HSS := Lib.hid hss
      clear hss HSH hsz s8 i8 b9 T_0 T_1 T_2 BT BE BW x8
      go_wp2_with fail
      refine (implReadTable ss ⟨ps, bl, mx⟩ true HBK.out _ hsz2).mono ?_
      rintro e w10 ⟨vu, rfl, ⟨su, rfl, ru⟩, b10⟩
      obtain ⟨uo, up, rfl⟩ := ru.form
      have iu10 : IsTable w10 (.agg #[.slice uo ps.length up, .string bl, .int .i64 mx]) ⟨ps, bl, mx⟩ := ⟨_, rfl, ru.slT (fun _ => rfl) (by decide)⟩
      have x10 := x9.trans (b10.mono x9.size)
      have s10 := s9.below b10
      clear s9 b10 ru x9
      have BU := Bx.new w10 #[.slice uo ps.length up, .string bl, .int .i64 mx] 26
      have b11 := hal2 w10 (.cells #[.slice uo ps.length up, .string bl, .int .i64 mx] 26)
      have x11 := x10.trans (b11.mono x10.size)
      go_upto_region 16 with fail
      generalize w10.alloc (.cells #[.slice uo ps.length up, .string bl, .int .i64 mx] 26) = w11 at *
      have iu11 := iu10.below b11
      have s11 := s10.below b11
      clear iu10 s10 b11 x10
      go_wp2_with fail
      refine (implTableOf ao cp l _ s11 (by omega)).mono ?_
      rintro e w12 ⟨vx, rfl, Rx, b12⟩
      rw [HTO.out.2]
      rw [HTO.out.1] at Rx
      obtain ⟨sx, rfl, rx⟩ := Rx
      obtain ⟨xo, xp, rfl⟩ := rx.form
      have ix12 : IsTable w12 (.agg #[.slice xo ps.length xp, .string bl, .int .i64 mx]) ⟨ps, bl, mx⟩ := ⟨_, rfl, rx.slT (fun _ => rfl) (by decide)⟩
      have x12 := x11.trans (b12.mono x11.size)
      have iu12 := iu11.below b12
      have BU0 := BU.below b12
      clear BU
      have BU := BU0
      clear BU0
      clear s11 b12 iu11 rx x11
      have BX := Bx.new w12 #[.slice xo ps.length xp, .string bl, .int .i64 mx] 26
      have b13 := hal2 w12 (.cells #[.slice xo ps.length xp, .string bl, .int .i64 mx] 26)
      have x13 := x12.trans (b13.mono x12.size)
      go_upto_region 17 with fail
      generalize w12.alloc (.cells #[.slice xo ps.length xp, .string bl, .int .i64 mx] 26) = w13 at *
      have iu13 := iu12.below b13
      have ix13 := ix12.below b13
      have BU0 := BU.below b13
      clear BU
      have BU := BU0
      clear BU0
      clear iu12 ix12 b13 x12
      go_wp2_with fail
      refine (drawReadTable_any v xs _ (h.below x13) (by omega)).mono ?_
      rintro e w14 ⟨r, rfl, hr, b14⟩
      have x14 := x13.trans (b14.mono x13.size)
      have iu14 := iu13.below b14
      have ix14 := ix13.below b14
      have BU0 := BU.below b14
      clear BU
      have BU := BU0
      clear BU0
      have BX0 := BX.below b14
      clear BX
      have BX := BX0
      clear BX0
      clear iu13 ix13 b14 x13
      obtain ⟨T', b', hC⟩ := TabC.exists r
      have HC := Lib.hid hC
      clear hC
      go_wp2_with fail
      refine (implReadTable r T' b' HC.out _ hr).mono ?_
      rintro e w15 ⟨vv, rfl, ⟨sv, rfl, rv⟩, b15⟩
      obtain ⟨vo, vp, rfl⟩ := rv.form
      have iv15 : IsTable w15 (.agg #[.slice vo T'.parts.length vp, .string T'.bloom, .int .i64 T'.top]) T' := ⟨_, rfl, rv.slT (fun _ => rfl) (by decide)⟩
      have x15 := x14.trans (b15.mono x14.size)
      have iu15 := iu14.below b15
      have ix15 := ix14.below b15
      have BU0 := BU.below b15
      clear BU
      have BU := BU0
      clear BU0
      have BX0 := BX.below b15
      clear BX
      have BX := BX0
      clear BX0
      clear iu14 ix14 b15 rv x14
      have BV := Bx.new w15 #[.slice vo T'.parts.length vp, .string T'.bloom, .int .i64 T'.top] 26
      have b16 := hal2 w15 (.cells #[.slice vo T'.parts.length vp, .string T'.bloom, .int .i64 T'.top] 26)
      have x16 := x15.trans (b16.mono x15.size)
      go_upto_region 19 with fail
      generalize w15.alloc (.cells #[.slice vo T'.parts.length vp, .string T'.bloom, .int .i64 T'.top] 26) = w16 at *
      have iu16 := iu15.below b16
      have ix16 := ix15.below b16
      have iv16 := iv15.below b16
      have BU0 := BU.below b16
      clear BU
      have BU := BU0
      clear BU0
      have BX0 := BX.below b16
      clear BX
      have BX := BX0
      clear BX0
      clear iu15 ix15 iv15 b16 x15
      go_wp2_with fail
      refine (specReadTable r T' b' HC.out _ hr).mono ?_
      rintro e w17 ⟨vz, rfl, ⟨sz, rfl, rz⟩, b17⟩
      obtain ⟨zo, zp, rfl, _⟩ := rz.shape
      have x17 := x16.trans (b17.mono x16.size)
      have iu17 := iu16.below b17
      have ix17 := ix16.below b17
      have iv17 := iv16.below b17
      have BU0 := BU.below b17
      clear BU
      have BU := BU0
      clear BU0
      have BX0 := BX.below b17
      clear BX
      have BX := BX0
      clear BX0
      have BV0 := BV.below b17
      clear BV
      have BV := BV0
      clear BV0
      clear iu16 ix16 iv16 b17 rz x16
      have BZ := Bx.new w17 #[.slice zo T'.parts.length zp, .string T'.bloom, .int .i64 T'.top] 26
      have b18 := hal2 w17 (.cells #[.slice zo T'.parts.length zp, .string T'.bloom, .int .i64 T'.top] 26)
      have x18 := x17.trans (b18.mono x17.size)
      go_upto_region 20 with fail
      generalize w17.alloc (.cells #[.slice zo T'.parts.length zp, .string T'.bloom, .int .i64 T'.top] 26) = w18 at *
      have iu18 := iu17.below b18
      have ix18 := ix17.below b18
      have iv18 := iv17.below b18
      have BU0 := BU.below b18
      clear BU
      have BU := BU0
      clear BU0
      have BX0 := BX.below b18
      clear BX
      have BX := BX0
      clear BX0
      have BV0 := BV.below b18
      clear BV
      have BV := BV0
      clear BV0
      clear iu17 ix17 iv17 b18 x17 BZ
      have U_0 := BU.cell 0 _ rfl
      have U_1 := BU.cell 1 _ rfl
      have U_2 := BU.cell 2 _ rfl
      have hqs : (ss.toList == ss.toList) = true := beq_self_eq_true _
      have hqr : (r.toList == r.toList) = true := beq_self_eq_true _
      go_wp2_with fail
      refine (implShowTable _ ⟨ps, bl, mx⟩ _ iu18 l0 (fun k hk => HBD.out.ps _ (List.getElem_mem hk))).mono ?_
      rintro e w19 ⟨rfl, b19⟩
      rw [← HSS.out]
      have x19 := x18.trans (b19.mono x18.size)
      have ix19 := ix18.below b19
      have iv19 := iv18.below b19
      have BX0 := BX.below b19
      clear BX
      have BX := BX0
      clear BX0
      have BV0 := BV.below b19
      clear BV
      have BV := BV0
      clear BV0
      clear iu18 ix18 iv18 b19 x18 U_0 U_1 U_2 BU
      have X_0 := BX.cell 0 _ rfl
      have X_1 := BX.cell 1 _ rfl
      have X_2 := BX.cell 2 _ rfl
      go_wp2_with fail
      refine (implShowTable _ ⟨ps, bl, mx⟩ _ ix19 l0 (fun k hk => HBD.out.ps _ (List.getElem_mem hk))).mono ?_
      rintro e w20 ⟨rfl, b20⟩
      rw [← HSS.out]
      have x20 := x19.trans (b20.mono x19.size)
      have iv20 := iv19.below b20
      have BV0 := BV.below b20
      clear BV
      have BV := BV0
      clear BV0
      clear ix19 iv19 b20 x19 X_0 X_1 X_2 BX
      have V_0 := BV.cell 0 _ rfl
      have V_1 := BV.cell 1 _ rfl
      have V_2 := BV.cell 2 _ rfl
      cases b'
      · go_wp2
        go_ret
        exact ⟨rfl, x20⟩
      · have hy := (HC.out.yes rfl).2
        have hszs := tab_sizes (HC.out.yes rfl).1
        have HS := Lib.hid hszs.2.2.2.2
        have hl' : (T'.parts.length : Int) ≤ 1048576 := by have := hszs.1; omega
        have HY := Lib.hid (show str (showTab T') = r from by rw [hy, str_of])
        clear hszs hy
        go_wp2_with fail
        refine (implShowTable _ T' _ iv20 hl' (fun k hk => by have := (HS.out k hk).2; omega)).mono ?_
        rintro e w21 ⟨rfl, b21⟩
        rw [HY.out]
        go_wp2
        go_ret
        exact ⟨rfl, x20.trans (b21.mono x20.size)⟩
end Go.Proofs.Ytfbbdnicplbmdaa
set_option linter.unusedVariables false
namespace Go.Proofs.Ytfbbdnicplbmdaa
open Go.ChangeShapes Go.WideShapes Go.Deep Go.RowKit Sp

section
variable {H : Type} {enc : TypeId × Value → H} {P : Program} {w : World} {base : Nat} {spare : Nat → Bool} {held : Bool}
theorem open_byts_at {t e : TypeId} {v : Value} {fuel : Nat} {x : DataW H × List MemPlace} (ht : P.underlying t = some (.slice e)) (he : P.underlying e = some (.int .u8)) (hC : P.cellsOf e = 1)
    (hf : DataW.trod enc P w base spare held fuel t [v] = some x) : ∃ l, SlT bytC 1 w v l := by
  rcases open_slice1 ht hC hf with ⟨hcs, _⟩ | ⟨x, len, cap, m, n, V, D, Pl, hcs, _, hl, hm, hmm, _, hi⟩
  · obtain rfl : v = _ := List.head_eq_of_cons_eq hcs
    exact ⟨[], ⟨none, 0, rfl, by simp, by omega, fun h => by simp at h⟩⟩
  · obtain rfl : v = _ := List.head_eq_of_cons_eq hcs
    have hlm : len ≤ m := by rw [hmm]; split <;> omega
    obtain ⟨ll, hll, hlr⟩ := list_of len (fun i (y : UInt8) => w.cell? (x.add i) = some (B y)) fun i hil => by
      obtain ⟨h1, h2⟩ := hi i (by omega)
      obtain ⟨z, hz, _, hw⟩ := DataW.trod_int he h2
      obtain hz : V i = _ := List.head_eq_of_cons_eq hz
      have hb := bounds_u8 hw
      refine ⟨UInt8.ofNat z.toNat, ?_⟩
      rw [h1, hz, B_ofNat, Int.toNat_of_nonneg hb.1, Int.emod_eq_of_lt hb.1 (by omega)]
    refine ⟨ll, ⟨some x, cap, by rw [List.length_map, hll], by rw [List.length_map, hll]; exact hl, by simpa [maxLen] using hm, fun hlen => ?_⟩⟩
    rw [List.length_map] at hlen
    have hc0 := hlr 0 ll[0] (by simp [hlen])
    obtain ⟨b, off, spot⟩ := x
    have hspot : spot = none := by simpa [Addr.add] using World.cell?_spot hc0
    subst hspot
    refine ⟨b, off, rfl, block_lt_of_cell (by simpa [Addr.add] using hc0), fun i cs hi' j u hj => ?_⟩
    rw [List.getElem?_map] at hi'
    obtain ⟨y, hy, rfl⟩ := Option.map_eq_some_iff.1 hi'
    have := hlr i y hy
    rw [add_plain] at this
    match j, hj with
    | 0, hj => obtain rfl := Option.some.inj hj; rw [Nat.mul_one]; exact this
    | j + 1, hj => simp [bytC] at hj
end
set_option maxRecDepth 100000 in
theorem openByt {H : Type} {enc : TypeId × Value → H} {w : World} {base b0 : Nat} {spare : Nat → Bool} {held : Bool} {r : Reach} {v : Value} {d : DataW H} {p : List MemPlace} (hv : Value.okWide Try.prog w r b0 22 v) (h : DataW.Trod enc Try.prog w base spare held 22 v d p) :
    ∃ l : List UInt8, SlT bytC 1 w v l := by
  obtain ⟨a, len, cap, rfl⟩ := okWide_slice Try.underlying22 hv
  obtain ⟨fuel, hf⟩ := h
  exact open_byts_at Try.underlying22 Try.underlying5 (by kernel_rfl) hf
end Go.Proofs.Ytfbbdnicplbmdaa
