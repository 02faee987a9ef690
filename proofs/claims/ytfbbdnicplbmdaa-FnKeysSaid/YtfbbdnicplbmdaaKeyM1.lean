
/- Walk: KeyAdd of the reference. -/
import Derived.Test.YtfbbdnicplbmdaaDrawW
import Derived.Lib.AppendIntMem
import Derived.Test.YtfbbdnicplbmdaaOwn
import Derived.Deep.RegionLaw
import Derived.Lib.SliceRun
import Derived.Deep.RegionHeld
import Derived.Lib.Hide
import Derived.Test.YtfbbdnicplbmdaaKKeySlotA
import Derived.Test.YtfbbdnicplbmdaaOKeySlot
import Derived.Test.YtfbbdnicplbmdaaTypes
import Derived.Test.YtfbbdnicplbmdaaLaws
import Derived.Test.YtfbbdnicplbmdaaRep
import Derived.Test.YtfbbdnicplbmdaaSlices
import Derived.WalkKit
import Derived.WalkSpells
import Derived.WalkLawsBesides
import Derived.BigQuiet
import Derived.Lib.QuietBelow
import Derived.Lib.SmallJoins
import Derived.Carry
import Derived.Test.YtfbbdnicplbmdaaMapP
import Derived.Test.YtfbbdnicplbmdaaIn
import Derived.LoopN
import Derived.Test.YtfbbdnicplbmdaaMark
import Derived.Test.YtfbbdnicplbmdaaTouch
import Derived.Test.YtfbbdnicplbmdaaRow
import Derived.Test.YtfbbdnicplbmdaaApp
import Derived.Lib.LazyBuf
import Derived.Deep.DeepCutAuto
import Derived.Lib.AppendZerosOnto
import Derived.Lib.Overlaps
import Derived.Laws.IdiomCopy
/- Walks: the draws' helpers: a number below another one, once in n, one of a list. -/
set_option linter.unusedVariables false
set_option linter.unusedSimpArgs false
namespace Go.Proofs.Ytfbbdnicplbmdaa
open Go.RowKit Sp Go.Sort
theorem grown2 {a b c : World} {r : Option Nat} (h : a.grownBy b r) (k : b.grownBy c r) : a.grownBy c r :=
  ⟨k.os.trans h.os, k.tape.trans h.tape, k.output.trans h.output, Nat.le_trans h.size k.size, fun i hi hne => (k.block i (Nat.lt_of_lt_of_le hi h.size) hne).trans (h.block i hi hne)⟩
theorem wrap_small (s : Nat) (h : (s : Int) ≤ 4611686018427387904) : wrap64 (s : Int) = s := by unfold wrap64; omega
theorem wrap_i64_small (s : Nat) (h : (s : Int) ≤ 4611686018427387904) : IntKind.i64.wrap (s : Int) = s := by rw [IntKind.wrap_i64]; omega
theorem combI (x y z u : Int) (hx : 0 ≤ x ∧ x ≤ 255) (hy : 0 ≤ y ∧ y ≤ 255) (hz : 0 ≤ z ∧ z ≤ 255) (hu : 0 ≤ u ∧ u ≤ 255) :
    0 ≤ x * 16777216 + y * 65536 + z * 256 + u ∧ x * 16777216 + y * 65536 + z * 256 + u ≤ 4611686018427387904 ∧
    IntKind.i64.wrap (x * 16777216) = x * 16777216 ∧ IntKind.i64.wrap (y * 65536) = y * 65536 ∧ IntKind.i64.wrap (z * 256) = z * 256 ∧
    IntKind.i64.wrap (x * 16777216 + y * 65536) = x * 16777216 + y * 65536 ∧ IntKind.i64.wrap (x * 16777216 + y * 65536 + z * 256) = x * 16777216 + y * 65536 + z * 256 := by
  simp only [IntKind.wrap_i64]
  omega
theorem comb (x y z u : Nat) (hx : (x : Int) ≤ 255) (hy : (y : Int) ≤ 255) (hz : (z : Int) ≤ 255) (hu : (u : Int) ≤ 255) :
    ∃ s : Nat, (x : Int) * 16777216 + (y : Int) * 65536 + (z : Int) * 256 + (u : Int) = (s : Int) ∧ (s : Int) ≤ 4611686018427387904 ∧
    IntKind.i64.wrap ((x : Int) * 16777216) = (x : Int) * 16777216 ∧ IntKind.i64.wrap ((y : Int) * 65536) = (y : Int) * 65536 ∧ IntKind.i64.wrap ((z : Int) * 256) = (z : Int) * 256 ∧
    IntKind.i64.wrap ((x : Int) * 16777216 + (y : Int) * 65536) = (x : Int) * 16777216 + (y : Int) * 65536 ∧ IntKind.i64.wrap ((x : Int) * 16777216 + (y : Int) * 65536 + (z : Int) * 256) = (x : Int) * 16777216 + (y : Int) * 65536 + (z : Int) * 256 := by
  obtain ⟨h1, h2, h3⟩ := combI x y z u ⟨Int.natCast_nonneg _, hx⟩ ⟨Int.natCast_nonneg _, hy⟩ ⟨Int.natCast_nonneg _, hz⟩ ⟨Int.natCast_nonneg _, hu⟩
  obtain ⟨s, hs⟩ := Int.eq_ofNat_of_zero_le h1
  exact ⟨s, hs, by rw [← hs]; exact h2, h3⟩
theorem tmod_nat (x m : Nat) : Int.tmod (x : Int) (m : Int) = ((x % m : Nat) : Int) := rfl

set_option maxRecDepth 100000 in
set_option maxHeartbeats 800000 in
theorem l1Below_any (b : Nat) (w0 : World) (v : Value) (xs : List UInt8) (n : Int) (hn : n ≤ 4611686018427387904) (w : World) (h : Cu w b w0 v xs) :
    Calls Try.prog 66 #[.pointer (some ⟨b, 0, none⟩), .int .i64 n] w fun e w' => ∃ x : Nat, e = .returned (.int .i64 x) ∧ (0 < n → (x : Int) < n) ∧ (n ≤ 0 → x = 0) ∧ Cu w' b w0 v xs ∧ w.grownBy w' (some b) := by
  by_cases h0 : n ≤ 0
  · go_enter Try.func66, Try.ntmps66
    go_wp2
    go_ret
    exact ⟨0, rfl, fun h => by omega, fun _ => rfl, h, World.grownBy.refl _ _⟩
  · obtain ⟨m, rfl⟩ : ∃ m : Nat, n = (m : Int) := ⟨n.toNat, by omega⟩
    have hm : (m : Int) ≠ 0 := by omega
    by_cases h1 : (m : Int) ≤ 256
    · go_enter Try.func66, Try.ntmps66
      go_wp2_with fail
      refine (l1Byte_any b w0 v xs _ h).mono ?_
      rintro e w1 ⟨x, rfl, hx, c1, g1⟩
      have HT := tmod_nat x m
      have hlt : x % m < m := Nat.mod_lt _ (by omega)
      generalize x % m = r at *
      go_wp2
      go_ret
      exact ⟨r, rfl, fun _ => by omega, fun h => by omega, c1, g1⟩
    · go_enter Try.func66, Try.ntmps66
      go_wp2_with fail
      refine (l1Byte_any b w0 v xs _ h).mono ?_
      rintro e w1 ⟨x, rfl, hx, c1, g1⟩
      go_wp2_with fail
      refine (l1Byte_any b w0 v xs _ c1).mono ?_
      rintro e w2 ⟨y, rfl, hy, c2, g2⟩
      go_wp2_with fail
      refine (l1Byte_any b w0 v xs _ c2).mono ?_
      rintro e w3 ⟨z, rfl, hz, c3, g3⟩
      go_wp2_with fail
      refine (l1Byte_any b w0 v xs _ c3).mono ?_
      rintro e w4 ⟨u, rfl, hu, c4, g4⟩
      obtain ⟨s, hs, hs2, W1, W2, W3, W4, W5⟩ := comb x y z u hx hy hz hu
      have W6 := wrap_i64_small s hs2
      have W7 := wrap_small s hs2
      have HT := tmod_nat s m
      have hlt : s % m < m := Nat.mod_lt _ (by omega)
      generalize s % m = r at *
      go_wp2
      go_ret
      exact ⟨r, rfl, fun _ => by omega, fun h => by omega, c4, grown2 (grown2 (grown2 g1 g2) g3) g4⟩

set_option maxRecDepth 100000 in
set_option maxHeartbeats 800000 in
theorem l1Once_any (b : Nat) (w0 : World) (v : Value) (xs : List UInt8) (n : Int) (hn : n ≤ 4611686018427387904) (w : World) (h : Cu w b w0 v xs) :
    Calls Try.prog 88 #[.pointer (some ⟨b, 0, none⟩), .int .i64 n] w fun e w' => ∃ x : Bool, e = .returned (.bool x) ∧ Cu w' b w0 v xs ∧ w.grownBy w' (some b) := by
  go_enter Try.func88, Try.ntmps88
  go_wp2_with fail
  refine (l1Below_any b w0 v xs n hn _ h).mono ?_
  rintro e w1 ⟨x, rfl, _, _, c1, g1⟩
  go_wp2
  go_ret
  exact ⟨_, rfl, c1, g1⟩

theorem lit_slT {α : Type} (enc : α → List Value) (cs : Array Value) (l : List α) (n : Nat) (W : World) (T : TypeId) (hl : (l.map enc).flatten = cs.toList) (h1 : ∀ x, (enc x).length = 1) (hc : cs.size = n * 1) (hn : n ≤ 1000) : SlT enc 1 (W.alloc (.cells cs T)) (.slice (some ⟨W.heap.size, 0, none⟩) n n) l := by
  have h := World.ownsRow_lit (base := W.heap.size) (e := T) (size := 1) W cs n (Nat.le_refl _) (by simp only [maxLen]; omega) hc
  rw [← hl] at h
  exact SlT.of_own h h1 (by decide)
/-- One of a list of numbers. -/
def intC (x : Int) : List Value := [.int .i64 x]
set_option maxRecDepth 100000 in
set_option maxHeartbeats 800000 in
theorem l1PickInt_any (b : Nat) (w0 : World) (v : Value) (xs : List UInt8) (w : World) (h : Cu w b w0 v xs) (vl : Value) (l : List Int) (hl : SlT intC 1 w vl l) (hb : ∀ a n c, vl = .slice (some a) n c → 0 < n → a.block ≠ b) (h0 : 0 < l.length) (hl2 : (l.length : Int) ≤ 1000) :
    Calls Try.prog 120 #[.pointer (some ⟨b, 0, none⟩), vl] w fun e w' => ∃ x, x ∈ l ∧ e = .returned (.int .i64 x) ∧ Cu w' b w0 v xs ∧ w.grownBy w' (some b) := by
  obtain ⟨ao, cap, rfl, hlc, hcm, hsh⟩ := hl.shape
  go_enter Try.func120, Try.ntmps120
  go_wp2_with fail
  refine (l1Below_any b w0 v xs (l.length : Int) (by omega) _ h).mono ?_
  rintro e w1 ⟨k, rfl, hk, _, c1, g1⟩
  have hk := hk (by omega)
  have hkl : k < l.length := by omega
  obtain ⟨gb, off, rfl, hgl, hcell⟩ := hsh h0
  have ce : w1.cell? ⟨gb, off + k, none⟩ = some (.int .i64 l[k]) := by
    have := hcell k hkl 0 (.int .i64 l[k]) rfl
    rw [Nat.mul_one, Nat.add_zero] at this
    exact ((gcell g1 (b := gb) hgl (by intro e; exact hb _ _ _ rfl h0 (Option.some.inj e).symm)).1 _).trans this
  go_wp2
  go_ret
  exact ⟨_, List.getElem_mem hkl, rfl, c1, g1⟩

set_option maxRecDepth 100000 in
set_option maxHeartbeats 800000 in
theorem l1Pick_any (b : Nat) (w0 : World) (v : Value) (xs : List UInt8) (w : World) (h : Cu w b w0 v xs) (vl : Value) (l : List ByteArray) (hl : SlT strCells 1 w vl l) (hb : ∀ a n c, vl = .slice (some a) n c → 0 < n → a.block ≠ b) (h0 : 0 < l.length) (hl2 : (l.length : Int) ≤ 1000) :
    Calls Try.prog 136 #[.pointer (some ⟨b, 0, none⟩), vl] w fun e w' => ∃ x, x ∈ l ∧ e = .returned (.string x) ∧ Cu w' b w0 v xs ∧ w.grownBy w' (some b) := by
  obtain ⟨ao, cap, rfl, hlc, hcm, hsh⟩ := hl.shape
  go_enter Try.func136, Try.ntmps136
  go_wp2_with fail
  refine (l1Below_any b w0 v xs (l.length : Int) (by omega) _ h).mono ?_
  rintro e w1 ⟨k, rfl, hk, _, c1, g1⟩
  have hk := hk (by omega)
  have hkl : k < l.length := by omega
  obtain ⟨gb, off, rfl, hgl, hcell⟩ := hsh h0
  have ce : w1.cell? ⟨gb, off + k, none⟩ = some (.string l[k]) := by
    have := hcell k hkl 0 (.string l[k]) rfl
    rw [Nat.mul_one, Nat.add_zero] at this
    exact ((gcell g1 (b := gb) hgl (by intro e; exact hb _ _ _ rfl h0 (Option.some.inj e).symm)).1 _).trans this
  go_wp2
  go_ret
  exact ⟨_, List.getElem_mem hkl, rfl, c1, g1⟩
end Go.Proofs.Ytfbbdnicplbmdaa
/- Walks: the draws' text, and a new cursor. -/
set_option linter.unusedVariables false
set_option linter.unusedSimpArgs false
namespace Go.Proofs.Ytfbbdnicplbmdaa
open Go.RowKit Sp Go.Sort
/-- What grows a block of one's own, or lays new ones, leaves the rest alone. -/
theorem grown_own {w a c : World} {b : Nat} {r : Option Nat} (h : w.grownBy a (some b)) (k : a.grownBy c r) (hr : ∀ g, r = some g → w.heap.size ≤ g) : w.grownBy c (some b) :=
  ⟨k.os.trans h.os, k.tape.trans h.tape, k.output.trans h.output, Nat.le_trans h.size k.size, fun i hi hne => (k.block i (Nat.lt_of_lt_of_le hi h.size) (fun e => by have := hr i e.symm; omega)).trans (h.block i hi hne)⟩
theorem grown_below {w a c : World} {r : Option Nat} (h : w.grownBy a r) (k : Below a.heap.size a c) : w.grownBy c r :=
  ⟨k.os.trans h.os, k.tape.trans h.tape, k.output.trans h.output, Nat.le_trans h.size k.size, fun i hi hne => (k.block i (Nat.lt_of_lt_of_le hi h.size)).trans (h.block i hi hne)⟩
theorem Cu.old_le {w : World} {b : Nat} {w0 : World} {v : Value} {xs : List UInt8} (h : Cu w b w0 v xs) : w0.heap.size ≤ w.heap.size := h.bel.size

theorem own_slD {w : World} {base e size n : Nat} {v : Value} {xs : List Value} (h : w.ownsRow base e size v n xs) (hn : 0 < n) : ∃ g cap, v = .slice (some ⟨g, 0, none⟩) n cap := by
  rcases h.2 with ⟨_, h0⟩ | ⟨g, cap, cur, hv, _⟩
  · omega
  · exact ⟨g, cap, hv⟩
theorem own_form {w : World} {base e size n : Nat} {v : Value} {xs : List Value} (h : w.ownsRow base e size v n xs) : ∃ ao cp, v = .slice ao n cp := by
  rcases h.2 with ⟨h1, h2⟩ | ⟨g, cap, cur, hv, _⟩
  · exact ⟨none, 0, by rw [h1, h2]⟩
  · exact ⟨_, cap, hv⟩
theorem own_byte {w : World} {base e n : Nat} {v : Value} {l : List UInt8} {z : Int} (h : w.ownsRow base e 1 v n (l.map B ++ #[Value.int .u8 z].toList)) (hz : 0 ≤ z ∧ z ≤ 255) : w.ownsRow base e 1 v n ((l ++ [UInt8.ofNat z.toNat]).map B) := by
  rw [List.map_append, List.map_singleton, B_ofNat, Int.toNat_of_nonneg hz.1, Int.emod_eq_of_lt hz.1 (by omega)]
  exact h

set_option maxRecDepth 100000 in
set_option maxHeartbeats 800000 in
theorem l1Text_any (b : Nat) (w0 : World) (v : Value) (xs : List UInt8) (most : Nat) (hm : (most : Int) ≤ 1000) (w : World) (h : Cu w b w0 v xs) :
    Calls Try.prog 151 #[.pointer (some ⟨b, 0, none⟩), .int .i64 most] w fun e w' => ∃ t : ByteArray, e = .returned (.string t) ∧ (t.size : Int) ≤ most ∧ Cu w' b w0 v xs ∧ w.grownBy w' (some b) := by
  have hlt := h.lt
  have hle := h.old_le
  have hal : ∀ (W : World) (o : Obj), RowKit.Below W.heap.size W (W.alloc o) := fun W o => (Below.refl _ _).alloc (Nat.le_refl _) _
  have h0 : (w.alloc (.cells #[] 5)).ownsRow w.heap.size 5 1 (.slice (some ⟨w.heap.size, 0, none⟩) 0 0) 0 (([] : List UInt8).map B) := World.ownsRow_lit w #[] 0 (Nat.le_refl _) (by simp [maxLen]) rfl
  have c0 := h.below (hal w (.cells #[] 5))
  have g0 := grown_below (World.grownBy.refl w (some b)) (hal w (.cells #[] 5))
  have M1 : IntKind.i64.wrap ((most : Int) + 1) = (most : Int) + 1 := by rw [IntKind.wrap_i64]; omega
  go_enter Try.func151, Try.ntmps151
  go_wp2_with fail
  refine (l1Below_any b w0 v xs 4 (by decide) _ c0).mono ?_
  rintro e w1 ⟨st, rfl, hst, _, c1, g1⟩
  have o1 := own_grown h0 g1 (fun k hk e => by have := (h0.lt _ hk).1; have := Option.some.inj e; omega)
  have q1 := grown2 g0 g1
  go_wp2_with fail
  refine (l1Below_any b w0 v xs ((most : Int) + 1) (by omega) _ c1).mono ?_
  rintro e w2 ⟨n0, rfl, hn0, _, c2, g2⟩
  have o2 := own_grown o1 g2 (fun k hk e => by have := (o1.lt _ hk).1; have := Option.some.inj e; omega)
  have q2 := grown2 q1 g2
  have hn0 := hn0 (by omega)
  have hst := hst (by decide)
  clear h0 c0 g0 c1 g1 o1 q1 g2
  go_wp2_with fail
  go_loopw [5, 7] (fun o n wr => ∃ (r : Nat) (l : List UInt8) (kk : Nat), n = .int .i64 r ∧ RowKit.Hid (l.length = kk) ∧ wr.ownsRow w.heap.size 5 1 o kk (l.map B) ∧ kk + r ≤ most ∧ Cu wr b w0 v xs ∧ w.grownBy wr (some b)) (fun _ n _ => (intOf n).toNat)
  case atStart => exact ⟨n0, [], 0, rfl, rfl, o2, by omega, c2, q2⟩
  case round =>
    clear o2 c2 q2
    obtain ⟨r, l, kk, rfl, hkl, ho, hr, c3, q3⟩ := hrel
    by_cases hr0 : 0 < r
    · have R1 : IntKind.i64.wrap ((r : Int) - 1) = ((r - 1 : Nat) : Int) := by rw [IntKind.wrap_i64]; omega
      go_wp2_with fail
      refine (l1Byte_any b w0 v xs _ c3).mono ?_
      rintro e w4 ⟨x, rfl, hx, c4, g4⟩
      have o4 := own_grown ho g4 (fun k hk e => by have := (ho.lt _ hk).1; have := Option.some.inj e; omega)
      have q4 := grown2 q3 g4
      have T2 := tmod_nat x 2
      have T4 := tmod_nat x 4
      rcases (by omega : st = 1 ∨ st = 2 ∨ (st ≠ 1 ∧ st ≠ 2)) with rfl | rfl | ⟨s1, s2⟩
      · skip
        go_wp2_with (at_builtin; go_loud (refine app_new rfl rfl Try.underlying22 info_u8 rfl (by decide) o4 rfl 1 (by simp [Act.eval]) rfl (by simp [Value.oneCell']) (by omega) (Below.refl w.heap.size w4) (Nat.le_refl _) q4.size ?_; intro v8 w8 r8 x8 g8))
        have c8 := c4.grown g8 (fun e => by have := (o4.lt _ e).1; omega) (fun k e => by have := (o4.lt _ e).1; omega)
        have q8 := grown_own q4 g8 (fun k e => (o4.lt _ e).1)
        have r9 := own_byte r8 (by omega)
        obtain ⟨gg, cap, rfl⟩ := own_slD r9 (by omega)
        go_roundw
        case rel => exact ⟨r - 1, rfl, l ++ [UInt8.ofNat ((x : Int) % 2 : Int).toNat], kk + 1, (by rw [List.length_append, hkl.out]; rfl), r9, by omega, c8, q8⟩
        case measure => simp [intOf]; omega
      · skip
        go_wp2_with (at_builtin; go_loud (refine app_new rfl rfl Try.underlying22 info_u8 rfl (by decide) o4 rfl 1 (by simp [Act.eval]) rfl (by simp [Value.oneCell']) (by omega) (Below.refl w.heap.size w4) (Nat.le_refl _) q4.size ?_; intro v8 w8 r8 x8 g8))
        have c8 := c4.grown g8 (fun e => by have := (o4.lt _ e).1; omega) (fun k e => by have := (o4.lt _ e).1; omega)
        have q8 := grown_own q4 g8 (fun k e => (o4.lt _ e).1)
        have r9 := own_byte r8 (by omega)
        obtain ⟨gg, cap, rfl⟩ := own_slD r9 (by omega)
        go_roundw
        case rel => exact ⟨r - 1, rfl, l ++ [UInt8.ofNat (97 + (x : Int) % 4 : Int).toNat], kk + 1, (by rw [List.length_append, hkl.out]; rfl), r9, by omega, c8, q8⟩
        case measure => simp [intOf]; omega
      · have s1' : ¬ (st : Int) = 1 := by omega
        have s2' : ¬ (st : Int) = 2 := by omega
        go_wp2_with (at_builtin; go_loud (refine app_new rfl rfl Try.underlying22 info_u8 rfl (by decide) o4 rfl 1 (by simp [Act.eval]) rfl (by simp [Value.oneCell']) (by omega) (Below.refl w.heap.size w4) (Nat.le_refl _) q4.size ?_; intro v8 w8 r8 x8 g8))
        have c8 := c4.grown g8 (fun e => by have := (o4.lt _ e).1; omega) (fun k e => by have := (o4.lt _ e).1; omega)
        have q8 := grown_own q4 g8 (fun k e => (o4.lt _ e).1)
        have r9 := own_byte r8 (by omega)
        obtain ⟨gg, cap, rfl⟩ := own_slD r9 (by omega)
        go_roundw
        case rel => exact ⟨r - 1, l ++ [UInt8.ofNat ((x : Int) : Int).toNat], kk + 1, rfl, (by rw [List.length_append, hkl.out]; rfl), r9, by omega, c8, q8⟩
        case measure => simp [intOf]; omega
    · obtain rfl : r = 0 := by omega
      have kc := conv_owns (P := Try.prog) (dst := 9) ho Try.underlying22 Try.underlying5 Try.underlying9
      go_wp2
      go_ret
      exact ⟨str l, rfl, by rw [str_size]; have := hkl.out; omega, c3, q3⟩

theorem and_in (a c : Int) : inI64 (bits .and .i64 a c) := by
  show inI64 (IntKind.i64.wrap _)
  rw [IntKind.wrap_i64]
  unfold inI64; omega
set_option maxRecDepth 100000 in
set_option maxHeartbeats 800000 in
theorem l1New_any (v : Value) (xs : List UInt8) (w : World) (h : SlT bytC 1 w v xs) (hs : (xs.length : Int) ≤ 1048576) :
    Calls Try.prog 63 #[v] w fun e w' => ∃ b, e = .returned (.pointer (some ⟨b, 0, none⟩)) ∧ Cu w' b w v xs ∧ Below w.heap.size w w' := by
  obtain ⟨ao, cap, rfl, hlc, hcm, hsh⟩ := h.shape
  have hal : ∀ (W : World) (o : Obj), RowKit.Below W.heap.size W (W.alloc o) := fun W o => (Below.refl _ _).alloc (Nat.le_refl _) _
  go_enter Try.func63, Try.ntmps63
  go_wp2
  go_loopw [3, 4] (fun hv i wr => ∃ (k : Nat) (z : Int), hv = .int .i64 z ∧ inI64 z ∧ i = .int .i64 k ∧ k ≤ xs.length ∧ (k : Int) ≤ 4000 ∧ wr = w) (fun _ i _ => 4000 - (intOf i).toNat)
  case atStart => exact ⟨0, 10101 + xs.length, rfl, ⟨by omega, by omega⟩, rfl, by omega, by omega, rfl⟩
  case round =>
    obtain ⟨k, z, rfl, hz, rfl, hk, hk4, rfl⟩ := hrel
    by_cases hgo : k < xs.length ∧ k < 4000
    · obtain ⟨g1, g2⟩ := hgo
      obtain ⟨gb, off, rfl, hgl, hcell⟩ := hsh (by omega)
      have ce : wr.cell? ⟨gb, off + k, none⟩ = some (.int .u8 (xs[k].toNat : Int)) := by
        have := hcell k g1 0 (B xs[k]) rfl
        rwa [Nat.mul_one, Nat.add_zero] at this
      have K1 : IntKind.i64.wrap ((k : Int) + 1) = ((k + 1 : Nat) : Int) := by rw [IntKind.wrap_i64]; omega
      go_wp2
      go_roundw
      case rel => exact ⟨k + 1, _, rfl, and_in _ _, by go_num, g1, by omega, trivial⟩
      case measure => simp [intOf]; omega
    · have hgo2 : (k : Int) < xs.length → ¬ (k : Int) < 4000 := fun h1 h2 => hgo ⟨by omega, by omega⟩
      go_wp2
      all_goals
        go_ret
        exact ⟨_, rfl, ⟨⟨0, z, Bx.new wr _ _, Nat.zero_le _, hz⟩, h, hal _ _, Nat.le_refl _, hs⟩, hal _ _⟩
end Go.Proofs.Ytfbbdnicplbmdaa
/- Plain and laws: cells stored in a row from one place on; a row cut short; clear. No program in sight. -/
set_option linter.unusedVariables false
set_option linter.unusedSimpArgs false
namespace Go.Proofs.Ytfbbdnicplbmdaa
open Go.RowKit Sp
namespace Sp
def setAll {α : Type} : List α → Nat → List α → List α
  | xs, _, [] => xs
  | xs, o, u :: us => setAll (xs.set o u) (o + 1) us
theorem setAll_length {α : Type} : ∀ (us xs : List α) (o : Nat), (setAll xs o us).length = xs.length
  | [], _, _ => rfl
  | u :: us, xs, o => by rw [setAll, setAll_length us]; simp
theorem setAll_take {α : Type} : ∀ (us xs : List α) (o k : Nat), k ≤ o → (setAll xs o us).take k = xs.take k
  | [], _, _, _, _ => rfl
  | u :: us, xs, o, k, h => by rw [setAll, setAll_take us _ _ _ (by omega), List.take_set_of_le h]
theorem setAll_eq {α : Type} : ∀ (us xs : List α) (o : Nat), o + us.length ≤ xs.length → (setAll xs o us).take (o + us.length) = xs.take o ++ us
  | [], xs, o, _ => by simp [setAll]
  | u :: us, xs, o, h => by
    rw [setAll, show o + (u :: us).length = (o + 1) + us.length from by simp; omega, setAll_eq us _ _ (by simp at h ⊢; omega)]
    rw [List.take_succ_eq_append_getElem (by simp at h ⊢; omega), List.take_set_of_le (Nat.le_refl _)]
    simp
theorem flat_take {α β : Type} {f : α → List β} {n : Nat} (hf : ∀ x, (f x).length = n) : ∀ (l : List α) (k : Nat), ((l.map f).flatten).take (k * n) = ((l.take k).map f).flatten
  | [], k => by simp
  | x :: l, 0 => by simp
  | x :: l, k + 1 => by
    rw [List.map_cons, List.flatten_cons, List.take_succ_cons, List.map_cons, List.flatten_cons, List.take_append, ← flat_take hf l k, hf]
    rw [List.take_of_length_le (by rw [hf, Nat.succ_mul]; omega), show (k + 1) * n - n = k * n from by rw [Nat.succ_mul]; omega]
end Sp
theorem own_setCells {e size base g n cap : Nat} : ∀ (us : List Value) (w : World) (xs : List Value) (o : Nat), w.ownsRow base e size (.slice (some ⟨g, 0, none⟩) n cap) n xs →
    (w.setCells g o us).ownsRow base e size (.slice (some ⟨g, 0, none⟩) n cap) n (setAll xs o us) ∧ w.grownBy (w.setCells g o us) (some g)
  | [], w, xs, o, h => ⟨h, ⟨rfl, rfl, rfl, Nat.le_refl _, fun k _ _ => rfl⟩⟩
  | u :: us, w, xs, o, h => by
    have h1 := h.stored o u
    have h2 := own_setCells us (w.setCell ⟨g, o, none⟩ u) _ (o + 1) h1.1
    refine ⟨h2.1, ?_⟩
    have a := h1.2
    have b := h2.2
    exact ⟨b.os.trans a.os, b.tape.trans a.tape, b.output.trans a.output, Nat.le_trans a.size b.size, fun k hk hne => (b.block k (Nat.lt_of_lt_of_le hk a.size) hne).trans (a.block k hk hne)⟩
theorem own_cut {w : World} {e size base g n cap m : Nat} {xs : List Value} (h : w.ownsRow base e size (.slice (some ⟨g, 0, none⟩) n cap) n xs) (hm : m ≤ n) : w.ownsRow base e size (.slice (some ⟨g, 0, none⟩) m cap) m (xs.take (m * size)) := by
  refine ⟨by rw [List.length_take, h.1]; exact Nat.min_eq_left (Nat.mul_le_mul_right _ hm), ?_⟩
  rcases h.2 with ⟨hn, _⟩ | ⟨g', cap', cur, hv, hb', hg, hc, hcm, hcs, ht⟩
  · cases hn
  · simp only [Value.slice.injEq, Option.some.injEq, Addr.mk.injEq, and_true, true_and] at hv
    obtain ⟨rfl, rfl⟩ := hv
    refine .inr ⟨g, cap, cur, rfl, hb', hg, by omega, hcm, hcs, ?_⟩
    rw [← ht, List.take_take, Nat.min_eq_left (Nat.mul_le_mul_right _ hm)]
theorem own_cell {w : World} {e size base g n cap : Nat} {xs : List Value} (h : w.ownsRow base e size (.slice (some ⟨g, 0, none⟩) n cap) n xs) {k : Nat} {u : Value} (hk : xs[k]? = some u) : w.cell? ⟨g, k, none⟩ = some u := by
  rcases h.2 with ⟨hn, _⟩ | ⟨g', cap', cur, hv, hb', hg, hc, hcm, hcs, ht⟩
  · cases hn
  · simp only [Value.slice.injEq, Option.some.injEq, Addr.mk.injEq, and_true, true_and] at hv
    obtain ⟨rfl, rfl⟩ := hv
    rw [cell_of_row w g k cur e (0, 0) hg]
    rw [← ht, List.getElem?_take] at hk
    split at hk
    · simpa using hk
    · simp at hk
theorem run_clear_recs {P : Program} (w : World) (t e ty : TypeId) (z : Value) (ht : P.underlying t = some (.slice e)) (hv : ∀ w, (zeroValue e).run P w = .ok z w) (h1 : ∀ u ∈ (Builtin.zeroCells z.cells 1).toList, u.oneCell' = true) (b o c : Nat)
    (hc : ∀ j, j < (Builtin.zeroCells z.cells 1).toList.length → (w.cell? ⟨b, o + j, none⟩).isSome = true) (hf : ∀ j, j < (Builtin.zeroCells z.cells 1).toList.length → w.frozen? ⟨b, o + j, none⟩ = false) :
    (Builtin.clear_ #[t] ty #[.slice (some ⟨b, o, none⟩) 1 c]).run P w = .ok (.tuple #[]) (w.setCells b o (Builtin.zeroCells z.cells 1).toList) := by
  have hst := run_storeCells_cells (P := P) b o (Builtin.zeroCells z.cells 1).toList 0 w (by simpa using hc) (by simpa using hf) h1
  simp only [Nat.add_zero] at hst
  simp [Builtin.clear_, run_underlying ht, hv, hst]
end Go.Proofs.Ytfbbdnicplbmdaa
/- Walks: the draw of a key of 32 bytes. -/
set_option linter.unusedVariables false
set_option linter.unusedSimpArgs false
namespace Go.Proofs.Ytfbbdnicplbmdaa
open Go.RowKit Sp Go.Sort
set_option maxRecDepth 100000 in
set_option maxHeartbeats 1600000 in
theorem l3Key_any (b : Nat) (w0 : World) (v : Value) (xs : List UInt8) (w : World) (h : Cu w b w0 v xs) :
    Calls Try.prog 105 #[.pointer (some ⟨b, 0, none⟩)] w fun e w' => ∃ t : ByteArray, e = .returned (.string t) ∧ (t.size : Int) ≤ 32 ∧ Cu w' b w0 v xs ∧ w.grownBy w' (some b) := by
  have hlt := h.lt
  have hle := h.old_le
  have hal : ∀ (W : World) (o : Obj), RowKit.Below W.heap.size W (W.alloc o) := fun W o => (Below.refl _ _).alloc (Nat.le_refl _) _
  have h0 : (w.alloc (.cells #[] 5)).ownsRow w.heap.size 5 1 (.slice (some ⟨w.heap.size, 0, none⟩) 0 0) 0 (([] : List UInt8).map B) := World.ownsRow_lit w #[] 0 (Nat.le_refl _) (by simp [maxLen]) rfl
  have c0 := h.below (hal w (.cells #[] 5))
  have g0 := grown_below (World.grownBy.refl w (some b)) (hal w (.cells #[] 5))
  go_enter Try.func105, Try.ntmps105
  go_wp2_with fail
  refine (l1Byte_any b w0 v xs _ c0).mono ?_
  rintro e w1 ⟨x, rfl, hx, c1, g1⟩
  have o1 := own_grown h0 g1 (fun k hk e => by have := (h0.lt _ hk).1; have := Option.some.inj e; omega)
  have q1 := grown2 g0 g1
  clear h0 c0 g0 g1
  go_wp2_with fail
  go_loopw [3, 5] (fun o n wr => ∃ (k : Nat) (l : List UInt8) (kk : Nat), n = .int .i64 k ∧ (k : Int) ≤ 32 ∧ kk = k ∧ RowKit.Hid (l.length = kk) ∧ wr.ownsRow w.heap.size 5 1 o kk (l.map B) ∧ Cu wr b w0 v xs ∧ w.grownBy wr (some b)) (fun _ n _ => 32 - (intOf n).toNat)
  case atStart => exact ⟨0, [], 0, rfl, by omega, rfl, rfl, o1, c1, q1⟩
  case round =>
    clear o1 c1 q1
    obtain ⟨k, l, kk, rfl, hk32, hkk, hkl, ho, c3, q3⟩ := hrel
    have HKK := Lib.hid hkk
    clear hkk
    by_cases hk : (k : Int) < 32
    · have hkks : (kk : Int) < 32 := by have := HKK.out; omega
      go_wp2_with (at_builtin; go_loud (refine app_new rfl rfl Try.underlying22 info_u8 rfl (by decide) ho rfl 1 (by simp [Act.eval]) rfl (by simp [Value.oneCell']) (by omega) (Below.refl w.heap.size wr) (Nat.le_refl _) q3.size ?_; intro v8 w8 r8 x8 g8))
      have c8 := c3.grown g8 (fun e => by have := (ho.lt _ e).1; omega) (fun k e => by have := (ho.lt _ e).1; omega)
      have q8 := grown_own q3 g8 (fun k e => (ho.lt _ e).1)
      have r9 := own_byte r8 (by omega)
      go_roundw
      case rel => exact ⟨k + 1, l ++ [UInt8.ofNat (wrap64 (wrap64 ((x : Int) * k) + (k : Int) % 3) % 256).toNat], kk + 1, rfl, by omega, by have := HKK.out; omega, (by rw [List.length_append, hkl.out]; rfl), r9, c8, q8⟩
      case measure => simp [intOf]; omega
    · obtain rfl : kk = 32 := by have := HKK.out; omega
      obtain ⟨g, cap, rfl⟩ := own_slD ho (by decide)
      go_wp2_with fail
      refine (l1Once_any b w0 v xs 15 (by decide) _ c3).mono ?_
      rintro e w4 ⟨on, rfl, c4, g4⟩
      have o4 := own_grown ho g4 (fun k hk e => by have := (ho.lt _ hk).1; have := Option.some.inj e; omega)
      have q4 := grown2 q3 g4
      clear ho c3 q3 g4 HKK
      cases on
      · have kc := conv_owns (P := Try.prog) (dst := 9) o4 Try.underlying22 Try.underlying5 Try.underlying9
        go_wp2
        go_ret
        exact ⟨str l, rfl, by rw [str_size, hkl.out]; decide, c4, q4⟩
      · go_wp2_with fail
        refine (l1Below_any b w0 v xs 32 (by decide) _ c4).mono ?_
        rintro e w5 ⟨m, rfl, hm, _, c5, g5⟩
        have hm := hm (by decide)
        have o5 := own_grown o4 g5 (fun k hk e => by have := (o4.lt _ hk).1; have := Option.some.inj e; omega)
        have q5 := grown2 q4 g5
        have o6 := own_cut o5 (show m ≤ 32 by omega)
        rw [Nat.mul_one, ← List.map_take] at o6
        have kc := conv_owns (P := Try.prog) (dst := 9) o6 Try.underlying22 Try.underlying5 Try.underlying9
        have hcap : (32 : Int) ≤ cap := by
          rcases o5.2 with ⟨h1, _⟩ | ⟨g', cap', cur, h1, _, _, h2, _⟩
          · cases h1
          · simp at h1; omega
        clear o4 q4 c4 g5
        go_wp2
        go_ret
        exact ⟨str (l.take m), rfl, by rw [str_size]; simp; omega, c5, q5⟩
end Go.Proofs.Ytfbbdnicplbmdaa
/- Walks: the draws' spoilt text. -/
set_option linter.unusedVariables false
set_option linter.unusedSimpArgs false
namespace Go.Proofs.Ytfbbdnicplbmdaa
open Go.RowKit Sp Go.Sort

theorem hal3 (W : World) (o : Obj) : RowKit.Below W.heap.size W (W.alloc o) := (Below.refl _ _).alloc (Nat.le_refl _) _
theorem drew_grown {W W' : World} {r : Option Nat} (h : W.drew.grownBy W' r) : W.grownBy W' r := ⟨h.os, h.tape, h.output, h.size, h.block⟩
theorem below_drewS (W : World) : Below W.heap.size W W.drew := (Below.refl _ _).drew
set_option maxRecDepth 100000 in
set_option maxHeartbeats 1600000 in
theorem l1Spoil_any (b : Nat) (w0 : World) (v : Value) (xs : List UInt8) (s : ByteArray) (hs : (s.size : Int) ≤ 1000000) (w : World) (h : Cu w b w0 v xs) :
    Calls Try.prog 89 #[.pointer (some ⟨b, 0, none⟩), .string s] w fun e w' => ∃ t : ByteArray, e = .returned (.string t) ∧ (t.size : Int) ≤ 1048576 ∧ Cu w' b w0 v xs ∧ w.grownBy w' (some b) := by
  by_cases hz : s.size = 0
  · have hz' : (s.size : Int) = 0 := by omega
    go_enter Try.func89, Try.ntmps89
    go_wp2_with fail
    refine (l1Text_any b w0 v xs 3 (by decide) _ h).mono ?_
    rintro e w1 ⟨t, rfl, ht, c1, g1⟩
    go_wp2
    go_ret
    exact ⟨t, rfl, by omega, c1, g1⟩
  · have hz' : ¬ (s.size : Int) = 0 := by omega
    go_enter Try.func89, Try.ntmps89
    go_wp2_with fail
    refine (l1Below_any b w0 v xs (s.size : Int) (by omega) _ h).mono ?_
    rintro e w1 ⟨k, rfl, hk, _, c1, g1⟩
    have hk := hk (by omega)
    go_wp2_with fail
    refine (l1Below_any b w0 v xs 4 (by decide) _ c1).mono ?_
    rintro e w2 ⟨sw, rfl, hsw, _, c2, g2⟩
    have hsw := hsw (by decide)
    have q2 := grown2 g1 g2
    clear c1 g1 g2
    have K1 : IntKind.i64.wrap ((k : Int) + 1) = (k : Int) + 1 := by rw [IntKind.wrap_i64]; omega
    have K2 : ((k : Int) + 1).toNat = k + 1 := by omega
    have z1 : (s.extract 0 k).size = k := by rw [ByteArray.size_extract]; omega
    have z2 : (s.extract (k + 1) s.size).size = s.size - (k + 1) := by rw [ByteArray.size_extract]; omega
    have z3 : (s.extract k s.size).size = s.size - k := by rw [ByteArray.size_extract]; omega
    rcases (by omega : sw = 0 ∨ sw = 1 ∨ sw = 2 ∨ sw = 3) with rfl | rfl | rfl | rfl
    · have f1 : ¬ 9223372036854775807 < k + (s.size - (k + 1)) := by omega
      have f2 : (k : Int) ≤ s.size := by omega
      have f3 : (k : Int) + 1 ≤ s.size := by omega
      have f4 : (0 : Int) ≤ (k : Int) + 1 := by omega
      have c3 := c2.below (below_drewS w2)
      go_wp2_with fail
      go_region
      go_wp2
      go_ret
      exact ⟨_, rfl, by rw [ByteArray.size_append, z1, z2]; omega, c3, grown_drewN q2 1⟩
    · have f1 : ¬ 9223372036854775807 < k + 1 := by omega
      have f5 : ¬ 9223372036854775807 < k + 1 + (s.size - k) := by omega
      have f2 : (k : Int) ≤ s.size := by omega
      have c3 := c2.below (below_drewS w2)
      have hs1 : ∀ c : UInt8, (str [c]).size = 1 := fun _ => rfl
      have cv := fun W x => conv_one (P := Try.prog) (src := 22) (dst := 9) Try.underlying22 Try.underlying5 Try.underlying9 W x
      go_wp2_with fail
      go_region_with (go_at_call 137; refine (l1Byte_any b w0 v xs _ c3).mono ?_; rintro e w3 ⟨y, rfl, hy, c4, g4⟩)
      all_goals
        go_wp2
        go_ret
        exact ⟨_, rfl, by rw [ByteArray.size_append, ByteArray.size_append, z1, z3, hs1]; omega, c4.below (hal3 _ _), grown_below (grown2 q2 (drew_grown g4)) (hal3 _ _)⟩
    · have f2 : (k : Int) ≤ s.size := by omega
      go_wp2
      go_ret
      exact ⟨_, rfl, by rw [z1]; omega, c2, q2⟩
    · have f1 : ¬ 9223372036854775807 < k + 1 := by omega
      have f5 : ¬ 9223372036854775807 < k + 1 + (s.size - (k + 1)) := by omega
      have f2 : (k : Int) ≤ s.size := by omega
      have f3 : (k : Int) + 1 ≤ s.size := by omega
      have f4 : (0 : Int) ≤ (k : Int) + 1 := by omega
      have c3 := c2.below (below_drewS w2)
      have hs1 : ∀ c : UInt8, (str [c]).size = 1 := fun _ => rfl
      have cv := fun W x => conv_one (P := Try.prog) (src := 22) (dst := 9) Try.underlying22 Try.underlying5 Try.underlying9 W x
      go_wp2_with fail
      go_region_with (go_at_call 66; refine (l1Below_any b w0 v xs 255 (by decide) _ c3).mono ?_; rintro e w3 ⟨y, rfl, hy, _, c4, g4⟩)
      all_goals
        go_wp2
        go_ret
        exact ⟨_, rfl, by rw [ByteArray.size_append, ByteArray.size_append, z1, z2, hs1]; omega, c4.below (hal3 _ _), grown_below (grown2 q2 (drew_grown g4)) (hal3 _ _)⟩
end Go.Proofs.Ytfbbdnicplbmdaa
/- Walks: the laws' helpers for KeyDev. -/
set_option linter.unusedVariables false
set_option linter.unusedSimpArgs false
namespace Go.Proofs.Ytfbbdnicplbmdaa
open Go.RowKit Sp Go.Sort

namespace Sp
structure KeyDevR where
  master : ByteArray
  slots : List SlotR
  wiped : Int
end Sp
/-- The value v reads as the record. -/
def IsKeyDev (w : World) (v : Value) (d : KeyDevR) : Prop := ∃ s1 : Value, v = .agg #[.string d.master, s1, .int .i64 d.wiped] ∧ SlT SlotR.cells 2 w s1 d.slots
theorem IsKeyDev.below {w w' : World} {v : Value} {d : KeyDevR} (h : IsKeyDev w v d) (hb : Below w.heap.size w w') : IsKeyDev w' v d := by
  obtain ⟨s1, rfl, h1⟩ := h
  exact ⟨s1, rfl, h1.below hb⟩
def Sp.KeyDevR.ok (d : KeyDevR) : Prop := szOk d.master ∧ (∀ x ∈ d.slots, x.ok) ∧ inI64 d.wiped
def Sp.KeyDevR.sz (d : KeyDevR) : Int := (d.master.size : Int) + ((d.slots.length : Int) + sumSz SlotR.sz d.slots)
theorem Sp.KeyDevR.sz_nonneg (d : KeyDevR) : 0 ≤ d.sz := by unfold KeyDevR.sz; have := sumSz_nonneg SlotR.sz_nonneg d.slots; omega
end Go.Proofs.Ytfbbdnicplbmdaa
/- Plain: what makes a key device right; walks of its tests. -/
set_option linter.unusedVariables false
set_option linter.unusedSimpArgs false
namespace Go.Proofs.Ytfbbdnicplbmdaa
open Go.RowKit Sp Go.Sort
namespace Sp
def slotB (x : SlotR) : Bool := inB x.ten 1 99 && decide ((x.key.size : Int) = 32)
def slotAt (l : List SlotR) (i : Nat) : Bool := match l[i]? with
  | some x => slotB x && (match i with | 0 => true | j + 1 => match l[j]? with | some y => decide (y.ten < x.ten) | none => false)
  | none => false
def keyHead (d : KeyDevR) : Bool := decide ((d.master.size : Int) = 32) && decide ((d.slots.length : Int) ≤ 4) && inB d.wiped 0 1000000
def keyDevB (d : KeyDevR) : Bool := keyHead d && allIx d.slots.length (slotAt d.slots)
theorem slotAt_bad {l : List SlotR} {k : Nat} (h : k < l.length) (hb : slotB l[k] = false) : slotAt l k = false := by simp [slotAt, h, hb]
theorem slotAt_first {l : List SlotR} {k : Nat} (h : k < l.length) (h0 : k = 0) : slotAt l k = slotB l[k] := by
  subst h0; simp [slotAt, h]
theorem slotAt_next {l : List SlotR} {k : Nat} (h : k < l.length) (h0 : k ≠ 0) (hp : k - 1 < l.length) : slotAt l k = (slotB l[k] && decide (l[k - 1].ten < l[k].ten)) := by
  obtain ⟨j, rfl⟩ : ∃ j, k = j + 1 := ⟨k - 1, by omega⟩
  simp only [Nat.add_sub_cancel] at hp
  simp [slotAt, h, hp]
theorem keyDevB_head {d : KeyDevR} (h : keyHead d = false) : keyDevB d = false := by simp [keyDevB, h]
theorem keyDevB_bad {d : KeyDevR} {k : Nat} (hk : k < d.slots.length) (h : slotAt d.slots k = false) : keyDevB d = false := by
  unfold keyDevB; rw [allIx_false hk h, Bool.and_false]
theorem keyDevB_all {d : KeyDevR} (hh : keyHead d = true) (h : AllTo (slotAt d.slots) d.slots.length) : keyDevB d = true := by
  unfold keyDevB; rw [allIx_true h, hh]; rfl
end Sp

set_option maxRecDepth 100000 in
theorem isTenant_any (n : Int) (w : World) : Calls Try.prog 164 #[.int .i64 n] w fun e w' => e = .returned (.bool (inB n 1 99)) ∧ w = w' := by
  go_enter Try.func164, Try.ntmps164
  go_wp2_with (go_at_call 108; refine (inRange_any _ _ _ _).mono ?_; rintro e w' ⟨rfl, rfl⟩)
  go_ret
  exact ⟨rfl, rfl⟩
set_option maxRecDepth 100000 in
theorem isNumber_any (n : Int) (w : World) : Calls Try.prog 163 #[.int .i64 n] w fun e w' => e = .returned (.bool (inB n 0 1000000)) ∧ w = w' := by
  go_enter Try.func163, Try.ntmps163
  go_wp2_with (go_at_call 108; refine (inRange_any _ _ _ _).mono ?_; rintro e w' ⟨rfl, rfl⟩)
  go_ret
  exact ⟨rfl, rfl⟩
end Go.Proofs.Ytfbbdnicplbmdaa
/- Walk: KeyOk. -/
set_option linter.unusedVariables false
set_option linter.unusedSimpArgs false
namespace Go.Proofs.Ytfbbdnicplbmdaa
open Go.RowKit Sp Go.Sort

set_option maxRecDepth 100000 in
set_option maxHeartbeats 1600000 in
theorem specKeyOk (v : Value) (d : KeyDevR) (w : World) (h : IsKeyDev w v d) (hl : (d.slots.length : Int) ≤ 1048576) :
    Calls Try.prog 47 #[v] w fun e w' => e = .returned (.bool (keyDevB d)) ∧ Below w.heap.size w w' := by
  obtain ⟨s1, rfl, h1⟩ := h
  obtain ⟨ao, cap, rfl, hlc, hcm, hsh⟩ := h1.shape
  obtain ⟨master, l, wiped⟩ := d
  simp only at *
  by_cases g0 : (master.size : Int) = 32
  · by_cases g1 : (l.length : Int) ≤ 4
    · by_cases g2 : inB wiped 0 1000000 = true
      · have hh : keyHead ⟨master, l, wiped⟩ = true := by simp [keyHead, g0, g1, g2]
        clear h1
        go_enter Try.func47, Try.ntmps47
        go_wp2_with (go_at_call 104; refine (l1In_any _ _ _ _).mono ?_; rintro e w' ⟨rfl, rfl⟩; rw [g2])
        go_loopw [3] (fun i wr => ∃ k : Nat, (k : Int) ≤ l.length ∧ i = .int .i64 k ∧ AllTo (slotAt l) k ∧ Below w.heap.size w wr ∧ w.heap.size < wr.heap.size ∧ wr.cell? ⟨w.heap.size, 1, none⟩ = some (.slice ao l.length cap)) (fun i _ => l.length - (intOf i).toNat)
        case atStart => exact ⟨0, by omega, rfl, AllTo.zero _, (Below.refl _ _).alloc (Nat.le_refl _) _, by simp, by simp [go_sem]⟩
        case round =>
          obtain ⟨k, hk, rfl, hall, hbl, hsz, hs1⟩ := hrel
          by_cases hlt : (k : Int) < l.length
          · have hltn : k < l.length := by omega
            obtain ⟨b, off, rfl, hb, hc⟩ := hsh (by omega)
            have hc0 : wr.cell? ⟨b, off + k * 2, none⟩ = some (.int .i64 l[k].ten) := (hbl.cell (by exact hb)).trans (hc k hltn 0 _ rfl)
            have hc1 : wr.cell? ⟨b, off + k * 2 + 1, none⟩ = some (.string l[k].key) := (hbl.cell (by exact hb)).trans (hc k hltn 1 _ rfl)
            have hs1x : (wr.alloc (.cells #[.int .i64 l[k].ten, .string l[k].key] 150)).cell? ⟨w.heap.size, 1, none⟩ = some (.slice (some ⟨b, off, none⟩) l.length cap) := by rw [World.cell?_alloc_past _ _ _ hsz]; exact hs1
            by_cases ht : inB l[k].ten 1 99 = true
            · by_cases hkz : (l[k].key.size : Int) = 32
              · have hkz' : ((l[k].key.size : Int) == 32) = true := by simp [hkz]
                have hkz3 : ((l[k].key.size : Int) != 32) = false := by simp [hkz]
                have hkz2 : decide ((l[k].key.size : Int) = 32) = true := decide_eq_true hkz
                have hok : slotB l[k] = true := by simp [slotB, ht, hkz]
                by_cases hk0 : k = 0
                · have hz : decide (0 < k) = false := decide_eq_false (by omega)
                  have hall2 := hall.step ((slotAt_first hltn hk0).trans hok)
                  have HK := Lib.hid hk0
                  clear hok hk0 hall hsh hc
                  go_wp2
                  go_quiet ((go_at_call 104; exact Calls.quiet_of_same ((l1In_any _ _ _ _).mono fun _ _ h => ⟨h.1, h.2.symm⟩)))
                  go_wp2
                  go_roundw
                  case rel => exact ⟨k + 1, by omega, by go_num, hall2, below_drewN (hbl.alloc hbl.size _) _, by simp [World.drewN]; omega, hs1x⟩
                  case measure => simp [intOf]; omega
                · have hz : decide (0 < k) = true := decide_eq_true (by omega)
                  have hpn : k - 1 < l.length := by omega
                  have hk1 : 1 ≤ k := by omega
                  have hcp : wr.cell? ⟨b, off + (k - 1) * 2, none⟩ = some (.int .i64 l[k - 1].ten) := (hbl.cell (by exact hb)).trans (hc (k - 1) hpn 0 _ rfl)
                  have hbw : b < wr.heap.size := Nat.lt_of_lt_of_le hb hbl.size
                  have hcq : (wr.alloc (.cells #[.int .i64 l[k].ten, .string l[k].key] 150)).cell? ⟨b, off + (k - 1) * 2, none⟩ = some (.int .i64 l[k - 1].ten) := by rw [World.cell?_alloc_past _ _ _ hbw]; exact hcp
                  have hi1 : IntKind.i64.wrap ((k : Int) - 1) = (k : Int) - 1 := by rw [IntKind.wrap_i64]; omega
                  have hi2 : (0 : Int) ≤ (k : Int) - 1 := by omega
                  have hi3 : (1 : Int) ≤ (k : Int) := by omega
                  have hi4 : (k : Int) - 1 < (l.length : Int) := by omega
                  have hi5 : ((k : Int) - 1).toNat = k - 1 := by omega
                  have hat := slotAt_next hltn hk0 hpn
                  rw [hok, Bool.true_and] at hat
                  clear hok
                  by_cases hless : l[k - 1].ten < l[k].ten
                  · have hle : decide (l[k].ten ≤ l[k - 1].ten) = false := decide_eq_false (by omega)
                    rw [decide_eq_true hless] at hat
                    have hall2 := hall.step hat
                    clear hat hall hsh hc
                    go_wp2
                    go_quiet ((go_at_call 104; exact Calls.quiet_of_same ((l1In_any _ _ _ _).mono fun _ _ h => ⟨h.1, h.2.symm⟩)))
                    go_wp2
                    go_roundw
                    case rel => exact ⟨k + 1, by omega, by go_num, hall2, below_drewN (hbl.alloc hbl.size _) _, by simp [World.drewN]; omega, hs1x⟩
                    case measure => simp [intOf]; omega
                  · have hle : decide (l[k].ten ≤ l[k - 1].ten) = true := decide_eq_true (by omega)
                    rw [decide_eq_false hless] at hat
                    have HR := Lib.hid (keyDevB_bad (d := ⟨master, l, wiped⟩) hltn hat)
                    clear hat hall hsh hc
                    go_wp2
                    go_quiet ((go_at_call 104; exact Calls.quiet_of_same ((l1In_any _ _ _ _).mono fun _ _ h => ⟨h.1, h.2.symm⟩)))
                    go_wp2
                    go_ret
                    exact ⟨by rw [HR.out]; rfl, below_drewN (hbl.alloc hbl.size _) _⟩
              · have hkz' : ((l[k].key.size : Int) == 32) = false := by simp [hkz]
                have hkz3 : ((l[k].key.size : Int) != 32) = true := by simp [hkz]
                have hkz2 : decide ((l[k].key.size : Int) = 32) = false := decide_eq_false hkz
                have HR := Lib.hid (keyDevB_bad (d := ⟨master, l, wiped⟩) hltn (slotAt_bad hltn (by simp [slotB, hkz])))
                clear hall hsh hc
                go_wp2
                go_quiet ((go_at_call 104; exact Calls.quiet_of_same ((l1In_any _ _ _ _).mono fun _ _ h => ⟨h.1, h.2.symm⟩)))
                go_wp2
                go_ret
                exact ⟨by rw [HR.out]; rfl, below_drewN (hbl.alloc hbl.size _) _⟩
            · have ht' : inB l[k].ten 1 99 = false := by simpa using ht
              have HR := Lib.hid (keyDevB_bad (d := ⟨master, l, wiped⟩) hltn (slotAt_bad hltn (by simp [slotB, ht'])))
              clear hall hsh hc ht
              go_wp2
              go_quiet ((go_at_call 104; exact Calls.quiet_of_same ((l1In_any _ _ _ _).mono fun _ _ h => ⟨h.1, h.2.symm⟩)))
              go_wp2
              go_ret
              exact ⟨by rw [HR.out]; rfl, below_drewN (hbl.alloc hbl.size _) _⟩
          · obtain rfl : k = l.length := by omega
            have HR := Lib.hid (keyDevB_all (d := ⟨master, l, wiped⟩) hh hall)
            clear hall hsh
            go_wp2
            go_ret
            exact ⟨by rw [HR.out]; rfl, hbl⟩
      · have g2' : inB wiped 0 1000000 = false := by simpa using g2
        have HR := Lib.hid (keyDevB_head (d := ⟨master, l, wiped⟩) (by simp [keyHead, g2']))
        clear hsh h1
        go_enter Try.func47, Try.ntmps47
        go_wp2_with (go_at_call 104; refine (l1In_any _ _ _ _).mono ?_; rintro e w' ⟨rfl, rfl⟩; rw [g2'])
        go_ret
        exact ⟨by rw [HR.out]; rfl, (Below.refl _ _).alloc (Nat.le_refl _) _⟩
    · have HR := Lib.hid (keyDevB_head (d := ⟨master, l, wiped⟩) (by simp [keyHead, g1]))
      clear hsh h1
      go_enter Try.func47, Try.ntmps47
      go_wp2
      go_ret
      exact ⟨by rw [HR.out]; rfl, (Below.refl _ _).alloc (Nat.le_refl _) _⟩
  · have HR := Lib.hid (keyDevB_head (d := ⟨master, l, wiped⟩) (by simp [keyHead, g0]))
    clear hsh h1
    go_enter Try.func47, Try.ntmps47
    go_wp2
    go_ret
    exact ⟨by rw [HR.out]; rfl, (Below.refl _ _).alloc (Nat.le_refl _) _⟩
end Go.Proofs.Ytfbbdnicplbmdaa
/- Walk: KeyOk. -/
set_option linter.unusedVariables false
set_option linter.unusedSimpArgs false
namespace Go.Proofs.Ytfbbdnicplbmdaa
open Go.RowKit Sp Go.Sort

set_option maxRecDepth 100000 in
set_option maxHeartbeats 1600000 in
theorem implKeyOk (v : Value) (d : KeyDevR) (w : World) (h : IsKeyDev w v d) (hl : (d.slots.length : Int) ≤ 1048576) :
    Calls Try.prog 115 #[v] w fun e w' => e = .returned (.bool (keyDevB d)) ∧ Below w.heap.size w w' := by
  obtain ⟨s1, rfl, h1⟩ := h
  obtain ⟨ao, cap, rfl, hlc, hcm, hsh⟩ := h1.shape
  obtain ⟨master, l, wiped⟩ := d
  simp only at *
  by_cases g0 : (master.size : Int) = 32
  · by_cases g1 : (l.length : Int) ≤ 4
    · by_cases g2 : inB wiped 0 1000000 = true
      · have hh : keyHead ⟨master, l, wiped⟩ = true := by simp [keyHead, g0, g1, g2]
        clear h1
        go_enter Try.func115, Try.ntmps115
        go_wp2_with (go_at_call 163; refine (isNumber_any _ _).mono ?_; rintro e w' ⟨rfl, rfl⟩; rw [g2])
        go_loopw [24] (fun i wr => ∃ k : Nat, (k : Int) ≤ l.length ∧ i = .int .i64 k ∧ AllTo (slotAt l) k ∧ Below w.heap.size w wr ∧ w.heap.size < wr.heap.size ∧ wr.cell? ⟨w.heap.size, 1, none⟩ = some (.slice ao l.length cap)) (fun i _ => l.length - (intOf i).toNat)
        case atStart => exact ⟨0, by omega, rfl, AllTo.zero _, (Below.refl _ _).alloc (Nat.le_refl _) _, by simp, by simp [go_sem]⟩
        case round =>
          obtain ⟨k, hk, rfl, hall, hbl, hsz, hs1⟩ := hrel
          by_cases hlt : (k : Int) < l.length
          · have hltn : k < l.length := by omega
            obtain ⟨b, off, rfl, hb, hc⟩ := hsh (by omega)
            have hc0 : wr.cell? ⟨b, off + k * 2, none⟩ = some (.int .i64 l[k].ten) := (hbl.cell (by exact hb)).trans (hc k hltn 0 _ rfl)
            have hc1 : wr.cell? ⟨b, off + k * 2 + 1, none⟩ = some (.string l[k].key) := (hbl.cell (by exact hb)).trans (hc k hltn 1 _ rfl)
            have hs1x : (wr.alloc (.cells #[.int .i64 l[k].ten, .string l[k].key] 150)).cell? ⟨w.heap.size, 1, none⟩ = some (.slice (some ⟨b, off, none⟩) l.length cap) := by rw [World.cell?_alloc_past _ _ _ hsz]; exact hs1
            by_cases ht : inB l[k].ten 1 99 = true
            · by_cases hkz : (l[k].key.size : Int) = 32
              · have hkz' : ((l[k].key.size : Int) == 32) = true := by simp [hkz]
                have hkz3 : ((l[k].key.size : Int) != 32) = false := by simp [hkz]
                have hkz2 : decide ((l[k].key.size : Int) = 32) = true := decide_eq_true hkz
                have hok : slotB l[k] = true := by simp [slotB, ht, hkz]
                by_cases hk0 : k = 0
                · have hz : decide (0 < k) = false := decide_eq_false (by omega)
                  have hall2 := hall.step ((slotAt_first hltn hk0).trans hok)
                  have HK := Lib.hid hk0
                  clear hok hk0 hall hsh hc
                  go_wp2
                  go_quiet ((go_at_call 164; exact Calls.quiet_of_same ((isTenant_any _ _).mono fun _ _ h => ⟨h.1, h.2.symm⟩)))
                  go_wp2
                  go_roundw
                  case rel => exact ⟨k + 1, by omega, by go_num, hall2, below_drewN (hbl.alloc hbl.size _) _, by simp [World.drewN]; omega, hs1x⟩
                  case measure => simp [intOf]; omega
                · have hz : decide (0 < k) = true := decide_eq_true (by omega)
                  have hpn : k - 1 < l.length := by omega
                  have hk1 : 1 ≤ k := by omega
                  have hcp : wr.cell? ⟨b, off + (k - 1) * 2, none⟩ = some (.int .i64 l[k - 1].ten) := (hbl.cell (by exact hb)).trans (hc (k - 1) hpn 0 _ rfl)
                  have hbw : b < wr.heap.size := Nat.lt_of_lt_of_le hb hbl.size
                  have hcq : (wr.alloc (.cells #[.int .i64 l[k].ten, .string l[k].key] 150)).cell? ⟨b, off + (k - 1) * 2, none⟩ = some (.int .i64 l[k - 1].ten) := by rw [World.cell?_alloc_past _ _ _ hbw]; exact hcp
                  have hi1 : IntKind.i64.wrap ((k : Int) - 1) = (k : Int) - 1 := by rw [IntKind.wrap_i64]; omega
                  have hi2 : (0 : Int) ≤ (k : Int) - 1 := by omega
                  have hi3 : (1 : Int) ≤ (k : Int) := by omega
                  have hi4 : (k : Int) - 1 < (l.length : Int) := by omega
                  have hi5 : ((k : Int) - 1).toNat = k - 1 := by omega
                  have hat := slotAt_next hltn hk0 hpn
                  rw [hok, Bool.true_and] at hat
                  clear hok
                  by_cases hless : l[k - 1].ten < l[k].ten
                  · have hle : decide (l[k].ten ≤ l[k - 1].ten) = false := decide_eq_false (by omega)
                    rw [decide_eq_true hless] at hat
                    have hall2 := hall.step hat
                    clear hat hall hsh hc
                    go_wp2
                    go_quiet ((go_at_call 164; exact Calls.quiet_of_same ((isTenant_any _ _).mono fun _ _ h => ⟨h.1, h.2.symm⟩)))
                    go_wp2
                    go_roundw
                    case rel => exact ⟨k + 1, by omega, by go_num, hall2, below_drewN (hbl.alloc hbl.size _) _, by simp [World.drewN]; omega, hs1x⟩
                    case measure => simp [intOf]; omega
                  · have hle : decide (l[k].ten ≤ l[k - 1].ten) = true := decide_eq_true (by omega)
                    rw [decide_eq_false hless] at hat
                    have HR := Lib.hid (keyDevB_bad (d := ⟨master, l, wiped⟩) hltn hat)
                    clear hat hall hsh hc
                    go_wp2
                    go_quiet ((go_at_call 164; exact Calls.quiet_of_same ((isTenant_any _ _).mono fun _ _ h => ⟨h.1, h.2.symm⟩)))
                    go_wp2
                    go_ret
                    exact ⟨by rw [HR.out]; rfl, below_drewN (hbl.alloc hbl.size _) _⟩
              · have hkz' : ((l[k].key.size : Int) == 32) = false := by simp [hkz]
                have hkz3 : ((l[k].key.size : Int) != 32) = true := by simp [hkz]
                have hkz2 : decide ((l[k].key.size : Int) = 32) = false := decide_eq_false hkz
                have HR := Lib.hid (keyDevB_bad (d := ⟨master, l, wiped⟩) hltn (slotAt_bad hltn (by simp [slotB, hkz])))
                clear hall hsh hc
                go_wp2
                go_quiet ((go_at_call 164; exact Calls.quiet_of_same ((isTenant_any _ _).mono fun _ _ h => ⟨h.1, h.2.symm⟩)))
                go_wp2
                go_ret
                exact ⟨by rw [HR.out]; rfl, below_drewN (hbl.alloc hbl.size _) _⟩
            · have ht' : inB l[k].ten 1 99 = false := by simpa using ht
              have HR := Lib.hid (keyDevB_bad (d := ⟨master, l, wiped⟩) hltn (slotAt_bad hltn (by simp [slotB, ht'])))
              clear hall hsh hc ht
              go_wp2
              go_quiet ((go_at_call 164; exact Calls.quiet_of_same ((isTenant_any _ _).mono fun _ _ h => ⟨h.1, h.2.symm⟩)))
              go_wp2
              go_ret
              exact ⟨by rw [HR.out]; rfl, below_drewN (hbl.alloc hbl.size _) _⟩
          · obtain rfl : k = l.length := by omega
            have HR := Lib.hid (keyDevB_all (d := ⟨master, l, wiped⟩) hh hall)
            clear hall hsh
            go_wp2
            go_ret
            exact ⟨by rw [HR.out]; rfl, hbl⟩
      · have g2' : inB wiped 0 1000000 = false := by simpa using g2
        have HR := Lib.hid (keyDevB_head (d := ⟨master, l, wiped⟩) (by simp [keyHead, g2']))
        clear hsh h1
        go_enter Try.func115, Try.ntmps115
        go_wp2_with (go_at_call 163; refine (isNumber_any _ _).mono ?_; rintro e w' ⟨rfl, rfl⟩; rw [g2'])
        go_ret
        exact ⟨by rw [HR.out]; rfl, (Below.refl _ _).alloc (Nat.le_refl _) _⟩
    · have HR := Lib.hid (keyDevB_head (d := ⟨master, l, wiped⟩) (by simp [keyHead, g1]))
      clear hsh h1
      go_enter Try.func115, Try.ntmps115
      go_wp2
      go_ret
      exact ⟨by rw [HR.out]; rfl, (Below.refl _ _).alloc (Nat.le_refl _) _⟩
  · have HR := Lib.hid (keyDevB_head (d := ⟨master, l, wiped⟩) (by simp [keyHead, g0]))
    clear hsh h1
    go_enter Try.func115, Try.ntmps115
    go_wp2
    go_ret
    exact ⟨by rw [HR.out]; rfl, (Below.refl _ _).alloc (Nat.le_refl _) _⟩
end Go.Proofs.Ytfbbdnicplbmdaa
/- Walks: slotOf of the program; KeyOf of the reference and of the program. -/
set_option linter.unusedVariables false
set_option linter.unusedSimpArgs false
namespace Go.Proofs.Ytfbbdnicplbmdaa
open Go.RowKit Sp Go.Sort

set_option maxRecDepth 100000 in
set_option maxHeartbeats 400000 in
theorem slotTest_any (t : Int) (k : ByteArray) (n : Int) (b : Nat) (w : World) (hc : w.cell? ⟨b, 0, none⟩ = some (.int .i64 n)) :
    Calls Try.prog 167 #[.agg #[.int .i64 t, .string k], .pointer (some ⟨b, 0, none⟩)] w fun e w' => e = .returned (.bool (t == n)) ∧ Below w.heap.size w w' := by
  have hb := block_lt_of_cell hc
  have hc2 : (w.alloc (.cells #[.int .i64 t, .string k] 150)).cell? ⟨b, 0, none⟩ = some (.int .i64 n) := by rw [World.cell?_alloc_past _ _ _ hb]; exact hc
  go_enter Try.func167, Try.ntmps167
  go_wp2
  go_ret
  exact ⟨rfl, (Below.refl _ _).alloc (Nat.le_refl _) _⟩

namespace Sp
/-- The first slot of a tenant, or -1. -/
def IsSlot (l : List SlotR) (n j : Int) : Prop := (∃ k : Nat, ∃ h : k < l.length, j = k ∧ l[k].ten = n ∧ ∀ i (hi : i < k), (l[i]'(by omega)).ten ≠ n) ∨ (j = -1 ∧ ∀ i (hi : i < l.length), l[i].ten ≠ n)
end Sp
set_option maxRecDepth 100000 in
set_option maxHeartbeats 800000 in
theorem slotOf_any (v : Value) (d : KeyDevR) (n : Int) (w : World) (h : IsKeyDev w v d) (hl : (d.slots.length : Int) ≤ 1048576) :
    Calls Try.prog 117 #[v, .int .i64 n] w fun e w' => ∃ j, e = .returned (.int .i64 j) ∧ IsSlot d.slots n j ∧ Below w.heap.size w w' := by
  obtain ⟨s1, rfl, h1⟩ := h
  obtain ⟨ao, cap, rfl, hlc, hcm, hsh⟩ := h1.shape
  go_enter Try.func117, Try.ntmps117
  go_wp2
  go_loopw [8] (fun i wr => ∃ k : Nat, (k : Int) ≤ d.slots.length ∧ i = .int .i64 k ∧ (∀ i (hi : i < d.slots.length), i < k → d.slots[i].ten ≠ n) ∧ Below w.heap.size w wr ∧ wr.cell? ⟨w.heap.size + 1, 0, none⟩ = some (.int .i64 n)) (fun i _ => d.slots.length - (intOf i).toNat)
  case atStart => exact ⟨0, by omega, rfl, fun i h1 h2 => by omega, ((Below.refl _ _).alloc (Nat.le_refl _) _).alloc (by simp <;> omega) _, by simp [go_sem]⟩
  case round =>
    obtain ⟨k, hk, rfl, hno, hbl, hcn⟩ := hrel
    by_cases hlt : (k : Int) < d.slots.length
    · have hltn : k < d.slots.length := by omega
      obtain ⟨b, off, rfl, hb, hc⟩ := hsh (by omega)
      have hc0 : wr.cell? ⟨b, off + k * 2, none⟩ = some (.int .i64 d.slots[k].ten) := (hbl.cell (by exact hb)).trans (hc k hltn 0 _ rfl)
      have hc1 : wr.cell? ⟨b, off + k * 2 + 1, none⟩ = some (.string d.slots[k].key) := (hbl.cell (by exact hb)).trans (hc k hltn 1 _ rfl)
      have hnb := block_lt_of_cell hcn
      by_cases he : d.slots[k].ten = n
      · have he' : (d.slots[k].ten == n) = true := by simp [he]
        have HS := Lib.hid (show IsSlot d.slots n k from .inl ⟨k, hltn, rfl, he, fun i hi => hno i (by omega) hi⟩)
        have HE := Lib.hid he'
        clear he he'
        clear hno hsh hc h1
        go_wp2_with (go_at_call 167; refine (slotTest_any _ _ n _ _ hcn).mono ?_; rintro e w2 ⟨rfl, b2⟩; rw [HE.out])
        go_ret
        exact ⟨_, rfl, HS.out, hbl.trans (b2.mono hbl.size)⟩
      · have he' : (d.slots[k].ten == n) = false := by simp [he]
        have hno2 : ∀ i (hi : i < d.slots.length), i < k + 1 → d.slots[i].ten ≠ n := fun i h1 h2 => by
          by_cases hi : i = k
          · subst hi; exact he
          · exact hno i h1 (by omega)
        clear hno hsh hc h1
        go_wp2_with (go_at_call 167; refine (slotTest_any _ _ n _ _ hcn).mono ?_; rintro e w2 ⟨rfl, b2⟩; rw [he']; have hb3 := hbl.trans (b2.mono hbl.size); have hcn2 := (b2.cell (p := ⟨w.heap.size + 1, 0, none⟩) (by exact hnb)).trans hcn)
        go_roundw
        case rel => exact ⟨k + 1, by omega, by go_num, hno2, hb3, hcn2⟩
        case measure => simp [intOf]; omega
    · obtain rfl : k = d.slots.length := by omega
      have HS := Lib.hid (show IsSlot d.slots n (-1) from .inr ⟨rfl, fun i hi => hno i hi hi⟩)
      clear hno hsh h1
      go_wp2
      go_ret
      exact ⟨_, rfl, HS.out, hbl⟩
end Go.Proofs.Ytfbbdnicplbmdaa
/- Walks: KeyOf of the reference and of the program. -/
set_option linter.unusedVariables false
set_option linter.unusedSimpArgs false
namespace Go.Proofs.Ytfbbdnicplbmdaa
open Go.RowKit Sp Go.Sort
namespace Sp
def keyFind (l : List SlotR) (n : Int) : ByteArray := match l.find? (fun x => x.ten == n) with
  | some x => x.key
  | none => ByteArray.empty
def slotKeyOf (d : KeyDevR) (n : Int) : ByteArray := if keyDevB d then keyFind d.slots n else ByteArray.empty
theorem slotKeyOf_hit {d : KeyDevR} {n : Int} {k : Nat} (hm : keyDevB d = true) (hk : k < d.slots.length) (he : d.slots[k].ten = n) (hno : ∀ i (hi : i < d.slots.length), i < k → d.slots[i].ten ≠ n) : slotKeyOf d n = d.slots[k].key := by
  unfold slotKeyOf keyFind
  rw [if_pos hm, (List.find?_eq_some_iff_getElem (p := fun x : SlotR => x.ten == n) (b := d.slots[k])).2 ⟨by simp [he], k, hk, rfl, fun j hj => by simpa using hno j (by omega) hj⟩]
theorem slotKeyOf_miss {d : KeyDevR} {n : Int} (hno : ∀ i (hi : i < d.slots.length), d.slots[i].ten ≠ n) : slotKeyOf d n = ByteArray.empty := by
  unfold slotKeyOf keyFind
  have h : d.slots.find? (fun x => x.ten == n) = none := by
    rw [List.find?_eq_none]
    intro x hx
    obtain ⟨i, hi, rfl⟩ := List.mem_iff_getElem.1 hx
    simpa using hno i hi
  rw [h]; simp
theorem slotKeyOf_bad {d : KeyDevR} {n : Int} (hm : keyDevB d = false) : slotKeyOf d n = ByteArray.empty := by unfold slotKeyOf; rw [if_neg (by simp [hm])]
theorem slot_dec (l : List SlotR) (n : Int) : (∃ k : Nat, ∃ h : k < l.length, l[k].ten = n ∧ ∀ i (hi : i < l.length), i < k → l[i].ten ≠ n) ∨ ∀ i (hi : i < l.length), l[i].ten ≠ n := by
  cases hf : l.find? (fun x => x.ten == n) with
  | some x =>
    obtain ⟨h1, k, hk, h2, h3⟩ := List.find?_eq_some_iff_getElem.1 hf
    refine .inl ⟨k, hk, by rw [h2]; simpa using h1, fun i hi hik => by simpa using h3 i hik⟩
  | none =>
    refine .inr fun i hi => ?_
    have := List.find?_eq_none.1 hf l[i] (List.getElem_mem _)
    simpa using this
theorem isSlot_hit {l : List SlotR} {n j : Int} {k : Nat} (hk : k < l.length) (he : l[k].ten = n) (hno : ∀ i (hi : i < l.length), i < k → l[i].ten ≠ n) (h : IsSlot l n j) : j = k := by
  rcases h with ⟨k', hk', rfl, he', hno'⟩ | ⟨rfl, hno'⟩
  · rcases Nat.lt_trichotomy k k' with h | h | h
    · exact absurd he (hno' k h)
    · rw [h]
    · exact absurd he' (hno k' hk' h)
  · exact absurd he (hno' k hk)
theorem isSlot_none {l : List SlotR} {n j : Int} (hno : ∀ i (hi : i < l.length), l[i].ten ≠ n) (h : IsSlot l n j) : j = -1 := by
  rcases h with ⟨k', hk', rfl, he', hno'⟩ | ⟨rfl, hno'⟩
  · exact absurd he' (hno k' hk')
  · rfl
end Sp

set_option maxRecDepth 100000 in
set_option maxHeartbeats 1600000 in
theorem implKeyOf (v : Value) (d : KeyDevR) (n : Int) (w : World) (h : IsKeyDev w v d) (hl : (d.slots.length : Int) ≤ 1048576) :
    Calls Try.prog 45 #[v, .int .i64 n] w fun e w' => e = .returned (.string (slotKeyOf d n)) ∧ Below w.heap.size w w' := by
  have hcopy := h
  obtain ⟨s1, hv, h1⟩ := hcopy
  obtain ⟨ao, cap, hv1, hlc, hcm, hsh⟩ := h1.shape
  subst hv hv1
  have hbox : ∀ o : Obj, RowKit.Below w.heap.size w (w.alloc o) := fun o => (Below.refl _ _).alloc (Nat.le_refl _) _
  rcases slot_dec d.slots n with ⟨k, hk, he, hno⟩ | hno
  · obtain ⟨b, off, rfl, hb, hc⟩ := hsh (by omega)
    have hc1 : w.cell? ⟨b, off + k * 2 + 1, none⟩ = some (.string d.slots[k].key) := hc k hk 1 _ rfl
    have HJ : ∀ j, IsSlot d.slots n j → j = k := fun j => isSlot_hit hk he hno
    clear hsh hc
    by_cases hm : keyDevB d = true
    · have HR := Lib.hid (slotKeyOf_hit hm hk he hno)
      clear he hno
      go_enter Try.func45, Try.ntmps45
      go_wp2_with (go_at_call 117; refine (slotOf_any _ d _ _ (h.below (hbox _)) hl).mono ?_; rintro e w1 ⟨j, rfl, hj, b1⟩; obtain rfl := HJ _ hj; clear hj; have x1 := Below.trans (hbox _) (b1.mono (Below.size (hbox _))); have ca := fun o => (bcell b1).1 w.heap.size o (by simp <;> omega); have hz1 : w.heap.size < w1.heap.size := Nat.lt_of_lt_of_le (by simp <;> omega) b1.size)
      go_wp2_with (go_at_call 115; refine (implKeyOk _ d _ (h.below x1) hl).mono ?_; rintro e w2 ⟨rfl, b2⟩; rw [hm]; have x2 := x1.trans (b2.mono x1.size); have cb := fun o => (bcell b2).1 w.heap.size o hz1; have hq := (x2.cell (by exact hb)).trans hc1)
      go_ret
      exact ⟨by rw [HR.out]; rfl, x2⟩
    · have hm' : keyDevB d = false := by simpa using hm
      have HR := Lib.hid (slotKeyOf_bad (n := n) hm')
      clear he hno
      go_enter Try.func45, Try.ntmps45
      go_wp2_with (go_at_call 117; refine (slotOf_any _ d _ _ (h.below (hbox _)) hl).mono ?_; rintro e w1 ⟨j, rfl, hj, b1⟩; obtain rfl := HJ _ hj; clear hj; have x1 := Below.trans (hbox _) (b1.mono (Below.size (hbox _))); have ca := fun o => (bcell b1).1 w.heap.size o (by simp <;> omega); have hz1 : w.heap.size < w1.heap.size := Nat.lt_of_lt_of_le (by simp <;> omega) b1.size)
      go_wp2_with (go_at_call 115; refine (implKeyOk _ d _ (h.below x1) hl).mono ?_; rintro e w2 ⟨rfl, b2⟩; rw [hm']; have x2 := x1.trans (b2.mono x1.size))
      go_ret
      exact ⟨by rw [HR.out]; rfl, x2⟩
  · have HR := Lib.hid (slotKeyOf_miss hno)
    have HJ : ∀ j, IsSlot d.slots n j → j = -1 := fun j => isSlot_none hno
    clear hno hsh
    go_enter Try.func45, Try.ntmps45
    go_wp2_with (go_at_call 117; refine (slotOf_any _ d _ _ (h.below (hbox _)) hl).mono ?_; rintro e w1 ⟨j, rfl, hj, b1⟩; obtain rfl := HJ _ hj; clear hj; have x1 := Below.trans (hbox _) (b1.mono (Below.size (hbox _))); have ca := fun o => (bcell b1).1 w.heap.size o (by simp <;> omega); have hz1 : w.heap.size < w1.heap.size := Nat.lt_of_lt_of_le (by simp <;> omega) b1.size)
    go_ret
    exact ⟨by rw [HR.out]; rfl, x1⟩

set_option maxRecDepth 100000 in
set_option maxHeartbeats 1600000 in
theorem specKeyOf (v : Value) (d : KeyDevR) (n : Int) (w : World) (h : IsKeyDev w v d) (hl : (d.slots.length : Int) ≤ 1048576) :
    Calls Try.prog 46 #[v, .int .i64 n] w fun e w' => e = .returned (.string (slotKeyOf d n)) ∧ Below w.heap.size w w' := by
  have hcopy := h
  obtain ⟨s1, hv, h1⟩ := hcopy
  obtain ⟨ao, cap, hv1, hlc, hcm, hsh⟩ := h1.shape
  subst hv hv1
  have hbox : ∀ o : Obj, RowKit.Below w.heap.size w (w.alloc o) := fun o => (Below.refl _ _).alloc (Nat.le_refl _) _
  by_cases hm : keyDevB d = true
  · go_enter Try.func46, Try.ntmps46
    go_wp2
    go_loopw [5] (fun i wr => ∃ k : Nat, (k : Int) ≤ d.slots.length ∧ i = .int .i64 k ∧ (∀ i (hi : i < d.slots.length), i < k → d.slots[i].ten ≠ n) ∧ Below w.heap.size w wr ∧ w.heap.size < wr.heap.size ∧ wr.cell? ⟨w.heap.size, 0, none⟩ = some (.string d.master) ∧ wr.cell? ⟨w.heap.size, 1, none⟩ = some (.slice ao d.slots.length cap) ∧ wr.cell? ⟨w.heap.size, 2, none⟩ = some (.int .i64 d.wiped)) (fun i _ => d.slots.length - (intOf i).toNat)
    case atStart => exact ⟨0, by omega, rfl, fun i h1 h2 => by omega, hbox _, by simp, by simp [go_sem], by simp [go_sem], by simp [go_sem]⟩
    case round =>
      obtain ⟨k, hk, rfl, hno, hbl, hsz, q0, q1, q2⟩ := hrel
      by_cases hlt : (k : Int) < d.slots.length
      · have hltn : k < d.slots.length := by omega
        obtain ⟨b, off, rfl, hb, hc⟩ := hsh (by omega)
        have hc0 : w.cell? ⟨b, off + k * 2, none⟩ = some (.int .i64 d.slots[k].ten) := hc k hltn 0 _ rfl
        have hc1 : w.cell? ⟨b, off + k * 2 + 1, none⟩ = some (.string d.slots[k].key) := hc k hltn 1 _ rfl
        by_cases he : d.slots[k].ten = n
        · have HR := Lib.hid (slotKeyOf_hit hm hltn he hno)
          clear hno hsh hc
          go_wp2_with (go_at_call 47; refine (specKeyOk _ d _ (h.below hbl) hl).mono ?_; rintro e w2 ⟨rfl, b2⟩; rw [hm]; have x2 := hbl.trans (b2.mono hbl.size); have p1 := ((bcell b2).1 w.heap.size 1 hsz).trans q1; have r0 := (x2.cell (by exact hb)).trans hc0; have r1 := (x2.cell (by exact hb)).trans hc1)
          go_ret
          exact ⟨by rw [HR.out]; rfl, x2⟩
        · have he' : (d.slots[k].ten == n) = false := by simp [he]
          have hno2 : ∀ i (hi : i < d.slots.length), i < k + 1 → d.slots[i].ten ≠ n := fun i h1 h2 => by
            by_cases hi : i = k
            · subst hi; exact he
            · exact hno i h1 (by omega)
          clear hno hsh hc
          go_wp2_with (go_at_call 47; refine (specKeyOk _ d _ (h.below hbl) hl).mono ?_; rintro e w2 ⟨rfl, b2⟩; rw [hm]; have x2 := hbl.trans (b2.mono hbl.size); have p0 := ((bcell b2).1 w.heap.size 0 hsz).trans q0; have p1 := ((bcell b2).1 w.heap.size 1 hsz).trans q1; have p2 := ((bcell b2).1 w.heap.size 2 hsz).trans q2; have hsz2 : w.heap.size < w2.heap.size := Nat.lt_of_lt_of_le hsz b2.size; have r0 := (x2.cell (by exact hb)).trans hc0)
          go_roundw
          case rel => exact ⟨k + 1, by omega, by go_num, hno2, x2, hsz2, p0, p1, p2⟩
          case measure => simp [intOf]; omega
      · obtain rfl : k = d.slots.length := by omega
        have HR := Lib.hid (slotKeyOf_miss (n := n) fun i hi => hno i hi hi)
        clear hno hsh
        go_wp2
        go_ret
        exact ⟨by rw [HR.out]; rfl, hbl⟩
  · have hm' : keyDevB d = false := by simpa using hm
    have HR := Lib.hid (slotKeyOf_bad (n := n) hm')
    clear hsh
    by_cases hz : d.slots.length = 0
    · go_enter Try.func46, Try.ntmps46
      go_wp2
      refine wp_loop_rounds 1 ?_
      rw [rounds_succ]; go_wp2
      go_ret
      exact ⟨by rw [HR.out]; rfl, hbox _⟩
    · have hz' : (0 : Int) < d.slots.length := by omega
      go_enter Try.func46, Try.ntmps46
      go_wp2
      refine wp_loop_rounds 1 ?_
      rw [rounds_succ]
      go_wp2_with (go_at_call 47; refine (specKeyOk _ d _ (h.below (hbox _)) hl).mono ?_; rintro e w2 ⟨rfl, b2⟩; rw [hm']; have x2 := Below.trans (hbox _) (b2.mono (Below.size (hbox _))))
      go_ret
      exact ⟨by rw [HR.out]; rfl, x2⟩
end Go.Proofs.Ytfbbdnicplbmdaa
/- Plain: a key device with one slot wiped. -/
set_option linter.unusedVariables false
set_option linter.unusedSimpArgs false
namespace Go.Proofs.Ytfbbdnicplbmdaa
open Go.RowKit Sp Go.Sort
namespace Sp
def noKeys : KeyDevR := ⟨ByteArray.empty, [], 0⟩
def others (l : List SlotR) (n : Int) : List SlotR := l.filter (fun x => x.ten != n)
def wipeB (d : KeyDevR) (n : Int) : Bool := keyDevB d && (!((others d.slots n).length == d.slots.length) && decide (d.wiped < 1000000))
def keyWipe (d : KeyDevR) (n : Int) : KeyDevR := if keyDevB d then (if wipeB d n then ⟨d.master, others d.slots n, d.wiped + 1⟩ else d) else noKeys
theorem others_step (l : List SlotR) (n : Int) (k : Nat) (h : k < l.length) : others (l.take (k + 1)) n = if l[k].ten = n then others (l.take k) n else others (l.take k) n ++ [l[k]] := by
  unfold others
  rw [List.take_succ_eq_append_getElem h, List.filter_append]
  by_cases hk : l[k].ten = n <;> simp [hk]
theorem others_le (l : List SlotR) (n : Int) : (others l n).length ≤ l.length := List.length_filter_le _ _
theorem others_none {l : List SlotR} {n : Int} (hno : ∀ i (hi : i < l.length), l[i].ten ≠ n) : others l n = l := by
  unfold others
  rw [List.filter_eq_self]
  intro x hx
  obtain ⟨i, hi, rfl⟩ := List.getElem_of_mem hx
  simpa using hno i hi
theorem others_lt {l : List SlotR} {n : Int} {k : Nat} (hk : k < l.length) (he : l[k].ten = n) : (others l n).length < l.length := by
  unfold others
  refine Nat.lt_of_le_of_ne (List.length_filter_le _ _) fun h => ?_
  have := List.length_filter_eq_length_iff.1 h l[k] (List.getElem_mem _)
  simp [he] at this
theorem keyDevB_slot {d : KeyDevR} (h : keyDevB d = true) {k : Nat} (hk : k < d.slots.length) : slotAt d.slots k = true := by
  have h2 : allIx d.slots.length (slotAt d.slots) = true := by simp [keyDevB] at h; exact h.2
  exact allIx_spec h2 k hk
theorem keyDevB_heads {d : KeyDevR} (h : keyDevB d = true) : d.slots.length ≤ 4 ∧ 0 ≤ d.wiped ∧ d.wiped ≤ 1000000 := by
  have : keyHead d = true := by simp [keyDevB] at h; exact h.1
  simp [keyHead, inB] at this
  omega
theorem keyDevB_mono {d : KeyDevR} (h : keyDevB d = true) {i j : Nat} (hij : i < j) (hj : j < d.slots.length) : (d.slots[i]'(by omega)).ten < d.slots[j].ten := by
  induction j with
  | zero => omega
  | succ j ih =>
    have hs := keyDevB_slot h hj
    rw [slotAt_next hj (by omega) (by omega)] at hs
    simp at hs
    rcases Nat.lt_or_ge i j with hlt | hge
    · exact Int.lt_trans (ih hlt (by omega)) hs.2
    · obtain rfl : i = j := by omega
      exact hs.2
theorem others_cut {d : KeyDevR} (h : keyDevB d = true) {n : Int} {k : Nat} (hk : k < d.slots.length) (he : d.slots[k].ten = n) : others d.slots n = d.slots.take k ++ d.slots.drop (k + 1) := by
  have e : d.slots = d.slots.take k ++ (d.slots[k] :: d.slots.drop (k + 1)) := by rw [← List.drop_eq_getElem_cons hk, List.take_append_drop]
  have h1 : others (d.slots.take k) n = d.slots.take k := others_none fun i hi => by
    simp at hi
    have := keyDevB_mono h (i := i) (j := k) (by omega) hk
    simp only [List.getElem_take]; omega
  have h2 : others (d.slots.drop (k + 1)) n = d.slots.drop (k + 1) := others_none fun i hi => by
    simp at hi
    have := keyDevB_mono h (i := k) (j := k + 1 + i) (by omega) (by omega)
    simp only [List.getElem_drop]; omega
  unfold others at *
  conv => lhs; rw [e]
  rw [List.filter_append, List.filter_cons, h1, h2]
  simp [he]
theorem keyWipe_len (d : KeyDevR) (n : Int) (l0 : (d.slots.length : Int) ≤ 1048576) : ((keyWipe d n).slots.length : Int) ≤ 1048576 := by
  have := others_le d.slots n
  unfold keyWipe
  split
  · split
    · simp only []; omega
    · exact l0
  · simp [noKeys]
end Sp
end Go.Proofs.Ytfbbdnicplbmdaa
/- Plain: a key device with one slot added. -/
set_option linter.unusedVariables false
set_option linter.unusedSimpArgs false
namespace Go.Proofs.Ytfbbdnicplbmdaa
open Go.RowKit Sp Go.Sort
namespace Sp
def posOf : List SlotR → Int → Nat
  | [], _ => 0
  | x :: l, n => if x.ten < n then posOf l n + 1 else 0
theorem posOf_le : ∀ (l : List SlotR) (n : Int), posOf l n ≤ l.length
  | [], _ => Nat.le_refl _
  | x :: l, n => by unfold posOf; have := posOf_le l n; split <;> simp; omega
theorem posOf_lt : ∀ (l : List SlotR) (n : Int) (j : Nat) (hj : j < l.length), j < posOf l n → l[j].ten < n
  | [], _, j, hj, _ => by simp at hj
  | x :: l, n, 0, _, h => by unfold posOf at h; split at h <;> first | simpa | omega
  | x :: l, n, j + 1, hj, h => by
    unfold posOf at h
    split at h
    · simpa using posOf_lt l n j (by simpa using hj) (by omega)
    · omega
theorem posOf_at : ∀ (l : List SlotR) (n : Int) (h : posOf l n < l.length), n ≤ l[posOf l n].ten
  | [], _, h => by simp at h
  | x :: l, n, h => by
    by_cases hx : x.ten < n
    · have e : posOf (x :: l) n = posOf l n + 1 := by rw [posOf, if_pos hx]
      simp only [e] at h ⊢
      simpa using posOf_at l n (by simpa using h)
    · have e : posOf (x :: l) n = 0 := by rw [posOf, if_neg hx]
      simp only [e]
      simpa using hx
def addS (l : List SlotR) (n : Int) (key : ByteArray) : List SlotR := l.take (posOf l n) ++ ⟨n, key⟩ :: l.drop (posOf l n)
theorem addS_length (l : List SlotR) (n : Int) (key : ByteArray) : (addS l n key).length = l.length + 1 := by
  have := posOf_le l n
  simp [addS]; omega
/-- What the loop has built behind k rounds. -/
def outAt (l : List SlotR) (n : Int) (key : ByteArray) (k : Nat) : List SlotR := if k ≤ posOf l n then l.take k else l.take (posOf l n) ++ ⟨n, key⟩ :: (l.take k).drop (posOf l n)
theorem outAt_le (l : List SlotR) (n : Int) (key : ByteArray) (k : Nat) : (outAt l n key k).length ≤ l.length + 1 := by
  have := posOf_le l n
  unfold outAt; split <;> simp <;> omega
theorem outAt_step {l : List SlotR} {n : Int} {key : ByteArray} {k : Nat} (h : k < l.length) (hp : k ≠ posOf l n) : outAt l n key (k + 1) = outAt l n key k ++ [l[k]] := by
  unfold outAt
  by_cases h1 : k + 1 ≤ posOf l n
  · rw [if_pos h1, if_pos (by omega), List.take_succ_eq_append_getElem h]
  · rw [if_neg h1, if_neg (by omega), List.take_succ_eq_append_getElem h, List.drop_append_of_le_length (by simp; omega)]
    simp
theorem outAt_put {l : List SlotR} {n : Int} {key : ByteArray} {k : Nat} (h : k < l.length) (hp : k = posOf l n) : outAt l n key (k + 1) = (outAt l n key k ++ [⟨n, key⟩]) ++ [l[k]] := by
  unfold outAt
  rw [if_neg (by omega), if_pos (by omega), List.take_succ_eq_append_getElem h, List.drop_append_of_le_length (by simp; omega), ← hp]
  simp
theorem outAt_end (l : List SlotR) (n : Int) (key : ByteArray) (h : posOf l n < l.length) : outAt l n key l.length = addS l n key := by
  unfold outAt addS
  rw [if_neg (by omega), List.take_length]
theorem outAt_last (l : List SlotR) (n : Int) (key : ByteArray) (h : ¬ posOf l n < l.length) : outAt l n key l.length ++ [⟨n, key⟩] = addS l n key := by
  have := posOf_le l n
  have e : posOf l n = l.length := by omega
  unfold outAt addS
  rw [if_pos (by omega), e]
  simp
def keyAddS (d : KeyDevR) (n : Int) (key : ByteArray) : KeyDevR := ⟨d.master, addS d.slots n key, d.wiped⟩
def addB (d : KeyDevR) (n : Int) (key : ByteArray) : Bool := keyDevB d && keyDevB (keyAddS d n key)
def keyAdd (d : KeyDevR) (n : Int) (key : ByteArray) : KeyDevR := if keyDevB d then (if addB d n key then keyAddS d n key else d) else noKeys
theorem keyAdd_dup {d : KeyDevR} {n : Int} {key : ByteArray} {k : Nat} (hk : k < d.slots.length) (he : d.slots[k].ten = n) : keyDevB (keyAddS d n key) = false := by
  rcases hb : keyDevB (keyAddS d n key) with _ | _
  · rfl
  exfalso
  have hple := posOf_le d.slots n
  have hp : posOf d.slots n ≤ k := by
    rcases Nat.lt_or_ge k (posOf d.slots n) with h | h
    · have := posOf_lt d.slots n k hk h; omega
    · exact h
  have hl : (keyAddS d n key).slots.length = d.slots.length + 1 := addS_length _ _ _
  have := keyDevB_mono hb (i := posOf d.slots n) (j := k + 1) (by omega) (by omega)
  simp only [keyAddS, addS] at this
  rw [List.getElem_append_right (by rw [List.length_take]; omega), List.getElem_append_right (by rw [List.length_take]; omega)] at this
  simp only [List.length_take, Nat.min_eq_left hple, Nat.sub_self, List.getElem_cons_zero] at this
  have e : k + 1 - posOf d.slots n = (k - posOf d.slots n) + 1 := by omega
  simp only [e, List.getElem_cons_succ, List.getElem_drop] at this
  have e2 : posOf d.slots n + (k - posOf d.slots n) = k := by omega
  simp only [e2] at this
  omega
theorem keyAdd_len (d : KeyDevR) (n : Int) (key : ByteArray) (l0 : (d.slots.length : Int) ≤ 1048576) : ((keyAdd d n key).slots.length : Int) ≤ 1048576 := by
  unfold keyAdd
  split
  · split
    · rename_i _ h
      simp only [addB, Bool.and_eq_true] at h
      have := keyDevB_heads h.2
      omega
    · exact l0
  · simp [noKeys]
end Sp
end Go.Proofs.Ytfbbdnicplbmdaa
/- Walks: the laws' helper that marks a row of KeySlot. -/
set_option linter.unusedVariables false
set_option linter.unusedSimpArgs false
namespace Go.Proofs.Ytfbbdnicplbmdaa
open Go.RowKit Sp Go.Sort

namespace Sp
def mkKeySlot (k : Nat) : SlotR := ⟨((k : Nat) : Int), str (markL (k + 1))⟩
def marksKeySlot (k m : Nat) : List SlotR := (List.range m).map fun i => mkKeySlot (k + 2 * i)
theorem marksKeySlot_length (k m : Nat) : (marksKeySlot k m).length = m := by simp [marksKeySlot]
theorem marksKeySlot_step (k : Nat) (l : List SlotR) (i : Nat) (h : i < l.length) : ((marksKeySlot k i ++ l.drop i).map SlotR.cells).set i (mkKeySlot (k + 2 * i)).cells = (marksKeySlot k (i + 1) ++ l.drop (i + 1)).map SlotR.cells := by
  rw [List.map_append, List.set_append_right _ _ (by simp [marksKeySlot_length])]
  rw [show i - ((marksKeySlot k i).map SlotR.cells).length = 0 from by simp [marksKeySlot_length], List.drop_eq_getElem_cons h, List.map_cons, List.set_cons_zero]
  unfold marksKeySlot
  rw [List.range_succ]
  simp
end Sp

end Go.Proofs.Ytfbbdnicplbmdaa
/- Walks: the laws' helper that reads the marks of a row of KeySlot. -/
set_option linter.unusedVariables false
set_option linter.unusedSimpArgs false
namespace Go.Proofs.Ytfbbdnicplbmdaa
open Go.RowKit Sp Go.Sort

end Go.Proofs.Ytfbbdnicplbmdaa
/- Walks: the laws' helper that marks a row of KeySlot, nil or not, said of rows. -/
set_option linter.unusedVariables false
set_option linter.unusedSimpArgs false
namespace Go.Proofs.Ytfbbdnicplbmdaa
open Go.RowKit Sp Go.Sort

end Go.Proofs.Ytfbbdnicplbmdaa
/- Walks: the laws' helpers that mark KeyDev and read its marks; its slices are rows of one's own. -/
set_option linter.unusedVariables false
set_option linter.unusedSimpArgs false
namespace Go.Proofs.Ytfbbdnicplbmdaa
open Go.RowKit Sp Go.Sort

/-- The value is the record, with slices of its own in the blocks from lo up to below hi. -/
def RowKeyDev (lo hi : Nat) (w : World) (v : Value) (d : KeyDevR) : Prop := ∃ s1 : Value, v = .agg #[.string d.master, s1, .int .i64 d.wiped] ∧ Row SlotR.cells 150 2 lo hi w s1 d.slots
theorem RowKeyDev.is {lo hi : Nat} {w : World} {v : Value} {d : KeyDevR} (h : RowKeyDev lo hi w v d) : IsKeyDev w v d := by
  obtain ⟨s1, rfl, r1⟩ := h
  exact ⟨s1, rfl, r1.slT (fun _ => rfl) (by decide)⟩
theorem RowKeyDev.below {lo hi : Nat} {w : World} {v : Value} {d : KeyDevR} {w' : World} (h : RowKeyDev lo hi w v d) (hb : Below w.heap.size w w') : RowKeyDev lo hi w' v d := by
  obtain ⟨s1, rfl, r1⟩ := h
  exact ⟨s1, rfl, r1.below hb⟩
theorem RowKeyDev.kept {lo hi : Nat} {w : World} {v : Value} {d : KeyDevR} {w' : World} {a b : Nat} (h : RowKeyDev lo hi w v d) (hw : Wrote a b w w') (hd : hi ≤ a ∨ b ≤ lo) : RowKeyDev lo hi w' v d := by
  obtain ⟨s1, rfl, r1⟩ := h
  exact ⟨s1, rfl, r1.kept hw (by omega)⟩
theorem RowKeyDev.wide {lo hi : Nat} {w : World} {v : Value} {d : KeyDevR} (h : RowKeyDev lo hi w v d) {lo' hi' : Nat} (h1 : lo' ≤ lo) (h2 : hi ≤ hi') : RowKeyDev lo' hi' w v d := by
  obtain ⟨s1, rfl, r1⟩ := h
  exact ⟨s1, rfl, r1.wide h1 h2⟩
theorem IsKeyDev.s1 {w : World} {d : KeyDevR} {a0 : ByteArray} {a1 : Value} {a2 : Int} (h : IsKeyDev w (.agg #[.string a0, a1, .int .i64 a2]) d) : SlT SlotR.cells 2 w a1 d.slots := by
  obtain ⟨s1, he, h1⟩ := h
  simp at he
  obtain rfl : a1 = s1 := by first | exact he.1 | exact he.2.1 | exact he.2.2.1 | exact he
  exact h1
/-- The record, marked from k on. -/
def Sp.KeyDevR.marked (d : KeyDevR) (k : Nat) : KeyDevR := { d with slots := marksKeySlot (k) d.slots.length }
end Go.Proofs.Ytfbbdnicplbmdaa
/- Walks: slices.Delete of one element at KeySlot, a row of one's own. -/
set_option linter.unusedVariables false
set_option linter.unusedSimpArgs false
namespace Go.Proofs.Ytfbbdnicplbmdaa
open Go.RowKit Sp Go.Sort
theorem slotOne : ∀ x : SlotR, ∀ u ∈ SlotR.cells x, u.oneCell' = true := by
  intro x u hu
  simp [SlotR.cells] at hu
  rcases hu with rfl | rfl <;> rfl

set_option maxRecDepth 100000 in
set_option maxHeartbeats 1600000 in
theorem delete_any (g cap : Nat) (l : List SlotR) (i : Nat) (hi : i < l.length) (hcap : l.length ≤ cap) (hcm : cap ≤ 9223372036854775807) (base : Nat) (w : World) (h : w.ownsRow base 150 2 (.slice (some ⟨g, 0, none⟩) l.length cap) l.length (l.map SlotR.cells).flatten) :
    Calls Try.prog 118 #[.slice (some ⟨g, 0, none⟩) l.length cap, .int .i64 i, .int .i64 ((i : Int) + 1)] w fun e w' => e = .returned (.slice (some ⟨g, 0, none⟩) (l.length - 1) cap) ∧ w'.ownsRow base 150 2 (.slice (some ⟨g, 0, none⟩) (l.length - 1) cap) (l.length - 1) ((l.take i ++ l.drop (i + 1)).map SlotR.cells).flatten ∧ w.grownBy w' (some g) := by
  obtain ⟨i0, hi0, hz0, hz1, hz2⟩ := info_parts info_KeySlot
  have hlen : ((l.map SlotR.cells).flatten).length = l.length * 2 := flat_length (enc := SlotR.cells) (size := 2) (fun _ => rfl) l
  obtain ⟨news, hnews⟩ : ∃ news, news = ((l.drop (i + 1)).map SlotR.cells).flatten := ⟨_, rfl⟩
  have hnl : news.length = (l.length - (i + 1)) * 2 := by rw [hnews, flat_length (enc := SlotR.cells) (size := 2) (fun _ => rfl)]; simp
  have hsrc : ∀ t u, news[t]? = some u → w.drew.cell? ⟨g, (i + 1) * 2 + t, none⟩ = some u := by
    intro t u hu
    show w.cell? _ = _
    refine own_cell h ?_
    have e : (l.map SlotR.cells).flatten = ((l.take (i + 1)).map SlotR.cells).flatten ++ news := by rw [hnews, ← List.flatten_append, ← List.map_append, List.take_append_drop]
    rw [e, List.getElem?_append_right (by rw [flat_length (enc := SlotR.cells) (size := 2) (fun _ => rfl), List.length_take]; omega), flat_length (enc := SlotR.cells) (size := 2) (fun _ => rfl), List.length_take, Nat.min_eq_left (by omega)]
    rw [show (i + 1) * 2 + t - (i + 1) * 2 = t from by omega]; exact hu
  have s2 : ∀ u ∈ news, u.oneCell' = true := by
    intro u hu
    rw [hnews] at hu
    obtain ⟨c, hc, hu⟩ := List.mem_flatten.1 hu
    obtain ⟨y, _, rfl⟩ := List.mem_map.1 hc
    exact slotOne y u hu
  obtain ⟨A, hA, hs2⟩ : ∃ A : Addr, (if cap = i + 1 then some (⟨g, 0, none⟩ : Addr) else some ⟨g, (i + 1) * 2, none⟩) = some A ∧ Hid (∀ t u, news[t]? = some u → w.drew.cell? (A.add t) = some u) := by
    by_cases hc : cap = i + 1
    · refine ⟨⟨g, 0, none⟩, by simp [hc], Lib.hid fun t u hu => ?_⟩
      have h0 : news.length = 0 := by rw [hnl]; omega
      rw [List.length_eq_zero_iff.1 h0] at hu
      simp at hu
    · exact ⟨⟨g, (i + 1) * 2, none⟩, by simp [hc], Lib.hid fun t u hu => by rw [add_none]; exact hsrc t u hu⟩
  have s3 : Hid (∀ t, t < news.length → (w.drew.cell? ⟨g, 0 + i * 2 + t, none⟩).isSome = true ∧ w.drew.frozen? ⟨g, 0 + i * 2 + t, none⟩ = false) := Lib.hid (by
    intro t ht
    obtain ⟨x0, q0⟩ := cell_owns h.drew (0 + i * 2 + t) (by omega)
    exact ⟨by rw [q0]; rfl, h.drew.frozenAt _⟩)
  have s1 := Lib.hid hnl
  have S2 := Lib.hid s2
  obtain ⟨W1, hW1⟩ : ∃ W1, W1 = w.drew.setCells g (0 + i * 2) news := ⟨_, rfl⟩
  have hW := Lib.hid hW1
  have o1 : W1.ownsRow base 150 2 (.slice (some ⟨g, 0, none⟩) l.length cap) l.length (setAll (l.map SlotR.cells).flatten (0 + i * 2) news) := by rw [hW1]; exact (own_setCells news w.drew _ _ h.drew).1
  have g1 : w.grownBy W1 (some g) := by
    rw [hW1]
    have a := (own_setCells news w.drew _ (0 + i * 2) h.drew).2
    exact ⟨a.os, a.tape, a.output, a.size, a.block⟩
  obtain ⟨Z, hZ⟩ : ∃ Z, Z = (Builtin.zeroCells (Value.agg #[.int .i64 0, .string ByteArray.empty]).cells 1).toList := ⟨_, rfl⟩
  have hZl : Z.length = 2 := by rw [hZ]; simp [Builtin.zeroCells, Value.cells]
  have hZo : ∀ u ∈ Z, u.oneCell' = true := by rw [hZ]; intro u hu; simp [Builtin.zeroCells, Value.cells] at hu; first | (obtain ⟨j, hj, rfl⟩ := hu; match j, hj with | 0, _ => rfl | 1, _ => rfl) | (rcases hu with rfl | rfl <;> rfl)
  have hcl : ∀ ty, (Builtin.clear_ #[62] ty #[.slice (some ⟨g, (l.length - 1) * 2, none⟩) 1 (cap - (l.length - 1))]).run Try.prog W1 = .ok (.tuple #[]) (W1.setCells g ((l.length - 1) * 2) Z) := fun ty => by
    rw [hZ]
    refine run_clear_recs W1 _ 150 ty (.agg #[.int .i64 0, .string ByteArray.empty]) Try.underlying62 (fun _ => rfl) (by rw [← hZ]; exact hZo) g _ _ (fun j hj => ?_) (fun j hj => o1.frozenAt _)
    rw [← hZ, hZl] at hj
    obtain ⟨x0, q0⟩ := cell_owns o1 ((l.length - 1) * 2 + j) (by omega)
    rw [q0]; rfl
  have o2 := own_cut (own_setCells Z W1 _ ((l.length - 1) * 2) o1).1 (m := l.length - 1) (by omega)
  have he : (setAll (setAll (l.map SlotR.cells).flatten (0 + i * 2) news) ((l.length - 1) * 2) Z).take ((l.length - 1) * 2) = ((l.take i ++ l.drop (i + 1)).map SlotR.cells).flatten := by
    rw [setAll_take _ _ _ _ (Nat.le_refl _), show (l.length - 1) * 2 = 0 + i * 2 + news.length from by omega, setAll_eq _ _ _ (by omega), hnews, show 0 + i * 2 = i * 2 from by omega, flat_take (f := SlotR.cells) (n := 2) (fun _ => rfl), ← List.flatten_append, ← List.map_append]
  rw [he] at o2
  have g2 := (own_setCells Z W1 _ ((l.length - 1) * 2) o1).2
  have HZ := Lib.hid hZ
  clear hZ hZo
  have hpp : i + (l.length - (i + 1)) = l.length - 1 := by omega
  have hp1 : l.length - (l.length - 1) = 1 := by omega
  have hic : i ≤ cap := by omega
  have hjc : i + 1 ≤ cap := by omega
  have hq1 : (0 : Int) ≤ (i : Int) + 1 := by omega
  have hq2 : ((i : Int) + 1).toNat = i + 1 := by omega
  have hq3 : (i : Int) + 1 ≤ l.length := by omega
  have hq4 : (i : Int) + 1 ≤ cap := by omega
  have hq5 : (l.length : Int) ≤ cap := by omega
  have hq6 : (i : Int) ≤ cap := by omega
  clear hsrc s2 hW1 hnews
  go_enter Try.func118, Try.ntmps118
  go_wp2_with fail
  go_region_law (refine step_append_room rfl (.tmp 22) (.tmp 25) 62 rfl 150 i0 2 Try.underlying62 hi0 hz1 g 0 i cap (by simp [Act.eval, Act.put]) A (l.length - (i + 1)) (cap - (i + 1)) news (by simp [Act.eval, Act.put]) s1.out hs2.out S2.out (by omega) s3.out ?_; rw [← hW.out])
  go_wp2
  go_ret
  exact ⟨rfl, o2, ⟨g2.os.trans g1.os, g2.tape.trans g1.tape, g2.output.trans g1.output, Nat.le_trans g1.size g2.size, fun k hk hne => (g2.block k (Nat.lt_of_lt_of_le hk g1.size) hne).trans (g1.block k hk hne)⟩⟩
end Go.Proofs.Ytfbbdnicplbmdaa
/- Walks: slices.Clone at KeySlot. -/
set_option linter.unusedVariables false
set_option linter.unusedSimpArgs false
namespace Go.Proofs.Ytfbbdnicplbmdaa
open Go.RowKit Sp Go.Sort

set_option maxRecDepth 100000 in
set_option maxHeartbeats 400000 in
theorem cloneKeySlot_row (ad : Option Addr) (cap : Nat) (l : List SlotR) (w : World) (h : SlT SlotR.cells 2 w (.slice ad l.length cap) l) (hl : (l.length : Int) ≤ 1048576) :
    Calls Try.prog 165 #[.slice ad l.length cap] w fun e w' => ∃ v', e = .returned v' ∧ Row SlotR.cells 150 2 w.heap.size w'.heap.size w' v' l ∧ Below w.heap.size w w' := by
  cases ad with
  | none =>
    obtain ⟨ao', cp, hv, _, _, hsh⟩ := h.shape
    obtain ⟨rfl, rfl⟩ : none = ao' ∧ cap = cp := by simpa using hv
    have hl0 : l.length = 0 := Nat.eq_zero_of_not_pos fun h => by
      obtain ⟨b, off, hb, _⟩ := hsh h
      cases hb
    obtain rfl : l = [] := List.eq_nil_of_length_eq_zero hl0
    have hn := fun w : World => run_eql_slice_nil (P := Try.prog) w 62 _ none 0 cap Try.underlying62
    go_enter Try.func165, Try.ntmps165
    go_wp2
    go_ret
    exact ⟨_, rfl, Row.nil _ _ _, Below.refl _ _⟩
  | some ad =>
    have h0 : (w.alloc (.cells #[] 150)).ownsRow w.heap.size 150 2 (.slice (some ⟨w.heap.size, 0, none⟩) 0 0) 0 [] := World.ownsRow_lit w #[] 0 (Nat.le_refl _) (by simp [maxLen]) rfl
    have hb0 : RowKit.Below w.heap.size w (w.alloc (.cells #[] 150)) := (Below.refl _ _).alloc (Nat.le_refl _) _
    have hb := h.below hb0
    have h1 : ∀ x : SlotR, ∀ u ∈ SlotR.cells x, u.oneCell' = true := by
      intro x u hu
      simp [SlotR.cells] at hu
      first | (rcases hu with rfl | rfl | rfl | rfl | rfl <;> rfl) | (rcases hu with rfl | rfl | rfl | rfl <;> rfl) | (rcases hu with rfl | rfl | rfl <;> rfl) | (rcases hu with rfl | rfl <;> rfl) | (subst hu; rfl)
    have hn := fun w : World => run_eql_slice_nil (P := Try.prog) w 62 _ (some ad) l.length cap Try.underlying62
    go_enter Try.func165, Try.ntmps165
    go_wp2_with (at_builtin; refine app_recs rfl rfl Try.underlying62 info_KeySlot rfl (by decide) h0 rfl (some ad) cap hb rfl (fun _ => rfl) h1 (by omega) hb0 (Nat.le_refl _) hb0.size ?_; intro v' w1 hr1 hbl1 hg1)
    go_ret
    exact ⟨_, rfl, Row.of_own (by simpa using hr1) (by simp), hbl1⟩
end Go.Proofs.Ytfbbdnicplbmdaa
/- Walks: copies of a key device: fresh rows. -/
set_option linter.unusedVariables false
set_option linter.unusedSimpArgs false
namespace Go.Proofs.Ytfbbdnicplbmdaa
open Go.RowKit Sp Go.Sort

set_option maxRecDepth 100000 in
set_option maxHeartbeats 800000 in
theorem l4Copy_row (d : KeyDevR) (ad : Option Addr) (cap : Nat) (w : World) (h0 : SlT SlotR.cells 2 w (.slice ad d.slots.length cap) d.slots) (l0 : (d.slots.length : Int) ≤ 1048576) :
    Calls Try.prog 119 #[.agg #[.string d.master, .slice ad d.slots.length cap, .int .i64 d.wiped]] w fun e w' => ∃ v', e = .returned v' ∧ RowKeyDev w.heap.size w'.heap.size w' v' d ∧ Below w.heap.size w w' := by
  have hb2 : ∀ o₁ o₂ : Obj, RowKit.Below w.heap.size w ((w.alloc o₁).alloc o₂) := fun o₁ o₂ => ((Below.refl _ _).alloc (Nat.le_refl _) _).alloc (by simp <;> omega) _
  have hb3 : ∀ o₁ o₂ o₃ : Obj, RowKit.Below (w.heap.size + 1 + 1) ((w.alloc o₁).alloc o₂) (((w.alloc o₁).alloc o₂).alloc o₃) := fun o₁ o₂ o₃ => (Below.refl _ _).alloc (by simp) _
  have hb4 : ∀ o₁ o₂ o₃ : Obj, RowKit.Below w.heap.size w (((w.alloc o₁).alloc o₂).alloc o₃) := fun o₁ o₂ o₃ => (hb2 o₁ o₂).alloc (by simp <;> omega) _
  have hb5 : ∀ o₁ o₂ o₃ : Obj, w.heap.size + 1 + 1 ≤ (((w.alloc o₁).alloc o₂).alloc o₃).heap.size := fun o₁ o₂ o₃ => by simp
  have hz : ∀ o₁ o₂ : Obj, (((w.alloc o₁).alloc o₂).alloc (.cells #[] 150)).ownsRow (w.heap.size + 1 + 1) 150 2 (.slice (some ⟨w.heap.size + 1 + 1, 0, none⟩) 0 0) 0 [] := fun o₁ o₂ => own0 (by simp) (Nat.le_refl _)
  go_enter Try.func119, Try.ntmps119
  go_upto_region 2 with (at_builtin; refine app_recs rfl rfl Try.underlying62 info_KeySlot rfl (by decide) (hz _ _) rfl ad cap (h0.below (hb4 _ _ _)) rfl (fun _ => rfl) slotOne (by omega) (hb3 _ _ _) (Nat.le_refl _) (hb5 _ _ _) ?_; intro v' w1 hr1 hbl1 hg1; have hx := (hb2 _ _).trans (hbl1.mono (show w.heap.size ≤ w.heap.size + 1 + 1 from by omega)); obtain ⟨ao, cp, rfl⟩ := (Row.of_own hr1 (by simp)).form; obtain ⟨hc, hf⟩ := bcellB hbl1; have ca0 := fun o => hc w.heap.size o (by omega); have fa0 := fun o => hf w.heap.size o (by omega); have ca1 := fun o => hc (w.heap.size + 1) o (by omega); have fa1 := fun o => hf (w.heap.size + 1) o (by omega); clear hc hf)
  have hr2 : w1.ownsRow (w.heap.size + 1 + 1) 150 2 (.slice ao d.slots.length cp) d.slots.length (d.slots.map SlotR.cells).flatten := by simpa using hr1
  clear hr1 hg1
  go_wp2
  refine bodyPost_ret (v := .agg #[.string d.master, .slice ao d.slots.length cp, .int .i64 d.wiped]) (by simp [results, Try.results119, go_sem, ca0, ca1]) rfl ?_
  refine ⟨_, rfl, ⟨_, rfl, Row.of_own (own_mono (base := w.heap.size + 1 + 1) ?_ (by omega)) rfl⟩, ?_⟩
  · repeat (refine own_other ?_ _ (by simp <;> omega) _)
    exact hr2
  · repeat (refine Below.setCell ?_ (by simp <;> omega) _)
    exact hx

set_option maxRecDepth 100000 in
set_option maxHeartbeats 800000 in
theorem copyKeys_row (d : KeyDevR) (ad : Option Addr) (cap : Nat) (w : World) (h0 : SlT SlotR.cells 2 w (.slice ad d.slots.length cap) d.slots) (l0 : (d.slots.length : Int) ≤ 1048576) :
    Calls Try.prog 116 #[.agg #[.string d.master, .slice ad d.slots.length cap, .int .i64 d.wiped]] w fun e w' => ∃ v', e = .returned v' ∧ RowKeyDev w.heap.size w'.heap.size w' v' d ∧ Below w.heap.size w w' := by
  have hb2 : ∀ o₁ o₂ : Obj, RowKit.Below w.heap.size w ((w.alloc o₁).alloc o₂) := fun o₁ o₂ => ((Below.refl _ _).alloc (Nat.le_refl _) _).alloc (by simp <;> omega) _
  go_enter Try.func116, Try.ntmps116
  go_wp2_with (go_at_call 165; refine (cloneKeySlot_row ad cap d.slots _ (h0.below (hb2 _ _)) l0).mono ?_; rintro e w1 ⟨v0, rfl, r0, b1⟩; obtain ⟨ao, cp, rfl⟩ := r0.form; have x1 := Below.trans (hb2 _ _) (b1.mono (Below.size (hb2 _ _))); have hs1 : w.heap.size + 1 < w1.heap.size := Nat.lt_of_lt_of_le (by simp) b1.size; obtain ⟨hc, hf⟩ := bcell b1; have cA1 := fun o => hc w.heap.size o (by first | omega | (simp <;> omega)); have fA1 := fun o => hf w.heap.size o (by first | omega | (simp <;> omega)); have cR1 := fun o => hc (w.heap.size + 1) o (by first | omega | (simp <;> omega)); have fR1 := fun o => hf (w.heap.size + 1) o (by first | omega | (simp <;> omega)); clear hc hf)
  go_wp2
  refine bodyPost_ret (v := .agg #[.string d.master, .slice ao d.slots.length cp, .int .i64 d.wiped]) (by simp [results, Try.results116, go_sem, cA1, cR1]) rfl ?_
  refine ⟨_, rfl, ⟨_, rfl, Row.of_own (own_mono (base := w.heap.size + 1 + 1) ?_ (by omega)) rfl⟩, ?_⟩
  · repeat (refine own_other ?_ _ (by simp <;> omega) _)
    exact own_mono r0.1 (by simp)
  · repeat (refine Below.setCell ?_ (by simp <;> omega) _)
    exact x1
end Go.Proofs.Ytfbbdnicplbmdaa
/- Walks: KeyWipe of the reference and of the program. -/
set_option linter.unusedVariables false
set_option linter.unusedSimpArgs false
namespace Go.Proofs.Ytfbbdnicplbmdaa
open Go.RowKit Sp Go.Sort
theorem hal' (W : World) (o : Obj) : RowKit.Below W.heap.size W (W.alloc o) := (Below.refl _ _).alloc (Nat.le_refl _) _

set_option maxRecDepth 100000 in
set_option maxHeartbeats 1600000 in
theorem specKeyWipe_row (d : KeyDevR) (n : Int) (ad : Option Addr) (cap : Nat) (w : World) (h0 : SlT SlotR.cells 2 w (.slice ad d.slots.length cap) d.slots) (l0 : (d.slots.length : Int) ≤ 1048576) :
    Calls Try.prog 41 #[.agg #[.string d.master, .slice ad d.slots.length cap, .int .i64 d.wiped], .int .i64 n] w fun e w' => ∃ v', e = .returned (.tuple #[v', .bool (wipeB d n)]) ∧ RowKeyDev w.heap.size w'.heap.size w' v' (keyWipe d n) ∧ Below w.heap.size w w' := by
  have hb2 : ∀ o₁ o₂ : Obj, RowKit.Below w.heap.size w ((w.alloc o₁).alloc o₂) := fun o₁ o₂ => ((Below.refl _ _).alloc (Nat.le_refl _) _).alloc (by simp <;> omega) _
  have hI : IsKeyDev w (.agg #[.string d.master, .slice ad d.slots.length cap, .int .i64 d.wiped]) d := ⟨_, rfl, h0⟩
  rcases hd : keyDevB d with _ | _
  · have HR := Lib.hid (show keyWipe d n = noKeys from by simp [keyWipe, hd])
    have HB := Lib.hid (show wipeB d n = false from by simp [wipeB, hd])
    go_enter Try.func41, Try.ntmps41
    go_wp2_with (go_at_call 47; refine (specKeyOk _ d _ (hI.below (hb2 _ _)) l0).mono ?_; rintro e w1 ⟨rfl, b1⟩; rw [hd]; have x1 := Below.trans (hb2 _ _) (b1.mono (Below.size (hb2 _ _))); have z1 : w.heap.size + 1 < w1.heap.size := Nat.lt_of_lt_of_le (by simp) b1.size; obtain ⟨hc, hf⟩ := bcell b1; have cA1 := fun o => hc w.heap.size o (by first | omega | (simp <;> omega)); have fA1 := fun o => hf w.heap.size o (by first | omega | (simp <;> omega)); have cR1 := fun o => hc (w.heap.size + 1) o (by first | omega | (simp <;> omega)); have fR1 := fun o => hf (w.heap.size + 1) o (by first | omega | (simp <;> omega)); clear hc hf)
    go_wp2
    refine bodyPost_ret (v := .tuple #[.agg #[.string ByteArray.empty, .slice none 0 0, .int .i64 0], .bool false]) (by simp [results, Try.results41, go_sem, cA1, cR1] <;> rfl) rfl ?_
    rw [HR.out, HB.out]
    refine ⟨_, rfl, ?_, ?_⟩
    · exact ⟨_, rfl, Row.nil _ _ _⟩
    · repeat (refine Below.setCell ?_ (by simp <;> omega) _)
      exact x1
  have hwr := keyDevB_heads hd
  have hw1 : IntKind.i64.wrap (d.wiped + 1) = d.wiped + 1 := by rw [IntKind.wrap_i64]; omega
  go_enter Try.func41, Try.ntmps41
  go_wp2_with (go_at_call 47; refine (specKeyOk _ d _ (hI.below (hb2 _ _)) l0).mono ?_; rintro e w1 ⟨rfl, b1⟩; rw [hd]; have x1 := Below.trans (hb2 _ _) (b1.mono (Below.size (hb2 _ _))); have z1 : w.heap.size + 1 < w1.heap.size := Nat.lt_of_lt_of_le (by simp) b1.size; obtain ⟨hc, hf⟩ := bcell b1; have cA1 := fun o => hc w.heap.size o (by first | omega | (simp <;> omega)); have fA1 := fun o => hf w.heap.size o (by first | omega | (simp <;> omega)); have cR1 := fun o => hc (w.heap.size + 1) o (by first | omega | (simp <;> omega)); have fR1 := fun o => hf (w.heap.size + 1) o (by first | omega | (simp <;> omega)); clear hc hf)
  go_upto_region 4 with (go_at_call 119; refine (l4Copy_row d ad cap _ (h0.below x1) l0).mono ?_; rintro e w2 ⟨v2, rfl, ⟨s1, rfl, r2⟩, b2⟩; obtain ⟨ao, cp, rfl⟩ := r2.form; have x2 := x1.trans (b2.mono x1.size); have z2 := b2.size; obtain ⟨hc, hf⟩ := bcell b2; have cA2 := fun o => hc w.heap.size o (by first | omega | (simp <;> omega)); have fA2 := fun o => hf w.heap.size o (by first | omega | (simp <;> omega)); have cR2 := fun o => hc (w.heap.size + 1) o (by first | omega | (simp <;> omega)); have fR2 := fun o => hf (w.heap.size + 1) o (by first | omega | (simp <;> omega)); clear hc hf)
  have hx0 : (w2.alloc (.cells #[.string d.master, .slice ao d.slots.length cp, .int .i64 d.wiped] 64)).cell? ⟨w2.heap.size, 0, none⟩ = some (.string d.master) := by simp [go_sem]
  have hx1 : (w2.alloc (.cells #[.string d.master, .slice ao d.slots.length cp, .int .i64 d.wiped] 64)).cell? ⟨w2.heap.size, 1, none⟩ = some (.slice ao d.slots.length cp) := by simp [go_sem]
  have hx2 : (w2.alloc (.cells #[.string d.master, .slice ao d.slots.length cp, .int .i64 d.wiped] 64)).cell? ⟨w2.heap.size, 2, none⟩ = some (.int .i64 d.wiped) := by simp [go_sem]
  have hxf : ∀ o, (w2.alloc (.cells #[.string d.master, .slice ao d.slots.length cp, .int .i64 d.wiped] 64)).frozen? ⟨w2.heap.size, o, none⟩ = false := fun o => by simp [go_sem]
  have hsz : (w2.alloc (.cells #[.string d.master, .slice ao d.slots.length cp, .int .i64 d.wiped] 64)).heap.size = w2.heap.size + 1 := by simp
  have oA := (own_mono (base' := w.heap.size + 1 + 1) r2.1 (by omega)).alloc (.cells #[.string d.master, .slice ao d.slots.length cp, .int .i64 d.wiped] 64)
  have xW := x2.alloc x2.size (.cells #[.string d.master, .slice ao d.slots.length cp, .int .i64 d.wiped] 64)
  have hbW := hal' w2 (.cells #[.string d.master, .slice ao d.slots.length cp, .int .i64 d.wiped] 64)
  have rA1 : (w2.alloc (.cells #[.string d.master, .slice ao d.slots.length cp, .int .i64 d.wiped] 64)).cell? ⟨w.heap.size, 1, none⟩ = some (.slice ad d.slots.length cap) := by rw [(bcell hbW).1 w.heap.size 1 (by omega), cA2, cA1]; simp [go_sem]
  have rA2 : (w2.alloc (.cells #[.string d.master, .slice ao d.slots.length cp, .int .i64 d.wiped] 64)).cell? ⟨w.heap.size, 2, none⟩ = some (.int .i64 d.wiped) := by rw [(bcell hbW).1 w.heap.size 2 (by omega), cA2, cA1]; simp [go_sem]
  have rA0 : (w2.alloc (.cells #[.string d.master, .slice ao d.slots.length cp, .int .i64 d.wiped] 64)).cell? ⟨w.heap.size, 0, none⟩ = some (.string d.master) := by rw [(bcell hbW).1 w.heap.size 0 (by omega), cA2, cA1]; simp [go_sem]
  have rR0 : (w2.alloc (.cells #[.string d.master, .slice ao d.slots.length cp, .int .i64 d.wiped] 64)).cell? ⟨w.heap.size + 1, 0, none⟩ = some (.string ByteArray.empty) := by rw [(bcell hbW).1 (w.heap.size + 1) 0 (by omega), cR2, cR1]; simp [go_sem] <;> rfl
  have rR1 : (w2.alloc (.cells #[.string d.master, .slice ao d.slots.length cp, .int .i64 d.wiped] 64)).cell? ⟨w.heap.size + 1, 1, none⟩ = some (.slice none 0 0) := by rw [(bcell hbW).1 (w.heap.size + 1) 1 (by omega), cR2, cR1]; simp [go_sem]
  have rR2 : (w2.alloc (.cells #[.string d.master, .slice ao d.slots.length cp, .int .i64 d.wiped] 64)).cell? ⟨w.heap.size + 1, 2, none⟩ = some (.int .i64 0) := by rw [(bcell hbW).1 (w.heap.size + 1) 2 (by omega), cR2, cR1]; simp [go_sem]
  have rF : ∀ o, (w2.alloc (.cells #[.string d.master, .slice ao d.slots.length cp, .int .i64 d.wiped] 64)).frozen? ⟨w.heap.size + 1, o, none⟩ = false := fun o => by rw [(bcell hbW).2 (w.heap.size + 1) o (by omega), fR2, fR1]; simp [go_sem]
  generalize (w2.alloc (.cells #[.string d.master, .slice ao d.slots.length cp, .int .i64 d.wiped] 64)) = W at hx0 hx1 hx2 hxf hsz oA xW rA0 rA1 rA2 rR0 rR1 rR2 rF ⊢
  clear hbW cA1 cR1 fA1 fR1 cA2 cR2 fA2 fR2
  go_wp2
  have oZ : (W.alloc (.cells #[] 150)).ownsRow (w2.heap.size + 1) 150 2 (.slice (some ⟨w2.heap.size + 1, 0, none⟩) 0 0) 0 [] := own0 hsz (Nat.le_refl _)
  have bZ : RowKit.Below (w2.heap.size + 1) W (W.alloc (.cells #[] 150)) := (Below.refl _ _).alloc (by omega) _
  go_loopw [7, 8] (fun o i wr => ∃ k : Nat, k ≤ d.slots.length ∧ i = .int .i64 k ∧ wr.ownsRow (w2.heap.size + 1) 150 2 o (others (d.slots.take k) n).length ((others (d.slots.take k) n).map SlotR.cells).flatten ∧ RowKit.Below (w2.heap.size + 1) W wr) (fun _ i _ => d.slots.length - (intOf i).toNat)
  case atStart => exact ⟨0, by omega, rfl, by simpa [others] using oZ, bZ⟩
  case round =>
    obtain ⟨k, hk, rfl, hr, hbl⟩ := hrel
    obtain ⟨hc, hf⟩ := bcellB hbl
    have yA0 := (hc w.heap.size 0 (by omega)).trans rA0
    have yA1 := (hc w.heap.size 1 (by omega)).trans rA1
    have yA2 := (hc w.heap.size 2 (by omega)).trans rA2
    have hzw := hbl.size
    obtain ⟨oo, co, rfl⟩ := (Row.of_own hr rfl).form
    by_cases hlt : k < d.slots.length
    · obtain ⟨bo', cp', hv, hlc, hcm, hsh⟩ := h0.shape
      obtain ⟨b, off, hb, hbs, hcc⟩ := hsh (by omega)
      obtain rfl : ad = some ⟨b, off, none⟩ := by simp at hv; rw [hb] at hv; simpa using hv.1
      have e0 : wr.cell? ⟨b, off + k * 2, none⟩ = some (.int .i64 d.slots[k].ten) := (hc b _ (by omega)).trans ((xW.cell (p := ⟨b, off + k * 2, none⟩) hbs).trans (hcc k hlt 0 _ rfl))
      have e1 : wr.cell? ⟨b, off + k * 2 + 1, none⟩ = some (.string d.slots[k].key) := (hc b _ (by omega)).trans ((xW.cell (p := ⟨b, off + k * 2 + 1, none⟩) hbs).trans (hcc k hlt 1 _ rfl))
      have HS := Lib.hid (others_step d.slots n k hlt)
      have hle : (others (d.slots.take k) n).length ≤ 4 := by have := others_le (d.slots.take k) n; simp at this; omega
      clear hcc hsh hv hb hc hf
      by_cases hq : d.slots[k].ten = n
      · go_wp2
        go_roundw
        case rel => exact ⟨k + 1, by omega, by go_num, by rw [HS.out, if_pos hq]; exact hr, hbl⟩
        case measure => simp [intOf]; omega
      · go_wp2_with (at_builtin; refine app_new_at rfl rfl Try.underlying62 info_KeySlot rfl (by decide) hr rfl 1 rfl rfl (by simp [Value.oneCell']) (by omega) hbl (Nat.le_refl _) (by omega) ?_; intro v3 w3 o3 x3 g3 p3)
        go_roundw
        case rel => exact ⟨k + 1, by omega, by go_num, by rw [HS.out, if_neg hq]; simpa [SlotR.cells] using o3, x3⟩
        case measure => simp [intOf]; omega
    · obtain rfl : k = d.slots.length := by omega
      rw [List.take_length] at hr
      have xe : RowKit.Below w.heap.size w wr := xW.trans (hbl.mono (show w.heap.size ≤ w2.heap.size + 1 from by omega))
      have hblW : RowKit.Below W.heap.size W wr := by rw [hsz]; exact hbl
      have oX := own_below oA hblW
      have y0 := (hc w2.heap.size 0 (by omega)).trans hx0
      have y1 := (hc w2.heap.size 1 (by omega)).trans hx1
      have y2 := (hc w2.heap.size 2 (by omega)).trans hx2
      have yf := fun o => (hf w2.heap.size o (by omega)).trans (hxf o)
      have q0 := (hc (w.heap.size + 1) 0 (by omega)).trans rR0
      have q1 := (hc (w.heap.size + 1) 1 (by omega)).trans rR1
      have q2 := (hc (w.heap.size + 1) 2 (by omega)).trans rR2
      have qf := fun o => (hf (w.heap.size + 1) o (by omega)).trans (rF o)
      have neR : ¬ w2.heap.size = w.heap.size + 1 := by omega
      have neR' : ¬ w.heap.size + 1 = w2.heap.size := by omega
      have hle := others_le d.slots n
      clear hc hf rR0 rR1 rR2 rF hx0 hx1 hx2 hxf oZ bZ hbl
      rw [List.take_length] at *
      by_cases hsame : (others d.slots n).length = d.slots.length
      · have HB := Lib.hid (show wipeB d n = false from by simp [wipeB, hsame])
        have HR := Lib.hid (show keyWipe d n = d from by simp [keyWipe, hd, HB.out])
        have hsi : ((others d.slots n).length : Int) = d.slots.length := by omega
        rw [hsame]
        go_wp2
        refine bodyPost_ret (v := .tuple #[.agg #[.string d.master, .slice ao d.slots.length cp, .int .i64 d.wiped], .bool false]) (by simp [results, Try.results41, go_sem, y0, y1, y2, q0, q1, q2, neR, neR']) rfl ?_
        rw [HR.out, HB.out]
        refine ⟨_, rfl, ?_, ?_⟩
        · refine ⟨_, rfl, Row.up (lo' := w.heap.size + 1 + 1) (n := d.slots.length) ?_ rfl (by omega)⟩
          repeat (refine own_other ?_ _ (by simp <;> omega) _)
          exact oX
        · repeat (refine Below.setCell ?_ (by simp <;> omega) _)
          exact xe
      by_cases hmx : (1000000 : Int) ≤ d.wiped
      · have hns : ¬ ((others d.slots n).length : Int) = d.slots.length := by omega
        have HB := Lib.hid (show wipeB d n = false from by simp [wipeB]; omega)
        have HR := Lib.hid (show keyWipe d n = d from by simp [keyWipe, hd, HB.out])
        go_wp2
        refine bodyPost_ret (v := .tuple #[.agg #[.string d.master, .slice ao d.slots.length cp, .int .i64 d.wiped], .bool false]) (by simp [results, Try.results41, go_sem, y0, y1, y2, q0, q1, q2, neR, neR']) rfl ?_
        rw [HR.out, HB.out]
        refine ⟨_, rfl, ?_, ?_⟩
        · refine ⟨_, rfl, Row.up (lo' := w.heap.size + 1 + 1) (n := d.slots.length) ?_ rfl (by omega)⟩
          repeat (refine own_other ?_ _ (by simp <;> omega) _)
          exact oX
        · repeat (refine Below.setCell ?_ (by simp <;> omega) _)
          exact xe
      · have hns : ¬ ((others d.slots n).length : Int) = d.slots.length := by omega
        have HB := Lib.hid (show wipeB d n = true from by simp [wipeB, hd, hsame]; omega)
        have HR := Lib.hid (show keyWipe d n = ⟨d.master, others d.slots n, d.wiped + 1⟩ from by simp [keyWipe, hd, HB.out])
        go_wp2
        refine bodyPost_ret (v := .tuple #[.agg #[.string d.master, .slice oo (others d.slots n).length co, .int .i64 (d.wiped + 1)], .bool true]) (by simp [results, Try.results41, go_sem, y0, y1, y2, q0, q1, q2, neR, neR']) rfl ?_
        rw [HR.out, HB.out]
        refine ⟨_, rfl, ?_, ?_⟩
        · refine ⟨_, rfl, Row.up (lo' := w2.heap.size + 1) (n := (others d.slots n).length) ?_ rfl (by omega)⟩
          repeat (refine own_other ?_ _ (by simp <;> omega) _)
          exact hr
        · repeat (refine Below.setCell ?_ (by simp <;> omega) _)
          exact xe
theorem specKeyWipe (d : KeyDevR) (n : Int) (ad : Option Addr) (cap : Nat) (w : World) (h0 : SlT SlotR.cells 2 w (.slice ad d.slots.length cap) d.slots) (l0 : (d.slots.length : Int) ≤ 1048576) :
    Calls Try.prog 41 #[.agg #[.string d.master, .slice ad d.slots.length cap, .int .i64 d.wiped], .int .i64 n] w fun e w' => ∃ v', e = .returned (.tuple #[v', .bool (wipeB d n)]) ∧ IsKeyDev w' v' (keyWipe d n) ∧ Below w.heap.size w w' := by
  refine (specKeyWipe_row d n ad cap w h0 l0).mono ?_
  rintro e w' ⟨v', he, hr, hb⟩
  exact ⟨v', he, hr.is, hb⟩
end Go.Proofs.Ytfbbdnicplbmdaa
/- Walks: KeyWipe of the program. -/
set_option linter.unusedVariables false
set_option linter.unusedSimpArgs false
namespace Go.Proofs.Ytfbbdnicplbmdaa
open Go.RowKit Sp Go.Sort

set_option maxRecDepth 100000 in
set_option maxHeartbeats 1600000 in
theorem implKeyWipe (d : KeyDevR) (n : Int) (ad : Option Addr) (cap : Nat) (w : World) (h0 : SlT SlotR.cells 2 w (.slice ad d.slots.length cap) d.slots) (l0 : (d.slots.length : Int) ≤ 1048576) :
    Calls Try.prog 40 #[.agg #[.string d.master, .slice ad d.slots.length cap, .int .i64 d.wiped], .int .i64 n] w fun e w' => ∃ v', e = .returned (.tuple #[v', .bool (wipeB d n)]) ∧ RowKeyDev w.heap.size w'.heap.size w' v' (keyWipe d n) ∧ Below w.heap.size w w' := by
  have hb2 : ∀ o₁ o₂ : Obj, RowKit.Below w.heap.size w ((w.alloc o₁).alloc o₂) := fun o₁ o₂ => ((Below.refl _ _).alloc (Nat.le_refl _) _).alloc (by simp <;> omega) _
  have hI : IsKeyDev w (.agg #[.string d.master, .slice ad d.slots.length cap, .int .i64 d.wiped]) d := ⟨_, rfl, h0⟩
  rcases hd : keyDevB d with _ | _
  · have HR := Lib.hid (show keyWipe d n = noKeys from by simp [keyWipe, hd])
    have HB := Lib.hid (show wipeB d n = false from by simp [wipeB, hd])
    go_enter Try.func40, Try.ntmps40
    go_wp2_with (go_at_call 115; refine (implKeyOk _ d _ (hI.below (hb2 _ _)) l0).mono ?_; rintro e w1 ⟨rfl, b1⟩; rw [hd]; have x1 := Below.trans (hb2 _ _) (b1.mono (Below.size (hb2 _ _))); have z1 : w.heap.size + 1 < w1.heap.size := Nat.lt_of_lt_of_le (by simp) b1.size; obtain ⟨hc, hf⟩ := bcell b1; have cA1 := fun o => hc w.heap.size o (by first | omega | (simp <;> omega)); have fA1 := fun o => hf w.heap.size o (by first | omega | (simp <;> omega)); have cR1 := fun o => hc (w.heap.size + 1) o (by first | omega | (simp <;> omega)); have fR1 := fun o => hf (w.heap.size + 1) o (by first | omega | (simp <;> omega)); clear hc hf)
    go_wp2
    refine bodyPost_ret (v := .tuple #[.agg #[.string ByteArray.empty, .slice none 0 0, .int .i64 0], .bool false]) (by simp [results, Try.results40, go_sem, cA1, cR1] <;> rfl) rfl ?_
    rw [HR.out, HB.out]
    refine ⟨_, rfl, ?_, ?_⟩
    · exact ⟨_, rfl, Row.nil _ _ _⟩
    · repeat (refine Below.setCell ?_ (by simp <;> omega) _)
      exact x1
  have hwr := keyDevB_heads hd
  have hw1 : IntKind.i64.wrap (d.wiped + 1) = d.wiped + 1 := by rw [IntKind.wrap_i64]; omega
  go_enter Try.func40, Try.ntmps40
  go_wp2_with (go_at_call 115; refine (implKeyOk _ d _ (hI.below (hb2 _ _)) l0).mono ?_; rintro e w1 ⟨rfl, b1⟩; rw [hd]; have x1 := Below.trans (hb2 _ _) (b1.mono (Below.size (hb2 _ _))); have z1 : w.heap.size + 1 < w1.heap.size := Nat.lt_of_lt_of_le (by simp) b1.size; obtain ⟨hc, hf⟩ := bcell b1; have cA1 := fun o => hc w.heap.size o (by first | omega | (simp <;> omega)); have fA1 := fun o => hf w.heap.size o (by first | omega | (simp <;> omega)); have cR1 := fun o => hc (w.heap.size + 1) o (by first | omega | (simp <;> omega)); have fR1 := fun o => hf (w.heap.size + 1) o (by first | omega | (simp <;> omega)); clear hc hf)
  go_upto_region 4 with (go_at_call 116; refine (copyKeys_row d ad cap _ (h0.below x1) l0).mono ?_; rintro e w2 ⟨v2, rfl, ⟨s1, rfl, r2⟩, b2⟩; obtain ⟨ao, cp, rfl⟩ := r2.form; have x2 := x1.trans (b2.mono x1.size); have z2 := b2.size; obtain ⟨hc, hf⟩ := bcell b2; have cA2 := fun o => hc w.heap.size o (by first | omega | (simp <;> omega)); have fA2 := fun o => hf w.heap.size o (by first | omega | (simp <;> omega)); have cR2 := fun o => hc (w.heap.size + 1) o (by first | omega | (simp <;> omega)); have fR2 := fun o => hf (w.heap.size + 1) o (by first | omega | (simp <;> omega)); clear hc hf)
  have ks : ∀ k, (Value.slice ao d.slots.length cp).ownBlock = some k → k < w2.heap.size := r2.2
  have hx0 : (w2.alloc (.cells #[.string d.master, .slice ao d.slots.length cp, .int .i64 d.wiped] 64)).cell? ⟨w2.heap.size, 0, none⟩ = some (.string d.master) := by simp [go_sem]
  have hx1 : (w2.alloc (.cells #[.string d.master, .slice ao d.slots.length cp, .int .i64 d.wiped] 64)).cell? ⟨w2.heap.size, 1, none⟩ = some (.slice ao d.slots.length cp) := by simp [go_sem]
  have hx2 : (w2.alloc (.cells #[.string d.master, .slice ao d.slots.length cp, .int .i64 d.wiped] 64)).cell? ⟨w2.heap.size, 2, none⟩ = some (.int .i64 d.wiped) := by simp [go_sem]
  have hxf : ∀ o, (w2.alloc (.cells #[.string d.master, .slice ao d.slots.length cp, .int .i64 d.wiped] 64)).frozen? ⟨w2.heap.size, o, none⟩ = false := fun o => by simp [go_sem]
  have hsz : (w2.alloc (.cells #[.string d.master, .slice ao d.slots.length cp, .int .i64 d.wiped] 64)).heap.size = w2.heap.size + 1 := by simp
  have oA := (own_mono (base' := w.heap.size + 1 + 1) r2.1 (by omega)).alloc (.cells #[.string d.master, .slice ao d.slots.length cp, .int .i64 d.wiped] 64)
  have xW := x2.alloc x2.size (.cells #[.string d.master, .slice ao d.slots.length cp, .int .i64 d.wiped] 64)
  have hbW := hal' w2 (.cells #[.string d.master, .slice ao d.slots.length cp, .int .i64 d.wiped] 64)
  have rA1 : (w2.alloc (.cells #[.string d.master, .slice ao d.slots.length cp, .int .i64 d.wiped] 64)).cell? ⟨w.heap.size, 1, none⟩ = some (.slice ad d.slots.length cap) := by rw [(bcell hbW).1 w.heap.size 1 (by omega), cA2, cA1]; simp [go_sem]
  have rA2 : (w2.alloc (.cells #[.string d.master, .slice ao d.slots.length cp, .int .i64 d.wiped] 64)).cell? ⟨w.heap.size, 2, none⟩ = some (.int .i64 d.wiped) := by rw [(bcell hbW).1 w.heap.size 2 (by omega), cA2, cA1]; simp [go_sem]
  have rA0 : (w2.alloc (.cells #[.string d.master, .slice ao d.slots.length cp, .int .i64 d.wiped] 64)).cell? ⟨w.heap.size, 0, none⟩ = some (.string d.master) := by rw [(bcell hbW).1 w.heap.size 0 (by omega), cA2, cA1]; simp [go_sem]
  have rR0 : (w2.alloc (.cells #[.string d.master, .slice ao d.slots.length cp, .int .i64 d.wiped] 64)).cell? ⟨w.heap.size + 1, 0, none⟩ = some (.string ByteArray.empty) := by rw [(bcell hbW).1 (w.heap.size + 1) 0 (by omega), cR2, cR1]; simp [go_sem] <;> rfl
  have rR1 : (w2.alloc (.cells #[.string d.master, .slice ao d.slots.length cp, .int .i64 d.wiped] 64)).cell? ⟨w.heap.size + 1, 1, none⟩ = some (.slice none 0 0) := by rw [(bcell hbW).1 (w.heap.size + 1) 1 (by omega), cR2, cR1]; simp [go_sem]
  have rR2 : (w2.alloc (.cells #[.string d.master, .slice ao d.slots.length cp, .int .i64 d.wiped] 64)).cell? ⟨w.heap.size + 1, 2, none⟩ = some (.int .i64 0) := by rw [(bcell hbW).1 (w.heap.size + 1) 2 (by omega), cR2, cR1]; simp [go_sem]
  have rF : ∀ o, (w2.alloc (.cells #[.string d.master, .slice ao d.slots.length cp, .int .i64 d.wiped] 64)).frozen? ⟨w.heap.size + 1, o, none⟩ = false := fun o => by rw [(bcell hbW).2 (w.heap.size + 1) o (by omega), fR2, fR1]; simp [go_sem]
  generalize (w2.alloc (.cells #[.string d.master, .slice ao d.slots.length cp, .int .i64 d.wiped] 64)) = W at hx0 hx1 hx2 hxf hsz oA xW rA0 rA1 rA2 rR0 rR1 rR2 rF ⊢
  clear hbW cA1 cR1 fA1 fR1 cA2 cR2 fA2 fR2
  have hIW : IsKeyDev W (.agg #[.string d.master, .slice ad d.slots.length cap, .int .i64 d.wiped]) d := ⟨_, rfl, h0.below xW⟩
  have neR : ¬ w2.heap.size = w.heap.size + 1 := by omega
  have neR' : ¬ w.heap.size + 1 = w2.heap.size := by omega
  rcases slot_dec d.slots n with ⟨k, hk, he, hno⟩ | hno
  · have HJ : ∀ j, IsSlot d.slots n j → j = k := fun j => isSlot_hit hk he hno
    have hlt := others_lt hk he
    have hns : ¬ (others d.slots n).length = d.slots.length := by omega
    rcases hmx : (d.wiped == 1000000) with _ | _
    rotate_left
    · have HB := Lib.hid (show wipeB d n = false from by have : d.wiped = 1000000 := by simpa using hmx
                                                         simp [wipeB, this])
      have HR := Lib.hid (show keyWipe d n = d from by simp [keyWipe, hd, HB.out])
      clear hno he
      go_wp2_with (go_at_call 117; refine (slotOf_any _ d _ _ hIW l0).mono ?_; rintro e w3 ⟨j, rfl, hj, b3⟩; obtain rfl := HJ _ hj; clear hj; have x3 := xW.trans (b3.mono xW.size); have z3 := b3.size; obtain ⟨hc, hf⟩ := bcell b3; have y0 := (hc w2.heap.size 0 (by omega)).trans hx0; have y1 := (hc w2.heap.size 1 (by omega)).trans hx1; have y2 := (hc w2.heap.size 2 (by omega)).trans hx2; have yf := fun o => (hf w2.heap.size o (by omega)).trans (hxf o); have yA2 := (hc w.heap.size 2 (by omega)).trans rA2; have q0 := (hc (w.heap.size + 1) 0 (by omega)).trans rR0; have q1 := (hc (w.heap.size + 1) 1 (by omega)).trans rR1; have q2 := (hc (w.heap.size + 1) 2 (by omega)).trans rR2; have qf := fun o => (hf (w.heap.size + 1) o (by omega)).trans (rF o); have oX := own_below oA b3; clear hc hf rR0 rR1 rR2 rF hx0 hx1 hx2 hxf rA0 rA1 rA2)
      go_wp2
      refine bodyPost_ret (v := .tuple #[.agg #[.string d.master, .slice ao d.slots.length cp, .int .i64 d.wiped], .bool false]) (by simp [results, Try.results40, go_sem, y0, y1, y2, q0, q1, q2, neR, neR']) rfl ?_
      rw [HR.out, HB.out]
      refine ⟨_, rfl, ?_, ?_⟩
      · refine ⟨_, rfl, Row.of_own (n := d.slots.length) (own_mono (base := w.heap.size + 1 + 1) ?_ (by omega)) rfl⟩
        repeat (refine own_other ?_ _ (by simp <;> omega) _)
        exact oX
      · repeat (refine Below.setCell ?_ (by simp <;> omega) _)
        exact x3
    · have HB := Lib.hid (show wipeB d n = true from by have : d.wiped ≠ 1000000 := by simpa using hmx
                                                        simp [wipeB, hd, hns]; omega)
      have HR := Lib.hid (show keyWipe d n = ⟨d.master, others d.slots n, d.wiped + 1⟩ from by simp [keyWipe, hd, HB.out])
      have HC := Lib.hid (others_cut hd hk he)
      clear hno he
      obtain ⟨g, rfl⟩ : ∃ g, ao = some ⟨g, 0, none⟩ := by
        rcases (Row.of_own (l := d.slots) oA rfl).shape with ⟨hv, hn⟩ | ⟨g, c, hv, _⟩
        · rw [hn] at hk; simp at hk
        · simp at hv; exact ⟨g, hv.1⟩
      have hg := oA.lt g rfl
      have hg2 := ks g rfl
      have hcp : d.slots.length ≤ cp ∧ cp ≤ 9223372036854775807 := by
        rcases (Row.of_own (l := d.slots) oA rfl).shape with ⟨hv, hn⟩ | ⟨g, c, hv, h1, h2, _⟩
        · rw [hn] at hk; simp at hk
        · simp at hv; rw [hv.2]; exact ⟨h1, h2⟩
      have hwr2 : IntKind.i64.wrap ((k : Int) + 1) = (k : Int) + 1 := by rw [IntKind.wrap_i64]; omega
      go_upto_region 7 with (go_at_call 117; refine (slotOf_any _ d _ _ hIW l0).mono ?_; rintro e w3 ⟨j, rfl, hj, b3⟩; obtain rfl := HJ _ hj; clear hj; have x3 := xW.trans (b3.mono xW.size); have z3 := b3.size; obtain ⟨hc, hf⟩ := bcell b3; have y0 := (hc w2.heap.size 0 (by omega)).trans hx0; have y1 := (hc w2.heap.size 1 (by omega)).trans hx1; have y2 := (hc w2.heap.size 2 (by omega)).trans hx2; have yf := fun o => (hf w2.heap.size o (by omega)).trans (hxf o); have yA2 := (hc w.heap.size 2 (by omega)).trans rA2; have q0 := (hc (w.heap.size + 1) 0 (by omega)).trans rR0; have q1 := (hc (w.heap.size + 1) 1 (by omega)).trans rR1; have q2 := (hc (w.heap.size + 1) 2 (by omega)).trans rR2; have qf := fun o => (hf (w.heap.size + 1) o (by omega)).trans (rF o); have oX := own_below oA b3; clear hc hf rR0 rR1 rR2 rF hx0 hx1 hx2 hxf rA0 rA1 rA2)
      go_wp2_with (go_at_call 118; refine (delete_any g cp d.slots k hk hcp.1 hcp.2 (w.heap.size + 1 + 1) _ oX).mono ?_; rintro e w4 ⟨rfl, o4, g4⟩; have z4 := g4.size; have hb4 := gcell g4 (b := w2.heap.size) (by omega) (by simp; omega); have hr4 := gcell g4 (b := w.heap.size + 1) (by omega) (by simp; omega); have y0' := (hb4.1 0).trans y0; have y1' := (hb4.1 1).trans y1; have y2' := (hb4.1 2).trans y2; have yf' := fun o => (hb4.2 o).trans (yf o); have q0' := (hr4.1 0).trans q0; have q1' := (hr4.1 1).trans q1; have q2' := (hr4.1 2).trans q2; have qf' := fun o => (hr4.2 o).trans (qf o); have x4 := x3.grown g4 (by omega) (fun j hj => by obtain rfl := Option.some.inj hj; omega); clear hb4 hr4)
      go_wp2
      have hln : (others d.slots n).length = d.slots.length - 1 := by rw [HC.out]; simp; omega
      refine bodyPost_ret (v := .tuple #[.agg #[.string d.master, .slice (some ⟨g, 0, none⟩) (d.slots.length - 1) cp, .int .i64 (d.wiped + 1)], .bool true]) (by simp [results, Try.results40, go_sem, y0', y1', y2', q0', q1', q2', neR, neR']) rfl ?_
      rw [HR.out, HB.out]
      refine ⟨_, rfl, ⟨_, rfl, Row.of_own (n := d.slots.length - 1) (own_mono (base := w.heap.size + 1 + 1) ?_ (by omega)) hln.symm⟩, ?_⟩
      · simp only [HC.out]
        repeat (first | refine own_other ?_ _ (by first | (simp; done) | (simp; omega)) _ | refine own_far ?_ _ _ (by simp [Value.ownBlock]; omega))
        exact o4
      · repeat (refine Below.setCell ?_ (by simp <;> omega) _)
        exact x4
  · have HJ : ∀ j, IsSlot d.slots n j → j = -1 := fun j => isSlot_none hno
    have HN := others_none hno
    have HB := Lib.hid (show wipeB d n = false from by simp [wipeB, HN])
    have HR := Lib.hid (show keyWipe d n = d from by simp [keyWipe, hd, HB.out])
    clear hno
    go_wp2_with (go_at_call 117; refine (slotOf_any _ d _ _ hIW l0).mono ?_; rintro e w3 ⟨j, rfl, hj, b3⟩; obtain rfl := HJ _ hj; clear hj; have x3 := xW.trans (b3.mono xW.size); have z3 := b3.size; obtain ⟨hc, hf⟩ := bcell b3; have y0 := (hc w2.heap.size 0 (by omega)).trans hx0; have y1 := (hc w2.heap.size 1 (by omega)).trans hx1; have y2 := (hc w2.heap.size 2 (by omega)).trans hx2; have yf := fun o => (hf w2.heap.size o (by omega)).trans (hxf o); have yA2 := (hc w.heap.size 2 (by omega)).trans rA2; have q0 := (hc (w.heap.size + 1) 0 (by omega)).trans rR0; have q1 := (hc (w.heap.size + 1) 1 (by omega)).trans rR1; have q2 := (hc (w.heap.size + 1) 2 (by omega)).trans rR2; have qf := fun o => (hf (w.heap.size + 1) o (by omega)).trans (rF o); have oX := own_below oA b3; clear hc hf rR0 rR1 rR2 rF hx0 hx1 hx2 hxf rA0 rA1 rA2)
    go_wp2
    refine bodyPost_ret (v := .tuple #[.agg #[.string d.master, .slice ao d.slots.length cp, .int .i64 d.wiped], .bool false]) (by simp [results, Try.results40, go_sem, y0, y1, y2, q0, q1, q2, neR, neR']) rfl ?_
    rw [HR.out, HB.out]
    refine ⟨_, rfl, ?_, ?_⟩
    · refine ⟨_, rfl, Row.of_own (n := d.slots.length) (own_mono (base := w.heap.size + 1 + 1) ?_ (by omega)) rfl⟩
      repeat (refine own_other ?_ _ (by simp <;> omega) _)
      exact oX
    · repeat (refine Below.setCell ?_ (by simp <;> omega) _)
      exact x3
end Go.Proofs.Ytfbbdnicplbmdaa
/- Plain and laws: a row of one's own made longer by one record in the midst; copy of records. No program in sight. -/
set_option linter.unusedVariables false
set_option linter.unusedSimpArgs false
namespace Go.Proofs.Ytfbbdnicplbmdaa
open Go.RowKit Sp
namespace Sp
theorem setAll_drop {α : Type} : ∀ (us xs : List α) (o : Nat), (setAll xs o us).drop (o + us.length) = xs.drop (o + us.length)
  | [], xs, o => rfl
  | u :: us, xs, o => by
    rw [setAll, show o + (u :: us).length = (o + 1) + us.length from by simp; omega, setAll_drop us, List.drop_set_of_lt (by omega)]
theorem setAll_mid {α : Type} (us xs : List α) (o : Nat) (h : o + us.length ≤ xs.length) : setAll xs o us = xs.take o ++ us ++ xs.drop (o + us.length) := by
  have h1 := setAll_eq us xs o h
  have h2 := setAll_drop us xs o
  have h3 := List.take_append_drop (o + us.length) (setAll xs o us)
  rw [h1, h2] at h3
  exact h3.symm
theorem flat_drop {α β : Type} {f : α → List β} {n : Nat} (hf : ∀ x, (f x).length = n) : ∀ (l : List α) (k : Nat), ((l.map f).flatten).drop (k * n) = ((l.drop k).map f).flatten
  | [], k => by simp
  | x :: l, 0 => by simp
  | x :: l, k + 1 => by
    rw [List.map_cons, List.flatten_cons, List.drop_succ_cons, List.drop_append, ← flat_drop hf l k, hf]
    rw [List.drop_eq_nil_of_le (by rw [hf, Nat.succ_mul]; omega), List.nil_append, show (k + 1) * n - n = k * n from by rw [Nat.succ_mul]; omega]
/-- In place: what stood from i on goes one record up, then the new one is laid at i. -/
theorem ins_room {α β : Type} {f : α → List β} {n : Nat} (hf : ∀ x, (f x).length = n) (l : List α) (i : Nat) (hi : i < l.length) (x : α) (ys : List β) (hy : ys.length = n) :
    setAll (setAll ((l.map f).flatten ++ ys) ((i + 1) * n) ((l.drop i).map f).flatten) (i * n) (f x) = ((l.take i ++ x :: l.drop i).map f).flatten := by
  have hL : ∀ l : List α, ((l.map f).flatten).length = l.length * n := by
    intro l; induction l with
    | nil => simp
    | cons x l ih => rw [List.map_cons, List.flatten_cons, List.length_append, ih, hf, List.length_cons, Nat.succ_mul]; omega
  obtain ⟨k, hk⟩ : ∃ k, l.length = i + k := ⟨l.length - i, by omega⟩
  have hd : (l.drop i).length = k := by simp [hk]
  have ht : (l.take i).length = i := by simp; omega
  have hA := hL (l.take i)
  have hD := hL (l.drop i)
  rw [ht] at hA
  rw [hd] at hD
  have hl : (l.map f).flatten = ((l.take i).map f).flatten ++ ((l.drop i).map f).flatten := by rw [← List.flatten_append, ← List.map_append, List.take_append_drop]
  have hr : ((l.take i ++ x :: l.drop i).map f).flatten = ((l.take i).map f).flatten ++ f x ++ ((l.drop i).map f).flatten := by rw [List.map_append, List.map_cons, List.flatten_append, List.flatten_cons, List.append_assoc]
  rw [hl, hr]
  generalize ((l.take i).map f).flatten = A at *
  generalize ((l.drop i).map f).flatten = D at *
  have e1 : (i + 1) * n = i * n + n := Nat.succ_mul _ _
  have hfx := hf x
  generalize f x = F at *
  rw [e1]
  generalize i * n = p at *
  generalize k * n = q at *
  obtain ⟨T, hT⟩ : ∃ T, T = (A ++ D ++ ys).take (p + n) := ⟨_, rfl⟩
  have hTl : T.length = p + n := by rw [hT]; simp; omega
  have s1 : setAll (A ++ D ++ ys) (p + n) D = T ++ D := by
    rw [setAll_mid _ _ _ (by simp; omega), ← hT]
    simp; omega
  rw [s1, setAll_mid _ _ _ (by simp; omega)]
  have s2 : (T ++ D).take p = A := by
    rw [List.take_append_of_le_length (by omega), hT, List.take_take, Nat.min_eq_left (by omega), List.append_assoc, List.take_append_of_le_length (by omega), List.take_of_length_le (by omega)]
  have s3 : (T ++ D).drop (p + F.length) = D := by
    rw [List.drop_append, List.drop_eq_nil_of_le (by omega), hTl, hfx]; simp
  rw [s2, s3]
/-- In a new row: what stood ahead of i lies there, the new one is laid at i, then the rest. -/
theorem ins_grow {α β : Type} {f : α → List β} {n : Nat} (hf : ∀ x, (f x).length = n) (l : List α) (i : Nat) (hi : i ≤ l.length) (x : α) (ys : List β) (hy : ys.length = (l.length + 1 - i) * n) :
    setAll (setAll (((l.take i).map f).flatten ++ ys) (i * n) (f x)) ((i + 1) * n) ((l.drop i).map f).flatten = ((l.take i ++ x :: l.drop i).map f).flatten := by
  have hL : ∀ l : List α, ((l.map f).flatten).length = l.length * n := by
    intro l; induction l with
    | nil => simp
    | cons x l ih => rw [List.map_cons, List.flatten_cons, List.length_append, ih, hf, List.length_cons, Nat.succ_mul]; omega
  obtain ⟨k, hk⟩ : ∃ k, l.length = i + k := ⟨l.length - i, by omega⟩
  have hd : (l.drop i).length = k := by simp [hk]
  have ht : (l.take i).length = i := by simp; omega
  have e0 : l.length + 1 - i = k + 1 := by omega
  rw [e0] at hy
  have e1 : (i + 1) * n = i * n + n := Nat.succ_mul _ _
  have e2 : (k + 1) * n = k * n + n := Nat.succ_mul _ _
  have em : setAll (((l.take i).map f).flatten ++ ys) (i * n) (f x) = ((l.take i).map f).flatten ++ f x ++ (((l.take i).map f).flatten ++ ys).drop (i * n + n) := by
    rw [setAll_mid _ _ _ (by rw [List.length_append, hL, hf, ht, hy, e2]; omega), hf, List.take_append_of_le_length (by rw [hL, ht]; exact Nat.le_refl _), List.take_of_length_le (by rw [hL, ht]; exact Nat.le_refl _)]
  rw [em]
  have t1 : (((l.take i).map f).flatten ++ f x).length = (i + 1) * n := by rw [List.length_append, hL, ht, hf, e1]
  have t2 : ((((l.take i).map f).flatten ++ ys).drop (i * n + n)).length = k * n := by rw [List.length_drop, List.length_append, hL, ht, hy, e2]; omega
  rw [setAll_mid _ _ _ (by rw [List.length_append, t1, t2, hL, hd]; exact Nat.le_refl _), List.take_append_of_le_length (Nat.le_of_eq t1.symm), List.take_of_length_le (Nat.le_of_eq t1), hL, hd]
  have s3 : ((((l.take i).map f).flatten ++ f x) ++ (((l.take i).map f).flatten ++ ys).drop (i * n + n)).drop ((i + 1) * n + k * n) = [] := List.drop_eq_nil_of_le (by rw [List.length_append, t1, t2]; exact Nat.le_refl _)
  rw [s3, List.append_nil, List.map_append, List.map_cons, List.flatten_append, List.flatten_cons, List.append_assoc]
end Sp
theorem own_more {w : World} {e size base g n cap : Nat} {xs : List Value} (h : w.ownsRow base e size (.slice (some ⟨g, 0, none⟩) n cap) n xs) (hm : n + 1 ≤ cap) : ∃ ys, ys.length = size ∧ w.ownsRow base e size (.slice (some ⟨g, 0, none⟩) (n + 1) cap) (n + 1) (xs ++ ys) := by
  rcases h.2 with ⟨hn, _⟩ | ⟨g', cap', cur, hv, hb', hg, hc, hcm, hcs, ht⟩
  · cases hn
  · simp only [Value.slice.injEq, Option.some.injEq, Addr.mk.injEq, and_true, true_and] at hv
    obtain ⟨rfl, rfl⟩ := hv
    have hz : cur.toList.length = cap * size := by simpa using hcs
    have hle : (n + 1) * size ≤ cap * size := Nat.mul_le_mul_right _ hm
    have e1 : (n + 1) * size = n * size + size := Nat.succ_mul _ _
    refine ⟨(cur.toList.drop (n * size)).take size, by rw [List.length_take, List.length_drop, hz]; omega, by rw [List.length_append, h.1, List.length_take, List.length_drop, hz]; omega, .inr ⟨g, cap, cur, rfl, hb', hg, hm, hcm, hcs, ?_⟩⟩
    rw [e1, List.take_add, ht]
theorem run_copy_recs {P : Program} (w : World) (dT sT ty elem : TypeId) (size b o dLen dCap : Nat) (a : Addr) (sLen sCap m : Nat) (cs : List Value)
    (hu : P.underlying dT = some (.slice elem)) (hs : (P.info? elem).map (·.size) = some size) (hm : m = Nat.min sLen dLen) (hn : cs.length = m * size)
    (hsrc : ∀ j v, cs[j]? = some v → w.cell? (a.add j) = some v) (hc : ∀ j, j < cs.length → (w.cell? ⟨b, o + j, none⟩).isSome = true) (hf : ∀ j, j < cs.length → w.frozen? ⟨b, o + j, none⟩ = false) (h1 : ∀ v ∈ cs, v.oneCell' = true) :
    (Builtin.copy_ #[dT, sT] ty #[.slice (some ⟨b, o, none⟩) dLen dCap, .slice (some a) sLen sCap]).run P w = .ok (goInt m) (w.setCells b o cs) := by
  have hl := run_loadCells_list (P := P) w a cs hsrc
  have hst := run_storeCells_cells (P := P) b o cs 0 w (by simpa using hc) (by simpa using hf) h1
  cases hq : P.info? elem with
  | none => simp [hq] at hs
  | some i =>
    have hi : i.size = size := by simpa [hq] using hs
    simp [Builtin.copy_, run_underlying hu, Builtin.lenOf, Builtin.firstCells, sizeOf, typeInfo, hq, hi, ← hm, ← hn, hl, hst]
section
variable {P : Program} {ops : Array Oper} {rest : List Oper} {o : Oper} {a : Act} {Q : Exit → Act → World → Prop}
theorem wpList_copy_runI (w : World) (hgd : o.guard = none) (d s : Operand) (t t' : TypeId)
    (ho : o.op = .call { callee := .builtin .copy, args := #[d, s], argTypes := #[t, t'] }) (v u : Value) (hd : a.eval d = v) (hs : a.eval s = u) {v' : Value} {w' : World}
    (hr : (Builtin.copy_ #[t, t'] o.type #[v, u]).run P w = .ok v' w') (h : wpList P ops Q rest (a.put o.dst v') w') : wpList P ops Q (o :: rest) a w :=
  wpList_plain hgd fun _ hK => by
    unfold Oper.wp execOp
    simp only [ho, resolve, invoke, builtin, Sem.run_bind, Sem.run_pure, Result.andThen_ok, List.map_toArray, List.map_cons, List.map_nil, hd, hs, hr]
    exact hK _ _ h
theorem step_copy_runI {w : World} {K : Act → World → Prop} {E : Prop}
    (hg : o.guard = none) (d x : Operand) (dT sT : TypeId) (hop : o.op = Op.call { callee := Callee.builtin Builtin.copy, args := #[d, x], argTypes := #[dT, sT] })
    (v u : Value) (hd : a.eval d = v) (hx : a.eval x = u) {v' : Value} {w' : World} (hr : (Builtin.copy_ #[dT, sT] o.type #[v, u]).run P w = .ok v' w') (hK : K (a.put o.dst v') w') :
    if Region.wanted o (yielded ops a.tmps) = true then Oper.wp P o a w K Q else E := by
  have hw : Region.wanted o (yielded ops a.tmps) = true := by simp [Region.wanted, hg]
  rw [if_pos hw]
  unfold Oper.wp
  simp [execOp, hop, resolve, invoke, builtin, hd, hx, hr, Result.andThen]
  exact hK
end
theorem drew_setCells (b : Nat) : ∀ (vs : List Value) (o : Nat) (w : World), (w.setCells b o vs).drew = w.drew.setCells b o vs
  | [], _, _ => rfl
  | v :: r, o, w => by rw [World.setCells, World.setCells, drew_setCells b r]; rfl
end Go.Proofs.Ytfbbdnicplbmdaa
/- Walks: slices.Insert of one record at KeySlot, a row of one's own. -/
set_option linter.unusedVariables false
set_option linter.unusedSimpArgs false
namespace Go.Proofs.Ytfbbdnicplbmdaa
open Go.RowKit Sp Go.Sort
theorem cells1KeySlot : ∀ x : SlotR, ∀ u ∈ SlotR.cells x, u.oneCell' = true := by
  intro x u hu
  simp [SlotR.cells] at hu
  rcases hu with rfl | rfl <;> rfl

set_option maxRecDepth 100000 in
set_option maxHeartbeats 1600000 in
theorem insEKeySlot (l : List SlotR) (ao : Option Addr) (cap : Nat) (base : Nat) (w : World) (hbase : base ≤ w.heap.size) (h : w.ownsRow base 150 2 (.slice ao l.length cap) l.length (l.map SlotR.cells).flatten) (hl : (l.length : Int) ≤ 1048577) (x : SlotR) (gx kx : Nat) (tx : TypeId) (hx : ∀ t u, (SlotR.cells x)[t]? = some u → w.cell? ⟨gx, t, none⟩ = some u) :
    Calls Try.prog 121 #[.slice ao l.length cap, .int .i64 l.length, .slice (some ⟨gx, 0, none⟩) 1 1] w fun e w' => ∃ v', e = .returned v' ∧ w'.ownsRow base 150 2 v' (l.length + 1) ((l ++ [x]).map SlotR.cells).flatten ∧ w.grownBy w' (Value.slice ao l.length cap).ownBlock ∧ (v'.ownBlock = (Value.slice ao l.length cap).ownBlock ∨ v'.ownBlock = some w.heap.size) := by
  obtain ⟨i0, hi0, hz0, hz1, hz2⟩ := info_parts info_KeySlot
  have hnews : ∀ j u, (SlotR.cells x)[j]? = some u → w.cell? ((⟨gx, 0, none⟩ : Addr).add j) = some u := fun j u hu => by rw [add_none, Nat.zero_add]; exact hx j u hu
  have hcl : (SlotR.cells x).length = 1 * 2 := rfl
  have hf : ((l ++ [x]).map SlotR.cells).flatten = (l.map SlotR.cells).flatten ++ SlotR.cells x := by simp
  have hnc : l.length ≤ cap := by
    rcases (Row.of_own (l := l) h rfl).shape with ⟨hv, hn⟩ | ⟨g, c, hv, h1, _⟩
    · simp [hn]
    · simp at hv; rw [hv.2]; exact h1
  have hnci : (l.length : Int) ≤ cap := by omega
  have HF := Lib.hid hf
  have hby : (l.length + 1) * i0.bytes ≤ 140737488355328 := by rw [hz2]; omega
  have hby0 : (0 + 1) * i0.bytes ≤ 140737488355328 := by rw [hz2]; decide
  clear hf hz2
  rcases (Row.of_own (l := l) h rfl).shape with ⟨hv, hn⟩ | ⟨g, c, hv, h1, h2, _⟩
  · subst hn
    simp at hv
    obtain ⟨rfl, rfl⟩ := hv
    go_enter Try.func121, Try.ntmps121
    go_wp2_with (go_loud (at_builtin; refine wpList_append_own_at (w := w) rfl _ _ _ rfl base 150 i0 _ 2 _ Try.underlying62 hi0 hz0 hz1 rfl (by rfl) (by decide) (.slice none 0 0) 0 [] rfl h ⟨gx, 0, none⟩ 1 1 (SlotR.cells x) rfl hcl hnews (cells1KeySlot x) (by decide) hby0 hbase ?_; intro v2 w2 o2 g2 _ p2))
    go_ret
    exact ⟨v2, rfl, by simpa using o2, g2, p2⟩
  · simp at hv
    obtain ⟨rfl, rfl⟩ := hv
    go_enter Try.func121, Try.ntmps121
    go_wp2_with (go_loud (at_builtin; refine wpList_append_own_at (w := w) rfl _ _ _ rfl base 150 i0 _ 2 _ Try.underlying62 hi0 hz0 hz1 rfl (by rfl) (by decide) (.slice (some ⟨g, 0, none⟩) l.length cap) l.length _ rfl h ⟨gx, 0, none⟩ 1 1 (SlotR.cells x) rfl hcl hnews (cells1KeySlot x) (by simp only [maxLen]; omega) hby hbase ?_; intro v2 w2 o2 g2 _ p2))
    all_goals (go_ret; exact ⟨v2, rfl, by simpa using o2, g2, p2⟩)

set_option maxRecDepth 100000 in
set_option maxHeartbeats 1600000 in
theorem insRKeySlot (l : List SlotR) (g cap : Nat) (base : Nat) (w : World) (h : w.ownsRow base 150 2 (.slice (some ⟨g, 0, none⟩) l.length cap) l.length (l.map SlotR.cells).flatten) (hl : (l.length : Int) ≤ 1048577) (i : Nat) (hi : i < l.length) (hroom : l.length + 1 ≤ cap) (hcm : cap ≤ 9223372036854775807) (x : SlotR) (gx kx : Nat) (tx : TypeId) (hx : ∀ t u, (SlotR.cells x)[t]? = some u → w.cell? ⟨gx, t, none⟩ = some u) (hne : gx ≠ g) (hsx : w.shape? gx = some (tx, kx)) (hfx : w.frozen? ⟨gx, 0, none⟩ = false) (hfe : w.frozen? ⟨gx, kx, none⟩ = false) :
    Calls Try.prog 121 #[(.slice (some ⟨g, 0, none⟩) l.length cap), .int .i64 i, .slice (some ⟨gx, 0, none⟩) 1 1] w fun e w' => e = .returned (.slice (some ⟨g, 0, none⟩) (l.length + 1) cap) ∧ w'.ownsRow base 150 2 (.slice (some ⟨g, 0, none⟩) (l.length + 1) cap) (l.length + 1) ((l.take i ++ x :: l.drop i).map SlotR.cells).flatten ∧ w.grownBy w' (some g) := by
  obtain ⟨i0, hi0, hz0, hz1, hz2⟩ := info_parts info_KeySlot
  have hlen : ((l.map SlotR.cells).flatten).length = l.length * 2 := flat_length (enc := SlotR.cells) (size := 2) (fun _ => rfl) l
  have hcl : (SlotR.cells x).length = 1 * 2 := rfl
  have hsz : (Try.prog.info? 150).map (·.size) = some 2 := by rw [hi0]; simp [hz1]
  obtain ⟨ys, hyl, oY⟩ := own_more h hroom
  obtain ⟨cs, hcs⟩ : ∃ cs, cs = ((l.drop i).map SlotR.cells).flatten := ⟨_, rfl⟩
  have hdl : cs.length = (l.length - i) * 2 := by rw [hcs, flat_length (enc := SlotR.cells) (size := 2) (fun _ => rfl), List.length_drop]
  have hcell : ∀ t u, cs[t]? = some u → w.cell? ⟨g, i * 2 + t, none⟩ = some u := by
    intro t u hu
    refine own_cell h ?_
    have e := flat_drop (f := SlotR.cells) (n := 2) (fun _ => rfl) l i
    rw [← hcs] at e
    rw [← e, List.getElem?_drop] at hu
    exact hu
  have h1c : ∀ u ∈ cs, u.oneCell' = true := by
    intro u hu
    rw [hcs] at hu
    obtain ⟨c, hc, hu⟩ := List.mem_flatten.1 hu
    obtain ⟨y, _, rfl⟩ := List.mem_map.1 hc
    exact cells1KeySlot y u hu
  have hsm : ∀ j, j < (l.length + 1) * 2 → (w.cell? ⟨g, j, none⟩).isSome = true ∧ w.frozen? ⟨g, j, none⟩ = false := by
    intro j hj
    obtain ⟨x0, q0⟩ := cell_owns oY j (by omega)
    exact ⟨by rw [q0]; rfl, oY.frozenAt _⟩
  have hcp1 : ∀ ty dc sc, (Builtin.copy_ #[62, 62] ty #[.slice (some ⟨g, (i + 1) * 2, none⟩) (l.length - i) dc, .slice (some ⟨g, i * 2, none⟩) (l.length + 1 - i) sc]).run Try.prog w.drew = .ok (goInt ((l.length - i : Nat) : Int)) (w.drew.setCells g ((i + 1) * 2) cs) := fun ty dc sc =>
    run_copy_recs w.drew _ _ ty 150 2 g ((i + 1) * 2) (l.length - i) dc ⟨g, i * 2, none⟩ (l.length + 1 - i) sc (l.length - i) cs Try.underlying62 hsz (by simp only [Nat.min_def]; split <;> omega) hdl
      (fun j v hj => by rw [add_none]; exact hcell j v hj)
      (fun j hj => (hsm _ (by omega)).1) (fun j hj => (hsm _ (by omega)).2) h1c
  have oZ : w.drew.ownsRow base 150 2 (.slice (some ⟨g, 0, none⟩) (l.length + 1) cap) (l.length + 1) ((l.map SlotR.cells).flatten ++ ys) := oY.drew
  obtain ⟨W1, hW1⟩ : ∃ W1, W1 = w.drew.setCells g ((i + 1) * 2) cs := ⟨_, rfl⟩
  have r1 := own_setCells cs w.drew _ ((i + 1) * 2) oZ
  rw [← hW1] at r1 hcp1
  have hxc : ∀ j v, (SlotR.cells x)[j]? = some v → W1.cell? ⟨gx, j, none⟩ = some v := by
    intro j v hj
    rw [hW1, World.cell?_setCells_out _ _ _ _ _ (fun h _ => absurd h hne)]
    exact hx j v hj
  have hcp2 : ∀ ty dc, (Builtin.copy_ #[62, 62] ty #[.slice (some ⟨g, i * 2, none⟩) (l.length + 1 - i) dc, .slice (some ⟨gx, 0, none⟩) 1 1]).run Try.prog W1 = .ok (goInt 1) (W1.setCells g (i * 2) (SlotR.cells x)) := fun ty dc =>
    run_copy_recs W1 _ _ ty 150 2 g (i * 2) (l.length + 1 - i) dc ⟨gx, 0, none⟩ 1 1 1 (SlotR.cells x) Try.underlying62 hsz (by simp only [Nat.min_def]; split <;> omega) hcl
      (fun j v hj => by rw [add_none, Nat.zero_add]; exact hxc j v hj)
      (fun j hj => by obtain ⟨x0, q0⟩ := cell_owns r1.1 (i * 2 + j) (by omega); rw [q0]; rfl) (fun j hj => r1.1.frozenAt _) (cells1KeySlot x)
  have r2 := own_setCells (SlotR.cells x) W1 _ (i * 2) r1.1
  rw [hcs, ins_room (f := SlotR.cells) (n := 2) (fun _ => rfl) l i hi x ys hyl] at r2
  obtain ⟨oR, gR⟩ := r2
  have gA := r1.2
  have hshape : w.shape? g = some (150, cap * 2) := by
    rcases h.2 with ⟨hn, _⟩ | ⟨g', cap', cur, hv, hb', hg, hc, hcm', hcs', ht⟩
    · cases hn
    · simp only [Value.slice.injEq, Option.some.injEq, Addr.mk.injEq, and_true, true_and] at hv
      obtain ⟨rfl, rfl⟩ := hv
      simp [World.shape?, hg, hcs']
  have hov : ∀ lb cb, (callFunc 168 #[.slice (some ⟨gx, 0, none⟩) 1 1, .slice (some ⟨g, (i + 1) * 2, none⟩) lb cb]).run Try.prog w = .ok (.value (.bool false)) w := fun lb cb => by
    rw [run_callFunc_extern Try.func168 (by kernel_rfl) (by kernel_rfl) (by kernel_rfl) (e := Extern.SlicesOverlaps.overlaps #[62, 62] #[4]) (by kernel_rfl),
      Lib.run_overlaps_apart w 62 4 150 Try.underlying62 2 (fun w => by simp [sizeOf, typeInfo, hi0, hz1]) ⟨gx, 0, none⟩ ⟨g, (i + 1) * 2, none⟩ 1 1 lb cb hne tx 150 kx (cap * 2) hsx hshape (by omega) hfx hfe]
    rfl
  have hw1 : IntKind.i64.wrap ((i : Int) + 1) = (i : Int) + 1 := by rw [IntKind.wrap_i64]; omega
  have hw2 : IntKind.i64.wrap ((l.length : Int) + 1) = (l.length : Int) + 1 := by rw [IntKind.wrap_i64]; omega
  have hb1 : (0 : Int) ≤ (i : Int) + 1 := by omega
  have hb2 : (0 : Int) ≤ (l.length : Int) + 1 := by omega
  have ht1 : ((i : Int) + 1).toNat = i + 1 := by omega
  have ht2 : ((l.length : Int) + 1).toNat = l.length + 1 := by omega
  have hq1 : ¬ ((i : Int) = (l.length : Int)) := by omega
  have hq2 : ¬ ((cap : Int) < (l.length : Int) + 1) := by omega
  have hq3 : (i : Int) ≤ (l.length : Int) := by omega
  have hq4 : (i : Int) ≤ (l.length : Int) + 1 := by omega
  have hq5 : (i : Int) + 1 ≤ (l.length : Int) + 1 := by omega
  have hq6 : (l.length : Int) + 1 ≤ (cap : Int) := by omega
  have hq7 : (i : Int) ≤ (cap : Int) := by omega
  have hq8 : (i : Int) + 1 ≤ (cap : Int) := by omega
  have hq9 : (l.length : Int) ≤ (cap : Int) := by omega
  have hq10 : i ≤ cap := by omega
  have hq11 : i + 1 ≤ cap := by omega
  have hc1 : ¬ (cap = i) := by omega
  have hc2 : ¬ (cap = i + 1) := by omega
  have HW1 := Lib.hid hW1
  have HC1 := Lib.hid hcp1
  have HC2 := Lib.hid hcp2
  clear hcp1 hcp2 hW1 hcs hcell h1c hsm hxc oY oZ r1 hlen hdl hz2
  go_enter Try.func121, Try.ntmps121
  go_wp2_with (simp only [hov])
  go_region_law (refine step_copy_runI rfl _ _ 62 62 rfl (.slice (some ⟨g, (i + 1) * 2, none⟩) (l.length - i) (cap - (i + 1))) (.slice (some ⟨g, i * 2, none⟩) (l.length + 1 - i) (cap - i)) (by simp [Act.eval, Act.put]) (by simp [Act.eval, Act.put]) (HC1.out _ _ _) ?_)
  have hcp2 := HC2.out
  go_wp2
  go_ret
  exact ⟨rfl, oR, ⟨gR.os.trans gA.os, gR.tape.trans gA.tape, gR.output.trans gA.output, Nat.le_trans gA.size gR.size, fun k hk hne => (gR.block k (Nat.lt_of_lt_of_le hk gA.size) hne).trans (gA.block k hk hne)⟩⟩

set_option maxRecDepth 100000 in
set_option maxHeartbeats 1600000 in
theorem insGKeySlot (l : List SlotR) (g cap : Nat) (base : Nat) (w : World) (hbase : base ≤ w.heap.size) (h : w.ownsRow base 150 2 (.slice (some ⟨g, 0, none⟩) l.length cap) l.length (l.map SlotR.cells).flatten) (hl : (l.length : Int) ≤ 1048577) (i : Nat) (hi : i < l.length) (hcap : l.length ≤ cap) (hroom : cap < l.length + 1) (x : SlotR) (gx kx : Nat) (tx : TypeId) (hx : ∀ t u, (SlotR.cells x)[t]? = some u → w.cell? ⟨gx, t, none⟩ = some u) (hgx : gx < w.heap.size) :
    Calls Try.prog 121 #[(.slice (some ⟨g, 0, none⟩) l.length cap), .int .i64 i, .slice (some ⟨gx, 0, none⟩) 1 1] w fun e w' => ∃ c', e = .returned (.slice (some ⟨w.heap.size, 0, none⟩) (l.length + 1) c') ∧ w'.ownsRow base 150 2 (.slice (some ⟨w.heap.size, 0, none⟩) (l.length + 1) c') (l.length + 1) ((l.take i ++ x :: l.drop i).map SlotR.cells).flatten ∧ w.grownBy w' (some g) := by
  obtain rfl : cap = l.length := by omega
  obtain ⟨i0, hi0, hz0, hz1, hz2⟩ := info_parts info_KeySlot
  have hlen : ((l.map SlotR.cells).flatten).length = l.length * 2 := flat_length (enc := SlotR.cells) (size := 2) (fun _ => rfl) l
  have hcl : (SlotR.cells x).length = 1 * 2 := rfl
  have hsz : (Try.prog.info? 150).map (·.size) = some 2 := by rw [hi0]; simp [hz1]
  obtain ⟨cs, hcs⟩ : ∃ cs, cs = ((l.drop i).map SlotR.cells).flatten := ⟨_, rfl⟩
  obtain ⟨av, has⟩ : ∃ av, av = ((l.take i).map SlotR.cells).flatten := ⟨_, rfl⟩
  have hdl : cs.length = (l.length - i) * 2 := by rw [hcs, flat_length (enc := SlotR.cells) (size := 2) (fun _ => rfl), List.length_drop]
  have hal : av.length = i * 2 := by rw [has, flat_length (enc := SlotR.cells) (size := 2) (fun _ => rfl), List.length_take, Nat.min_eq_left (by omega)]
  have hgl : g < w.heap.size := (h.lt g rfl).2
  have hcell : ∀ t u, cs[t]? = some u → w.cell? ⟨g, i * 2 + t, none⟩ = some u := by
    intro t u hu
    refine own_cell h ?_
    have e := flat_drop (f := SlotR.cells) (n := 2) (fun _ => rfl) l i
    rw [← hcs] at e
    rw [← e, List.getElem?_drop] at hu
    exact hu
  have hcella : ∀ t u, av[t]? = some u → w.cell? ⟨g, t, none⟩ = some u := by
    intro t u hu
    refine own_cell h ?_
    have e := flat_take (f := SlotR.cells) (n := 2) (fun _ => rfl) l i
    rw [← has] at e
    rw [← e, List.getElem?_take] at hu
    split at hu
    · exact hu
    · cases hu
  have h1c : ∀ u ∈ cs, u.oneCell' = true := by
    intro u hu
    rw [hcs] at hu
    obtain ⟨c, hc, hu⟩ := List.mem_flatten.1 hu
    obtain ⟨y, _, rfl⟩ := List.mem_map.1 hc
    exact cells1KeySlot y u hu
  have hold : (Builtin.firstCells i0.size i (.slice (some ⟨g, 0, none⟩) i l.length)).run Try.prog w.drew = .ok av.toArray w.drew := by
    rw [hz1]
    exact run_firstCells_some w.drew 2 i ⟨g, 0, none⟩ i l.length av (by first | exact hal.symm | exact hal | omega) (fun j v hj => by rw [add_none, Nat.zero_add]; exact hcella j v hj)
  obtain ⟨G, hG⟩ : ∃ G, G = grownCap w (l.length + 1) l.length 150 := ⟨_, rfl⟩
  obtain ⟨ROW, hROW⟩ : ∃ ROW : Array Value, ROW = av.toArray ++ Builtin.zeroCells (Value.agg #[.int .i64 0, .string ByteArray.empty]).cells (l.length + 1 - i) ++ Builtin.zeroCells (Value.agg #[.int .i64 0, .string ByteArray.empty]).cells (G - (l.length + 1)) := ⟨_, rfl⟩
  have hkk : (l.length : Int) + 1 - (i : Int) = ((l.length + 1 - i : Nat) : Int) := by omega
  have hrz : ∀ ty, (Builtin.append_ #[62, 3] ty #[.slice (some ⟨g, 0, none⟩) i l.length, .int .i64 ((l.length : Int) + 1 - (i : Int))]).run Try.prog w =
      .ok (.slice (some ⟨w.heap.size, 0, none⟩) (l.length + 1) G) (w.drew.alloc (.cells ROW 150)) := fun ty => by
    have hh := Lib.run_append_grow_zeros w 62 3 ty 150 i0 _ .i64 .i64 Try.underlying62 Try.underlying3 hi0 hz0 (some ⟨g, 0, none⟩) i l.length av hold (l.length + 1 - i) (by omega) (by omega) (by omega) (by omega) (by rw [hz2]; omega) (by rw [hz2, show i + (l.length + 1 - i) = l.length + 1 from by omega]; exact growslice_fits hroom (by omega))
    rw [show i + (l.length + 1 - i) = l.length + 1 from by omega] at hh
    rw [hkk, hROW, hG]
    exact hh
  have hzc : ∀ m, (Builtin.zeroCells (Value.agg #[.int .i64 0, .string ByteArray.empty]).cells m).size = m * 2 := fun m => by simp [Builtin.zeroCells, Value.cells]
  have hGn : l.length + 1 ≤ G := by rw [hG]; exact grownCap_ge w _ _ _
  have hG63 : G ≤ 9223372036854775807 := by
    have := grownCap_le_maxLen w (l.length + 1) l.length 150 (by unfold maxLen; omega)
    rw [← hG] at this
    unfold maxLen at this
    omega
  have hRl : ROW.size = G * 2 := by
    rw [hROW, Array.size_append, Array.size_append, hzc, hzc, List.size_toArray, hal]
    omega
  obtain ⟨ys, hys, hyl⟩ : ∃ ys, ROW.toList.take ((l.length + 1) * 2) = av ++ ys ∧ ys.length = (l.length + 1 - i) * 2 := by
    refine ⟨(Builtin.zeroCells (Value.agg #[.int .i64 0, .string ByteArray.empty]).cells (l.length + 1 - i)).toList, ?_, by rw [Array.length_toList, hzc]⟩
    have hvl : (av.toArray ++ Builtin.zeroCells (Value.agg #[.int .i64 0, .string ByteArray.empty]).cells (l.length + 1 - i)).toList.length = (l.length + 1) * 2 := by rw [Array.length_toList, Array.size_append, hzc, List.size_toArray, hal]; omega
    rw [hROW, Array.toList_append, List.take_append_of_le_length (Nat.le_of_eq hvl.symm), List.take_of_length_le (Nat.le_of_eq hvl), Array.toList_append]
  obtain ⟨W1, hW1⟩ : ∃ W1, W1 = w.drew.alloc (.cells ROW 150) := ⟨_, rfl⟩
  have oZ : W1.ownsRow base 150 2 (.slice (some ⟨w.heap.size, 0, none⟩) (l.length + 1) G) (l.length + 1) (av ++ ys) := by
    refine ⟨by rw [List.length_append, hal, hyl]; omega, .inr ⟨w.heap.size, G, ROW, rfl, hbase, by rw [hW1]; exact heap_alloc_new w.drew _, hGn, by unfold maxLen; omega, hRl, hys⟩⟩
  have kA : ∀ b o, b < w.heap.size → W1.cell? ⟨b, o, none⟩ = w.cell? ⟨b, o, none⟩ := fun b o hb => by rw [hW1]; exact World.cell?_alloc_past (w := w.drew) _ b o hb
  have gA : w.grownBy W1 none := by rw [hW1]; exact ⟨rfl, rfl, rfl, by simp <;> omega, fun k hk _ => Below.heap_alloc w.drew _ k hk⟩
  rw [← hW1] at hrz
  have hcpA : ∀ ty dc, (Builtin.copy_ #[62, 62] ty #[.slice (some ⟨w.heap.size, i * 2, none⟩) (l.length + 1 - i) dc, .slice (some ⟨gx, 0, none⟩) 1 1]).run Try.prog W1 = .ok (goInt 1) (W1.setCells w.heap.size (i * 2) (SlotR.cells x)) := fun ty dc =>
    run_copy_recs W1 _ _ ty 150 2 w.heap.size (i * 2) (l.length + 1 - i) dc ⟨gx, 0, none⟩ 1 1 1 (SlotR.cells x) Try.underlying62 hsz (by simp only [Nat.min_def]; split <;> omega) hcl
      (fun j v hj => by rw [add_none, Nat.zero_add, kA _ _ hgx]; exact hx j v hj)
      (fun j hj => by obtain ⟨x0, q0⟩ := cell_owns oZ (i * 2 + j) (by omega); rw [q0]; rfl) (fun j hj => oZ.frozenAt _) (cells1KeySlot x)
  have r1 := own_setCells (SlotR.cells x) W1 _ (i * 2) oZ
  obtain ⟨W2, hW2⟩ : ∃ W2, W2 = W1.setCells w.heap.size (i * 2) (SlotR.cells x) := ⟨_, rfl⟩
  rw [← hW2] at r1 hcpA
  have kB : ∀ b o, b < w.heap.size → W2.drew.cell? ⟨b, o, none⟩ = w.cell? ⟨b, o, none⟩ := fun b o hb => by
    show W2.cell? _ = _
    rw [hW2, World.cell?_setCells_out _ _ _ _ _ (fun h _ => absurd h (by simp only []; omega)), kA b o hb]
  have oW := r1.1.drew
  have hcpB : ∀ ty dc sc, (Builtin.copy_ #[62, 62] ty #[.slice (some ⟨w.heap.size, (i + 1) * 2, none⟩) (l.length - i) dc, .slice (some ⟨g, i * 2, none⟩) (l.length - i) sc]).run Try.prog W2.drew = .ok (goInt ((l.length - i : Nat) : Int)) (W2.drew.setCells w.heap.size ((i + 1) * 2) cs) := fun ty dc sc =>
    run_copy_recs W2.drew _ _ ty 150 2 w.heap.size ((i + 1) * 2) (l.length - i) dc ⟨g, i * 2, none⟩ (l.length - i) sc (l.length - i) cs Try.underlying62 hsz (by simp only [Nat.min_def]; split <;> omega) hdl
      (fun j v hj => by rw [add_none, kB _ _ hgl]; exact hcell j v hj)
      (fun j hj => by obtain ⟨x0, q0⟩ := cell_owns oW ((i + 1) * 2 + j) (by omega); rw [q0]; rfl) (fun j hj => oW.frozenAt _) h1c
  have r2 := own_setCells cs W2.drew _ ((i + 1) * 2) oW
  rw [hcs, has, ins_grow (f := SlotR.cells) (n := 2) (fun _ => rfl) l i (by omega) x ys hyl, ← hcs] at r2
  obtain ⟨oR, gR⟩ := r2
  obtain ⟨_, gB⟩ := r1
  have gT : w.grownBy (W2.drew.setCells w.heap.size ((i + 1) * 2) cs) (some g) := by
    refine ⟨gR.os.trans (gB.os.trans gA.os), gR.tape.trans (gB.tape.trans gA.tape), gR.output.trans (gB.output.trans gA.output), Nat.le_trans gA.size (Nat.le_trans gB.size gR.size), fun j hj hne => ?_⟩
    have hj1 : j < W1.heap.size := Nat.lt_of_lt_of_le hj gA.size
    have hj2 : j < W2.heap.size := Nat.lt_of_lt_of_le hj1 gB.size
    have hjn : some j ≠ some w.heap.size := fun e => by simp at e; omega
    exact (gR.block j hj2 hjn).trans ((gB.block j hj1 hjn).trans (gA.block j hj (by simp)))
  have hw1 : IntKind.i64.wrap ((i : Int) + 1) = (i : Int) + 1 := by rw [IntKind.wrap_i64]; omega
  have hw2 : IntKind.i64.wrap ((l.length : Int) + 1) = (l.length : Int) + 1 := by rw [IntKind.wrap_i64]; omega
  have hw3 : IntKind.i64.wrap ((l.length : Int) + 1 - (i : Int)) = (l.length : Int) + 1 - (i : Int) := by rw [IntKind.wrap_i64]; omega
  have hb1 : (0 : Int) ≤ (i : Int) + 1 := by omega
  have ht1 : ((i : Int) + 1).toNat = i + 1 := by omega
  have hq1 : ¬ ((i : Int) = (l.length : Int)) := by omega
  have hq2 : (l.length : Int) < (l.length : Int) + 1 := by omega
  have hq3 : (i : Int) ≤ (l.length : Int) := by omega
  have hq4 : (i : Int) ≤ (l.length : Int) + 1 := by omega
  have hq5 : (i : Int) + 1 ≤ (l.length : Int) + 1 := by omega
  have hq7 : (l.length : Int) + 1 ≤ (G : Int) := by omega
  have hq8 : (i : Int) ≤ (G : Int) := by omega
  have hq9 : (i : Int) + 1 ≤ (G : Int) := by omega
  have hc0 : ¬ (l.length = i) := by omega
  have hc1 : ¬ (G = i) := by omega
  have hc2 : ¬ (G = i + 1) := by omega
  have HRZ := Lib.hid hrz
  have HC1 := Lib.hid hcpA
  have HC2 := Lib.hid hcpB
  clear hrz hcpA hcpB hW2 hW1 hcs has hcell hcella h1c oZ oW hlen hdl hal hz2 hG hROW hRl hys hyl hold gA gB gR kA kB hzc hkk
  go_enter Try.func121, Try.ntmps121
  have hcp1 := HC1.out
  go_wp2_with (at_builtin; refine Lib.wpList_append_run _ rfl _ _ _ _ rfl _ _ rfl rfl _ _ (HRZ.out _) ?_)
  go_region_law (refine step_copy_runI rfl _ _ 62 62 rfl (.slice (some ⟨w.heap.size, (i + 1) * 2, none⟩) (l.length - i) (G - (i + 1))) (.slice (some ⟨g, i * 2, none⟩) (l.length - i) (l.length - i)) (by simp [Act.eval, Act.put]) (by simp [Act.eval, Act.put]) (HC2.out _ _ _) ?_)
  go_wp2
  go_ret
  exact ⟨G, rfl, oR, gT⟩

/-- slices.Insert of one record: the three roads as one. -/
theorem insertKeySlot_any (l : List SlotR) (v : Value) (base : Nat) (w : World) (hbase : base ≤ w.heap.size) (h : w.ownsRow base 150 2 v l.length (l.map SlotR.cells).flatten) (hl : (l.length : Int) ≤ 1048577) (i : Nat) (hi : i ≤ l.length) (x : SlotR) (gx kx : Nat) (tx : TypeId) (hx : ∀ t u, (SlotR.cells x)[t]? = some u → w.cell? ⟨gx, t, none⟩ = some u) (hgx : gx < w.heap.size) (hne : v.ownBlock ≠ some gx) (hsx : w.shape? gx = some (tx, kx)) (hfx : w.frozen? ⟨gx, 0, none⟩ = false) (hfe : w.frozen? ⟨gx, kx, none⟩ = false) :
    Calls Try.prog 121 #[v, .int .i64 i, .slice (some ⟨gx, 0, none⟩) 1 1] w fun e w' => ∃ v', e = .returned v' ∧ w'.ownsRow base 150 2 v' (l.length + 1) ((l.take i ++ x :: l.drop i).map SlotR.cells).flatten ∧ w.grownBy w' v.ownBlock ∧ (v'.ownBlock = v.ownBlock ∨ v'.ownBlock = some w.heap.size) := by
  rcases (Row.of_own (l := l) h rfl).shape with ⟨rfl, rfl⟩ | ⟨g, c, rfl, h1, h2, _⟩
  · have hi0 : i = 0 := by simpa using hi
    subst hi0
    refine (insEKeySlot [] none 0 base w hbase h hl x gx kx tx hx).mono ?_
    rintro e w2 ⟨v2, rfl, o2, g2, p2⟩
    exact ⟨v2, rfl, by simpa using o2, g2, p2⟩
  · have hng : gx ≠ g := fun e => hne (by rw [e]; rfl)
    rcases Nat.lt_or_ge i l.length with hlt | hge
    · rcases Nat.lt_or_ge c (l.length + 1) with hc | hc
      · refine (insGKeySlot l g c base w hbase h hl i hlt h1 hc x gx kx tx hx hgx).mono ?_
        rintro e w2 ⟨c2, rfl, o2, g2⟩
        exact ⟨_, rfl, o2, g2, .inr rfl⟩
      · refine (insRKeySlot l g c base w h hl i hlt hc h2 x gx kx tx hx hng hsx hfx hfe).mono ?_
        rintro e w2 ⟨rfl, o2, g2⟩
        exact ⟨_, rfl, o2, g2, .inl rfl⟩
    · obtain rfl : i = l.length := by omega
      refine (insEKeySlot l (some ⟨g, 0, none⟩) c base w hbase h hl x gx kx tx hx).mono ?_
      rintro e w2 ⟨v2, rfl, o2, g2, p2⟩
      exact ⟨v2, rfl, by simpa using o2, g2, p2⟩
end Go.Proofs.Ytfbbdnicplbmdaa
set_option linter.unusedVariables false
set_option linter.unusedSimpArgs false
namespace Go.Proofs.Ytfbbdnicplbmdaa
open Go.RowKit Sp Go.Sort
theorem sc_far {w : World} {a b i j : Nat} {u : Value} (h : b ≠ a) : (w.setCell ⟨a, i, none⟩ u).cell? ⟨b, j, none⟩ = w.cell? ⟨b, j, none⟩ := World.cell?_setCell_other _ _ _ _ (by simp <;> omega)
theorem sc_near {w : World} {a i j : Nat} {u : Value} (h : j ≠ i) : (w.setCell ⟨a, i, none⟩ u).cell? ⟨a, j, none⟩ = w.cell? ⟨a, j, none⟩ := World.cell?_setCell_other _ _ _ _ (by simp <;> omega)
theorem sc_same {w : World} {p : Addr} {u u0 : Value} (h : w.cell? p = some u0) : (w.setCell p u).cell? p = some u := World.cell?_setCell_same _ _ _ h
theorem sc_frz {w : World} {p q : Addr} {u : Value} : (w.setCell p u).frozen? q = w.frozen? q := World.frozen?_setCell _ _ _ _

set_option maxRecDepth 100000 in
set_option maxHeartbeats 3200000 in
theorem specKeyAdd_row (d : KeyDevR) (n : Int) (key : ByteArray) (ad : Option Addr) (cap : Nat) (w : World) (h0 : SlT SlotR.cells 2 w (.slice ad d.slots.length cap) d.slots) (l0 : (d.slots.length : Int) ≤ 1048576) :
    Calls Try.prog 44 #[.agg #[.string d.master, .slice ad d.slots.length cap, .int .i64 d.wiped], .int .i64 n, .string key] w fun e w' => ∃ v', e = .returned (.tuple #[v', .bool (addB d n key)]) ∧ RowKeyDev w.heap.size w'.heap.size w' v' (keyAdd d n key) ∧ Below w.heap.size w w' := by
  have hb2 : ∀ o₁ o₂ : Obj, RowKit.Below w.heap.size w ((w.alloc o₁).alloc o₂) := fun o₁ o₂ => ((Below.refl _ _).alloc (Nat.le_refl _) _).alloc (by simp <;> omega) _
  have hI : IsKeyDev w (.agg #[.string d.master, .slice ad d.slots.length cap, .int .i64 d.wiped]) d := ⟨_, rfl, h0⟩
  rcases hd : keyDevB d with _ | _
  · have HR := Lib.hid (show keyAdd d n key = noKeys from by simp [keyAdd, hd])
    have HB := Lib.hid (show addB d n key = false from by simp [addB, hd])
    go_enter Try.func44, Try.ntmps44
    go_wp2_with (go_at_call 47; refine (specKeyOk _ d _ (hI.below (hb2 _ _)) l0).mono ?_; rintro e w1 ⟨rfl, b1⟩; rw [hd]; have x1 := Below.trans (hb2 _ _) (b1.mono (Below.size (hb2 _ _))); have z1 : w.heap.size + 1 < w1.heap.size := Nat.lt_of_lt_of_le (by simp) b1.size; obtain ⟨hc, hf⟩ := bcell b1; have cA1 := fun o => hc w.heap.size o (by first | omega | (simp <;> omega)); have fA1 := fun o => hf w.heap.size o (by first | omega | (simp <;> omega)); have cR1 := fun o => hc (w.heap.size + 1) o (by first | omega | (simp <;> omega)); have fR1 := fun o => hf (w.heap.size + 1) o (by first | omega | (simp <;> omega)); clear hc hf)
    go_wp2
    refine bodyPost_ret (v := .tuple #[.agg #[.string ByteArray.empty, .slice none 0 0, .int .i64 0], .bool false]) (by simp [results, Try.results44, go_sem, cA1, cR1] <;> rfl) rfl ?_
    rw [HR.out, HB.out]
    refine ⟨_, rfl, ?_, ?_⟩
    · exact ⟨_, rfl, Row.nil _ _ _⟩
    · repeat (refine Below.setCell ?_ (by simp <;> omega) _)
      exact x1
  have hwr := keyDevB_heads hd
  have hple := posOf_le d.slots n
  have lS : ((keyAddS d n key).slots.length : Int) ≤ 1048576 := by rw [show (keyAddS d n key).slots.length = d.slots.length + 1 from addS_length _ _ _]; omega
  go_enter Try.func44, Try.ntmps44
  go_wp2_with (go_at_call 47; refine (specKeyOk _ d _ (hI.below (hb2 _ _)) l0).mono ?_; rintro e w1 ⟨rfl, b1⟩; rw [hd]; have x1 := Below.trans (hb2 _ _) (b1.mono (Below.size (hb2 _ _))); have z1 : w.heap.size + 1 < w1.heap.size := Nat.lt_of_lt_of_le (by simp) b1.size; obtain ⟨hc, hf⟩ := bcell b1; have cA1 := fun o => hc w.heap.size o (by first | omega | (simp <;> omega)); have fA1 := fun o => hf w.heap.size o (by first | omega | (simp <;> omega)); have cR1 := fun o => hc (w.heap.size + 1) o (by first | omega | (simp <;> omega)); have fR1 := fun o => hf (w.heap.size + 1) o (by first | omega | (simp <;> omega)); clear hc hf)
  go_upto_region 4 with (go_at_call 119; refine (l4Copy_row d ad cap _ (h0.below x1) l0).mono ?_; rintro e w2 ⟨v2, rfl, ⟨s1, rfl, r2⟩, b2⟩; obtain ⟨ao, cp, rfl⟩ := r2.form; have x2 := x1.trans (b2.mono x1.size); have z2 := b2.size; obtain ⟨hc, hf⟩ := bcell b2; have cA2 := fun o => hc w.heap.size o (by first | omega | (simp <;> omega)); have fA2 := fun o => hf w.heap.size o (by first | omega | (simp <;> omega)); have cR2 := fun o => hc (w.heap.size + 1) o (by first | omega | (simp <;> omega)); have fR2 := fun o => hf (w.heap.size + 1) o (by first | omega | (simp <;> omega)); clear hc hf)
  have hx0 : (w2.alloc (.cells #[.string d.master, .slice ao d.slots.length cp, .int .i64 d.wiped] 64)).cell? ⟨w2.heap.size, 0, none⟩ = some (.string d.master) := by simp [go_sem]
  have hx1 : (w2.alloc (.cells #[.string d.master, .slice ao d.slots.length cp, .int .i64 d.wiped] 64)).cell? ⟨w2.heap.size, 1, none⟩ = some (.slice ao d.slots.length cp) := by simp [go_sem]
  have hx2 : (w2.alloc (.cells #[.string d.master, .slice ao d.slots.length cp, .int .i64 d.wiped] 64)).cell? ⟨w2.heap.size, 2, none⟩ = some (.int .i64 d.wiped) := by simp [go_sem]
  have hxf : ∀ o, (w2.alloc (.cells #[.string d.master, .slice ao d.slots.length cp, .int .i64 d.wiped] 64)).frozen? ⟨w2.heap.size, o, none⟩ = false := fun o => by simp [go_sem]
  have hsz : (w2.alloc (.cells #[.string d.master, .slice ao d.slots.length cp, .int .i64 d.wiped] 64)).heap.size = w2.heap.size + 1 := by simp
  have oA := (own_mono (base' := w.heap.size + 1 + 1) r2.1 (by omega)).alloc (.cells #[.string d.master, .slice ao d.slots.length cp, .int .i64 d.wiped] 64)
  have xW := x2.alloc x2.size (.cells #[.string d.master, .slice ao d.slots.length cp, .int .i64 d.wiped] 64)
  have hbW := hal' w2 (.cells #[.string d.master, .slice ao d.slots.length cp, .int .i64 d.wiped] 64)
  have rA0 : (w2.alloc (.cells #[.string d.master, .slice ao d.slots.length cp, .int .i64 d.wiped] 64)).cell? ⟨w.heap.size, 0, none⟩ = some (.string d.master) := by rw [(bcell hbW).1 w.heap.size 0 (by omega), cA2, cA1]; simp [go_sem]
  have rA1 : (w2.alloc (.cells #[.string d.master, .slice ao d.slots.length cp, .int .i64 d.wiped] 64)).cell? ⟨w.heap.size, 1, none⟩ = some (.slice ad d.slots.length cap) := by rw [(bcell hbW).1 w.heap.size 1 (by omega), cA2, cA1]; simp [go_sem]
  have rA2 : (w2.alloc (.cells #[.string d.master, .slice ao d.slots.length cp, .int .i64 d.wiped] 64)).cell? ⟨w.heap.size, 2, none⟩ = some (.int .i64 d.wiped) := by rw [(bcell hbW).1 w.heap.size 2 (by omega), cA2, cA1]; simp [go_sem]
  have rR0 : (w2.alloc (.cells #[.string d.master, .slice ao d.slots.length cp, .int .i64 d.wiped] 64)).cell? ⟨w.heap.size + 1, 0, none⟩ = some (.string ByteArray.empty) := by rw [(bcell hbW).1 (w.heap.size + 1) 0 (by omega), cR2, cR1]; simp [go_sem] <;> rfl
  have rR1 : (w2.alloc (.cells #[.string d.master, .slice ao d.slots.length cp, .int .i64 d.wiped] 64)).cell? ⟨w.heap.size + 1, 1, none⟩ = some (.slice none 0 0) := by rw [(bcell hbW).1 (w.heap.size + 1) 1 (by omega), cR2, cR1]; simp [go_sem]
  have rR2 : (w2.alloc (.cells #[.string d.master, .slice ao d.slots.length cp, .int .i64 d.wiped] 64)).cell? ⟨w.heap.size + 1, 2, none⟩ = some (.int .i64 0) := by rw [(bcell hbW).1 (w.heap.size + 1) 2 (by omega), cR2, cR1]; simp [go_sem]
  have rF : ∀ o, (w2.alloc (.cells #[.string d.master, .slice ao d.slots.length cp, .int .i64 d.wiped] 64)).frozen? ⟨w.heap.size + 1, o, none⟩ = false := fun o => by rw [(bcell hbW).2 (w.heap.size + 1) o (by omega), fR2, fR1]; simp [go_sem]
  generalize (w2.alloc (.cells #[.string d.master, .slice ao d.slots.length cp, .int .i64 d.wiped] 64)) = W at hx0 hx1 hx2 hxf hsz oA xW rA0 rA1 rA2 rR0 rR1 rR2 rF ⊢
  clear hbW cA1 cR1 fA1 fR1 cA2 cR2 fA2 fR2
  go_wp2
  have oZ : (W.alloc (.cells #[] 150)).ownsRow (w2.heap.size + 1) 150 2 (.slice (some ⟨w2.heap.size + 1, 0, none⟩) 0 0) 0 [] := own0 hsz (Nat.le_refl _)
  have bZ : RowKit.Below (w2.heap.size + 1) W (W.alloc (.cells #[] 150)) := (Below.refl _ _).alloc (by omega) _
  go_loopw [9, 10, 11] (fun o p i wr => ∃ (k : Nat) (b : Bool), k ≤ d.slots.length ∧ i = .int .i64 k ∧ p = .bool b ∧ b = decide (posOf d.slots n < k) ∧ wr.ownsRow (w2.heap.size + 1) 150 2 o (outAt d.slots n key k).length ((outAt d.slots n key k).map SlotR.cells).flatten ∧ RowKit.Below (w2.heap.size + 1) W wr) (fun _ _ i _ => d.slots.length - (intOf i).toNat)
  case atStart => exact ⟨0, false, by omega, rfl, rfl, by simp, by simpa [outAt] using oZ, bZ⟩
  case round =>
    obtain ⟨k, b, hk, rfl, rfl, hb, hr, hbl⟩ := hrel
    obtain ⟨hc, hf⟩ := bcellB hbl
    have hzw := hbl.size
    have hle := outAt_le d.slots n key k
    obtain ⟨oo, co, rfl⟩ := (Row.of_own hr rfl).form
    by_cases hlt : k < d.slots.length
    · have yA0 := (hc w.heap.size 0 (by omega)).trans rA0
      have yA1 := (hc w.heap.size 1 (by omega)).trans rA1
      have yA2 := (hc w.heap.size 2 (by omega)).trans rA2
      obtain ⟨bo', cp', hv, hlc, hcm, hsh⟩ := h0.shape
      obtain ⟨bk, off, hbk, hbs, hcc⟩ := hsh (by omega)
      obtain rfl : ad = some ⟨bk, off, none⟩ := by simp at hv; rw [hbk] at hv; simpa using hv.1
      have kk : ∀ (wz : World), RowKit.Below (w2.heap.size + 1) W wz → wz.cell? ⟨bk, off + k * 2, none⟩ = some (.int .i64 d.slots[k].ten) ∧ wz.cell? ⟨bk, off + k * 2 + 1, none⟩ = some (.string d.slots[k].key) ∧ wz.cell? ⟨w.heap.size, 0, none⟩ = some (.string d.master) ∧ wz.cell? ⟨w.heap.size, 1, none⟩ = some (.slice (some ⟨bk, off, none⟩) d.slots.length cap) ∧ wz.cell? ⟨w.heap.size, 2, none⟩ = some (.int .i64 d.wiped) := fun wz hz => by
        have hz1 := (bcellB hz).1
        exact ⟨(hz1 bk _ (by omega)).trans ((xW.cell (p := ⟨bk, off + k * 2, none⟩) hbs).trans (hcc k hlt 0 _ rfl)), (hz1 bk _ (by omega)).trans ((xW.cell (p := ⟨bk, off + k * 2 + 1, none⟩) hbs).trans (hcc k hlt 1 _ rfl)), (hz1 _ _ (by omega)).trans rA0, (hz1 _ _ (by omega)).trans rA1, (hz1 _ _ (by omega)).trans rA2⟩
      obtain ⟨e0, e1, _⟩ := kk _ hbl
      clear hcc hsh hv hbk hc hf
      rcases Nat.lt_trichotomy k (posOf d.slots n) with hq | hq | hq
      · obtain rfl : b = false := by rw [hb]; simp; omega
        clear hb
        have hten := posOf_lt d.slots n k hlt hq
        have HS := Lib.hid (outAt_step (key := key) hlt (by omega : k ≠ posOf d.slots n))
        have hng : ¬ n ≤ d.slots[k].ten := by omega
        go_wp2_with (at_builtin; refine app_new_at rfl rfl Try.underlying62 info_KeySlot rfl (by decide) hr rfl 1 rfl rfl (by simp [Value.oneCell']) (by omega) hbl (Nat.le_refl _) (by omega) ?_; intro v3 w3 o3 x3 g3 p3; have z3 := x3.size)
        go_roundw
        case rel => exact ⟨k + 1, false, by omega, by go_num, rfl, by simp; omega, by rw [HS.out]; simpa [SlotR.cells] using o3, x3⟩
        case measure => simp [intOf]; omega
      · obtain rfl : b = false := by rw [hb]; simp; omega
        clear hb
        have hten : n ≤ d.slots[k].ten := by
          have := posOf_at d.slots n (by omega)
          simpa only [← hq] using this
        have HS := Lib.hid (outAt_put (key := key) hlt hq)
        have HQ := Lib.hid hq
        clear hq
        go_wp2_with (first | (at_builtin; refine app_new_at rfl rfl Try.underlying62 info_KeySlot rfl (by decide) o3 rfl 1 rfl rfl (by simp [Value.oneCell']) (by omega) x3 (Nat.le_refl _) (by omega) ?_; intro v4 w4 o4 x4 g4 p4; have z4 := x4.size) | (at_builtin; refine app_new_at rfl rfl Try.underlying62 info_KeySlot rfl (by decide) hr rfl 1 rfl rfl (by simp [Value.oneCell']) (by omega) hbl (Nat.le_refl _) (by omega) ?_; intro v3 w3 o3 x3 g3 p3; have z3 := x3.size; obtain ⟨e30, e31, a30, a31, a32⟩ := kk _ x3))
        go_roundw
        case rel => exact ⟨k + 1, true, by omega, by go_num, rfl, by have := HQ.out; simp; omega, by rw [HS.out]; simpa [SlotR.cells] using o4, x4⟩
        case measure => simp [intOf]; omega
      · obtain rfl : b = true := by rw [hb]; simp; omega
        clear hb
        have HS := Lib.hid (outAt_step (key := key) hlt (by omega : k ≠ posOf d.slots n))
        go_wp2_with (at_builtin; refine app_new_at rfl rfl Try.underlying62 info_KeySlot rfl (by decide) hr rfl 1 rfl rfl (by simp [Value.oneCell']) (by omega) hbl (Nat.le_refl _) (by omega) ?_; intro v3 w3 o3 x3 g3 p3; have z3 := x3.size)
        go_roundw
        case rel => exact ⟨k + 1, true, by omega, by go_num, rfl, by simp; omega, by rw [HS.out]; simpa [SlotR.cells] using o3, x3⟩
        case measure => simp [intOf]; omega
    · obtain rfl : k = d.slots.length := by omega
      by_cases hpl : posOf d.slots n < d.slots.length
      · obtain rfl : b = true := by rw [hb]; simpa using hpl
        clear hb
        rw [outAt_end d.slots n key hpl] at hr ⊢
        have xe : RowKit.Below w.heap.size w wr := xW.trans (hbl.mono (show w.heap.size ≤ w2.heap.size + 1 from by omega))
        have yA0 := (hc w.heap.size 0 (by omega)).trans rA0
        have yA1 := (hc w.heap.size 1 (by omega)).trans rA1
        have yA2 := (hc w.heap.size 2 (by omega)).trans rA2
        have yX0 := (hc w2.heap.size 0 (by omega)).trans hx0
        have yX1 := (hc w2.heap.size 1 (by omega)).trans hx1
        have yX2 := (hc w2.heap.size 2 (by omega)).trans hx2
        have yR0 := (hc (w.heap.size + 1) 0 (by omega)).trans rR0
        have yR1 := (hc (w.heap.size + 1) 1 (by omega)).trans rR1
        have yR2 := (hc (w.heap.size + 1) 2 (by omega)).trans rR2
        have yXf := fun o => (hf w2.heap.size o (by omega)).trans (hxf o)
        have yRf := fun o => (hf (w.heap.size + 1) o (by omega)).trans (rF o)
        clear hc hf rR0 rR1 rR2 rF hx0 hx1 hx2 hxf oZ bZ hbl rA0 rA1 rA2
        have oS := own_other hr ⟨w2.heap.size, 1, none⟩ (by simp) (.slice oo (addS d.slots n key).length co)
        have hIS : IsKeyDev (wr.setCell ⟨w2.heap.size, 1, none⟩ (.slice oo (addS d.slots n key).length co)) (.agg #[.string d.master, .slice oo (addS d.slots n key).length co, .int .i64 d.wiped]) (keyAddS d n key) := ⟨_, rfl, SlT.of_own oS (fun _ => rfl) (by decide)⟩
        have xS := Below.setCell xe (p := ⟨w2.heap.size, 1, none⟩) (by simp <;> omega) (.slice oo (addS d.slots n key).length co)
        have zS : (wr.setCell ⟨w2.heap.size, 1, none⟩ (.slice oo (addS d.slots n key).length co)).heap.size = wr.heap.size := by simp
        have neA : w.heap.size ≠ w2.heap.size := by omega
        have neR : w.heap.size + 1 ≠ w2.heap.size := by omega
        have neR' : ¬ w2.heap.size = w.heap.size + 1 := by omega
        have neR'' : ¬ w.heap.size + 1 = w2.heap.size := by omega
        have tA0 := (sc_far (w := wr) (i := 1) (j := 0) (u := .slice oo (addS d.slots n key).length co) neA).trans yA0
        have tA1 := (sc_far (w := wr) (i := 1) (j := 1) (u := .slice oo (addS d.slots n key).length co) neA).trans yA1
        have tA2 := (sc_far (w := wr) (i := 1) (j := 2) (u := .slice oo (addS d.slots n key).length co) neA).trans yA2
        have tR0 := (sc_far (w := wr) (i := 1) (j := 0) (u := .slice oo (addS d.slots n key).length co) neR).trans yR0
        have tR1 := (sc_far (w := wr) (i := 1) (j := 1) (u := .slice oo (addS d.slots n key).length co) neR).trans yR1
        have tR2 := (sc_far (w := wr) (i := 1) (j := 2) (u := .slice oo (addS d.slots n key).length co) neR).trans yR2
        have tX0 := (sc_near (w := wr) (a := w2.heap.size) (i := 1) (j := 0) (u := .slice oo (addS d.slots n key).length co) (by decide)).trans yX0
        have tX1 := sc_same (u := .slice oo (addS d.slots n key).length co) yX1
        have tX2 := (sc_near (w := wr) (a := w2.heap.size) (i := 1) (j := 2) (u := .slice oo (addS d.slots n key).length co) (by decide)).trans yX2
        have tRf := fun o => (sc_frz (w := wr) (p := ⟨w2.heap.size, 1, none⟩) (u := .slice oo (addS d.slots n key).length co)).trans (yRf o)
        rcases hd2 : keyDevB (keyAddS d n key) with _ | _
        · have HR := Lib.hid (show keyAdd d n key = d from by simp [keyAdd, addB, hd, hd2])
          have HB := Lib.hid (show addB d n key = false from by simp [addB, hd2])
          go_wp2_with (first | (go_at_call 47; refine (specKeyOk _ (keyAddS d n key) _ hIS lS).mono ?_; rintro e w5 ⟨rfl, b5⟩; rw [hd2]; have x5 := xS.trans (b5.mono xS.size); have z5 := b5.size; rw [zS] at z5; obtain ⟨hc, hf⟩ := bcell b5; have sA0 := (hc w.heap.size 0 (by rw [zS]; omega)).trans tA0; have sA1 := (hc w.heap.size 1 (by rw [zS]; omega)).trans tA1; have sA2 := (hc w.heap.size 2 (by rw [zS]; omega)).trans tA2; have sX0 := (hc w2.heap.size 0 (by rw [zS]; omega)).trans tX0; have sX1 := (hc w2.heap.size 1 (by rw [zS]; omega)).trans tX1; have sX2 := (hc w2.heap.size 2 (by rw [zS]; omega)).trans tX2; have sR0 := (hc (w.heap.size + 1) 0 (by rw [zS]; omega)).trans tR0; have sR1 := (hc (w.heap.size + 1) 1 (by rw [zS]; omega)).trans tR1; have sR2 := (hc (w.heap.size + 1) 2 (by rw [zS]; omega)).trans tR2; have sRf := fun o => (hf (w.heap.size + 1) o (by rw [zS]; omega)).trans (tRf o); clear hc hf tA0 tA1 tA2 tR0 tR1 tR2 tX0 tX1 tX2 tRf yA0 yA1 yA2 yX0 yX1 yX2 yR0 yR1 yR2 yXf yRf) | (go_at_call 119; refine (l4Copy_row d ad cap _ (h0.below x5) l0).mono ?_; rintro e w6 ⟨v6, rfl, ⟨s6, rfl, r6⟩, b6⟩; obtain ⟨a6, c6, rfl⟩ := r6.form; have x6 := x5.trans (b6.mono x5.size); have z6 := b6.size; obtain ⟨hc, hf⟩ := bcell b6; have q0 := (hc (w.heap.size + 1) 0 (by omega)).trans sR0; have q1 := (hc (w.heap.size + 1) 1 (by omega)).trans sR1; have q2 := (hc (w.heap.size + 1) 2 (by omega)).trans sR2; have qf := fun o => (hf (w.heap.size + 1) o (by omega)).trans (sRf o); clear hc hf sR0 sR1 sR2 sRf))
          go_wp2
          refine bodyPost_ret (v := .tuple #[.agg #[.string d.master, .slice a6 d.slots.length c6, .int .i64 d.wiped], .bool false]) (by simp [results, Try.results44, go_sem, q0, q1, q2]) rfl ?_
          rw [HR.out, HB.out]
          refine ⟨_, rfl, ?_, ?_⟩
          · refine ⟨_, rfl, Row.up (lo' := w.heap.size + 1 + 1) (n := d.slots.length) ?_ rfl (by omega)⟩
            repeat (refine own_other ?_ _ (by simp <;> omega) _)
            exact own_mono r6.1 (by omega)
          · repeat (refine Below.setCell ?_ (by simp <;> omega) _)
            exact x6
        · have HR := Lib.hid (show keyAdd d n key = keyAddS d n key from by simp [keyAdd, addB, hd, hd2])
          have HB := Lib.hid (show addB d n key = true from by simp [addB, hd, hd2])
          go_wp2_with (go_at_call 47; refine (specKeyOk _ (keyAddS d n key) _ hIS lS).mono ?_; rintro e w5 ⟨rfl, b5⟩; rw [hd2]; have x5 := xS.trans (b5.mono xS.size); have z5 := b5.size; rw [zS] at z5; obtain ⟨hc, hf⟩ := bcell b5; have sA0 := (hc w.heap.size 0 (by rw [zS]; omega)).trans tA0; have sA1 := (hc w.heap.size 1 (by rw [zS]; omega)).trans tA1; have sA2 := (hc w.heap.size 2 (by rw [zS]; omega)).trans tA2; have sX0 := (hc w2.heap.size 0 (by rw [zS]; omega)).trans tX0; have sX1 := (hc w2.heap.size 1 (by rw [zS]; omega)).trans tX1; have sX2 := (hc w2.heap.size 2 (by rw [zS]; omega)).trans tX2; have sR0 := (hc (w.heap.size + 1) 0 (by rw [zS]; omega)).trans tR0; have sR1 := (hc (w.heap.size + 1) 1 (by rw [zS]; omega)).trans tR1; have sR2 := (hc (w.heap.size + 1) 2 (by rw [zS]; omega)).trans tR2; have sRf := fun o => (hf (w.heap.size + 1) o (by rw [zS]; omega)).trans (tRf o); clear hc hf tA0 tA1 tA2 tR0 tR1 tR2 tX0 tX1 tX2 tRf yA0 yA1 yA2 yX0 yX1 yX2 yR0 yR1 yR2 yXf yRf)
          go_wp2
          refine bodyPost_ret (v := .tuple #[.agg #[.string d.master, .slice oo (addS d.slots n key).length co, .int .i64 d.wiped], .bool true]) (by simp [results, Try.results44, go_sem, sX0, sX1, sX2, sR0, sR1, sR2, neR', neR'']) rfl ?_
          rw [HR.out, HB.out]
          refine ⟨_, rfl, ?_, ?_⟩
          · refine ⟨_, rfl, Row.up (lo' := w2.heap.size + 1) (n := (addS d.slots n key).length) ?_ rfl (by omega)⟩
            repeat (refine own_other ?_ _ (by simp <;> omega) _)
            exact own_below oS b5
          · repeat (refine Below.setCell ?_ (by simp <;> omega) _)
            exact x5
      · obtain rfl : b = false := by rw [hb]; simpa using hpl
        clear hb
        have HE := Lib.hid (outAt_last d.slots n key hpl)
        have yA1 := (hc w.heap.size 1 (by omega)).trans rA1
        go_upto_region 15 with (at_builtin; refine app_new_at rfl rfl Try.underlying62 info_KeySlot rfl (by decide) hr rfl 1 rfl rfl (by simp [Value.oneCell']) (by omega) hbl (Nat.le_refl _) (by omega) ?_; intro v3 w3 o3 x3 g3 p3; have z3 := x3.size)
        have o3' : w3.ownsRow (w2.heap.size + 1) 150 2 v3 (addS d.slots n key).length ((addS d.slots n key).map SlotR.cells).flatten := by rw [← HE.out]; simpa [SlotR.cells] using o3
        clear o3 hr yA1 hc hf
        obtain ⟨hc, hf⟩ := bcellB x3
        obtain ⟨oo, co, rfl⟩ := (Row.of_own o3' rfl).form
        have xe : RowKit.Below w.heap.size w w3 := xW.trans (x3.mono (show w.heap.size ≤ w2.heap.size + 1 from by omega))
        have yA0 := (hc w.heap.size 0 (by omega)).trans rA0
        have yA1 := (hc w.heap.size 1 (by omega)).trans rA1
        have yA2 := (hc w.heap.size 2 (by omega)).trans rA2
        have yX0 := (hc w2.heap.size 0 (by omega)).trans hx0
        have yX1 := (hc w2.heap.size 1 (by omega)).trans hx1
        have yX2 := (hc w2.heap.size 2 (by omega)).trans hx2
        have yR0 := (hc (w.heap.size + 1) 0 (by omega)).trans rR0
        have yR1 := (hc (w.heap.size + 1) 1 (by omega)).trans rR1
        have yR2 := (hc (w.heap.size + 1) 2 (by omega)).trans rR2
        have yXf := fun o => (hf w2.heap.size o (by omega)).trans (hxf o)
        have yRf := fun o => (hf (w.heap.size + 1) o (by omega)).trans (rF o)
        clear hc hf rR0 rR1 rR2 rF hx0 hx1 hx2 hxf oZ bZ hbl rA0 rA1 rA2
        have oS := own_other o3' ⟨w2.heap.size, 1, none⟩ (by simp) (.slice oo (addS d.slots n key).length co)
        have hIS : IsKeyDev (w3.setCell ⟨w2.heap.size, 1, none⟩ (.slice oo (addS d.slots n key).length co)) (.agg #[.string d.master, .slice oo (addS d.slots n key).length co, .int .i64 d.wiped]) (keyAddS d n key) := ⟨_, rfl, SlT.of_own oS (fun _ => rfl) (by decide)⟩
        have xS := Below.setCell xe (p := ⟨w2.heap.size, 1, none⟩) (by simp <;> omega) (.slice oo (addS d.slots n key).length co)
        have zS : (w3.setCell ⟨w2.heap.size, 1, none⟩ (.slice oo (addS d.slots n key).length co)).heap.size = w3.heap.size := by simp
        have neA : w.heap.size ≠ w2.heap.size := by omega
        have neR : w.heap.size + 1 ≠ w2.heap.size := by omega
        have neR' : ¬ w2.heap.size = w.heap.size + 1 := by omega
        have neR'' : ¬ w.heap.size + 1 = w2.heap.size := by omega
        have tA0 := (sc_far (w := w3) (i := 1) (j := 0) (u := .slice oo (addS d.slots n key).length co) neA).trans yA0
        have tA1 := (sc_far (w := w3) (i := 1) (j := 1) (u := .slice oo (addS d.slots n key).length co) neA).trans yA1
        have tA2 := (sc_far (w := w3) (i := 1) (j := 2) (u := .slice oo (addS d.slots n key).length co) neA).trans yA2
        have tR0 := (sc_far (w := w3) (i := 1) (j := 0) (u := .slice oo (addS d.slots n key).length co) neR).trans yR0
        have tR1 := (sc_far (w := w3) (i := 1) (j := 1) (u := .slice oo (addS d.slots n key).length co) neR).trans yR1
        have tR2 := (sc_far (w := w3) (i := 1) (j := 2) (u := .slice oo (addS d.slots n key).length co) neR).trans yR2
        have tX0 := (sc_near (w := w3) (a := w2.heap.size) (i := 1) (j := 0) (u := .slice oo (addS d.slots n key).length co) (by decide)).trans yX0
        have tX1 := sc_same (u := .slice oo (addS d.slots n key).length co) yX1
        have tX2 := (sc_near (w := w3) (a := w2.heap.size) (i := 1) (j := 2) (u := .slice oo (addS d.slots n key).length co) (by decide)).trans yX2
        have tRf := fun o => (sc_frz (w := w3) (p := ⟨w2.heap.size, 1, none⟩) (u := .slice oo (addS d.slots n key).length co)).trans (yRf o)
        rcases hd2 : keyDevB (keyAddS d n key) with _ | _
        · have HR := Lib.hid (show keyAdd d n key = d from by simp [keyAdd, addB, hd, hd2])
          have HB := Lib.hid (show addB d n key = false from by simp [addB, hd2])
          go_wp2_with (first | (go_at_call 47; refine (specKeyOk _ (keyAddS d n key) _ hIS lS).mono ?_; rintro e w5 ⟨rfl, b5⟩; rw [hd2]; have x5 := xS.trans (b5.mono xS.size); have z5 := b5.size; rw [zS] at z5; obtain ⟨hc, hf⟩ := bcell b5; have sA0 := (hc w.heap.size 0 (by rw [zS]; omega)).trans tA0; have sA1 := (hc w.heap.size 1 (by rw [zS]; omega)).trans tA1; have sA2 := (hc w.heap.size 2 (by rw [zS]; omega)).trans tA2; have sX0 := (hc w2.heap.size 0 (by rw [zS]; omega)).trans tX0; have sX1 := (hc w2.heap.size 1 (by rw [zS]; omega)).trans tX1; have sX2 := (hc w2.heap.size 2 (by rw [zS]; omega)).trans tX2; have sR0 := (hc (w.heap.size + 1) 0 (by rw [zS]; omega)).trans tR0; have sR1 := (hc (w.heap.size + 1) 1 (by rw [zS]; omega)).trans tR1; have sR2 := (hc (w.heap.size + 1) 2 (by rw [zS]; omega)).trans tR2; have sRf := fun o => (hf (w.heap.size + 1) o (by rw [zS]; omega)).trans (tRf o); clear hc hf tA0 tA1 tA2 tR0 tR1 tR2 tX0 tX1 tX2 tRf yA0 yA1 yA2 yX0 yX1 yX2 yR0 yR1 yR2 yXf yRf) | (go_at_call 119; refine (l4Copy_row d ad cap _ (h0.below x5) l0).mono ?_; rintro e w6 ⟨v6, rfl, ⟨s6, rfl, r6⟩, b6⟩; obtain ⟨a6, c6, rfl⟩ := r6.form; have x6 := x5.trans (b6.mono x5.size); have z6 := b6.size; obtain ⟨hc, hf⟩ := bcell b6; have q0 := (hc (w.heap.size + 1) 0 (by omega)).trans sR0; have q1 := (hc (w.heap.size + 1) 1 (by omega)).trans sR1; have q2 := (hc (w.heap.size + 1) 2 (by omega)).trans sR2; have qf := fun o => (hf (w.heap.size + 1) o (by omega)).trans (sRf o); clear hc hf sR0 sR1 sR2 sRf))
          go_wp2
          refine bodyPost_ret (v := .tuple #[.agg #[.string d.master, .slice a6 d.slots.length c6, .int .i64 d.wiped], .bool false]) (by simp [results, Try.results44, go_sem, q0, q1, q2]) rfl ?_
          rw [HR.out, HB.out]
          refine ⟨_, rfl, ?_, ?_⟩
          · refine ⟨_, rfl, Row.up (lo' := w.heap.size + 1 + 1) (n := d.slots.length) ?_ rfl (by omega)⟩
            repeat (refine own_other ?_ _ (by simp <;> omega) _)
            exact own_mono r6.1 (by omega)
          · repeat (refine Below.setCell ?_ (by simp <;> omega) _)
            exact x6
        · have HR := Lib.hid (show keyAdd d n key = keyAddS d n key from by simp [keyAdd, addB, hd, hd2])
          have HB := Lib.hid (show addB d n key = true from by simp [addB, hd, hd2])
          go_wp2_with (go_at_call 47; refine (specKeyOk _ (keyAddS d n key) _ hIS lS).mono ?_; rintro e w5 ⟨rfl, b5⟩; rw [hd2]; have x5 := xS.trans (b5.mono xS.size); have z5 := b5.size; rw [zS] at z5; obtain ⟨hc, hf⟩ := bcell b5; have sA0 := (hc w.heap.size 0 (by rw [zS]; omega)).trans tA0; have sA1 := (hc w.heap.size 1 (by rw [zS]; omega)).trans tA1; have sA2 := (hc w.heap.size 2 (by rw [zS]; omega)).trans tA2; have sX0 := (hc w2.heap.size 0 (by rw [zS]; omega)).trans tX0; have sX1 := (hc w2.heap.size 1 (by rw [zS]; omega)).trans tX1; have sX2 := (hc w2.heap.size 2 (by rw [zS]; omega)).trans tX2; have sR0 := (hc (w.heap.size + 1) 0 (by rw [zS]; omega)).trans tR0; have sR1 := (hc (w.heap.size + 1) 1 (by rw [zS]; omega)).trans tR1; have sR2 := (hc (w.heap.size + 1) 2 (by rw [zS]; omega)).trans tR2; have sRf := fun o => (hf (w.heap.size + 1) o (by rw [zS]; omega)).trans (tRf o); clear hc hf tA0 tA1 tA2 tR0 tR1 tR2 tX0 tX1 tX2 tRf yA0 yA1 yA2 yX0 yX1 yX2 yR0 yR1 yR2 yXf yRf)
          go_wp2
          refine bodyPost_ret (v := .tuple #[.agg #[.string d.master, .slice oo (addS d.slots n key).length co, .int .i64 d.wiped], .bool true]) (by simp [results, Try.results44, go_sem, sX0, sX1, sX2, sR0, sR1, sR2, neR', neR'']) rfl ?_
          rw [HR.out, HB.out]
          refine ⟨_, rfl, ?_, ?_⟩
          · refine ⟨_, rfl, Row.up (lo' := w2.heap.size + 1) (n := (addS d.slots n key).length) ?_ rfl (by omega)⟩
            repeat (refine own_other ?_ _ (by simp <;> omega) _)
            exact own_below oS b5
          · repeat (refine Below.setCell ?_ (by simp <;> omega) _)
            exact x5
theorem specKeyAdd (d : KeyDevR) (n : Int) (key : ByteArray) (ad : Option Addr) (cap : Nat) (w : World) (h0 : SlT SlotR.cells 2 w (.slice ad d.slots.length cap) d.slots) (l0 : (d.slots.length : Int) ≤ 1048576) :
    Calls Try.prog 44 #[.agg #[.string d.master, .slice ad d.slots.length cap, .int .i64 d.wiped], .int .i64 n, .string key] w fun e w' => ∃ v', e = .returned (.tuple #[v', .bool (addB d n key)]) ∧ IsKeyDev w' v' (keyAdd d n key) ∧ Below w.heap.size w w' := by
  refine (specKeyAdd_row d n key ad cap w h0 l0).mono ?_
  rintro e w' ⟨v', he, hr, hb⟩
  exact ⟨v', he, hr.is, hb⟩
end Go.Proofs.Ytfbbdnicplbmdaa
