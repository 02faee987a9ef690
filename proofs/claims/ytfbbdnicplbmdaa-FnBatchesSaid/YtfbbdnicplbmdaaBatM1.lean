
/- Walks: ShowBatch of both sides. -/
import Derived.Test.YtfbbdnicplbmdaaDrawW
import Derived.Lib.AppendIntMem
import Derived.Deep.RegionLaw
import Derived.Deep.RegionHeld
import Derived.Lib.Hide
import Derived.Test.YtfbbdnicplbmdaaBatchW
import Derived.Test.YtfbbdnicplbmdaaExt
import Derived.Test.YtfbbdnicplbmdaaShelf
import Derived.Test.YtfbbdnicplbmdaaRow
import Derived.Deep.DeepCutAuto
import Derived.BigQuiet
import Derived.Lib.QuietBelow
import Derived.Test.YtfbbdnicplbmdaaDelK
import Derived.Test.YtfbbdnicplbmdaaIKV
import Derived.Test.YtfbbdnicplbmdaaCKV
import Derived.Test.YtfbbdnicplbmdaaMapS
import Derived.Test.YtfbbdnicplbmdaaBx
import Derived.Test.YtfbbdnicplbmdaaApp
import Derived.Test.YtfbbdnicplbmdaaTypes
import Derived.Test.YtfbbdnicplbmdaaLaws
import Derived.Lib.Builder
import Derived.Lib.AppendStr
import Derived.Lib.UnsafeStr
import Derived.Laws.Externs
import Derived.WalkKit
import Derived.WalkSpells
import Derived.WalkLawsBesides
import Derived.Test.YtfbbdnicplbmdaaPieW
/- Walks: the draws' helpers: a number below another one, once in n, one of a list. -/
set_option linter.unusedVariables false
set_option linter.unusedSimpArgs false
namespace Go.Proofs.Ytfbbdnicplbmdaa
open Go.RowKit Sp Go.Sort
theorem grown2 {a b c : World} {r : Option Nat} (h : a.grownBy b r) (k : b.grownBy c r) : a.grownBy c r :=
  ⟨k.os.trans h.os, k.tape.trans h.tape, k.output.trans h.output, Nat.le_trans h.size k.size, fun i hi hne => (k.block i (Nat.lt_of_lt_of_le hi h.size) hne).trans (h.block i hi hne)⟩
theorem wrap_small (s : Nat) (h : (s : Int) ≤ 4611686018427387904) : wrap64 (s : Int) = s := by unfold wrap64; omega
theorem wrap_i64_small (s : Nat) (h : (s : Int) ≤ 4611686018427387904) : IntKind.i64.wrap (s : Int) = s := by rw [IntKind.wrap_i64]; omega
theorem combI (x y z u : Int) (hx : 0 ≤ x ∧ x ≤ 255) (hy : 0 ≤ y ∧ y ≤ 255) (hz : 0 ≤ z ∧ z ≤ 255) (hu : 0 ≤ u ∧ u ≤ 255) :
    0 ≤ x * 16777216 + y * 65536 + z * 256 + u ∧ x * 16777216 + y * 65536 + z * 256 + u ≤ 4611686018427387904 ∧
    IntKind.i64.wrap (x * 16777216) = x * 16777216 ∧ IntKind.i64.wrap (y * 65536) = y * 65536 ∧ IntKind.i64.wrap (z * 256) = z * 256 ∧
    IntKind.i64.wrap (x * 16777216 + y * 65536) = x * 16777216 + y * 65536 ∧ IntKind.i64.wrap (x * 16777216 + y * 65536 + z * 256) = x * 16777216 + y * 65536 + z * 256 := by
  simp only [IntKind.wrap_i64]
  omega
theorem comb (x y z u : Nat) (hx : (x : Int) ≤ 255) (hy : (y : Int) ≤ 255) (hz : (z : Int) ≤ 255) (hu : (u : Int) ≤ 255) :
    ∃ s : Nat, (x : Int) * 16777216 + (y : Int) * 65536 + (z : Int) * 256 + (u : Int) = (s : Int) ∧ (s : Int) ≤ 4611686018427387904 ∧
    IntKind.i64.wrap ((x : Int) * 16777216) = (x : Int) * 16777216 ∧ IntKind.i64.wrap ((y : Int) * 65536) = (y : Int) * 65536 ∧ IntKind.i64.wrap ((z : Int) * 256) = (z : Int) * 256 ∧
    IntKind.i64.wrap ((x : Int) * 16777216 + (y : Int) * 65536) = (x : Int) * 16777216 + (y : Int) * 65536 ∧ IntKind.i64.wrap ((x : Int) * 16777216 + (y : Int) * 65536 + (z : Int) * 256) = (x : Int) * 16777216 + (y : Int) * 65536 + (z : Int) * 256 := by
  obtain ⟨h1, h2, h3⟩ := combI x y z u ⟨Int.natCast_nonneg _, hx⟩ ⟨Int.natCast_nonneg _, hy⟩ ⟨Int.natCast_nonneg _, hz⟩ ⟨Int.natCast_nonneg _, hu⟩
  obtain ⟨s, hs⟩ := Int.eq_ofNat_of_zero_le h1
  exact ⟨s, hs, by rw [← hs]; exact h2, h3⟩
theorem tmod_nat (x m : Nat) : Int.tmod (x : Int) (m : Int) = ((x % m : Nat) : Int) := rfl

set_option maxRecDepth 100000 in
set_option maxHeartbeats 800000 in
theorem l1Below_any (b : Nat) (w0 : World) (v : Value) (xs : List UInt8) (n : Int) (hn : n ≤ 4611686018427387904) (w : World) (h : Cu w b w0 v xs) :
    Calls Try.prog 66 #[.pointer (some ⟨b, 0, none⟩), .int .i64 n] w fun e w' => ∃ x : Nat, e = .returned (.int .i64 x) ∧ (0 < n → (x : Int) < n) ∧ (n ≤ 0 → x = 0) ∧ Cu w' b w0 v xs ∧ w.grownBy w' (some b) := by
  by_cases h0 : n ≤ 0
  · go_enter Try.func66, Try.ntmps66
    go_wp2
    go_ret
    exact ⟨0, rfl, fun h => by omega, fun _ => rfl, h, World.grownBy.refl _ _⟩
  · obtain ⟨m, rfl⟩ : ∃ m : Nat, n = (m : Int) := ⟨n.toNat, by omega⟩
    have hm : (m : Int) ≠ 0 := by omega
    by_cases h1 : (m : Int) ≤ 256
    · go_enter Try.func66, Try.ntmps66
      go_wp2_with fail
      refine (l1Byte_any b w0 v xs _ h).mono ?_
      rintro e w1 ⟨x, rfl, hx, c1, g1⟩
      have HT := tmod_nat x m
      have hlt : x % m < m := Nat.mod_lt _ (by omega)
      generalize x % m = r at *
      go_wp2
      go_ret
      exact ⟨r, rfl, fun _ => by omega, fun h => by omega, c1, g1⟩
    · go_enter Try.func66, Try.ntmps66
      go_wp2_with fail
      refine (l1Byte_any b w0 v xs _ h).mono ?_
      rintro e w1 ⟨x, rfl, hx, c1, g1⟩
      go_wp2_with fail
      refine (l1Byte_any b w0 v xs _ c1).mono ?_
      rintro e w2 ⟨y, rfl, hy, c2, g2⟩
      go_wp2_with fail
      refine (l1Byte_any b w0 v xs _ c2).mono ?_
      rintro e w3 ⟨z, rfl, hz, c3, g3⟩
      go_wp2_with fail
      refine (l1Byte_any b w0 v xs _ c3).mono ?_
      rintro e w4 ⟨u, rfl, hu, c4, g4⟩
      obtain ⟨s, hs, hs2, W1, W2, W3, W4, W5⟩ := comb x y z u hx hy hz hu
      have W6 := wrap_i64_small s hs2
      have W7 := wrap_small s hs2
      have HT := tmod_nat s m
      have hlt : s % m < m := Nat.mod_lt _ (by omega)
      generalize s % m = r at *
      go_wp2
      go_ret
      exact ⟨r, rfl, fun _ => by omega, fun h => by omega, c4, grown2 (grown2 (grown2 g1 g2) g3) g4⟩

set_option maxRecDepth 100000 in
set_option maxHeartbeats 800000 in
theorem l1Once_any (b : Nat) (w0 : World) (v : Value) (xs : List UInt8) (n : Int) (hn : n ≤ 4611686018427387904) (w : World) (h : Cu w b w0 v xs) :
    Calls Try.prog 88 #[.pointer (some ⟨b, 0, none⟩), .int .i64 n] w fun e w' => ∃ x : Bool, e = .returned (.bool x) ∧ Cu w' b w0 v xs ∧ w.grownBy w' (some b) := by
  go_enter Try.func88, Try.ntmps88
  go_wp2_with fail
  refine (l1Below_any b w0 v xs n hn _ h).mono ?_
  rintro e w1 ⟨x, rfl, _, _, c1, g1⟩
  go_wp2
  go_ret
  exact ⟨_, rfl, c1, g1⟩

theorem lit_slT {α : Type} (enc : α → List Value) (cs : Array Value) (l : List α) (n : Nat) (W : World) (T : TypeId) (hl : (l.map enc).flatten = cs.toList) (h1 : ∀ x, (enc x).length = 1) (hc : cs.size = n * 1) (hn : n ≤ 1000) : SlT enc 1 (W.alloc (.cells cs T)) (.slice (some ⟨W.heap.size, 0, none⟩) n n) l := by
  have h := World.ownsRow_lit (base := W.heap.size) (e := T) (size := 1) W cs n (Nat.le_refl _) (by simp only [maxLen]; omega) hc
  rw [← hl] at h
  exact SlT.of_own h h1 (by decide)
/-- One of a list of numbers. -/
def intC (x : Int) : List Value := [.int .i64 x]
set_option maxRecDepth 100000 in
set_option maxHeartbeats 800000 in
theorem l1PickInt_any (b : Nat) (w0 : World) (v : Value) (xs : List UInt8) (w : World) (h : Cu w b w0 v xs) (vl : Value) (l : List Int) (hl : SlT intC 1 w vl l) (hb : ∀ a n c, vl = .slice (some a) n c → 0 < n → a.block ≠ b) (h0 : 0 < l.length) (hl2 : (l.length : Int) ≤ 1000) :
    Calls Try.prog 120 #[.pointer (some ⟨b, 0, none⟩), vl] w fun e w' => ∃ x, x ∈ l ∧ e = .returned (.int .i64 x) ∧ Cu w' b w0 v xs ∧ w.grownBy w' (some b) := by
  obtain ⟨ao, cap, rfl, hlc, hcm, hsh⟩ := hl.shape
  go_enter Try.func120, Try.ntmps120
  go_wp2_with fail
  refine (l1Below_any b w0 v xs (l.length : Int) (by omega) _ h).mono ?_
  rintro e w1 ⟨k, rfl, hk, _, c1, g1⟩
  have hk := hk (by omega)
  have hkl : k < l.length := by omega
  obtain ⟨gb, off, rfl, hgl, hcell⟩ := hsh h0
  have ce : w1.cell? ⟨gb, off + k, none⟩ = some (.int .i64 l[k]) := by
    have := hcell k hkl 0 (.int .i64 l[k]) rfl
    rw [Nat.mul_one, Nat.add_zero] at this
    exact ((gcell g1 (b := gb) hgl (by intro e; exact hb _ _ _ rfl h0 (Option.some.inj e).symm)).1 _).trans this
  go_wp2
  go_ret
  exact ⟨_, List.getElem_mem hkl, rfl, c1, g1⟩

set_option maxRecDepth 100000 in
set_option maxHeartbeats 800000 in
theorem l1Pick_any (b : Nat) (w0 : World) (v : Value) (xs : List UInt8) (w : World) (h : Cu w b w0 v xs) (vl : Value) (l : List ByteArray) (hl : SlT strCells 1 w vl l) (hb : ∀ a n c, vl = .slice (some a) n c → 0 < n → a.block ≠ b) (h0 : 0 < l.length) (hl2 : (l.length : Int) ≤ 1000) :
    Calls Try.prog 136 #[.pointer (some ⟨b, 0, none⟩), vl] w fun e w' => ∃ x, x ∈ l ∧ e = .returned (.string x) ∧ Cu w' b w0 v xs ∧ w.grownBy w' (some b) := by
  obtain ⟨ao, cap, rfl, hlc, hcm, hsh⟩ := hl.shape
  go_enter Try.func136, Try.ntmps136
  go_wp2_with fail
  refine (l1Below_any b w0 v xs (l.length : Int) (by omega) _ h).mono ?_
  rintro e w1 ⟨k, rfl, hk, _, c1, g1⟩
  have hk := hk (by omega)
  have hkl : k < l.length := by omega
  obtain ⟨gb, off, rfl, hgl, hcell⟩ := hsh h0
  have ce : w1.cell? ⟨gb, off + k, none⟩ = some (.string l[k]) := by
    have := hcell k hkl 0 (.string l[k]) rfl
    rw [Nat.mul_one, Nat.add_zero] at this
    exact ((gcell g1 (b := gb) hgl (by intro e; exact hb _ _ _ rfl h0 (Option.some.inj e).symm)).1 _).trans this
  go_wp2
  go_ret
  exact ⟨_, List.getElem_mem hkl, rfl, c1, g1⟩
end Go.Proofs.Ytfbbdnicplbmdaa
/- Walks: the draws' text, and a new cursor. -/
set_option linter.unusedVariables false
set_option linter.unusedSimpArgs false
namespace Go.Proofs.Ytfbbdnicplbmdaa
open Go.RowKit Sp Go.Sort
/-- What grows a block of one's own, or lays new ones, leaves the rest alone. -/
theorem grown_own {w a c : World} {b : Nat} {r : Option Nat} (h : w.grownBy a (some b)) (k : a.grownBy c r) (hr : ∀ g, r = some g → w.heap.size ≤ g) : w.grownBy c (some b) :=
  ⟨k.os.trans h.os, k.tape.trans h.tape, k.output.trans h.output, Nat.le_trans h.size k.size, fun i hi hne => (k.block i (Nat.lt_of_lt_of_le hi h.size) (fun e => by have := hr i e.symm; omega)).trans (h.block i hi hne)⟩
theorem grown_below {w a c : World} {r : Option Nat} (h : w.grownBy a r) (k : Below a.heap.size a c) : w.grownBy c r :=
  ⟨k.os.trans h.os, k.tape.trans h.tape, k.output.trans h.output, Nat.le_trans h.size k.size, fun i hi hne => (k.block i (Nat.lt_of_lt_of_le hi h.size)).trans (h.block i hi hne)⟩
theorem Cu.old_le {w : World} {b : Nat} {w0 : World} {v : Value} {xs : List UInt8} (h : Cu w b w0 v xs) : w0.heap.size ≤ w.heap.size := h.bel.size

theorem own_slD {w : World} {base e size n : Nat} {v : Value} {xs : List Value} (h : w.ownsRow base e size v n xs) (hn : 0 < n) : ∃ g cap, v = .slice (some ⟨g, 0, none⟩) n cap := by
  rcases h.2 with ⟨_, h0⟩ | ⟨g, cap, cur, hv, _⟩
  · omega
  · exact ⟨g, cap, hv⟩
theorem own_form {w : World} {base e size n : Nat} {v : Value} {xs : List Value} (h : w.ownsRow base e size v n xs) : ∃ ao cp, v = .slice ao n cp := by
  rcases h.2 with ⟨h1, h2⟩ | ⟨g, cap, cur, hv, _⟩
  · exact ⟨none, 0, by rw [h1, h2]⟩
  · exact ⟨_, cap, hv⟩
theorem own_byte {w : World} {base e n : Nat} {v : Value} {l : List UInt8} {z : Int} (h : w.ownsRow base e 1 v n (l.map B ++ #[Value.int .u8 z].toList)) (hz : 0 ≤ z ∧ z ≤ 255) : w.ownsRow base e 1 v n ((l ++ [UInt8.ofNat z.toNat]).map B) := by
  rw [List.map_append, List.map_singleton, B_ofNat, Int.toNat_of_nonneg hz.1, Int.emod_eq_of_lt hz.1 (by omega)]
  exact h

set_option maxRecDepth 100000 in
set_option maxHeartbeats 800000 in
theorem l1Text_any (b : Nat) (w0 : World) (v : Value) (xs : List UInt8) (most : Nat) (hm : (most : Int) ≤ 1000) (w : World) (h : Cu w b w0 v xs) :
    Calls Try.prog 151 #[.pointer (some ⟨b, 0, none⟩), .int .i64 most] w fun e w' => ∃ t : ByteArray, e = .returned (.string t) ∧ (t.size : Int) ≤ most ∧ Cu w' b w0 v xs ∧ w.grownBy w' (some b) := by
  have hlt := h.lt
  have hle := h.old_le
  have hal : ∀ (W : World) (o : Obj), RowKit.Below W.heap.size W (W.alloc o) := fun W o => (Below.refl _ _).alloc (Nat.le_refl _) _
  have h0 : (w.alloc (.cells #[] 5)).ownsRow w.heap.size 5 1 (.slice (some ⟨w.heap.size, 0, none⟩) 0 0) 0 (([] : List UInt8).map B) := World.ownsRow_lit w #[] 0 (Nat.le_refl _) (by simp [maxLen]) rfl
  have c0 := h.below (hal w (.cells #[] 5))
  have g0 := grown_below (World.grownBy.refl w (some b)) (hal w (.cells #[] 5))
  have M1 : IntKind.i64.wrap ((most : Int) + 1) = (most : Int) + 1 := by rw [IntKind.wrap_i64]; omega
  go_enter Try.func151, Try.ntmps151
  go_wp2_with fail
  refine (l1Below_any b w0 v xs 4 (by decide) _ c0).mono ?_
  rintro e w1 ⟨st, rfl, hst, _, c1, g1⟩
  have o1 := own_grown h0 g1 (fun k hk e => by have := (h0.lt _ hk).1; have := Option.some.inj e; omega)
  have q1 := grown2 g0 g1
  go_wp2_with fail
  refine (l1Below_any b w0 v xs ((most : Int) + 1) (by omega) _ c1).mono ?_
  rintro e w2 ⟨n0, rfl, hn0, _, c2, g2⟩
  have o2 := own_grown o1 g2 (fun k hk e => by have := (o1.lt _ hk).1; have := Option.some.inj e; omega)
  have q2 := grown2 q1 g2
  have hn0 := hn0 (by omega)
  have hst := hst (by decide)
  clear h0 c0 g0 c1 g1 o1 q1 g2
  go_wp2_with fail
  go_loopw [5, 7] (fun o n wr => ∃ (r : Nat) (l : List UInt8) (kk : Nat), n = .int .i64 r ∧ RowKit.Hid (l.length = kk) ∧ wr.ownsRow w.heap.size 5 1 o kk (l.map B) ∧ kk + r ≤ most ∧ Cu wr b w0 v xs ∧ w.grownBy wr (some b)) (fun _ n _ => (intOf n).toNat)
  case atStart => exact ⟨n0, [], 0, rfl, rfl, o2, by omega, c2, q2⟩
  case round =>
    clear o2 c2 q2
    obtain ⟨r, l, kk, rfl, hkl, ho, hr, c3, q3⟩ := hrel
    by_cases hr0 : 0 < r
    · have R1 : IntKind.i64.wrap ((r : Int) - 1) = ((r - 1 : Nat) : Int) := by rw [IntKind.wrap_i64]; omega
      go_wp2_with fail
      refine (l1Byte_any b w0 v xs _ c3).mono ?_
      rintro e w4 ⟨x, rfl, hx, c4, g4⟩
      have o4 := own_grown ho g4 (fun k hk e => by have := (ho.lt _ hk).1; have := Option.some.inj e; omega)
      have q4 := grown2 q3 g4
      have T2 := tmod_nat x 2
      have T4 := tmod_nat x 4
      rcases (by omega : st = 1 ∨ st = 2 ∨ (st ≠ 1 ∧ st ≠ 2)) with rfl | rfl | ⟨s1, s2⟩
      · skip
        go_wp2_with (at_builtin; go_loud (refine app_new rfl rfl Try.underlying22 info_u8 rfl (by decide) o4 rfl 1 (by simp [Act.eval]) rfl (by simp [Value.oneCell']) (by omega) (Below.refl w.heap.size w4) (Nat.le_refl _) q4.size ?_; intro v8 w8 r8 x8 g8))
        have c8 := c4.grown g8 (fun e => by have := (o4.lt _ e).1; omega) (fun k e => by have := (o4.lt _ e).1; omega)
        have q8 := grown_own q4 g8 (fun k e => (o4.lt _ e).1)
        have r9 := own_byte r8 (by omega)
        obtain ⟨gg, cap, rfl⟩ := own_slD r9 (by omega)
        go_roundw
        case rel => exact ⟨r - 1, rfl, l ++ [UInt8.ofNat ((x : Int) % 2 : Int).toNat], kk + 1, (by rw [List.length_append, hkl.out]; rfl), r9, by omega, c8, q8⟩
        case measure => simp [intOf]; omega
      · skip
        go_wp2_with (at_builtin; go_loud (refine app_new rfl rfl Try.underlying22 info_u8 rfl (by decide) o4 rfl 1 (by simp [Act.eval]) rfl (by simp [Value.oneCell']) (by omega) (Below.refl w.heap.size w4) (Nat.le_refl _) q4.size ?_; intro v8 w8 r8 x8 g8))
        have c8 := c4.grown g8 (fun e => by have := (o4.lt _ e).1; omega) (fun k e => by have := (o4.lt _ e).1; omega)
        have q8 := grown_own q4 g8 (fun k e => (o4.lt _ e).1)
        have r9 := own_byte r8 (by omega)
        obtain ⟨gg, cap, rfl⟩ := own_slD r9 (by omega)
        go_roundw
        case rel => exact ⟨r - 1, rfl, l ++ [UInt8.ofNat (97 + (x : Int) % 4 : Int).toNat], kk + 1, (by rw [List.length_append, hkl.out]; rfl), r9, by omega, c8, q8⟩
        case measure => simp [intOf]; omega
      · have s1' : ¬ (st : Int) = 1 := by omega
        have s2' : ¬ (st : Int) = 2 := by omega
        go_wp2_with (at_builtin; go_loud (refine app_new rfl rfl Try.underlying22 info_u8 rfl (by decide) o4 rfl 1 (by simp [Act.eval]) rfl (by simp [Value.oneCell']) (by omega) (Below.refl w.heap.size w4) (Nat.le_refl _) q4.size ?_; intro v8 w8 r8 x8 g8))
        have c8 := c4.grown g8 (fun e => by have := (o4.lt _ e).1; omega) (fun k e => by have := (o4.lt _ e).1; omega)
        have q8 := grown_own q4 g8 (fun k e => (o4.lt _ e).1)
        have r9 := own_byte r8 (by omega)
        obtain ⟨gg, cap, rfl⟩ := own_slD r9 (by omega)
        go_roundw
        case rel => exact ⟨r - 1, l ++ [UInt8.ofNat ((x : Int) : Int).toNat], kk + 1, rfl, (by rw [List.length_append, hkl.out]; rfl), r9, by omega, c8, q8⟩
        case measure => simp [intOf]; omega
    · obtain rfl : r = 0 := by omega
      have kc := conv_owns (P := Try.prog) (dst := 9) ho Try.underlying22 Try.underlying5 Try.underlying9
      go_wp2
      go_ret
      exact ⟨str l, rfl, by rw [str_size]; have := hkl.out; omega, c3, q3⟩

theorem and_in (a c : Int) : inI64 (bits .and .i64 a c) := by
  show inI64 (IntKind.i64.wrap _)
  rw [IntKind.wrap_i64]
  unfold inI64; omega
set_option maxRecDepth 100000 in
set_option maxHeartbeats 800000 in
theorem l1New_any (v : Value) (xs : List UInt8) (w : World) (h : SlT bytC 1 w v xs) (hs : (xs.length : Int) ≤ 1048576) :
    Calls Try.prog 63 #[v] w fun e w' => ∃ b, e = .returned (.pointer (some ⟨b, 0, none⟩)) ∧ Cu w' b w v xs ∧ Below w.heap.size w w' := by
  obtain ⟨ao, cap, rfl, hlc, hcm, hsh⟩ := h.shape
  have hal : ∀ (W : World) (o : Obj), RowKit.Below W.heap.size W (W.alloc o) := fun W o => (Below.refl _ _).alloc (Nat.le_refl _) _
  go_enter Try.func63, Try.ntmps63
  go_wp2
  go_loopw [3, 4] (fun hv i wr => ∃ (k : Nat) (z : Int), hv = .int .i64 z ∧ inI64 z ∧ i = .int .i64 k ∧ k ≤ xs.length ∧ (k : Int) ≤ 4000 ∧ wr = w) (fun _ i _ => 4000 - (intOf i).toNat)
  case atStart => exact ⟨0, 10101 + xs.length, rfl, ⟨by omega, by omega⟩, rfl, by omega, by omega, rfl⟩
  case round =>
    obtain ⟨k, z, rfl, hz, rfl, hk, hk4, rfl⟩ := hrel
    by_cases hgo : k < xs.length ∧ k < 4000
    · obtain ⟨g1, g2⟩ := hgo
      obtain ⟨gb, off, rfl, hgl, hcell⟩ := hsh (by omega)
      have ce : wr.cell? ⟨gb, off + k, none⟩ = some (.int .u8 (xs[k].toNat : Int)) := by
        have := hcell k g1 0 (B xs[k]) rfl
        rwa [Nat.mul_one, Nat.add_zero] at this
      have K1 : IntKind.i64.wrap ((k : Int) + 1) = ((k + 1 : Nat) : Int) := by rw [IntKind.wrap_i64]; omega
      go_wp2
      go_roundw
      case rel => exact ⟨k + 1, _, rfl, and_in _ _, by go_num, g1, by omega, trivial⟩
      case measure => simp [intOf]; omega
    · have hgo2 : (k : Int) < xs.length → ¬ (k : Int) < 4000 := fun h1 h2 => hgo ⟨by omega, by omega⟩
      go_wp2
      all_goals
        go_ret
        exact ⟨_, rfl, ⟨⟨0, z, Bx.new wr _ _, Nat.zero_le _, hz⟩, h, hal _ _, Nat.le_refl _, hs⟩, hal _ _⟩
end Go.Proofs.Ytfbbdnicplbmdaa
/- Walks: the draws' keys; one of a literal list; a store into one element of a row of one's own. -/
set_option linter.unusedVariables false
set_option linter.unusedSimpArgs false
namespace Go.Proofs.Ytfbbdnicplbmdaa
open Go.RowKit Sp Go.Sort
theorem below_drew (W : World) : Below W.heap.size W W.drew := (Below.refl _ _).drew
theorem hal2 (W : World) (o : Obj) : RowKit.Below W.heap.size W (W.alloc o) := (Below.refl _ _).alloc (Nat.le_refl _) _
theorem grown_far {w W : World} {r : Option Nat} (h : w.grownBy W r) (p : Addr) (u : Value) (hp : w.heap.size ≤ p.block) : w.grownBy (W.setCell p u) r :=
  ⟨h.os, h.tape, h.output, by simp [World.setCell]; exact h.size, fun k hk hne => (Below.heap_setCell _ _ _ _ (by omega)).trans (h.block k hk hne)⟩
/-- One of a literal list of texts. -/
theorem pickLit (b : Nat) (w0 : World) (v : Value) (xs : List UInt8) (w : World) (h : Cu w b w0 v xs) (cs : Array Value) (l : List ByteArray) (n : Nat) (T : TypeId) (hl : (l.map strCells).flatten = cs.toList) (hc : cs.size = n * 1) (hn : n ≤ 1000) (h0 : 0 < l.length) (hl2 : l.length = n) :
    Calls Try.prog 136 #[.pointer (some ⟨b, 0, none⟩), .slice (some ⟨w.heap.size, 0, none⟩) n n] (w.alloc (.cells cs T)) fun e w' => ∃ x, x ∈ l ∧ e = .returned (.string x) ∧ Cu w' b w0 v xs ∧ w.grownBy w' (some b) := by
  have hb := h.lt
  refine (l1Pick_any b w0 v xs _ (h.below (hal2 w _)) _ l (lit_slT strCells cs l n w T hl (fun _ => rfl) hc hn) (fun a n c e _ => by simp only [Value.slice.injEq, Option.some.injEq] at e; rw [← e.1]; show w.heap.size ≠ b; omega) h0 (by omega)).mono ?_
  rintro e w' ⟨x, hx, rfl, hc, hg⟩
  exact ⟨x, hx, rfl, hc, grown2 (grown_below (World.grownBy.refl _ _) (hal2 w _)) hg⟩
theorem pickIntLit (b : Nat) (w0 : World) (v : Value) (xs : List UInt8) (w : World) (h : Cu w b w0 v xs) (cs : Array Value) (l : List Int) (n : Nat) (T : TypeId) (hl : (l.map intC).flatten = cs.toList) (hc : cs.size = n * 1) (hn : n ≤ 1000) (h0 : 0 < l.length) (hl2 : l.length = n) :
    Calls Try.prog 120 #[.pointer (some ⟨b, 0, none⟩), .slice (some ⟨w.heap.size, 0, none⟩) n n] (w.alloc (.cells cs T)) fun e w' => ∃ x, x ∈ l ∧ e = .returned (.int .i64 x) ∧ Cu w' b w0 v xs ∧ w.grownBy w' (some b) := by
  have hb := h.lt
  refine (l1PickInt_any b w0 v xs _ (h.below (hal2 w _)) _ l (lit_slT intC cs l n w T hl (fun _ => rfl) hc hn) (fun a n c e _ => by simp only [Value.slice.injEq, Option.some.injEq] at e; rw [← e.1]; show w.heap.size ≠ b; omega) h0 (by omega)).mono ?_
  rintro e w' ⟨x, hx, rfl, hc, hg⟩
  exact ⟨x, hx, rfl, hc, grown2 (grown_below (World.grownBy.refl _ _) (hal2 w _)) hg⟩

set_option maxRecDepth 100000 in
set_option maxHeartbeats 800000 in
theorem l7Key_any (b : Nat) (w0 : World) (v : Value) (xs : List UInt8) (w : World) (h : Cu w b w0 v xs) :
    Calls Try.prog 65 #[.pointer (some ⟨b, 0, none⟩)] w fun e w' => ∃ x : ByteArray, e = .returned (.string x) ∧ (x.size : Int) ≤ 3 ∧ Cu w' b w0 v xs ∧ w.grownBy w' (some b) := by
  go_enter Try.func65, Try.ntmps65
  go_wp2_with fail
  refine (pickLit b w0 v xs w h _ [⟨#[97]⟩, ⟨#[98]⟩, ⟨#[97, 98]⟩, ⟨#[97, 98, 99]⟩, ⟨#[98, 48]⟩, ⟨#[99]⟩, ⟨#[0]⟩, ⟨#[122, 122]⟩] 8 _ rfl rfl (by decide) (by decide) rfl).mono ?_
  rintro e w' ⟨x, hx, rfl, hc, hg⟩
  go_wp2
  go_ret
  refine ⟨x, rfl, ?_, hc, hg⟩
  simp only [List.mem_cons, List.not_mem_nil, or_false] at hx
  rcases hx with rfl | rfl | rfl | rfl | rfl | rfl | rfl | rfl <;> decide

theorem rec_set {α : Type} {enc : α → List Value} {size : Nat} (hs : ∀ x, (enc x).length = size) (l : List α) (k : Nat) (hk : k < l.length) (j : Nat) (hj : j < size) (u : Value) (e : α) (h : (enc l[k]).set j u = enc e) :
    (l.map enc).flatten.set (k * size + j) u = ((l.set k e).map enc).flatten := by
  rw [flat_set (l.map enc) (fun c hc => by obtain ⟨x, _, rfl⟩ := List.mem_map.1 hc; exact hs x) k (by simpa using hk) j hj u, List.map_set]
  congr 2
  simpa using h
/-- A cell of one element of a row of one's own is there, may be written, and the row is then the list with that element. -/
theorem own_put {α : Type} {enc : α → List Value} {size : Nat} (hs : ∀ x, (enc x).length = size) {W : World} {base T g cap : Nat} {l : List α} (h : W.ownsRow base T size (.slice (some ⟨g, 0, none⟩) l.length cap) l.length (l.map enc).flatten) (k : Nat) (hk : k < l.length) (j : Nat) (hj : j < size) (u : Value) (e : α) (he : (enc l[k]).set j u = enc e) :
    (∃ z, W.cell? ⟨g, k * size + j, none⟩ = some z ∧ (enc l[k])[j]? = some z) ∧ W.frozen? ⟨g, k * size + j, none⟩ = false ∧ (W.setCell ⟨g, k * size + j, none⟩ u).ownsRow base T size (.slice (some ⟨g, 0, none⟩) (l.set k e).length cap) (l.set k e).length ((l.set k e).map enc).flatten := by
  refine ⟨?_, h.frozenAt _, ?_⟩
  · have hl : j < (enc l[k]).length := by rw [hs]; exact hj
    refine ⟨(enc l[k])[j], ?_, List.getElem?_eq_getElem hl⟩
    have hb : k * size + j < l.length * size := by
      have := Nat.mul_le_mul_right size (Nat.succ_le_of_lt hk)
      rw [Nat.succ_mul] at this
      omega
    rw [h.cellAt _ hb]
    exact flat_at (l.map enc) (fun c hc => by obtain ⟨x, _, rfl⟩ := List.mem_map.1 hc; exact hs x) k (enc l[k]) (by simp [hk]) j _ (List.getElem?_eq_getElem hl)
  · have := (h.stored (k * size + j) u).1
    rw [rec_set hs l k hk j hj u e he] at this
    rw [List.length_set]
    exact this

end Go.Proofs.Ytfbbdnicplbmdaa
/- Walks: the draws' spoilt text. -/
set_option linter.unusedVariables false
set_option linter.unusedSimpArgs false
namespace Go.Proofs.Ytfbbdnicplbmdaa
open Go.RowKit Sp Go.Sort

theorem hal3 (W : World) (o : Obj) : RowKit.Below W.heap.size W (W.alloc o) := (Below.refl _ _).alloc (Nat.le_refl _) _
theorem drew_grown {W W' : World} {r : Option Nat} (h : W.drew.grownBy W' r) : W.grownBy W' r := ⟨h.os, h.tape, h.output, h.size, h.block⟩
theorem below_drewS (W : World) : Below W.heap.size W W.drew := (Below.refl _ _).drew
set_option maxRecDepth 100000 in
set_option maxHeartbeats 1600000 in
theorem l1Spoil_any (b : Nat) (w0 : World) (v : Value) (xs : List UInt8) (s : ByteArray) (hs : (s.size : Int) ≤ 1000000) (w : World) (h : Cu w b w0 v xs) :
    Calls Try.prog 89 #[.pointer (some ⟨b, 0, none⟩), .string s] w fun e w' => ∃ t : ByteArray, e = .returned (.string t) ∧ (t.size : Int) ≤ 1048576 ∧ Cu w' b w0 v xs ∧ w.grownBy w' (some b) := by
  by_cases hz : s.size = 0
  · have hz' : (s.size : Int) = 0 := by omega
    go_enter Try.func89, Try.ntmps89
    go_wp2_with fail
    refine (l1Text_any b w0 v xs 3 (by decide) _ h).mono ?_
    rintro e w1 ⟨t, rfl, ht, c1, g1⟩
    go_wp2
    go_ret
    exact ⟨t, rfl, by omega, c1, g1⟩
  · have hz' : ¬ (s.size : Int) = 0 := by omega
    go_enter Try.func89, Try.ntmps89
    go_wp2_with fail
    refine (l1Below_any b w0 v xs (s.size : Int) (by omega) _ h).mono ?_
    rintro e w1 ⟨k, rfl, hk, _, c1, g1⟩
    have hk := hk (by omega)
    go_wp2_with fail
    refine (l1Below_any b w0 v xs 4 (by decide) _ c1).mono ?_
    rintro e w2 ⟨sw, rfl, hsw, _, c2, g2⟩
    have hsw := hsw (by decide)
    have q2 := grown2 g1 g2
    clear c1 g1 g2
    have K1 : IntKind.i64.wrap ((k : Int) + 1) = (k : Int) + 1 := by rw [IntKind.wrap_i64]; omega
    have K2 : ((k : Int) + 1).toNat = k + 1 := by omega
    have z1 : (s.extract 0 k).size = k := by rw [ByteArray.size_extract]; omega
    have z2 : (s.extract (k + 1) s.size).size = s.size - (k + 1) := by rw [ByteArray.size_extract]; omega
    have z3 : (s.extract k s.size).size = s.size - k := by rw [ByteArray.size_extract]; omega
    rcases (by omega : sw = 0 ∨ sw = 1 ∨ sw = 2 ∨ sw = 3) with rfl | rfl | rfl | rfl
    · have f1 : ¬ 9223372036854775807 < k + (s.size - (k + 1)) := by omega
      have f2 : (k : Int) ≤ s.size := by omega
      have f3 : (k : Int) + 1 ≤ s.size := by omega
      have f4 : (0 : Int) ≤ (k : Int) + 1 := by omega
      have c3 := c2.below (below_drewS w2)
      go_wp2_with fail
      go_region
      go_wp2
      go_ret
      exact ⟨_, rfl, by rw [ByteArray.size_append, z1, z2]; omega, c3, grown_drewN q2 1⟩
    · have f1 : ¬ 9223372036854775807 < k + 1 := by omega
      have f5 : ¬ 9223372036854775807 < k + 1 + (s.size - k) := by omega
      have f2 : (k : Int) ≤ s.size := by omega
      have c3 := c2.below (below_drewS w2)
      have hs1 : ∀ c : UInt8, (str [c]).size = 1 := fun _ => rfl
      have cv := fun W x => conv_one (P := Try.prog) (src := 22) (dst := 9) Try.underlying22 Try.underlying5 Try.underlying9 W x
      go_wp2_with fail
      go_region_with (go_at_call 137; refine (l1Byte_any b w0 v xs _ c3).mono ?_; rintro e w3 ⟨y, rfl, hy, c4, g4⟩)
      all_goals
        go_wp2
        go_ret
        exact ⟨_, rfl, by rw [ByteArray.size_append, ByteArray.size_append, z1, z3, hs1]; omega, c4.below (hal3 _ _), grown_below (grown2 q2 (drew_grown g4)) (hal3 _ _)⟩
    · have f2 : (k : Int) ≤ s.size := by omega
      go_wp2
      go_ret
      exact ⟨_, rfl, by rw [z1]; omega, c2, q2⟩
    · have f1 : ¬ 9223372036854775807 < k + 1 := by omega
      have f5 : ¬ 9223372036854775807 < k + 1 + (s.size - (k + 1)) := by omega
      have f2 : (k : Int) ≤ s.size := by omega
      have f3 : (k : Int) + 1 ≤ s.size := by omega
      have f4 : (0 : Int) ≤ (k : Int) + 1 := by omega
      have c3 := c2.below (below_drewS w2)
      have hs1 : ∀ c : UInt8, (str [c]).size = 1 := fun _ => rfl
      have cv := fun W x => conv_one (P := Try.prog) (src := 22) (dst := 9) Try.underlying22 Try.underlying5 Try.underlying9 W x
      go_wp2_with fail
      go_region_with (go_at_call 66; refine (l1Below_any b w0 v xs 255 (by decide) _ c3).mono ?_; rintro e w3 ⟨y, rfl, hy, _, c4, g4⟩)
      all_goals
        go_wp2
        go_ret
        exact ⟨_, rfl, by rw [ByteArray.size_append, ByteArray.size_append, z1, z2, hs1]; omega, c4.below (hal3 _ _), grown_below (grown2 q2 (drew_grown g4)) (hal3 _ _)⟩
end Go.Proofs.Ytfbbdnicplbmdaa
/- Plain: a map behind an operation. No program in sight. -/
set_option linter.unusedVariables false
set_option linter.unusedSimpArgs false
namespace Go.Proofs.Ytfbbdnicplbmdaa
open Sp
namespace Sp
def mapP (l : List KV) : Prop := (∀ x ∈ l, kvB x = true) ∧ l.Pairwise (fun a b => less a.key b.key = true)
theorem mapB_all {l : List KV} (h : mapB l = true) (k : Nat) (hk : k < l.length) : kvB l[k] = true := by
  have h1 := allIx_spec h k hk
  by_cases h0 : k = 0
  · rw [kvAt_first hk h0] at h1; exact h1
  · rw [kvAt_next hk h0 (by omega)] at h1; simp at h1; exact h1.1
theorem map_mono {l : List KV} (h : mapB l = true) {i j : Nat} (hij : i < j) (hj : j < l.length) : less (l[i]'(by omega)).key l[j].key = true := by
  induction j with
  | zero => omega
  | succ j ih =>
    have hs := allIx_spec h _ hj
    rw [kvAt_next hj (by omega) (by omega)] at hs
    simp only [Nat.add_sub_cancel, Bool.and_eq_true] at hs
    rcases Nat.lt_or_ge i j with hlt | hge
    · exact less_trans (ih hlt (by omega)) hs.2
    · obtain rfl : i = j := by omega
      exact hs.2
theorem mapB_P {l : List KV} (h : mapB l = true) : mapP l := by
  refine ⟨fun x hx => ?_, ?_⟩
  · obtain ⟨k, hk, rfl⟩ := List.getElem_of_mem hx
    exact mapB_all h k hk
  · rw [List.pairwise_iff_getElem]
    intro i j hi hj hij
    exact map_mono h hij hj
theorem mapP_B {l : List KV} (h : mapP l) : mapB l = true := by
  refine mapB_true fun k hk => ?_
  by_cases h0 : k = 0
  · rw [kvAt_first hk h0]; exact h.1 _ (List.getElem_mem _)
  · rw [kvAt_next hk h0 (by omega), h.1 _ (List.getElem_mem _), Bool.true_and]
    exact (List.pairwise_iff_getElem.1 h.2) _ _ _ _ (by omega)
/-- Where a key stands or would stand. -/
def posK : List KV → ByteArray → Nat
  | [], _ => 0
  | x :: l, k => if less x.key k then posK l k + 1 else 0
theorem posK_le : ∀ (l : List KV) (k : ByteArray), posK l k ≤ l.length
  | [], _ => Nat.le_refl _
  | x :: l, k => by unfold posK; have := posK_le l k; split <;> simp; omega
theorem posK_lt : ∀ (l : List KV) (k : ByteArray) (j : Nat) (hj : j < l.length), j < posK l k → less l[j].key k = true
  | [], _, j, hj, _ => by simp at hj
  | x :: l, k, 0, _, h => by unfold posK at h; split at h <;> first | omega | (rename_i hx; simpa using hx)
  | x :: l, k, j + 1, hj, h => by
    unfold posK at h
    split at h
    · simpa using posK_lt l k j (by simpa using hj) (by omega)
    · omega
theorem posK_at : ∀ (l : List KV) (k : ByteArray) (h : posK l k < l.length), less l[posK l k].key k = false
  | [], _, h => by simp at h
  | x :: l, k, h => by
    by_cases hx : less x.key k = true
    · have e1 : posK (x :: l) k = posK l k + 1 := by rw [posK, if_pos hx]
      simp only [e1] at h ⊢
      simpa using posK_at l k (by simpa using h)
    · have e1 : posK (x :: l) k = 0 := by rw [posK, if_neg hx]
      simp only [e1]
      simpa using hx
structure IsPosK (l : List KV) (k : ByteArray) (q : Nat) : Prop where
  le : q ≤ l.length
  lo : ∀ i (h : i < l.length), i < q → less l[i].key k = true
  hi : ∀ i (h : i < l.length), q ≤ i → less l[i].key k = false
theorem posK_eq {l : List KV} {k : ByteArray} {q : Nat} (h : IsPosK l k q) : posK l k = q := by
  rcases Nat.lt_trichotomy (posK l k) q with h1 | h1 | h1
  · have hlt : posK l k < l.length := by have := h.le; omega
    have h2 := posK_at l k hlt
    rw [h.lo _ hlt h1] at h2; cases h2
  · exact h1
  · have hlt : q < l.length := by have := posK_le l k; omega
    have h2 := posK_lt l k q hlt h1
    rw [h.hi _ hlt (Nat.le_refl _)] at h2; cases h2
theorem posK_is {l : List KV} (hm : mapB l = true) (k : ByteArray) : IsPosK l k (posK l k) := by
  refine ⟨posK_le l k, fun i h hi => posK_lt l k i h hi, fun i h hi => ?_⟩
  have hp : posK l k < l.length := by omega
  have h0 := posK_at l k hp
  rcases Nat.lt_or_ge (posK l k) i with hlt | hge
  · rcases hx : less l[i].key k with _ | _
    · rfl
    · have := less_trans (map_mono hm hlt h) hx
      rw [h0] at this; cases this
  · have e : i = posK l k := by omega
    subst e; exact h0
def hitK (l : List KV) (k : ByteArray) (q : Nat) : Bool := match l[q]? with | some x => x.key.toList == k.toList | none => false
theorem hitK_in {l : List KV} {k : ByteArray} {q : Nat} (h : q < l.length) : hitK l k q = (l[q].key.toList == k.toList) := by simp [hitK, h]
theorem hitK_out {l : List KV} {k : ByteArray} {q : Nat} (h : ¬ q < l.length) : hitK l k q = false := by
  unfold hitK; rw [List.getElem?_eq_none (by omega)]
def newK (o : OpR) : List KV := if o.del then [] else [⟨o.key, o.val⟩]
theorem newK_del {o : OpR} (h : o.del = true) : newK o = [] := by simp [newK, h]
theorem newK_put {o : OpR} (h : o.del = false) : newK o = [⟨o.key, o.val⟩] := by simp [newK, h]
def nxt (h : Bool) (q : Nat) : Nat := if h then q + 1 else q
def put7 (m : List KV) (o : OpR) : List KV := m.take (posK m o.key) ++ newK o ++ m.drop (nxt (hitK m o.key (posK m o.key)) (posK m o.key))
theorem put7_len (m : List KV) (o : OpR) : (put7 m o).length ≤ m.length + 1 := by
  have := posK_le m o.key
  unfold put7 newK nxt
  split <;> split <;> simp <;> omega
theorem less_ne {a b : ByteArray} (h : less a b = true) : ¬ a.toList = b.toList := by
  intro he
  unfold less at h
  rw [he, bytesLess_eq] at h
  simp only [decide_eq_true_eq] at h
  exact List.lt_irrefl _ h
theorem less_congr {a b c : ByteArray} (h : a.toList = b.toList) : less a c = less b c ∧ less c a = less c b := by unfold less; rw [h]; exact ⟨rfl, rfl⟩
/-- What stands behind the place is greater. -/
theorem behind {m : List KV} (hm : mapB m = true) (k : ByteArray) {i : Nat} (hi : i < m.length) (h : nxt (hitK m k (posK m k)) (posK m k) ≤ i) : less k m[i].key = true := by
  have hp := posK_is hm k
  have hq : posK m k ≤ i := by unfold nxt at h; split at h <;> omega
  have h1 := hp.hi i hi hq
  rcases less_total k m[i].key with h2 | h2 | h2
  · exact h2
  · exfalso
    rcases Nat.lt_or_ge (posK m k) i with hlt | hge
    · have h3 := map_mono hm hlt hi
      have h4 := hp.hi (posK m k) (by omega) (Nat.le_refl _)
      rw [← (less_congr (c := m[posK m k].key) h2).2] at h3
      rw [h4] at h3; cases h3
    · have e : i = posK m k := by omega
      have hh : hitK m k (posK m k) = true := by rw [hitK_in (by omega)]; subst e; simp [h2]
      rw [hh] at h; simp [nxt] at h; omega
  · rw [h1] at h2; cases h2
theorem put7_map {m : List KV} {o : OpR} (hm : mapB m = true) (ho : opR o = true) : mapB (put7 m o) = true := by
  have hP := mapB_P hm
  have hp := posK_is hm o.key
  have hob : keyB o.key = true ∧ valB o.val = true := by
    simp only [opR, opB, Bool.and_eq_true] at ho; exact ho.1
  have hnew : ∀ x ∈ newK o, kvB x = true ∧ x.key = o.key := by
    intro x hx
    unfold newK at hx
    split at hx
    · cases hx
    · simp at hx; subst hx
      exact ⟨by simp [kvB, hob.1, hob.2], rfl⟩
  have hlo : ∀ x ∈ m.take (posK m o.key), less x.key o.key = true := by
    intro x hx
    obtain ⟨i, hi, rfl⟩ := List.getElem_of_mem hx
    rw [List.getElem_take]
    rw [List.length_take] at hi
    exact hp.lo i (by omega) (by omega)
  have hhi : ∀ x ∈ m.drop (nxt (hitK m o.key (posK m o.key)) (posK m o.key)), less o.key x.key = true := by
    intro x hx
    obtain ⟨i, hi, rfl⟩ := List.getElem_of_mem hx
    rw [List.getElem_drop]
    rw [List.length_drop] at hi
    exact behind hm o.key (by omega) (by omega)
  refine mapP_B ⟨fun x hx => ?_, ?_⟩
  · unfold put7 at hx
    rcases List.mem_append.1 hx with hx | hx
    · rcases List.mem_append.1 hx with hx | hx
      · exact hP.1 x (List.mem_of_mem_take hx)
      · exact (hnew x hx).1
    · exact hP.1 x (List.mem_of_mem_drop hx)
  · unfold put7
    rw [List.pairwise_append, List.pairwise_append]
    refine ⟨⟨hP.2.sublist (List.take_sublist _ _), ?_, ?_⟩, hP.2.sublist (List.drop_sublist _ _), ?_⟩
    · unfold newK; split <;> simp
    · intro a ha b hb
      rw [(hnew b hb).2]; exact hlo a ha
    · intro a ha b hb
      rcases List.mem_append.1 ha with ha | ha
      · exact less_trans (hlo a ha) (hhi b hb)
      · rw [(hnew a ha).2]; exact hhi b hb
/-- The reference's loop. -/
def outK (m : List KV) (o : OpR) (k : Nat) : List KV :=
  if k ≤ posK m o.key then m.take k else m.take (posK m o.key) ++ newK o ++ (m.take k).drop (nxt (hitK m o.key (posK m o.key)) (posK m o.key))
def putK (m : List KV) (o : OpR) (k : Nat) : Bool := o.del || decide (posK m o.key < k)
theorem outK_zero (m : List KV) (o : OpR) : outK m o 0 = [] := by unfold outK; rw [if_pos (Nat.zero_le _)]; rfl
theorem outK_le (m : List KV) (o : OpR) (k : Nat) : (outK m o k).length ≤ m.length + 1 := by
  have hn : (newK o).length ≤ 1 := by unfold newK; split <;> simp
  have hx : posK m o.key ≤ nxt (hitK m o.key (posK m o.key)) (posK m o.key) := by unfold nxt; split <;> omega
  unfold outK
  split
  · rw [List.length_take]; omega
  · rw [List.length_append, List.length_append, List.length_drop, List.length_take, List.length_take]; omega
theorem outK_lo {m : List KV} {o : OpR} {k : Nat} (h : k < m.length) (hq : k < posK m o.key) : outK m o (k + 1) = outK m o k ++ [m[k]] := by
  unfold outK
  rw [if_pos (by omega), if_pos (by omega), List.take_succ_eq_append_getElem h]
theorem outK_hi {m : List KV} {o : OpR} {k : Nat} (h : k < m.length) (hq : posK m o.key < k) : outK m o (k + 1) = outK m o k ++ [m[k]] := by
  unfold outK
  rw [if_neg (by omega), if_neg (by omega), List.take_succ_eq_append_getElem h, List.drop_append_of_le_length (by unfold nxt; simp; split <;> omega)]
  simp
theorem outK_at_hit {m : List KV} {o : OpR} {k : Nat} (h : k < m.length) (hq : k = posK m o.key) (hh : hitK m o.key k = true) : outK m o (k + 1) = outK m o k ++ newK o := by
  unfold outK
  rw [if_neg (by omega), if_pos (by omega), ← hq, hh]
  have : (m.take (k + 1)).drop (nxt true k) = [] := by simp [nxt]
  rw [this, List.append_nil]
theorem outK_at_miss {m : List KV} {o : OpR} {k : Nat} (h : k < m.length) (hq : k = posK m o.key) (hh : hitK m o.key k = false) : outK m o (k + 1) = outK m o k ++ newK o ++ [m[k]] := by
  unfold outK
  rw [if_neg (by omega), if_pos (by omega), ← hq, hh]
  have : (m.take (k + 1)).drop (nxt false k) = [m[k]] := by
    simp only [nxt, Bool.false_eq_true, if_false]
    rw [List.take_succ_eq_append_getElem h, List.drop_append, List.length_take, List.drop_of_length_le (by rw [List.length_take]; omega)]
    rw [show k - min k m.length = 0 from by omega]; rfl
  rw [this]
theorem outK_end (m : List KV) (o : OpR) (h : putK m o m.length = true) : outK m o m.length = put7 m o := by
  have hp := posK_le m o.key
  unfold outK put7
  by_cases hq : posK m o.key < m.length
  · rw [if_neg (by omega), List.take_length]
  · have e : posK m o.key = m.length := by omega
    have hd : o.del = true := by unfold putK at h; simp at h; rcases h with h | h; exact h; omega
    rw [if_pos (by omega), e, newK_del hd, hitK_out (by omega)]
    simp [nxt]
theorem outK_last (m : List KV) (o : OpR) (h : putK m o m.length = false) : outK m o m.length ++ [⟨o.key, o.val⟩] = put7 m o := by
  have hp := posK_le m o.key
  unfold putK at h
  simp at h
  have e : posK m o.key = m.length := by omega
  unfold outK put7
  rw [if_pos (by omega), e, newK_put h.1, hitK_out (by omega)]
  simp [nxt]
def puts (m : List KV) (l : List OpR) : List KV := l.foldl put7 m
theorem puts_zero (m : List KV) (l : List OpR) : puts m (l.take 0) = m := by simp [puts]
theorem puts_step (m : List KV) (l : List OpR) (k : Nat) (h : k < l.length) : puts m (l.take (k + 1)) = put7 (puts m (l.take k)) l[k] := by
  unfold puts
  rw [List.take_succ_eq_append_getElem h, List.foldl_append]; rfl
theorem puts_len (m : List KV) : ∀ l : List OpR, (puts m l).length ≤ m.length + l.length := by
  intro l
  induction l generalizing m with
  | nil => simp [puts]
  | cons o l ih =>
    have h1 := put7_len m o
    have h2 := ih (put7 m o)
    unfold puts at h2 ⊢
    simp only [List.foldl_cons, List.length_cons] at h2 ⊢
    omega
theorem puts_map {m : List KV} : ∀ {l : List OpR}, mapB m = true → (∀ x ∈ l, opR x = true) → mapB (puts m l) = true := by
  intro l
  induction l generalizing m with
  | nil => intro h _; simpa [puts] using h
  | cons o l ih =>
    intro h hl
    have h1 := put7_map h (hl o (by simp))
    exact ih h1 (fun x hx => hl x (by simp [hx]))
def applyB (m : List KV) (l : List OpR) : Bool := mapB m && batchB l
def applyL (m : List KV) (l : List OpR) : List KV := if mapB m then (if batchB l then puts m l else m) else []
theorem applyL_len (m : List KV) (l : List OpR) (h : (m.length : Int) ≤ 1048576) : (applyL m l).length ≤ 1048582 := by
  unfold applyL
  split
  · split
    · rename_i _ hb
      have := (puts_len m l)
      unfold batchB at hb
      rw [Bool.and_eq_true] at hb
      have := (inB_iff.1 hb.1).2
      omega
    · omega
  · simp
end Sp
end Go.Proofs.Ytfbbdnicplbmdaa
/- Walks: findKey of the program: slices.BinarySearchFunc at KV with its closure. -/
set_option linter.unusedVariables false
set_option linter.unusedSimpArgs false
namespace Go.Proofs.Ytfbbdnicplbmdaa
open Go.RowKit Sp Go.Sort
namespace Sp
theorem cmpB_lt : ∀ a b : List UInt8, (Lib.compareBytes a b < 0) ↔ a < b
  | [], [] => by simp [Lib.compareBytes]
  | [], _ :: _ => by simp [Lib.compareBytes]
  | _ :: _, [] => by simp [Lib.compareBytes]
  | x :: a, y :: b => by
    rw [List.cons_lt_cons_iff, ← cmpB_lt a b]
    have e : Lib.compareBytes (x :: a) (y :: b) = if x < y then -1 else if y < x then 1 else Lib.compareBytes a b := rfl
    rw [e]
    by_cases h1 : x < y
    · simp [h1]
    · by_cases h2 : y < x
      · have : x ≠ y := by rintro rfl; exact h1 h2
        simp [h1, h2, this]
      · have : x = y := UInt8.le_antisymm (UInt8.not_lt.1 h2) (UInt8.not_lt.1 h1)
        simp [this]
theorem cmpB_zero : ∀ a b : List UInt8, (Lib.compareBytes a b = 0) ↔ a = b
  | [], [] => by simp [Lib.compareBytes]
  | [], _ :: _ => by simp [Lib.compareBytes]
  | _ :: _, [] => by simp [Lib.compareBytes]
  | x :: a, y :: b => by
    rw [List.cons.injEq, ← cmpB_zero a b]
    have e : Lib.compareBytes (x :: a) (y :: b) = if x < y then -1 else if y < x then 1 else Lib.compareBytes a b := rfl
    rw [e]
    by_cases h1 : x < y
    · have : x ≠ y := by rintro rfl; exact UInt8.lt_irrefl _ h1
      simp [h1, this]
    · by_cases h2 : y < x
      · have : x ≠ y := by rintro rfl; exact h1 h2
        simp [h1, h2, this]
      · have : x = y := UInt8.le_antisymm (UInt8.not_lt.1 h2) (UInt8.not_lt.1 h1)
        simp [this]
def cmpK (a b : ByteArray) : Int := Lib.compareBytes a.data.toList b.data.toList
theorem cmpK_lt (a b : ByteArray) : decide (cmpK a b < 0) = less a b := by
  unfold less cmpK
  rw [bytesLess_eq, toList_data, toList_data]
  exact decide_eq_decide.2 (cmpB_lt _ _)
theorem cmpK_zero (a b : ByteArray) : (cmpK a b == 0) = (a.toList == b.toList) := by
  unfold cmpK
  rw [toList_data, toList_data, Bool.eq_iff_iff, beq_iff_eq, beq_iff_eq]
  exact cmpB_zero _ _
theorem halfK_lo {l : List KV} {e : ByteArray} {i m : Nat} (hm : mapB l = true) (h : m < l.length) (ha : less l[m].key e = true) : ∀ t (ht : t < l.length), t < m + 1 → less l[t].key e = true := by
  intro t ht htm
  by_cases h2 : t = m
  · subst h2; exact ha
  · exact less_trans (map_mono hm (by omega) h) ha
theorem halfK_hi {l : List KV} {e : ByteArray} {m : Nat} (hm : mapB l = true) (h : m < l.length) (ha : less l[m].key e = false) : ∀ t (ht : t < l.length), m ≤ t → less l[t].key e = false := by
  intro t ht htm
  by_cases h2 : m = t
  · subst h2; exact ha
  · rcases hx : less l[t].key e with _ | _
    · rfl
    · have := less_trans (map_mono hm (show m < t by omega) ht) hx
      rw [ha] at this; cases this
end Sp

set_option maxRecDepth 100000 in
set_option maxHeartbeats 800000 in
theorem keyCmp_any (a b e : ByteArray) (w : World) :
    Calls Try.prog 193 #[.agg #[.string a, .string b], .string e] w fun r w' => r = .returned (.int .i64 (cmpK a e)) ∧ Below w.heap.size w w' := by
  go_enter Try.func193, Try.ntmps193
  go_wp2_with (go_at_call 194; refine (Try.strings_Compare _ _ _).mono ?_; rintro e w' ⟨rfl, rfl⟩)
  go_ret
  exact ⟨rfl, (Below.refl _ _).alloc (Nat.le_refl _) _⟩

set_option maxRecDepth 100000 in
set_option maxHeartbeats 1600000 in
theorem bsearchK_any (v : Value) (l : List KV) (e : ByteArray) (w : World) (h : SlT KV.cells 2 w v l) (hl : (l.length : Int) ≤ 1048576) (hm : mapB l = true) :
    Calls Try.prog 192 #[v, .string e, .func (.func 193) #[] #[]] w fun r w' => r = .returned (.tuple #[.int .i64 (posK l e : Nat), .bool (hitK l e (posK l e))]) ∧ Below w.heap.size w w' := by
  obtain ⟨ao, cap, rfl, hlc, hcm, hsh⟩ := h.shape
  have HM := Lib.hid hm
  clear hm
  go_enter Try.func192, Try.ntmps192
  go_wp2
  go_loopw [9, 10] (fun s9 s10 wr => ∃ lo hi : Nat, s9 = .int .i64 lo ∧ s10 = .int .i64 hi ∧ lo ≤ hi ∧ hi ≤ l.length ∧ Hid ((∀ i (h : i < l.length), i < lo → less l[i].key e = true) ∧ (∀ i (h : i < l.length), hi ≤ i → less l[i].key e = false)) ∧ Below w.heap.size w wr) (fun s9 s10 _ => (intOf s10).toNat - (intOf s9).toNat)
  case atStart => exact ⟨0, l.length, rfl, rfl, by omega, by omega, Lib.hid ⟨fun i h1 h2 => by omega, fun i h1 h2 => by omega⟩, Below.refl _ _⟩
  case round =>
    obtain ⟨lo, hi, rfl, rfl, hlh, hin, I, hbl⟩ := hrel
    have hcell : ∀ k (hk : k < l.length), ∃ b off, ao = some ⟨b, off, none⟩ ∧ wr.cell? ⟨b, off + k * 2, none⟩ = some (.string l[k].key) ∧ wr.cell? ⟨b, off + k * 2 + 1, none⟩ = some (.string l[k].val) := by
      intro k hk
      obtain ⟨b, off, hb0, hb, hcc⟩ := hsh (by omega)
      exact ⟨b, off, hb0, (hbl.cell (p := ⟨b, off + k * 2, none⟩) hb).trans (hcc k hk 0 _ rfl), (hbl.cell (p := ⟨b, off + k * 2 + 1, none⟩) hb).trans (hcc k hk 1 _ rfl)⟩
    by_cases hlt : lo < hi
    · obtain ⟨m, hmd⟩ : ∃ m, m = (lo + hi) / 2 := ⟨_, rfl⟩
      have hml : m < l.length := by omega
      have hmi : ((lo : Int) + (hi : Int)) / 2 = (m : Int) := by omega
      obtain ⟨b, off, rfl, e0, e1⟩ := hcell m hml
      clear hcell hsh h
      have hcmp := cmpK_lt l[m].key e
      rcases ha : less l[m].key e with _ | _
      · have hneg : ¬ cmpK l[m].key e < 0 := by rw [ha] at hcmp; simpa using hcmp
        have I2 := Lib.hid (show (∀ i (h : i < l.length), i < lo → less l[i].key e = true) ∧ (∀ i (h : i < l.length), m ≤ i → less l[i].key e = false) from ⟨I.out.1, halfK_hi HM.out hml ha⟩)
        have HMI := Lib.hid hmi
        have HMD := Lib.hid hmd
        skip
        clear hcmp ha I hmi hmd
        go_upto_region 5 with fail
        rw [HMI.out]
        go_wp2_with fail
        refine (keyCmp_any _ _ _ _).mono ?_
        rintro r w2 ⟨rfl, b2⟩
        have hb2 := hbl.trans (b2.mono hbl.size)
        clear b2 e0 e1
        go_wp2
        have hmd := HMD.out
        go_roundw

        case rel => exact ⟨lo, m, rfl, by first | rfl | (rw [HMI.out]), by omega, by omega, I2, hb2⟩
        case measure => simp [intOf]; omega
      · have hneg : cmpK l[m].key e < 0 := by rw [ha] at hcmp; simpa using hcmp
        have I2 := Lib.hid (show (∀ i (h : i < l.length), i < m + 1 → less l[i].key e = true) ∧ (∀ i (h : i < l.length), hi ≤ i → less l[i].key e = false) from ⟨halfK_lo (i := lo) HM.out hml ha, I.out.2⟩)
        have HMI := Lib.hid hmi
        have HMD := Lib.hid hmd
        skip
        clear hcmp ha I hmi hmd
        go_upto_region 5 with fail
        rw [HMI.out]
        go_wp2_with fail
        refine (keyCmp_any _ _ _ _).mono ?_
        rintro r w2 ⟨rfl, b2⟩
        have hb2 := hbl.trans (b2.mono hbl.size)
        clear b2 e0 e1
        go_wp2
        have hmd := HMD.out
        go_roundw

        case rel => exact ⟨m + 1, hi, by go_num, rfl, by omega, by omega, I2, hb2⟩
        case measure => simp [intOf]; omega
    · obtain rfl : lo = hi := by omega
      have HP := Lib.hid (show posK l e = lo from posK_eq ⟨hin, I.out.1, I.out.2⟩)
      by_cases hq : lo < l.length
      · obtain ⟨b, off, rfl, e0, e1⟩ := hcell lo hq
        have hhit := hitK_in (k := e) hq
        clear hcell hsh h I
        skip
        have hqi : (lo : Int) < (l.length : Int) := by omega
        have hzz := cmpK_zero l[lo].key e
        rw [← hhit] at hzz
        rcases hz : (cmpK l[lo].key e == 0) with _ | _
        · have HH := Lib.hid (show hitK l e lo = false by rw [← hzz, hz])
          clear hhit hzz
          have hdq : decide (lo < l.length) = true := decide_eq_true hq
          go_wp2_with fail
          refine (keyCmp_any _ _ _ _).mono ?_
          rintro r w2 ⟨rfl, b2⟩
          have hb2 := hbl.trans (b2.mono hbl.size)
          clear b2 e0 e1
          go_wp2
          refine bodyPost_ret (v := .tuple #[.int .i64 lo, .bool false]) (by simp [results, Try.results192, go_sem]) rfl ?_
          refine ⟨by rw [HP.out]; first | rfl | exact ⟨rfl, HH.out⟩ | (rw [HH.out]), hb2⟩
        · have HH := Lib.hid (show hitK l e lo = true by rw [← hzz, hz])
          clear hhit hzz
          have hdq : decide (lo < l.length) = true := decide_eq_true hq
          go_wp2_with fail
          refine (keyCmp_any _ _ _ _).mono ?_
          rintro r w2 ⟨rfl, b2⟩
          have hb2 := hbl.trans (b2.mono hbl.size)
          clear b2 e0 e1
          go_wp2
          refine bodyPost_ret (v := .tuple #[.int .i64 lo, .bool true]) (by simp [results, Try.results192, go_sem]) rfl ?_
          refine ⟨by rw [HP.out]; first | rfl | exact ⟨rfl, HH.out⟩ | (rw [HH.out]), hb2⟩
      · have hqi : ¬ (lo : Int) < (l.length : Int) := by omega
        have HH := Lib.hid (hitK_out (k := e) hq)
        clear hcell hsh h I
        have hb2 := hbl
        go_wp2
        refine bodyPost_ret (v := .tuple #[.int .i64 lo, .bool false]) (by simp [results, Try.results192, go_sem]) rfl ?_
        refine ⟨by rw [HP.out]; first | rfl | exact ⟨rfl, HH.out⟩ | (rw [HH.out]), hb2⟩

set_option maxRecDepth 100000 in
set_option maxHeartbeats 800000 in
theorem findKey_any (v : Value) (l : List KV) (e : ByteArray) (w : World) (h : SlT KV.cells 2 w v l) (hl : (l.length : Int) ≤ 1048576) (hm : mapB l = true) :
    Calls Try.prog 181 #[v, .string e] w fun r w' => r = .returned (.tuple #[.int .i64 (posK l e : Nat), .bool (hitK l e (posK l e))]) ∧ Below w.heap.size w w' := by
  have hh := h
  obtain ⟨ao, cap, rfl, _⟩ := h.shape
  go_enter Try.func181, Try.ntmps181
  go_wp2_with fail
  refine (bsearchK_any _ l e _ hh hl hm).mono ?_
  rintro r w1 ⟨rfl, b1⟩
  go_wp2
  refine bodyPost_ret (v := .tuple #[.int .i64 (posK l e : Nat), .bool (hitK l e (posK l e))]) (by simp [results, Try.results181, go_sem]) rfl ⟨rfl, b1⟩
end Go.Proofs.Ytfbbdnicplbmdaa
/- Walks: ApplyBatch of the program. -/
set_option linter.unusedVariables false
set_option linter.unusedSimpArgs false
namespace Go.Proofs.Ytfbbdnicplbmdaa
open Go.RowKit Sp Go.Sort
namespace Sp
theorem hit_lt {l : List KV} {k : ByteArray} {q : Nat} (h : hitK l k q = true) : ∃ hq : q < l.length, l[q].key = k := by
  by_cases hq : q < l.length
  · refine ⟨hq, ?_⟩
    rw [hitK_in hq, beq_iff_eq, toList_data, toList_data] at h
    have := congrArg str h
    rwa [str_of, str_of] at this
  · rw [hitK_out hq] at h; cases h
theorem put7_del_hit {l : List KV} {o : OpR} (ho : o.del = true) (hh : hitK l o.key (posK l o.key) = true) : put7 l o = l.take (posK l o.key) ++ l.drop (posK l o.key + 1) := by
  unfold put7; rw [newK_del ho, hh]; simp [nxt]
theorem put7_del_miss {l : List KV} {o : OpR} (ho : o.del = true) (hh : hitK l o.key (posK l o.key) = false) : put7 l o = l := by
  unfold put7; rw [newK_del ho, hh]; simp [nxt]
theorem put7_put_hit {l : List KV} {o : OpR} (ho : o.del = false) (hh : hitK l o.key (posK l o.key) = true) : put7 l o = l.set (posK l o.key) ⟨o.key, o.val⟩ := by
  obtain ⟨hq, _⟩ := hit_lt hh
  rw [List.set_eq_take_append_cons_drop, if_pos hq]
  unfold put7; rw [newK_put ho, hh]; simp [nxt]
theorem put7_put_miss {l : List KV} {o : OpR} (ho : o.del = false) (hh : hitK l o.key (posK l o.key) = false) : put7 l o = l.take (posK l o.key) ++ ⟨o.key, o.val⟩ :: l.drop (posK l o.key) := by
  unfold put7; rw [newK_put ho, hh]; simp [nxt]
end Sp

set_option maxRecDepth 100000 in
set_option maxHeartbeats 1600000 in
theorem dropKey_any (v : Value) (l : List KV) (o : OpR) (lo hi : Nat) (w : World) (hlo : lo ≤ w.heap.size) (h : Row KV.cells 134 2 lo hi w v l) (hl : (l.length : Int) ≤ 1048576) (hm : mapB l = true) (ho : o.del = true) :
    Calls Try.prog 155 #[v, .string o.key] w fun r w' => ∃ v', r = .returned v' ∧ Row KV.cells 134 2 lo w'.heap.size w' v' (put7 l o) ∧ Below lo w w' := by
  have hS : SlT KV.cells 2 w v l := h.slT (fun _ => rfl) (by decide)
  obtain ⟨ao, cap, rfl⟩ := h.form
  rcases hh : hitK l o.key (posK l o.key) with _ | _
  · have HR := Lib.hid (put7_del_miss ho hh)
    have HH := Lib.hid hh
    clear hh ho
    go_enter Try.func155, Try.ntmps155
    go_wp2_with fail
    refine (findKey_any _ l o.key _ hS hl hm).mono ?_
    rintro r w1 ⟨rfl, b1⟩
    have r1 := h.below b1
    have z1 := b1.size
    rw [HH.out]
    go_wp2
    go_ret
    exact ⟨_, rfl, by rw [HR.out]; exact Row.of_own r1.1 rfl, b1.mono hlo⟩
  · have HR := Lib.hid (put7_del_hit ho hh)
    obtain ⟨hq, _⟩ := hit_lt hh
    have HH := Lib.hid hh
    clear hh ho
    have hsz : 0 < l.length := by omega
    obtain ⟨g, hv, h1, h2, h3⟩ : ∃ g, ao = some ⟨g, 0, none⟩ ∧ l.length ≤ cap ∧ cap ≤ 9223372036854775807 ∧ lo ≤ g := by
      rcases h.shape with ⟨_, h0⟩ | ⟨g, c, hv, h1, h2, h3, _⟩
      · rw [h0] at hsz; simp at hsz
      · simp at hv; obtain ⟨rfl, rfl⟩ := hv; exact ⟨g, rfl, h1, h2, h3⟩
    subst hv
    go_enter Try.func155, Try.ntmps155
    go_wp2_with fail
    refine (findKey_any _ l o.key _ hS hl hm).mono ?_
    rintro r w1 ⟨rfl, b1⟩
    have r1 := h.below b1
    have z1 := b1.size
    rw [HH.out]
    generalize posK l o.key = q at *
    clear h hS
    go_wp2_with fail
    refine (deleteK_any g cap l q hq h1 h2 lo _ r1.1).mono ?_
    rintro r w2 ⟨rfl, o2, t2⟩
    go_wp2
    go_ret
    have hlen : (l.take q ++ l.drop (q + 1)).length = l.length - 1 := by rw [List.length_append, List.length_take, List.length_drop]; omega
    exact ⟨_, rfl, by rw [HR.out]; exact Row.of_own o2 hlen.symm, below_touch (b1.mono hlo) t2 h3 (by omega)⟩

set_option maxRecDepth 100000 in
set_option maxHeartbeats 1600000 in
theorem setKey_any (v : Value) (l : List KV) (o : OpR) (lo hi : Nat) (w : World) (hlo : lo ≤ w.heap.size) (h : Row KV.cells 134 2 lo hi w v l) (hl : (l.length : Int) ≤ 1048576) (hm : mapB l = true) (ho : o.del = false) :
    Calls Try.prog 156 #[v, .string o.key, .string o.val] w fun r w' => ∃ v', r = .returned v' ∧ Row KV.cells 134 2 lo w'.heap.size w' v' (put7 l o) ∧ Below lo w w' := by
  have hS : SlT KV.cells 2 w v l := h.slT (fun _ => rfl) (by decide)
  have hqle := posK_le l o.key
  obtain ⟨ao, cap, rfl⟩ := h.form
  rcases hh : hitK l o.key (posK l o.key) with _ | _
  · have HR := Lib.hid (put7_put_miss ho hh)
    have HH := Lib.hid hh
    have hblk : ∀ k, (Value.slice ao l.length cap).ownBlock = some k → lo ≤ k ∧ k < w.heap.size := fun k hk => h.1.lt k hk
    clear hh ho
    go_enter Try.func156, Try.ntmps156
    go_wp2_with fail
    refine (findKey_any _ l o.key _ hS hl hm).mono ?_
    rintro r w1 ⟨rfl, b1⟩
    have r1 := h.below b1
    have z1 := b1.size
    rw [HH.out]
    generalize posK l o.key = q at *
    clear h hS
    have hne : (Value.slice ao l.length cap).ownBlock ≠ some w1.heap.size := fun e0 => by have := (hblk _ e0).2; omega
    have hIns := insertKV_any l _ lo (w1.alloc (.cells #[.string o.key, .string o.val] 134)) (by simp; omega) (r1.1.alloc _) (by omega) q hqle ⟨o.key, o.val⟩ w1.heap.size 2 134 (fun t u hu => by have := cells_new w1 #[.string o.key, .string o.val] 134 t u hu; rwa [add_none, Nat.zero_add] at this) (by simp) hne (by rw [World.shape?, heap_alloc_new]; rfl) (by simp [go_sem]) (by simp [go_sem])
    go_wp2_with (go_at_call 183; refine hIns.mono ?_; rintro r w4 ⟨v4, rfl, o4, g4, p4⟩; have z4 := g4.size; simp only [World.size_alloc] at z4)
    go_wp2
    go_ret
    have hlen : (l.take q ++ (⟨o.key, o.val⟩ : KV) :: l.drop q).length = l.length + 1 := by rw [List.length_append, List.length_cons, List.length_take, List.length_drop]; omega
    exact ⟨_, rfl, by rw [HR.out]; exact Row.of_own o4 hlen.symm, ((b1.mono hlo).alloc (by omega) _).grown g4 (by simp; omega) (fun j hj => (by have := (hblk j hj).1; omega))⟩
  · have HR := Lib.hid (put7_put_hit ho hh)
    obtain ⟨hq, hk⟩ := hit_lt hh
    have HK := Lib.hid hk
    have HH := Lib.hid hh
    clear hh ho hk
    have hsz : 0 < l.length := by omega
    obtain ⟨g, hv, h1, h2, h3⟩ : ∃ g, ao = some ⟨g, 0, none⟩ ∧ l.length ≤ cap ∧ cap ≤ 9223372036854775807 ∧ lo ≤ g := by
      rcases h.shape with ⟨_, h0⟩ | ⟨g, c, hv, h1, h2, h3, _⟩
      · rw [h0] at hsz; simp at hsz
      · simp at hv; obtain ⟨rfl, rfl⟩ := hv; exact ⟨g, rfl, h1, h2, h3⟩
    subst hv
    go_enter Try.func156, Try.ntmps156
    go_wp2_with fail
    refine (findKey_any _ l o.key _ hS hl hm).mono ?_
    rintro r w1 ⟨rfl, b1⟩
    have r1 := h.below b1
    have z1 := b1.size
    rw [HH.out]
    generalize posK l o.key = q at *
    clear h hS
    have hfl := flat_length (enc := KV.cells) (size := 2) (fun _ => rfl) l
    obtain ⟨x0, q0⟩ := cell_owns r1.1 (q * 2 + 1) (by omega)
    have zf := r1.1.frozenAt
    have s2 := (r1.1.stored (q * 2 + 1) (.string o.val)).1
    have x2 := below_set (b1.mono hlo) ⟨g, q * 2 + 1, none⟩ (.string o.val) h3
    have HE := Lib.hid (show (l.map KV.cells).flatten.set (q * 2 + 1) (.string o.val) = ((l.set q ⟨o.key, o.val⟩).map KV.cells).flatten by
      rw [flat_set (size := 2) (l.map KV.cells) (fun c hc => by obtain ⟨x, _, rfl⟩ := List.mem_map.1 hc; rfl) q (by simpa using hq) 1 (by omega), List.map_set]
      congr 2
      rw [List.getElem_map]
      simp [KV.cells, HK.out])
    clear hfl
    go_wp2
    go_ret
    exact ⟨_, rfl, by rw [HR.out]; exact Row.of_own (by rw [← HE.out]; exact s2) (by simp), x2⟩
end Go.Proofs.Ytfbbdnicplbmdaa
/- Walks: ApplyBatch of the program, the whole. -/
set_option linter.unusedVariables false
set_option linter.unusedSimpArgs false
namespace Go.Proofs.Ytfbbdnicplbmdaa
open Go.RowKit Sp Go.Sort
namespace Sp
theorem batch_all {l : List OpR} (h : batchB l = true) : (l.length : Int) ≤ 6 ∧ ∀ k (hk : k < l.length), opR l[k] = true := by
  unfold batchB at h
  rw [Bool.and_eq_true, inB_iff] at h
  refine ⟨h.1.2, fun k hk => ?_⟩
  have := allIx_spec h.2 k hk
  rwa [opAt_in hk] at this
theorem puts_ok {m : List KV} {l : List OpR} (hm : mapB m = true) (hb : batchB l = true) (k : Nat) (hk : k ≤ l.length) : mapB (puts m (l.take k)) = true ∧ (puts m (l.take k)).length ≤ m.length + 6 := by
  obtain ⟨h6, ho⟩ := batch_all hb
  refine ⟨puts_map hm fun x hx => ?_, ?_⟩
  · obtain ⟨i, hi, rfl⟩ := List.getElem_of_mem hx
    rw [List.getElem_take]
    rw [List.length_take] at hi
    exact ho i (by omega)
  · have := puts_len m (l.take k)
    rw [List.length_take] at this
    omega
theorem applyL_not {m : List KV} (l : List OpR) (h : mapB m = false) : applyL m l = [] := by simp [applyL, h]
theorem applyL_same {m : List KV} {l : List OpR} (h : mapB m = true) (hb : batchB l = false) : applyL m l = m := by simp [applyL, h, hb]
theorem applyL_yes {m : List KV} {l : List OpR} (h : mapB m = true) (hb : batchB l = true) : applyL m l = puts m (l.take l.length) := by simp [applyL, h, hb]
end Sp

set_option maxRecDepth 100000 in
set_option maxHeartbeats 1600000 in
theorem applied_any (ad : Option Addr) (cap : Nat) (m : List KV) (v : Value) (l : List OpR) (w : World) (h : SlT KV.cells 2 w (.slice ad m.length cap) m) (h2 : SlT OpR.cells 3 w v l) (hl : (m.length : Int) ≤ 1048000) (hm : mapB m = true) (hb : batchB l = true) :
    Calls Try.prog 97 #[.slice ad m.length cap, v] w fun e w' => ∃ v', e = .returned v' ∧ Row KV.cells 134 2 w.heap.size w'.heap.size w' v' (puts m (l.take l.length)) ∧ Below w.heap.size w w' := by
  obtain ⟨ao, cp, rfl, hlc, hcm, hsh⟩ := h2.shape
  have h6 := (batch_all hb).1
  have HB := Lib.hid hb
  have HM := Lib.hid hm
  clear hb hm h2
  go_enter Try.func97, Try.ntmps97
  go_wp2_with (go_at_call 96; refine (cloneKV_row ad cap m _ h (by omega)).mono ?_; rintro e w1 ⟨v1, rfl, r1, b1⟩)
  have z1 := b1.size
  go_loopw [5, 12] (fun o i wr => ∃ k : Nat, k ≤ l.length ∧ i = .int .i64 k ∧ Row KV.cells 134 2 w.heap.size wr.heap.size wr o (puts m (l.take k)) ∧ RowKit.Below w.heap.size w wr) (fun _ i _ => l.length - (intOf i).toNat)
  case atStart => exact ⟨0, by omega, rfl, by simpa [puts] using r1, b1⟩
  case round =>
    obtain ⟨k, hk, rfl, hr, hbl⟩ := hrel
    have zb := hbl.size
    obtain ⟨hok, hlen⟩ := puts_ok HM.out HB.out k hk
    by_cases hlt : k < l.length
    · have HP := Lib.hid (puts_step m l k hlt)
      obtain ⟨b, off, rfl, hbs, hcc⟩ := hsh (by omega)
      have e0 : wr.cell? ⟨b, off + k * 3, none⟩ = some (.string l[k].key) := (hbl.cell (p := ⟨b, off + k * 3, none⟩) hbs).trans (hcc k hlt 0 _ rfl)
      have e1 : wr.cell? ⟨b, off + k * 3 + 1, none⟩ = some (.bool l[k].del) := (hbl.cell (p := ⟨b, off + k * 3 + 1, none⟩) hbs).trans (hcc k hlt 1 _ rfl)
      have e2 : wr.cell? ⟨b, off + k * 3 + 2, none⟩ = some (.string l[k].val) := (hbl.cell (p := ⟨b, off + k * 3 + 2, none⟩) hbs).trans (hcc k hlt 2 _ rfl)
      clear hcc hsh h r1 b1
      rcases hdel : l[k].del with _ | _
      · rw [hdel] at e1
        have HD := Lib.hid hdel
        have rB := hr.below ((Below.refl _ _).alloc (Nat.le_refl _) (.cells #[.string l[k].key, .bool false, .string l[k].val] 138))
        have xB := hbl.alloc hbl.size (.cells #[.string l[k].key, .bool false, .string l[k].val] 138)
        clear hdel hr
        go_wp2_with fail
        refine (setKey_any _ _ l[k] _ _ _ (by simp; omega) rB (by omega) hok HD.out).mono ?_
        rintro e w2 ⟨v2, rfl, r2, b2⟩
        have x2 := xB.trans b2
        rw [← HP.out] at r2
        go_wp2
        go_roundw
        case rel => exact ⟨k + 1, by omega, by go_num, r2, x2⟩
        case measure => simp [intOf]; omega
      · rw [hdel] at e1
        have HD := Lib.hid hdel
        have rB := hr.below ((Below.refl _ _).alloc (Nat.le_refl _) (.cells #[.string l[k].key, .bool true, .string l[k].val] 138))
        have xB := hbl.alloc hbl.size (.cells #[.string l[k].key, .bool true, .string l[k].val] 138)
        clear hdel hr
        go_wp2_with fail
        refine (dropKey_any _ _ l[k] _ _ _ (by simp; omega) rB (by omega) hok HD.out).mono ?_
        rintro e w2 ⟨v2, rfl, r2, b2⟩
        have x2 := xB.trans b2
        rw [← HP.out] at r2
        go_wp2
        go_roundw
        case rel => exact ⟨k + 1, by omega, by go_num, r2, x2⟩
        case measure => simp [intOf]; omega
    · obtain rfl : k = l.length := by omega
      clear hsh h r1 b1
      go_wp2
      go_ret
      exact ⟨_, rfl, hr, hbl⟩

set_option maxRecDepth 100000 in
set_option maxHeartbeats 800000 in
theorem implApplyBatch (ad : Option Addr) (cap : Nat) (m : List KV) (ad2 : Option Addr) (cap2 : Nat) (l : List OpR) (w : World) (h : SlT KV.cells 2 w (.slice ad m.length cap) m) (h2 : SlT OpR.cells 3 w (.slice ad2 l.length cap2) l) (hl : (m.length : Int) ≤ 1048576) (hl2 : (l.length : Int) ≤ 1048576) (hq : mapB m = true → (m.length : Int) ≤ 1048000) :
    Calls Try.prog 23 #[.slice ad m.length cap, .slice ad2 l.length cap2] w fun e w' => ∃ v', e = .returned (.tuple #[v', .bool (applyB m l)]) ∧ Row KV.cells 134 2 w.heap.size w'.heap.size w' v' (applyL m l) ∧ Below w.heap.size w w' := by
  rcases hm : mapB m with _ | _
  · have HR := Lib.hid (applyL_not l hm)
    have HB := Lib.hid (show applyB m l = false by simp [applyB, hm])
    go_enter Try.func23, Try.ntmps23
    go_wp2_with (go_at_call 94; refine (implMapOk _ m _ h hl).mono ?_; rintro e w1 ⟨rfl, b1⟩; rw [hm])
    refine bodyPost_ret (v := .tuple #[.slice none 0 0, .bool false]) (by simp [results, Try.results23, go_sem]) rfl ⟨_, by rw [HB.out], by rw [HR.out]; exact Row.nil _ _ _, b1⟩
  · have hq' := hq hm
    rcases hb : batchB l with _ | _
    · have HR := Lib.hid (applyL_same hm hb)
      have HB := Lib.hid (show applyB m l = false by simp [applyB, hm, hb])
      go_enter Try.func23, Try.ntmps23
      go_wp2_with (go_at_call 94; refine (implMapOk _ m _ h hl).mono ?_; rintro e w1 ⟨rfl, b1⟩; rw [hm])
      go_wp2_with (go_at_call 95; refine (implBatchOk _ l _ (h2.below b1) hl2).mono ?_; rintro e w2 ⟨rfl, b2⟩; rw [hb])
      have x2 := b1.trans (b2.mono b1.size)
      go_wp2_with (go_at_call 96; refine (cloneKV_row ad cap m _ (h.below x2) (by omega)).mono ?_; rintro e w3 ⟨v3, rfl, r3, b3⟩)
      have x3 := x2.trans (b3.mono x2.size)
      refine bodyPost_ret (v := .tuple #[v3, .bool false]) (by simp [results, Try.results23, go_sem]) rfl ⟨_, by rw [HB.out], by rw [HR.out]; exact r3.wide x2.size (Nat.le_refl _), x3⟩
    · have HR := Lib.hid (applyL_yes hm hb)
      have HB := Lib.hid (show applyB m l = true by simp [applyB, hm, hb])
      have HBB := Lib.hid hb
      have HMM := Lib.hid hm
      go_enter Try.func23, Try.ntmps23
      go_wp2_with (go_at_call 94; refine (implMapOk _ m _ h hl).mono ?_; rintro e w1 ⟨rfl, b1⟩; rw [hm])
      go_wp2_with (go_at_call 95; refine (implBatchOk _ l _ (h2.below b1) hl2).mono ?_; rintro e w2 ⟨rfl, b2⟩; rw [hb])
      have x2 := b1.trans (b2.mono b1.size)
      go_wp2_with (go_at_call 97; refine (applied_any ad cap m _ l _ (h.below x2) (h2.below x2) (by omega) HMM.out HBB.out).mono ?_; rintro e w3 ⟨v3, rfl, r3, b3⟩)
      have x3 := x2.trans (b3.mono x2.size)
      refine bodyPost_ret (v := .tuple #[v3, .bool true]) (by simp [results, Try.results23, go_sem]) rfl ⟨_, by rw [HB.out], by rw [HR.out]; exact r3.wide x2.size (Nat.le_refl _), x3⟩
end Go.Proofs.Ytfbbdnicplbmdaa
/- Walks: ApplyBatch of the reference. -/
set_option linter.unusedVariables false
set_option linter.unusedSimpArgs false
namespace Go.Proofs.Ytfbbdnicplbmdaa
open Go.RowKit Sp Go.Sort
theorem kvOne' : ∀ x : KV, ∀ u ∈ KV.cells x, u.oneCell' = true := by
  intro x u hu
  simp [KV.cells] at hu
  rcases hu with rfl | rfl <;> rfl
theorem ge_key {m : List KV} {o : OpR} {k : Nat} (hm : mapB m = true) (hk : k < m.length) : (less m[k].key o.key = true ↔ k < posK m o.key) ∧ (m[k].key.toList = o.key.toList ↔ (k = posK m o.key ∧ hitK m o.key k = true)) := by
  have hp := posK_is hm o.key
  have h1 : less m[k].key o.key = true ↔ k < posK m o.key := by
    constructor
    · intro h
      rcases Nat.lt_or_ge k (posK m o.key) with h1 | h1
      · exact h1
      · rw [hp.hi k hk h1] at h; cases h
    · exact fun h => hp.lo k hk h
  refine ⟨h1, ?_, ?_⟩
  · intro he
    have hge : posK m o.key ≤ k := by
      rcases Nat.lt_or_ge k (posK m o.key) with h | h
      · exact absurd he (less_ne (hp.lo k hk h))
      · exact h
    have hkq : k = posK m o.key := by
      rcases Nat.lt_or_ge (posK m o.key) k with h | h
      · have h3 := map_mono hm h hk
        have h4 := hp.hi (posK m o.key) (by omega) (Nat.le_refl _)
        rw [(less_congr (c := m[posK m o.key].key) he).2] at h3
        rw [h3] at h4; cases h4
      · omega
    refine ⟨hkq, ?_⟩
    rw [hitK_in hk, beq_iff_eq]; exact he
  · rintro ⟨_, h⟩
    rw [hitK_in hk, beq_iff_eq] at h; exact h

set_option maxRecDepth 100000 in
set_option maxHeartbeats 1600000 in
theorem l7Put_any (v : Value) (m : List KV) (o : OpR) (w : World) (h : SlT KV.cells 2 w v m) (hl : (m.length : Int) ≤ 1048576) (hm : mapB m = true) :
    Calls Try.prog 98 #[v, .agg #[.string o.key, .bool o.del, .string o.val]] w fun e w' => ∃ v', e = .returned v' ∧ Row KV.cells 134 2 w.heap.size w'.heap.size w' v' (put7 m o) ∧ Below w.heap.size w w' := by
  obtain ⟨ao, cap, rfl, hlc, hcm, hsh⟩ := h.shape
  have t0 : (w.alloc (.cells #[.string o.key, .bool o.del, .string o.val] 138)).cell? ⟨w.heap.size, 0, none⟩ = some (.string o.key) := by simp [go_sem]
  have t1 : (w.alloc (.cells #[.string o.key, .bool o.del, .string o.val] 138)).cell? ⟨w.heap.size, 1, none⟩ = some (.bool o.del) := by simp [go_sem]
  have t2 : (w.alloc (.cells #[.string o.key, .bool o.del, .string o.val] 138)).cell? ⟨w.heap.size, 2, none⟩ = some (.string o.val) := by simp [go_sem]
  have hal : RowKit.Below w.heap.size w (w.alloc (.cells #[.string o.key, .bool o.del, .string o.val] 138)) := (Below.refl _ _).alloc (Nat.le_refl _) _
  have hsz : (w.alloc (.cells #[.string o.key, .bool o.del, .string o.val] 138)).heap.size = w.heap.size + 1 := by simp
  have HM := Lib.hid hm
  clear hm h
  go_enter Try.func98, Try.ntmps98
  go_upto_region 1 with fail
  generalize (w.alloc (.cells #[.string o.key, .bool o.del, .string o.val] 138)) = W at *
  have h0 : (W.alloc (.cells #[] 134)).ownsRow (w.heap.size + 1) 134 2 (.slice (some ⟨W.heap.size, 0, none⟩) 0 0) 0 [] := World.ownsRow_lit W #[] 0 (by omega) (by simp [maxLen]) rfl
  have x0 : Below (w.heap.size + 1) W (W.alloc (.cells #[] 134)) := (Below.refl _ _).alloc (by omega) _
  go_wp2
  go_loopw [5, 6, 7] (fun s5 s6 s7 wr => ∃ (k : Nat) (pb : Bool), k ≤ m.length ∧ s7 = .int .i64 k ∧ s6 = .bool pb ∧ RowKit.Hid (pb = putK m o k) ∧ wr.ownsRow (w.heap.size + 1) 134 2 s5 (outK m o k).length ((outK m o k).map KV.cells).flatten ∧ RowKit.Below (w.heap.size + 1) W wr) (fun _ _ s7 _ => m.length - (intOf s7).toNat)
  case atStart => exact ⟨0, o.del, by omega, rfl, rfl, by simp [putK, RowKit.Hid], by rw [outK_zero]; rw [hsz] at h0; exact h0, x0⟩
  case round =>
    clear h0 x0
    obtain ⟨k, pb, hk, rfl, rfl, HP, ho, hbl⟩ := hrel
    by_cases hlt : k < m.length
    · obtain ⟨b, off, rfl, hbs, hcc⟩ := hsh (by omega)
      have E0 : W.cell? ⟨b, off + k * 2, none⟩ = some (.string m[k].key) := (hal.cell (p := ⟨b, off + k * 2, none⟩) hbs).trans (hcc k hlt 0 _ rfl)
      have E1 : W.cell? ⟨b, off + k * 2 + 1, none⟩ = some (.string m[k].val) := (hal.cell (p := ⟨b, off + k * 2 + 1, none⟩) hbs).trans (hcc k hlt 1 _ rfl)
      have hlen := outK_le m o k
      clear hcc t1
      obtain ⟨hl1, hl2⟩ := ge_key (o := o) HM.out hlt
      rcases Nat.lt_trichotomy k (posK m o.key) with hkq | hkq | hkq
      · have hnk : ¬ posK m o.key < k := by omega
        have hnk1 : ¬ posK m o.key < k + 1 := by omega
        rcases hd : o.del with _ | _
        · have HL := Lib.hid (show outK m o (k + 1) = outK m o k ++ [m[k]] from outK_lo hlt hkq)
          have HQ := Lib.hid (show false = putK m o (k + 1) from by simp [putK, hd, hnk1])
          obtain rfl : pb = false := by rw [HP.out]; simp [putK, hd, hnk]
          clear HP
          have hle := geq_less m[k].key o.key
          rw [show less m[k].key o.key = true from hl1.2 (by omega)] at hle
          have heq : (m[k].key.toList == o.key.toList) = false := by rw [beq_eq_false_iff_ne]; intro h; have := hl2.1 h; first | omega | (rw [hh] at this; cases this.2)
          clear hl1 hl2
          obtain ⟨hca, hfa⟩ := bcellB hbl
          have j0a := (hca w.heap.size 0 (by omega)).trans t0
          have j2a := (hca w.heap.size 2 (by omega)).trans t2
          have e0a := (hca b (off + k * 2) (by omega)).trans E0
          have e1a := (hca b (off + k * 2 + 1) (by omega)).trans E1
          clear hca hfa
          clear HM hsh
          try clear hkq
          try clear hh
          try clear hnk
          try clear hnk1
          go_wp2
          go_quiet (fail)
          obtain ⟨wd1, hwd1⟩ : ∃ wd, wd = wr.drewN nq := ⟨_, rfl⟩
          rw [← hwd1]
          have od1 : wd1.ownsRow (w.heap.size + 1) 134 2 u5 (outK m o k).length ((outK m o k).map KV.cells).flatten := by rw [hwd1]; exact ho
          have xd1 : Below (w.heap.size + 1) W wd1 := by rw [hwd1]; exact below_drewN hbl _
          clear hwd1 ho hbl
          obtain ⟨hcd1, hfd1⟩ := bcellB xd1
          have j0d1 := (hcd1 w.heap.size 0 (by omega)).trans t0
          have j2d1 := (hcd1 w.heap.size 2 (by omega)).trans t2
          have e0d1 := (hcd1 b (off + k * 2) (by omega)).trans E0
          have e1d1 := (hcd1 b (off + k * 2 + 1) (by omega)).trans E1
          clear hcd1 hfd1
          clear j0a j2a e0a e1a
          go_wp2
          go_quiet (fail)
          obtain ⟨wd2, hwd2⟩ : ∃ wd, wd = wd1.drewN nq := ⟨_, rfl⟩
          rw [← hwd2]
          have od2 : wd2.ownsRow (w.heap.size + 1) 134 2 u5 (outK m o k).length ((outK m o k).map KV.cells).flatten := by rw [hwd2]; exact od1
          have xd2 : Below (w.heap.size + 1) W wd2 := by rw [hwd2]; exact below_drewN xd1 _
          clear hwd2 od1 xd1
          obtain ⟨hcd2, hfd2⟩ := bcellB xd2
          have j0d2 := (hcd2 w.heap.size 0 (by omega)).trans t0
          have j2d2 := (hcd2 w.heap.size 2 (by omega)).trans t2
          have e0d2 := (hcd2 b (off + k * 2) (by omega)).trans E0
          have e1d2 := (hcd2 b (off + k * 2 + 1) (by omega)).trans E1
          clear hcd2 hfd2
          go_wp2_with (at_builtin; go_loud (refine app_new rfl rfl Try.underlying43 info_KV rfl (by decide) od2 rfl 1 (by simp [Act.eval]) rfl (by simp [Value.oneCell']) (by omega) xd2 (Nat.le_refl _) (by have := Below.size xd2; omega) ?_; intro v6 w6 r6 x6 g6))
          go_roundw
          case rel => exact ⟨k + 1, false, by omega, by go_num, rfl, HQ, by rw [HL.out]; simpa [KV.cells] using r6, x6⟩
          case measure => simp [intOf]; omega
        · have HL := Lib.hid (show outK m o (k + 1) = outK m o k ++ [m[k]] from outK_lo hlt hkq)
          have HQ := Lib.hid (show true = putK m o (k + 1) from by simp [putK, hd])
          obtain rfl : pb = true := by rw [HP.out]; simp [putK, hd, hnk]
          clear HP
          have hle := geq_less m[k].key o.key
          rw [show less m[k].key o.key = true from hl1.2 (by omega)] at hle
          have heq : (m[k].key.toList == o.key.toList) = false := by rw [beq_eq_false_iff_ne]; intro h; have := hl2.1 h; first | omega | (rw [hh] at this; cases this.2)
          clear hl1 hl2
          obtain ⟨hca, hfa⟩ := bcellB hbl
          have j0a := (hca w.heap.size 0 (by omega)).trans t0
          have j2a := (hca w.heap.size 2 (by omega)).trans t2
          have e0a := (hca b (off + k * 2) (by omega)).trans E0
          have e1a := (hca b (off + k * 2 + 1) (by omega)).trans E1
          clear hca hfa
          clear HM hsh
          try clear hkq
          try clear hh
          try clear hnk
          try clear hnk1
          go_wp2
          go_quiet (fail)
          obtain ⟨wd1, hwd1⟩ : ∃ wd, wd = wr.drewN nq := ⟨_, rfl⟩
          rw [← hwd1]
          have od1 : wd1.ownsRow (w.heap.size + 1) 134 2 u5 (outK m o k).length ((outK m o k).map KV.cells).flatten := by rw [hwd1]; exact ho
          have xd1 : Below (w.heap.size + 1) W wd1 := by rw [hwd1]; exact below_drewN hbl _
          clear hwd1 ho hbl
          obtain ⟨hcd1, hfd1⟩ := bcellB xd1
          have j0d1 := (hcd1 w.heap.size 0 (by omega)).trans t0
          have j2d1 := (hcd1 w.heap.size 2 (by omega)).trans t2
          have e0d1 := (hcd1 b (off + k * 2) (by omega)).trans E0
          have e1d1 := (hcd1 b (off + k * 2 + 1) (by omega)).trans E1
          clear hcd1 hfd1
          clear j0a j2a e0a e1a
          go_wp2
          go_quiet (fail)
          obtain ⟨wd2, hwd2⟩ : ∃ wd, wd = wd1.drewN nq := ⟨_, rfl⟩
          rw [← hwd2]
          have od2 : wd2.ownsRow (w.heap.size + 1) 134 2 u5 (outK m o k).length ((outK m o k).map KV.cells).flatten := by rw [hwd2]; exact od1
          have xd2 : Below (w.heap.size + 1) W wd2 := by rw [hwd2]; exact below_drewN xd1 _
          clear hwd2 od1 xd1
          obtain ⟨hcd2, hfd2⟩ := bcellB xd2
          have j0d2 := (hcd2 w.heap.size 0 (by omega)).trans t0
          have j2d2 := (hcd2 w.heap.size 2 (by omega)).trans t2
          have e0d2 := (hcd2 b (off + k * 2) (by omega)).trans E0
          have e1d2 := (hcd2 b (off + k * 2 + 1) (by omega)).trans E1
          clear hcd2 hfd2
          go_wp2_with (at_builtin; go_loud (refine app_new rfl rfl Try.underlying43 info_KV rfl (by decide) od2 rfl 1 (by simp [Act.eval]) rfl (by simp [Value.oneCell']) (by omega) xd2 (Nat.le_refl _) (by have := Below.size xd2; omega) ?_; intro v6 w6 r6 x6 g6))
          go_roundw
          case rel => exact ⟨k + 1, true, by omega, by go_num, rfl, HQ, by rw [HL.out]; simpa [KV.cells] using r6, x6⟩
          case measure => simp [intOf]; omega
      · have hnk : ¬ posK m o.key < k := by omega
        have hnk1 : posK m o.key < k + 1 := by omega
        rcases hh : hitK m o.key k with _ | _
        · rcases hd : o.del with _ | _
          · have HL := Lib.hid (show outK m o (k + 1) = outK m o k ++ [⟨o.key, o.val⟩] ++ [m[k]] from by rw [outK_at_miss hlt hkq hh, newK_put hd])
            have HQ := Lib.hid (show true = putK m o (k + 1) from by simp [putK, hnk1])
            obtain rfl : pb = false := by rw [HP.out]; simp [putK, hd, hnk]
            clear HP
            have hle := geq_less m[k].key o.key
            rw [show less m[k].key o.key = false from by rw [Bool.eq_false_iff]; intro h; have := hl1.1 h; omega] at hle
            have heq : (m[k].key.toList == o.key.toList) = false := by rw [beq_eq_false_iff_ne]; intro h; have := hl2.1 h; first | omega | (rw [hh] at this; cases this.2)
            clear hl1 hl2
            obtain ⟨hca, hfa⟩ := bcellB hbl
            have j0a := (hca w.heap.size 0 (by omega)).trans t0
            have j2a := (hca w.heap.size 2 (by omega)).trans t2
            have e0a := (hca b (off + k * 2) (by omega)).trans E0
            have e1a := (hca b (off + k * 2 + 1) (by omega)).trans E1
            clear hca hfa
            clear HM hsh
            try clear hkq
            try clear hh
            try clear hnk
            try clear hnk1
            go_wp2
            go_quiet (fail)
            obtain ⟨wd1, hwd1⟩ : ∃ wd, wd = wr.drewN nq := ⟨_, rfl⟩
            rw [← hwd1]
            have od1 : wd1.ownsRow (w.heap.size + 1) 134 2 u5 (outK m o k).length ((outK m o k).map KV.cells).flatten := by rw [hwd1]; exact ho
            have xd1 : Below (w.heap.size + 1) W wd1 := by rw [hwd1]; exact below_drewN hbl _
            clear hwd1 ho hbl
            obtain ⟨hcd1, hfd1⟩ := bcellB xd1
            have j0d1 := (hcd1 w.heap.size 0 (by omega)).trans t0
            have j2d1 := (hcd1 w.heap.size 2 (by omega)).trans t2
            have e0d1 := (hcd1 b (off + k * 2) (by omega)).trans E0
            have e1d1 := (hcd1 b (off + k * 2 + 1) (by omega)).trans E1
            clear hcd1 hfd1
            clear j0a j2a e0a e1a
            go_upto_region 9 with (at_builtin; go_loud (refine app_new rfl rfl Try.underlying43 info_KV rfl (by decide) od1 rfl 1 (by simp [Act.eval]) rfl (by simp [Value.oneCell']) (by omega) xd1 (Nat.le_refl _) (by have := Below.size xd1; omega) ?_; intro v4 w4 r4 x4 g4))
            clear j0d1 j2d1 e0d1 e1d1
            obtain ⟨hcb, hfb⟩ := bcellB x4
            have j0b := (hcb w.heap.size 0 (by omega)).trans t0
            have j2b := (hcb w.heap.size 2 (by omega)).trans t2
            have e0b := (hcb b (off + k * 2) (by omega)).trans E0
            have e1b := (hcb b (off + k * 2 + 1) (by omega)).trans E1
            clear hcb hfb
            go_wp2
            go_quiet (fail)
            obtain ⟨wd2, hwd2⟩ : ∃ wd, wd = w4.drewN nq := ⟨_, rfl⟩
            rw [← hwd2]
            have od2 : wd2.ownsRow (w.heap.size + 1) 134 2 v4 ((outK m o k).length + 1) (((outK m o k).map KV.cells).flatten ++ [.string o.key, .string o.val]) := by rw [hwd2]; exact r4
            have xd2 : Below (w.heap.size + 1) W wd2 := by rw [hwd2]; exact below_drewN x4 _
            clear hwd2 r4 x4
            obtain ⟨hcd2, hfd2⟩ := bcellB xd2
            have j0d2 := (hcd2 w.heap.size 0 (by omega)).trans t0
            have j2d2 := (hcd2 w.heap.size 2 (by omega)).trans t2
            have e0d2 := (hcd2 b (off + k * 2) (by omega)).trans E0
            have e1d2 := (hcd2 b (off + k * 2 + 1) (by omega)).trans E1
            clear hcd2 hfd2
            go_wp2_with (at_builtin; go_loud (refine app_new rfl rfl Try.underlying43 info_KV rfl (by decide) od2 rfl 1 (by simp [Act.eval]) rfl (by simp [Value.oneCell']) (by omega) xd2 (Nat.le_refl _) (by have := Below.size xd2; omega) ?_; intro v6 w6 r6 x6 g6))
            go_roundw
            case rel => exact ⟨k + 1, true, by omega, by go_num, rfl, HQ, by rw [HL.out]; simpa [KV.cells] using r6, x6⟩
            case measure => simp [intOf]; omega
          · have HL := Lib.hid (show outK m o (k + 1) = outK m o k ++ [m[k]] from by rw [outK_at_miss hlt hkq hh, newK_del hd, List.append_nil])
            have HQ := Lib.hid (show true = putK m o (k + 1) from by simp [putK, hd])
            obtain rfl : pb = true := by rw [HP.out]; simp [putK, hd, hnk]
            clear HP
            have hle := geq_less m[k].key o.key
            rw [show less m[k].key o.key = false from by rw [Bool.eq_false_iff]; intro h; have := hl1.1 h; omega] at hle
            have heq : (m[k].key.toList == o.key.toList) = false := by rw [beq_eq_false_iff_ne]; intro h; have := hl2.1 h; first | omega | (rw [hh] at this; cases this.2)
            clear hl1 hl2
            obtain ⟨hca, hfa⟩ := bcellB hbl
            have j0a := (hca w.heap.size 0 (by omega)).trans t0
            have j2a := (hca w.heap.size 2 (by omega)).trans t2
            have e0a := (hca b (off + k * 2) (by omega)).trans E0
            have e1a := (hca b (off + k * 2 + 1) (by omega)).trans E1
            clear hca hfa
            clear HM hsh
            try clear hkq
            try clear hh
            try clear hnk
            try clear hnk1
            go_wp2
            go_quiet (fail)
            obtain ⟨wd1, hwd1⟩ : ∃ wd, wd = wr.drewN nq := ⟨_, rfl⟩
            rw [← hwd1]
            have od1 : wd1.ownsRow (w.heap.size + 1) 134 2 u5 (outK m o k).length ((outK m o k).map KV.cells).flatten := by rw [hwd1]; exact ho
            have xd1 : Below (w.heap.size + 1) W wd1 := by rw [hwd1]; exact below_drewN hbl _
            clear hwd1 ho hbl
            obtain ⟨hcd1, hfd1⟩ := bcellB xd1
            have j0d1 := (hcd1 w.heap.size 0 (by omega)).trans t0
            have j2d1 := (hcd1 w.heap.size 2 (by omega)).trans t2
            have e0d1 := (hcd1 b (off + k * 2) (by omega)).trans E0
            have e1d1 := (hcd1 b (off + k * 2 + 1) (by omega)).trans E1
            clear hcd1 hfd1
            clear j0a j2a e0a e1a
            go_wp2
            go_quiet (fail)
            obtain ⟨wd2, hwd2⟩ : ∃ wd, wd = wd1.drewN nq := ⟨_, rfl⟩
            rw [← hwd2]
            have od2 : wd2.ownsRow (w.heap.size + 1) 134 2 u5 (outK m o k).length ((outK m o k).map KV.cells).flatten := by rw [hwd2]; exact od1
            have xd2 : Below (w.heap.size + 1) W wd2 := by rw [hwd2]; exact below_drewN xd1 _
            clear hwd2 od1 xd1
            obtain ⟨hcd2, hfd2⟩ := bcellB xd2
            have j0d2 := (hcd2 w.heap.size 0 (by omega)).trans t0
            have j2d2 := (hcd2 w.heap.size 2 (by omega)).trans t2
            have e0d2 := (hcd2 b (off + k * 2) (by omega)).trans E0
            have e1d2 := (hcd2 b (off + k * 2 + 1) (by omega)).trans E1
            clear hcd2 hfd2
            go_wp2_with (at_builtin; go_loud (refine app_new rfl rfl Try.underlying43 info_KV rfl (by decide) od2 rfl 1 (by simp [Act.eval]) rfl (by simp [Value.oneCell']) (by omega) xd2 (Nat.le_refl _) (by have := Below.size xd2; omega) ?_; intro v6 w6 r6 x6 g6))
            go_roundw
            case rel => exact ⟨k + 1, true, by omega, by go_num, rfl, HQ, by rw [HL.out]; simpa [KV.cells] using r6, x6⟩
            case measure => simp [intOf]; omega
        · rcases hd : o.del with _ | _
          · have HL := Lib.hid (show outK m o (k + 1) = outK m o k ++ [⟨o.key, o.val⟩] from by rw [outK_at_hit hlt hkq hh, newK_put hd])
            have HQ := Lib.hid (show true = putK m o (k + 1) from by simp [putK, hnk1])
            obtain rfl : pb = false := by rw [HP.out]; simp [putK, hd, hnk]
            clear HP
            have hle := geq_less m[k].key o.key
            rw [show less m[k].key o.key = false from by rw [Bool.eq_false_iff]; intro h; have := hl1.1 h; omega] at hle
            have heq : (m[k].key.toList == o.key.toList) = true := by rw [beq_iff_eq]; exact hl2.2 ⟨hkq, hh⟩
            clear hl1 hl2
            obtain ⟨hca, hfa⟩ := bcellB hbl
            have j0a := (hca w.heap.size 0 (by omega)).trans t0
            have j2a := (hca w.heap.size 2 (by omega)).trans t2
            have e0a := (hca b (off + k * 2) (by omega)).trans E0
            have e1a := (hca b (off + k * 2 + 1) (by omega)).trans E1
            clear hca hfa
            clear HM hsh
            try clear hkq
            try clear hh
            try clear hnk
            try clear hnk1
            go_wp2
            go_quiet (fail)
            obtain ⟨wd1, hwd1⟩ : ∃ wd, wd = wr.drewN nq := ⟨_, rfl⟩
            rw [← hwd1]
            have od1 : wd1.ownsRow (w.heap.size + 1) 134 2 u5 (outK m o k).length ((outK m o k).map KV.cells).flatten := by rw [hwd1]; exact ho
            have xd1 : Below (w.heap.size + 1) W wd1 := by rw [hwd1]; exact below_drewN hbl _
            clear hwd1 ho hbl
            obtain ⟨hcd1, hfd1⟩ := bcellB xd1
            have j0d1 := (hcd1 w.heap.size 0 (by omega)).trans t0
            have j2d1 := (hcd1 w.heap.size 2 (by omega)).trans t2
            have e0d1 := (hcd1 b (off + k * 2) (by omega)).trans E0
            have e1d1 := (hcd1 b (off + k * 2 + 1) (by omega)).trans E1
            clear hcd1 hfd1
            clear j0a j2a e0a e1a
            go_upto_region 9 with (at_builtin; go_loud (refine app_new rfl rfl Try.underlying43 info_KV rfl (by decide) od1 rfl 1 (by simp [Act.eval]) rfl (by simp [Value.oneCell']) (by omega) xd1 (Nat.le_refl _) (by have := Below.size xd1; omega) ?_; intro v4 w4 r4 x4 g4))
            clear j0d1 j2d1 e0d1 e1d1
            obtain ⟨hcb, hfb⟩ := bcellB x4
            have j0b := (hcb w.heap.size 0 (by omega)).trans t0
            have j2b := (hcb w.heap.size 2 (by omega)).trans t2
            have e0b := (hcb b (off + k * 2) (by omega)).trans E0
            have e1b := (hcb b (off + k * 2 + 1) (by omega)).trans E1
            clear hcb hfb
            go_wp2
            go_quiet (fail)
            obtain ⟨wd2, hwd2⟩ : ∃ wd, wd = w4.drewN nq := ⟨_, rfl⟩
            rw [← hwd2]
            have od2 : wd2.ownsRow (w.heap.size + 1) 134 2 v4 ((outK m o k).length + 1) (((outK m o k).map KV.cells).flatten ++ [.string o.key, .string o.val]) := by rw [hwd2]; exact r4
            have xd2 : Below (w.heap.size + 1) W wd2 := by rw [hwd2]; exact below_drewN x4 _
            clear hwd2 r4 x4
            obtain ⟨hcd2, hfd2⟩ := bcellB xd2
            have j0d2 := (hcd2 w.heap.size 0 (by omega)).trans t0
            have j2d2 := (hcd2 w.heap.size 2 (by omega)).trans t2
            have e0d2 := (hcd2 b (off + k * 2) (by omega)).trans E0
            have e1d2 := (hcd2 b (off + k * 2 + 1) (by omega)).trans E1
            clear hcd2 hfd2
            go_wp2
            go_roundw
            case rel => exact ⟨k + 1, true, by omega, by go_num, rfl, HQ, by rw [HL.out]; simpa [KV.cells] using od2, xd2⟩
            case measure => simp [intOf]; omega
          · have HL := Lib.hid (show outK m o (k + 1) = outK m o k from by rw [outK_at_hit hlt hkq hh, newK_del hd, List.append_nil])
            have HQ := Lib.hid (show true = putK m o (k + 1) from by simp [putK, hd])
            obtain rfl : pb = true := by rw [HP.out]; simp [putK, hd, hnk]
            clear HP
            have hle := geq_less m[k].key o.key
            rw [show less m[k].key o.key = false from by rw [Bool.eq_false_iff]; intro h; have := hl1.1 h; omega] at hle
            have heq : (m[k].key.toList == o.key.toList) = true := by rw [beq_iff_eq]; exact hl2.2 ⟨hkq, hh⟩
            clear hl1 hl2
            obtain ⟨hca, hfa⟩ := bcellB hbl
            have j0a := (hca w.heap.size 0 (by omega)).trans t0
            have j2a := (hca w.heap.size 2 (by omega)).trans t2
            have e0a := (hca b (off + k * 2) (by omega)).trans E0
            have e1a := (hca b (off + k * 2 + 1) (by omega)).trans E1
            clear hca hfa
            clear HM hsh
            try clear hkq
            try clear hh
            try clear hnk
            try clear hnk1
            go_wp2
            go_quiet (fail)
            obtain ⟨wd1, hwd1⟩ : ∃ wd, wd = wr.drewN nq := ⟨_, rfl⟩
            rw [← hwd1]
            have od1 : wd1.ownsRow (w.heap.size + 1) 134 2 u5 (outK m o k).length ((outK m o k).map KV.cells).flatten := by rw [hwd1]; exact ho
            have xd1 : Below (w.heap.size + 1) W wd1 := by rw [hwd1]; exact below_drewN hbl _
            clear hwd1 ho hbl
            obtain ⟨hcd1, hfd1⟩ := bcellB xd1
            have j0d1 := (hcd1 w.heap.size 0 (by omega)).trans t0
            have j2d1 := (hcd1 w.heap.size 2 (by omega)).trans t2
            have e0d1 := (hcd1 b (off + k * 2) (by omega)).trans E0
            have e1d1 := (hcd1 b (off + k * 2 + 1) (by omega)).trans E1
            clear hcd1 hfd1
            clear j0a j2a e0a e1a
            go_wp2
            go_quiet (fail)
            obtain ⟨wd2, hwd2⟩ : ∃ wd, wd = wd1.drewN nq := ⟨_, rfl⟩
            rw [← hwd2]
            have od2 : wd2.ownsRow (w.heap.size + 1) 134 2 u5 (outK m o k).length ((outK m o k).map KV.cells).flatten := by rw [hwd2]; exact od1
            have xd2 : Below (w.heap.size + 1) W wd2 := by rw [hwd2]; exact below_drewN xd1 _
            clear hwd2 od1 xd1
            obtain ⟨hcd2, hfd2⟩ := bcellB xd2
            have j0d2 := (hcd2 w.heap.size 0 (by omega)).trans t0
            have j2d2 := (hcd2 w.heap.size 2 (by omega)).trans t2
            have e0d2 := (hcd2 b (off + k * 2) (by omega)).trans E0
            have e1d2 := (hcd2 b (off + k * 2 + 1) (by omega)).trans E1
            clear hcd2 hfd2
            go_wp2
            go_roundw
            case rel => exact ⟨k + 1, true, by omega, by go_num, rfl, HQ, by rw [HL.out]; simpa [KV.cells] using od2, xd2⟩
            case measure => simp [intOf]; omega
      · have hnk1 : posK m o.key < k + 1 := by omega
        have HL := Lib.hid (show outK m o (k + 1) = outK m o k ++ [m[k]] from outK_hi hlt hkq)
        have HQ := Lib.hid (show true = putK m o (k + 1) from by simp [putK, hnk1])
        obtain rfl : pb = true := by rw [HP.out]; simp [putK, hkq]
        clear HP
        have hle := geq_less m[k].key o.key
        rw [show less m[k].key o.key = false from by rw [Bool.eq_false_iff]; intro h; have := hl1.1 h; omega] at hle
        have heq : (m[k].key.toList == o.key.toList) = false := by rw [beq_eq_false_iff_ne]; intro h; have := hl2.1 h; first | omega | (rw [hh] at this; cases this.2)
        clear hl1 hl2
        obtain ⟨hca, hfa⟩ := bcellB hbl
        have j0a := (hca w.heap.size 0 (by omega)).trans t0
        have j2a := (hca w.heap.size 2 (by omega)).trans t2
        have e0a := (hca b (off + k * 2) (by omega)).trans E0
        have e1a := (hca b (off + k * 2 + 1) (by omega)).trans E1
        clear hca hfa
        clear HM hsh
        try clear hkq
        try clear hh
        try clear hnk
        try clear hnk1
        go_wp2
        go_quiet (fail)
        obtain ⟨wd1, hwd1⟩ : ∃ wd, wd = wr.drewN nq := ⟨_, rfl⟩
        rw [← hwd1]
        have od1 : wd1.ownsRow (w.heap.size + 1) 134 2 u5 (outK m o k).length ((outK m o k).map KV.cells).flatten := by rw [hwd1]; exact ho
        have xd1 : Below (w.heap.size + 1) W wd1 := by rw [hwd1]; exact below_drewN hbl _
        clear hwd1 ho hbl
        obtain ⟨hcd1, hfd1⟩ := bcellB xd1
        have j0d1 := (hcd1 w.heap.size 0 (by omega)).trans t0
        have j2d1 := (hcd1 w.heap.size 2 (by omega)).trans t2
        have e0d1 := (hcd1 b (off + k * 2) (by omega)).trans E0
        have e1d1 := (hcd1 b (off + k * 2 + 1) (by omega)).trans E1
        clear hcd1 hfd1
        clear j0a j2a e0a e1a
        go_wp2
        go_quiet (fail)
        obtain ⟨wd2, hwd2⟩ : ∃ wd, wd = wd1.drewN nq := ⟨_, rfl⟩
        rw [← hwd2]
        have od2 : wd2.ownsRow (w.heap.size + 1) 134 2 u5 (outK m o k).length ((outK m o k).map KV.cells).flatten := by rw [hwd2]; exact od1
        have xd2 : Below (w.heap.size + 1) W wd2 := by rw [hwd2]; exact below_drewN xd1 _
        clear hwd2 od1 xd1
        obtain ⟨hcd2, hfd2⟩ := bcellB xd2
        have j0d2 := (hcd2 w.heap.size 0 (by omega)).trans t0
        have j2d2 := (hcd2 w.heap.size 2 (by omega)).trans t2
        have e0d2 := (hcd2 b (off + k * 2) (by omega)).trans E0
        have e1d2 := (hcd2 b (off + k * 2 + 1) (by omega)).trans E1
        clear hcd2 hfd2
        go_wp2_with (at_builtin; go_loud (refine app_new rfl rfl Try.underlying43 info_KV rfl (by decide) od2 rfl 1 (by simp [Act.eval]) rfl (by simp [Value.oneCell']) (by omega) xd2 (Nat.le_refl _) (by have := Below.size xd2; omega) ?_; intro v6 w6 r6 x6 g6))
        go_roundw
        case rel => exact ⟨k + 1, true, by omega, by go_num, rfl, HQ, by rw [HL.out]; simpa [KV.cells] using r6, x6⟩
        case measure => simp [intOf]; omega
    · obtain rfl : k = m.length := by omega
      have hlen := outK_le m o m.length
      clear hsh
      rcases hp : putK m o m.length with _ | _
      · have HL := Lib.hid (outK_last m o hp)
        obtain rfl : pb = false := by rw [HP.out, hp]
        clear HP hp
        obtain ⟨hc, hf⟩ := bcellB hbl
        have j0 := (hc w.heap.size 0 (by omega)).trans t0
        have j2 := (hc w.heap.size 2 (by omega)).trans t2
        clear hc hf
        go_wp2_with (at_builtin; go_loud (refine app_new rfl rfl Try.underlying43 info_KV rfl (by decide) ho rfl 1 (by simp [Act.eval]) rfl (by simp [Value.oneCell']) (by omega) hbl (Nat.le_refl _) (by have := Below.size hbl; omega) ?_; intro v4 w4 r4 x4 g4))

        go_wp2
        go_ret
        exact ⟨_, rfl, by rw [← HL.out]; exact Row.up (by simpa [KV.cells] using r4) (by simp) (Nat.le_succ _), hal.trans (x4.mono (Nat.le_succ _))⟩
      · have HL := Lib.hid (outK_end m o hp)
        obtain rfl : pb = true := by rw [HP.out, hp]
        clear HP hp
        go_wp2
        go_ret
        exact ⟨_, rfl, by rw [← HL.out]; exact Row.up ho rfl (Nat.le_succ _), hal.trans (hbl.mono (Nat.le_succ _))⟩
end Go.Proofs.Ytfbbdnicplbmdaa
/- Walks: ApplyBatch of the reference, the whole. -/
set_option linter.unusedVariables false
set_option linter.unusedSimpArgs false
namespace Go.Proofs.Ytfbbdnicplbmdaa
open Go.RowKit Sp Go.Sort

set_option maxRecDepth 100000 in
set_option maxHeartbeats 1600000 in
theorem specApplyBatch_row (ad : Option Addr) (cap : Nat) (m : List KV) (ad2 : Option Addr) (cap2 : Nat) (l : List OpR) (w : World) (h : SlT KV.cells 2 w (.slice ad m.length cap) m) (h2 : SlT OpR.cells 3 w (.slice ad2 l.length cap2) l) (hl : (m.length : Int) ≤ 1048576) (hl2 : (l.length : Int) ≤ 1048576) (hq : mapB m = true → (m.length : Int) ≤ 1048000) :
    Calls Try.prog 24 #[.slice ad m.length cap, .slice ad2 l.length cap2] w fun e w' => ∃ v', e = .returned (.tuple #[v', .bool (applyB m l)]) ∧ Row KV.cells 134 2 w.heap.size w'.heap.size w' v' (applyL m l) ∧ Below w.heap.size w w' := by
  rcases hm : mapB m with _ | _
  · have HR := Lib.hid (applyL_not l hm)
    have HB := Lib.hid (show applyB m l = false by simp [applyB, hm])
    go_enter Try.func24, Try.ntmps24
    go_wp2_with (go_at_call 25; refine (specMapOk _ m _ h hl).mono ?_; rintro e w1 ⟨rfl, b1⟩; rw [hm])
    refine bodyPost_ret (v := .tuple #[.slice (some ⟨w1.heap.size, 0, none⟩) 0 0, .bool false]) (by simp [results, Try.results24, go_sem]) rfl ⟨_, by rw [HB.out], by rw [HR.out]; exact Row.of_own (World.ownsRow_lit w1 #[] 0 b1.size (by simp [maxLen]) rfl) rfl, b1.alloc b1.size _⟩
  · have hq' := hq hm
    have HMM := Lib.hid hm
    rcases hb : batchB l with _ | _
    · have HR := Lib.hid (applyL_same hm hb)
      have HB := Lib.hid (show applyB m l = false by simp [applyB, hm, hb])
      go_enter Try.func24, Try.ntmps24
      go_wp2_with fail
      refine (specMapOk _ m _ h hl).mono ?_
      rintro e w1 ⟨rfl, b1⟩
      rw [hm]
      have h0 : (w1.alloc (.cells #[] 134)).ownsRow w.heap.size 134 2 (.slice (some ⟨w1.heap.size, 0, none⟩) 0 0) 0 [] := World.ownsRow_lit w1 #[] 0 b1.size (by simp [maxLen]) rfl
      have x0 := b1.alloc b1.size (.cells #[] 134)
      go_wp2_with (first | (at_builtin; go_loud (refine app_recs rfl rfl Try.underlying43 info_KV rfl (by decide) h0 rfl ad cap (h.below x0) rfl (fun _ => rfl) kvOne' (by omega) x0 (Nat.le_refl _) x0.size ?_; intro v3 w3 r3 x3 g3)) | fail)
      refine (specBatchOk _ l _ (h2.below x3) hl2).mono ?_
      rintro e w4 ⟨rfl, b4⟩
      rw [hb]
      have x4 := x3.trans (b4.mono x3.size)
      have r4 := own_below r3 b4
      clear g3 r3 x3 h0 x0
      have R4 : Row KV.cells 134 2 w.heap.size w4.heap.size w4 v3 m := Row.of_own (by simpa using r4) (by simp)
      go_wp2
      refine bodyPost_ret (v := .tuple #[v3, .bool false]) (by simp [results, Try.results24, go_sem]) rfl ⟨_, by rw [HB.out], by rw [HR.out]; exact R4, x4⟩
    · have HR := Lib.hid (applyL_yes hm hb)
      have HB := Lib.hid (show applyB m l = true by simp [applyB, hm, hb])
      have HBB := Lib.hid hb
      have h6 := (batch_all hb).1
      go_enter Try.func24, Try.ntmps24
      go_wp2_with fail
      refine (specMapOk _ m _ h hl).mono ?_
      rintro e w1 ⟨rfl, b1⟩
      rw [hm]
      have h0 : (w1.alloc (.cells #[] 134)).ownsRow w.heap.size 134 2 (.slice (some ⟨w1.heap.size, 0, none⟩) 0 0) 0 [] := World.ownsRow_lit w1 #[] 0 b1.size (by simp [maxLen]) rfl
      have x0 := b1.alloc b1.size (.cells #[] 134)
      go_wp2_with (first | (at_builtin; go_loud (refine app_recs rfl rfl Try.underlying43 info_KV rfl (by decide) h0 rfl ad cap (h.below x0) rfl (fun _ => rfl) kvOne' (by omega) x0 (Nat.le_refl _) x0.size ?_; intro v3 w3 r3 x3 g3)) | fail)
      refine (specBatchOk _ l _ (h2.below x3) hl2).mono ?_
      rintro e w4 ⟨rfl, b4⟩
      rw [hb]
      have x4 := x3.trans (b4.mono x3.size)
      have r4 := own_below r3 b4
      clear g3 r3 x3 h0 x0
      have R4 : Row KV.cells 134 2 w.heap.size w4.heap.size w4 v3 m := Row.of_own (by simpa using r4) (by simp)
      clear h r4 hm hb hq
      obtain ⟨ao2, cp2, hv2, _, _, hsh⟩ := h2.shape
      obtain ⟨rfl, rfl⟩ : ad2 = ao2 ∧ cap2 = cp2 := by simpa using hv2
      clear h2 hv2
      go_wp2
      go_loopw [6, 7] (fun o i wr => ∃ k : Nat, k ≤ l.length ∧ i = .int .i64 k ∧ Row KV.cells 134 2 w.heap.size wr.heap.size wr o (puts m (l.take k)) ∧ RowKit.Below w.heap.size w wr) (fun _ i _ => l.length - (intOf i).toNat)
      case atStart => exact ⟨0, by omega, rfl, by simpa [puts] using R4, x4⟩
      case round =>
        clear R4 x4
        obtain ⟨k, hk, rfl, hr, hbl⟩ := hrel
        have zb := hbl.size
        obtain ⟨hok, hlen⟩ := puts_ok HMM.out HBB.out k hk
        by_cases hlt : k < l.length
        · have HP := Lib.hid (puts_step m l k hlt)
          obtain ⟨b, off, hbo, hbs, hcc⟩ := hsh (by omega)
          subst hbo
          have e0 : wr.cell? ⟨b, off + k * 3, none⟩ = some (.string l[k].key) := (hbl.cell (p := ⟨b, off + k * 3, none⟩) hbs).trans (hcc k hlt 0 _ rfl)
          have e1 : wr.cell? ⟨b, off + k * 3 + 1, none⟩ = some (.bool l[k].del) := (hbl.cell (p := ⟨b, off + k * 3 + 1, none⟩) hbs).trans (hcc k hlt 1 _ rfl)
          have e2 : wr.cell? ⟨b, off + k * 3 + 2, none⟩ = some (.string l[k].val) := (hbl.cell (p := ⟨b, off + k * 3 + 2, none⟩) hbs).trans (hcc k hlt 2 _ rfl)
          clear hcc hsh
          go_wp2_with fail
          refine (l7Put_any _ (puts m (l.take k)) l[k] _ (hr.slT (fun _ => rfl) (by decide)) (by omega) hok).mono ?_
          rintro e w2 ⟨v2, rfl, r2, b2⟩
          have x2 := hbl.trans (b2.mono zb)
          have r3 := r2.wide zb (Nat.le_refl _)
          rw [← HP.out] at r3
          clear r2 b2 hr hbl
          go_wp2
          go_roundw
          case rel => exact ⟨k + 1, by omega, by go_num, r3, x2⟩
          case measure => simp [intOf]; omega
        · obtain rfl : k = l.length := by omega
          clear hsh
          go_wp2
          refine bodyPost_ret (v := .tuple #[u6, .bool true]) (by simp [results, Try.results24, go_sem]) rfl ⟨_, by rw [HB.out], by rw [HR.out]; exact hr, hbl⟩
theorem specApplyBatch (ad : Option Addr) (cap : Nat) (m : List KV) (ad2 : Option Addr) (cap2 : Nat) (l : List OpR) (w : World) (h : SlT KV.cells 2 w (.slice ad m.length cap) m) (h2 : SlT OpR.cells 3 w (.slice ad2 l.length cap2) l) (hl : (m.length : Int) ≤ 1048576) (hl2 : (l.length : Int) ≤ 1048576) (hq : mapB m = true → (m.length : Int) ≤ 1048000) :
    Calls Try.prog 24 #[.slice ad m.length cap, .slice ad2 l.length cap2] w fun e w' => ∃ v', e = .returned (.tuple #[v', .bool (applyB m l)]) ∧ SlT KV.cells 2 w' v' (applyL m l) ∧ Below w.heap.size w w' := by
  refine (specApplyBatch_row ad cap m ad2 cap2 l w h h2 hl hl2 hq).mono ?_
  rintro r w' ⟨v', rfl, h, b⟩
  exact ⟨v', rfl, h.slT (fun _ => rfl) (by decide), b⟩
end Go.Proofs.Ytfbbdnicplbmdaa
/- Walks: what a strings.Builder's WriteString does. -/
set_option linter.unusedVariables false
set_option linter.unusedSimpArgs false
namespace Go.Proofs.Ytfbbdnicplbmdaa
open Go.RowKit Sp

set_option maxRecDepth 100000 in
set_option maxHeartbeats 1000000 in
theorem copyUsed (b : Nat) (w : World) (h0 : w.cell? ⟨b, 0, none⟩ = some (.pointer (some ⟨b, 0, none⟩))) :
    Calls Try.prog 144 #[.pointer (some ⟨b, 0, none⟩)] w fun e w' => e = .returned (.tuple #[]) ∧ w' = w := by
  have hi : (Try.prog.info? 105).map (fun i => i.size) = some 2 := by kernel_rfl
  obtain ⟨j, hj, _⟩ := Option.map_eq_some_iff.1 hi
  have hne := Lib.run_neq_ptr_same (P := Try.prog) w ⟨b, 0, none⟩ Try.underlying103 hj
  go_enter Try.func144, Try.ntmps144
  go_wp2
  go_end0
  exact ⟨rfl, rfl⟩

set_option maxRecDepth 100000 in
set_option maxHeartbeats 1000000 in
theorem copyFresh (b : Nat) (w : World) (h0 : w.cell? ⟨b, 0, none⟩ = some (.pointer none)) (hsh : w.shape? b = some (105, 2)) (hfz : w.frozen? ⟨b, 0, none⟩ = false) :
    Calls Try.prog 144 #[.pointer (some ⟨b, 0, none⟩)] w fun e w' => e = .returned (.tuple #[]) ∧ w' = w.setCell ⟨b, 0, none⟩ (.pointer (some ⟨b, 0, none⟩)) := by
  have hi : (Try.prog.info? 105).map (fun i => i.size) = some 2 := by kernel_rfl
  obtain ⟨j, hj, hjs⟩ := Option.map_eq_some_iff.1 hi
  have hto := Lib.run_to_unsafe (P := Try.prog) w ⟨b, 0, none⟩ Try.underlying103 Try.underlying195 hj (by rw [hjs]; decide) hsh (Nat.zero_lt_succ 1)
  have hfr := Lib.run_from_unsafe (P := Try.prog) w ⟨b, 0, none⟩ Try.underlying195 Try.underlying103 hj hsh (by kernel_rfl)
  have hne : ∀ args, (callFunc 178 args).run Try.prog w = ((Extern.AbiNoEscape.same args).run Try.prog w).andThen fun v w' => .ok (.value v) w' := fun args => run_callFunc_extern Try.func178 (by kernel_rfl) (by kernel_rfl) (by kernel_rfl) (e := Extern.AbiNoEscape.same) (by kernel_rfl) args w
  have hse : ∀ x : Value, (Extern.AbiNoEscape.same #[x]).run Try.prog w = .ok x w := fun x => rfl
  go_enter Try.func144, Try.ntmps144
  go_wp2
  go_end0
  exact ⟨rfl, rfl⟩

theorem bld_below {T e : TypeId} {B b : Nat} {bs : List Value} {w w' : World} (h : Lib.IsBuilder T e B b bs w) (hb : Below w.heap.size w w') : Lib.IsBuilder T e B b bs w' := by
  have key : ∀ p, Lib.BuilderAt T e B b p bs w → Lib.BuilderAt T e B b p bs w' := by
    rintro p ⟨hB, v, hbk, hown, hne⟩
    exact ⟨hB, v, (hb.block b (Array.getElem?_eq_some_iff.1 hbk).1).trans hbk, hown.kept ⟨hb.os, hb.tape, hb.output, hb.size, fun k hk _ => hb.block k hk⟩ (row := none) (by cases h : v.ownBlock with | none => exact .inl rfl | some x => exact .inr (by simp)), hne⟩
  exact h.imp (key _) (key _)
set_option maxRecDepth 100000 in
set_option maxHeartbeats 1000000 in
/-- WriteString: the bytes behind those that the builder holds. -/
theorem writeStr_any (B b : Nat) (l : List UInt8) (s : ByteArray) (w : World) (h : Lib.IsBuilder 105 5 B b (Lib.byteCells l) w) (hlen : (l.length : Int) + s.size ≤ 140737488355328) (hBw : B ≤ w.heap.size) :
    Calls Try.prog 76 #[.pointer (some ⟨b, 0, none⟩), .string s] w fun e w' => e = .returned (.tuple #[.int .i64 s.size, .nilIface]) ∧ Lib.IsBuilder 105 5 B b (Lib.byteCells (l ++ s.data.toList)) w' ∧ Below B w w' ∧ (∀ (k : Nat) (cs : Array Value) (T : TypeId) (fr : Nat × Nat), w.heap[k]? = some (.cells cs T fr) → T ≠ 5 → k ≠ b → w'.heap[k]? = some (.cells cs T fr)) := by
  obtain ⟨i0, hi, hz0, hz1, hz2⟩ := info_parts info_u8
  have hcc : Calls Try.prog 144 #[.pointer (some ⟨b, 0, none⟩)] w fun e w' => e = .returned (.tuple #[]) ∧ Lib.BuilderAt 105 5 B b (.pointer (some ⟨b, 0, none⟩)) (Lib.byteCells l) w' ∧ Below B w w' ∧ ∀ k, k ≠ b → w'.heap[k]? = w.heap[k]? := by
    rcases h with h | h
    · refine (copyFresh b w h.cell0 h.shape h.frozen0).mono ?_
      rintro e w' ⟨rfl, rfl⟩
      exact ⟨rfl, h.used _, (Below.refl B w).setCell (p := ⟨b, 0, none⟩) h.1 _, fun k hk => Below.heap_setCell _ _ _ _ (fun e => hk e)⟩
    · refine (copyUsed b w h.cell0).mono ?_
      rintro e w' ⟨rfl, rfl⟩
      exact ⟨rfl, h, Below.refl B _, fun k hk => rfl⟩
  have hbl := Lib.byteCells_length l
  have HC := Lib.hid hcc
  clear hcc h
  go_enter Try.func76, Try.ntmps76
  go_wp2_with fail
  refine HC.out.mono ?_
  rintro e w1 ⟨rfl, ⟨hB, v, hbk, hown, hne⟩, b1, hk1⟩
  have hlt : b < w1.heap.size := (Array.getElem?_eq_some_iff.1 hbk).1
  have c1 : w1.cell? ⟨b, 1, none⟩ = some v := by rw [Lib.cell_of_heap hbk]; rfl
  go_wp2_with (at_builtin; refine Lib.wpList_append_own_string _ rfl _ _ 22 9 rfl B 5 i0 Try.underlying22 Try.underlying9 hi hz0 hz1 hz2 _ _ _ rfl hown s rfl ?c3 ?c4 ?c5 ?_)
  case c3 => rw [hbl]; unfold maxLen; omega
  case c4 => rw [hbl]; omega
  case c5 => have := b1.size; omega
  intro v' w2 hown' hgrow _
  have hb2 : w2.heap[b]? = some (.cells #[.pointer (some ⟨b, 0, none⟩), v] 105 (0, 0)) := by
    rw [hgrow.block b hlt (fun e => hne e.symm)]; exact hbk
  have d1 : w2.cell? ⟨b, 1, none⟩ = some v := by rw [Lib.cell_of_heap hb2]; rfl
  have f1 : w2.frozen? ⟨b, 1, none⟩ = false := Lib.frozen_of_heap hb2 1
  have hx : Lib.byteCells l ++ Lib.strCells s = Lib.byteCells (l ++ s.data.toList) := by
    unfold Lib.byteCells Lib.strCells; rw [List.map_append]
  have hll : l.length + s.size = (Lib.byteCells (l ++ s.data.toList)).length := by
    rw [Lib.byteCells_length, List.length_append]; simp
  rw [hx, hll] at hown'
  have hput := Lib.BuilderAt.put hB hb2 hown' (by decide)
  have x2 : Below B w w2 := b1.trans ⟨hgrow.os, hgrow.tape, hgrow.output, hgrow.size, fun k hk => hgrow.block k (by have := b1.size; omega) (by intro he; have := (hown.lt k he.symm).1; omega)⟩
  have x3 := x2.setCell (p := ⟨b, 1, none⟩) hB v'
  have hk3 : ∀ (k : Nat) (cs : Array Value) (T : TypeId) (fr : Nat × Nat), w.heap[k]? = some (.cells cs T fr) → T ≠ 5 → k ≠ b → (w2.setCell ⟨b, 1, none⟩ v').heap[k]? = some (.cells cs T fr) := by
    intro k cs T fr hk hT hkb
    have e1 := (hk1 k hkb).trans hk
    have hno := Lib.ownBlock_ne hown e1 hT
    rw [Below.heap_setCell _ _ _ _ (fun e => hkb e), hgrow.block k (Array.getElem?_eq_some_iff.1 e1).1 (fun e => hno e.symm)]
    exact e1
  obtain ⟨ao, n', c', rfl⟩ : ∃ ao n c, v' = .slice ao n c := by
    rcases hown'.2 with ⟨h, _⟩ | ⟨g, cap, cur, h, _⟩
    · exact ⟨_, _, _, h⟩
    · exact ⟨_, _, _, h⟩
  clear hown' hown hgrow hbk hx hll hbl HC b1 c1
  go_wp2
  go_ret2
  exact ⟨rfl, .inr hput, x3, hk3⟩
end Go.Proofs.Ytfbbdnicplbmdaa
set_option linter.unusedVariables false
set_option linter.unusedSimpArgs false
namespace Go.Proofs.Ytfbbdnicplbmdaa
open Go.RowKit Sp Go.Sort
attribute [local go_sem] str_size str_append
namespace Sp
def opL (x : OpR) : List UInt8 := if x.del then 1 :: pieL x.key.data.toList else 0 :: (pieL x.key.data.toList ++ pieL x.val.data.toList)
def opsL (l : List OpR) : List UInt8 := l.flatMap opL
def showBL (l : List OpR) : List UInt8 := if batchB l then varL l.length ++ opsL l else []
theorem opsL_snoc (l : List OpR) (k : Nat) (h : k < l.length) : opsL (l.take (k + 1)) = opsL (l.take k) ++ opL l[k] := by
  rw [show l.take (k + 1) = l.take k ++ [l[k]] from by rw [List.take_add_one, List.getElem?_eq_getElem h]; rfl]
  unfold opsL
  rw [List.flatMap_append, List.flatMap_singleton]
theorem pieL_len (s : ByteArray) : (pieL s.data.toList).length ≤ 7 + s.size := by
  have h4 := varL_length (s.data.toList.length : Int)
  simp [pieL] at *
  omega
theorem opL_len (x : OpR) (h : opR x = true) : (opL x).length ≤ 41 := by
  have h1 := pieL_len x.key
  have h2 := pieL_len x.val
  simp only [opR, opB, keyB, valB, Bool.and_eq_true, inB_iff, decide_eq_true_eq] at h
  unfold opL
  split <;> simp <;> omega
theorem batch_ops {l : List OpR} (h : batchB l = true) : (l.length : Int) ≤ 6 ∧ ∀ k (hk : k < l.length), opR l[k] = true := by
  unfold batchB at h
  rw [Bool.and_eq_true] at h
  refine ⟨(inB_iff.1 h.1).2, fun k hk => ?_⟩
  have := allIx_spec h.2 k hk
  rwa [opAt_in hk] at this
theorem opsL_len {l : List OpR} (h : batchB l = true) (k : Nat) (hk : k ≤ l.length) : (opsL (l.take k)).length ≤ 41 * k := by
  induction k with
  | zero => simp [opsL]
  | succ k ih =>
    rw [opsL_snoc l k (by omega), List.length_append]
    have := opL_len l[k] ((batch_ops h).2 k (by omega))
    have := ih (by omega)
    omega
theorem showBL_not {l : List OpR} (h : batchB l = false) : showBL l = [] := by simp [showBL, h]
theorem showBL_yes {l : List OpR} (h : batchB l = true) : showBL l = varL l.length ++ opsL l := by simp [showBL, h]
end Sp
theorem str_zero (a : List UInt8) : str a ++ (ByteArray.mk #[0]) = str (a ++ [0]) := str_append a [0]
theorem str_one (a : List UInt8) : str a ++ (ByteArray.mk #[1]) = str (a ++ [1]) := str_append a [1]
attribute [local go_sem] str_zero str_one
set_option maxRecDepth 100000 in
theorem flag_no (w : World) : Calls Try.prog 101 #[.bool false] w fun e w' => e = .returned (.string (str [0])) ∧ w = w' := by
  go_enter Try.func101, Try.ntmps101
  go_wp2
  go_ret
  exact ⟨rfl, rfl⟩
set_option maxRecDepth 100000 in
theorem flag_yes (w : World) : Calls Try.prog 101 #[.bool true] w fun e w' => e = .returned (.string (str [1])) ∧ w = w' := by
  go_enter Try.func101, Try.ntmps101
  go_wp2
  go_ret
  exact ⟨rfl, rfl⟩

set_option maxRecDepth 100000 in
set_option maxHeartbeats 1600000 in
theorem specShowBatch (v : Value) (l : List OpR) (w : World) (h : SlT OpR.cells 3 w v l) (hl : (l.length : Int) ≤ 1048576) :
    Calls Try.prog 103 #[v] w fun e w' => e = .returned (.string (str (showBL l))) ∧ Below w.heap.size w w' := by
  have hh := h
  obtain ⟨ao, cap, rfl, hlc, hcm, hsh⟩ := h.shape
  rcases hb : batchB l with _ | _
  · have HR := Lib.hid (showBL_not hb)
    clear hsh
    go_enter Try.func103, Try.ntmps103
    go_wp2_with fail
    refine (specBatchOk _ l _ hh hl).mono ?_
    rintro e w1 ⟨rfl, b1⟩
    rw [hb]
    go_wp2
    go_ret
    exact ⟨by rw [HR.out]; rfl, b1⟩
  · have HR := Lib.hid (showBL_yes hb)
    have hops := batch_ops hb
    have hlen := fun k hk => opsL_len hb k hk
    have HL := Lib.hid hlen
    have HO := Lib.hid hops.2
    have h6 := hops.1
    have vl := varL_length (l.length : Int)
    clear hops hlen
    go_enter Try.func103, Try.ntmps103
    go_wp2_with fail
    refine (specBatchOk _ l _ hh hl).mono ?_
    rintro e w1 ⟨rfl, b1⟩
    rw [hb]
    clear hb
    go_wp2_with fail
    refine (specVar _ _).mono ?_
    rintro e w2 ⟨rfl, b2⟩
    have x2 := b1.trans (b2.mono b1.size)
    go_wp2
    go_loopw [3, 4] (fun s i wr => ∃ k : Nat, (k : Int) ≤ l.length ∧ i = .int .i64 k ∧ s = .string (str (varL l.length ++ opsL (l.take k))) ∧ Below w.heap.size w wr) (fun _ i _ => l.length - (intOf i).toNat)
    case atStart => exact ⟨0, by omega, rfl, by simp [opsL], x2⟩
    case round =>
      obtain ⟨k, hk, rfl, rfl, hbl⟩ := hrel
      by_cases hlt : (k : Int) < l.length
      · have hltn : k < l.length := by omega
        obtain ⟨b, off, rfl, hb, hc⟩ := hsh (by omega)
        have hc0 : wr.cell? ⟨b, off + k * 3, none⟩ = some (.string l[k].key) := (hbl.cell (by exact hb)).trans (hc k hltn 0 _ rfl)
        have hc1 : wr.cell? ⟨b, off + k * 3 + 1, none⟩ = some (.bool l[k].del) := (hbl.cell (by exact hb)).trans (hc k hltn 1 _ rfl)
        have hc2 : wr.cell? ⟨b, off + k * 3 + 2, none⟩ = some (.string l[k].val) := (hbl.cell (by exact hb)).trans (hc k hltn 2 _ rfl)
        have hopk := HO.out k hltn
        have hsz : (l[k].key.size : Int) ≤ 10 ∧ (l[k].val.size : Int) ≤ 16 := by
          simp only [opR, opB, keyB, valB, Bool.and_eq_true, inB_iff, decide_eq_true_eq] at hopk
          omega
        have hl1 := HL.out k (by omega)
        have p1 := pieL_len l[k].key
        have p2 := pieL_len l[k].val
        have hsn := opsL_snoc l k hltn
        have hpl : opL l[k] = if l[k].del then 1 :: pieL l[k].key.data.toList else 0 :: (pieL l[k].key.data.toList ++ pieL l[k].val.data.toList) := rfl
        have HS := Lib.hid hsn
        clear hsn hopk hsh h hc
        rcases hd : l[k].del with _ | _
        · rw [hd] at hc1 hpl
          have HP := Lib.hid hpl
          clear hpl
          have kc0 := cell_regrown hc0
          have kc2 := cell_regrown hc2
          have cK : ∀ d os, Calls Try.prog 132 #[.string l[k].key] (grow (redrawn wr d) os) fun e w'' => e = .returned (.string (str (pieL l[k].key.data.toList))) ∧ ∃ p : Regrown, w'' = grow (redrawn wr p.d) p.os := fun d os => Calls.regrown_of (l6Piece_any _ _ (by omega))
          have cV : ∀ d os, Calls Try.prog 132 #[.string l[k].val] (grow (redrawn wr d) os) fun e w'' => e = .returned (.string (str (pieL l[k].val.data.toList))) ∧ ∃ p : Regrown, w'' = grow (redrawn wr p.d) p.os := fun d os => Calls.regrown_of (l6Piece_any _ _ (by omega))
          go_wp2
          refine wp_region_quiet_below (by kernel_rfl) (by kernel_rfl) ?_
          iterate 7 (go_big_quiet_step (fail))
          go_big_quiet_step (exact cK _ _)
          iterate 6 (go_big_quiet_step (fail))
          go_big_quiet_step (exact cV _ _)
          repeat (go_big_quiet_step (fail))
          refine wpQuiet_nil ?_
          intro w4 hw'
          have x4 : RowKit.Below w.heap.size w w4 := by obtain ⟨p, rfl⟩ := hw'; exact hbl.trans ((below_regrown _ _ _).mono hbl.size)
          clear hw' cK cV kc0 kc2
          go_wp2
          go_roundw
          case rel => exact ⟨k + 1, by omega, by go_num, by rw [HS.out, HP.out]; simp, x4⟩
          case measure => simp [intOf]; omega
        · rw [hd] at hc1 hpl
          have HP := Lib.hid hpl
          clear hpl
          go_wp2_with fail
          refine (l6Piece_any _ _ (by omega)).mono ?_
          rintro e w4 ⟨rfl, b4⟩
          have x4 := hbl.trans (b4.mono hbl.size)
          go_wp2
          go_roundw
          case rel => exact ⟨k + 1, by omega, by go_num, by rw [HS.out, HP.out]; simp, x4⟩
          case measure => simp [intOf]; omega
      · obtain rfl : k = l.length := by omega
        clear hsh h
        go_wp2
        go_ret
        exact ⟨by rw [HR.out]; rfl, hbl⟩

set_option maxRecDepth 100000 in
set_option maxHeartbeats 1600000 in
theorem implShowBatch (v : Value) (l : List OpR) (w : World) (h : SlT OpR.cells 3 w v l) (hl : (l.length : Int) ≤ 1048576) :
    Calls Try.prog 30 #[v] w fun e w' => e = .returned (.string (str (showBL l))) ∧ Below w.heap.size w w' := by
  have hh := h
  obtain ⟨ao, cap, rfl, hlc, hcm, hsh⟩ := h.shape
  rcases hb : batchB l with _ | _
  · have HR := Lib.hid (showBL_not hb)
    clear hsh
    go_enter Try.func30, Try.ntmps30
    go_wp2_with fail
    refine (implBatchOk _ l _ hh hl).mono ?_
    rintro e w1 ⟨rfl, b1⟩
    rw [hb]
    go_wp2
    go_ret
    exact ⟨by rw [HR.out]; rfl, b1⟩
  · have HR := Lib.hid (showBL_yes hb)
    have hops := batch_ops hb
    have hlen := fun k hk => opsL_len hb k hk
    have HL := Lib.hid hlen
    have HO := Lib.hid hops.2
    have h6 := hops.1
    have vl := varL_length (l.length : Int)
    clear hops hlen
    go_enter Try.func30, Try.ntmps30
    go_wp2_with fail
    refine (implBatchOk _ l _ hh hl).mono ?_
    rintro e w1 ⟨rfl, b1⟩
    rw [hb]
    clear hb
    have hbld := Lib.fresh_isBuilder 105 5 w1
    have xb : RowKit.Below w1.heap.size w1 (w1.alloc (.cells #[.pointer none, .slice none 0 0] 105)) := (Below.refl _ _).alloc (Nat.le_refl _) _
    go_wp2_with fail
    refine (implVar _ _).mono ?_
    rintro e w2 ⟨rfl, b2⟩
    have hb2 := bld_below hbld b2
    have x2 : RowKit.Below w.heap.size w w2 := (b1.trans (xb.mono b1.size)).trans (b2.mono (Nat.le_trans b1.size xb.size))
    have hz2 : w1.heap.size < w2.heap.size := Nat.lt_of_lt_of_le (by simp) b2.size
    go_wp2_with fail
    refine (writeStr_any w1.heap.size w1.heap.size [] (str (varL l.length)) _ hb2 (by rw [str_size]; simp; omega) (Nat.le_of_lt hz2)).mono ?_
    rintro e w3 ⟨rfl, hb3, b3, _⟩
    have hb3' : Lib.IsBuilder 105 5 w1.heap.size w1.heap.size (Lib.byteCells (varL l.length ++ opsL (l.take 0))) w3 := by simpa [str_data, opsL] using hb3
    have x3 := x2.trans (b3.mono b1.size)
    have hz3 : w1.heap.size < w3.heap.size := Nat.lt_of_lt_of_le hz2 b3.size
    clear hb3 hb2 hbld xb b2
    go_wp2
    go_loopw [15] (fun i wr => ∃ k : Nat, (k : Int) ≤ l.length ∧ i = .int .i64 k ∧ Lib.IsBuilder 105 5 w1.heap.size w1.heap.size (Lib.byteCells (varL l.length ++ opsL (l.take k))) wr ∧ Below w.heap.size w wr ∧ w1.heap.size < wr.heap.size) (fun i _ => l.length - (intOf i).toNat)
    case atStart => exact ⟨0, by omega, rfl, hb3', x3, hz3⟩
    case round =>
      obtain ⟨k, hk, rfl, hbd, hbl, hzr⟩ := hrel
      clear hb3' x3
      by_cases hlt : (k : Int) < l.length
      · have hltn : k < l.length := by omega
        obtain ⟨b, off, rfl, hb, hc⟩ := hsh (by omega)
        have hc0 : wr.cell? ⟨b, off + k * 3, none⟩ = some (.string l[k].key) := (hbl.cell (by exact hb)).trans (hc k hltn 0 _ rfl)
        have hc1 : wr.cell? ⟨b, off + k * 3 + 1, none⟩ = some (.bool l[k].del) := (hbl.cell (by exact hb)).trans (hc k hltn 1 _ rfl)
        have hc2 : wr.cell? ⟨b, off + k * 3 + 2, none⟩ = some (.string l[k].val) := (hbl.cell (by exact hb)).trans (hc k hltn 2 _ rfl)
        have hopk := HO.out k hltn
        have hsz : (l[k].key.size : Int) ≤ 10 ∧ (l[k].val.size : Int) ≤ 16 := by
          simp only [opR, opB, keyB, valB, Bool.and_eq_true, inB_iff, decide_eq_true_eq] at hopk
          omega
        have hl1 := HL.out k (by omega)
        have p1 := pieL_len l[k].key
        have p2 := pieL_len l[k].val
        have hsn := opsL_snoc l k hltn
        have hpl : opL l[k] = if l[k].del then 1 :: pieL l[k].key.data.toList else 0 :: (pieL l[k].key.data.toList ++ pieL l[k].val.data.toList) := rfl
        have HS := Lib.hid hsn
        have xo : RowKit.Below wr.heap.size wr (wr.alloc (.cells #[.string l[k].key, .bool l[k].del, .string l[k].val] 138)) := (Below.refl _ _).alloc (Nat.le_refl _) _
        have hbA := bld_below hbd xo
        have xA := hbl.trans (xo.mono hbl.size)
        have hoA : (wr.alloc (.cells #[.string l[k].key, .bool l[k].del, .string l[k].val] 138)).heap[wr.heap.size]? = some (.cells #[.string l[k].key, .bool l[k].del, .string l[k].val] 138 (0, 0)) := heap_alloc_new wr _
        have hzA : wr.heap.size < (wr.alloc (.cells #[.string l[k].key, .bool l[k].del, .string l[k].val] 138)).heap.size := by simp
        have HBA := Lib.hid hbA
        have HOA := Lib.hid hoA
        clear hsn hopk hsh h hc hbd hbA hoA
        generalize l[k].key = ky at *
        generalize l[k].val = vl' at *
        generalize l[k].del = dl at *
        generalize hT : opsL (l.take k) = T at *
        go_wp2
        have d0 : (wr.alloc (.cells #[.string ky, .bool dl, .string vl'] 138)).cell? ⟨wr.heap.size, 0, none⟩ = some (.string ky) := by rw [Lib.cell_of_heap HOA.out]; rfl
        have d1 : (wr.alloc (.cells #[.string ky, .bool dl, .string vl'] 138)).cell? ⟨wr.heap.size, 1, none⟩ = some (.bool dl) := by rw [Lib.cell_of_heap HOA.out]; rfl
        generalize wr.alloc (.cells #[.string ky, .bool dl, .string vl'] 138) = wA at *
        have e0 : wA.drew.cell? ⟨wr.heap.size, 0, none⟩ = some (.string ky) := d0
        have e1 : wA.drew.cell? ⟨wr.heap.size, 1, none⟩ = some (.bool dl) := d1
        have hkl : (ky.size : Int) ≤ 1048576 := by omega
        clear hc0 hc1 hc2
        have HBD := Lib.hid (show Lib.IsBuilder 105 5 w1.heap.size w1.heap.size (Lib.byteCells (varL l.length ++ T)) wA.drew from HBA.out)
        have HOD := Lib.hid (show wA.drew.heap[wr.heap.size]? = some (.cells #[.string ky, .bool dl, .string vl'] 138 (0, 0)) from HOA.out)
        have xAd : RowKit.Below w.heap.size w wA.drew := below_drewN xA 1
        have hzA2 : w1.heap.size ≤ wA.drew.heap.size := Nat.le_of_lt (Nat.lt_trans hzr hzA)
        have hvl : (vl'.size : Int) ≤ 1048576 := by omega
        cases dl
        · have HP := Lib.hid (show opL l[k] = 0 :: (pieL ky.data.toList ++ pieL vl'.data.toList) by rw [hpl]; rfl)
          clear hpl
          have hcat : ¬ 9223372036854775807 < 1 + (pieL ky.data.toList).length := by omega
          have hlenA : (((varL l.length ++ T).length : Nat) : Int) + (str (0 :: pieL ky.data.toList)).size ≤ 140737488355328 := by rw [str_size]; simp; omega
          go_region_law (first
            | (go_simp; go_at_call 101; refine (flag_no _).mono ?_; rintro e w' ⟨rfl, rfl⟩)
            | (go_simp; go_at_call 78; refine (short_any ky _ hkl).mono ?_; rintro e w5 ⟨rfl, b5⟩)
            | (go_simp; go_at_call 76; refine (writeStr_any w1.heap.size w1.heap.size (varL l.length ++ T) (str (0 :: pieL ky.data.toList)) _ (bld_below HBD.out b5) hlenA (Nat.le_trans hzA2 b5.size)).mono ?_; rintro e w6 ⟨rfl, hb6, b6, k6⟩)
            | (go_simp; go_at_call 76; trace_state; fail))
          all_goals
            have x5 := xAd.trans (b5.mono xAd.size)
            have x6 := x5.trans (b6.mono b1.size)
            have o5 := (b5.block wr.heap.size hzA).trans HOD.out
            have o6 := k6 _ _ _ _ o5 (by decide) (by omega)
            have f0 : w6.cell? ⟨wr.heap.size, 0, none⟩ = some (.string ky) := by rw [Lib.cell_of_heap o6]; rfl
            have f1 : w6.cell? ⟨wr.heap.size, 1, none⟩ = some (.bool false) := by rw [Lib.cell_of_heap o6]; rfl
            have f2 : w6.cell? ⟨wr.heap.size, 2, none⟩ = some (.string vl') := by rw [Lib.cell_of_heap o6]; rfl
            rw [str_data] at hb6
            have z6 : w1.heap.size < w6.heap.size := Nat.lt_of_lt_of_le hzr (Nat.le_trans (Nat.le_of_lt hzA) (Nat.le_trans b5.size b6.size))
            clear o5 o6 k6 b6 b5 x5 d0 d1 e0 e1
            go_wp2_with fail
            refine (short_any vl' _ hvl).mono ?_
            rintro e w7 ⟨rfl, b7⟩
            have x7 := x6.trans (b7.mono x6.size)
            have hb7 := bld_below hb6 b7
            have z7 := Nat.lt_of_lt_of_le z6 b7.size
            go_wp2_with fail
            refine (writeStr_any w1.heap.size w1.heap.size _ (str (pieL vl'.data.toList)) _ hb7 (by rw [str_size]; simp; omega) (Nat.le_of_lt z7)).mono ?_
            rintro e w8 ⟨rfl, hb8, b8, _⟩
            have x8 := x7.trans (b8.mono b1.size)
            have z8 := Nat.lt_of_lt_of_le z7 b8.size
            rw [str_data] at hb8
            go_wp2
            go_roundw
            case rel => exact ⟨k + 1, by omega, by go_num, by rw [HS.out, HP.out]; simpa using hb8, x8, z8⟩
            case measure => simp [intOf]; omega
        · have HP := Lib.hid (show opL l[k] = 1 :: pieL ky.data.toList by rw [hpl]; rfl)
          clear hpl
          have hcat : ¬ 9223372036854775807 < 1 + (pieL ky.data.toList).length := by omega
          have hlenA : (((varL l.length ++ T).length : Nat) : Int) + (str (1 :: pieL ky.data.toList)).size ≤ 140737488355328 := by rw [str_size]; simp; omega
          go_region_law (first
            | (go_simp; go_at_call 101; refine (flag_yes _).mono ?_; rintro e w' ⟨rfl, rfl⟩)
            | (go_simp; go_at_call 78; refine (short_any ky _ hkl).mono ?_; rintro e w5 ⟨rfl, b5⟩)
            | (go_simp; go_at_call 76; refine (writeStr_any w1.heap.size w1.heap.size (varL l.length ++ T) (str (1 :: pieL ky.data.toList)) _ (bld_below HBD.out b5) hlenA (Nat.le_trans hzA2 b5.size)).mono ?_; rintro e w6 ⟨rfl, hb6, b6, k6⟩)
            | (go_simp; go_at_call 76; trace_state; fail))
          all_goals
            have x5 := xAd.trans (b5.mono xAd.size)
            have x6 := x5.trans (b6.mono b1.size)
            have o5 := (b5.block wr.heap.size hzA).trans HOD.out
            have o6 := k6 _ _ _ _ o5 (by decide) (by omega)
            have f0 : w6.cell? ⟨wr.heap.size, 0, none⟩ = some (.string ky) := by rw [Lib.cell_of_heap o6]; rfl
            have f1 : w6.cell? ⟨wr.heap.size, 1, none⟩ = some (.bool true) := by rw [Lib.cell_of_heap o6]; rfl
            have f2 : w6.cell? ⟨wr.heap.size, 2, none⟩ = some (.string vl') := by rw [Lib.cell_of_heap o6]; rfl
            rw [str_data] at hb6
            have z6 : w1.heap.size < w6.heap.size := Nat.lt_of_lt_of_le hzr (Nat.le_trans (Nat.le_of_lt hzA) (Nat.le_trans b5.size b6.size))
            clear o5 o6 k6 b6 b5 x5 d0 d1 e0 e1
            go_wp2
            go_roundw
            case rel => exact ⟨k + 1, by omega, by go_num, by rw [HS.out, HP.out]; simpa using hb6, x6, z6⟩
            case measure => simp [intOf]; omega
      · obtain rfl : k = l.length := by omega
        have hbd' : Lib.IsBuilder 105 5 w1.heap.size w1.heap.size (Lib.byteCells (varL l.length ++ opsL l)) wr := by simpa using hbd
        clear hsh h hbd
        go_wp2_with fail
        refine (Try.Builder_String_any _ _ _ _ hbd' (Nat.le_of_lt hzr)).mono ?_
        rintro e w5 ⟨rfl, b5⟩
        go_wp2
        go_ret
        exact ⟨by rw [HR.out]; rfl, hbl.trans (b5.mono b1.size)⟩
end Go.Proofs.Ytfbbdnicplbmdaa
