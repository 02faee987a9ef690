
/- Walks: the draws' helpers: a number below another one, once in n, one of a list. -/
import Derived.Test.YtfbbdnicplbmdaaDoorDrawW
set_option linter.unusedVariables false
set_option linter.unusedSimpArgs false
namespace Go.Proofs.YtfbbdnicplbmdaaDoor
open Go.RowKit Sp Go.Sort
theorem grown2 {a b c : World} {r : Option Nat} (h : a.grownBy b r) (k : b.grownBy c r) : a.grownBy c r :=
  ⟨k.os.trans h.os, k.tape.trans h.tape, k.output.trans h.output, Nat.le_trans h.size k.size, fun i hi hne => (k.block i (Nat.lt_of_lt_of_le hi h.size) hne).trans (h.block i hi hne)⟩
theorem wrap_small (s : Nat) (h : (s : Int) ≤ 4611686018427387904) : wrap64 (s : Int) = s := by unfold wrap64; omega
theorem wrap_i64_small (s : Nat) (h : (s : Int) ≤ 4611686018427387904) : IntKind.i64.wrap (s : Int) = s := by rw [IntKind.wrap_i64]; omega
theorem combI (x y z u : Int) (hx : 0 ≤ x ∧ x ≤ 255) (hy : 0 ≤ y ∧ y ≤ 255) (hz : 0 ≤ z ∧ z ≤ 255) (hu : 0 ≤ u ∧ u ≤ 255) :
    0 ≤ x * 16777216 + y * 65536 + z * 256 + u ∧ x * 16777216 + y * 65536 + z * 256 + u ≤ 4611686018427387904 ∧
    IntKind.i64.wrap (x * 16777216) = x * 16777216 ∧ IntKind.i64.wrap (y * 65536) = y * 65536 ∧ IntKind.i64.wrap (z * 256) = z * 256 ∧
    IntKind.i64.wrap (x * 16777216 + y * 65536) = x * 16777216 + y * 65536 ∧ IntKind.i64.wrap (x * 16777216 + y * 65536 + z * 256) = x * 16777216 + y * 65536 + z * 256 := by
  simp only [IntKind.wrap_i64]
  omega
theorem comb (x y z u : Nat) (hx : (x : Int) ≤ 255) (hy : (y : Int) ≤ 255) (hz : (z : Int) ≤ 255) (hu : (u : Int) ≤ 255) :
    ∃ s : Nat, (x : Int) * 16777216 + (y : Int) * 65536 + (z : Int) * 256 + (u : Int) = (s : Int) ∧ (s : Int) ≤ 4611686018427387904 ∧
    IntKind.i64.wrap ((x : Int) * 16777216) = (x : Int) * 16777216 ∧ IntKind.i64.wrap ((y : Int) * 65536) = (y : Int) * 65536 ∧ IntKind.i64.wrap ((z : Int) * 256) = (z : Int) * 256 ∧
    IntKind.i64.wrap ((x : Int) * 16777216 + (y : Int) * 65536) = (x : Int) * 16777216 + (y : Int) * 65536 ∧ IntKind.i64.wrap ((x : Int) * 16777216 + (y : Int) * 65536 + (z : Int) * 256) = (x : Int) * 16777216 + (y : Int) * 65536 + (z : Int) * 256 := by
  obtain ⟨h1, h2, h3⟩ := combI x y z u ⟨Int.natCast_nonneg _, hx⟩ ⟨Int.natCast_nonneg _, hy⟩ ⟨Int.natCast_nonneg _, hz⟩ ⟨Int.natCast_nonneg _, hu⟩
  obtain ⟨s, hs⟩ := Int.eq_ofNat_of_zero_le h1
  exact ⟨s, hs, by rw [← hs]; exact h2, h3⟩
theorem tmod_nat (x m : Nat) : Int.tmod (x : Int) (m : Int) = ((x % m : Nat) : Int) := rfl

set_option maxRecDepth 100000 in
set_option maxHeartbeats 800000 in
theorem l1Below_any (b : Nat) (w0 : World) (v : Value) (xs : List UInt8) (n : Int) (hn : n ≤ 4611686018427387904) (w : World) (h : Cu w b w0 v xs) :
    Calls Tryd.prog 26 #[.pointer (some ⟨b, 0, none⟩), .int .i64 n] w fun e w' => ∃ x : Nat, e = .returned (.int .i64 x) ∧ (0 < n → (x : Int) < n) ∧ (n ≤ 0 → x = 0) ∧ Cu w' b w0 v xs ∧ w.grownBy w' (some b) := by
  by_cases h0 : n ≤ 0
  · go_enter Tryd.func26, Tryd.ntmps26
    go_wp2
    go_ret
    exact ⟨0, rfl, fun h => by omega, fun _ => rfl, h, World.grownBy.refl _ _⟩
  · obtain ⟨m, rfl⟩ : ∃ m : Nat, n = (m : Int) := ⟨n.toNat, by omega⟩
    have hm : (m : Int) ≠ 0 := by omega
    by_cases h1 : (m : Int) ≤ 256
    · go_enter Tryd.func26, Tryd.ntmps26
      go_wp2_with fail
      refine (l1Byte_any b w0 v xs _ h).mono ?_
      rintro e w1 ⟨x, rfl, hx, c1, g1⟩
      have HT := tmod_nat x m
      have hlt : x % m < m := Nat.mod_lt _ (by omega)
      generalize x % m = r at *
      go_wp2
      go_ret
      exact ⟨r, rfl, fun _ => by omega, fun h => by omega, c1, g1⟩
    · go_enter Tryd.func26, Tryd.ntmps26
      go_wp2_with fail
      refine (l1Byte_any b w0 v xs _ h).mono ?_
      rintro e w1 ⟨x, rfl, hx, c1, g1⟩
      go_wp2_with fail
      refine (l1Byte_any b w0 v xs _ c1).mono ?_
      rintro e w2 ⟨y, rfl, hy, c2, g2⟩
      go_wp2_with fail
      refine (l1Byte_any b w0 v xs _ c2).mono ?_
      rintro e w3 ⟨z, rfl, hz, c3, g3⟩
      go_wp2_with fail
      refine (l1Byte_any b w0 v xs _ c3).mono ?_
      rintro e w4 ⟨u, rfl, hu, c4, g4⟩
      obtain ⟨s, hs, hs2, W1, W2, W3, W4, W5⟩ := comb x y z u hx hy hz hu
      have W6 := wrap_i64_small s hs2
      have W7 := wrap_small s hs2
      have HT := tmod_nat s m
      have hlt : s % m < m := Nat.mod_lt _ (by omega)
      generalize s % m = r at *
      go_wp2
      go_ret
      exact ⟨r, rfl, fun _ => by omega, fun h => by omega, c4, grown2 (grown2 (grown2 g1 g2) g3) g4⟩

set_option maxRecDepth 100000 in
set_option maxHeartbeats 800000 in
theorem l1Once_any (b : Nat) (w0 : World) (v : Value) (xs : List UInt8) (n : Int) (hn : n ≤ 4611686018427387904) (w : World) (h : Cu w b w0 v xs) :
    Calls Tryd.prog 24 #[.pointer (some ⟨b, 0, none⟩), .int .i64 n] w fun e w' => ∃ x : Bool, e = .returned (.bool x) ∧ Cu w' b w0 v xs ∧ w.grownBy w' (some b) := by
  go_enter Tryd.func24, Tryd.ntmps24
  go_wp2_with fail
  refine (l1Below_any b w0 v xs n hn _ h).mono ?_
  rintro e w1 ⟨x, rfl, _, _, c1, g1⟩
  go_wp2
  go_ret
  exact ⟨_, rfl, c1, g1⟩

theorem lit_slT {α : Type} (enc : α → List Value) (cs : Array Value) (l : List α) (n : Nat) (W : World) (T : TypeId) (hl : (l.map enc).flatten = cs.toList) (h1 : ∀ x, (enc x).length = 1) (hc : cs.size = n * 1) (hn : n ≤ 1000) : SlT enc 1 (W.alloc (.cells cs T)) (.slice (some ⟨W.heap.size, 0, none⟩) n n) l := by
  have h := World.ownsRow_lit (base := W.heap.size) (e := T) (size := 1) W cs n (Nat.le_refl _) (by simp only [maxLen]; omega) hc
  rw [← hl] at h
  exact SlT.of_own h h1 (by decide)
/-- One of a list of numbers. -/
def intC (x : Int) : List Value := [.int .i64 x]
set_option maxRecDepth 100000 in
set_option maxHeartbeats 800000 in
theorem l1PickInt_any (b : Nat) (w0 : World) (v : Value) (xs : List UInt8) (w : World) (h : Cu w b w0 v xs) (vl : Value) (l : List Int) (hl : SlT intC 1 w vl l) (hb : ∀ a n c, vl = .slice (some a) n c → 0 < n → a.block ≠ b) (h0 : 0 < l.length) (hl2 : (l.length : Int) ≤ 1000) :
    Calls Tryd.prog 27 #[.pointer (some ⟨b, 0, none⟩), vl] w fun e w' => ∃ x, x ∈ l ∧ e = .returned (.int .i64 x) ∧ Cu w' b w0 v xs ∧ w.grownBy w' (some b) := by
  obtain ⟨ao, cap, rfl, hlc, hcm, hsh⟩ := hl.shape
  go_enter Tryd.func27, Tryd.ntmps27
  go_wp2_with fail
  refine (l1Below_any b w0 v xs (l.length : Int) (by omega) _ h).mono ?_
  rintro e w1 ⟨k, rfl, hk, _, c1, g1⟩
  have hk := hk (by omega)
  have hkl : k < l.length := by omega
  obtain ⟨gb, off, rfl, hgl, hcell⟩ := hsh h0
  have ce : w1.cell? ⟨gb, off + k, none⟩ = some (.int .i64 l[k]) := by
    have := hcell k hkl 0 (.int .i64 l[k]) rfl
    rw [Nat.mul_one, Nat.add_zero] at this
    exact ((gcell g1 (b := gb) hgl (by intro e; exact hb _ _ _ rfl h0 (Option.some.inj e).symm)).1 _).trans this
  go_wp2
  go_ret
  exact ⟨_, List.getElem_mem hkl, rfl, c1, g1⟩

end Go.Proofs.YtfbbdnicplbmdaaDoor
