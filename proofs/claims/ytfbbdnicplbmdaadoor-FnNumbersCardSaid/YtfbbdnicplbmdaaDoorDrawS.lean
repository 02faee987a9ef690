
/- Walks: the draws' spoilt text. -/
import Derived.Test.YtfbbdnicplbmdaaDoorDrawT
import Derived.Deep.RegionLaw
import Derived.Deep.RegionHeld
import Derived.Lib.Hide
set_option linter.unusedVariables false
set_option linter.unusedSimpArgs false
namespace Go.Proofs.YtfbbdnicplbmdaaDoor
open Go.RowKit Sp Go.Sort

theorem hal3 (W : World) (o : Obj) : RowKit.Below W.heap.size W (W.alloc o) := (Below.refl _ _).alloc (Nat.le_refl _) _
theorem drew_grown {W W' : World} {r : Option Nat} (h : W.drew.grownBy W' r) : W.grownBy W' r := ⟨h.os, h.tape, h.output, h.size, h.block⟩
theorem below_drewS (W : World) : Below W.heap.size W W.drew := (Below.refl _ _).drew
set_option maxRecDepth 100000 in
set_option maxHeartbeats 1600000 in
theorem l1Spoil_any (b : Nat) (w0 : World) (v : Value) (xs : List UInt8) (s : ByteArray) (hs : (s.size : Int) ≤ 1000000) (w : World) (h : Cu w b w0 v xs) :
    Calls Tryd.prog 25 #[.pointer (some ⟨b, 0, none⟩), .string s] w fun e w' => ∃ t : ByteArray, e = .returned (.string t) ∧ (t.size : Int) ≤ 1048576 ∧ Cu w' b w0 v xs ∧ w.grownBy w' (some b) := by
  by_cases hz : s.size = 0
  · have hz' : (s.size : Int) = 0 := by omega
    go_enter Tryd.func25, Tryd.ntmps25
    go_wp2_with fail
    refine (l1Text_any b w0 v xs 3 (by decide) _ h).mono ?_
    rintro e w1 ⟨t, rfl, ht, c1, g1⟩
    go_wp2
    go_ret
    exact ⟨t, rfl, by omega, c1, g1⟩
  · have hz' : ¬ (s.size : Int) = 0 := by omega
    go_enter Tryd.func25, Tryd.ntmps25
    go_wp2_with fail
    refine (l1Below_any b w0 v xs (s.size : Int) (by omega) _ h).mono ?_
    rintro e w1 ⟨k, rfl, hk, _, c1, g1⟩
    have hk := hk (by omega)
    go_wp2_with fail
    refine (l1Below_any b w0 v xs 4 (by decide) _ c1).mono ?_
    rintro e w2 ⟨sw, rfl, hsw, _, c2, g2⟩
    have hsw := hsw (by decide)
    have q2 := grown2 g1 g2
    clear c1 g1 g2
    have K1 : IntKind.i64.wrap ((k : Int) + 1) = (k : Int) + 1 := by rw [IntKind.wrap_i64]; omega
    have K2 : ((k : Int) + 1).toNat = k + 1 := by omega
    have z1 : (s.extract 0 k).size = k := by rw [ByteArray.size_extract]; omega
    have z2 : (s.extract (k + 1) s.size).size = s.size - (k + 1) := by rw [ByteArray.size_extract]; omega
    have z3 : (s.extract k s.size).size = s.size - k := by rw [ByteArray.size_extract]; omega
    rcases (by omega : sw = 0 ∨ sw = 1 ∨ sw = 2 ∨ sw = 3) with rfl | rfl | rfl | rfl
    · have f1 : ¬ 9223372036854775807 < k + (s.size - (k + 1)) := by omega
      have f2 : (k : Int) ≤ s.size := by omega
      have f3 : (k : Int) + 1 ≤ s.size := by omega
      have f4 : (0 : Int) ≤ (k : Int) + 1 := by omega
      have c3 := c2.below (below_drewS w2)
      go_wp2_with fail
      go_region
      go_wp2
      go_ret
      exact ⟨_, rfl, by rw [ByteArray.size_append, z1, z2]; omega, c3, grown_drewN q2 1⟩
    · have f1 : ¬ 9223372036854775807 < k + 1 := by omega
      have f5 : ¬ 9223372036854775807 < k + 1 + (s.size - k) := by omega
      have f2 : (k : Int) ≤ s.size := by omega
      have c3 := c2.below (below_drewS w2)
      have hs1 : ∀ c : UInt8, (str [c]).size = 1 := fun _ => rfl
      have cv := fun W x => conv_one (P := Tryd.prog) (src := 22) (dst := 9) Tryd.underlying22 Tryd.underlying5 Tryd.underlying9 W x
      go_wp2_with fail
      go_region_with (go_at_call 28; refine (l1Byte_any b w0 v xs _ c3).mono ?_; rintro e w3 ⟨y, rfl, hy, c4, g4⟩)
      all_goals
        go_wp2
        go_ret
        exact ⟨_, rfl, by rw [ByteArray.size_append, ByteArray.size_append, z1, z3, hs1]; omega, c4.below (hal3 _ _), grown_below (grown2 q2 (drew_grown g4)) (hal3 _ _)⟩
    · have f2 : (k : Int) ≤ s.size := by omega
      go_wp2
      go_ret
      exact ⟨_, rfl, by rw [z1]; omega, c2, q2⟩
    · have f1 : ¬ 9223372036854775807 < k + 1 := by omega
      have f5 : ¬ 9223372036854775807 < k + 1 + (s.size - (k + 1)) := by omega
      have f2 : (k : Int) ≤ s.size := by omega
      have f3 : (k : Int) + 1 ≤ s.size := by omega
      have f4 : (0 : Int) ≤ (k : Int) + 1 := by omega
      have c3 := c2.below (below_drewS w2)
      have hs1 : ∀ c : UInt8, (str [c]).size = 1 := fun _ => rfl
      have cv := fun W x => conv_one (P := Tryd.prog) (src := 22) (dst := 9) Tryd.underlying22 Tryd.underlying5 Tryd.underlying9 W x
      go_wp2_with fail
      go_region_with (go_at_call 26; refine (l1Below_any b w0 v xs 255 (by decide) _ c3).mono ?_; rintro e w3 ⟨y, rfl, hy, _, c4, g4⟩)
      all_goals
        go_wp2
        go_ret
        exact ⟨_, rfl, by rw [ByteArray.size_append, ByteArray.size_append, z1, z2, hs1]; omega, c4.below (hal3 _ _), grown_below (grown2 q2 (drew_grown g4)) (hal3 _ _)⟩
end Go.Proofs.YtfbbdnicplbmdaaDoor
