
/- Walks: Hex of the reference and of the program. -/
import Derived.Test.YtfbbdnicplbmdaaDoorTypes
import Derived.Test.YtfbbdnicplbmdaaDoorLaws
import Derived.WalkKit
import Derived.WalkSpells
import Derived.WalkLawsBesides
import Derived.Test.YtfbbdnicplbmdaaDoorStep
import Derived.Deep.Draws
import Derived.Lib.Hide
set_option linter.unusedVariables false
set_option linter.unusedSimpArgs false
namespace Go.Proofs.YtfbbdnicplbmdaaDoor
namespace Sp
def hexDig (d : Nat) : UInt8 := if d < 10 then UInt8.ofNat (48 + d) else UInt8.ofNat (87 + d)
def hexB (c : UInt8) : List UInt8 := [hexDig (c.toNat / 16), hexDig (c.toNat % 16)]
def hexL (l : List UInt8) : List UInt8 := l.flatMap hexB
theorem hexL_snoc (l : List UInt8) (c : UInt8) : hexL (l ++ [c]) = hexL l ++ hexB c := by simp [hexL]
theorem hexL_length (l : List UInt8) : (hexL l).length = 2 * l.length := by
  induction l with
  | nil => rfl
  | cons c l ih => simp [hexL, hexB] at *; omega
end Sp
open Go.RowKit Sp
attribute [local go_sem] str_size str_append

theorem digits_at (k : Nat) (h : k < 16) (hp : k < (ByteArray.mk #[48, 49, 50, 51, 52, 53, 54, 55, 56, 57, 97, 98, 99, 100, 101, 102]).size) :
    (((ByteArray.mk #[48, 49, 50, 51, 52, 53, 54, 55, 56, 57, 97, 98, 99, 100, 101, 102])[k]'hp).toNat : Int) = ((hexDig k).toNat : Int) := by
  have key : ∀ x : Fin 16, (((ByteArray.mk #[48, 49, 50, 51, 52, 53, 54, 55, 56, 57, 97, 98, 99, 100, 101, 102])[x.val]'(by show x.val < 16; exact x.isLt)).toNat : Int) = ((hexDig x.val).toNat : Int) := by decide +kernel
  exact key ⟨k, h⟩

theorem own_hex {w : World} {base e n : Nat} {v : Value} {l : List UInt8} (c : UInt8)
    (h : w.ownsRow base e 1 v n (l.map B ++ #[Value.int .u8 ((hexDig ((c.toNat : Int) / 16).toNat).toNat : Int), Value.int .u8 ((hexDig ((c.toNat : Int) % 16).toNat).toNat : Int)].toList)) : w.ownsRow base e 1 v n ((l ++ hexB c).map B) := by
  rw [show ((c.toNat : Int) / 16).toNat = c.toNat / 16 from by omega, show ((c.toNat : Int) % 16).toNat = c.toNat % 16 from by omega] at h
  rw [List.map_append]; exact h

theorem u8_shr4 (c : Nat) (h : c < 256) : (c : Int) / 2 ^ 4 = ((c / 16 : Nat) : Int) := by simp
theorem u8_and15 (c : Nat) (h : c < 256) : bits .and .u8 (c : Int) 15 = (c : Int) % 16 := by
  have key : ∀ x : Fin 256, bits .and .u8 ((x.val : Nat) : Int) 15 = ((x.val : Nat) : Int) % 16 := by decide +kernel
  exact key ⟨c, h⟩

set_option maxRecDepth 100000 in
set_option maxHeartbeats 800000 in
theorem implHex (s : ByteArray) (w : World) (hs : (s.size : Int) ≤ 1048576) :
    Calls Tryd.prog 14 #[.string s] w fun e w' => e = .returned (.string (str (hexL s.data.toList))) ∧ Below w.heap.size w w' := by
  go_enter Tryd.func14, Tryd.ntmps14
  go_wp2_with (at_make; refine mk_own rfl rfl Tryd.underlying22 info_u8 (2 * s.size) rfl rfl (by simp) (by omega) w.heap.size (Below.refl _ _) (Nat.le_refl _) (Nat.le_refl _) ?_; intro w1 hown hb1 hg1)
  go_loopw [4, 5] (fun v i wr => ∃ k : Nat, (k : Int) ≤ s.size ∧ i = .int .i64 k ∧ wr.ownsRow w.heap.size 5 1 v (2 * k) ((hexL (s.data.toList.take k)).map B) ∧ Below w.heap.size w wr) (fun _ i _ => s.size - (intOf i).toNat)
  case atStart => exact ⟨0, by omega, rfl, hown, hb1⟩
  case round =>
    obtain ⟨k, hk, rfl, hr, hbl⟩ := hrel
    have hsz := hbl.size
    by_cases hks : (k : Int) < s.size
    · have hks' : k < s.size := by omega
      have hsn := hexL_snoc (s.data.toList.take k) s[k]
      rw [← take_snoc s k hks'] at hsn
      have HS := Lib.hid hsn
      have hby : (s[k].toNat : Int) ≤ 255 := by have := s[k].toNat_lt; omega
      clear hsn
      have ha := u8_and15 s[k].toNat (by omega)
      have hb1 : (0 : Int) ≤ (s[k].toNat : Int) / 16 := by omega
      have hb2 : (s[k].toNat : Int) / 16 < 16 := by omega
      have hb3 : (0 : Int) ≤ (s[k].toNat : Int) % 16 := by omega
      have hb4 : (s[k].toNat : Int) % 16 < 16 := by omega
      go_wp2
      go_region_law (first
        | ((with_reducible refine step_app (o := ⟨some 30, _, _, _, _, _⟩) rfl rfl Tryd.underlying22 info_u8 rfl (by decide) rfl (hr.alloc _).drew 2 rfl (heap_new_drew _ _) rfl (by simp [Value.oneCell']) (by omega) (hbl.alloc hsz _).drew (Nat.le_refl _) (by simp; omega) ?_); intro v' w1 hr1 hbl1 hg1))
      all_goals
        rw [digits_at _ (by omega) (by show _ < 16; omega), digits_at _ (by omega) (by show _ < 16; omega)] at hr1
        have hr2 := own_hex s[k] hr1
        rw [← HS.out] at hr2
        clear hr1 hg1 hr ha
        go_wp2
        go_roundw
        case rel => exact ⟨k + 1, by omega, by go_num, hr2, hbl1⟩
        case measure => simp [intOf]; omega
    · obtain rfl : k = s.size := by omega
      have kc := conv_owns (P := Tryd.prog) (dst := 9) hr Tryd.underlying22 Tryd.underlying5 Tryd.underlying9
      go_wp2
      go_ret
      exact ⟨by rw [List.take_of_length_le (by simp)]; rfl, hbl⟩
end Go.Proofs.YtfbbdnicplbmdaaDoor
