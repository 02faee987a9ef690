
/- Walks: Unhex of the reference and of the program. -/
import Derived.Test.YtfbbdnicplbmdaaDoorHex
import Derived.Test.YtfbbdnicplbmdaaDoorShelf
import Derived.WalkKit
import Derived.WalkSpells
import Derived.WalkLawsBesides
import Derived.Lib.Hide
set_option linter.unusedVariables false
set_option linter.unusedSimpArgs false
namespace Go.Proofs.YtfbbdnicplbmdaaDoor
namespace Sp
/-- The number of a hex digit, -1 where it is none. -/
def unDig (c : UInt8) : Int := if 48 ≤ c.toNat ∧ c.toNat ≤ 57 then (c.toNat : Int) - 48 else if 97 ≤ c.toNat ∧ c.toNat ≤ 102 then (c.toNat : Int) - 87 else -1
theorem unDig_bd (c : UInt8) : -1 ≤ unDig c ∧ unDig c ≤ 15 := by unfold unDig; split <;> (try split) <;> omega
theorem unDig_hit (c : UInt8) (k : Nat) (hk : k < 16) (h : hexDig k = c) : unDig c = k := by
  have key : ∀ x : Fin 16, unDig (hexDig x.val) = (x.val : Int) := by decide +kernel
  rw [← h]; exact key ⟨k, hk⟩
theorem unDig_miss (c : UInt8) (h : ∀ k, k < 16 → hexDig k ≠ c) : unDig c = -1 := by
  have key : ∀ x : Fin 256, (∀ k : Fin 16, hexDig k.val ≠ UInt8.ofNat x.val) → unDig (UInt8.ofNat x.val) = -1 := by decide +kernel
  have e : UInt8.ofNat c.toNat = c := by simp
  have := key ⟨c.toNat, c.toNat_lt⟩ (fun k => by show hexDig k.val ≠ UInt8.ofNat c.toNat; rw [e]; exact h k.val k.isLt)
  rw [show UInt8.ofNat (⟨c.toNat, c.toNat_lt⟩ : Fin 256).val = c from e] at this
  exact this
theorem unDig_index (c : UInt8) : Lib.indexByte [48, 49, 50, 51, 52, 53, 54, 55, 56, 57, 97, 98, 99, 100, 101, 102] c = unDig c := by
  have key : ∀ x : Fin 256, Lib.indexByte [48, 49, 50, 51, 52, 53, 54, 55, 56, 57, 97, 98, 99, 100, 101, 102] (UInt8.ofNat x.val) = unDig (UInt8.ofNat x.val) := by decide +kernel
  have e : UInt8.ofNat c.toNat = c := by simp
  have := key ⟨c.toNat, c.toNat_lt⟩
  rw [show UInt8.ofNat (⟨c.toNat, c.toNat_lt⟩ : Fin 256).val = c from e] at this
  exact this
/-- Unhex of an even number of bytes; none where a byte is no digit. -/
def unhexL : List UInt8 → Option (List UInt8)
  | [] => some []
  | [_] => none
  | a :: b :: r => if unDig a < 0 ∨ unDig b < 0 then none else (unhexL r).map fun l => UInt8.ofNat (16 * unDig a + unDig b).toNat :: l
/-- What has been read, and what is still to be read. -/
def UInv (l : List UInt8) (k : Nat) (pre : List UInt8) : Prop := unhexL l = (unhexL (l.drop (2 * k))).map (pre ++ ·)
theorem UInv.open' {s : ByteArray} {k : Nat} {pre : List UInt8} (h : UInv s.data.toList k pre) (hk : 2 * k + 1 < s.size) :
    unhexL s.data.toList = (if unDig s[2 * k] < 0 ∨ unDig s[2 * k + 1] < 0 then none else (unhexL (s.data.toList.drop (2 * (k + 1)))).map fun l => UInt8.ofNat (16 * unDig s[2 * k] + unDig s[2 * k + 1]).toNat :: l).map (pre ++ ·) := by
  unfold UInv at h
  have hl : s.data.toList.length = s.size := by simp
  rw [List.drop_eq_getElem_cons (by omega), List.drop_eq_getElem_cons (by omega)] at h
  rw [h, unhexL]
  rfl
theorem UInv.bad {s : ByteArray} {k : Nat} {pre : List UInt8} (h : UInv s.data.toList k pre) (hk : 2 * k + 1 < s.size) (hb : unDig s[2 * k] < 0 ∨ unDig s[2 * k + 1] < 0) : unhexL s.data.toList = none := by
  rw [h.open' hk, if_pos hb]; rfl
theorem UInv.good {s : ByteArray} {k : Nat} {pre : List UInt8} (h : UInv s.data.toList k pre) (hk : 2 * k + 1 < s.size) (hb : ¬ (unDig s[2 * k] < 0 ∨ unDig s[2 * k + 1] < 0)) :
    UInv s.data.toList (k + 1) (pre ++ [UInt8.ofNat (16 * unDig s[2 * k] + unDig s[2 * k + 1]).toNat]) := by
  unfold UInv
  rw [h.open' hk, if_neg hb, Option.map_map]
  congr 1
  funext l; simp
theorem UInv.fin {l : List UInt8} {k : Nat} {pre : List UInt8} (h : UInv l k pre) (hk : l.length ≤ 2 * k) : unhexL l = some pre := by
  unfold UInv at h; rw [h, List.drop_eq_nil_of_le hk]; simp [unhexL]
theorem unhex_odd : ∀ (l : List UInt8), l.length % 2 = 1 → unhexL l = none
  | [], h => by simp at h
  | [_], _ => rfl
  | a :: b :: r, h => by
    rw [unhexL, unhex_odd r (by simp at h; omega)]
    split <;> rfl
/-- The result of Unhex. -/
def unhexV (l : List UInt8) : List UInt8 × Bool := match unhexL l with | some r => (r, true) | none => ([], false)
theorem unhexV_some {l r : List UInt8} (h : unhexL l = some r) : unhexV l = (r, true) := by unfold unhexV; rw [h]
theorem unhexV_none {l : List UInt8} (h : unhexL l = none) : unhexV l = ([], false) := by unfold unhexV; rw [h]
end Sp
open Go.RowKit Sp
attribute [local go_sem] str_size str_append

theorem digEq (k : Nat) (c : UInt8) : (((hexDig k).toNat : Int) == (c.toNat : Int)) = decide (hexDig k = c) := by
  rw [Bool.eq_iff_iff, beq_iff_eq, decide_eq_true_iff]
  constructor
  · intro h; apply UInt8.toNat_inj.1; omega
  · intro h; rw [h]

theorem indexByte_any (c : UInt8) (w : World) : Calls Tryd.prog 22 #[.string ⟨#[48, 49, 50, 51, 52, 53, 54, 55, 56, 57, 97, 98, 99, 100, 101, 102]⟩, .int .u8 (c.toNat : Int)] w fun e w' => e = .returned (.int .i64 (unDig c)) ∧ w = w' := by
  refine (Tryd.strings_IndexByte _ _ _).mono ?_
  rintro e w' ⟨rfl, rfl⟩
  refine ⟨?_, rfl⟩
  rw [show ((c.toNat : Int)).toNat.toUInt8 = c from by simp, unDig_index]

theorem hexSum (a b : Int) (ha : 0 ≤ a) (hb : 0 ≤ b) (h1 : a ≤ 15) (h2 : b ≤ 15) : bits .or .i64 (a * 16) b = 16 * a + b := by
  obtain ⟨x, rfl⟩ := Int.eq_ofNat_of_zero_le ha
  obtain ⟨y, rfl⟩ := Int.eq_ofNat_of_zero_le hb
  have h := i64_or (16 * x) y (by omega) (by omega)
  rw [show ((x : Int) * 16) = ((16 * x : Nat) : Int) from by omega, h]
  rw [show 16 * x = x <<< 4 from by rw [Nat.shiftLeft_eq]; omega, ← Nat.shiftLeft_add_eq_or_of_lt (by omega), Nat.shiftLeft_eq]
  omega

set_option maxRecDepth 100000 in
set_option maxHeartbeats 800000 in
theorem implUnhex (s : ByteArray) (w : World) (hs : (s.size : Int) ≤ 1048576) :
    Calls Tryd.prog 13 #[.string s] w fun e w' => e = .returned (.tuple #[.string (str (unhexV s.data.toList).1), .bool (unhexV s.data.toList).2]) ∧ Below w.heap.size w w' := by
  by_cases hodd : ((s.size : Int) % 2 == 1) = true
  · have HR := Lib.hid (unhexV_none (unhex_odd s.data.toList (by simp at hodd ⊢; omega)))
    have hne : ((s.size : Int) % 2 != 0) = true := by simp at hodd ⊢; omega
    go_enter Tryd.func13, Tryd.ntmps13
    go_wp2
    go_ret2
    exact ⟨by rw [HR.out]; rfl, Below.refl _ _⟩
  · have hev : ((s.size : Int) % 2 != 0) = false := by simp at hodd ⊢; omega
    have hevn : s.size % 2 = 0 := by simp at hodd; omega
    have HEV := Lib.hid hevn
    clear hodd hevn
    go_enter Tryd.func13, Tryd.ntmps13
    go_wp2_with (at_make; refine mk_own rfl rfl Tryd.underlying22 info_u8 (s.size / 2) rfl rfl (by simp) (by omega) w.heap.size (Below.refl _ _) (Nat.le_refl _) (Nat.le_refl _) ?_; intro w1 hown hb1 hg1)
    go_loopw [4, 5] (fun v i wr => ∃ (k : Nat) (pre : List UInt8), 2 * (k : Int) ≤ s.size ∧ i = .int .i64 (2 * (k : Int)) ∧ wr.ownsRow w.heap.size 5 1 v k (pre.map B) ∧ UInv s.data.toList k pre ∧ Below w.heap.size w wr) (fun _ i _ => s.size - (intOf i).toNat)
    case atStart => exact ⟨0, [], by omega, rfl, hown, by simp [UInv], hb1⟩
    case round =>
      obtain ⟨k, pre, hk, rfl, hr, hinv, hbl⟩ := hrel
      have hsz := hbl.size
      by_cases hks : 2 * (k : Int) < s.size
      · have hks1 : 2 * k + 1 < s.size := by have := HEV.out; omega
        have hks0 : 2 * k < s.size := by omega
        have hki : 2 * (k : Int) + 1 < s.size := by omega
        have hb1 := unDig_bd s[2 * k]
        have hb2 := unDig_bd s[2 * k + 1]
        by_cases h1 : unDig s[2 * k] < 0
        · have HR := Lib.hid (unhexV_none (hinv.bad hks1 (.inl h1)))
          go_wp2_with (go_at_call 22; refine (indexByte_any _ _).mono ?_; rintro e w' ⟨rfl, rfl⟩)
          go_ret2
          exact ⟨by rw [HR.out]; rfl, hbl⟩
        · have h1' : decide (unDig s[2 * k] < 0) = false := decide_eq_false h1
          by_cases h2 : unDig s[2 * k + 1] < 0
          · have HR := Lib.hid (unhexV_none (hinv.bad hks1 (.inr h2)))
            go_wp2_with (go_at_call 22; refine (indexByte_any _ _).mono ?_; rintro e w' ⟨rfl, rfl⟩)
            go_ret2
            exact ⟨by rw [HR.out]; rfl, hbl⟩
          · have h2' : decide (unDig s[2 * k + 1] < 0) = false := decide_eq_false h2
            have hinv2 := hinv.good hks1 (by omega)
            have hp1 : 0 ≤ unDig s[2 * k] := by omega
            have hp2 : 0 ≤ unDig s[2 * k + 1] := by omega
            have hsum := hexSum (unDig s[2 * k]) (unDig s[2 * k + 1]) hp1 hp2 hb1.2 hb2.2
            go_wp2_with (first | (go_at_call 22; refine (indexByte_any _ _).mono ?_; rintro e w' ⟨rfl, rfl⟩) | (at_builtin; refine app_new rfl rfl Tryd.underlying22 info_u8 rfl (by decide) hr rfl 1 rfl rfl (by simp [Value.oneCell']) (by omega) hbl (Nat.le_refl _) (by omega) ?_; intro v' w1 hr1 hbl1 hg1))
            have hr2 := own_snoc (16 * unDig s[2 * k] + unDig s[2 * k + 1]).toNat hr1 (by omega) (by omega)
            go_roundw
            case rel => exact ⟨k + 1, _, by omega, by go_num, hr2, hinv2, hbl1⟩
            case measure => simp [intOf]; omega
      · have HR := Lib.hid (unhexV_some (hinv.fin (by simp; omega)))
        have kc := conv_owns (P := Tryd.prog) (dst := 9) hr Tryd.underlying22 Tryd.underlying5 Tryd.underlying9
        go_wp2
        go_ret2
        exact ⟨by rw [HR.out]; rfl, hbl⟩
end Go.Proofs.YtfbbdnicplbmdaaDoor
