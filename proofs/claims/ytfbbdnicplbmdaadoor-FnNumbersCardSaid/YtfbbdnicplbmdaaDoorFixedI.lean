
/- Walks: Fixed of the program. -/
import Derived.Test.YtfbbdnicplbmdaaDoorTypes
import Derived.Test.YtfbbdnicplbmdaaDoorFixedW
import Derived.WalkKit
import Derived.WalkSpells
import Derived.WalkLawsBesides
import Derived.Lib.Hide
set_option linter.unusedVariables false
set_option linter.unusedSimpArgs false
namespace Go.Proofs.YtfbbdnicplbmdaaDoor
open Go.RowKit Sp
attribute [local go_sem] str_size str_append

theorem zeros_bytes (n : Nat) : (madeCells (Value.int .u8 0).cells (n * 1)).toList = (List.replicate n (0 : UInt8)).map B := by
  rw [Nat.mul_one]; show (madeCells #[Value.int .u8 0] n).toList = _
  rw [toList_madeCells_one]; simp [B]

set_option maxRecDepth 100000 in
set_option maxHeartbeats 400000 in
theorem implFixed_any (m d : Nat) (w : World) (h1 : (m : Int) ≤ 9223372036854775807) (h2 : 1 ≤ (d : Int)) (h3 : (d : Int) ≤ 7) (hf : m / 256 ^ d = 0) :
    Calls Tryd.prog 9 #[.int .i64 m, .int .i64 d] w fun e w' => e = .returned (.string (str (fixedN m d))) ∧ Below w.heap.size w w' := by
  have hb : inB (d : Int) 1 7 = true := inB_true ⟨h2, h3⟩
  have hn : decide ((m : Int) < 0) = false := by simp
  obtain ⟨i0, hi, hz0, hz1, hz2⟩ := info_parts info_u8
  go_enter Tryd.func9, Tryd.ntmps9
  have hs := shr_ne m d hf
  go_wp2_with (first | (go_at_call 19; refine (inRange_any _ _ _ _).mono ?_; rintro e w' ⟨rfl, rfl⟩) | (at_make; refine wpList_make_full _ rfl _ _ 22 rfl w.heap.size 5 i0 (.int .u8 0) 1 Tryd.underlying22 hi hz0 hz1 _ _ _ _ d rfl rfl rfl rfl (by rw [hz2]; omega) (by unfold maxLen; omega) (Nat.le_refl _) ?_; intro w1 hown hg))
  rw [zeros_bytes] at hown
  have hb1 : Below w.heap.size w w1 := (Below.refl _ _).grown hg (Nat.le_refl _) (by simp)
  clear hg hs
  go_loopw [0, 6] (fun a i wr => ∃ k : Nat, k ≤ d ∧ i = .int .i64 ((d : Int) - 1 - k) ∧ a = .int .i64 ((m / 256 ^ k : Nat) : Int) ∧ wr.ownsRow w.heap.size 5 1 (.slice (some ⟨w.heap.size, 0, none⟩) d d) d ((List.replicate (d - k) (0 : UInt8) ++ beB k m).map B) ∧ Below w.heap.size w wr) (fun _ i _ => (intOf i + 1).toNat)
  case atStart => exact ⟨0, Nat.zero_le _, by simp, by simp, by simpa [beB] using hown, hb1⟩
  case round =>
    obtain ⟨k, hk, rfl, rfl, hr, hbl⟩ := hrel
    have hd1 : m / 256 ^ k / 256 = m / 256 ^ (k + 1) := by rw [Nat.div_div_eq_div_mul, Nat.pow_succ]
    have hq : m / 256 ^ k ≤ m := Nat.div_le_self _ _
    have hfr := beB_front k m
    have hl := beB_length k m
    generalize hqe : m / 256 ^ k = q at *
    generalize hle : beB k m = l at *
    have HE := Lib.hid hle
    have HL := Lib.hid hl
    have HF := Lib.hid hfr
    have HD := Lib.hid hd1
    clear hl hfr hd1 hqe hle
    by_cases hlt : k < d
    · obtain ⟨cv, hc⟩ := cell_owns hr (d - 1 - k) (by omega)
      have hz := hr.frozenAt (d - 1 - k)
      have hst := hr.stored (d - 1 - k) (.int .u8 ((q : Int) % 256))
      rw [map_B_set, beB_zeros k d hk _ l HL.out hlt, ← HF.out] at hst
      have HS := Lib.hid hst
      clear hst
      go_wp2
      go_roundw
      case rel => exact ⟨k + 1, by omega, by go_num, by rw [← HD.out]; go_num, HS.out.1, hbl.setCell (Nat.le_refl _) _⟩
      case measure => simp [intOf]; omega
    · obtain rfl : k = d := by omega
      have kc := conv_owns (P := Tryd.prog) (dst := 9) hr Tryd.underlying22 Tryd.underlying5 Tryd.underlying9
      go_wp2
      go_ret
      exact ⟨by rw [fixedN_zero hf, HE.out]; simp, hbl⟩

set_option maxRecDepth 100000 in
set_option maxHeartbeats 400000 in
theorem implFixed_not (n wd : Int) (w : World) (h : n < 0 ∨ ¬ (1 ≤ wd ∧ wd ≤ 7)) :
    Calls Tryd.prog 9 #[.int .i64 n, .int .i64 wd] w fun e w' => e = .returned (.string (str [])) ∧ Below w.heap.size w w' := by
  by_cases h1 : 1 ≤ wd ∧ wd ≤ 7
  · have hb : inB wd 1 7 = true := inB_true h1
    have hn : n < 0 := by omega
    go_enter Tryd.func9, Tryd.ntmps9
    go_wp2_with (go_at_call 19; refine (inRange_any _ _ _ _).mono ?_; rintro e w' ⟨rfl, rfl⟩)
    go_ret
    exact ⟨rfl, Below.refl _ _⟩
  · have hb : inB wd 1 7 = false := inB_false h1
    go_enter Tryd.func9, Tryd.ntmps9
    go_wp2_with (go_at_call 19; refine (inRange_any _ _ _ _).mono ?_; rintro e w' ⟨rfl, rfl⟩)
    go_ret
    exact ⟨rfl, Below.refl _ _⟩

set_option maxRecDepth 100000 in
set_option maxHeartbeats 400000 in
theorem implFixed_big (m d : Nat) (w : World) (h1 : (m : Int) ≤ 9223372036854775807) (h2 : 1 ≤ (d : Int)) (h3 : (d : Int) ≤ 7) (hf : 0 < m / 256 ^ d) :
    Calls Tryd.prog 9 #[.int .i64 m, .int .i64 d] w fun e w' => e = .returned (.string (str (fixedN m d))) ∧ Below w.heap.size w w' := by
  have hb : inB (d : Int) 1 7 = true := inB_true ⟨h2, h3⟩
  have hn : decide ((m : Int) < 0) = false := by simp
  have hs := shr_ne' m d hf
  go_enter Tryd.func9, Tryd.ntmps9
  go_wp2_with (go_at_call 19; refine (inRange_any _ _ _ _).mono ?_; rintro e w' ⟨rfl, rfl⟩)
  go_ret
  exact ⟨by rw [fixedN_pos hf]; rfl, Below.refl _ _⟩

/-- Fixed of the program, at every input. -/
theorem implFixed (n wd : Int) (w : World) (h1 : n ≤ 9223372036854775807) :
    Calls Tryd.prog 9 #[.int .i64 n, .int .i64 wd] w fun e w' => e = .returned (.string (str (fixedL n wd))) ∧ Below w.heap.size w w' := by
  unfold fixedL
  by_cases hw : 1 ≤ wd ∧ wd ≤ 7
  · rw [if_pos hw]
    by_cases hn : 0 ≤ n
    · obtain ⟨m, rfl⟩ := Int.eq_ofNat_of_zero_le hn
      obtain ⟨d, rfl⟩ := Int.eq_ofNat_of_zero_le (show 0 ≤ wd by omega)
      rcases Nat.eq_zero_or_pos (m / 256 ^ d) with hz | hz
      · exact implFixed_any m d w h1 hw.1 hw.2 hz
      · exact implFixed_big m d w h1 hw.1 hw.2 hz
    · rw [fixedN_neg (by omega)]
      exact implFixed_not n wd w (.inl (by omega))
  · rw [if_neg hw]
    exact implFixed_not n wd w (.inr hw)
end Go.Proofs.YtfbbdnicplbmdaaDoor
