
/- Walks: Fixed of the reference. -/
import Derived.Test.YtfbbdnicplbmdaaRows
import Derived.Test.YtfbbdnicplbmdaaNum
import Derived.Test.YtfbbdnicplbmdaaIn
import Derived.WalkKit
import Derived.WalkSpells
import Derived.WalkLawsBesides
import Derived.Lib.Hide
set_option linter.unusedVariables false
set_option linter.unusedSimpArgs false
namespace Go.Proofs.Ytfbbdnicplbmdaa
open Go.RowKit Sp
attribute [local go_sem] str_size str_append

set_option maxHeartbeats 400000 in
theorem specFixed_any (m d : Nat) (w : World) (h1 : (m : Int) ≤ 9223372036854775807) (h2 : 1 ≤ (d : Int)) (h3 : (d : Int) ≤ 7) :
    Calls Try.prog 157 #[.int .i64 m, .int .i64 d] w fun e w' => e = .returned (.string (str (fixedN m d))) ∧ Below w.heap.size w w' := by
  have hb : inB (d : Int) 1 7 = true := inB_true ⟨h2, h3⟩
  have hn : decide ((m : Int) < 0) = false := by simp
  go_enter Try.func157, Try.ntmps157
  go_wp2_with (go_at_call 104; refine (l1In_any _ _ _ _).mono ?_; rintro e w' ⟨rfl, rfl⟩)
  go_loopw [0, 5, 6] (fun a o i wr => ∃ k : Nat, k ≤ d ∧ i = .int .i64 k ∧ a = .int .i64 ((m / 256 ^ k : Nat) : Int) ∧ o = .string (str (beB k m)) ∧ Below w.heap.size w wr) (fun _ _ i _ => d - (intOf i).toNat)
  case atStart => exact ⟨0, Nat.zero_le _, rfl, by simp, rfl, Below.refl _ _⟩
  case round =>
    obtain ⟨k, hk, rfl, rfl, rfl, hbl⟩ := hrel
    have hd1 : m / 256 ^ k / 256 = m / 256 ^ (k + 1) := by rw [Nat.div_div_eq_div_mul, Nat.pow_succ]
    have hq : m / 256 ^ k ≤ m := Nat.div_le_self _ _
    have hfr := beB_front k m
    have hl := beB_length k m
    have kc := conv_one (P := Try.prog) Try.underlying22 Try.underlying5 Try.underlying9
    generalize hqe : m / 256 ^ k = q at *
    generalize hle : beB k m = l at *
    have HQ := Lib.hid hqe
    have HE := Lib.hid hle
    clear hqe hle
    have HL := Lib.hid hl
    have HF := Lib.hid hfr
    have HD := Lib.hid hd1
    clear hl hfr hd1
    by_cases hlt : k < d
    · have hll : l.length ≤ 7 := by rw [HL.out]; omega
      go_wp2
      go_round
      case rel => exact ⟨k + 1, by omega, by go_num, by rw [← HD.out]; go_num, by rw [HF.out, u8_mod], hbl.alloc (by have := hbl.size; omega) _⟩
      case measure => simp [intOf]; omega
    · obtain rfl : k = d := by omega
      by_cases hz : (0 : Int) < q
      · go_wp2
        go_ret
        exact ⟨by rw [fixedN_pos (by rw [HQ.out]; omega)]; rfl, hbl⟩
      · go_wp2
        go_ret
        exact ⟨by rw [fixedN_zero (by rw [HQ.out]; omega), HE.out]; rfl, hbl⟩

set_option maxHeartbeats 400000 in
theorem specFixed_not (n wd : Int) (w : World) (h : n < 0 ∨ ¬ (1 ≤ wd ∧ wd ≤ 7)) :
    Calls Try.prog 157 #[.int .i64 n, .int .i64 wd] w fun e w' => e = .returned (.string (str [])) ∧ Below w.heap.size w w' := by
  by_cases h1 : 1 ≤ wd ∧ wd ≤ 7
  · have hb : inB wd 1 7 = true := inB_true h1
    have hn : n < 0 := by omega
    go_enter Try.func157, Try.ntmps157
    go_wp2_with (go_at_call 104; refine (l1In_any _ _ _ _).mono ?_; rintro e w' ⟨rfl, rfl⟩)
    go_ret
    exact ⟨rfl, Below.refl _ _⟩
  · have hb : inB wd 1 7 = false := inB_false h1
    go_enter Try.func157, Try.ntmps157
    go_wp2_with (go_at_call 104; refine (l1In_any _ _ _ _).mono ?_; rintro e w' ⟨rfl, rfl⟩)
    go_ret
    exact ⟨rfl, Below.refl _ _⟩

/-- Fixed of the reference, at every input. -/
theorem specFixed (n wd : Int) (w : World) (h1 : n ≤ 9223372036854775807) :
    Calls Try.prog 157 #[.int .i64 n, .int .i64 wd] w fun e w' => e = .returned (.string (str (fixedL n wd))) ∧ Below w.heap.size w w' := by
  unfold fixedL
  by_cases hw : 1 ≤ wd ∧ wd ≤ 7
  · rw [if_pos hw]
    by_cases hn : 0 ≤ n
    · obtain ⟨m, rfl⟩ := Int.eq_ofNat_of_zero_le hn
      obtain ⟨d, rfl⟩ := Int.eq_ofNat_of_zero_le (show 0 ≤ wd by omega)
      exact specFixed_any m d w h1 hw.1 hw.2
    · rw [fixedN_neg (by omega)]
      exact specFixed_not n wd w (.inl (by omega))
  · rw [if_neg hw]
    exact specFixed_not n wd w (.inr hw)
end Go.Proofs.Ytfbbdnicplbmdaa
