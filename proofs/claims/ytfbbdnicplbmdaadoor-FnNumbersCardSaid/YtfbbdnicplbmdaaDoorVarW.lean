
/- Walks: Var of the reference and of the program. -/
import Derived.Test.YtfbbdnicplbmdaaDoorTypes
import Derived.Test.YtfbbdnicplbmdaaDoorLaws
import Derived.Test.YtfbbdnicplbmdaaDoorVarP
import Derived.Test.YtfbbdnicplbmdaaDoorFixedW
import Derived.WalkKit
import Derived.WalkSpells
import Derived.WalkLawsBesides
import Derived.Lib.Hide
set_option linter.unusedVariables false
set_option linter.unusedSimpArgs false
namespace Go.Proofs.YtfbbdnicplbmdaaDoor
open Go.RowKit Sp
attribute [local go_sem] str_size str_append

def VarInv (m q : Nat) (pre : List UInt8) : Prop := pre ++ varB q = varB m
theorem VarInv.len {m q : Nat} {pre : List UInt8} (h : VarInv m q pre) (hm : m ≤ 562949953421311) : pre.length ≤ 6 := by
  have h1 := congrArg List.length h
  have h2 := varB_length_7 hm
  have h3 := varB_pos q
  simp only [List.length_append] at h1; omega
theorem VarInv.step {m q : Nat} {pre : List UInt8} (h : VarInv m q pre) (hq : 128 ≤ q) : VarInv m (q / 128) (pre ++ [UInt8.ofNat (128 + q % 128)]) := by
  unfold VarInv at *
  rw [varB_big (by omega)] at h
  rw [List.append_assoc, List.singleton_append]; exact h
theorem VarInv.fin {m q : Nat} {pre : List UInt8} (h : VarInv m q pre) (hq : ¬ 128 ≤ q) : pre ++ [UInt8.ofNat q] = varB m := by
  unfold VarInv at h
  rwa [varB_small (by omega)] at h

set_option maxRecDepth 100000 in
set_option maxHeartbeats 400000 in
theorem specVar_any (m : Nat) (w : World) (h : (m : Int) ≤ 562949953421311) :
    Calls Tryd.prog 23 #[.int .i64 m] w fun e w' => e = .returned (.string (str (varB m))) ∧ Below w.heap.size w w' := by
  have hb : inB (m : Int) 0 562949953421311 = true := inB_true (by omega)
  have h0 : (w.alloc (.cells #[] 5)).ownsRow w.heap.size 5 1 (.slice (some ⟨w.heap.size, 0, none⟩) 0 0) 0 (([] : List UInt8).map B) := World.ownsRow_lit w #[] 0 (Nat.le_refl _) (by simp [maxLen]) rfl
  go_enter Tryd.func23, Tryd.ntmps23
  go_wp2_with (go_at_call 32; refine (l1In_any _ _ _ _).mono ?_; rintro e w' ⟨rfl, rfl⟩)
  go_loopw [0, 3] (fun a v wr => ∃ (q : Nat) (pre : List UInt8), (q : Int) ≤ 562949953421311 ∧ a = .int .i64 q ∧ wr.ownsRow w.heap.size 5 1 v pre.length (pre.map B) ∧ VarInv m q pre ∧ Below w.heap.size w wr) (fun a _ _ => (intOf a).toNat)
  case atStart => exact ⟨m, [], h, rfl, h0, by simp [VarInv], (Below.refl _ _).alloc (Nat.le_refl _) _⟩
  case round =>
    obtain ⟨q, pre, hq, rfl, hr, hinv, hbl⟩ := hrel
    have hlen := hinv.len (by omega)
    have hsz := hbl.size
    by_cases hlt : 128 ≤ q
    · go_wp2_with (at_builtin; refine app_new rfl rfl Tryd.underlying22 info_u8 rfl (by decide) hr rfl 1 rfl rfl (by simp [Value.oneCell']) (by omega) hbl (Nat.le_refl _) (by omega) ?_; intro v' w1 hr1 hbl1 hg1)
      have hr2 := own_snoc (128 + q % 128) hr1 (by omega) (by omega)
      go_roundw
      case rel => exact ⟨q / 128, pre ++ [UInt8.ofNat (128 + q % 128)], by omega, by go_num, by simpa using hr2, hinv.step hlt, hbl1⟩
      case measure => simp [intOf]; omega
    · go_wp2_with (at_builtin; refine app_new rfl rfl Tryd.underlying22 info_u8 rfl (by decide) hr rfl 1 rfl rfl (by simp [Value.oneCell']) (by omega) hbl (Nat.le_refl _) (by omega) ?_; intro v' w1 hr1 hbl1 hg1; have kc := conv_owns (P := Tryd.prog) (dst := 9) (own_snoc q hr1 rfl (by omega)) Tryd.underlying22 Tryd.underlying5 Tryd.underlying9)
      go_ret
      exact ⟨by rw [← hinv.fin hlt]; rfl, hbl1⟩

set_option maxHeartbeats 400000 in
theorem specVar_not (m : Int) (w : World) (h : ¬ (0 ≤ m ∧ m ≤ 562949953421311)) :
    Calls Tryd.prog 23 #[.int .i64 m] w fun e w' => e = .returned (.string (str [])) ∧ Below w.heap.size w w' := by
  have hb : inB m 0 562949953421311 = false := inB_false h
  go_enter Tryd.func23, Tryd.ntmps23
  go_wp2_with (go_at_call 32; refine (l1In_any _ _ _ _).mono ?_; rintro e w' ⟨rfl, rfl⟩)
  go_ret
  exact ⟨rfl, Below.refl _ _⟩

/-- Var of the reference, at every input. -/
theorem specVar (n : Int) (w : World) : Calls Tryd.prog 23 #[.int .i64 n] w fun e w' => e = .returned (.string (str (varL n))) ∧ Below w.heap.size w w' := by
  by_cases h : 0 ≤ n ∧ n ≤ 562949953421311
  · obtain ⟨m, rfl⟩ := Int.eq_ofNat_of_zero_le h.1
    rw [varL_nat (by omega)]
    exact specVar_any m w h.2
  · rw [varL_not h]
    exact specVar_not n w h

theorem or_128 (q : Nat) : 128 ||| (q % 128) = 128 + q % 128 := by
  have h := Nat.shiftLeft_add_eq_or_of_lt (a := 1) (i := 7) (b := q % 128) (by omega)
  rw [Nat.shiftLeft_eq] at h
  exact h.symm

theorem and_127 (q : Nat) (h : q < 9223372036854775808) : bits .and .i64 (q : Int) 127 = (q : Int) % 128 := by
  have ha := i64_and q 127 h (by omega)
  rw [Nat.and_two_pow_sub_one_eq_mod q 7] at ha
  exact ha
theorem or_128i (q : Nat) : bits .or .i64 128 ((q : Int) % 128) = 128 + (q : Int) % 128 := by
  have ho := i64_or 128 (q % 128) (by omega) (by omega)
  rw [or_128] at ho
  exact ho

set_option maxRecDepth 100000 in
set_option maxHeartbeats 400000 in
theorem implVar_any (m : Nat) (w : World) (h : (m : Int) ≤ 562949953421311) :
    Calls Tryd.prog 7 #[.int .i64 m] w fun e w' => e = .returned (.string (str (varB m))) ∧ Below w.heap.size w w' := by
  have hb : inB (m : Int) 0 562949953421311 = true := inB_true (by omega)
  have h0 : w.ownsRow w.heap.size 5 1 (.slice none 0 0) 0 (([] : List UInt8).map B) := World.ownsRow_nil w _ _ _
  go_enter Tryd.func7, Tryd.ntmps7
  go_wp2_with (go_at_call 19; refine (inRange_any _ _ _ _).mono ?_; rintro e w' ⟨rfl, rfl⟩)
  go_loopw [0, 3] (fun a v wr => ∃ (q : Nat) (pre : List UInt8), (q : Int) ≤ 562949953421311 ∧ a = .int .i64 q ∧ wr.ownsRow w.heap.size 5 1 v pre.length (pre.map B) ∧ VarInv m q pre ∧ Below w.heap.size w wr) (fun a _ _ => (intOf a).toNat)
  case atStart => exact ⟨m, [], h, rfl, h0, by simp [VarInv], Below.refl _ _⟩
  case round =>
    obtain ⟨q, pre, hq, rfl, hr, hinv, hbl⟩ := hrel
    have hlen := hinv.len (by omega)
    have hsz := hbl.size
    by_cases hlt : 128 ≤ q
    · have ha := and_127 q (by omega)
      have ho := or_128i q
      go_wp2_with (at_builtin; refine app_new rfl rfl Tryd.underlying22 info_u8 rfl (by decide) hr rfl 1 rfl rfl (by simp [Value.oneCell']) (by omega) hbl (Nat.le_refl _) (by omega) ?_; intro v' w1 hr1 hbl1 hg1)
      have hr2 := own_snoc (128 + q % 128) hr1 (by omega) (by omega)
      go_roundw
      case rel => exact ⟨q / 128, pre ++ [UInt8.ofNat (128 + q % 128)], by omega, by go_num, by simpa using hr2, hinv.step hlt, hbl1⟩
      case measure => simp [intOf]; omega
    · go_wp2_with (at_builtin; refine app_new rfl rfl Tryd.underlying22 info_u8 rfl (by decide) hr rfl 1 rfl rfl (by simp [Value.oneCell']) (by omega) hbl (Nat.le_refl _) (by omega) ?_; intro v' w1 hr1 hbl1 hg1; have kc := conv_owns (P := Tryd.prog) (dst := 9) (own_snoc q hr1 rfl (by omega)) Tryd.underlying22 Tryd.underlying5 Tryd.underlying9)
      go_ret
      exact ⟨by rw [← hinv.fin hlt]; rfl, hbl1⟩

set_option maxHeartbeats 400000 in
theorem implVar_not (m : Int) (w : World) (h : ¬ (0 ≤ m ∧ m ≤ 562949953421311)) :
    Calls Tryd.prog 7 #[.int .i64 m] w fun e w' => e = .returned (.string (str [])) ∧ Below w.heap.size w w' := by
  have hb : inB m 0 562949953421311 = false := inB_false h
  go_enter Tryd.func7, Tryd.ntmps7
  go_wp2_with (go_at_call 19; refine (inRange_any _ _ _ _).mono ?_; rintro e w' ⟨rfl, rfl⟩)
  go_ret
  exact ⟨rfl, Below.refl _ _⟩

/-- Var of the program, at every input. -/
theorem implVar (n : Int) (w : World) : Calls Tryd.prog 7 #[.int .i64 n] w fun e w' => e = .returned (.string (str (varL n))) ∧ Below w.heap.size w w' := by
  by_cases h : 0 ≤ n ∧ n ≤ 562949953421311
  · obtain ⟨m, rfl⟩ := Int.eq_ofNat_of_zero_le h.1
    rw [varL_nat (by omega)]
    exact implVar_any m w h.2
  · rw [varL_not h]
    exact implVar_not n w h
end Go.Proofs.YtfbbdnicplbmdaaDoor
