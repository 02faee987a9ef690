
/- Walks: NonceOf of the reference and of the program. -/
import Derived.Test.YtfbbdnicplbmdaaFixedI
import Derived.Test.YtfbbdnicplbmdaaLaws
import Derived.WalkKit
import Derived.WalkSpells
import Derived.WalkLawsBesides
import Derived.Deep.RegionWith
import Derived.Lib.Hide
set_option linter.unusedVariables false
set_option linter.unusedSimpArgs false
namespace Go.Proofs.Ytfbbdnicplbmdaa
namespace Sp
/-- The result of NonceOf. -/
def nonceL (kind n : Int) : List UInt8 := if (0 ≤ kind ∧ kind ≤ 255) ∧ 0 ≤ n ∧ n ≤ 562949953421311 then [UInt8.ofNat kind.toNat, 0, 0, 0, 0] ++ fixedL n 7 else []
end Sp
open Go.RowKit Sp
attribute [local go_sem] str_size str_append

/-- string(b) of five bytes, the last four of them zero. -/
theorem conv_five {P : Program} {e src dst : Nat} (hs : P.underlying src = some (.slice e)) (he : P.underlying e = some (.int .u8)) (hd : P.underlying dst = some .string) (k : Nat) (hk : k < 256) (w : World) (b : Nat)
    (c0 : w.cell? ⟨b, 0, none⟩ = some (.int .u8 (k : Int))) (c1 : w.cell? ⟨b, 1, none⟩ = some (.int .u8 0)) (c2 : w.cell? ⟨b, 2, none⟩ = some (.int .u8 0)) (c3 : w.cell? ⟨b, 3, none⟩ = some (.int .u8 0)) (c4 : w.cell? ⟨b, 4, none⟩ = some (.int .u8 0)) :
    (convert src dst (.slice (some ⟨b, 0, none⟩) 5 5)).run P w = .ok (.string (str [UInt8.ofNat k, 0, 0, 0, 0])) w :=
  run_convert_bytes_arg w src e hs he b 0 5 5 [(k : Int), 0, 0, 0, 0] rfl (fun i hi => by
    match i, hi with
    | 0, _ => exact c0
    | 1, _ => exact c1
    | 2, _ => exact c2
    | 3, _ => exact c3
    | 4, _ => exact c4) dst hd

set_option maxRecDepth 100000 in
set_option maxHeartbeats 800000 in
theorem specNonce_any (k : Nat) (n : Int) (w : World) (hk : (k : Int) ≤ 255) (h0 : 0 ≤ n) (h1 : n ≤ 562949953421311) :
    Calls Try.prog 112 #[.int .i64 k, .int .i64 n] w fun e w' => e = .returned (.string (str ([UInt8.ofNat k, 0, 0, 0, 0] ++ fixedL n 7))) ∧ Below w.heap.size w w' := by
  have hb : inB (k : Int) 0 255 = true := inB_true (by omega)
  have hb2 : inB n 0 562949953421311 = true := inB_true (by omega)
  have kc := conv_five (P := Try.prog) Try.underlying22 Try.underlying5 Try.underlying9 k (by omega)
  have hlen := fixedL_length_le n 7
  have hwr : IntKind.u8.wrap (k : Int) = (k : Int) := by rw [IntKind.wrap_u8]; omega
  go_enter Try.func112, Try.ntmps112
  go_wp2_with (go_at_call 104; refine (l1In_any _ _ _ _).mono ?_; rintro e w' ⟨rfl, rfl⟩)
  go_region_with (go_at_call 157; refine (specFixed _ _ _ (by omega)).mono ?_; rintro e w1 ⟨rfl, b1⟩; obtain ⟨hc1, hf1⟩ := bcell b1)
  all_goals clear hc1 hf1 kc hwr
  all_goals go_wp2
  all_goals go_ret
  all_goals first
    | exact ⟨rfl, (((Below.refl _ w).alloc (Nat.le_refl _) _).drew).trans (b1.mono (by simp))⟩
    | exact ⟨rfl, ((Below.refl _ w).drew.trans b1).alloc b1.size _⟩

set_option maxRecDepth 100000 in
set_option maxHeartbeats 400000 in
theorem specNonce_not (k n : Int) (w : World) (h : ¬ ((0 ≤ k ∧ k ≤ 255) ∧ 0 ≤ n ∧ n ≤ 562949953421311)) :
    Calls Try.prog 112 #[.int .i64 k, .int .i64 n] w fun e w' => e = .returned (.string (str [])) ∧ Below w.heap.size w w' := by
  by_cases h1 : 0 ≤ k ∧ k ≤ 255
  · have hb : inB k 0 255 = true := inB_true h1
    have hb2 : inB n 0 562949953421311 = false := inB_false (by omega)
    go_enter Try.func112, Try.ntmps112
    go_wp2_with (go_at_call 104; refine (l1In_any _ _ _ _).mono ?_; rintro e w' ⟨rfl, rfl⟩)
    go_ret
    exact ⟨rfl, Below.refl _ _⟩
  · have hb : inB k 0 255 = false := inB_false h1
    go_enter Try.func112, Try.ntmps112
    go_wp2_with (go_at_call 104; refine (l1In_any _ _ _ _).mono ?_; rintro e w' ⟨rfl, rfl⟩)
    go_ret
    exact ⟨rfl, Below.refl _ _⟩

/-- NonceOf of the reference, at every input. -/
theorem specNonce (k n : Int) (w : World) : Calls Try.prog 112 #[.int .i64 k, .int .i64 n] w fun e w' => e = .returned (.string (str (nonceL k n))) ∧ Below w.heap.size w w' := by
  unfold nonceL
  by_cases h : (0 ≤ k ∧ k ≤ 255) ∧ 0 ≤ n ∧ n ≤ 562949953421311
  · obtain ⟨m, rfl⟩ := Int.eq_ofNat_of_zero_le h.1.1
    rw [if_pos h, Int.toNat_natCast]
    exact specNonce_any m n w h.1.2 h.2.1 h.2.2
  · rw [if_neg h]
    exact specNonce_not k n w h

set_option maxRecDepth 100000 in
set_option maxHeartbeats 800000 in
theorem implNonce_any (k : Nat) (n : Int) (w : World) (hk : (k : Int) ≤ 255) (h0 : 0 ≤ n) (h1 : n ≤ 562949953421311) :
    Calls Try.prog 110 #[.int .i64 k, .int .i64 n] w fun e w' => e = .returned (.string (str ([UInt8.ofNat k, 0, 0, 0, 0] ++ fixedL n 7))) ∧ Below w.heap.size w w' := by
  have hb : inB (k : Int) 0 255 = true := inB_true (by omega)
  have hb2 : inB n 0 562949953421311 = true := inB_true (by omega)
  have kc := conv_five (P := Try.prog) Try.underlying22 Try.underlying5 Try.underlying9 k (by omega)
  have hlen := fixedL_length_le n 7
  have hwr : IntKind.u8.wrap (k : Int) = (k : Int) := by rw [IntKind.wrap_u8]; omega
  go_enter Try.func110, Try.ntmps110
  go_wp2_with (go_at_call 108; refine (inRange_any _ _ _ _).mono ?_; rintro e w' ⟨rfl, rfl⟩)
  go_region_with (go_at_call 150; refine (implFixed _ _ _ (by omega)).mono ?_; rintro e w1 ⟨rfl, b1⟩; obtain ⟨hc1, hf1⟩ := bcell b1)
  all_goals clear hc1 hf1 kc hwr
  all_goals go_wp2
  all_goals go_ret
  all_goals first
    | exact ⟨rfl, (((Below.refl _ w).alloc (Nat.le_refl _) _).drew).trans (b1.mono (by simp))⟩
    | exact ⟨rfl, ((Below.refl _ w).drew.trans b1).alloc b1.size _⟩

set_option maxRecDepth 100000 in
set_option maxHeartbeats 400000 in
theorem implNonce_not (k n : Int) (w : World) (h : ¬ ((0 ≤ k ∧ k ≤ 255) ∧ 0 ≤ n ∧ n ≤ 562949953421311)) :
    Calls Try.prog 110 #[.int .i64 k, .int .i64 n] w fun e w' => e = .returned (.string (str [])) ∧ Below w.heap.size w w' := by
  by_cases h1 : 0 ≤ k ∧ k ≤ 255
  · have hb : inB k 0 255 = true := inB_true h1
    have hb2 : inB n 0 562949953421311 = false := inB_false (by omega)
    go_enter Try.func110, Try.ntmps110
    go_wp2_with (go_at_call 108; refine (inRange_any _ _ _ _).mono ?_; rintro e w' ⟨rfl, rfl⟩)
    go_ret
    exact ⟨rfl, Below.refl _ _⟩
  · have hb : inB k 0 255 = false := inB_false h1
    go_enter Try.func110, Try.ntmps110
    go_wp2_with (go_at_call 108; refine (inRange_any _ _ _ _).mono ?_; rintro e w' ⟨rfl, rfl⟩)
    go_ret
    exact ⟨rfl, Below.refl _ _⟩

/-- NonceOf of the program, at every input. -/
theorem implNonce (k n : Int) (w : World) : Calls Try.prog 110 #[.int .i64 k, .int .i64 n] w fun e w' => e = .returned (.string (str (nonceL k n))) ∧ Below w.heap.size w w' := by
  unfold nonceL
  by_cases h : (0 ≤ k ∧ k ≤ 255) ∧ 0 ≤ n ∧ n ≤ 562949953421311
  · obtain ⟨m, rfl⟩ := Int.eq_ofNat_of_zero_le h.1.1
    rw [if_pos h, Int.toNat_natCast]
    exact implNonce_any m n w h.1.2 h.2.1 h.2.2
  · rw [if_neg h]
    exact implNonce_not k n w h
end Go.Proofs.Ytfbbdnicplbmdaa
