
/- Walks: the block of the program; ChaBlock of the reference and of the program. -/
import Derived.Test.YtfbbdnicplbmdaaChaF
import Derived.Test.YtfbbdnicplbmdaaApp
import Derived.Deep.RegionLaw
set_option linter.unusedVariables false
set_option linter.unusedSimpArgs false
namespace Go.Proofs.Ytfbbdnicplbmdaa
open Go.RowKit Sp
attribute [local go_sem] str_size str_append
namespace Sp
theorem chaOk_not {key nonce : ByteArray} {c : Int} (h : chaOk key c nonce = false) : chaB key c nonce = [] := by simp [chaB, h]
theorem chaOk_yes {key nonce : ByteArray} {c : Int} (h : chaOk key c nonce = true) : chaB key c nonce = chaG key nonce c.toNat := by simp [chaB, h]
theorem aggW_def (f : Nat → Nat) : aggW f = .agg #[.int .u32 (f 0 : Nat), .int .u32 (f 1 : Nat), .int .u32 (f 2 : Nat), .int .u32 (f 3 : Nat), .int .u32 (f 4 : Nat), .int .u32 (f 5 : Nat), .int .u32 (f 6 : Nat), .int .u32 (f 7 : Nat), .int .u32 (f 8 : Nat), .int .u32 (f 9 : Nat), .int .u32 (f 10 : Nat), .int .u32 (f 11 : Nat), .int .u32 (f 12 : Nat), .int .u32 (f 13 : Nat), .int .u32 (f 14 : Nat), .int .u32 (f 15 : Nat)] := rfl
theorem W32_def (f : Nat → Nat) : W32 f = [.int .u32 (f 0 : Nat), .int .u32 (f 1 : Nat), .int .u32 (f 2 : Nat), .int .u32 (f 3 : Nat), .int .u32 (f 4 : Nat), .int .u32 (f 5 : Nat), .int .u32 (f 6 : Nat), .int .u32 (f 7 : Nat), .int .u32 (f 8 : Nat), .int .u32 (f 9 : Nat), .int .u32 (f 10 : Nat), .int .u32 (f 11 : Nat), .int .u32 (f 12 : Nat), .int .u32 (f 13 : Nat), .int .u32 (f 14 : Nat), .int .u32 (f 15 : Nat)] := rfl
end Sp
theorem quarter_lit (f : Nat → Nat) (hf : Words f) (a b c d : Nat) (A B C D : Int) (hq : (A = (a : Int) ∧ B = (b : Int) ∧ C = (c : Int) ∧ D = (d : Int)) ∧ (a < 16 ∧ b < 16 ∧ c < 16 ∧ d < 16) ∧ a ≠ b ∧ a ≠ c ∧ a ≠ d ∧ b ≠ c ∧ b ≠ d ∧ c ≠ d) (w : World) (base t g cap : Nat)
    (r0 : w.ownsRow base t 1 (.slice (some ⟨g, 0, none⟩) 16 cap) 16 (W32 f)) :
    Calls Try.prog 185 #[.pointer (some ⟨g, 0, none⟩), .int .i64 A, .int .i64 B, .int .i64 C, .int .i64 D] w fun e w' => e = .returned (.tuple #[]) ∧ w'.ownsRow base t 1 (.slice (some ⟨g, 0, none⟩) 16 cap) 16 (W32 (qr f a b c d)) ∧ w.grownBy w' (some g) := by
  obtain ⟨⟨rfl, rfl, rfl, rfl⟩, ⟨h1, h2, h3, h4⟩, h5, h6, h7, h8, h9, h10⟩ := hq
  exact quarter_any f hf a b c d h1 h2 h3 h4 h5 h6 h7 h8 h9 h10 w base t g cap r0

set_option maxRecDepth 100000 in
theorem ix_agg {F : Nat → Nat} (k : Nat) (hk : k < 16) (w : World) : (Instr.index 202 (.agg #[.int .u32 (F 0 : Nat), .int .u32 (F 1 : Nat), .int .u32 (F 2 : Nat), .int .u32 (F 3 : Nat), .int .u32 (F 4 : Nat), .int .u32 (F 5 : Nat), .int .u32 (F 6 : Nat), .int .u32 (F 7 : Nat), .int .u32 (F 8 : Nat), .int .u32 (F 9 : Nat), .int .u32 (F 10 : Nat), .int .u32 (F 11 : Nat), .int .u32 (F 12 : Nat), .int .u32 (F 13 : Nat), .int .u32 (F 14 : Nat), .int .u32 (F 15 : Nat)]) (.int .i64 (k : Nat))).run Try.prog w = .ok (.int .u32 (F k : Nat)) w := by
  rcases (by omega : k = 0 ∨ k = 1 ∨ k = 2 ∨ k = 3 ∨ k = 4 ∨ k = 5 ∨ k = 6 ∨ k = 7 ∨ k = 8 ∨ k = 9 ∨ k = 10 ∨ k = 11 ∨ k = 12 ∨ k = 13 ∨ k = 14 ∨ k = 15) with rfl | rfl | rfl | rfl | rfl | rfl | rfl | rfl | rfl | rfl | rfl | rfl | rfl | rfl | rfl | rfl
  all_goals kernel_rfl

set_option maxRecDepth 100000 in
set_option maxHeartbeats 400000 in
theorem isCha_any (key nonce : ByteArray) (c : Int) (w : World) : Calls Try.prog 160 #[.string key, .int .i64 c, .string nonce] w fun e w' => e = .returned (.bool (chaOk key c nonce)) ∧ w = w' := by
  by_cases h1 : (key.size : Int) = 32
  · by_cases h2 : inB c 0 4294967295 = true
    · by_cases h3 : (nonce.size : Int) = 12
      · go_enter Try.func160, Try.ntmps160
        go_wp2_with (go_at_call 108; refine (inRange_any _ _ _ _).mono ?_; rintro e w' ⟨rfl, rfl⟩; rw [h2])
        go_ret
        exact ⟨by rw [show chaOk key c nonce = true by simp [chaOk, h2]; omega] <;> rfl, rfl⟩
      · have h3' : ((nonce.size : Int) == 12) = false := by simp; omega
        go_enter Try.func160, Try.ntmps160
        go_wp2_with (go_at_call 108; refine (inRange_any _ _ _ _).mono ?_; rintro e w' ⟨rfl, rfl⟩; rw [h2])
        go_ret
        exact ⟨by rw [show chaOk key c nonce = false by simp [chaOk, h2]; omega] <;> rfl, rfl⟩
    · have h2' : inB c 0 4294967295 = false := by simpa using h2
      go_enter Try.func160, Try.ntmps160
      go_wp2_with (go_at_call 108; refine (inRange_any _ _ _ _).mono ?_; rintro e w' ⟨rfl, rfl⟩; rw [h2'])
      go_ret
      exact ⟨by rw [show chaOk key c nonce = false by simp [chaOk, h2']] <;> rfl, rfl⟩
  · go_enter Try.func160, Try.ntmps160
    go_wp2
    go_ret
    exact ⟨by rw [show chaOk key c nonce = false by simp [chaOk]; omega] <;> rfl, rfl⟩

set_option maxRecDepth 100000 in
set_option maxHeartbeats 3200000 in
theorem implBlock_any (key nonce : ByteArray) (c : Nat) (w : World) (hk : (key.size : Int) = 32) (hn : (nonce.size : Int) = 12) (hc : (c : Int) ≤ 4294967295) :
    Calls Try.prog 161 #[.string key, .int .i64 c, .string nonce] w fun e w' => e = .returned (.string (str (chaG key nonce c))) ∧ Below w.heap.size w w' := by
  have hok : chaOk key (c : Int) nonce = true := by simp [chaOk, inB]; omega
  have hcw : Words (chaW key.data.toList nonce.data.toList c) := chaW_words _ _ (by omega)
  have hfin : chaG key nonce c = outW (rounds20 10 (chaW key.data.toList nonce.data.toList c)) (chaW key.data.toList nonce.data.toList c) 16 := rfl
  have hfw := fun w => firstWords_any key nonce c w hk hn hc
  generalize chaW key.data.toList nonce.data.toList c = f at *
  have HF := Lib.hid hfin
  have HW := Lib.hid hfw
  clear hfin hfw
  go_enter Try.func161, Try.ntmps161
  go_wp2_with fail
  refine (isCha_any _ _ _ _).mono ?_
  rintro e w' ⟨rfl, rfl⟩
  rw [hok]
  go_wp2_with fail
  refine (HW.out _).mono ?_
  rintro e w1 ⟨rfl, b1⟩
  rw [aggW_def]
  go_upto_region 5 with fail
  have r0 : ((w1.alloc (.cells #[.int .u32 (f 0 : Nat), .int .u32 (f 1 : Nat), .int .u32 (f 2 : Nat), .int .u32 (f 3 : Nat), .int .u32 (f 4 : Nat), .int .u32 (f 5 : Nat), .int .u32 (f 6 : Nat), .int .u32 (f 7 : Nat), .int .u32 (f 8 : Nat), .int .u32 (f 9 : Nat), .int .u32 (f 10 : Nat), .int .u32 (f 11 : Nat), .int .u32 (f 12 : Nat), .int .u32 (f 13 : Nat), .int .u32 (f 14 : Nat), .int .u32 (f 15 : Nat)] 202)).alloc (.cells #[.int .u32 (f 0 : Nat), .int .u32 (f 1 : Nat), .int .u32 (f 2 : Nat), .int .u32 (f 3 : Nat), .int .u32 (f 4 : Nat), .int .u32 (f 5 : Nat), .int .u32 (f 6 : Nat), .int .u32 (f 7 : Nat), .int .u32 (f 8 : Nat), .int .u32 (f 9 : Nat), .int .u32 (f 10 : Nat), .int .u32 (f 11 : Nat), .int .u32 (f 12 : Nat), .int .u32 (f 13 : Nat), .int .u32 (f 14 : Nat), .int .u32 (f 15 : Nat)] 202)).ownsRow (w1.heap.size + 1) 202 1 (.slice (some ⟨w1.heap.size + 1, 0, none⟩) 16 16) 16 (W32 f) := by
    rw [W32_def]
    have h := World.ownsRow_lit (base := w1.heap.size + 1) (e := 202) (size := 1) (w1.alloc (.cells #[.int .u32 (f 0 : Nat), .int .u32 (f 1 : Nat), .int .u32 (f 2 : Nat), .int .u32 (f 3 : Nat), .int .u32 (f 4 : Nat), .int .u32 (f 5 : Nat), .int .u32 (f 6 : Nat), .int .u32 (f 7 : Nat), .int .u32 (f 8 : Nat), .int .u32 (f 9 : Nat), .int .u32 (f 10 : Nat), .int .u32 (f 11 : Nat), .int .u32 (f 12 : Nat), .int .u32 (f 13 : Nat), .int .u32 (f 14 : Nat), .int .u32 (f 15 : Nat)] 202)) #[.int .u32 (f 0 : Nat), .int .u32 (f 1 : Nat), .int .u32 (f 2 : Nat), .int .u32 (f 3 : Nat), .int .u32 (f 4 : Nat), .int .u32 (f 5 : Nat), .int .u32 (f 6 : Nat), .int .u32 (f 7 : Nat), .int .u32 (f 8 : Nat), .int .u32 (f 9 : Nat), .int .u32 (f 10 : Nat), .int .u32 (f 11 : Nat), .int .u32 (f 12 : Nat), .int .u32 (f 13 : Nat), .int .u32 (f 14 : Nat), .int .u32 (f 15 : Nat)] 16 (by simp) (by simp [maxLen]) rfl
    rw [show (w1.alloc (.cells #[.int .u32 (f 0 : Nat), .int .u32 (f 1 : Nat), .int .u32 (f 2 : Nat), .int .u32 (f 3 : Nat), .int .u32 (f 4 : Nat), .int .u32 (f 5 : Nat), .int .u32 (f 6 : Nat), .int .u32 (f 7 : Nat), .int .u32 (f 8 : Nat), .int .u32 (f 9 : Nat), .int .u32 (f 10 : Nat), .int .u32 (f 11 : Nat), .int .u32 (f 12 : Nat), .int .u32 (f 13 : Nat), .int .u32 (f 14 : Nat), .int .u32 (f 15 : Nat)] 202)).heap.size = w1.heap.size + 1 from by simp] at h
    exact h
  have q0 : ((w1.alloc (.cells #[.int .u32 (f 0 : Nat), .int .u32 (f 1 : Nat), .int .u32 (f 2 : Nat), .int .u32 (f 3 : Nat), .int .u32 (f 4 : Nat), .int .u32 (f 5 : Nat), .int .u32 (f 6 : Nat), .int .u32 (f 7 : Nat), .int .u32 (f 8 : Nat), .int .u32 (f 9 : Nat), .int .u32 (f 10 : Nat), .int .u32 (f 11 : Nat), .int .u32 (f 12 : Nat), .int .u32 (f 13 : Nat), .int .u32 (f 14 : Nat), .int .u32 (f 15 : Nat)] 202)).alloc (.cells #[.int .u32 (f 0 : Nat), .int .u32 (f 1 : Nat), .int .u32 (f 2 : Nat), .int .u32 (f 3 : Nat), .int .u32 (f 4 : Nat), .int .u32 (f 5 : Nat), .int .u32 (f 6 : Nat), .int .u32 (f 7 : Nat), .int .u32 (f 8 : Nat), .int .u32 (f 9 : Nat), .int .u32 (f 10 : Nat), .int .u32 (f 11 : Nat), .int .u32 (f 12 : Nat), .int .u32 (f 13 : Nat), .int .u32 (f 14 : Nat), .int .u32 (f 15 : Nat)] 202)).ownsRow w1.heap.size 202 1 (.slice (some ⟨w1.heap.size, 0, none⟩) 16 16) 16 (W32 f) :=
    by rw [W32_def]; exact (World.ownsRow_lit w1 #[.int .u32 (f 0 : Nat), .int .u32 (f 1 : Nat), .int .u32 (f 2 : Nat), .int .u32 (f 3 : Nat), .int .u32 (f 4 : Nat), .int .u32 (f 5 : Nat), .int .u32 (f 6 : Nat), .int .u32 (f 7 : Nat), .int .u32 (f 8 : Nat), .int .u32 (f 9 : Nat), .int .u32 (f 10 : Nat), .int .u32 (f 11 : Nat), .int .u32 (f 12 : Nat), .int .u32 (f 13 : Nat), .int .u32 (f 14 : Nat), .int .u32 (f 15 : Nat)] 16 (Nat.le_refl _) (by simp [maxLen]) rfl).alloc _
  have bl0 : Below w.heap.size w ((w1.alloc (.cells #[.int .u32 (f 0 : Nat), .int .u32 (f 1 : Nat), .int .u32 (f 2 : Nat), .int .u32 (f 3 : Nat), .int .u32 (f 4 : Nat), .int .u32 (f 5 : Nat), .int .u32 (f 6 : Nat), .int .u32 (f 7 : Nat), .int .u32 (f 8 : Nat), .int .u32 (f 9 : Nat), .int .u32 (f 10 : Nat), .int .u32 (f 11 : Nat), .int .u32 (f 12 : Nat), .int .u32 (f 13 : Nat), .int .u32 (f 14 : Nat), .int .u32 (f 15 : Nat)] 202)).alloc (.cells #[.int .u32 (f 0 : Nat), .int .u32 (f 1 : Nat), .int .u32 (f 2 : Nat), .int .u32 (f 3 : Nat), .int .u32 (f 4 : Nat), .int .u32 (f 5 : Nat), .int .u32 (f 6 : Nat), .int .u32 (f 7 : Nat), .int .u32 (f 8 : Nat), .int .u32 (f 9 : Nat), .int .u32 (f 10 : Nat), .int .u32 (f 11 : Nat), .int .u32 (f 12 : Nat), .int .u32 (f 13 : Nat), .int .u32 (f 14 : Nat), .int .u32 (f 15 : Nat)] 202)) := (b1.alloc b1.size _).alloc (by have := b1.size; simp; omega) _
  have hz0 : w1.heap.size + 1 < ((w1.alloc (.cells #[.int .u32 (f 0 : Nat), .int .u32 (f 1 : Nat), .int .u32 (f 2 : Nat), .int .u32 (f 3 : Nat), .int .u32 (f 4 : Nat), .int .u32 (f 5 : Nat), .int .u32 (f 6 : Nat), .int .u32 (f 7 : Nat), .int .u32 (f 8 : Nat), .int .u32 (f 9 : Nat), .int .u32 (f 10 : Nat), .int .u32 (f 11 : Nat), .int .u32 (f 12 : Nat), .int .u32 (f 13 : Nat), .int .u32 (f 14 : Nat), .int .u32 (f 15 : Nat)] 202)).alloc (.cells #[.int .u32 (f 0 : Nat), .int .u32 (f 1 : Nat), .int .u32 (f 2 : Nat), .int .u32 (f 3 : Nat), .int .u32 (f 4 : Nat), .int .u32 (f 5 : Nat), .int .u32 (f 6 : Nat), .int .u32 (f 7 : Nat), .int .u32 (f 8 : Nat), .int .u32 (f 9 : Nat), .int .u32 (f 10 : Nat), .int .u32 (f 11 : Nat), .int .u32 (f 12 : Nat), .int .u32 (f 13 : Nat), .int .u32 (f 14 : Nat), .int .u32 (f 15 : Nat)] 202)).heap.size := by simp
  generalize ((w1.alloc (.cells #[.int .u32 (f 0 : Nat), .int .u32 (f 1 : Nat), .int .u32 (f 2 : Nat), .int .u32 (f 3 : Nat), .int .u32 (f 4 : Nat), .int .u32 (f 5 : Nat), .int .u32 (f 6 : Nat), .int .u32 (f 7 : Nat), .int .u32 (f 8 : Nat), .int .u32 (f 9 : Nat), .int .u32 (f 10 : Nat), .int .u32 (f 11 : Nat), .int .u32 (f 12 : Nat), .int .u32 (f 13 : Nat), .int .u32 (f 14 : Nat), .int .u32 (f 15 : Nat)] 202)).alloc (.cells #[.int .u32 (f 0 : Nat), .int .u32 (f 1 : Nat), .int .u32 (f 2 : Nat), .int .u32 (f 3 : Nat), .int .u32 (f 4 : Nat), .int .u32 (f 5 : Nat), .int .u32 (f 6 : Nat), .int .u32 (f 7 : Nat), .int .u32 (f 8 : Nat), .int .u32 (f 9 : Nat), .int .u32 (f 10 : Nat), .int .u32 (f 11 : Nat), .int .u32 (f 12 : Nat), .int .u32 (f 13 : Nat), .int .u32 (f 14 : Nat), .int .u32 (f 15 : Nat)] 202)) = wi at *
  go_wp2
  go_loopw [24] (fun i wr => ∃ k : Nat, (k : Int) ≤ 10 ∧ i = .int .i64 k ∧ wr.ownsRow (w1.heap.size + 1) 202 1 (.slice (some ⟨w1.heap.size + 1, 0, none⟩) 16 16) 16 (W32 (rounds20 k f)) ∧ wi.grownBy wr (some (w1.heap.size + 1))) (fun i _ => 10 - (intOf i).toNat)
  case atStart => exact ⟨0, by omega, rfl, r0, touch_refl _ _⟩
  case round =>
    obtain ⟨k, hk10, rfl, p0, t0⟩ := hrel
    by_cases hlt : (k : Int) < 10
    · have h0 := rounds20_words hcw k
      go_wp2
      refine wp_loop_rounds 5 ?_
      rw [rounds_succ]
      go_wp2_with fail
      refine (quarter_lit _ h0 0 4 8 12 _ _ _ _ (by decide) _ _ _ (w1.heap.size + 1) 16 p0).mono ?_
      rintro e z1 ⟨rfl, p1, g1⟩
      have t1 := touch_trans t0 g1
      have h1 := qr_words h0 0 4 8 12
      clear p0 t0 g1 h0
      go_wp2
      rw [rounds_succ]
      go_wp2_with fail
      refine (quarter_lit _ h1 1 5 9 13 _ _ _ _ (by decide) _ _ _ (w1.heap.size + 1) 16 p1).mono ?_
      rintro e z2 ⟨rfl, p2, g2⟩
      have t2 := touch_trans t1 g2
      have h2 := qr_words h1 1 5 9 13
      clear p1 t1 g2 h1
      go_wp2
      rw [rounds_succ]
      go_wp2_with fail
      refine (quarter_lit _ h2 2 6 10 14 _ _ _ _ (by decide) _ _ _ (w1.heap.size + 1) 16 p2).mono ?_
      rintro e z3 ⟨rfl, p3, g3⟩
      have t3 := touch_trans t2 g3
      have h3 := qr_words h2 2 6 10 14
      clear p2 t2 g3 h2
      go_wp2
      rw [rounds_succ]
      go_wp2_with fail
      refine (quarter_lit _ h3 3 7 11 15 _ _ _ _ (by decide) _ _ _ (w1.heap.size + 1) 16 p3).mono ?_
      rintro e z4 ⟨rfl, p4, g4⟩
      have t4 := touch_trans t3 g4
      have h4 := qr_words h3 3 7 11 15
      clear p3 t3 g4 h3
      go_wp2
      rw [rounds_succ]; go_wp2
      refine wp_loop_rounds 5 ?_
      rw [rounds_succ]
      go_wp2_with fail
      refine (quarter_lit _ h4 0 5 10 15 _ _ _ _ (by decide) _ _ _ (w1.heap.size + 1) 16 p4).mono ?_
      rintro e z5 ⟨rfl, p5, g5⟩
      have t5 := touch_trans t4 g5
      have h5 := qr_words h4 0 5 10 15
      clear p4 t4 g5 h4
      go_wp2
      rw [rounds_succ]
      go_wp2_with fail
      refine (quarter_lit _ h5 1 6 11 12 _ _ _ _ (by decide) _ _ _ (w1.heap.size + 1) 16 p5).mono ?_
      rintro e z6 ⟨rfl, p6, g6⟩
      have t6 := touch_trans t5 g6
      have h6 := qr_words h5 1 6 11 12
      clear p5 t5 g6 h5
      go_wp2
      rw [rounds_succ]
      go_wp2_with fail
      refine (quarter_lit _ h6 2 7 8 13 _ _ _ _ (by decide) _ _ _ (w1.heap.size + 1) 16 p6).mono ?_
      rintro e z7 ⟨rfl, p7, g7⟩
      have t7 := touch_trans t6 g7
      have h7 := qr_words h6 2 7 8 13
      clear p6 t6 g7 h6
      go_wp2
      rw [rounds_succ]
      go_wp2_with fail
      refine (quarter_lit _ h7 3 4 9 14 _ _ _ _ (by decide) _ _ _ (w1.heap.size + 1) 16 p7).mono ?_
      rintro e z8 ⟨rfl, p8, g8⟩
      have t8 := touch_trans t7 g8
      have h8 := qr_words h7 3 4 9 14
      clear p7 t7 g8 h7
      go_wp2
      rw [rounds_succ]; go_wp2
      exact ⟨⟨k + 1, by omega, by go_num, p8, t8⟩, by simp [intOf]; omega⟩
    · obtain rfl : k = 10 := by omega
      clear r0
      obtain ⟨wx, hwx⟩ : ∃ wx, wx = wr := ⟨_, rfl⟩
      subst hwx
      have hF := rounds20_words hcw 10
      have qS := q0.kept t0 (Or.inr (by simp [Value.ownBlock]))
      have hz1 : w1.heap.size + 1 < wx.heap.size := Nat.lt_of_lt_of_le hz0 t0.size
      have y8 : Below w.heap.size w wx := bl0.trans ⟨t0.os, t0.tape, t0.output, t0.size, fun k hk => t0.block k (Nat.lt_of_lt_of_le hk bl0.size) (by intro he; have := Option.some.inj he; have := b1.size; omega)⟩
      generalize rounds20 10 f = F at *
      have c0 := cell32 p0 0 (by omega)
      have c1 := cell32 p0 1 (by omega)
      have c2 := cell32 p0 2 (by omega)
      have c3 := cell32 p0 3 (by omega)
      have c4 := cell32 p0 4 (by omega)
      have c5 := cell32 p0 5 (by omega)
      have c6 := cell32 p0 6 (by omega)
      have c7 := cell32 p0 7 (by omega)
      have c8 := cell32 p0 8 (by omega)
      have c9 := cell32 p0 9 (by omega)
      have c10 := cell32 p0 10 (by omega)
      have c11 := cell32 p0 11 (by omega)
      have c12 := cell32 p0 12 (by omega)
      have c13 := cell32 p0 13 (by omega)
      have c14 := cell32 p0 14 (by omega)
      have c15 := cell32 p0 15 (by omega)
      have hfs := fun i hi => cell32 qS i hi
      clear p0 qS q0 t0 bl0 hz0
      go_upto_region 19 with (at_make; refine mk_own rfl rfl Try.underlying22 info_u8 64 rfl rfl (by simp) (by omega) wx.heap.size (Below.refl _ _) (Nat.le_refl _) (Nat.le_refl _) ?_; intro w2 hown hb2 hg2)
      replace c0 := (hb2.cell (by exact hz1)).trans c0
      replace c1 := (hb2.cell (by exact hz1)).trans c1
      replace c2 := (hb2.cell (by exact hz1)).trans c2
      replace c3 := (hb2.cell (by exact hz1)).trans c3
      replace c4 := (hb2.cell (by exact hz1)).trans c4
      replace c5 := (hb2.cell (by exact hz1)).trans c5
      replace c6 := (hb2.cell (by exact hz1)).trans c6
      replace c7 := (hb2.cell (by exact hz1)).trans c7
      replace c8 := (hb2.cell (by exact hz1)).trans c8
      replace c9 := (hb2.cell (by exact hz1)).trans c9
      replace c10 := (hb2.cell (by exact hz1)).trans c10
      replace c11 := (hb2.cell (by exact hz1)).trans c11
      replace c12 := (hb2.cell (by exact hz1)).trans c12
      replace c13 := (hb2.cell (by exact hz1)).trans c13
      replace c14 := (hb2.cell (by exact hz1)).trans c14
      replace c15 := (hb2.cell (by exact hz1)).trans c15
      go_wp2
      clear c0 c1 c2 c3 c4 c5 c6 c7 c8 c9 c10 c11 c12 c13 c14 c15
      have hix := @ix_agg F
      go_loopw [11, 59] (fun v i wr => ∃ k : Nat, (k : Int) ≤ 16 ∧ i = .int .i64 k ∧ wr.ownsRow wx.heap.size 5 1 v (4 * k) ((outW F f k).map B) ∧ Below wx.heap.size wx wr) (fun _ i _ => 16 - (intOf i).toNat)
      case atStart => exact ⟨0, by omega, rfl, hown, hb2⟩
      case round =>
        obtain ⟨k, hk16, rfl, hr, hbl2⟩ := hrel
        clear hown hb2
        by_cases hlt3 : (k : Int) < 16
        · have hlt' : k < 16 := by omega
          have d0 := (hbl2.cell (by exact Nat.lt_of_succ_lt hz1)).trans (hfs k hlt')
          have hi0 := hix k hlt'
          have e0 := hcw k
          have e1 := hF k
          have hst : outW F f (k + 1) = outW F f k ++ le4 (wd (F k + f k)) := rfl
          have hle := le4_vals (wd (F k + f k)) (wd_lt _)
          have W0 : IntKind.u32.wrap (((F k : Nat) : Int) + ((f k : Nat) : Int)) = ((wd (F k + f k) : Nat) : Int) := by rw [IntKind.wrap_u32]; unfold wd; omega
          have hxl := wd_lt (F k + f k)
          have HS := Lib.hid hst
          have HL := Lib.hid hle
          have HX := Lib.hid hxl
          have hcap : (4 * k : Nat) ≤ 64 := by omega
          clear hst hle hfs hix e0 e1 hxl
          generalize wd (F k + f k) = x at *
          have hx32 := HX.out
          go_wp2_with (at_builtin; refine app_new rfl rfl Try.underlying22 info_u8 rfl (by decide) hr rfl 4 rfl rfl (by simp [Value.oneCell']) (by omega) hbl2 (Nat.le_refl _) hbl2.size ?_; intro v' w8 r8 x8 g8)
          have r9 : w8.ownsRow wx.heap.size 5 1 v' (4 * (k + 1)) ((outW F f (k + 1)).map B) := by
            rw [HS.out, List.map_append, ← HL.out, Nat.mul_succ]; exact r8
          exact ⟨⟨k + 1, by omega, by go_num, r9, x8⟩, by simp [intOf]; omega⟩
        · obtain rfl : k = 16 := by omega
          have kc := conv_owns (P := Try.prog) (dst := 9) (e := 5) (src := 22) (n := 4 * 16) hr Try.underlying22 Try.underlying5 Try.underlying9
          go_wp2
          go_ret
          exact ⟨by rw [HF.out]; rfl, y8.trans (hbl2.mono y8.size)⟩

theorem chaOk_parts {key nonce : ByteArray} {c : Int} (h : chaOk key c nonce = true) : (key.size : Int) = 32 ∧ (nonce.size : Int) = 12 ∧ inB c 0 4294967295 = true ∧ ∃ n : Nat, c = n ∧ (n : Int) ≤ 4294967295 := by
  simp only [chaOk, Bool.and_eq_true, beq_iff_eq] at h
  obtain ⟨⟨h1, h2⟩, h3⟩ := h
  have h4 := inB_iff.1 h2
  exact ⟨by omega, by omega, h2, c.toNat, by omega, by omega⟩

set_option maxRecDepth 100000 in
set_option maxHeartbeats 800000 in
/-- ChaBlock of the program, at every input. -/
theorem implChaBlock (key nonce : ByteArray) (c : Int) (w : World) :
    Calls Try.prog 161 #[.string key, .int .i64 c, .string nonce] w fun e w' => e = .returned (.string (str (chaB key c nonce))) ∧ Below w.heap.size w w' := by
  by_cases hok : chaOk key c nonce = true
  · obtain ⟨h1, h2, h3, n, rfl, h4⟩ := chaOk_parts hok
    rw [chaOk_yes hok, Int.toNat_natCast]
    exact implBlock_any key nonce n w h1 h2 h4
  · have hok' : chaOk key c nonce = false := by simpa using hok
    rw [chaOk_not hok']
    go_enter Try.func161, Try.ntmps161
    go_wp2_with (go_at_call 160; refine (isCha_any _ _ _ _).mono ?_; rintro e w' ⟨rfl, rfl⟩; rw [hok'])
    go_ret
    exact ⟨rfl, Below.refl _ _⟩
end Go.Proofs.Ytfbbdnicplbmdaa
