
/- Walks: BloomMay of the reference and of the program; the law. -/
import Derived.Test.YtfbbdnicplbmdaaBloomW
import Derived.Test.YtfbbdnicplbmdaaFixedW
set_option linter.unusedVariables false
set_option linter.unusedSimpArgs false
namespace Go.Proofs.Ytfbbdnicplbmdaa
open Go.RowKit Sp Go.Sort

theorem bit_at (b : ByteArray) (p : Nat) (h : p / 8 < b.size) : bitAt b.data.toList p = b[p / 8].toNat / 2 ^ (p % 8) % 2 := by
  have hx : p / 8 < b.data.toList.length := by simpa using h
  unfold bitAt
  rw [List.getElem?_eq_getElem hx]
  rfl

set_option maxRecDepth 100000 in
set_option maxHeartbeats 800000 in
theorem specBloomMay (b s : ByteArray) (w : World) (hb : (b.size : Int) ≤ 1048576) (hs : (s.size : Int) ≤ 1048576) :
    Calls Try.prog 134 #[.string b, .string s] w fun e w' => e = .returned (.bool (bloomB b s)) ∧ Below w.heap.size w w' := by
  by_cases hin : inB b.size 1 64 = true
  · have h1 : (1 : Int) ≤ b.size := by simp [inB] at hin; omega
    have h2 : (b.size : Int) ≤ 64 := by simp [inB] at hin; omega
    go_enter Try.func134, Try.ntmps134
    go_wp2_with (first | (go_at_call 104; refine (l1In_any _ _ _ _).mono ?_; rintro e w' ⟨rfl, rfl⟩; rw [hin]) | (go_at_call 171; refine (l10Bits_any _ _ _ hs h1 h2).mono ?_; rintro e w1 ⟨g, rfl, hc, hg, b1⟩))
    go_loopw [6] (fun i wr => ∃ k : Nat, k ≤ 3 ∧ i = .int .i64 k ∧ AllTo (fun k => bitAt b.data.toList (bpos s b.size k).toNat == 1) k ∧ Below w1.heap.size w1 wr) (fun i _ => 3 - (intOf i).toNat)
    case atStart => exact ⟨0, by omega, rfl, AllTo.zero _, Below.refl _ _⟩
    case round =>
      obtain ⟨k, hk, rfl, hall, hbl⟩ := hrel
      by_cases hlt : (k : Int) < 3
      · have hltn : k < 3 := by omega
        have hc0 : wr.cell? ⟨g, k, none⟩ = some (.int .i64 (bpos s b.size k)) := (hbl.cell (by exact hg)).trans (hc k hltn)
        have hq := bpos_bd s h1 k
        obtain ⟨p, hp⟩ : ∃ p : Nat, bpos s b.size k = p := ⟨(bpos s b.size k).toNat, by omega⟩
        have hpt : (bpos s b.size k).toNat = p := by omega
        rw [hp] at hc0 hq
        have hps : p / 8 < b.size := by omega
        have hbit := bit_at b p hps
        have hby : (b[p / 8].toNat : Int) ≤ 255 := by have := b[p / 8].toNat_lt; omega
        have hand := i64_bit b[p / 8].toNat (p % 8) hby
        have d1 : IntKind.i64.wrap ((p : Int) / 8) = ((p / 8 : Nat) : Int) := by rw [IntKind.wrap_i64]; omega
        rw [← hbit] at hand
        have hr8 : p % 8 < 8 := by omega
        have HB := bit_two b.data.toList p
        generalize hbx : bitAt b.data.toList p = bx at *
        clear hbit
        generalize p / 8 = q at *
        rcases HB with hz | hz
        · rw [hz] at hand
          have HR := Lib.hid (bloomB_false (b := b) (key := s) hltn (by rw [hpt, hbx]; exact hz))
          clear hall hc hp hpt hz hbx
          go_wp2
          go_quiet (fail)
          go_wp2
          go_ret
          exact ⟨by rw [HR.out]; rfl, b1.trans (below_drewN hbl _ |>.mono b1.size)⟩
        · rw [hz] at hand
          have hall2 := hall.step (show (bitAt b.data.toList (bpos s b.size k).toNat == 1) = true by rw [hpt, hbx, hz]; rfl)
          clear hall hc hp hpt hz hbx
          go_wp2
          go_quiet (fail)
          go_wp2
          go_roundw
          case rel => exact ⟨k + 1, by omega, by go_num, hall2, below_drewN hbl _⟩
          case measure => simp [intOf]; omega
      · obtain rfl : k = 3 := by omega
        have HR := Lib.hid (bloomB_true (b := b) (key := s) hin hall)
        clear hall hc
        go_wp2
        go_ret
        exact ⟨by rw [HR.out]; rfl, b1.trans (hbl.mono b1.size)⟩
  · have hin' : inB b.size 1 64 = false := by simpa using hin
    go_enter Try.func134, Try.ntmps134
    go_wp2_with (go_at_call 104; refine (l1In_any _ _ _ _).mono ?_; rintro e w' ⟨rfl, rfl⟩; rw [hin'])
    go_ret
    exact ⟨by rw [bloomB_out hin']; rfl, Below.refl _ _⟩

set_option maxRecDepth 100000 in
set_option maxHeartbeats 1600000 in
theorem implBloomMay (b s : ByteArray) (w : World) (hb : (b.size : Int) ≤ 1048576) (hs : (s.size : Int) ≤ 1048576) :
    Calls Try.prog 67 #[.string b, .string s] w fun e w' => e = .returned (.bool (bloomB b s)) ∧ Below w.heap.size w w' := by
  by_cases hin : inB b.size 1 64 = true
  · have h1 : (1 : Int) ≤ b.size := by simp [inB] at hin; omega
    have h2 : (b.size : Int) ≤ 64 := by simp [inB] at hin; omega
    have hq0 := bpos_bd s h1 0
    obtain ⟨p0, hp0⟩ : ∃ p : Nat, bpos s b.size 0 = p := ⟨(bpos s b.size 0).toNat, by omega⟩
    have hpt0 : (bpos s b.size 0).toNat = p0 := by omega
    have hps0 : p0 / 8 < b.size := by omega
    have hbit0 := bit_at b p0 hps0
    have hby0 : (b[p0 / 8].toNat : Int) ≤ 255 := by have := b[p0 / 8].toNat_lt; omega
    have hand0 := u8_bit b[p0 / 8].toNat (p0 % 8) hby0
    have d0 : IntKind.i64.wrap ((p0 : Int) / 8) = ((p0 / 8 : Nat) : Int) := by rw [IntKind.wrap_i64]; omega
    have e0 : (p0 : Int) / 8 = ((p0 / 8 : Nat) : Int) := by omega
    rw [← hbit0] at hand0
    have hr0 : p0 % 8 < 8 := by omega
    have hd0 := bit_two b.data.toList p0
    generalize hbx0 : bitAt b.data.toList p0 = bx0 at *
    clear hbit0
    generalize p0 / 8 = q0 at *
    have hq1 := bpos_bd s h1 1
    obtain ⟨p1, hp1⟩ : ∃ p : Nat, bpos s b.size 1 = p := ⟨(bpos s b.size 1).toNat, by omega⟩
    have hpt1 : (bpos s b.size 1).toNat = p1 := by omega
    have hps1 : p1 / 8 < b.size := by omega
    have hbit1 := bit_at b p1 hps1
    have hby1 : (b[p1 / 8].toNat : Int) ≤ 255 := by have := b[p1 / 8].toNat_lt; omega
    have hand1 := u8_bit b[p1 / 8].toNat (p1 % 8) hby1
    have d1 : IntKind.i64.wrap ((p1 : Int) / 8) = ((p1 / 8 : Nat) : Int) := by rw [IntKind.wrap_i64]; omega
    have e1 : (p1 : Int) / 8 = ((p1 / 8 : Nat) : Int) := by omega
    rw [← hbit1] at hand1
    have hr1 : p1 % 8 < 8 := by omega
    have hd1 := bit_two b.data.toList p1
    generalize hbx1 : bitAt b.data.toList p1 = bx1 at *
    clear hbit1
    generalize p1 / 8 = q1 at *
    have hq2 := bpos_bd s h1 2
    obtain ⟨p2, hp2⟩ : ∃ p : Nat, bpos s b.size 2 = p := ⟨(bpos s b.size 2).toNat, by omega⟩
    have hpt2 : (bpos s b.size 2).toNat = p2 := by omega
    have hps2 : p2 / 8 < b.size := by omega
    have hbit2 := bit_at b p2 hps2
    have hby2 : (b[p2 / 8].toNat : Int) ≤ 255 := by have := b[p2 / 8].toNat_lt; omega
    have hand2 := u8_bit b[p2 / 8].toNat (p2 % 8) hby2
    have d2 : IntKind.i64.wrap ((p2 : Int) / 8) = ((p2 / 8 : Nat) : Int) := by rw [IntKind.wrap_i64]; omega
    have e2 : (p2 : Int) / 8 = ((p2 / 8 : Nat) : Int) := by omega
    rw [← hbit2] at hand2
    have hr2 : p2 % 8 < 8 := by omega
    have hd2 := bit_two b.data.toList p2
    generalize hbx2 : bitAt b.data.toList p2 = bx2 at *
    clear hbit2
    generalize p2 / 8 = q2 at *
    have HP0 := Lib.hid hp0
    have HP1 := Lib.hid hp1
    have HP2 := Lib.hid hp2
    rcases hd0 with rfl | rfl
    · have HR := Lib.hid (bloomB_false (b := b) (key := s) (k := 0) (by omega) (by rw [hpt0, hbx0]))
      clear hp0 hp1 hp2 hpt0 hpt1 hpt2 hbx0 hbx1 hbx2
      have i0 : ∀ w, (Instr.index 165 (.agg #[.int .i64 p0, .int .i64 p1, .int .i64 p2]) (.int .i64 0)).run Try.prog w = .ok (.int .i64 p0) w := fun _ => by kernel_rfl
      have i1 : ∀ w, (Instr.index 165 (.agg #[.int .i64 p0, .int .i64 p1, .int .i64 p2]) (.int .i64 1)).run Try.prog w = .ok (.int .i64 p1) w := fun _ => by kernel_rfl
      have i2 : ∀ w, (Instr.index 165 (.agg #[.int .i64 p0, .int .i64 p1, .int .i64 p2]) (.int .i64 2)).run Try.prog w = .ok (.int .i64 p2) w := fun _ => by kernel_rfl
      go_enter Try.func67, Try.ntmps67
      go_wp2_with (first | (go_at_call 108; refine (inRange_any _ _ _ _).mono ?_; rintro e w' ⟨rfl, rfl⟩; rw [hin]) | (go_at_call 138; refine (bloomBits_any _ _ _ hs h1 h2).mono ?_; rintro e w1 ⟨rfl, b1⟩; rw [HP0.out, HP1.out, HP2.out]))
      refine wp_loop_rounds 4 ?_
      rw [rounds_succ]; go_wp2
      go_ret
      exact ⟨by rw [HR.out]; rfl, b1⟩
    · skip
      rcases hd1 with rfl | rfl
      · have HR := Lib.hid (bloomB_false (b := b) (key := s) (k := 1) (by omega) (by rw [hpt1, hbx1]))
        clear hp0 hp1 hp2 hpt0 hpt1 hpt2 hbx0 hbx1 hbx2
        have i0 : ∀ w, (Instr.index 165 (.agg #[.int .i64 p0, .int .i64 p1, .int .i64 p2]) (.int .i64 0)).run Try.prog w = .ok (.int .i64 p0) w := fun _ => by kernel_rfl
        have i1 : ∀ w, (Instr.index 165 (.agg #[.int .i64 p0, .int .i64 p1, .int .i64 p2]) (.int .i64 1)).run Try.prog w = .ok (.int .i64 p1) w := fun _ => by kernel_rfl
        have i2 : ∀ w, (Instr.index 165 (.agg #[.int .i64 p0, .int .i64 p1, .int .i64 p2]) (.int .i64 2)).run Try.prog w = .ok (.int .i64 p2) w := fun _ => by kernel_rfl
        go_enter Try.func67, Try.ntmps67
        go_wp2_with (first | (go_at_call 108; refine (inRange_any _ _ _ _).mono ?_; rintro e w' ⟨rfl, rfl⟩; rw [hin]) | (go_at_call 138; refine (bloomBits_any _ _ _ hs h1 h2).mono ?_; rintro e w1 ⟨rfl, b1⟩; rw [HP0.out, HP1.out, HP2.out]))
        refine wp_loop_rounds 4 ?_
        rw [rounds_succ]; go_wp2
        rw [rounds_succ]; go_wp2
        go_ret
        exact ⟨by rw [HR.out]; rfl, b1⟩
      · skip
        rcases hd2 with rfl | rfl
        · have HR := Lib.hid (bloomB_false (b := b) (key := s) (k := 2) (by omega) (by rw [hpt2, hbx2]))
          clear hp0 hp1 hp2 hpt0 hpt1 hpt2 hbx0 hbx1 hbx2
          have i0 : ∀ w, (Instr.index 165 (.agg #[.int .i64 p0, .int .i64 p1, .int .i64 p2]) (.int .i64 0)).run Try.prog w = .ok (.int .i64 p0) w := fun _ => by kernel_rfl
          have i1 : ∀ w, (Instr.index 165 (.agg #[.int .i64 p0, .int .i64 p1, .int .i64 p2]) (.int .i64 1)).run Try.prog w = .ok (.int .i64 p1) w := fun _ => by kernel_rfl
          have i2 : ∀ w, (Instr.index 165 (.agg #[.int .i64 p0, .int .i64 p1, .int .i64 p2]) (.int .i64 2)).run Try.prog w = .ok (.int .i64 p2) w := fun _ => by kernel_rfl
          go_enter Try.func67, Try.ntmps67
          go_wp2_with (first | (go_at_call 108; refine (inRange_any _ _ _ _).mono ?_; rintro e w' ⟨rfl, rfl⟩; rw [hin]) | (go_at_call 138; refine (bloomBits_any _ _ _ hs h1 h2).mono ?_; rintro e w1 ⟨rfl, b1⟩; rw [HP0.out, HP1.out, HP2.out]))
          refine wp_loop_rounds 4 ?_
          rw [rounds_succ]; go_wp2
          rw [rounds_succ]; go_wp2
          rw [rounds_succ]; go_wp2
          go_ret
          exact ⟨by rw [HR.out]; rfl, b1⟩
        · skip
          have HR := Lib.hid (bloomB_true (b := b) (key := s) hin (fun i hi => by
            have : i = 0 ∨ i = 1 ∨ i = 2 := by omega
            rcases this with rfl | rfl | rfl <;> simp [hpt0, hpt1, hpt2, hbx0, hbx1, hbx2]))
          clear hp0 hp1 hp2 hpt0 hpt1 hpt2 hbx0 hbx1 hbx2
          have i0 : ∀ w, (Instr.index 165 (.agg #[.int .i64 p0, .int .i64 p1, .int .i64 p2]) (.int .i64 0)).run Try.prog w = .ok (.int .i64 p0) w := fun _ => by kernel_rfl
          have i1 : ∀ w, (Instr.index 165 (.agg #[.int .i64 p0, .int .i64 p1, .int .i64 p2]) (.int .i64 1)).run Try.prog w = .ok (.int .i64 p1) w := fun _ => by kernel_rfl
          have i2 : ∀ w, (Instr.index 165 (.agg #[.int .i64 p0, .int .i64 p1, .int .i64 p2]) (.int .i64 2)).run Try.prog w = .ok (.int .i64 p2) w := fun _ => by kernel_rfl
          go_enter Try.func67, Try.ntmps67
          go_wp2_with (first | (go_at_call 108; refine (inRange_any _ _ _ _).mono ?_; rintro e w' ⟨rfl, rfl⟩; rw [hin]) | (go_at_call 138; refine (bloomBits_any _ _ _ hs h1 h2).mono ?_; rintro e w1 ⟨rfl, b1⟩; rw [HP0.out, HP1.out, HP2.out]))
          refine wp_loop_rounds 4 ?_
          rw [rounds_succ]; go_wp2
          rw [rounds_succ]; go_wp2
          rw [rounds_succ]; go_wp2
          rw [rounds_succ]; go_wp2
          go_ret
          exact ⟨by rw [HR.out]; rfl, b1⟩
  · have hin' : inB b.size 1 64 = false := by simpa using hin
    go_enter Try.func67, Try.ntmps67
    go_wp2_with (go_at_call 108; refine (inRange_any _ _ _ _).mono ?_; rintro e w' ⟨rfl, rfl⟩; rw [hin'])
    go_ret
    exact ⟨by rw [bloomB_out hin']; rfl, Below.refl _ _⟩

end Go.Proofs.Ytfbbdnicplbmdaa
