
/- Walks: the block of the reference. -/
import Derived.Test.YtfbbdnicplbmdaaChaC
import Derived.Test.YtfbbdnicplbmdaaChaS
import Derived.Test.YtfbbdnicplbmdaaApp
import Derived.Test.YtfbbdnicplbmdaaIn
import Derived.Deep.RegionLaw
import Derived.Deep.DeepCutAuto
import Derived.BigQuiet
set_option linter.unusedVariables false
set_option linter.unusedSimpArgs false
namespace Go.Proofs.Ytfbbdnicplbmdaa
open Go.RowKit Sp
attribute [local go_sem] str_size str_append

theorem l3Little_lit (s : ByteArray) (i : Nat) (j : Int) (hj : j = (i : Int)) (w : World) (h : (i : Int) + 3 < s.size) (hs : (s.size : Int) ≤ 1048576) :
    Calls Try.prog 199 #[.string s, .int .i64 j] w fun e w' => e = .returned (.int .i64 (leW s.data.toList i : Nat)) ∧ Below w.heap.size w w' := by
  subst hj; exact l3Little_any s i w h hs
theorem l3Quarter_lit (f : Nat → Nat) (hf : Words f) (a b c d : Nat) (A B C D : Int) (hq : (A = (a : Int) ∧ B = (b : Int) ∧ C = (c : Int) ∧ D = (d : Int)) ∧ (a < 16 ∧ b < 16 ∧ c < 16 ∧ d < 16) ∧ a ≠ b ∧ a ≠ c ∧ a ≠ d ∧ b ≠ c ∧ b ≠ d ∧ c ≠ d) (w : World) (base t g cap : Nat)
    (r0 : w.ownsRow base t 1 (.slice (some ⟨g, 0, none⟩) 16 cap) 16 (W64 f)) :
    Calls Try.prog 200 #[.slice (some ⟨g, 0, none⟩) 16 cap, .int .i64 A, .int .i64 B, .int .i64 C, .int .i64 D] w fun e w' => e = .returned (.slice (some ⟨g, 0, none⟩) 16 cap) ∧ w'.ownsRow base t 1 (.slice (some ⟨g, 0, none⟩) 16 cap) 16 (W64 (qr f a b c d)) ∧ w.grownBy w' (some g) := by
  obtain ⟨⟨rfl, rfl, rfl, rfl⟩, ⟨h1, h2, h3, h4⟩, h5, h6, h7, h8, h9, h10⟩ := hq
  exact l3Quarter_any f hf a b c d h1 h2 h3 h4 h5 h6 h7 h8 h9 h10 w base t g cap r0

set_option maxRecDepth 100000 in
set_option maxHeartbeats 1600000 in
theorem l3Block_any (key nonce : ByteArray) (c : Nat) (w : World) (hk : (key.size : Int) = 32) (hn : (nonce.size : Int) = 12) (hc : (c : Int) ≤ 4294967295) :
    Calls Try.prog 186 #[.string key, .int .i64 c, .string nonce] w fun e w' => e = .returned (.string (str (chaG key nonce c))) ∧ Below w.heap.size w w' := by
  have hcw : Words (chaW key.data.toList nonce.data.toList c) := chaW_words _ _ (by omega)
  have hfin : chaG key nonce c = outW (rounds20 10 (chaW key.data.toList nonce.data.toList c)) (chaW key.data.toList nonce.data.toList c) 16 := rfl
  have hlit := chaW_lit key.data.toList nonce.data.toList c
  have hkey := fun k h => @chaW_key key.data.toList nonce.data.toList c k h
  have hcnt := chaW_count key.data.toList nonce.data.toList c
  have hnon := fun k h => @chaW_nonce key.data.toList nonce.data.toList c k h
  generalize chaW key.data.toList nonce.data.toList c = f at *
  have HF := Lib.hid hfin
  have HK := Lib.hid hkey
  have HC := Lib.hid hcnt
  have HN := Lib.hid hnon
  clear hfin hkey hcnt hnon
  have r0 : (w.alloc (.cells #[.int .i64 1634760805, .int .i64 857760878, .int .i64 2036477234, .int .i64 1797285236] 3)).ownsRow w.heap.size 3 1 (.slice (some ⟨w.heap.size, 0, none⟩) 4 4) (4 + 0) (wI f (4 + 0)) := by
    rw [Nat.add_zero, hlit]
    exact World.ownsRow_lit w #[.int .i64 1634760805, .int .i64 857760878, .int .i64 2036477234, .int .i64 1797285236] 4 (Nat.le_refl _) (by simp [maxLen]) rfl
  clear hlit
  have hiw : (Try.prog.info? 3).map (fun i => (i.zero, i.size, i.bytes)) = some (some (.int .i64 0), 1, 8) := by kernel_rfl
  go_enter Try.func186, Try.ntmps186
  go_wp2
  go_loopw [7, 8] (fun v i wr => ∃ k : Nat, (k : Int) ≤ 8 ∧ i = .int .i64 k ∧ wr.ownsRow w.heap.size 3 1 v (4 + k) (wI f (4 + k)) ∧ Below w.heap.size w wr) (fun _ i _ => 8 - (intOf i).toNat)
  case atStart => exact ⟨0, by omega, rfl, r0, (Below.refl _ _).alloc (Nat.le_refl _) _⟩
  case round =>
    obtain ⟨k, hk8, rfl, hr, hbl⟩ := hrel
    clear r0
    by_cases hlt : (k : Int) < 8
    · have hlt' : k < 8 := by omega
      go_wp2_with fail
      refine (l3Little_lit key (4 * k) _ (by omega) _ (by omega) (by omega)).mono ?_
      rintro e w1 ⟨rfl, b1⟩
      rw [← HK.out k hlt']
      have r1 := own_below hr b1
      have x1 := hbl.trans (b1.mono hbl.size)
      go_wp2_with (at_builtin; refine app_new rfl rfl Try.underlying125 hiw rfl (by decide) r1 rfl 1 rfl rfl (by simp [Value.oneCell']) (by omega) x1 (Nat.le_refl _) x1.size ?_; intro v' w2 r2 x2 g2)
      go_roundw
      case rel => exact ⟨k + 1, by omega, by go_num, by rw [← Nat.add_assoc, wI_snoc]; exact r2, x2⟩
      case measure => simp [intOf]; omega
    · obtain rfl : k = 8 := by omega
      go_wp2_with fail
      refine (l3Little_lit nonce 0 _ rfl _ (by omega) (by omega)).mono ?_
      rintro e w1 ⟨rfl, b1⟩
      rw [show leW nonce.data.toList 0 = f 13 from (HN.out 0 (by omega)).symm]
      have r1 := own_below hr b1
      have x1 := hbl.trans (b1.mono hbl.size)
      go_wp2_with fail
      refine (l3Little_lit nonce 4 _ rfl _ (by omega) (by omega)).mono ?_
      rintro e w2 ⟨rfl, b2⟩
      rw [show leW nonce.data.toList 4 = f 14 from (HN.out 1 (by omega)).symm]
      have r2 := own_below r1 b2
      have x2 := x1.trans (b2.mono x1.size)
      go_wp2_with fail
      refine (l3Little_lit nonce 8 _ rfl _ (by omega) (by omega)).mono ?_
      rintro e w3 ⟨rfl, b3⟩
      rw [show leW nonce.data.toList 8 = f 15 from (HN.out 2 (by omega)).symm]
      have r3 := own_below r2 b3
      have x3 := x2.trans (b3.mono x2.size)
      clear hr r1 r2 b1 b2 b3
      go_upto_region 7 with (at_builtin; refine app_new rfl rfl Try.underlying125 hiw rfl (by decide) r3 rfl 4 rfl rfl (by simp [Value.oneCell']) (by omega) x3 (Nat.le_refl _) x3.size ?_; intro v4 w4 r4 x4 g4)
      have rs0 : w4.ownsRow w.heap.size 3 1 v4 16 (W64 f) := by
        have h4 := wI_add4 f 12
        rw [HC.out] at h4
        rw [← wI_16, show (16 : Nat) = 12 + 4 from rfl, h4]; exact r4
      clear r3 r4 g4 x3
      obtain ⟨gs, caps, rfl⟩ : ∃ gs caps, v4 = .slice (some ⟨gs, 0, none⟩) 16 caps := own_slice rs0 (by omega)
      have hgs := (rs0.lt gs rfl).2
      have hlen : ((List.range 16).map f).length = 16 := by simp
      have hS : SlT (fun x : Nat => [Value.int .i64 (x : Int)]) 1 w4 (.slice (some ⟨gs, 0, none⟩) ((List.range 16).map f).length caps) ((List.range 16).map f) := by
        rw [hlen]; exact SlT.of_own (by rw [words_flat]; exact rs0) (fun _ => rfl) (by omega)
      have h0 : (w4.alloc (.cells #[] 3)).ownsRow w4.heap.size 3 1 (.slice (some ⟨w4.heap.size, 0, none⟩) 0 0) 0 [] := World.ownsRow_lit w4 #[] 0 (Nat.le_refl _) (by simp [maxLen]) rfl
      have hb0 : Below w4.heap.size w4 (w4.alloc (.cells #[] 3)) := (Below.refl _ _).alloc (Nat.le_refl _) _
      have hS5 := hS.below hb0
      clear hS
      go_upto_region 8 with (at_builtin; refine app_recs (l := (List.range 16).map f) rfl rfl Try.underlying125 hiw rfl (by decide) h0 rfl (some ⟨gs, 0, none⟩) caps hS5 rfl (fun _ => rfl) (by simp [Value.oneCell']) (by simp) hb0 (Nat.le_refl _) hb0.size ?_; intro v7 w7 r7 x7 g7)
      have rw7 : w7.ownsRow w4.heap.size 3 1 v7 16 (W64 f) := by rw [words_flat] at r7; simpa using r7
      clear r7 g7 hS5 h0 hb0
      obtain ⟨gw, capw, rfl⟩ : ∃ gw capw, v7 = .slice (some ⟨gw, 0, none⟩) 16 capw := own_slice rw7 (by omega)
      have hgw := (rw7.lt gw rfl).1
      have rs7 := own_below rs0 x7
      have y7 := x4.trans (x7.mono x4.size)
      have x4z := x4.size
      clear x7 x4 rs0
      go_wp2
      go_loopw [9, 10] (fun v i wr => ∃ k : Nat, (k : Int) ≤ 10 ∧ i = .int .i64 k ∧ v = .slice (some ⟨gw, 0, none⟩) 16 capw ∧ wr.ownsRow w4.heap.size 3 1 (.slice (some ⟨gw, 0, none⟩) 16 capw) 16 (W64 (rounds20 k f)) ∧ w7.grownBy wr (some gw)) (fun _ i _ => 10 - (intOf i).toNat)
      case atStart => exact ⟨0, by omega, rfl, rfl, rw7, touch_refl _ _⟩
      case round =>
        obtain ⟨k, hk10, rfl, rfl, q0, t0⟩ := hrel
        by_cases hlt2 : (k : Int) < 10
        · have h0 := rounds20_words hcw k
          go_wp2_with fail
          refine (l3Quarter_lit _ h0 0 4 8 12 _ _ _ _ (by decide) _ _ _ gw capw q0).mono ?_
          rintro e z1 ⟨rfl, q1, g1⟩
          have t1 := touch_trans t0 g1
          have h1 := qr_words h0 0 4 8 12
          clear q0 t0 g1 h0
          go_wp2_with fail
          refine (l3Quarter_lit _ h1 1 5 9 13 _ _ _ _ (by decide) _ _ _ gw capw q1).mono ?_
          rintro e z2 ⟨rfl, q2, g2⟩
          have t2 := touch_trans t1 g2
          have h2 := qr_words h1 1 5 9 13
          clear q1 t1 g2 h1
          go_wp2_with fail
          refine (l3Quarter_lit _ h2 2 6 10 14 _ _ _ _ (by decide) _ _ _ gw capw q2).mono ?_
          rintro e z3 ⟨rfl, q3, g3⟩
          have t3 := touch_trans t2 g3
          have h3 := qr_words h2 2 6 10 14
          clear q2 t2 g3 h2
          go_wp2_with fail
          refine (l3Quarter_lit _ h3 3 7 11 15 _ _ _ _ (by decide) _ _ _ gw capw q3).mono ?_
          rintro e z4 ⟨rfl, q4, g4⟩
          have t4 := touch_trans t3 g4
          have h4 := qr_words h3 3 7 11 15
          clear q3 t3 g4 h3
          go_wp2_with fail
          refine (l3Quarter_lit _ h4 0 5 10 15 _ _ _ _ (by decide) _ _ _ gw capw q4).mono ?_
          rintro e z5 ⟨rfl, q5, g5⟩
          have t5 := touch_trans t4 g5
          have h5 := qr_words h4 0 5 10 15
          clear q4 t4 g5 h4
          go_wp2_with fail
          refine (l3Quarter_lit _ h5 1 6 11 12 _ _ _ _ (by decide) _ _ _ gw capw q5).mono ?_
          rintro e z6 ⟨rfl, q6, g6⟩
          have t6 := touch_trans t5 g6
          have h6 := qr_words h5 1 6 11 12
          clear q5 t5 g6 h5
          go_wp2_with fail
          refine (l3Quarter_lit _ h6 2 7 8 13 _ _ _ _ (by decide) _ _ _ gw capw q6).mono ?_
          rintro e z7 ⟨rfl, q7, g7⟩
          have t7 := touch_trans t6 g7
          have h7 := qr_words h6 2 7 8 13
          clear q6 t6 g7 h6
          go_wp2_with fail
          refine (l3Quarter_lit _ h7 3 4 9 14 _ _ _ _ (by decide) _ _ _ gw capw q7).mono ?_
          rintro e z8 ⟨rfl, q8, g8⟩
          have t8 := touch_trans t7 g8
          have h8 := qr_words h7 3 4 9 14
          clear q7 t7 g8 h7
          go_wp2
          go_roundw
          case rel => exact ⟨k + 1, by omega, by go_num, rfl, q8, t8⟩
          case measure => simp [intOf]; omega
        · obtain rfl : k = 10 := by omega
          obtain ⟨wx, hwx⟩ : ∃ wx, wx = wr := ⟨_, rfl⟩
          subst hwx
          have rS := rs7.kept t0 (Or.inr (by simp [Value.ownBlock]; omega))
          have hF := rounds20_words hcw 10
          have zb : Below w4.heap.size w7 wx := ⟨t0.os, t0.tape, t0.output, t0.size, fun k hk => t0.block k (by have := rs7.lt gs rfl; have := rw7.lt gw rfl; omega) (by intro he; have := Option.some.inj he; omega)⟩
          have y8 : Below w.heap.size w wx := y7.trans (zb.mono x4z)
          generalize rounds20 10 f = F at *
          have hb8 : (wx.alloc (.cells #[] 5)).ownsRow wx.heap.size 5 1 (.slice (some ⟨wx.heap.size, 0, none⟩) 0 0) 0 ((outW F f 0).map B) := World.ownsRow_lit wx #[] 0 (Nat.le_refl _) (by simp [maxLen]) rfl
          have hcs := fun i hi => cell64 rS i hi
          have hcw2 := fun i hi => cell64 q0 i hi
          have hgs8 : gs < wx.heap.size := (rS.lt gs rfl).2
          have hgw8 : gw < wx.heap.size := (q0.lt gw rfl).2
          clear rs7 rw7 t0 zb rS q0
          go_wp2
          go_loopw [11, 12] (fun v i wo => ∃ k : Nat, (k : Int) ≤ 16 ∧ i = .int .i64 k ∧ wo.ownsRow wx.heap.size 5 1 v (4 * k) ((outW F f k).map B) ∧ Below wx.heap.size wx wo) (fun _ i _ => 16 - (intOf i).toNat)
          case atStart => exact ⟨0, by omega, rfl, hb8, (Below.refl _ _).alloc (Nat.le_refl _) _⟩
          case round =>
            obtain ⟨k, hk16, rfl, hr, hbl2⟩ := hrel
            clear hb8
            by_cases hlt3 : (k : Int) < 16
            · have hlt' : k < 16 := by omega
              have d0 := (hbl2.cell (by exact hgs8)).trans (hcs k hlt')
              have d1 := (hbl2.cell (by exact hgw8)).trans (hcw2 k hlt')
              have e0 := hcw k
              have e1 := hF k
              have hst : outW F f (k + 1) = outW F f k ++ le4 (wd (F k + f k)) := rfl
              have hle := le4_map (wd (F k + f k))
              have W0 : IntKind.i64.wrap (((F k : Nat) : Int) + ((f k : Nat) : Int)) = ((F k + f k : Nat) : Int) := by rw [IntKind.wrap_i64]; omega
              have cW : ∀ w, Calls Try.prog 201 #[.int .i64 ((F k + f k : Nat) : Int)] w fun e w' => e = .returned (.int .i64 (wd (F k + f k) : Nat)) ∧ w = w' := fun w => l3Word_any _ _ (by omega)
              have hxl := wd_lt (F k + f k)
              generalize wd (F k + f k) = x at *
              have HS := Lib.hid hst
              have HL := Lib.hid hle
              have A0 : bits .and .i64 (x : Int) 255 = ((x % 256 : Nat) : Int) := by have h := i64_and x 255 (by omega) (by omega); rw [Nat.and_two_pow_sub_one_eq_mod x 8] at h; exact h
              have A1 : bits .and .i64 ((x : Int) / 256) 255 = ((x / 256 % 256 : Nat) : Int) := by have h := i64_and (x / 256) 255 (by omega) (by omega); rw [Nat.and_two_pow_sub_one_eq_mod (x / 256) 8] at h; exact h
              have A2 : bits .and .i64 ((x : Int) / 65536) 255 = ((x / 65536 % 256 : Nat) : Int) := by have h := i64_and (x / 65536) 255 (by omega) (by omega); rw [Nat.and_two_pow_sub_one_eq_mod (x / 65536) 8] at h; exact h
              clear hst hle hcs hcw2 e0 e1
              go_wp2
              go_quiet ((go_at_call 201; exact Calls.quiet_of_same ((cW _).mono fun _ _ h => ⟨h.1, h.2.symm⟩)))
              have hr2 : (wr.drewN nq).ownsRow wx.heap.size 5 1 u11 (4 * k) ((outW F f k).map B) := hr
              go_wp2_with (at_builtin; refine app_new rfl rfl Try.underlying22 info_u8 rfl (by decide) hr2 rfl 4 rfl rfl (by simp [Value.oneCell']) (by omega) (below_drewN hbl2 nq) (Nat.le_refl _) hbl2.size ?_; intro v' w8 r8 x8 g8)
              have r9 : w8.ownsRow wx.heap.size 5 1 v' (4 * (k + 1)) ((outW F f (k + 1)).map B) := by
                rw [HS.out, List.map_append, ← le4_vals x hxl, Nat.mul_succ]; exact r8
              clear r8 hr hr2
              go_roundw
              case rel => exact ⟨k + 1, by omega, by go_num, r9, x8⟩
              case measure => simp [intOf]; omega
            · obtain rfl : k = 16 := by omega
              have kc := conv_owns (P := Try.prog) (dst := 9) (e := 5) (src := 22) (n := 4 * 16) hr Try.underlying22 Try.underlying5 Try.underlying9
              go_wp2
              go_ret
              exact ⟨by rw [HF.out]; rfl, y8.trans (hbl2.mono y8.size)⟩

end Go.Proofs.Ytfbbdnicplbmdaa
