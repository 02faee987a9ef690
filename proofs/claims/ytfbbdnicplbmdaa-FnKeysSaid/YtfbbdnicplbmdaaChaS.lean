
/- Walks: a quarter round of the reference. -/
import Derived.Test.YtfbbdnicplbmdaaChaQ
import Derived.Deep.RegionLaw
import Derived.Deep.DeepCutAuto
set_option linter.unusedVariables false
set_option linter.unusedSimpArgs false
namespace Go.Proofs.Ytfbbdnicplbmdaa
open Go.RowKit Sp
set_option maxRecDepth 100000 in
set_option maxHeartbeats 1600000 in
theorem l3Quarter_any (f : Nat → Nat) (hf : Words f) (a b c d : Nat) (ha : a < 16) (hb : b < 16) (hc : c < 16) (hd : d < 16) (hab : a ≠ b) (hac : a ≠ c) (had : a ≠ d) (hbc : b ≠ c) (hbd : b ≠ d) (hcd : c ≠ d) (w : World) (base t g cap : Nat)
    (r0 : w.ownsRow base t 1 (.slice (some ⟨g, 0, none⟩) 16 cap) 16 (W64 f)) :
    Calls Try.prog 200 #[.slice (some ⟨g, 0, none⟩) 16 cap, .int .i64 a, .int .i64 b, .int .i64 c, .int .i64 d] w fun e w' => e = .returned (.slice (some ⟨g, 0, none⟩) 16 cap) ∧ w'.ownsRow base t 1 (.slice (some ⟨g, 0, none⟩) 16 cap) 16 (W64 (qr f a b c d)) ∧ w.grownBy w' (some g) := by
  have hqs := qr_steps f hab hac had hbc hbd hcd (qa1 f a b) (qb1 f a b c d) (qc1 f a b c d) (qd1 f a b d) (qa2 f a b c d) (qb2 f a b c d) (qc2 f a b c d) (qd2 f a b c d)
  have ia : (a : Int) < 16 := by omega
  have ib : (b : Int) < 16 := by omega
  have ic : (c : Int) < 16 := by omega
  have id' : (d : Int) < 16 := by omega
  have ga := hf a
  have gb := hf b
  have gc := hf c
  have gd := hf d
  have gA1 := qa1_lt (f := f) a b
  have gD1 := qd1_lt hf a b d
  have gC1 := qc1_lt (f := f) a b c d
  have gB1 := qb1_lt hf a b c d
  have gA2 := qa2_lt (f := f) a b c d
  have gD2 := qd2_lt hf a b c d
  have gC2 := qc2_lt (f := f) a b c d
  have gB2 := qb2_lt hf a b c d
  have hA1 : wd (f a + f b) = qa1 f a b := rfl
  have hD1 : rot (f d ^^^ qa1 f a b) 16 = qd1 f a b d := rfl
  have hC1 : wd (f c + qd1 f a b d) = qc1 f a b c d := rfl
  have hB1 : rot (f b ^^^ qc1 f a b c d) 12 = qb1 f a b c d := rfl
  have hA2 : wd (qa1 f a b + qb1 f a b c d) = qa2 f a b c d := rfl
  have hD2 : rot (qd1 f a b d ^^^ qa2 f a b c d) 8 = qd2 f a b c d := rfl
  have hC2 : wd (qc1 f a b c d + qd2 f a b c d) = qc2 f a b c d := rfl
  have hB2 : rot (qb1 f a b c d ^^^ qc2 f a b c d) 7 = qb2 f a b c d := rfl
  have hfin : upd (upd (upd (upd (upd (upd (upd (upd f a (qa1 f a b)) d (qd1 f a b d)) c (qc1 f a b c d)) b (qb1 f a b c d)) a (qa2 f a b c d)) d (qd2 f a b c d)) c (qc2 f a b c d)) b (qb2 f a b c d) = qr f a b c d := hqs
  clear hqs
  generalize qr f a b c d = Q at *
  generalize qb2 f a b c d = B2 at *
  generalize qc2 f a b c d = C2 at *
  generalize qd2 f a b c d = D2 at *
  generalize qa2 f a b c d = A2 at *
  generalize qb1 f a b c d = B1 at *
  generalize qc1 f a b c d = C1 at *
  generalize qd1 f a b d = D1 at *
  generalize qa1 f a b = A1 at *
  have W1 : IntKind.i64.wrap (((f a : Nat) : Int) + ((f b : Nat) : Int)) = ((f a + f b : Nat) : Int) := by rw [IntKind.wrap_i64]; omega
  have W2 : IntKind.i64.wrap (((f c : Nat) : Int) + ((D1 : Nat) : Int)) = ((f c + D1 : Nat) : Int) := by rw [IntKind.wrap_i64]; omega
  have W3 : IntKind.i64.wrap (((A1 : Nat) : Int) + ((B1 : Nat) : Int)) = ((A1 + B1 : Nat) : Int) := by rw [IntKind.wrap_i64]; omega
  have W4 : IntKind.i64.wrap (((C1 : Nat) : Int) + ((D2 : Nat) : Int)) = ((C1 + D2 : Nat) : Int) := by rw [IntKind.wrap_i64]; omega
  have X1 := i64_xor (f d) A1 (by omega) (by omega)
  have X2 := i64_xor (f b) C1 (by omega) (by omega)
  have X3 := i64_xor D1 A2 (by omega) (by omega)
  have X4 := i64_xor B1 C2 (by omega) (by omega)
  have x1 := xor_lt gd gA1
  have x2 := xor_lt gb gC1
  have x3 := xor_lt gD1 gA2
  have x4 := xor_lt gB1 gC2
  have t0 : w.grownBy w (some g) := touch_refl w g
  go_enter Try.func200, Try.ntmps200
  go_upto_region 1 with fail
  go_cut [0] (fun s0 wx => s0 = .slice (some ⟨g, 0, none⟩) 16 cap ∧ wx.ownsRow base t 1 (.slice (some ⟨g, 0, none⟩) 16 cap) 16 (W64 (upd f a A1)) ∧ w.grownBy wx (some g))
  case first =>
    have z := r0.drew.frozenAt
    have qa := (cell64 r0.drew a ha).trans (congrArg (fun x : Nat => some (Value.int .i64 (x : Int))) (show _ = f a by first | rfl | simp [upd, hab, hab.symm, hac, hac.symm, had, had.symm, hbc, hbc.symm, hbd, hbd.symm, hcd, hcd.symm]))
    have qb := (cell64 r0.drew b hb).trans (congrArg (fun x : Nat => some (Value.int .i64 (x : Int))) (show _ = f b by first | rfl | simp [upd, hab, hab.symm, hac, hac.symm, had, had.symm, hbc, hbc.symm, hbd, hbd.symm, hcd, hcd.symm]))
    have qc := (cell64 r0.drew c hc).trans (congrArg (fun x : Nat => some (Value.int .i64 (x : Int))) (show _ = f c by first | rfl | simp [upd, hab, hab.symm, hac, hac.symm, had, had.symm, hbc, hbc.symm, hbd, hbd.symm, hcd, hcd.symm]))
    have qd := (cell64 r0.drew d hd).trans (congrArg (fun x : Nat => some (Value.int .i64 (x : Int))) (show _ = f d by first | rfl | simp [upd, hab, hab.symm, hac, hac.symm, had, had.symm, hbc, hbc.symm, hbd, hbd.symm, hcd, hcd.symm]))
    go_region_law (go_simp; go_at_call 201; refine (l3Word_any (f a + f b) _ (by omega)).mono ?_; rintro e w' ⟨rfl, rfl⟩; rw [hA1])
    all_goals (go_wp2_with fail; go_meet; exact ⟨rfl, set64 r0.drew a A1, touch_set (touch_drew t0) a _⟩)
  case rest =>
    clear r0 t0
    obtain ⟨rfl, r1, t1⟩ := hcut
    go_upto_region 2 with fail
    go_cut [0] (fun s0 wx => s0 = .slice (some ⟨g, 0, none⟩) 16 cap ∧ wx.ownsRow base t 1 (.slice (some ⟨g, 0, none⟩) 16 cap) 16 (W64 (upd (upd f a A1) d D1)) ∧ w.grownBy wx (some g))
    case first =>
      have z := r1.drew.frozenAt
      have qa := (cell64 r1.drew a ha).trans (congrArg (fun x : Nat => some (Value.int .i64 (x : Int))) (show _ = A1 by first | rfl | simp [upd, hab, hab.symm, hac, hac.symm, had, had.symm, hbc, hbc.symm, hbd, hbd.symm, hcd, hcd.symm]))
      have qb := (cell64 r1.drew b hb).trans (congrArg (fun x : Nat => some (Value.int .i64 (x : Int))) (show _ = f b by first | rfl | simp [upd, hab, hab.symm, hac, hac.symm, had, had.symm, hbc, hbc.symm, hbd, hbd.symm, hcd, hcd.symm]))
      have qc := (cell64 r1.drew c hc).trans (congrArg (fun x : Nat => some (Value.int .i64 (x : Int))) (show _ = f c by first | rfl | simp [upd, hab, hab.symm, hac, hac.symm, had, had.symm, hbc, hbc.symm, hbd, hbd.symm, hcd, hcd.symm]))
      have qd := (cell64 r1.drew d hd).trans (congrArg (fun x : Nat => some (Value.int .i64 (x : Int))) (show _ = f d by first | rfl | simp [upd, hab, hab.symm, hac, hac.symm, had, had.symm, hbc, hbc.symm, hbd, hbd.symm, hcd, hcd.symm]))
      go_region_law (go_simp; go_at_call 207; refine (l3Left_16 (f d ^^^ A1) _ x1).mono ?_; rintro e w' ⟨rfl, rfl⟩; rw [hD1])
      all_goals (go_wp2_with fail; go_meet; exact ⟨rfl, set64 r1.drew d D1, touch_set (touch_drew t1) d _⟩)
    case rest =>
      clear r1 t1
      obtain ⟨rfl, r2, t2⟩ := hcut
      go_upto_region 3 with fail
      go_cut [0] (fun s0 wx => s0 = .slice (some ⟨g, 0, none⟩) 16 cap ∧ wx.ownsRow base t 1 (.slice (some ⟨g, 0, none⟩) 16 cap) 16 (W64 (upd (upd (upd f a A1) d D1) c C1)) ∧ w.grownBy wx (some g))
      case first =>
        have z := r2.drew.frozenAt
        have qa := (cell64 r2.drew a ha).trans (congrArg (fun x : Nat => some (Value.int .i64 (x : Int))) (show _ = A1 by first | rfl | simp [upd, hab, hab.symm, hac, hac.symm, had, had.symm, hbc, hbc.symm, hbd, hbd.symm, hcd, hcd.symm]))
        have qb := (cell64 r2.drew b hb).trans (congrArg (fun x : Nat => some (Value.int .i64 (x : Int))) (show _ = f b by first | rfl | simp [upd, hab, hab.symm, hac, hac.symm, had, had.symm, hbc, hbc.symm, hbd, hbd.symm, hcd, hcd.symm]))
        have qc := (cell64 r2.drew c hc).trans (congrArg (fun x : Nat => some (Value.int .i64 (x : Int))) (show _ = f c by first | rfl | simp [upd, hab, hab.symm, hac, hac.symm, had, had.symm, hbc, hbc.symm, hbd, hbd.symm, hcd, hcd.symm]))
        have qd := (cell64 r2.drew d hd).trans (congrArg (fun x : Nat => some (Value.int .i64 (x : Int))) (show _ = D1 by first | rfl | simp [upd, hab, hab.symm, hac, hac.symm, had, had.symm, hbc, hbc.symm, hbd, hbd.symm, hcd, hcd.symm]))
        go_region_law (go_simp; go_at_call 201; refine (l3Word_any (f c + D1) _ (by omega)).mono ?_; rintro e w' ⟨rfl, rfl⟩; rw [hC1])
        all_goals (go_wp2_with fail; go_meet; exact ⟨rfl, set64 r2.drew c C1, touch_set (touch_drew t2) c _⟩)
      case rest =>
        clear r2 t2
        obtain ⟨rfl, r3, t3⟩ := hcut
        go_upto_region 4 with fail
        go_cut [0] (fun s0 wx => s0 = .slice (some ⟨g, 0, none⟩) 16 cap ∧ wx.ownsRow base t 1 (.slice (some ⟨g, 0, none⟩) 16 cap) 16 (W64 (upd (upd (upd (upd f a A1) d D1) c C1) b B1)) ∧ w.grownBy wx (some g))
        case first =>
          have z := r3.drew.frozenAt
          have qa := (cell64 r3.drew a ha).trans (congrArg (fun x : Nat => some (Value.int .i64 (x : Int))) (show _ = A1 by first | rfl | simp [upd, hab, hab.symm, hac, hac.symm, had, had.symm, hbc, hbc.symm, hbd, hbd.symm, hcd, hcd.symm]))
          have qb := (cell64 r3.drew b hb).trans (congrArg (fun x : Nat => some (Value.int .i64 (x : Int))) (show _ = f b by first | rfl | simp [upd, hab, hab.symm, hac, hac.symm, had, had.symm, hbc, hbc.symm, hbd, hbd.symm, hcd, hcd.symm]))
          have qc := (cell64 r3.drew c hc).trans (congrArg (fun x : Nat => some (Value.int .i64 (x : Int))) (show _ = C1 by first | rfl | simp [upd, hab, hab.symm, hac, hac.symm, had, had.symm, hbc, hbc.symm, hbd, hbd.symm, hcd, hcd.symm]))
          have qd := (cell64 r3.drew d hd).trans (congrArg (fun x : Nat => some (Value.int .i64 (x : Int))) (show _ = D1 by first | rfl | simp [upd, hab, hab.symm, hac, hac.symm, had, had.symm, hbc, hbc.symm, hbd, hbd.symm, hcd, hcd.symm]))
          go_region_law (go_simp; go_at_call 207; refine (l3Left_12 (f b ^^^ C1) _ x2).mono ?_; rintro e w' ⟨rfl, rfl⟩; rw [hB1])
          all_goals (go_wp2_with fail; go_meet; exact ⟨rfl, set64 r3.drew b B1, touch_set (touch_drew t3) b _⟩)
        case rest =>
          clear r3 t3
          obtain ⟨rfl, r4, t4⟩ := hcut
          go_upto_region 5 with fail
          go_cut [0] (fun s0 wx => s0 = .slice (some ⟨g, 0, none⟩) 16 cap ∧ wx.ownsRow base t 1 (.slice (some ⟨g, 0, none⟩) 16 cap) 16 (W64 (upd (upd (upd (upd (upd f a A1) d D1) c C1) b B1) a A2)) ∧ w.grownBy wx (some g))
          case first =>
            have z := r4.drew.frozenAt
            have qa := (cell64 r4.drew a ha).trans (congrArg (fun x : Nat => some (Value.int .i64 (x : Int))) (show _ = A1 by first | rfl | simp [upd, hab, hab.symm, hac, hac.symm, had, had.symm, hbc, hbc.symm, hbd, hbd.symm, hcd, hcd.symm]))
            have qb := (cell64 r4.drew b hb).trans (congrArg (fun x : Nat => some (Value.int .i64 (x : Int))) (show _ = B1 by first | rfl | simp [upd, hab, hab.symm, hac, hac.symm, had, had.symm, hbc, hbc.symm, hbd, hbd.symm, hcd, hcd.symm]))
            have qc := (cell64 r4.drew c hc).trans (congrArg (fun x : Nat => some (Value.int .i64 (x : Int))) (show _ = C1 by first | rfl | simp [upd, hab, hab.symm, hac, hac.symm, had, had.symm, hbc, hbc.symm, hbd, hbd.symm, hcd, hcd.symm]))
            have qd := (cell64 r4.drew d hd).trans (congrArg (fun x : Nat => some (Value.int .i64 (x : Int))) (show _ = D1 by first | rfl | simp [upd, hab, hab.symm, hac, hac.symm, had, had.symm, hbc, hbc.symm, hbd, hbd.symm, hcd, hcd.symm]))
            go_region_law (go_simp; go_at_call 201; refine (l3Word_any (A1 + B1) _ (by omega)).mono ?_; rintro e w' ⟨rfl, rfl⟩; rw [hA2])
            all_goals (go_wp2_with fail; go_meet; exact ⟨rfl, set64 r4.drew a A2, touch_set (touch_drew t4) a _⟩)
          case rest =>
            clear r4 t4
            obtain ⟨rfl, r5, t5⟩ := hcut
            go_upto_region 6 with fail
            go_cut [0] (fun s0 wx => s0 = .slice (some ⟨g, 0, none⟩) 16 cap ∧ wx.ownsRow base t 1 (.slice (some ⟨g, 0, none⟩) 16 cap) 16 (W64 (upd (upd (upd (upd (upd (upd f a A1) d D1) c C1) b B1) a A2) d D2)) ∧ w.grownBy wx (some g))
            case first =>
              have z := r5.drew.frozenAt
              have qa := (cell64 r5.drew a ha).trans (congrArg (fun x : Nat => some (Value.int .i64 (x : Int))) (show _ = A2 by first | rfl | simp [upd, hab, hab.symm, hac, hac.symm, had, had.symm, hbc, hbc.symm, hbd, hbd.symm, hcd, hcd.symm]))
              have qb := (cell64 r5.drew b hb).trans (congrArg (fun x : Nat => some (Value.int .i64 (x : Int))) (show _ = B1 by first | rfl | simp [upd, hab, hab.symm, hac, hac.symm, had, had.symm, hbc, hbc.symm, hbd, hbd.symm, hcd, hcd.symm]))
              have qc := (cell64 r5.drew c hc).trans (congrArg (fun x : Nat => some (Value.int .i64 (x : Int))) (show _ = C1 by first | rfl | simp [upd, hab, hab.symm, hac, hac.symm, had, had.symm, hbc, hbc.symm, hbd, hbd.symm, hcd, hcd.symm]))
              have qd := (cell64 r5.drew d hd).trans (congrArg (fun x : Nat => some (Value.int .i64 (x : Int))) (show _ = D1 by first | rfl | simp [upd, hab, hab.symm, hac, hac.symm, had, had.symm, hbc, hbc.symm, hbd, hbd.symm, hcd, hcd.symm]))
              go_region_law (go_simp; go_at_call 207; refine (l3Left_8 (D1 ^^^ A2) _ x3).mono ?_; rintro e w' ⟨rfl, rfl⟩; rw [hD2])
              all_goals (go_wp2_with fail; go_meet; exact ⟨rfl, set64 r5.drew d D2, touch_set (touch_drew t5) d _⟩)
            case rest =>
              clear r5 t5
              obtain ⟨rfl, r6, t6⟩ := hcut
              go_upto_region 7 with fail
              go_cut [0] (fun s0 wx => s0 = .slice (some ⟨g, 0, none⟩) 16 cap ∧ wx.ownsRow base t 1 (.slice (some ⟨g, 0, none⟩) 16 cap) 16 (W64 (upd (upd (upd (upd (upd (upd (upd f a A1) d D1) c C1) b B1) a A2) d D2) c C2)) ∧ w.grownBy wx (some g))
              case first =>
                have z := r6.drew.frozenAt
                have qa := (cell64 r6.drew a ha).trans (congrArg (fun x : Nat => some (Value.int .i64 (x : Int))) (show _ = A2 by first | rfl | simp [upd, hab, hab.symm, hac, hac.symm, had, had.symm, hbc, hbc.symm, hbd, hbd.symm, hcd, hcd.symm]))
                have qb := (cell64 r6.drew b hb).trans (congrArg (fun x : Nat => some (Value.int .i64 (x : Int))) (show _ = B1 by first | rfl | simp [upd, hab, hab.symm, hac, hac.symm, had, had.symm, hbc, hbc.symm, hbd, hbd.symm, hcd, hcd.symm]))
                have qc := (cell64 r6.drew c hc).trans (congrArg (fun x : Nat => some (Value.int .i64 (x : Int))) (show _ = C1 by first | rfl | simp [upd, hab, hab.symm, hac, hac.symm, had, had.symm, hbc, hbc.symm, hbd, hbd.symm, hcd, hcd.symm]))
                have qd := (cell64 r6.drew d hd).trans (congrArg (fun x : Nat => some (Value.int .i64 (x : Int))) (show _ = D2 by first | rfl | simp [upd, hab, hab.symm, hac, hac.symm, had, had.symm, hbc, hbc.symm, hbd, hbd.symm, hcd, hcd.symm]))
                go_region_law (go_simp; go_at_call 201; refine (l3Word_any (C1 + D2) _ (by omega)).mono ?_; rintro e w' ⟨rfl, rfl⟩; rw [hC2])
                all_goals (go_wp2_with fail; go_meet; exact ⟨rfl, set64 r6.drew c C2, touch_set (touch_drew t6) c _⟩)
              case rest =>
                clear r6 t6
                obtain ⟨rfl, r7, t7⟩ := hcut
                go_upto_region 8 with fail
                go_cut [0] (fun s0 wx => s0 = .slice (some ⟨g, 0, none⟩) 16 cap ∧ wx.ownsRow base t 1 (.slice (some ⟨g, 0, none⟩) 16 cap) 16 (W64 (upd (upd (upd (upd (upd (upd (upd (upd f a A1) d D1) c C1) b B1) a A2) d D2) c C2) b B2)) ∧ w.grownBy wx (some g))
                case first =>
                  have z := r7.drew.frozenAt
                  have qa := (cell64 r7.drew a ha).trans (congrArg (fun x : Nat => some (Value.int .i64 (x : Int))) (show _ = A2 by first | rfl | simp [upd, hab, hab.symm, hac, hac.symm, had, had.symm, hbc, hbc.symm, hbd, hbd.symm, hcd, hcd.symm]))
                  have qb := (cell64 r7.drew b hb).trans (congrArg (fun x : Nat => some (Value.int .i64 (x : Int))) (show _ = B1 by first | rfl | simp [upd, hab, hab.symm, hac, hac.symm, had, had.symm, hbc, hbc.symm, hbd, hbd.symm, hcd, hcd.symm]))
                  have qc := (cell64 r7.drew c hc).trans (congrArg (fun x : Nat => some (Value.int .i64 (x : Int))) (show _ = C2 by first | rfl | simp [upd, hab, hab.symm, hac, hac.symm, had, had.symm, hbc, hbc.symm, hbd, hbd.symm, hcd, hcd.symm]))
                  have qd := (cell64 r7.drew d hd).trans (congrArg (fun x : Nat => some (Value.int .i64 (x : Int))) (show _ = D2 by first | rfl | simp [upd, hab, hab.symm, hac, hac.symm, had, had.symm, hbc, hbc.symm, hbd, hbd.symm, hcd, hcd.symm]))
                  go_region_law (go_simp; go_at_call 207; refine (l3Left_7 (B1 ^^^ C2) _ x4).mono ?_; rintro e w' ⟨rfl, rfl⟩; rw [hB2])
                  all_goals (go_wp2_with fail; go_meet; exact ⟨rfl, set64 r7.drew b B2, touch_set (touch_drew t7) b _⟩)
                case rest =>
                  clear r7 t7
                  obtain ⟨rfl, r8, t8⟩ := hcut
                  rw [hfin] at r8
                  go_wp2
                  go_ret
                  exact ⟨rfl, r8, t8⟩
end Go.Proofs.Ytfbbdnicplbmdaa
