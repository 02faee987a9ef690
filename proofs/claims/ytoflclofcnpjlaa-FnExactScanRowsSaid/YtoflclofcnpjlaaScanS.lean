/- Walks: ScanRows of the reference. -/
import Derived.Test.YtoflclofcnpjlaaScanP
import Derived.Test.YtoflclofcnpjlaaKLogRowR
import Derived.Test.YtoflclofcnpjlaaBx
import Derived.Test.YtoflclofcnpjlaaStepR
set_option linter.unusedVariables false
set_option linter.unusedSimpArgs false
namespace Go.Proofs.Ytoflclofcnpjlaa
open Go.RowKit Sp Go.Sort

set_option maxRecDepth 100000 in
theorem vars3_any (s : ByteArray) (p : Nat) (w : World) (hs : (s.size : Int) ≤ 1048576) :
    Calls Try.prog 61 #[.string s, .int .i64 ((p : Int) + 4), .int .i64 3] w fun e w' => ∃ g cap, e = .returned (.tuple #[.slice (some ⟨g, 0, none⟩) (takeVs s (p + 4) 3).1.length cap, .int .i64 (takeVs s (p + 4) 3).2]) ∧ (∀ i (hi : i < (takeVs s (p + 4) 3).1.length), w'.cell? ⟨g, i, none⟩ = some (.int .i64 ((takeVs s (p + 4) 3).1[i] : Nat)) ∧ g < w'.heap.size) ∧ Below w.heap.size w w' := by
  by_cases h : p + 4 ≤ s.size
  · refine (vars_any s (p + 4) 3 w hs (by omega) (by decide)).mono ?_
    rintro e w' ⟨g, cap, h1, h2, h3, h4, h5⟩
    exact ⟨g, cap, h1, fun i hi => ⟨h2 i hi, h4⟩, h5⟩
  · have hq : takeVs s (p + 4) 3 = ([], -1) := by simp [takeVs, takeV_far (show s.size < p + 4 by omega)]
    refine (vars_off s ((p : Int) + 4) 3 w hs (.inr (by omega)) (by decide)).mono ?_
    rintro e w' ⟨g, rfl, b⟩
    rw [hq]
    exact ⟨g, 0, rfl, fun i hi => absurd hi (Nat.not_lt_zero _), b⟩

set_option maxRecDepth 100000 in
set_option maxHeartbeats 1600000 in
theorem specScanRows (s : ByteArray) (L : List RowR) (E : Nat) (hC : ScanC s 0 L E) (w : World) (hs : (s.size : Int) ≤ 1048576) :
    Calls Try.prog 36 #[.string s] w fun e w' => ∃ v', e = .returned (.tuple #[v', .int .i64 E]) ∧ SlT RowR.cells 5 w' v' L ∧ Below w.heap.size w w' := by
  have h0 : (w.alloc (.cells #[] 28)).ownsRow w.heap.size 28 5 (.slice (some ⟨w.heap.size, 0, none⟩) 0 0) 0 [] := World.ownsRow_lit w #[] 0 (Nat.le_refl _) (by simp [maxLen]) rfl
  have x0 : Below w.heap.size w (w.alloc (.cells #[] 28)) := (Below.refl _ _).alloc (Nat.le_refl _) _
  have HC := Lib.hid hC
  have hal : ∀ (W : World) (o : Obj), RowKit.Below W.heap.size W (W.alloc o) := fun W o => (Below.refl _ _).alloc (Nat.le_refl _) _
  have hLn := hC.len (Nat.zero_le _)
  clear hC
  go_enter Try.func36, Try.ntmps36
  go_wp2
  go_loopw [4, 5] (fun o a wr => ∃ (k p : Nat) (l rs : List RowR) (ao : Option Addr) (cp : Nat), o = .slice ao k cp ∧ a = .int .i64 p ∧ RowKit.Hid (l.length = k ∧ L = l ++ rs ∧ ScanC s p rs E) ∧ p ≤ s.size ∧ k + rs.length = L.length ∧ wr.ownsRow w.heap.size 28 5 o k (l.map RowR.cells).flatten ∧ Below w.heap.size w wr) (fun _ a _ => s.size - (intOf a).toNat)
  case atStart => exact ⟨0, 0, [], L, _, _, rfl, rfl, ⟨rfl, rfl, HC⟩, Nat.zero_le _, by simp, h0, x0⟩
  case round =>
    clear h0 x0
    obtain ⟨k, p, l, rs, ao, cp, rfl, rfl, HB, hp, hkl, ho, xb⟩ := hrel
    have W1 : IntKind.i64.wrap ((p : Int) + 4) = (p : Int) + 4 := by rw [IntKind.wrap_i64]; omega
    go_wp2_with fail
    refine (vars3_any s p _ hs).mono ?_
    rintro e w1 ⟨g, cap, rfl, hc, b1⟩
    have x1 := xb.trans (b1.mono xb.size)
    have o1 := own_below ho b1
    rcases hq : takeVs s (p + 4) 3 with ⟨xs, e1⟩
    rw [hq] at hc
    have HQ := Lib.hid hq
    clear hq ho xb b1
    simp only at hc ⊢
    go_wp2_with fail
    refine (take_any s e1 _ hs).mono ?_
    rintro e w2 ⟨rfl, b2⟩
    have x2 := x1.trans (b2.mono x1.size)
    have o2 := own_below o1 b2
    have c2 := fun i hi => (b2.cell (p := ⟨g, i, none⟩) (hc i hi).2).trans (hc i hi).1
    have b2s := b2.size
    have hc0 := hc
    have T2 := tkP_bd s e1
    rcases h2 : tkP s e1 with ⟨tx, e2⟩
    rw [h2] at T2
    have H2 := Lib.hid h2
    clear h2 hc o1 b2 x1
    simp only at T2 ⊢
    by_cases he : e2 < 0
    · obtain ⟨HL, HR⟩ : L = l ∧ E = (p : Int) := by
        obtain ⟨h1, h2, h3⟩ := HB.out
        obtain ⟨rfl, rfl⟩ := h3.none (fun R q h => by have := h.three HQ.out H2.out; omega)
        exact ⟨by rw [h2, List.append_nil], rfl⟩
      obtain rfl := HB.out.1
      clear HB HQ H2 c2
      go_wp2
      refine bodyPost_ret (v := .tuple #[.slice ao l.length cp, .int .i64 p]) (by simp [results, Try.results36, go_sem]) rfl ⟨_, by rw [HR], ?_, x2⟩
      rw [HL]
      exact SlT.of_own o2 (fun _ => rfl) (by decide)
    · obtain ⟨n1, n2, n3, p1, p2, p3, q, rfl, a1, a2, a3, a4, rfl⟩ := three_some HQ.out H2.out he
      have k0 := c2 0 (by simp)
      have k1 := c2 1 (by simp)
      have k2 := c2 2 (by simp)
      simp only [List.length_cons, List.length_nil, List.getElem_cons_zero, List.getElem_cons_succ] at k0 k1 k2 ⊢
      have m1 := takeV_some a1
      have m2 := takeV_some a2
      have m3 := takeV_some a3
      have m4 := takeP_some a4
      have HA := Lib.hid (RowAt.of hp a1 a2 a3 a4)
      clear c2 HQ H2 a1 a2 a3 a4
      have hok : RowR.ok ⟨n1, n2, n3, tx, false⟩ := by
        refine ⟨?_, ?_, ?_, ?_, trivial⟩ <;> simp only [szOk, inI64, maxLen] <;> omega
      have gl : g < w2.heap.size := Nat.lt_of_lt_of_le (hc0 0 (by simp)).2 b2s
      have z0 := (Below.cell (p := ⟨g, 0, none⟩) (hal w2 (.cells #[.int .i64 0, .int .i64 0, .int .i64 0, .string { data := #[] }, .bool false] 28)) gl).trans k0
      have z1 := (Below.cell (p := ⟨g, 1, none⟩) (hal w2 (.cells #[.int .i64 0, .int .i64 0, .int .i64 0, .string { data := #[] }, .bool false] 28)) gl).trans k1
      have z2 := (Below.cell (p := ⟨g, 2, none⟩) (hal w2 (.cells #[.int .i64 0, .int .i64 0, .int .i64 0, .string { data := #[] }, .bool false] 28)) gl).trans k2
      go_wp2_with fail
      go_region
      go_wp2_with fail
      clear z0 z1 z2 k0 k1 k2 gl hc0
      have kc0 := cell_regrown (show ((w2.alloc (.cells #[.int .i64 n1, .int .i64 n2, .int .i64 n3, .string tx, .bool false] 28)).drew).cell? ⟨w2.heap.size, 0, none⟩ = some (.int .i64 n1) by simp [go_sem])
      have kc1 := cell_regrown (show ((w2.alloc (.cells #[.int .i64 n1, .int .i64 n2, .int .i64 n3, .string tx, .bool false] 28)).drew).cell? ⟨w2.heap.size, 1, none⟩ = some (.int .i64 n2) by simp [go_sem])
      have kc2 := cell_regrown (show ((w2.alloc (.cells #[.int .i64 n1, .int .i64 n2, .int .i64 n3, .string tx, .bool false] 28)).drew).cell? ⟨w2.heap.size, 2, none⟩ = some (.int .i64 n3) by simp [go_sem])
      have kc3 := cell_regrown (show ((w2.alloc (.cells #[.int .i64 n1, .int .i64 n2, .int .i64 n3, .string tx, .bool false] 28)).drew).cell? ⟨w2.heap.size, 3, none⟩ = some (.string tx) by simp [go_sem])
      have kc4 := cell_regrown (show ((w2.alloc (.cells #[.int .i64 n1, .int .i64 n2, .int .i64 n3, .string tx, .bool false] 28)).drew).cell? ⟨w2.heap.size, 4, none⟩ = some (.bool false) by simp [go_sem])
      have x3 : Below w.heap.size w ((w2.alloc (.cells #[.int .i64 n1, .int .i64 n2, .int .i64 n3, .string tx, .bool false] 28)).drew) := ((x2.alloc x2.size _).drew)
      have o3 := own_below o2 ((hal w2 (.cells #[.int .i64 n1, .int .i64 n2, .int .i64 n3, .string tx, .bool false] 28)).drew)
      have cV : ∀ d os, Calls Try.prog 17 #[.agg #[.int .i64 n1, .int .i64 n2, .int .i64 n3, .string tx, .bool false]] (grow (redrawn ((w2.alloc (.cells #[.int .i64 n1, .int .i64 n2, .int .i64 n3, .string tx, .bool false] 28)).drew) d) os) fun e w'' => e = .returned (.string (str (showRowL ⟨n1, n2, n3, tx, false⟩))) ∧ ∃ p : Regrown, w'' = grow (redrawn ((w2.alloc (.cells #[.int .i64 n1, .int .i64 n2, .int .i64 n3, .string tx, .bool false] 28)).drew) p.d) p.os := fun d os => Calls.regrown_of (specShowRow ⟨n1, n2, n3, tx, false⟩ hok _)
      have hrem := ext_mid s p q
      by_cases hE : showRowL ⟨n1, n2, n3, tx, false⟩ = []
      · obtain ⟨HL, HR⟩ : L = l ∧ E = (p : Nat) := by
          obtain ⟨h1, h2, h3⟩ := HB.out
          obtain ⟨rfl, rfl⟩ := h3.none (fun R q' h => (HA.out.2 R q' h).2.2.1 hE)
          exact ⟨by rw [h2, List.append_nil], rfl⟩
        obtain rfl := HB.out.1
        rw [hE] at cV
        have hem : (str []).toList.isEmpty = true := by rw [str_toList]; rfl
        clear HB HA hE hrem
        refine wp_region_quiet_below (by kernel_rfl) (by kernel_rfl) ?_
        go_big_quiet_step (fail)
        go_big_quiet_step (exact cV _ _)
        repeat (go_big_quiet_step (fail))
        refine wpQuiet_nil ?_
        intro w4 hw'
        have x4 : RowKit.Below w.heap.size w w4 := by obtain ⟨p, rfl⟩ := hw'; exact x3.trans ((below_regrown _ _ _).mono x3.size)
        have o4 : w4.ownsRow w.heap.size 28 5 (.slice ao l.length cp) l.length (l.map RowR.cells).flatten := by obtain ⟨p, rfl⟩ := hw'; exact own_below o3 (below_regrown _ _ _)
        clear hw' cV kc0 kc1 kc2 kc3 kc4
        go_wp2
        refine bodyPost_ret (v := .tuple #[.slice ao l.length cp, .int .i64 p]) (by simp [results, Try.results36, go_sem]) rfl ⟨_, by rw [HR], ?_, x4⟩
        rw [HL]
        exact SlT.of_own o4 (fun _ => rfl) (by decide)
      · have HE := Lib.hid hE
        have hem : (str (showRowL ⟨n1, n2, n3, tx, false⟩)).toList.isEmpty = false := by
          rw [str_toList]; simpa using hE
        clear hE
        have m0 := m1.2.2.1
        have i0 : ((p : Int) ≤ q) := by omega
        rcases hq : ((str (showRowL ⟨n1, n2, n3, tx, false⟩)).toList == (s.extract p q).toList) with _ | _
        · obtain ⟨HL, HR⟩ : L = l ∧ E = (p : Nat) := by
            obtain ⟨h1, h2, h3⟩ := HB.out
            obtain ⟨rfl, rfl⟩ := h3.none (fun R q' h => by
              have := (HA.out.2 R q' h).2.2.2
              rw [str_toList, toList_data, hrem, ← this] at hq
              simp at hq)
            exact ⟨by rw [h2, List.append_nil], rfl⟩
          obtain rfl := HB.out.1
          clear HB HA hrem
          refine wp_region_quiet_below (by kernel_rfl) (by kernel_rfl) ?_
          go_big_quiet_step (fail)
          go_big_quiet_step (exact cV _ _)
          go_big_quiet_step (fail)
          go_big_quiet_step (fail)
          go_big_quiet_step (fail)
          go_big_quiet_step (exact cV _ _)
          repeat (go_big_quiet_step (fail))
          refine wpQuiet_nil ?_
          intro w4 hw'
          have x4 : RowKit.Below w.heap.size w w4 := by obtain ⟨p, rfl⟩ := hw'; exact x3.trans ((below_regrown _ _ _).mono x3.size)
          have o4 : w4.ownsRow w.heap.size 28 5 (.slice ao l.length cp) l.length (l.map RowR.cells).flatten := by obtain ⟨p, rfl⟩ := hw'; exact own_below o3 (below_regrown _ _ _)
          clear hw' cV kc0 kc1 kc2 kc3 kc4
          go_wp2
          refine bodyPost_ret (v := .tuple #[.slice ao l.length cp, .int .i64 p]) (by simp [results, Try.results36, go_sem]) rfl ⟨_, by rw [HR], ?_, x4⟩
          rw [HL]
          exact SlT.of_own o4 (fun _ => rfl) (by decide)
        · have hrow := HA.out.1 ⟨HE.out, by rw [str_toList, toList_data, hrem] at hq; simpa using hq⟩
          have HN := Lib.hid (show ∃ rs', rs = RowR.mk n1 n2 n3 tx false :: rs' ∧ (l ++ [RowR.mk n1 n2 n3 tx false]).length = k + 1 ∧ L = (l ++ [RowR.mk n1 n2 n3 tx false]) ++ rs' ∧ ScanC s q rs' E from by
            obtain ⟨h1, h2, h3⟩ := HB.out
            obtain ⟨rs', rfl, h4⟩ := h3.some hrow
            exact ⟨rs', rfl, by simp [h1], by simp [h2], h4⟩)
          have hq4 := m4.2.2.2.1
          clear HB HA hrem hrow
          refine wp_region_quiet_below (by kernel_rfl) (by kernel_rfl) ?_
          go_big_quiet_step (fail)
          go_big_quiet_step (exact cV _ _)
          go_big_quiet_step (fail)
          go_big_quiet_step (fail)
          go_big_quiet_step (fail)
          go_big_quiet_step (exact cV _ _)
          repeat (go_big_quiet_step (fail))
          refine wpQuiet_nil ?_
          intro w4 hw'
          have x4 : RowKit.Below w.heap.size w w4 := by obtain ⟨p, rfl⟩ := hw'; exact x3.trans ((below_regrown _ _ _).mono x3.size)
          have o4 : w4.ownsRow w.heap.size 28 5 (.slice ao k cp) k (l.map RowR.cells).flatten := by obtain ⟨p, rfl⟩ := hw'; exact own_below o3 (below_regrown _ _ _)
          have y0 : w4.cell? ⟨w2.heap.size, 0, none⟩ = some (.int .i64 n1) := by obtain ⟨p, rfl⟩ := hw'; exact kc0 _ _
          have y1 : w4.cell? ⟨w2.heap.size, 1, none⟩ = some (.int .i64 n2) := by obtain ⟨p, rfl⟩ := hw'; exact kc1 _ _
          have y2 : w4.cell? ⟨w2.heap.size, 2, none⟩ = some (.int .i64 n3) := by obtain ⟨p, rfl⟩ := hw'; exact kc2 _ _
          have y3 : w4.cell? ⟨w2.heap.size, 3, none⟩ = some (.string tx) := by obtain ⟨p, rfl⟩ := hw'; exact kc3 _ _
          have y4 : w4.cell? ⟨w2.heap.size, 4, none⟩ = some (.bool false) := by obtain ⟨p, rfl⟩ := hw'; exact kc4 _ _
          clear hw' cV kc0 kc1 kc2 kc3 kc4
          go_wp2_with (at_builtin; go_loud (refine app_new rfl rfl Try.underlying42 info_LogRow rfl (by decide) o4 rfl 1 (by simp [Act.eval]) rfl (by simp [Value.oneCell']) (by omega) x4 (Nat.le_refl _) x4.size ?_; intro v8 w8 r8 x8 g8))
          obtain ⟨gg, cap, rfl⟩ := own_sl r8 (by omega)
          obtain ⟨rs', hrs, e1, e2, e3⟩ := HN.out
          go_roundw
          case rel => exact ⟨k + 1, q, _, rs', _, _, rfl, rfl, ⟨e1, e2, e3⟩, hq4, by rw [hrs] at hkl; simp at hkl; omega, by simpa [RowR.cells] using r8, x8⟩
          case measure => simp [intOf]; omega
end Go.Proofs.Ytoflclofcnpjlaa
