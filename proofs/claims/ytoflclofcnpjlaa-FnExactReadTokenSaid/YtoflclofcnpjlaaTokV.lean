/- Walks: ReadToken of both sides; the law. -/
import Derived.Test.YtoflclofcnpjlaaTokW
set_option linter.unusedVariables false
set_option linter.unusedSimpArgs false
namespace Go.Proofs.Ytoflclofcnpjlaa
open Go.RowKit Sp Go.Sort
namespace Sp
theorem tokB_1 {secret s : ByteArray} (h : (tv1 s).2 = 0) : tokB secret s = false := by simp [tokB, h]
theorem tokB_2 {secret s : ByteArray} (h : (tv2 s).2 = 0) : tokB secret s = false := by simp [tokB, h]
theorem tok_law (secret s : ByteArray) :
    ((!(rdBytes s (rdNum s (rdNum s 0 false).2.1 (rdNum s 0 false).2.2).2.1 (rdNum s (rdNum s 0 false).2.1 (rdNum s 0 false).2.2).2.2 8).2.2 && (rdBytes s (rdNum s (rdNum s 0 false).2.1 (rdNum s 0 false).2.2).2.1 (rdNum s (rdNum s 0 false).2.1 (rdNum s 0 false).2.2).2.2 8).2.1 == s.size) && mintL secret ((rdNum s 0 false).1 : Nat) ((rdNum s (rdNum s 0 false).2.1 (rdNum s 0 false).2.2).1 : Nat) == s.data.toList) = tokB secret s ∧
    (tokB secret s = true → (rdNum s 0 false).1 = (tv1 s).1 ∧ (rdNum s (rdNum s 0 false).2.1 (rdNum s 0 false).2.2).1 = (tv2 s).1) := by
  have e1 : rdNum s 0 false = if (tv1 s).2 = 0 then (0, 0, true) else ((tv1 s).1, (tv1 s).2, false) := by
    unfold rdNum tv1; rw [List.drop_zero, Nat.zero_add]; rfl
  by_cases h1 : (tv1 s).2 = 0
  · have r1 : rdNum s 0 false = (0, 0, true) := by rw [e1, if_pos h1]
    have r2 : rdNum s 0 true = (0, 0, true) := rfl
    have r3 : rdBytes s 0 true 8 = ([], 0, true) := if_pos (.inl rfl)
    rw [r1]; simp only [r2, r3, tokB_1 h1]
    exact ⟨rfl, fun h => by cases h⟩
  · have r1 : rdNum s 0 false = ((tv1 s).1, (tv1 s).2, false) := by rw [e1, if_neg h1]
    have e2 : rdNum s (tv1 s).2 false = if (tv2 s).2 = 0 then (0, (tv1 s).2, true) else ((tv2 s).1, (tv1 s).2 + (tv2 s).2, false) := rfl
    rw [r1]; simp only
    by_cases h2 : (tv2 s).2 = 0
    · have r2 : rdNum s (tv1 s).2 false = (0, (tv1 s).2, true) := by rw [e2, if_pos h2]
      have r3 : rdBytes s (tv1 s).2 true 8 = ([], (tv1 s).2, true) := if_pos (.inl rfl)
      rw [r2]; simp only [r3, tokB_2 h2]
      exact ⟨rfl, fun h => by cases h⟩
    · have r2 : rdNum s (tv1 s).2 false = ((tv2 s).1, (tv1 s).2 + (tv2 s).2, false) := by rw [e2, if_neg h2]
      rw [r2]; simp only
      have ht : tokB secret s = (mintL secret (tv1 s).1 (tv2 s).1 == s.data.toList) := by simp [tokB, h1, h2]
      refine ⟨?_, fun _ => by first | trivial | exact ⟨rfl, rfl⟩⟩
      rw [ht]
      rcases hm : (mintL secret ((tv1 s).1 : Nat) ((tv2 s).1 : Nat) == s.data.toList) with _ | _
      · rw [Bool.and_false]
      · have hd := tok_done h1 h2 hm
        have r3 : rdBytes s ((tv1 s).2 + (tv2 s).2) false 8 = ((s.data.toList.drop ((tv1 s).2 + (tv2 s).2)).take 8, (tv1 s).2 + (tv2 s).2 + 8, false) := if_neg (by simp; omega)
        rw [r3]; simp; omega
end Sp
theorem below_touch {B b : Nat} {w wa wb : World} (h : Below B w wa) (t : wa.grownBy wb (some b)) (hb : B ≤ b) (hB : B ≤ wa.heap.size) : Below B w wb :=
  h.trans ⟨t.os, t.tape, t.output, t.size, fun k hk => t.block k (Nat.lt_of_lt_of_le hk hB) (by intro he; have := Option.some.inj he; omega)⟩

set_option maxRecDepth 100000 in
set_option maxHeartbeats 1600000 in
theorem specReadToken (secret s : ByteArray) (w : World) (hs : (s.size : Int) ≤ 1048576) :
    Calls Try.prog 34 #[.string secret, .string s] w fun e w' => e = .returned (.tuple #[.int .i64 (tokT secret s : Nat), .int .i64 (tokE secret s : Nat), .bool (tokB secret s)]) ∧ Below w.heap.size w w' := by
  by_cases h1 : (tv1 s).2 = 0
  · have ho := tokB_1 (secret := secret) h1
    have HT := Lib.hid (show tokT secret s = 0 by unfold tokT; rw [ho]; rfl)
    have HE := Lib.hid (show tokE secret s = 0 by unfold tokE; rw [ho]; rfl)
    have HO := Lib.hid ho
    clear ho
    go_enter Try.func34, Try.ntmps34
    go_wp2_with fail
    refine (vars_bad1 s _ hs h1).mono ?_
    rintro e w1 ⟨a, n, c, rfl, b1⟩
    go_wp2
    go_quiet (fail)
    go_wp2
    refine bodyPost_ret (v := .tuple #[.int .i64 0, .int .i64 0, .bool false]) (by simp [results, Try.results34, go_sem]) rfl ⟨by rw [HT.out, HE.out, HO.out]; rfl, below_drewN b1 _⟩
  · by_cases h2 : (tv2 s).2 = 0
    · have ho := tokB_2 (secret := secret) h2
      have HT := Lib.hid (show tokT secret s = 0 by unfold tokT; rw [ho]; rfl)
      have HE := Lib.hid (show tokE secret s = 0 by unfold tokE; rw [ho]; rfl)
      have HO := Lib.hid ho
      clear ho
      go_enter Try.func34, Try.ntmps34
      go_wp2_with fail
      refine (vars_bad2 s _ hs h1 h2).mono ?_
      rintro e w1 ⟨a, n, c, rfl, b1⟩
      go_wp2
      go_quiet (fail)
      go_wp2
      refine bodyPost_ret (v := .tuple #[.int .i64 0, .int .i64 0, .bool false]) (by simp [results, Try.results34, go_sem]) rfl ⟨by rw [HT.out, HE.out, HO.out]; rfl, below_drewN b1 _⟩
    · have hot : tokB secret s = (mintL secret (tv1 s).1 (tv2 s).1 == s.data.toList) := by simp [tokB, h1, h2]
      have hpos : 0 < s.size := by
        have := (readVarL_len (l := s.data.toList) h1).2
        have hsz : s.data.toList.length = s.size := by simp
        unfold tv1 at h1; omega
      have hem := empty_iff s hpos
      have HV := Lib.hid (fun w => vars_ok s w hs h1 h2)
      have hTT : tokT secret s = if tokB secret s then (tv1 s).1 else 0 := rfl
      have hTE : tokE secret s = if tokB secret s then (tv2 s).1 else 0 := rfl
      clear h1 h2 hpos
      generalize (tv1 s).2 + (tv2 s).2 = m at *
      generalize (tv1 s).1 = x at *
      generalize (tv2 s).1 = y at *
      have hg : decide ((m : Int) < 0) = false := decide_eq_false (by omega)
      have HT := Lib.hid hTT
      have HE := Lib.hid hTE
      have HO := Lib.hid hot
      clear hTT hTE hot
      go_enter Try.func34, Try.ntmps34
      go_wp2_with fail
      refine (HV.out _).mono ?_
      rintro e w1 ⟨g, cap, rfl, d0, d1, b1⟩
      have kc0 := cell_regrown d0
      have kc1 := cell_regrown d1
      have cM : ∀ d os, Calls Try.prog 24 #[.string secret, .int .i64 (x : Nat), .int .i64 (y : Nat)] (grow (redrawn w1 d) os) fun e w'' => e = .returned (.string (str (mintL secret x y))) ∧ ∃ p : Regrown, w'' = grow (redrawn w1 p.d) p.os := fun d os => Calls.regrown_of (specMint _ _ _ _)
      have hcmp : ((str (mintL secret x y)).toList == s.toList) = (mintL secret x y == s.data.toList) := by rw [str_toList, toList_data]
      go_wp2
      refine wp_region_quiet_below (by kernel_rfl) (by kernel_rfl) ?_
      iterate 14 (go_big_quiet_step (fail))
      go_big_quiet_step (exact cM _ _)
      repeat (go_big_quiet_step (fail))
      refine wpQuiet_nil ?_
      intro w4 hw'
      have x4 : RowKit.Below w.heap.size w w4 := by obtain ⟨p, rfl⟩ := hw'; exact b1.trans ((below_regrown _ _ _).mono b1.size)
      have f0 : w4.cell? ⟨g, 0, none⟩ = some (.int .i64 (x : Nat)) := by obtain ⟨p, rfl⟩ := hw'; exact kc0 _ _
      have f1 : w4.cell? ⟨g, 1, none⟩ = some (.int .i64 (y : Nat)) := by obtain ⟨p, rfl⟩ := hw'; exact kc1 _ _
      clear hw' cM kc0 kc1 d0 d1
      rcases hb : (mintL secret (x : Nat) (y : Nat) == s.data.toList) with _ | _
      · rw [hb] at hcmp
        have HB := Lib.hid hb
        clear hb
        simp only [hcmp, Bool.not_false]
        clear hcmp
        go_wp2
        refine bodyPost_ret (v := .tuple #[.int .i64 0, .int .i64 0, .bool false]) (by simp [results, Try.results34, go_sem]) rfl ⟨by rw [HT.out, HE.out, HO.out, HB.out]; rfl, x4⟩
      · rw [hb] at hcmp
        have HB := Lib.hid hb
        clear hb
        simp only [hcmp, Bool.not_true]
        clear hcmp
        go_wp2
        go_quiet (fail)
        go_wp2
        refine bodyPost_ret (v := .tuple #[.int .i64 (x : Nat), .int .i64 (y : Nat), .bool true]) (by simp [results, Try.results34, go_sem]) rfl ⟨by rw [HT.out, HE.out, HO.out, HB.out]; rfl, below_drewN x4 _⟩

set_option maxRecDepth 100000 in
set_option maxHeartbeats 1600000 in
theorem implReadToken (secret s : ByteArray) (w : World) (hs : (s.size : Int) ≤ 1048576) :
    Calls Try.prog 35 #[.string secret, .string s] w fun e w' => e = .returned (.tuple #[.int .i64 (tokT secret s : Nat), .int .i64 (tokE secret s : Nat), .bool (tokB secret s)]) ∧ Below w.heap.size w w' := by
  have hlaw := tok_law secret s
  have q1 := rdNum_bd s 0 false (Nat.zero_le _)
  have q2 := rdNum_bd s (rdNum s 0 false).2.1 (rdNum s 0 false).2.2 q1.1
  have hTT : tokT secret s = if tokB secret s then (tv1 s).1 else 0 := rfl
  have hTE : tokE secret s = if tokB secret s then (tv2 s).1 else 0 := rfl
  have HT := Lib.hid hTT
  have HE := Lib.hid hTE
  have HL := Lib.hid hlaw
  clear hlaw hTT hTE
  have hb0 : Below w.heap.size w (w.alloc (.cells #[.string s, .int .i64 0, .bool false] 67)) := (Below.refl _ _).alloc (Nat.le_refl _) _
  have hR0 : Rd (w.alloc (.cells #[.string s, .int .i64 0, .bool false] 67)) w.heap.size s 0 false := ⟨_, heap_alloc_new w _⟩
  go_enter Try.func35, Try.ntmps35
  go_wp2_with fail
  refine (number_any w.heap.size 0 s false _ hR0 (by omega) hs).mono ?_
  rintro e w1 ⟨rfl, hR1, t1⟩
  have x1 := below_touch hb0 t1 (Nat.le_refl _) hb0.size
  go_wp2_with fail
  refine (number_any w.heap.size _ s _ _ hR1 (by omega) hs).mono ?_
  rintro e w2 ⟨rfl, hR2, t2⟩
  have x2 := below_touch x1 t2 (Nat.le_refl _) x1.size
  go_wp2_with fail
  refine (bytes_any w.heap.size _ 8 _ rfl s _ _ hR2 (by omega) hs (by omega)).mono ?_
  rintro e w3 ⟨rfl, hR3, t3⟩
  have x3 := below_touch x2 t3 (Nat.le_refl _) x2.size
  go_wp2_with fail
  refine (done_any w.heap.size _ s _ _ hR3 hs).mono ?_
  rintro e w4 ⟨rfl, b4⟩
  have x4 := x3.trans (b4.mono x3.size)
  clear hR0 hR1 hR2 hR3 t1 t2 t3 hb0
  have hl := HL.out
  generalize (!(rdBytes s (rdNum s (rdNum s 0 false).2.1 (rdNum s 0 false).2.2).2.1 (rdNum s (rdNum s 0 false).2.1 (rdNum s 0 false).2.2).2.2 8).2.2 && (rdBytes s (rdNum s (rdNum s 0 false).2.1 (rdNum s 0 false).2.2).2.1 (rdNum s (rdNum s 0 false).2.1 (rdNum s 0 false).2.2).2.2 8).2.1 == s.size) = dd at *
  generalize (rdNum s (rdNum s 0 false).2.1 (rdNum s 0 false).2.2).1 = y at *
  generalize (rdNum s 0 false).1 = x at *
  cases dd
  · rw [Bool.false_and] at hl
    have HB := Lib.hid hl.1.symm
    clear hl
    go_wp2
    refine bodyPost_ret (v := .tuple #[.int .i64 0, .int .i64 0, .bool false]) (by simp [results, Try.results35, go_sem]) rfl ⟨by rw [HT.out, HE.out, HB.out]; rfl, x4⟩
  · rw [Bool.true_and] at hl
    have hcmp : ((str (mintL secret (x : Nat) (y : Nat))).toList == s.toList) = tokB secret s := by rw [str_toList, toList_data]; exact hl.1
    go_wp2_with fail
    refine (implMint _ _ _ _).mono ?_
    rintro e w5 ⟨rfl, b5⟩
    have x5 := x4.trans (b5.mono x4.size)
    rcases hb : tokB secret s with _ | _
    · rw [hb] at hcmp
      have HB := Lib.hid hb
      clear hl hb
      go_wp2
      refine bodyPost_ret (v := .tuple #[.int .i64 0, .int .i64 0, .bool false]) (by simp [results, Try.results35, go_sem]) rfl ⟨by rw [HT.out, HE.out, HB.out]; rfl, x5⟩
    · rw [hb] at hcmp
      have HB := Lib.hid hb
      have HX := Lib.hid (hl.2 hb)
      clear hl hb
      go_wp2
      refine bodyPost_ret (v := .tuple #[.int .i64 (x : Nat), .int .i64 (y : Nat), .bool true]) (by simp [results, Try.results35, go_sem]) rfl ⟨by rw [HT.out, HE.out, HB.out, HX.out.1, HX.out.2]; rfl, x5⟩
end Go.Proofs.Ytoflclofcnpjlaa
