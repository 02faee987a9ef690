/- Walks: OpenFile and Unwrap of both sides. -/
import Derived.Test.YtoflclofcnpjlaaSealW
set_option linter.unusedVariables false
set_option linter.unusedSimpArgs false
namespace Go.Proofs.Ytoflclofcnpjlaa
open Go.RowKit Sp Go.Sort
attribute [local go_sem] str_size str_append
namespace Sp
def unsOk (s : ByteArray) : Bool := decide (4 ≤ (s.size : Int)) && unsB s
def unsT (s : ByteArray) : List UInt8 := if unsOk s then s.data.toList.drop 4 else []
end Sp
theorem ext_tail (s : ByteArray) : s.extract 4 s.size = str (s.data.toList.drop 4) := by
  rw [ext_str, List.take_of_length_le (by simp)]
theorem ext_four (s : ByteArray) : s.extract 0 4 = str (s.data.toList.take 4) := by rw [ext_str, List.drop_zero, Nat.sub_zero]

set_option maxRecDepth 100000 in
set_option maxHeartbeats 1600000 in
theorem unsummed_any (s : ByteArray) (w : World) (hs : (s.size : Int) ≤ 1048576) :
    Calls Try.prog 60 #[.string s] w fun e w' => e = .returned (.tuple #[.string (str (unsT s)), .bool (unsOk s)]) ∧ Below w.heap.size w w' := by
  by_cases h4 : (s.size : Int) < 4
  · have hg : decide ((s.size : Int) < 4) = true := decide_eq_true h4
    have ho : unsOk s = false := by simp [unsOk]; omega
    have HT := Lib.hid (show unsT s = [] by unfold unsT; rw [ho]; rfl)
    have HO := Lib.hid ho
    clear ho
    go_enter Try.func60, Try.ntmps60
    go_wp2
    refine wp_region_quiet_below (by kernel_rfl) (by kernel_rfl) ?_
    repeat (go_big_quiet_step (fail))
    refine wpQuiet_nil ?_
    intro w4 hw'
    have x4 : RowKit.Below w.heap.size w w4 := by obtain ⟨p, rfl⟩ := hw'; exact below_regrown _ _ _
    clear hw'
    go_wp2
    go_ret2
    exact ⟨by rw [HT.out, HO.out]; rfl, x4⟩
  · have hg : decide ((s.size : Int) < 4) = false := decide_eq_false h4
    have ht := ext_tail s
    have hf := ext_four s
    have hob : unsOk s = (fixedL (crcV (s.data.toList.drop 4)) 4 == s.data.toList.take 4) := by simp [unsOk, unsB]; omega
    have hts : unsT s = if unsOk s then s.data.toList.drop 4 else [] := rfl
    have hl4 : (s.data.toList.drop 4).length ≤ s.size := by simp
    have hcb := crcV_bd (s.data.toList.drop 4)
    generalize s.data.toList.drop 4 = L4 at *
    generalize s.data.toList.take 4 = L0 at *
    have cC : ∀ d os, Calls Try.prog 75 #[.string (str L4)] (grow (redrawn w d) os) fun e w'' => e = .returned (.int .i64 (crcV L4)) ∧ ∃ p : Regrown, w'' = grow (redrawn w p.d) p.os := fun d os => Calls.regrown_of ((implCrc _ _ (by rw [str_size]; omega)).mono (by rintro e w' ⟨rfl, rfl⟩; exact ⟨by rw [str_data], Below.refl _ _⟩))
    have cF : ∀ d os, Calls Try.prog 74 #[.int .i64 (crcV L4), .int .i64 4] (grow (redrawn w d) os) fun e w'' => e = .returned (.string (str (fixedL (crcV L4) 4))) ∧ ∃ p : Regrown, w'' = grow (redrawn w p.d) p.os := fun d os => Calls.regrown_of (implFixed _ _ _ (by omega))
    have HT := Lib.hid hts
    have HO := Lib.hid hob
    clear hts hob
    go_enter Try.func60, Try.ntmps60
    go_wp2
    refine wp_region_quiet_below (by kernel_rfl) (by kernel_rfl) ?_
    iterate 6 (go_big_quiet_step (fail))
    go_big_quiet_step (exact cC _ _)
    go_big_quiet_step (exact cF _ _)
    repeat (go_big_quiet_step (fail))
    refine wpQuiet_nil ?_
    intro w4 hw'
    have x4 : RowKit.Below w.heap.size w w4 := by obtain ⟨p, rfl⟩ := hw'; exact below_regrown _ _ _
    clear hw' cC cF
    have hcmp : ((str (fixedL (crcV L4) 4)).toList == (str L0).toList) = (fixedL (crcV L4) 4 == L0) := by rw [str_toList, str_toList]
    rcases hb : (fixedL (crcV L4) 4 == L0) with _ | _
    all_goals
      rw [hb] at hcmp
      have HB := Lib.hid hb
      clear hb
      simp only [hcmp, Bool.not_false, Bool.not_true]
      clear hcmp
      go_wp2
      go_ret2
      exact ⟨by rw [HT.out, HO.out, HB.out]; rfl, x4⟩

def fkR (a : List UInt8) (b : Bool) : Value := .tuple #[.string (str a), .bool b]

set_option maxRecDepth 100000 in
set_option maxHeartbeats 1600000 in
theorem specOpenFile (key s : ByteArray) (n : Int) (w : World) (hs : (s.size : Int) ≤ 1048576) :
    Calls Try.prog 32 #[.string key, .int .i64 n, .string s] w fun e w' => e = .returned (.tuple #[.string (str (openT key n s)), .bool (openB key n s)]) ∧ Below w.heap.size w w' := by
  go_enter Try.func32, Try.ntmps32
  go_wp2_with fail
  refine (specFileKey _ _ _).mono ?_
  rintro e w1 ⟨rfl, b1⟩
  by_cases hk : 0 < (fileKeyL key n).length
  · have hke := emp_iff _ hk
    by_cases h4 : (s.size : Int) < 4
    · have ho : openB key n s = false := by simp [openB]; omega
      have HT := Lib.hid (show openT key n s = [] by unfold openT; rw [ho]; rfl)
      have HO := Lib.hid ho
      clear ho hk
      go_wp2
      go_ret2
      exact ⟨by rw [HT.out, HO.out]; rfl, b1⟩
    · have hlaw := open_law (s := s) hk (by omega) hs
      have ht := ext_tail s
      have hdl : (s.data.toList.drop 4).length ≤ s.size := by simp
      have hto : openT key n s = if openB key n s then chaS (str (fileKeyL key n)) 1 (str (nonceL 5 n)) (str (s.data.toList.drop 4)) else [] := rfl
      have hsl := chaS_length_le (str (fileKeyL key n)) 1 (str (nonceL 5 n)) (str (s.data.toList.drop 4))
      rw [str_size] at hsl
      generalize s.data.toList.drop 4 = L4 at *
      have cN : ∀ d os, Calls Try.prog 56 #[.int .i64 5, .int .i64 n] (grow (redrawn w1 d) os) fun e w'' => e = .returned (.string (str (nonceL 5 n))) ∧ ∃ p : Regrown, w'' = grow (redrawn w1 p.d) p.os := fun d os => Calls.regrown_of (specNonce _ _ _)
      have cS : ∀ d os, Calls Try.prog 20 #[.string (str (fileKeyL key n)), .int .i64 1, .string (str (nonceL 5 n)), .string (str L4)] (grow (redrawn w1 d) os) fun e w'' => e = .returned (.string (str (chaS (str (fileKeyL key n)) 1 (str (nonceL 5 n)) (str L4)))) ∧ ∃ p : Regrown, w'' = grow (redrawn w1 p.d) p.os := fun d os => Calls.regrown_of (specChaStream _ _ _ _ _ (by rw [str_size]; omega))
      generalize chaS (str (fileKeyL key n)) 1 (str (nonceL 5 n)) (str L4) = T at *
      have HL := Lib.hid hlaw
      have HT := Lib.hid hto
      clear hlaw hto hk
      go_wp2
      refine wp_region_quiet_below (by kernel_rfl) (by kernel_rfl) ?_
      iterate 2 (go_big_quiet_step (fail))
      go_big_quiet_step (exact cN _ _)
      iterate 2 (go_big_quiet_step (fail))
      go_big_quiet_step (exact cS _ _)
      repeat (go_big_quiet_step (fail))
      refine wpQuiet_nil ?_
      intro w4 hw'
      have x4 : RowKit.Below w.heap.size w w4 := by obtain ⟨p, rfl⟩ := hw'; exact b1.trans ((below_regrown _ _ _).mono b1.size)
      clear hw' cN cS
      go_wp2_with fail
      refine (specSealFile _ _ _ _ (by rw [str_size]; omega)).mono ?_
      rintro e w5 ⟨rfl, b5⟩
      have x5 := x4.trans (b5.mono x4.size)
      have hcmp : ((str (sealL key n (str T))).toList == s.toList) = openB key n s := by rw [str_toList, toList_data]; exact HL.out
      generalize sealL key n (str T) = S at *
      rcases hb : openB key n s with _ | _
      all_goals
        rw [hb] at hcmp
        have HB := Lib.hid hb
        clear hb
        go_wp2
        go_ret2
        exact ⟨by rw [HT.out, HB.out]; rfl, x5⟩
  · have hn : fileKeyL key n = [] := List.eq_nil_of_length_eq_zero (by omega)
    have ho : openB key n s = false := by simp [openB, hk]
    have HT := Lib.hid (show openT key n s = [] by unfold openT; rw [ho]; rfl)
    have HO := Lib.hid ho
    have hke := emp_nil
    rw [hn]
    clear hk hn ho
    go_wp2
    go_ret2
    exact ⟨by rw [HT.out, HO.out]; rfl, b1⟩

set_option maxRecDepth 100000 in
set_option maxHeartbeats 1600000 in
theorem implOpenFile (key s : ByteArray) (n : Int) (w : World) (hs : (s.size : Int) ≤ 1048576) :
    Calls Try.prog 33 #[.string key, .int .i64 n, .string s] w fun e w' => e = .returned (.tuple #[.string (str (openT key n s)), .bool (openB key n s)]) ∧ Below w.heap.size w w' := by
  go_enter Try.func33, Try.ntmps33
  go_wp2_with fail
  refine (implFileKey _ _ _).mono ?_
  rintro e w1 ⟨rfl, b1⟩
  go_wp2_with fail
  refine (unsummed_any s _ hs).mono ?_
  rintro e w2 ⟨rfl, b2⟩
  have x2 := b1.trans (b2.mono b1.size)
  have hto : openT key n s = if openB key n s then chaS (str (fileKeyL key n)) 1 (str (nonceL 5 n)) (str (s.data.toList.drop 4)) else [] := rfl
  by_cases hu : unsOk s = true
  · have huT : unsT s = s.data.toList.drop 4 := by unfold unsT; rw [hu]; rfl
    have hu2 : 4 ≤ (s.size : Int) ∧ unsB s = true := by simpa [unsOk] using hu
    have hl4 : ((s.data.toList.drop 4).length : Int) = s.size - 4 := by rw [List.length_drop]; simp; omega
    rw [hu, huT]
    by_cases hk : 0 < (fileKeyL key n).length
    · have hke := emp_iff _ hk
      by_cases h2 : (s.size : Int) ≤ 2004
      · have ho : openB key n s = true := by simp [openB, hk, hu2.1, hu2.2, h2]
        generalize s.data.toList.drop 4 = L4 at *
        have HT := Lib.hid hto
        have HO := Lib.hid ho
        clear hto ho hu huT hk
        have hlt : ¬ (2000 : Int) < (L4.length : Int) := by omega
        go_wp2_with fail
        refine (implNonce _ _ _).mono ?_
        rintro e w3 ⟨rfl, b3⟩
        have x3 := x2.trans (b3.mono x2.size)
        go_wp2_with fail
        refine (implChaStream _ _ _ _ _ (by rw [str_size]; omega)).mono ?_
        rintro e w4 ⟨rfl, b4⟩
        have x4 := x3.trans (b4.mono x3.size)
        go_wp2
        go_ret2
        exact ⟨by rw [HT.out, HO.out]; rfl, x4⟩
      · have ho : openB key n s = false := by simp [openB, h2]
        generalize s.data.toList.drop 4 = L4 at *
        have HT := Lib.hid hto
        have HO := Lib.hid ho
        clear hto ho hu huT hk
        have hlt : (2000 : Int) < (L4.length : Int) := by omega
        go_wp2
        go_ret2
        exact ⟨by rw [HT.out, HO.out]; rfl, x2⟩
    · have hn : fileKeyL key n = [] := List.eq_nil_of_length_eq_zero (by omega)
      have ho : openB key n s = false := by simp [openB, hk]
      have HT := Lib.hid hto
      have HO := Lib.hid ho
      have hke := emp_nil
      rw [hn]
      clear hk hn ho hto hu huT
      go_wp2
      go_ret2
      exact ⟨by rw [HT.out, HO.out]; rfl, x2⟩
  · have hu' : unsOk s = false := by simpa using hu
    have ho : openB key n s = false := by
      by_cases h4 : 4 ≤ (s.size : Int)
      · have : unsB s = false := by simpa [unsOk, h4] using hu'
        simp [openB, this]
      · simp [openB, h4]
    have HT := Lib.hid hto
    have HO := Lib.hid ho
    rw [hu']
    clear hu hu' ho hto
    go_wp2
    go_ret2
    exact ⟨by rw [HT.out, HO.out]; rfl, x2⟩

set_option maxRecDepth 100000 in
set_option maxHeartbeats 1600000 in
theorem specUnwrap (m s : ByteArray) (n : Int) (w : World) (hs : (s.size : Int) ≤ 1048576) :
    Calls Try.prog 30 #[.string m, .int .i64 n, .string s] w fun e w' => e = .returned (.tuple #[.string (str (unwT m n s)), .bool (unwB m n s)]) ∧ Below w.heap.size w w' := by
  have hto : unwT m n s = if unwB m n s then chaS m 0 (str (nonceL 1 n)) (str (s.data.toList.drop 4)) else [] := rfl
  by_cases h36 : (s.size : Int) = 36
  · by_cases hm : (m.size : Int) = 32
    · by_cases hi : inB n 0 562949953421311 = true
      · have hw : wrapB m n = true := by simp [wrapB, hm, hi]
        have hlaw := unwrap_law hw h36
        have ht := ext_tail s
        have hdl : (s.data.toList.drop 4).length ≤ s.size := by simp
        have hsl := chaS_length_le m 0 (str (nonceL 1 n)) (str (s.data.toList.drop 4))
        rw [str_size] at hsl
        generalize s.data.toList.drop 4 = L4 at *
        have cN : ∀ d os, Calls Try.prog 56 #[.int .i64 1, .int .i64 n] (grow (redrawn w d) os) fun e w'' => e = .returned (.string (str (nonceL 1 n))) ∧ ∃ p : Regrown, w'' = grow (redrawn w p.d) p.os := fun d os => Calls.regrown_of (specNonce _ _ _)
        have cS : ∀ d os, Calls Try.prog 20 #[.string m, .int .i64 0, .string (str (nonceL 1 n)), .string (str L4)] (grow (redrawn w d) os) fun e w'' => e = .returned (.string (str (chaS m 0 (str (nonceL 1 n)) (str L4)))) ∧ ∃ p : Regrown, w'' = grow (redrawn w p.d) p.os := fun d os => Calls.regrown_of (specChaStream _ _ _ _ _ (by rw [str_size]; omega))
        generalize chaS m 0 (str (nonceL 1 n)) (str L4) = T at *
        have HL := Lib.hid hlaw
        have HT := Lib.hid hto
        clear hlaw hto hw
        go_enter Try.func30, Try.ntmps30
        go_wp2_with (first | (go_at_call 41; refine (l1In_any _ _ _ _).mono ?_; rintro e w' ⟨rfl, rfl⟩; rw [hi]) | fail)
        refine wp_region_quiet_below (by kernel_rfl) (by kernel_rfl) ?_
        iterate 2 (go_big_quiet_step (fail))
        go_big_quiet_step (exact cN _ _)
        iterate 2 (go_big_quiet_step (fail))
        go_big_quiet_step (exact cS _ _)
        repeat (go_big_quiet_step (fail))
        refine wpQuiet_nil ?_
        intro w4 hw'
        have x4 : RowKit.Below w.heap.size w w4 := by obtain ⟨p, rfl⟩ := hw'; exact below_regrown _ _ _
        clear hw' cN cS
        go_wp2_with fail
        refine (specWrap _ _ _ _ (by rw [str_size]; omega)).mono ?_
        rintro e w5 ⟨rfl, b5⟩
        have x5 := x4.trans (b5.mono x4.size)
        have hcmp : ((str (wrapL m n (str T))).toList == s.toList) = unwB m n s := by rw [str_toList, toList_data]; exact HL.out
        generalize wrapL m n (str T) = S at *
        rcases hb : unwB m n s with _ | _
        all_goals
          rw [hb] at hcmp
          have HB := Lib.hid hb
          clear hb
          go_wp2
          go_ret2
          exact ⟨by rw [HT.out, HB.out]; rfl, x5⟩
      · have hi' : inB n 0 562949953421311 = false := by simpa using hi
        have ho : unwB m n s = false := by simp [unwB, wrapB, hi']
        have HT := Lib.hid hto
        have HO := Lib.hid ho
        clear hto ho
        go_enter Try.func30, Try.ntmps30
        go_wp2_with (go_at_call 41; refine (l1In_any _ _ _ _).mono ?_; rintro e w' ⟨rfl, rfl⟩; rw [hi'])
        go_ret2
        exact ⟨by rw [HT.out, HO.out]; rfl, Below.refl _ _⟩
    · have ho : unwB m n s = false := by simp [unwB, wrapB, hm]
      have HT := Lib.hid hto
      have HO := Lib.hid ho
      clear hto ho
      go_enter Try.func30, Try.ntmps30
      go_wp2
      go_ret2
      exact ⟨by rw [HT.out, HO.out]; rfl, Below.refl _ _⟩
  · have ho : unwB m n s = false := by simp [unwB, h36]
    have HT := Lib.hid hto
    have HO := Lib.hid ho
    clear hto ho
    go_enter Try.func30, Try.ntmps30
    go_wp2
    go_ret2
    exact ⟨by rw [HT.out, HO.out]; rfl, Below.refl _ _⟩

set_option maxRecDepth 100000 in
set_option maxHeartbeats 1600000 in
theorem implUnwrap (m s : ByteArray) (n : Int) (w : World) (hs : (s.size : Int) ≤ 1048576) :
    Calls Try.prog 31 #[.string m, .int .i64 n, .string s] w fun e w' => e = .returned (.tuple #[.string (str (unwT m n s)), .bool (unwB m n s)]) ∧ Below w.heap.size w w' := by
  go_enter Try.func31, Try.ntmps31
  go_wp2_with fail
  refine (unsummed_any s _ hs).mono ?_
  rintro e w2 ⟨rfl, x2⟩
  have hto : unwT m n s = if unwB m n s then chaS m 0 (str (nonceL 1 n)) (str (s.data.toList.drop 4)) else [] := rfl
  by_cases hu : unsOk s = true
  · have huT : unsT s = s.data.toList.drop 4 := by unfold unsT; rw [hu]; rfl
    have hu2 : 4 ≤ (s.size : Int) ∧ unsB s = true := by simpa [unsOk] using hu
    have hl4 : ((s.data.toList.drop 4).length : Int) = s.size - 4 := by rw [List.length_drop]; simp; omega
    rw [hu, huT]
    by_cases h36 : (s.size : Int) = 36
    · have hL : ((s.data.toList.drop 4).length : Int) = 32 := by omega
      by_cases hm : (m.size : Int) = 32
      · rcases hi : inB n 0 562949953421311 with _ | _
        · have ho : unwB m n s = false := by simp [unwB, wrapB, hi]
          generalize s.data.toList.drop 4 = L4 at *
          have HT := Lib.hid hto
          have HO := Lib.hid ho
          clear hto ho hu huT
          go_wp2_with (go_at_call 59; refine (inRange_any _ _ _ _).mono ?_; rintro e w' ⟨rfl, rfl⟩; rw [hi])
          go_ret2
          exact ⟨by rw [HT.out, HO.out]; rfl, x2⟩
        · have ho : unwB m n s = true := by simp [unwB, wrapB, hi, hm, h36, hu2.2]
          generalize s.data.toList.drop 4 = L4 at *
          have HT := Lib.hid hto
          have HO := Lib.hid ho
          clear hto ho hu huT
          go_wp2_with (first | (go_at_call 59; refine (inRange_any _ _ _ _).mono ?_; rintro e w' ⟨rfl, rfl⟩; rw [hi]) | fail)
          go_wp2_with fail
          refine (implNonce _ _ _).mono ?_
          rintro e w3 ⟨rfl, b3⟩
          have x3 := x2.trans (b3.mono x2.size)
          go_wp2_with fail
          refine (implChaStream _ _ _ _ _ (by rw [str_size]; omega)).mono ?_
          rintro e w4 ⟨rfl, b4⟩
          have x4 := x3.trans (b4.mono x3.size)
          go_wp2
          go_ret2
          exact ⟨by rw [HT.out, HO.out]; rfl, x4⟩
      · have ho : unwB m n s = false := by simp [unwB, wrapB, hm]
        generalize s.data.toList.drop 4 = L4 at *
        have HT := Lib.hid hto
        have HO := Lib.hid ho
        clear hto ho hu huT
        go_wp2
        go_ret2
        exact ⟨by rw [HT.out, HO.out]; rfl, x2⟩
    · have hL : ¬ ((s.data.toList.drop 4).length : Int) = 32 := by omega
      have ho : unwB m n s = false := by simp [unwB, h36]
      generalize s.data.toList.drop 4 = L4 at *
      have HT := Lib.hid hto
      have HO := Lib.hid ho
      clear hto ho hu huT
      go_wp2
      go_ret2
      exact ⟨by rw [HT.out, HO.out]; rfl, x2⟩
  · have hu' : unsOk s = false := by simpa using hu
    have ho : unwB m n s = false := by
      by_cases h4 : (s.size : Int) = 36
      · have h44 : 4 ≤ (s.size : Int) := by omega
        have : unsB s = false := by simpa [unsOk, h44] using hu'
        simp [unwB, this]
      · simp [unwB, h4]
    have HT := Lib.hid hto
    have HO := Lib.hid ho
    rw [hu']
    clear hu hu' ho hto
    go_wp2
    go_ret2
    exact ⟨by rw [HT.out, HO.out]; rfl, x2⟩
end Go.Proofs.Ytoflclofcnpjlaa
