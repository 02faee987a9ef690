/- Walks: ShowRow of the reference and of the program; the law. -/
import Derived.Test.YtoflclofcnpjlaaSumW
import Derived.Test.YtoflclofcnpjlaaFixedW
import Derived.Test.YtoflclofcnpjlaaKLogRow1
import Derived.Test.YtoflclofcnpjlaaAgg5
import Derived.Lib.QuietBelow
import Derived.BigQuiet
set_option linter.unusedVariables false
set_option linter.unusedSimpArgs false
namespace Go.Proofs.Ytoflclofcnpjlaa
namespace Sp
def rowB (x : RowR) : Bool := (inB x.ten 1 99 && (inB x.boot 0 1000 && inB x.seq 0 999999)) && decide ((x.text.size : Int) ≤ 300)
def rowS (x : RowR) : List UInt8 := varL x.ten ++ (varL x.boot ++ (varL x.seq ++ pieL x.text.data.toList))
def showRowL (x : RowR) : List UInt8 := if rowB x then sumL (rowS x) else []
theorem showRowL_ok {x : RowR} (h : rowB x = true) : showRowL x = sumL (rowS x) := by simp [showRowL, h]
theorem showRowL_not {x : RowR} (h : rowB x = false) : showRowL x = [] := by simp [showRowL, h]
theorem pieL_length (s : ByteArray) : (pieL s.data.toList).length ≤ 7 + s.size := by
  have h4 := varL_length (s.data.toList.length : Int)
  simp [pieL] at *
  omega
theorem rowS_length (x : RowR) : (rowS x).length ≤ 28 + x.text.size := by
  have h1 := varL_length x.ten
  have h2 := varL_length x.boot
  have h3 := varL_length x.seq
  have h4 := varL_length (x.text.data.toList.length : Int)
  simp [rowS, pieL] at *
  omega
end Sp
open Go.RowKit Sp Go.Sort
attribute [local go_sem] str_size str_append

set_option maxRecDepth 100000 in
theorem tenant_any (n : Int) (w : World) : Calls Try.prog 51 #[.int .i64 n] w fun e w' => e = .returned (.bool (inB n 1 99)) ∧ w = w' := by
  go_enter Try.func51, Try.ntmps51
  go_wp2_with (go_at_call 59; refine (inRange_any _ _ _ _).mono ?_; rintro e w' ⟨rfl, rfl⟩)
  go_ret
  exact ⟨rfl, rfl⟩
set_option maxRecDepth 100000 in
theorem isPlace_any (b s : Int) (w : World) : Calls Try.prog 52 #[.int .i64 b, .int .i64 s] w fun e w' => e = .returned (.bool (inB b 0 1000 && inB s 0 999999)) ∧ w = w' := by
  rcases hq : inB b 0 1000 with _ | _
  all_goals
    go_enter Try.func52, Try.ntmps52
    go_wp2_with (go_at_call 59; refine (inRange_any _ _ _ _).mono ?_; rintro e w' ⟨rfl, rfl⟩; try rw [hq])
    go_ret
    exact ⟨rfl, rfl⟩
set_option maxRecDepth 100000 in
theorem l8At_any (b s : Int) (w : World) : Calls Try.prog 46 #[.int .i64 b, .int .i64 s] w fun e w' => e = .returned (.bool (inB b 0 1000 && inB s 0 999999)) ∧ w = w' := by
  rcases hq : inB b 0 1000 with _ | _
  all_goals
    go_enter Try.func46, Try.ntmps46
    go_wp2_with (go_at_call 41; refine (l1In_any _ _ _ _).mono ?_; rintro e w' ⟨rfl, rfl⟩; try rw [hq])
    go_ret
    exact ⟨rfl, rfl⟩

set_option maxRecDepth 100000 in
set_option maxHeartbeats 1600000 in
theorem specShowRow (x : RowR) (hx : x.ok) (w : World) :
    Calls Try.prog 17 #[.agg #[.int .i64 x.ten, .int .i64 x.boot, .int .i64 x.seq, .string x.text, .bool x.sync]] w fun e w' => e = .returned (.string (str (showRowL x))) ∧ Below w.heap.size w w' := by
  have hbox : ∀ o : Obj, RowKit.Below w.heap.size w (w.alloc o) := fun o => (Below.refl _ _).alloc (Nat.le_refl _) _
  have hmax : (x.text.size : Int) ≤ 9223372036854775807 := by have := hx.2.2.2.1; simp [szOk, maxLen] at this; omega
  by_cases g1 : inB x.ten 1 99 = true
  · by_cases g2 : (inB x.boot 0 1000 && inB x.seq 0 999999) = true
    · by_cases g3 : (x.text.size : Int) ≤ 300
      · have HR := Lib.hid (showRowL_ok (x := x) (by simp [rowB, g1, g2, g3]))
        have hlen := rowS_length x
        have v1 := varL_length x.ten
        have v2 := varL_length x.boot
        have v3 := varL_length x.seq
        have v4 := pieL_length x.text
        have hcb := crcV_bd (rowS x)
        have hfl := fixedL_length_le (crcV (rowS x)) 4
        have kc0 := cell_regrown (show (w.alloc (.cells #[.int .i64 x.ten, .int .i64 x.boot, .int .i64 x.seq, .string x.text, .bool x.sync] 28)).cell? ⟨w.heap.size, 0, none⟩ = some (.int .i64 x.ten) by simp [go_sem])
        have kc1 := cell_regrown (show (w.alloc (.cells #[.int .i64 x.ten, .int .i64 x.boot, .int .i64 x.seq, .string x.text, .bool x.sync] 28)).cell? ⟨w.heap.size, 1, none⟩ = some (.int .i64 x.boot) by simp [go_sem])
        have kc2 := cell_regrown (show (w.alloc (.cells #[.int .i64 x.ten, .int .i64 x.boot, .int .i64 x.seq, .string x.text, .bool x.sync] 28)).cell? ⟨w.heap.size, 2, none⟩ = some (.int .i64 x.seq) by simp [go_sem])
        have kc3 := cell_regrown (show (w.alloc (.cells #[.int .i64 x.ten, .int .i64 x.boot, .int .i64 x.seq, .string x.text, .bool x.sync] 28)).cell? ⟨w.heap.size, 3, none⟩ = some (.string x.text) by simp [go_sem])
        have cV0 : ∀ d os, Calls Try.prog 47 #[.int .i64 x.ten] (grow (redrawn (w.alloc (.cells #[.int .i64 x.ten, .int .i64 x.boot, .int .i64 x.seq, .string x.text, .bool x.sync] 28)) d) os) fun e w'' => e = .returned (.string (str (varL x.ten))) ∧ ∃ p : Regrown, w'' = grow (redrawn (w.alloc (.cells #[.int .i64 x.ten, .int .i64 x.boot, .int .i64 x.seq, .string x.text, .bool x.sync] 28)) p.d) p.os := fun d os => Calls.regrown_of (specVar _ _)
        have cV1 : ∀ d os, Calls Try.prog 47 #[.int .i64 x.boot] (grow (redrawn (w.alloc (.cells #[.int .i64 x.ten, .int .i64 x.boot, .int .i64 x.seq, .string x.text, .bool x.sync] 28)) d) os) fun e w'' => e = .returned (.string (str (varL x.boot))) ∧ ∃ p : Regrown, w'' = grow (redrawn (w.alloc (.cells #[.int .i64 x.ten, .int .i64 x.boot, .int .i64 x.seq, .string x.text, .bool x.sync] 28)) p.d) p.os := fun d os => Calls.regrown_of (specVar _ _)
        have cV2 : ∀ d os, Calls Try.prog 47 #[.int .i64 x.seq] (grow (redrawn (w.alloc (.cells #[.int .i64 x.ten, .int .i64 x.boot, .int .i64 x.seq, .string x.text, .bool x.sync] 28)) d) os) fun e w'' => e = .returned (.string (str (varL x.seq))) ∧ ∃ p : Regrown, w'' = grow (redrawn (w.alloc (.cells #[.int .i64 x.ten, .int .i64 x.boot, .int .i64 x.seq, .string x.text, .bool x.sync] 28)) p.d) p.os := fun d os => Calls.regrown_of (specVar _ _)
        have cV3 : ∀ d os, Calls Try.prog 48 #[.string x.text] (grow (redrawn (w.alloc (.cells #[.int .i64 x.ten, .int .i64 x.boot, .int .i64 x.seq, .string x.text, .bool x.sync] 28)) d) os) fun e w'' => e = .returned (.string (str (pieL x.text.data.toList))) ∧ ∃ p : Regrown, w'' = grow (redrawn (w.alloc (.cells #[.int .i64 x.ten, .int .i64 x.boot, .int .i64 x.seq, .string x.text, .bool x.sync] 28)) p.d) p.os := fun d os => Calls.regrown_of (l6Piece_any _ _ (by omega))
        have HE : str (varL x.ten ++ (varL x.boot ++ (varL x.seq ++ pieL x.text.data.toList))) = str (rowS x) := rfl
        go_enter Try.func17, Try.ntmps17
        go_wp2_with (go_at_call 41; refine (l1In_any _ _ _ _).mono ?_; rintro e w' ⟨rfl, rfl⟩; rw [g1])
        go_wp2_with (go_at_call 46; refine (l8At_any _ _ _).mono ?_; rintro e w' ⟨rfl, rfl⟩; rw [g2])
        go_wp2
        refine wp_region_quiet_below (by kernel_rfl) (by kernel_rfl) ?_
        iterate 2 (go_big_quiet_step (fail))
        go_big_quiet_step (exact cV0 _ _)
        iterate 2 (go_big_quiet_step (fail))
        go_big_quiet_step (exact cV1 _ _)
        iterate 3 (go_big_quiet_step (fail))
        go_big_quiet_step (exact cV2 _ _)
        iterate 3 (go_big_quiet_step (fail))
        go_big_quiet_step (exact cV3 _ _)
        repeat (go_big_quiet_step (fail))
        refine wpQuiet_nil ?_
        intro w4 hw'
        have x4 : RowKit.Below w.heap.size w w4 := by obtain ⟨p, rfl⟩ := hw'; exact (hbox _).trans ((below_regrown _ _ _).mono (hbox _).size)
        clear hw' cV0 cV1 cV2 cV3 kc0 kc1 kc2 kc3
        go_wp2_with (go_at_call 50; refine (specCrc _ _ (by rw [str_size]; omega)).mono ?_; rintro e w' ⟨rfl, rfl⟩; rw [str_data])
        go_wp2_with (go_at_call 49; refine (specFixed _ _ _ (by omega)).mono ?_; rintro e w5 ⟨rfl, b5⟩; have x5 := x4.trans (b5.mono x4.size))
        go_ret
        exact ⟨by rw [HR.out]; rfl, x5⟩
      · have HR := Lib.hid (showRowL_not (x := x) (by simp [rowB, g1, g2, g3]))
        go_enter Try.func17, Try.ntmps17
        go_wp2_with (go_at_call 41; refine (l1In_any _ _ _ _).mono ?_; rintro e w' ⟨rfl, rfl⟩; rw [g1])
        go_wp2_with (go_at_call 46; refine (l8At_any _ _ _).mono ?_; rintro e w' ⟨rfl, rfl⟩; rw [g2])
        go_ret
        exact ⟨by rw [HR.out]; rfl, hbox _⟩
    · have g2' : (inB x.boot 0 1000 && inB x.seq 0 999999) = false := by simpa using g2
      have HR := Lib.hid (showRowL_not (x := x) (by simp only [rowB, g1, g2', Bool.and_false, Bool.false_and]))
      go_enter Try.func17, Try.ntmps17
      go_wp2_with (go_at_call 41; refine (l1In_any _ _ _ _).mono ?_; rintro e w' ⟨rfl, rfl⟩; rw [g1])
      go_wp2_with (go_at_call 46; refine (l8At_any _ _ _).mono ?_; rintro e w' ⟨rfl, rfl⟩; rw [g2'])
      go_ret
      exact ⟨by rw [HR.out]; rfl, hbox _⟩
  · have g1' : inB x.ten 1 99 = false := by simpa using g1
    have HR := Lib.hid (showRowL_not (x := x) (by simp only [rowB, g1', Bool.false_and]))
    go_enter Try.func17, Try.ntmps17
    go_wp2_with (go_at_call 41; refine (l1In_any _ _ _ _).mono ?_; rintro e w' ⟨rfl, rfl⟩; rw [g1'])
    go_ret
    exact ⟨by rw [HR.out]; rfl, hbox _⟩

set_option maxRecDepth 100000 in
set_option maxHeartbeats 1600000 in
theorem implShowRow (x : RowR) (hx : x.ok) (w : World) :
    Calls Try.prog 19 #[.agg #[.int .i64 x.ten, .int .i64 x.boot, .int .i64 x.seq, .string x.text, .bool x.sync]] w fun e w' => e = .returned (.string (str (showRowL x))) ∧ Below w.heap.size w w' := by
  have hbox : ∀ o : Obj, RowKit.Below w.heap.size w (w.alloc o) := fun o => (Below.refl _ _).alloc (Nat.le_refl _) _
  have hmax : (x.text.size : Int) ≤ 9223372036854775807 := by have := hx.2.2.2.1; simp [szOk, maxLen] at this; omega
  by_cases g1 : inB x.ten 1 99 = true
  · by_cases g2 : (inB x.boot 0 1000 && inB x.seq 0 999999) = true
    · by_cases g3 : (x.text.size : Int) ≤ 300
      · have HR := Lib.hid (showRowL_ok (x := x) (by simp [rowB, g1, g2, g3]))
        have hlen := rowS_length x
        have v1 := varL_length x.ten
        have v2 := varL_length x.boot
        have v3 := varL_length x.seq
        have v4 := pieL_length x.text
        have kc0 := cell_regrown (show (w.alloc (.cells #[.int .i64 x.ten, .int .i64 x.boot, .int .i64 x.seq, .string x.text, .bool x.sync] 28)).cell? ⟨w.heap.size, 0, none⟩ = some (.int .i64 x.ten) by simp [go_sem])
        have kc1 := cell_regrown (show (w.alloc (.cells #[.int .i64 x.ten, .int .i64 x.boot, .int .i64 x.seq, .string x.text, .bool x.sync] 28)).cell? ⟨w.heap.size, 1, none⟩ = some (.int .i64 x.boot) by simp [go_sem])
        have kc2 := cell_regrown (show (w.alloc (.cells #[.int .i64 x.ten, .int .i64 x.boot, .int .i64 x.seq, .string x.text, .bool x.sync] 28)).cell? ⟨w.heap.size, 2, none⟩ = some (.int .i64 x.seq) by simp [go_sem])
        have kc3 := cell_regrown (show (w.alloc (.cells #[.int .i64 x.ten, .int .i64 x.boot, .int .i64 x.seq, .string x.text, .bool x.sync] 28)).cell? ⟨w.heap.size, 3, none⟩ = some (.string x.text) by simp [go_sem])
        have cV0 : ∀ d os, Calls Try.prog 54 #[.int .i64 x.ten] (grow (redrawn (w.alloc (.cells #[.int .i64 x.ten, .int .i64 x.boot, .int .i64 x.seq, .string x.text, .bool x.sync] 28)) d) os) fun e w'' => e = .returned (.string (str (varL x.ten))) ∧ ∃ p : Regrown, w'' = grow (redrawn (w.alloc (.cells #[.int .i64 x.ten, .int .i64 x.boot, .int .i64 x.seq, .string x.text, .bool x.sync] 28)) p.d) p.os := fun d os => Calls.regrown_of (implVar _ _)
        have cV1 : ∀ d os, Calls Try.prog 54 #[.int .i64 x.boot] (grow (redrawn (w.alloc (.cells #[.int .i64 x.ten, .int .i64 x.boot, .int .i64 x.seq, .string x.text, .bool x.sync] 28)) d) os) fun e w'' => e = .returned (.string (str (varL x.boot))) ∧ ∃ p : Regrown, w'' = grow (redrawn (w.alloc (.cells #[.int .i64 x.ten, .int .i64 x.boot, .int .i64 x.seq, .string x.text, .bool x.sync] 28)) p.d) p.os := fun d os => Calls.regrown_of (implVar _ _)
        have cV2 : ∀ d os, Calls Try.prog 54 #[.int .i64 x.seq] (grow (redrawn (w.alloc (.cells #[.int .i64 x.ten, .int .i64 x.boot, .int .i64 x.seq, .string x.text, .bool x.sync] 28)) d) os) fun e w'' => e = .returned (.string (str (varL x.seq))) ∧ ∃ p : Regrown, w'' = grow (redrawn (w.alloc (.cells #[.int .i64 x.ten, .int .i64 x.boot, .int .i64 x.seq, .string x.text, .bool x.sync] 28)) p.d) p.os := fun d os => Calls.regrown_of (implVar _ _)
        have cV3 : ∀ d os, Calls Try.prog 55 #[.string x.text] (grow (redrawn (w.alloc (.cells #[.int .i64 x.ten, .int .i64 x.boot, .int .i64 x.seq, .string x.text, .bool x.sync] 28)) d) os) fun e w'' => e = .returned (.string (str (pieL x.text.data.toList))) ∧ ∃ p : Regrown, w'' = grow (redrawn (w.alloc (.cells #[.int .i64 x.ten, .int .i64 x.boot, .int .i64 x.seq, .string x.text, .bool x.sync] 28)) p.d) p.os := fun d os => Calls.regrown_of (short_any _ _ (by omega))
        have cV4 : ∀ d os, Calls Try.prog 53 #[.string (str (varL x.ten ++ (varL x.boot ++ (varL x.seq ++ pieL x.text.data.toList))))] (grow (redrawn (w.alloc (.cells #[.int .i64 x.ten, .int .i64 x.boot, .int .i64 x.seq, .string x.text, .bool x.sync] 28)) d) os) fun e w'' => e = .returned (.string (str (sumL (rowS x)))) ∧ ∃ p : Regrown, w'' = grow (redrawn (w.alloc (.cells #[.int .i64 x.ten, .int .i64 x.boot, .int .i64 x.seq, .string x.text, .bool x.sync] 28)) p.d) p.os := fun d os => Calls.regrown_of (summed_any (rowS x) _ (by omega))
        have HE : str (varL x.ten ++ (varL x.boot ++ (varL x.seq ++ pieL x.text.data.toList))) = str (rowS x) := rfl
        go_enter Try.func19, Try.ntmps19
        go_wp2_with (go_at_call 51; refine (tenant_any _ _).mono ?_; rintro e w' ⟨rfl, rfl⟩; rw [g1])
        go_wp2_with (go_at_call 52; refine (isPlace_any _ _ _).mono ?_; rintro e w' ⟨rfl, rfl⟩; rw [g2])
        go_wp2
        refine wp_region_quiet_below (by kernel_rfl) (by kernel_rfl) ?_
        iterate 2 (go_big_quiet_step (fail))
        go_big_quiet_step (exact cV0 _ _)
        iterate 2 (go_big_quiet_step (fail))
        go_big_quiet_step (exact cV1 _ _)
        iterate 3 (go_big_quiet_step (fail))
        go_big_quiet_step (exact cV2 _ _)
        iterate 3 (go_big_quiet_step (fail))
        go_big_quiet_step (exact cV3 _ _)
        iterate 1 (go_big_quiet_step (fail))
        go_big_quiet_step (exact cV4 _ _)
        repeat (go_big_quiet_step (fail))
        refine wpQuiet_nil ?_
        intro w5 hw'
        have x5 : RowKit.Below w.heap.size w w5 := by obtain ⟨p, rfl⟩ := hw'; exact (hbox _).trans ((below_regrown _ _ _).mono (hbox _).size)
        clear hw' cV0 cV1 cV2 cV3 cV4 kc0 kc1 kc2 kc3
        go_wp2
        go_ret
        exact ⟨by rw [HR.out]; rfl, x5⟩
      · have HR := Lib.hid (showRowL_not (x := x) (by simp [rowB, g1, g2, g3]))
        go_enter Try.func19, Try.ntmps19
        go_wp2_with (go_at_call 51; refine (tenant_any _ _).mono ?_; rintro e w' ⟨rfl, rfl⟩; rw [g1])
        go_wp2_with (go_at_call 52; refine (isPlace_any _ _ _).mono ?_; rintro e w' ⟨rfl, rfl⟩; rw [g2])
        go_ret
        exact ⟨by rw [HR.out]; rfl, hbox _⟩
    · have g2' : (inB x.boot 0 1000 && inB x.seq 0 999999) = false := by simpa using g2
      have HR := Lib.hid (showRowL_not (x := x) (by simp only [rowB, g1, g2', Bool.and_false, Bool.false_and]))
      go_enter Try.func19, Try.ntmps19
      go_wp2_with (go_at_call 51; refine (tenant_any _ _).mono ?_; rintro e w' ⟨rfl, rfl⟩; rw [g1])
      go_wp2_with (go_at_call 52; refine (isPlace_any _ _ _).mono ?_; rintro e w' ⟨rfl, rfl⟩; rw [g2'])
      go_ret
      exact ⟨by rw [HR.out]; rfl, hbox _⟩
  · have g1' : inB x.ten 1 99 = false := by simpa using g1
    have HR := Lib.hid (showRowL_not (x := x) (by simp only [rowB, g1', Bool.false_and]))
    go_enter Try.func19, Try.ntmps19
    go_wp2_with (go_at_call 51; refine (tenant_any _ _).mono ?_; rintro e w' ⟨rfl, rfl⟩; rw [g1'])
    go_ret
    exact ⟨by rw [HR.out]; rfl, hbox _⟩

set_option maxRecDepth 100000 in
set_option maxHeartbeats 1600000 in
theorem walkFnExactShowRow (w : World) (v : Value) (x : RowR) (hv : v = .agg #[.int .i64 x.ten, .int .i64 x.boot, .int .i64 x.seq, .string x.text, .bool x.sync]) (hx : x.ok) :
    Calls Try.prog 4 #[v] w fun e w' => e = .returned (.bool true) ∧ Below w.heap.size w w' := by
  subst hv
  have hbox : ∀ o : Obj, RowKit.Below w.heap.size w (w.alloc o) := fun o => (Below.refl _ _).alloc (Nat.le_refl _) _
  by_cases hd : dec 1048576 x.sz < 0
  · go_enter Try.func4, Try.ntmps4
    go_wp2_with (go_at_call 16; refine (szLogRow_any x hx _ _ (by omega) (by omega)).mono ?_; rintro e w1 ⟨rfl, b1⟩; have x1 := Below.trans (hbox _) (b1.mono (Below.size (hbox _))))
    go_ret
    exact ⟨rfl, x1⟩
  · go_enter Try.func4, Try.ntmps4
    go_wp2_with (go_at_call 16; refine (szLogRow_any x hx _ _ (by omega) (by omega)).mono ?_; rintro e w1 ⟨rfl, b1⟩; have x1 := Below.trans (hbox _) (b1.mono (Below.size (hbox _))); have ca := fun o => (bcell b1).1 w.heap.size o (by simp <;> omega); have hz1 : w.heap.size < w1.heap.size := Nat.lt_of_lt_of_le (by simp <;> omega) b1.size)
    go_wp2_with (go_at_call 18; refine (toLogRow_any _ _ _ _ _ _).mono ?_; rintro e w2 ⟨rfl, b2⟩; have x2 := x1.trans (b2.mono x1.size); have cb := fun o => ((bcell b2).1 w.heap.size o hz1).trans (ca o); have hz2 : w.heap.size < w2.heap.size := Nat.lt_of_lt_of_le hz1 b2.size)
    go_wp2_with (go_at_call 17; refine (specShowRow x hx _).mono ?_; rintro e w3 ⟨rfl, b3⟩; have x3 := x2.trans (b3.mono x2.size); have cc := fun o => ((bcell b3).1 w.heap.size o hz2).trans (cb o); have hz3 : w.heap.size < w3.heap.size := Nat.lt_of_lt_of_le hz2 b3.size)
    go_wp2_with (go_at_call 18; refine (toLogRow_any _ _ _ _ _ _).mono ?_; rintro e w4 ⟨rfl, b4⟩; have x4 := x3.trans (b4.mono x3.size))
    go_wp2_with (go_at_call 19; refine (implShowRow x hx _).mono ?_; rintro e w5 ⟨rfl, b5⟩; have x5 := x4.trans (b5.mono x4.size))
    go_ret
    exact ⟨rfl, x5⟩
end Go.Proofs.Ytoflclofcnpjlaa
