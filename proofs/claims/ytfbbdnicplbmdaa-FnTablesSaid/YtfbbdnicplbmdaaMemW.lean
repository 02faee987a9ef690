
/- Walks: MemOk of both sides. -/
import Derived.Test.YtfbbdnicplbmdaaMemE
set_option linter.unusedVariables false
set_option linter.unusedSimpArgs false
namespace Go.Proofs.Ytfbbdnicplbmdaa
open Go.RowKit Sp Go.Sort

set_option maxRecDepth 100000 in
set_option maxHeartbeats 3200000 in
theorem specEnts_any (v : Value) (l : List EntR) (w : World) (h : SlT EntR.cells 4 w v l) (hl : (l.length : Int) ≤ 1048576) :
    Calls Try.prog 142 #[v] w fun e w' => e = .returned (.bool (entsB l)) ∧ Below w.heap.size w w' := by
  obtain ⟨ao, cap, rfl, hlc, hcm, hsh⟩ := h.shape
  go_enter Try.func142, Try.ntmps142
  go_wp2
  go_loopw [3] (fun i wr => ∃ k : Nat, (k : Int) ≤ l.length ∧ i = .int .i64 k ∧ AllTo (entAt l) k ∧ Below w.heap.size w wr) (fun i _ => l.length - (intOf i).toNat)
  case atStart => exact ⟨0, by omega, rfl, AllTo.zero _, Below.refl _ _⟩
  case round =>
    obtain ⟨k, hk, rfl, hall, hbl⟩ := hrel
    by_cases hlt : (k : Int) < l.length
    · have hltn : k < l.length := by omega
      obtain ⟨b, off, rfl, hb, hc⟩ := hsh (by omega)
      have hbw : b < wr.heap.size := Nat.lt_of_lt_of_le hb hbl.size
      have hc0 : wr.cell? ⟨b, off + k * 4, none⟩ = some (.string l[k].key) := (hbl.cell (by exact hb)).trans (hc k hltn 0 _ rfl)
      have hc1 : wr.cell? ⟨b, off + k * 4 + 1, none⟩ = some (.int .i64 l[k].seq) := (hbl.cell (by exact hb)).trans (hc k hltn 1 _ rfl)
      have hc2 : wr.cell? ⟨b, off + k * 4 + 2, none⟩ = some (.bool l[k].del) := (hbl.cell (by exact hb)).trans (hc k hltn 2 _ rfl)
      have hc3 : wr.cell? ⟨b, off + k * 4 + 3, none⟩ = some (.string l[k].val) := (hbl.cell (by exact hb)).trans (hc k hltn 3 _ rfl)
      have kc0 := cell_regrown hc0
      have kc1 := cell_regrown hc1
      have kc2 := cell_regrown hc2
      have kc3 := cell_regrown hc3
      have xw : RowKit.Below w.heap.size w wr := hbl
      have cE : ∀ d os, Calls Try.prog 176 #[.agg #[.string l[k].key, .int .i64 l[k].seq, .bool l[k].del, .string l[k].val]] (grow (redrawn wr d) os) fun e w'' => e = .returned (.bool (entB l[k])) ∧ ∃ p : Regrown, w'' = grow (redrawn wr p.d) p.os := fun d os => Calls.regrown_of (l9Ent_any _ _)
      by_cases hok : entB l[k] = true
      · by_cases hk0 : k = 0
        · have hz : decide (0 < k) = false := decide_eq_false (by omega)
          have hall2 := hall.step ((entAt_first hltn hk0).trans hok)
          have HK := Lib.hid hk0
          rw [hok] at cE
          clear hok hk0 hall hsh h hc
          go_wp2
          refine wp_region_quiet_below (by kernel_rfl) (by kernel_rfl) ?_
          iterate 4 (go_big_quiet_step (fail))
          go_big_quiet_step (exact cE _ _)
          repeat (go_big_quiet_step (fail))
          refine wpQuiet_nil ?_
          intro w2 hw'
          have hb2 : RowKit.Below w.heap.size w w2 := by obtain ⟨p, rfl⟩ := hw'; exact xw.trans ((below_regrown _ _ _).mono xw.size)
          clear hw' cE
          go_wp2
          go_roundw
          case rel => exact ⟨k + 1, by omega, by go_num, hall2, hb2⟩
          case measure => simp [intOf]; omega
        · have hz : decide (0 < k) = true := decide_eq_true (by omega)
          have hpn : k - 1 < l.length := by omega
          have hp0 : wr.cell? ⟨b, off + (k - 1) * 4, none⟩ = some (.string l[k - 1].key) := (hbl.cell (by exact hb)).trans (hc (k - 1) hpn 0 _ rfl)
          have kp0 := cell_regrown hp0
          have hp1 : wr.cell? ⟨b, off + (k - 1) * 4 + 1, none⟩ = some (.int .i64 l[k - 1].seq) := (hbl.cell (by exact hb)).trans (hc (k - 1) hpn 1 _ rfl)
          have kp1 := cell_regrown hp1
          have hp2 : wr.cell? ⟨b, off + (k - 1) * 4 + 2, none⟩ = some (.bool l[k - 1].del) := (hbl.cell (by exact hb)).trans (hc (k - 1) hpn 2 _ rfl)
          have kp2 := cell_regrown hp2
          have hp3 : wr.cell? ⟨b, off + (k - 1) * 4 + 3, none⟩ = some (.string l[k - 1].val) := (hbl.cell (by exact hb)).trans (hc (k - 1) hpn 3 _ rfl)
          have kp3 := cell_regrown hp3
          have cA : ∀ d os, Calls Try.prog 177 #[.agg #[.string l[k - 1].key, .int .i64 l[k - 1].seq, .bool l[k - 1].del, .string l[k - 1].val], .agg #[.string l[k].key, .int .i64 l[k].seq, .bool l[k].del, .string l[k].val]] (grow (redrawn wr d) os) fun e w'' => e = .returned (.bool (aheadB l[k - 1] l[k])) ∧ ∃ p : Regrown, w'' = grow (redrawn wr p.d) p.os := fun d os => Calls.regrown_of (l9Ahead_any _ _ _)
          have hi1 : IntKind.i64.wrap ((k : Int) - 1) = (k : Int) - 1 := by rw [IntKind.wrap_i64]; omega
          have hi2 : (0 : Int) ≤ (k : Int) - 1 := by omega
          have hi3 : (1 : Int) ≤ (k : Int) := by omega
          have hi4 : (k : Int) - 1 < (l.length : Int) := by omega
          have hi5 : ((k : Int) - 1).toNat = k - 1 := by omega
          have hat := entAt_next hltn hk0 hpn
          rw [hok, Bool.true_and] at hat
          rw [hok] at cE
          clear hok
          rcases ha : aheadB l[k - 1] l[k] with _ | _
          · rw [ha] at hat cA
            skip
            have HR := Lib.hid (entsB_false hltn hat)
            clear hat ha hall hsh h hc
            go_wp2
            refine wp_region_quiet_below (by kernel_rfl) (by kernel_rfl) ?_
            iterate 4 (go_big_quiet_step (fail))
            go_big_quiet_step (exact cE _ _)
            iterate 14 (go_big_quiet_step (fail))
            go_big_quiet_step (exact cA _ _)
            repeat (go_big_quiet_step (fail))
            refine wpQuiet_nil ?_
            intro w2 hw'
            have hb2 : RowKit.Below w.heap.size w w2 := by obtain ⟨p, rfl⟩ := hw'; exact xw.trans ((below_regrown _ _ _).mono xw.size)
            clear hw' cE cA
            go_wp2
            go_ret
            exact ⟨by rw [HR.out]; rfl, hb2⟩
          · rw [ha] at hat cA
            skip
            have hall2 := hall.step hat
            clear hat ha hall hsh h hc
            go_wp2
            refine wp_region_quiet_below (by kernel_rfl) (by kernel_rfl) ?_
            iterate 4 (go_big_quiet_step (fail))
            go_big_quiet_step (exact cE _ _)
            iterate 14 (go_big_quiet_step (fail))
            go_big_quiet_step (exact cA _ _)
            repeat (go_big_quiet_step (fail))
            refine wpQuiet_nil ?_
            intro w2 hw'
            have hb2 : RowKit.Below w.heap.size w w2 := by obtain ⟨p, rfl⟩ := hw'; exact xw.trans ((below_regrown _ _ _).mono xw.size)
            clear hw' cE cA
            go_wp2
            go_roundw
            case rel => exact ⟨k + 1, by omega, by go_num, hall2, hb2⟩
            case measure => simp [intOf]; omega
      · have hok' : entB l[k] = false := by simpa using hok
        rw [hok'] at cE
        have HR := Lib.hid (entsB_false hltn (entAt_bad hltn hok'))
        clear hok hok' hall hsh h hc
        go_wp2
        refine wp_region_quiet_below (by kernel_rfl) (by kernel_rfl) ?_
        iterate 4 (go_big_quiet_step (fail))
        go_big_quiet_step (exact cE _ _)
        repeat (go_big_quiet_step (fail))
        refine wpQuiet_nil ?_
        intro w2 hw'
        have hb2 : RowKit.Below w.heap.size w w2 := by obtain ⟨p, rfl⟩ := hw'; exact xw.trans ((below_regrown _ _ _).mono xw.size)
        clear hw' cE
        go_wp2
        go_ret
        exact ⟨by rw [HR.out]; rfl, hb2⟩
    · obtain rfl : k = l.length := by omega
      have HR := Lib.hid (entsB_true hall)
      clear hall hsh h
      go_wp2
      go_ret
      exact ⟨by rw [HR.out]; rfl, hbl⟩

set_option maxRecDepth 100000 in
set_option maxHeartbeats 800000 in
theorem specMemOk (v : Value) (l : List EntR) (w : World) (h : SlT EntR.cells 4 w v l) (hl : (l.length : Int) ≤ 1048576) :
    Calls Try.prog 72 #[v] w fun e w' => e = .returned (.bool (memB l)) ∧ Below w.heap.size w w' := by
  by_cases h60 : (l.length : Int) ≤ 60
  · have hB : memB l = entsB l := by simp [memB, h60]
    have HB := Lib.hid hB
    clear hB
    have hh := h
    obtain ⟨ao, cap, rfl, hlc, hcm, hsh⟩ := h.shape
    clear hsh
    go_enter Try.func72, Try.ntmps72
    go_wp2_with fail
    refine (specEnts_any _ l _ hh hl).mono ?_
    rintro e w1 ⟨rfl, b1⟩
    go_wp2
    go_ret
    exact ⟨by rw [HB.out]; rfl, b1⟩
  · have hB : memB l = false := by simp [memB, h60]
    have HB := Lib.hid hB
    clear hB
    obtain ⟨ao, cap, rfl, hlc, hcm, hsh⟩ := h.shape
    clear hsh
    go_enter Try.func72, Try.ntmps72
    go_wp2
    go_ret
    exact ⟨by rw [HB.out]; rfl, Below.refl _ _⟩

set_option maxRecDepth 100000 in
set_option maxHeartbeats 3200000 in
theorem implEnts_any (v : Value) (l : List EntR) (w : World) (h : SlT EntR.cells 4 w v l) (hl : (l.length : Int) ≤ 1048576) :
    Calls Try.prog 146 #[v] w fun e w' => e = .returned (.bool (entsB l)) ∧ Below w.heap.size w w' := by
  obtain ⟨ao, cap, rfl, hlc, hcm, hsh⟩ := h.shape
  go_enter Try.func146, Try.ntmps146
  go_wp2
  go_loopw [7] (fun i wr => ∃ k : Nat, (k : Int) ≤ l.length ∧ i = .int .i64 k ∧ AllTo (entAt l) k ∧ Below w.heap.size w wr) (fun i _ => l.length - (intOf i).toNat)
  case atStart => exact ⟨0, by omega, rfl, AllTo.zero _, Below.refl _ _⟩
  case round =>
    obtain ⟨k, hk, rfl, hall, hbl⟩ := hrel
    by_cases hlt : (k : Int) < l.length
    · have hltn : k < l.length := by omega
      obtain ⟨b, off, rfl, hb, hc⟩ := hsh (by omega)
      have hbw : b < wr.heap.size := Nat.lt_of_lt_of_le hb hbl.size
      have hc0 : wr.cell? ⟨b, off + k * 4, none⟩ = some (.string l[k].key) := (hbl.cell (by exact hb)).trans (hc k hltn 0 _ rfl)
      have hc1 : wr.cell? ⟨b, off + k * 4 + 1, none⟩ = some (.int .i64 l[k].seq) := (hbl.cell (by exact hb)).trans (hc k hltn 1 _ rfl)
      have hc2 : wr.cell? ⟨b, off + k * 4 + 2, none⟩ = some (.bool l[k].del) := (hbl.cell (by exact hb)).trans (hc k hltn 2 _ rfl)
      have hc3 : wr.cell? ⟨b, off + k * 4 + 3, none⟩ = some (.string l[k].val) := (hbl.cell (by exact hb)).trans (hc k hltn 3 _ rfl)
      have kc0 := cell_regrown (show (wr.alloc (.cells #[.string l[k].key, .int .i64 l[k].seq, .bool l[k].del, .string l[k].val] 30)).cell? ⟨wr.heap.size, 0, none⟩ = some (.string l[k].key) by simp [go_sem])
      have kc1 := cell_regrown (show (wr.alloc (.cells #[.string l[k].key, .int .i64 l[k].seq, .bool l[k].del, .string l[k].val] 30)).cell? ⟨wr.heap.size, 1, none⟩ = some (.int .i64 l[k].seq) by simp [go_sem])
      have kc2 := cell_regrown (show (wr.alloc (.cells #[.string l[k].key, .int .i64 l[k].seq, .bool l[k].del, .string l[k].val] 30)).cell? ⟨wr.heap.size, 2, none⟩ = some (.bool l[k].del) by simp [go_sem])
      have kc3 := cell_regrown (show (wr.alloc (.cells #[.string l[k].key, .int .i64 l[k].seq, .bool l[k].del, .string l[k].val] 30)).cell? ⟨wr.heap.size, 3, none⟩ = some (.string l[k].val) by simp [go_sem])
      have xw : RowKit.Below w.heap.size w (wr.alloc (.cells #[.string l[k].key, .int .i64 l[k].seq, .bool l[k].del, .string l[k].val] 30)) := hbl.alloc hbl.size _
      have cE : ∀ d os, Calls Try.prog 179 #[.agg #[.string l[k].key, .int .i64 l[k].seq, .bool l[k].del, .string l[k].val]] (grow (redrawn (wr.alloc (.cells #[.string l[k].key, .int .i64 l[k].seq, .bool l[k].del, .string l[k].val] 30)) d) os) fun e w'' => e = .returned (.bool (entB l[k])) ∧ ∃ p : Regrown, w'' = grow (redrawn (wr.alloc (.cells #[.string l[k].key, .int .i64 l[k].seq, .bool l[k].del, .string l[k].val] 30)) p.d) p.os := fun d os => Calls.regrown_of (entOk_any _ _)
      by_cases hok : entB l[k] = true
      · by_cases hk0 : k = 0
        · have hz : decide (0 < k) = false := decide_eq_false (by omega)
          have hall2 := hall.step ((entAt_first hltn hk0).trans hok)
          have HK := Lib.hid hk0
          rw [hok] at cE
          clear hok hk0 hall hsh h hc
          go_wp2
          refine wp_region_quiet_below (by kernel_rfl) (by kernel_rfl) ?_
          iterate 1 (go_big_quiet_step (fail))
          go_big_quiet_step (exact cE _ _)
          repeat (go_big_quiet_step (fail))
          refine wpQuiet_nil ?_
          intro w2 hw'
          have hb2 : RowKit.Below w.heap.size w w2 := by obtain ⟨p, rfl⟩ := hw'; exact xw.trans ((below_regrown _ _ _).mono xw.size)
          clear hw' cE
          go_wp2
          go_roundw
          case rel => exact ⟨k + 1, by omega, by go_num, hall2, hb2⟩
          case measure => simp [intOf]; omega
        · have hz : decide (0 < k) = true := decide_eq_true (by omega)
          have hpn : k - 1 < l.length := by omega
          have hp0 : wr.cell? ⟨b, off + (k - 1) * 4, none⟩ = some (.string l[k - 1].key) := (hbl.cell (by exact hb)).trans (hc (k - 1) hpn 0 _ rfl)
          have kp0 := cell_regrown (show (wr.alloc (.cells #[.string l[k].key, .int .i64 l[k].seq, .bool l[k].del, .string l[k].val] 30)).cell? ⟨b, off + (k - 1) * 4, none⟩ = some (.string l[k - 1].key) by rw [World.cell?_alloc_past _ _ _ hbw]; exact hp0)
          have hp1 : wr.cell? ⟨b, off + (k - 1) * 4 + 1, none⟩ = some (.int .i64 l[k - 1].seq) := (hbl.cell (by exact hb)).trans (hc (k - 1) hpn 1 _ rfl)
          have kp1 := cell_regrown (show (wr.alloc (.cells #[.string l[k].key, .int .i64 l[k].seq, .bool l[k].del, .string l[k].val] 30)).cell? ⟨b, off + (k - 1) * 4 + 1, none⟩ = some (.int .i64 l[k - 1].seq) by rw [World.cell?_alloc_past _ _ _ hbw]; exact hp1)
          have hp2 : wr.cell? ⟨b, off + (k - 1) * 4 + 2, none⟩ = some (.bool l[k - 1].del) := (hbl.cell (by exact hb)).trans (hc (k - 1) hpn 2 _ rfl)
          have kp2 := cell_regrown (show (wr.alloc (.cells #[.string l[k].key, .int .i64 l[k].seq, .bool l[k].del, .string l[k].val] 30)).cell? ⟨b, off + (k - 1) * 4 + 2, none⟩ = some (.bool l[k - 1].del) by rw [World.cell?_alloc_past _ _ _ hbw]; exact hp2)
          have hp3 : wr.cell? ⟨b, off + (k - 1) * 4 + 3, none⟩ = some (.string l[k - 1].val) := (hbl.cell (by exact hb)).trans (hc (k - 1) hpn 3 _ rfl)
          have kp3 := cell_regrown (show (wr.alloc (.cells #[.string l[k].key, .int .i64 l[k].seq, .bool l[k].del, .string l[k].val] 30)).cell? ⟨b, off + (k - 1) * 4 + 3, none⟩ = some (.string l[k - 1].val) by rw [World.cell?_alloc_past _ _ _ hbw]; exact hp3)
          have cA : ∀ d os, Calls Try.prog 180 #[.agg #[.string l[k - 1].key, .int .i64 l[k - 1].seq, .bool l[k - 1].del, .string l[k - 1].val], .agg #[.string l[k].key, .int .i64 l[k].seq, .bool l[k].del, .string l[k].val]] (grow (redrawn (wr.alloc (.cells #[.string l[k].key, .int .i64 l[k].seq, .bool l[k].del, .string l[k].val] 30)) d) os) fun e w'' => e = .returned (.int .i64 (cmpE l[k - 1] l[k])) ∧ ∃ p : Regrown, w'' = grow (redrawn (wr.alloc (.cells #[.string l[k].key, .int .i64 l[k].seq, .bool l[k].del, .string l[k].val] 30)) p.d) p.os := fun d os => Calls.regrown_of (compareEnts_any _ _ _)
          have hge := cmpE_ahead l[k - 1] l[k]
          have hi1 : IntKind.i64.wrap ((k : Int) - 1) = (k : Int) - 1 := by rw [IntKind.wrap_i64]; omega
          have hi2 : (0 : Int) ≤ (k : Int) - 1 := by omega
          have hi3 : (1 : Int) ≤ (k : Int) := by omega
          have hi4 : (k : Int) - 1 < (l.length : Int) := by omega
          have hi5 : ((k : Int) - 1).toNat = k - 1 := by omega
          have hat := entAt_next hltn hk0 hpn
          rw [hok, Bool.true_and] at hat
          rw [hok] at cE
          clear hok
          rcases ha : aheadB l[k - 1] l[k] with _ | _
          · rw [ha] at hat hge
            simp only [Bool.not_false] at hge
            have HR := Lib.hid (entsB_false hltn hat)
            clear hat ha hall hsh h hc
            go_wp2
            refine wp_region_quiet_below (by kernel_rfl) (by kernel_rfl) ?_
            iterate 1 (go_big_quiet_step (fail))
            go_big_quiet_step (exact cE _ _)
            iterate 11 (go_big_quiet_step (fail))
            go_big_quiet_step (exact cA _ _)
            repeat (go_big_quiet_step (fail))
            refine wpQuiet_nil ?_
            intro w2 hw'
            have hb2 : RowKit.Below w.heap.size w w2 := by obtain ⟨p, rfl⟩ := hw'; exact xw.trans ((below_regrown _ _ _).mono xw.size)
            clear hw' cE cA
            go_wp2
            go_ret
            exact ⟨by rw [HR.out]; rfl, hb2⟩
          · rw [ha] at hat hge
            simp only [Bool.not_true] at hge
            have hall2 := hall.step hat
            clear hat ha hall hsh h hc
            go_wp2
            refine wp_region_quiet_below (by kernel_rfl) (by kernel_rfl) ?_
            iterate 1 (go_big_quiet_step (fail))
            go_big_quiet_step (exact cE _ _)
            iterate 11 (go_big_quiet_step (fail))
            go_big_quiet_step (exact cA _ _)
            repeat (go_big_quiet_step (fail))
            refine wpQuiet_nil ?_
            intro w2 hw'
            have hb2 : RowKit.Below w.heap.size w w2 := by obtain ⟨p, rfl⟩ := hw'; exact xw.trans ((below_regrown _ _ _).mono xw.size)
            clear hw' cE cA
            go_wp2
            go_roundw
            case rel => exact ⟨k + 1, by omega, by go_num, hall2, hb2⟩
            case measure => simp [intOf]; omega
      · have hok' : entB l[k] = false := by simpa using hok
        rw [hok'] at cE
        have HR := Lib.hid (entsB_false hltn (entAt_bad hltn hok'))
        clear hok hok' hall hsh h hc
        go_wp2
        refine wp_region_quiet_below (by kernel_rfl) (by kernel_rfl) ?_
        iterate 1 (go_big_quiet_step (fail))
        go_big_quiet_step (exact cE _ _)
        repeat (go_big_quiet_step (fail))
        refine wpQuiet_nil ?_
        intro w2 hw'
        have hb2 : RowKit.Below w.heap.size w w2 := by obtain ⟨p, rfl⟩ := hw'; exact xw.trans ((below_regrown _ _ _).mono xw.size)
        clear hw' cE
        go_wp2
        go_ret
        exact ⟨by rw [HR.out]; rfl, hb2⟩
    · obtain rfl : k = l.length := by omega
      have HR := Lib.hid (entsB_true hall)
      clear hall hsh h
      go_wp2
      go_ret
      exact ⟨by rw [HR.out]; rfl, hbl⟩

set_option maxRecDepth 100000 in
set_option maxHeartbeats 800000 in
theorem implMemOk (v : Value) (l : List EntR) (w : World) (h : SlT EntR.cells 4 w v l) (hl : (l.length : Int) ≤ 1048576) :
    Calls Try.prog 84 #[v] w fun e w' => e = .returned (.bool (memB l)) ∧ Below w.heap.size w w' := by
  by_cases h60 : (l.length : Int) ≤ 60
  · have hB : memB l = entsB l := by simp [memB, h60]
    have HB := Lib.hid hB
    clear hB
    have hh := h
    obtain ⟨ao, cap, rfl, hlc, hcm, hsh⟩ := h.shape
    clear hsh
    go_enter Try.func84, Try.ntmps84
    go_wp2_with fail
    refine (implEnts_any _ l _ hh hl).mono ?_
    rintro e w1 ⟨rfl, b1⟩
    go_wp2
    go_ret
    exact ⟨by rw [HB.out]; rfl, b1⟩
  · have hB : memB l = false := by simp [memB, h60]
    have HB := Lib.hid hB
    clear hB
    obtain ⟨ao, cap, rfl, hlc, hcm, hsh⟩ := h.shape
    clear hsh
    go_enter Try.func84, Try.ntmps84
    go_wp2
    go_ret
    exact ⟨by rw [HB.out]; rfl, Below.refl _ _⟩
end Go.Proofs.Ytfbbdnicplbmdaa
