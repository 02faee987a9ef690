
/- Walk: MapOk of the reference. -/
import Derived.Test.YtfbbdnicplbmdaaTypes
import Derived.Test.YtfbbdnicplbmdaaLaws
import Derived.Test.YtfbbdnicplbmdaaMapP
import Derived.Test.YtfbbdnicplbmdaaIn
import Derived.Test.YtfbbdnicplbmdaaMapW
import Derived.WalkKit
import Derived.WalkSpells
import Derived.WalkLawsBesides
import Derived.BigQuiet
import Derived.Lib.QuietBelow
import Derived.Lib.Hide
set_option linter.unusedVariables false
set_option linter.unusedSimpArgs false
namespace Go.Proofs.Ytfbbdnicplbmdaa
open Go.RowKit Sp Go.Sort

/-- x >= y is: not x < y. -/
theorem geq_less (a b : ByteArray) : (!Op.bytesLess a.toList b.toList) = !less a b := rfl
set_option maxRecDepth 100000 in
set_option maxHeartbeats 800000 in
theorem specMapOk (v : Value) (l : List KV) (w : World) (h : SlT KV.cells 2 w v l) (hl : (l.length : Int) ≤ 1048576) :
    Calls Try.prog 25 #[v] w fun e w' => e = .returned (.bool (mapB l)) ∧ Below w.heap.size w w' := by
  obtain ⟨ao, cap, rfl, hlc, hcm, hsh⟩ := h.shape
  go_enter Try.func25, Try.ntmps25
  go_wp2
  go_loopw [3] (fun i wr => ∃ k : Nat, (k : Int) ≤ l.length ∧ i = .int .i64 k ∧ AllTo (kvAt l) k ∧ Below w.heap.size w wr) (fun i _ => l.length - (intOf i).toNat)
  case atStart => exact ⟨0, by omega, rfl, AllTo.zero _, Below.refl _ _⟩
  case round =>
    obtain ⟨k, hk, rfl, hall, hbl⟩ := hrel
    by_cases hlt : (k : Int) < l.length
    · have hltn : k < l.length := by omega
      obtain ⟨b, off, rfl, hb, hc⟩ := hsh (by omega)
      have hc0 : wr.cell? ⟨b, off + k * 2, none⟩ = some (.string l[k].key) := (hbl.cell (by exact hb)).trans (hc k hltn 0 _ rfl)
      have hc1 : wr.cell? ⟨b, off + k * 2 + 1, none⟩ = some (.string l[k].val) := (hbl.cell (by exact hb)).trans (hc k hltn 1 _ rfl)
      have kc0 := cell_regrown hc0
      have kc1 := cell_regrown hc1
      have hop : opB l[k].key false l[k].val = kvB l[k] := by simp [opB, kvB]
      have cV : ∀ d os, Calls Try.prog 99 #[.agg #[.string l[k].key, .bool false, .string l[k].val]] (grow (redrawn wr d) os) fun e w'' => e = .returned (.bool (kvB l[k])) ∧ ∃ p : Regrown, w'' = grow (redrawn wr p.d) p.os := fun d os => Calls.regrown_of (by rw [← hop]; exact l7Op_any _ _ _ _)
      clear hop
      by_cases hok : kvB l[k] = true
      · rw [hok] at cV
        by_cases hk0 : k = 0
        · have hz : decide (0 < k) = false := decide_eq_false (by omega)
          have hall2 := hall.step ((kvAt_first hltn hk0).trans hok)
          have HK := Lib.hid hk0
          clear hok hk0 hall hsh h hc
          go_wp2
          refine wp_region_quiet_below (by kernel_rfl) (by kernel_rfl) ?_
          repeat (first | go_big_quiet_step (exact cV _ _) | go_big_quiet_step (fail))
          refine wpQuiet_nil ?_
          intro w2 hw'
          have hb2 : RowKit.Below w.heap.size w w2 := by obtain ⟨p, rfl⟩ := hw'; exact hbl.trans ((below_regrown _ _ _).mono hbl.size)
          clear hw' cV
          go_wp2
          go_roundw
          case rel => exact ⟨k + 1, by omega, by go_num, hall2, hb2⟩
          case measure => simp [intOf]; omega
        · have hz : decide (0 < k) = true := decide_eq_true (by omega)
          have hpn : k - 1 < l.length := by omega
          have hcp : wr.cell? ⟨b, off + (k - 1) * 2, none⟩ = some (.string l[k - 1].key) := (hbl.cell (by exact hb)).trans (hc (k - 1) hpn 0 _ rfl)
          have kcp := cell_regrown hcp
          have hi1 : IntKind.i64.wrap ((k : Int) - 1) = (k : Int) - 1 := by rw [IntKind.wrap_i64]; omega
          have hi2 : (0 : Int) ≤ (k : Int) - 1 := by omega
          have hi3 : (1 : Int) ≤ (k : Int) := by omega
          have hi4 : (k : Int) - 1 < (l.length : Int) := by omega
          have hi5 : ((k : Int) - 1).toNat = k - 1 := by omega
          have hle := geq_less l[k - 1].key l[k].key
          have hat := kvAt_next hltn hk0 hpn
          rw [hok, Bool.true_and] at hat
          clear hok
          by_cases hless : less l[k - 1].key l[k].key = true
          · rw [hless] at hle hat
            have hall2 := hall.step hat
            clear hat hall hsh h hc
            go_wp2
            refine wp_region_quiet_below (by kernel_rfl) (by kernel_rfl) ?_
            repeat (first | go_big_quiet_step (exact cV _ _) | go_big_quiet_step (fail))
            refine wpQuiet_nil ?_
            intro w2 hw'
            have hb2 : RowKit.Below w.heap.size w w2 := by obtain ⟨p, rfl⟩ := hw'; exact hbl.trans ((below_regrown _ _ _).mono hbl.size)
            clear hw' cV
            go_wp2
            go_roundw
            case rel => exact ⟨k + 1, by omega, by go_num, hall2, hb2⟩
            case measure => simp [intOf]; omega
          · have hless' : less l[k - 1].key l[k].key = false := by simpa using hless
            rw [hless'] at hle hat
            have HR := Lib.hid (mapB_false hltn hat)
            clear hat hless hless' hall hsh h hc
            go_wp2
            refine wp_region_quiet_below (by kernel_rfl) (by kernel_rfl) ?_
            repeat (first | go_big_quiet_step (exact cV _ _) | go_big_quiet_step (fail))
            refine wpQuiet_nil ?_
            intro w2 hw'
            have hb2 : RowKit.Below w.heap.size w w2 := by obtain ⟨p, rfl⟩ := hw'; exact hbl.trans ((below_regrown _ _ _).mono hbl.size)
            clear hw' cV
            go_wp2
            go_ret
            exact ⟨by rw [HR.out]; rfl, hb2⟩
      · have hok' : kvB l[k] = false := by simpa using hok
        rw [hok'] at cV
        have HR := Lib.hid (mapB_false hltn (kvAt_bad hltn hok'))
        clear hok hok' hall hsh h hc
        go_wp2
        refine wp_region_quiet_below (by kernel_rfl) (by kernel_rfl) ?_
        repeat (first | go_big_quiet_step (exact cV _ _) | go_big_quiet_step (fail))
        refine wpQuiet_nil ?_
        intro w2 hw'
        have hb2 : RowKit.Below w.heap.size w w2 := by obtain ⟨p, rfl⟩ := hw'; exact hbl.trans ((below_regrown _ _ _).mono hbl.size)
        clear hw' cV
        go_wp2
        go_ret
        exact ⟨by rw [HR.out]; rfl, hb2⟩
    · obtain rfl : k = l.length := by omega
      have HR := Lib.hid (mapB_true hall)
      clear hall hsh h
      go_wp2
      go_ret
      exact ⟨by rw [HR.out]; rfl, hbl⟩
end Go.Proofs.Ytfbbdnicplbmdaa
