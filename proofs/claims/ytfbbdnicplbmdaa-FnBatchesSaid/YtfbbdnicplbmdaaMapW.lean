
/- Walks: MapOk of the reference and of the program. -/
import Derived.Test.YtfbbdnicplbmdaaTypes
import Derived.Test.YtfbbdnicplbmdaaLaws
import Derived.Test.YtfbbdnicplbmdaaMapP
import Derived.Test.YtfbbdnicplbmdaaIn
import Derived.Test.YtfbbdnicplbmdaaOpW
import Derived.WalkKit
import Derived.WalkSpells
import Derived.WalkLawsBesides
import Derived.BigQuiet
import Derived.Lib.QuietBelow
import Derived.Lib.Hide
set_option linter.unusedVariables false
set_option linter.unusedSimpArgs false
namespace Go.Proofs.Ytfbbdnicplbmdaa
open Go.RowKit Sp Go.Sort

set_option maxRecDepth 100000 in
set_option maxHeartbeats 800000 in
theorem implMapOk (v : Value) (l : List KV) (w : World) (h : SlT KV.cells 2 w v l) (hl : (l.length : Int) ≤ 1048576) :
    Calls Try.prog 94 #[v] w fun e w' => e = .returned (.bool (mapB l)) ∧ Below w.heap.size w w' := by
  obtain ⟨ao, cap, rfl, hlc, hcm, hsh⟩ := h.shape
  go_enter Try.func94, Try.ntmps94
  go_wp2
  go_loopw [7] (fun i wr => ∃ k : Nat, (k : Int) ≤ l.length ∧ i = .int .i64 k ∧ AllTo (kvAt l) k ∧ Below w.heap.size w wr) (fun i _ => l.length - (intOf i).toNat)
  case atStart => exact ⟨0, by omega, rfl, AllTo.zero _, Below.refl _ _⟩
  case round =>
    obtain ⟨k, hk, rfl, hall, hbl⟩ := hrel
    by_cases hlt : (k : Int) < l.length
    · have hltn : k < l.length := by omega
      obtain ⟨b, off, rfl, hb, hc⟩ := hsh (by omega)
      have hc0 : wr.cell? ⟨b, off + k * 2, none⟩ = some (.string l[k].key) := (hbl.cell (by exact hb)).trans (hc k hltn 0 _ rfl)
      have hc1 : wr.cell? ⟨b, off + k * 2 + 1, none⟩ = some (.string l[k].val) := (hbl.cell (by exact hb)).trans (hc k hltn 1 _ rfl)
      by_cases hkey : keyB l[k].key = true
      · by_cases hval : (16 : Int) < (l[k].val.size : Int)
        · have HR := Lib.hid (mapB_false hltn (kvAt_bad hltn (by simp [kvB, valB]; omega)))
          clear hall hsh h hc
          go_wp2
          go_quiet ((go_at_call 153; exact Calls.quiet_of_same ((isKey_any _ _).mono fun _ _ h => ⟨h.1, h.2.symm⟩)))
          go_wp2
          go_ret
          exact ⟨by rw [HR.out]; rfl, below_drewN (hbl.alloc hbl.size _) _⟩
        · have hv : decide ((16 : Int) < (l[k].val.size : Int)) = false := decide_eq_false hval
          have hok := kvB_mk hkey hval
          by_cases hk0 : k = 0
          · have hz : decide (0 < k) = false := decide_eq_false (by omega)
            have hall2 := hall.step ((kvAt_first hltn hk0).trans hok)
            have HK := Lib.hid hk0
            clear hok hk0
            clear hall hsh h hc
            go_wp2
            go_quiet ((go_at_call 153; exact Calls.quiet_of_same ((isKey_any _ _).mono fun _ _ h => ⟨h.1, h.2.symm⟩)))
            go_wp2
            go_roundw
            case rel => exact ⟨k + 1, by omega, by go_num, hall2, below_drewN (hbl.alloc hbl.size _) _⟩
            case measure => simp [intOf]; omega
          · have hz : decide (0 < k) = true := decide_eq_true (by omega)
            have hpn : k - 1 < l.length := by omega
            have hk1 : 1 ≤ k := by omega
            have hcp : wr.cell? ⟨b, off + (k - 1) * 2, none⟩ = some (.string l[k - 1].key) := (hbl.cell (by exact hb)).trans (hc (k - 1) hpn 0 _ rfl)
            have hbw : b < wr.heap.size := Nat.lt_of_lt_of_le hb hbl.size
            have hcq : (wr.alloc (.cells #[.string l[k].key, .string l[k].val] 134)).cell? ⟨b, off + (k - 1) * 2, none⟩ = some (.string l[k - 1].key) := by rw [World.cell?_alloc_past _ _ _ hbw]; exact hcp
            have hi1 : IntKind.i64.wrap ((k : Int) - 1) = (k : Int) - 1 := by rw [IntKind.wrap_i64]; omega
            have hi2 : (0 : Int) ≤ (k : Int) - 1 := by omega
            have hi3 : (1 : Int) ≤ (k : Int) := by omega
            have hi4 : (k : Int) - 1 < (l.length : Int) := by omega
            have hi5 : ((k : Int) - 1).toNat = k - 1 := by omega
            have hle := leq_less l[k].key l[k - 1].key
            have hat := kvAt_next hltn hk0 hpn
            rw [hok, Bool.true_and] at hat
            clear hok
            by_cases hless : less l[k - 1].key l[k].key = true
            · rw [hless] at hle hat
              have hall2 := hall.step hat
              clear hat
              clear hall hsh h hc
              go_wp2
              go_quiet ((go_at_call 153; exact Calls.quiet_of_same ((isKey_any _ _).mono fun _ _ h => ⟨h.1, h.2.symm⟩)))
              go_wp2
              go_roundw
              case rel => exact ⟨k + 1, by omega, by go_num, hall2, below_drewN (hbl.alloc hbl.size _) _⟩
              case measure => simp [intOf]; omega
            · have hless' : less l[k - 1].key l[k].key = false := by simpa using hless
              rw [hless'] at hle hat
              have HR := Lib.hid (mapB_false hltn hat)
              clear hat hless hless'
              clear hall hsh h hc
              go_wp2
              go_quiet ((go_at_call 153; exact Calls.quiet_of_same ((isKey_any _ _).mono fun _ _ h => ⟨h.1, h.2.symm⟩)))
              go_wp2
              go_ret
              exact ⟨by rw [HR.out]; rfl, below_drewN (hbl.alloc hbl.size _) _⟩
      · have hkey' : keyB l[k].key = false := by simpa using hkey
        have HR := Lib.hid (mapB_false hltn (kvAt_bad hltn (by simp [kvB, hkey'])))
        clear hkey
        clear hall hsh h hc
        go_wp2
        go_quiet ((go_at_call 153; exact Calls.quiet_of_same ((isKey_any _ _).mono fun _ _ h => ⟨h.1, h.2.symm⟩)))
        go_wp2
        go_ret
        exact ⟨by rw [HR.out]; rfl, below_drewN (hbl.alloc hbl.size _) _⟩
    · obtain rfl : k = l.length := by omega
      have HR := Lib.hid (mapB_true hall)
      clear hall hsh h
      go_wp2
      go_ret
      exact ⟨by rw [HR.out]; rfl, hbl⟩
end Go.Proofs.Ytfbbdnicplbmdaa
