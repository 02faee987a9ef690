
/- Walks: MapOk of the reference and of the program. -/
import Derived.Test.YtmbmflhcimkjpaaTypes
import Derived.Test.YtmbmflhcimkjpaaLaws
import Derived.Test.YtmbmflhcimkjpaaMapP
import Derived.Test.YtmbmflhcimkjpaaIn
import Derived.WalkKit
import Derived.WalkSpells
import Derived.WalkLawsBesides
import Derived.BigQuiet
import Derived.Lib.QuietBelow
import Derived.Lib.Hide
set_option linter.unusedVariables false
set_option linter.unusedSimpArgs false
namespace Go.Proofs.Ytmbmflhcimkjpaa
open Go.RowKit Sp Go.Sort

set_option maxRecDepth 100000 in
set_option maxHeartbeats 400000 in
theorem l7Op_any (k v : ByteArray) (d : Bool) (w : World) :
    Calls Try.prog 124 #[.agg #[.string k, .bool d, .string v]] w fun e w' => e = .returned (.bool (opB k d v)) ∧ Below w.heap.size w w' := by
  go_enter Try.func124, Try.ntmps124
  go_wp2_with (go_at_call 107; refine (l1In_any _ _ _ _).mono ?_; rintro e w' ⟨rfl, rfl⟩)
  all_goals go_ret
  all_goals refine ⟨?_, (Below.refl _ _).alloc (Nat.le_refl _) _⟩
  all_goals simp_all [opB, keyB, valB]
  all_goals omega

set_option maxRecDepth 100000 in
set_option maxHeartbeats 400000 in
theorem isKey_any (k : ByteArray) (w : World) : Calls Try.prog 175 #[.string k] w fun e w' => e = .returned (.bool (keyB k)) ∧ w = w' := by
  go_enter Try.func175, Try.ntmps175
  go_wp2_with (go_at_call 105; refine (inRange_any _ _ _ _).mono ?_; rintro e w' ⟨rfl, rfl⟩)
  go_ret
  exact ⟨rfl, rfl⟩

set_option maxRecDepth 100000 in
set_option maxHeartbeats 800000 in
theorem implMapOk (v : Value) (l : List KV) (w : World) (h : SlT KV.cells 2 w v l) (hl : (l.length : Int) ≤ 1048576) :
    Calls Try.prog 139 #[v] w fun e w' => e = .returned (.bool (mapB l)) ∧ Below w.heap.size w w' := by
  obtain ⟨ao, cap, rfl, hlc, hcm, hsh⟩ := h.shape
  go_enter Try.func139, Try.ntmps139
  go_wp2
  go_loopw [7] (fun i wr => ∃ k : Nat, (k : Int) ≤ l.length ∧ i = .int .i64 k ∧ AllTo (kvAt l) k ∧ Below w.heap.size w wr) (fun i _ => l.length - (intOf i).toNat)
  case atStart => exact ⟨0, by omega, rfl, AllTo.zero _, Below.refl _ _⟩
  case round =>
    obtain ⟨k, hk, rfl, hall, hbl⟩ := hrel
    by_cases hlt : (k : Int) < l.length
    · have hltn : k < l.length := by omega
      obtain ⟨b, off, rfl, hb, hc⟩ := hsh (by omega)
      have hc0 : wr.cell? ⟨b, off + k * 2, none⟩ = some (.string l[k].key) := (hbl.cell (by exact hb)).trans (hc k hltn 0 _ rfl)
      have hc1 : wr.cell? ⟨b, off + k * 2 + 1, none⟩ = some (.string l[k].val) := (hbl.cell (by exact hb)).trans (hc k hltn 1 _ rfl)
      by_cases hkey : keyB l[k].key = true
      · by_cases hval : (16 : Int) < (l[k].val.size : Int)
        · have HR := Lib.hid (mapB_false hltn (kvAt_bad hltn (by simp [kvB, valB]; omega)))
          clear hall hsh h hc
          go_wp2
          go_quiet ((go_at_call 175; exact Calls.quiet_of_same ((isKey_any _ _).mono fun _ _ h => ⟨h.1, h.2.symm⟩)))
          go_wp2
          go_ret
          exact ⟨by rw [HR.out]; rfl, below_drewN (hbl.alloc hbl.size _) _⟩
        · have hv : decide ((16 : Int) < (l[k].val.size : Int)) = false := decide_eq_false hval
          have hok := kvB_mk hkey hval
          by_cases hk0 : k = 0
          · have hz : decide (0 < k) = false := decide_eq_false (by omega)
            have hall2 := hall.step ((kvAt_first hltn hk0).trans hok)
            have HK := Lib.hid hk0
            clear hok hk0
            clear hall hsh h hc
            go_wp2
            go_quiet ((go_at_call 175; exact Calls.quiet_of_same ((isKey_any _ _).mono fun _ _ h => ⟨h.1, h.2.symm⟩)))
            go_wp2
            go_roundw
            case rel => exact ⟨k + 1, by omega, by go_num, hall2, below_drewN (hbl.alloc hbl.size _) _⟩
            case measure => simp [intOf]; omega
          · have hz : decide (0 < k) = true := decide_eq_true (by omega)
            have hpn : k - 1 < l.length := by omega
            have hk1 : 1 ≤ k := by omega
            have hcp : wr.cell? ⟨b, off + (k - 1) * 2, none⟩ = some (.string l[k - 1].key) := (hbl.cell (by exact hb)).trans (hc (k - 1) hpn 0 _ rfl)
            have hbw : b < wr.heap.size := Nat.lt_of_lt_of_le hb hbl.size
            have hcq : (wr.alloc (.cells #[.string l[k].key, .string l[k].val] 77)).cell? ⟨b, off + (k - 1) * 2, none⟩ = some (.string l[k - 1].key) := by rw [World.cell?_alloc_past _ _ _ hbw]; exact hcp
            have hi1 : IntKind.i64.wrap ((k : Int) - 1) = (k : Int) - 1 := by rw [IntKind.wrap_i64]; omega
            have hi2 : (0 : Int) ≤ (k : Int) - 1 := by omega
            have hi3 : (1 : Int) ≤ (k : Int) := by omega
            have hi4 : (k : Int) - 1 < (l.length : Int) := by omega
            have hi5 : ((k : Int) - 1).toNat = k - 1 := by omega
            have hle := leq_less l[k].key l[k - 1].key
            have hat := kvAt_next hltn hk0 hpn
            rw [hok, Bool.true_and] at hat
            clear hok
            by_cases hless : less l[k - 1].key l[k].key = true
            · rw [hless] at hle hat
              have hall2 := hall.step hat
              clear hat
              clear hall hsh h hc
              go_wp2
              go_quiet ((go_at_call 175; exact Calls.quiet_of_same ((isKey_any _ _).mono fun _ _ h => ⟨h.1, h.2.symm⟩)))
              go_wp2
              go_roundw
              case rel => exact ⟨k + 1, by omega, by go_num, hall2, below_drewN (hbl.alloc hbl.size _) _⟩
              case measure => simp [intOf]; omega
            · have hless' : less l[k - 1].key l[k].key = false := by simpa using hless
              rw [hless'] at hle hat
              have HR := Lib.hid (mapB_false hltn hat)
              clear hat hless hless'
              clear hall hsh h hc
              go_wp2
              go_quiet ((go_at_call 175; exact Calls.quiet_of_same ((isKey_any _ _).mono fun _ _ h => ⟨h.1, h.2.symm⟩)))
              go_wp2
              go_ret
              exact ⟨by rw [HR.out]; rfl, below_drewN (hbl.alloc hbl.size _) _⟩
      · have hkey' : keyB l[k].key = false := by simpa using hkey
        have HR := Lib.hid (mapB_false hltn (kvAt_bad hltn (by simp [kvB, hkey'])))
        clear hkey
        clear hall hsh h hc
        go_wp2
        go_quiet ((go_at_call 175; exact Calls.quiet_of_same ((isKey_any _ _).mono fun _ _ h => ⟨h.1, h.2.symm⟩)))
        go_wp2
        go_ret
        exact ⟨by rw [HR.out]; rfl, below_drewN (hbl.alloc hbl.size _) _⟩
    · obtain rfl : k = l.length := by omega
      have HR := Lib.hid (mapB_true hall)
      clear hall hsh h
      go_wp2
      go_ret
      exact ⟨by rw [HR.out]; rfl, hbl⟩
end Go.Proofs.Ytmbmflhcimkjpaa
