/- Walk: KeyOk. -/
import Derived.Test.YtcdcpdbolakfaaaKeyP
set_option linter.unusedVariables false
set_option linter.unusedSimpArgs false
namespace Go.Proofs.Ytcdcpdbolakfaaa
open Go.RowKit Sp Go.Sort

set_option maxRecDepth 100000 in
set_option maxHeartbeats 1600000 in
theorem implKeyOk (v : Value) (d : KeyDevR) (w : World) (h : IsKeyDev w v d) (hl : (d.slots.length : Int) ≤ 1048576) :
    Calls Try.prog 23 #[v] w fun e w' => e = .returned (.bool (keyDevB d)) ∧ Below w.heap.size w w' := by
  obtain ⟨s1, rfl, h1⟩ := h
  obtain ⟨ao, cap, rfl, hlc, hcm, hsh⟩ := h1.shape
  obtain ⟨master, l, wiped⟩ := d
  simp only at *
  by_cases g0 : (master.size : Int) = 32
  · by_cases g1 : (l.length : Int) ≤ 4
    · by_cases g2 : inB wiped 0 1000000 = true
      · have hh : keyHead ⟨master, l, wiped⟩ = true := by simp [keyHead, g0, g1, g2]
        clear h1
        go_enter Try.func23, Try.ntmps23
        go_wp2_with (go_at_call 67; refine (isNumber_any _ _).mono ?_; rintro e w' ⟨rfl, rfl⟩; rw [g2])
        go_loopw [24] (fun i wr => ∃ k : Nat, (k : Int) ≤ l.length ∧ i = .int .i64 k ∧ AllTo (slotAt l) k ∧ Below w.heap.size w wr ∧ w.heap.size < wr.heap.size ∧ wr.cell? ⟨w.heap.size, 1, none⟩ = some (.slice ao l.length cap)) (fun i _ => l.length - (intOf i).toNat)
        case atStart => exact ⟨0, by omega, rfl, AllTo.zero _, (Below.refl _ _).alloc (Nat.le_refl _) _, by simp, by simp [go_sem]⟩
        case round =>
          obtain ⟨k, hk, rfl, hall, hbl, hsz, hs1⟩ := hrel
          by_cases hlt : (k : Int) < l.length
          · have hltn : k < l.length := by omega
            obtain ⟨b, off, rfl, hb, hc⟩ := hsh (by omega)
            have hc0 : wr.cell? ⟨b, off + k * 2, none⟩ = some (.int .i64 l[k].ten) := (hbl.cell (by exact hb)).trans (hc k hltn 0 _ rfl)
            have hc1 : wr.cell? ⟨b, off + k * 2 + 1, none⟩ = some (.string l[k].key) := (hbl.cell (by exact hb)).trans (hc k hltn 1 _ rfl)
            have hs1x : (wr.alloc (.cells #[.int .i64 l[k].ten, .string l[k].key] 92)).cell? ⟨w.heap.size, 1, none⟩ = some (.slice (some ⟨b, off, none⟩) l.length cap) := by rw [World.cell?_alloc_past _ _ _ hsz]; exact hs1
            by_cases ht : inB l[k].ten 1 99 = true
            · by_cases hkz : (l[k].key.size : Int) = 32
              · have hkz' : ((l[k].key.size : Int) == 32) = true := by simp [hkz]
                have hkz3 : ((l[k].key.size : Int) != 32) = false := by simp [hkz]
                have hkz2 : decide ((l[k].key.size : Int) = 32) = true := decide_eq_true hkz
                have hok : slotB l[k] = true := by simp [slotB, ht, hkz]
                by_cases hk0 : k = 0
                · have hz : decide (0 < k) = false := decide_eq_false (by omega)
                  have hall2 := hall.step ((slotAt_first hltn hk0).trans hok)
                  have HK := Lib.hid hk0
                  clear hok hk0 hall hsh hc
                  go_wp2
                  go_quiet ((go_at_call 68; exact Calls.quiet_of_same ((isTenant_any _ _).mono fun _ _ h => ⟨h.1, h.2.symm⟩)))
                  go_wp2
                  go_roundw
                  case rel => exact ⟨k + 1, by omega, by go_num, hall2, below_drewN (hbl.alloc hbl.size _) _, by simp [World.drewN]; omega, hs1x⟩
                  case measure => simp [intOf]; omega
                · have hz : decide (0 < k) = true := decide_eq_true (by omega)
                  have hpn : k - 1 < l.length := by omega
                  have hk1 : 1 ≤ k := by omega
                  have hcp : wr.cell? ⟨b, off + (k - 1) * 2, none⟩ = some (.int .i64 l[k - 1].ten) := (hbl.cell (by exact hb)).trans (hc (k - 1) hpn 0 _ rfl)
                  have hbw : b < wr.heap.size := Nat.lt_of_lt_of_le hb hbl.size
                  have hcq : (wr.alloc (.cells #[.int .i64 l[k].ten, .string l[k].key] 92)).cell? ⟨b, off + (k - 1) * 2, none⟩ = some (.int .i64 l[k - 1].ten) := by rw [World.cell?_alloc_past _ _ _ hbw]; exact hcp
                  have hi1 : IntKind.i64.wrap ((k : Int) - 1) = (k : Int) - 1 := by rw [IntKind.wrap_i64]; omega
                  have hi2 : (0 : Int) ≤ (k : Int) - 1 := by omega
                  have hi3 : (1 : Int) ≤ (k : Int) := by omega
                  have hi4 : (k : Int) - 1 < (l.length : Int) := by omega
                  have hi5 : ((k : Int) - 1).toNat = k - 1 := by omega
                  have hat := slotAt_next hltn hk0 hpn
                  rw [hok, Bool.true_and] at hat
                  clear hok
                  by_cases hless : l[k - 1].ten < l[k].ten
                  · have hle : decide (l[k].ten ≤ l[k - 1].ten) = false := decide_eq_false (by omega)
                    rw [decide_eq_true hless] at hat
                    have hall2 := hall.step hat
                    clear hat hall hsh hc
                    go_wp2
                    go_quiet ((go_at_call 68; exact Calls.quiet_of_same ((isTenant_any _ _).mono fun _ _ h => ⟨h.1, h.2.symm⟩)))
                    go_wp2
                    go_roundw
                    case rel => exact ⟨k + 1, by omega, by go_num, hall2, below_drewN (hbl.alloc hbl.size _) _, by simp [World.drewN]; omega, hs1x⟩
                    case measure => simp [intOf]; omega
                  · have hle : decide (l[k].ten ≤ l[k - 1].ten) = true := decide_eq_true (by omega)
                    rw [decide_eq_false hless] at hat
                    have HR := Lib.hid (keyDevB_bad (d := ⟨master, l, wiped⟩) hltn hat)
                    clear hat hall hsh hc
                    go_wp2
                    go_quiet ((go_at_call 68; exact Calls.quiet_of_same ((isTenant_any _ _).mono fun _ _ h => ⟨h.1, h.2.symm⟩)))
                    go_wp2
                    go_ret
                    exact ⟨by rw [HR.out]; rfl, below_drewN (hbl.alloc hbl.size _) _⟩
              · have hkz' : ((l[k].key.size : Int) == 32) = false := by simp [hkz]
                have hkz3 : ((l[k].key.size : Int) != 32) = true := by simp [hkz]
                have hkz2 : decide ((l[k].key.size : Int) = 32) = false := decide_eq_false hkz
                have HR := Lib.hid (keyDevB_bad (d := ⟨master, l, wiped⟩) hltn (slotAt_bad hltn (by simp [slotB, hkz])))
                clear hall hsh hc
                go_wp2
                go_quiet ((go_at_call 68; exact Calls.quiet_of_same ((isTenant_any _ _).mono fun _ _ h => ⟨h.1, h.2.symm⟩)))
                go_wp2
                go_ret
                exact ⟨by rw [HR.out]; rfl, below_drewN (hbl.alloc hbl.size _) _⟩
            · have ht' : inB l[k].ten 1 99 = false := by simpa using ht
              have HR := Lib.hid (keyDevB_bad (d := ⟨master, l, wiped⟩) hltn (slotAt_bad hltn (by simp [slotB, ht'])))
              clear hall hsh hc ht
              go_wp2
              go_quiet ((go_at_call 68; exact Calls.quiet_of_same ((isTenant_any _ _).mono fun _ _ h => ⟨h.1, h.2.symm⟩)))
              go_wp2
              go_ret
              exact ⟨by rw [HR.out]; rfl, below_drewN (hbl.alloc hbl.size _) _⟩
          · obtain rfl : k = l.length := by omega
            have HR := Lib.hid (keyDevB_all (d := ⟨master, l, wiped⟩) hh hall)
            clear hall hsh
            go_wp2
            go_ret
            exact ⟨by rw [HR.out]; rfl, hbl⟩
      · have g2' : inB wiped 0 1000000 = false := by simpa using g2
        have HR := Lib.hid (keyDevB_head (d := ⟨master, l, wiped⟩) (by simp [keyHead, g2']))
        clear hsh h1
        go_enter Try.func23, Try.ntmps23
        go_wp2_with (go_at_call 67; refine (isNumber_any _ _).mono ?_; rintro e w' ⟨rfl, rfl⟩; rw [g2'])
        go_ret
        exact ⟨by rw [HR.out]; rfl, (Below.refl _ _).alloc (Nat.le_refl _) _⟩
    · have HR := Lib.hid (keyDevB_head (d := ⟨master, l, wiped⟩) (by simp [keyHead, g1]))
      clear hsh h1
      go_enter Try.func23, Try.ntmps23
      go_wp2
      go_ret
      exact ⟨by rw [HR.out]; rfl, (Below.refl _ _).alloc (Nat.le_refl _) _⟩
  · have HR := Lib.hid (keyDevB_head (d := ⟨master, l, wiped⟩) (by simp [keyHead, g0]))
    clear hsh h1
    go_enter Try.func23, Try.ntmps23
    go_wp2
    go_ret
    exact ⟨by rw [HR.out]; rfl, (Below.refl _ _).alloc (Nat.le_refl _) _⟩
end Go.Proofs.Ytcdcpdbolakfaaa
