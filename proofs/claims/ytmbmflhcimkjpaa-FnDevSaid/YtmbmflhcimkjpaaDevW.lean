
/- Walks: DevOk of the reference and of the program. -/
import Derived.Test.YtmbmflhcimkjpaaSDevA
import Derived.Test.YtmbmflhcimkjpaaMapP
import Derived.Test.YtmbmflhcimkjpaaIn
import Derived.Test.YtmbmflhcimkjpaaKeyP
set_option linter.unusedVariables false
set_option linter.unusedSimpArgs false
namespace Go.Proofs.Ytmbmflhcimkjpaa
open Go.RowKit Sp Go.Sort
namespace Sp
def putB (n : Nat) (x : PutR) : Bool := inB x.sec 0 ((n : Int) - 1) && decide ((x.text.size : Int) ≤ 200)
def secAt (l : List ByteArray) (i : Nat) : Bool := match l[i]? with
  | some x => decide ((x.size : Int) ≤ 200)
  | none => false
def putAt (n : Nat) (l : List PutR) (i : Nat) : Bool := match l[i]? with
  | some x => putB n x
  | none => false
def devHead (d : DevR) : Bool := inB d.sectors.length 1 16 && decide ((d.cached.length : Int) ≤ 20) && inB d.writes 0 1000000
def devB (d : DevR) : Bool := devHead d && (allIx d.sectors.length (secAt d.sectors) && allIx d.cached.length (putAt d.sectors.length d.cached))
theorem secAt_in {l : List ByteArray} {k : Nat} (h : k < l.length) : secAt l k = decide ((l[k].size : Int) ≤ 200) := by simp [secAt, h]
theorem putAt_in {n : Nat} {l : List PutR} {k : Nat} (h : k < l.length) : putAt n l k = putB n l[k] := by simp [putAt, h]
theorem devB_head {d : DevR} (h : devHead d = false) : devB d = false := by simp [devB, h]
theorem devB_sec {d : DevR} {k : Nat} (hk : k < d.sectors.length) (h : (200 : Int) < d.sectors[k].size) : devB d = false := by
  unfold devB; rw [allIx_false hk ((secAt_in hk).trans (decide_eq_false (by omega))), Bool.false_and, Bool.and_false]
theorem devB_put {d : DevR} {k : Nat} (hk : k < d.cached.length) (h : putB d.sectors.length d.cached[k] = false) : devB d = false := by
  unfold devB; rw [allIx_false hk ((putAt_in hk).trans h), Bool.and_false, Bool.and_false]
theorem devB_all {d : DevR} (hh : devHead d = true) (h : AllTo (secAt d.sectors) d.sectors.length) (h' : AllTo (putAt d.sectors.length d.cached) d.cached.length) : devB d = true := by
  unfold devB; rw [allIx_true h, allIx_true h', hh]; rfl
end Sp

set_option maxRecDepth 100000 in
set_option maxHeartbeats 1600000 in
theorem specDevOk (v : Value) (d : DevR) (w : World) (h : IsDev w v d) (hl0 : (d.sectors.length : Int) ≤ 1048576) (hl1 : (d.cached.length : Int) ≤ 1048576) :
    Calls Try.prog 29 #[v] w fun e w' => e = .returned (.bool (devB d)) ∧ Below w.heap.size w w' := by
  obtain ⟨s0, s1, rfl, h0, h1⟩ := h
  obtain ⟨ao, cap, rfl, hlc, hcm, hsh⟩ := h0.shape
  obtain ⟨bo, cbp, rfl, hlc1, hcm1, hsh1⟩ := h1.shape
  obtain ⟨ls, lc, writes⟩ := d
  simp only at *
  by_cases g0 : inB ls.length 1 16 = true
  · by_cases g1 : (lc.length : Int) ≤ 20
    · by_cases g2 : inB writes 0 1000000 = true
      · have hh : devHead ⟨ls, lc, writes⟩ = true := by simp [devHead, g0, g1, g2]
        have hg1 : (1 : Int) ≤ ls.length := by simp [inB] at g0; omega
        clear h0 h1
        go_enter Try.func29, Try.ntmps29
        go_wp2_with (first | (go_at_call 107; refine (l1In_any _ _ _ _).mono ?_; rintro e w' ⟨rfl, rfl⟩; first | rw [g0] | rw [g2]))
        go_loop [3] (fun i => ∃ k : Nat, (k : Int) ≤ ls.length ∧ i = .int .i64 k ∧ AllTo (secAt ls) k) (fun i => ls.length - (intOf i).toNat)
        case atStart => exact ⟨0, by omega, rfl, AllTo.zero _⟩
        case round =>
          obtain ⟨k, hk, rfl, hall⟩ := hrel
          by_cases hlt : (k : Int) < ls.length
          · have hltn : k < ls.length := by omega
            obtain ⟨b, off, rfl, hb, hc⟩ := hsh (by omega)
            have c0 : (w.alloc (.cells #[.slice (some ⟨b, off, none⟩) ls.length cap, .slice bo lc.length cbp, .int .i64 writes] 52)).cell? ⟨b, off + k, none⟩ = some (.string ls[k]) := by rw [World.cell?_alloc_past _ _ _ hb]; exact str_cell hc k hltn
            by_cases hz : (200 : Int) < ls[k].size
            · have HR := Lib.hid (devB_sec (d := ⟨ls, lc, writes⟩) hltn hz)
              clear hall hsh hsh1 hc
              go_wp2
              go_ret
              exact ⟨by rw [HR.out]; rfl, (Below.refl _ _).alloc (Nat.le_refl _) _⟩
            · have hall2 := hall.step ((secAt_in hltn).trans (decide_eq_true (by omega)))
              clear hall hsh hsh1 hc
              go_wp2
              go_round
              case rel => exact ⟨k + 1, by omega, by go_num, hall2⟩
              case measure => simp [intOf]; omega
          · obtain rfl : k = ls.length := by omega
            have HALL := Lib.hid hall
            clear hall
            go_wp2
            go_loopw [4] (fun i wr => ∃ k : Nat, (k : Int) ≤ lc.length ∧ i = .int .i64 k ∧ AllTo (putAt ls.length lc) k ∧ Below w.heap.size w wr ∧ w.heap.size < wr.heap.size ∧ wr.cell? ⟨w.heap.size, 0, none⟩ = some (.slice ao ls.length cap) ∧ wr.cell? ⟨w.heap.size, 1, none⟩ = some (.slice bo lc.length cbp)) (fun i _ => lc.length - (intOf i).toNat)
            case atStart => exact ⟨0, by omega, rfl, AllTo.zero _, (Below.refl _ _).alloc (Nat.le_refl _) _, by simp, by simp [go_sem], by simp [go_sem]⟩
            case round =>
              obtain ⟨k, hk, rfl, hall, hbl, hsz, hq0, hq1⟩ := hrel
              by_cases hlt : (k : Int) < lc.length
              · have hltn : k < lc.length := by omega
                obtain ⟨b, off, rfl, hb, hc⟩ := hsh1 (by omega)
                have c0 : wr.cell? ⟨b, off + k * 2, none⟩ = some (.int .i64 lc[k].sec) := (hbl.cell (by exact hb)).trans (hc k hltn 0 _ rfl)
                have c1 : wr.cell? ⟨b, off + k * 2 + 1, none⟩ = some (.string lc[k].text) := (hbl.cell (by exact hb)).trans (hc k hltn 1 _ rfl)
                have x0 : (wr.alloc (.cells #[.int .i64 lc[k].sec, .string lc[k].text] 61)).cell? ⟨w.heap.size, 0, none⟩ = some (.slice ao ls.length cap) := by rw [World.cell?_alloc_past _ _ _ hsz]; exact hq0
                have x1 : (wr.alloc (.cells #[.int .i64 lc[k].sec, .string lc[k].text] 61)).cell? ⟨w.heap.size, 1, none⟩ = some (.slice (some ⟨b, off, none⟩) lc.length cbp) := by rw [World.cell?_alloc_past _ _ _ hsz]; exact hq1
                have hs2 : w.heap.size < (wr.alloc (.cells #[.int .i64 lc[k].sec, .string lc[k].text] 61)).heap.size := by simp; omega
                by_cases hi : inB lc[k].sec 0 ((ls.length : Int) - 1) = true
                · have hlo : (0 : Int) ≤ lc[k].sec := by simp [inB] at hi; omega
                  have hhi : lc[k].sec < ls.length := by simp [inB] at hi; omega
                  by_cases hz : (200 : Int) < lc[k].text.size
                  · have HR := Lib.hid (devB_put (d := ⟨ls, lc, writes⟩) hltn (by simp [putB, hi]; omega))
                    clear hall hsh hsh1 hc
                    go_wp2
                    go_ret
                    exact ⟨by rw [HR.out]; rfl, hbl.alloc hbl.size _⟩
                  · have hall2 := hall.step ((putAt_in hltn).trans (by simp [putB, hi]; omega))
                    clear hall hsh hsh1 hc
                    go_wp2
                    go_roundw
                    case rel => exact ⟨k + 1, by omega, by go_num, hall2, hbl.alloc hbl.size _, hs2, x0, x1⟩
                    case measure => simp [intOf]; omega
                · have hi' : inB lc[k].sec 0 ((ls.length : Int) - 1) = false := by simpa using hi
                  have HR := Lib.hid (devB_put (d := ⟨ls, lc, writes⟩) hltn (by simp [putB, hi']))
                  by_cases hlo : lc[k].sec < 0
                  · clear hall hsh hsh1 hc hi
                    go_wp2
                    go_ret
                    exact ⟨by rw [HR.out]; rfl, hbl.alloc hbl.size _⟩
                  · have hhi : (ls.length : Int) ≤ lc[k].sec := by simp [inB] at hi; omega
                    clear hall hsh hsh1 hc hi
                    go_wp2
                    go_ret
                    exact ⟨by rw [HR.out]; rfl, hbl.alloc hbl.size _⟩
              · obtain rfl : k = lc.length := by omega
                have HR := Lib.hid (devB_all (d := ⟨ls, lc, writes⟩) hh HALL.out hall)
                clear hall hsh hsh1
                go_wp2
                go_ret
                exact ⟨by rw [HR.out]; rfl, hbl⟩
      · have g2' : inB writes 0 1000000 = false := by simpa using g2
        have HR := Lib.hid (devB_head (d := ⟨ls, lc, writes⟩) (by simp [devHead, g2']))
        clear hsh hsh1 h0 h1
        go_enter Try.func29, Try.ntmps29
        go_wp2_with (first | (go_at_call 107; refine (l1In_any _ _ _ _).mono ?_; rintro e w' ⟨rfl, rfl⟩; first | rw [g0] | rw [g2']))
        go_ret
        exact ⟨by rw [HR.out]; rfl, (Below.refl _ _).alloc (Nat.le_refl _) _⟩
    · have HR := Lib.hid (devB_head (d := ⟨ls, lc, writes⟩) (by simp [devHead, g1]))
      clear hsh hsh1 h0 h1
      go_enter Try.func29, Try.ntmps29
      go_wp2_with (go_at_call 107; refine (l1In_any _ _ _ _).mono ?_; rintro e w' ⟨rfl, rfl⟩; rw [g0])
      go_ret
      exact ⟨by rw [HR.out]; rfl, (Below.refl _ _).alloc (Nat.le_refl _) _⟩
  · have g0' : inB ls.length 1 16 = false := by simpa using g0
    have HR := Lib.hid (devB_head (d := ⟨ls, lc, writes⟩) (by simp [devHead, g0']))
    clear hsh hsh1 h0 h1
    go_enter Try.func29, Try.ntmps29
    go_wp2_with (go_at_call 107; refine (l1In_any _ _ _ _).mono ?_; rintro e w' ⟨rfl, rfl⟩; rw [g0'])
    go_ret
    exact ⟨by rw [HR.out]; rfl, (Below.refl _ _).alloc (Nat.le_refl _) _⟩

set_option maxRecDepth 100000 in
set_option maxHeartbeats 1600000 in
theorem implDevOk (v : Value) (d : DevR) (w : World) (h : IsDev w v d) (hl0 : (d.sectors.length : Int) ≤ 1048576) (hl1 : (d.cached.length : Int) ≤ 1048576) :
    Calls Try.prog 111 #[v] w fun e w' => e = .returned (.bool (devB d)) ∧ Below w.heap.size w w' := by
  obtain ⟨s0, s1, rfl, h0, h1⟩ := h
  obtain ⟨ao, cap, rfl, hlc, hcm, hsh⟩ := h0.shape
  obtain ⟨bo, cbp, rfl, hlc1, hcm1, hsh1⟩ := h1.shape
  obtain ⟨ls, lc, writes⟩ := d
  simp only at *
  by_cases g0 : inB ls.length 1 16 = true
  · by_cases g1 : (lc.length : Int) ≤ 20
    · by_cases g2 : inB writes 0 1000000 = true
      · have hh : devHead ⟨ls, lc, writes⟩ = true := by simp [devHead, g0, g1, g2]
        have hg1 : (1 : Int) ≤ ls.length := by simp [inB] at g0; omega
        clear h0 h1
        go_enter Try.func111, Try.ntmps111
        go_wp2_with (first | (go_at_call 105; refine (inRange_any _ _ _ _).mono ?_; rintro e w' ⟨rfl, rfl⟩; first | rw [g0] | rw [g2]) | (go_at_call 172; refine (isNumber_any _ _).mono ?_; rintro e w' ⟨rfl, rfl⟩; rw [g2]))
        go_loop [27] (fun i => ∃ k : Nat, (k : Int) ≤ ls.length ∧ i = .int .i64 k ∧ AllTo (secAt ls) k) (fun i => ls.length - (intOf i).toNat)
        case atStart => exact ⟨0, by omega, rfl, AllTo.zero _⟩
        case round =>
          obtain ⟨k, hk, rfl, hall⟩ := hrel
          by_cases hlt : (k : Int) < ls.length
          · have hltn : k < ls.length := by omega
            obtain ⟨b, off, rfl, hb, hc⟩ := hsh (by omega)
            have c0 : (w.alloc (.cells #[.slice (some ⟨b, off, none⟩) ls.length cap, .slice bo lc.length cbp, .int .i64 writes] 52)).cell? ⟨b, off + k, none⟩ = some (.string ls[k]) := by rw [World.cell?_alloc_past _ _ _ hb]; exact str_cell hc k hltn
            by_cases hz : (200 : Int) < ls[k].size
            · have HR := Lib.hid (devB_sec (d := ⟨ls, lc, writes⟩) hltn hz)
              clear hall hsh hsh1 hc
              go_wp2
              go_ret
              exact ⟨by rw [HR.out]; rfl, (Below.refl _ _).alloc (Nat.le_refl _) _⟩
            · have hall2 := hall.step ((secAt_in hltn).trans (decide_eq_true (by omega)))
              clear hall hsh hsh1 hc
              go_wp2
              go_round
              case rel => exact ⟨k + 1, by omega, by go_num, hall2⟩
              case measure => simp [intOf]; omega
          · obtain rfl : k = ls.length := by omega
            have HALL := Lib.hid hall
            clear hall
            go_wp2
            go_loopw [38] (fun i wr => ∃ k : Nat, (k : Int) ≤ lc.length ∧ i = .int .i64 k ∧ AllTo (putAt ls.length lc) k ∧ Below w.heap.size w wr ∧ w.heap.size < wr.heap.size ∧ wr.cell? ⟨w.heap.size, 0, none⟩ = some (.slice ao ls.length cap) ∧ wr.cell? ⟨w.heap.size, 1, none⟩ = some (.slice bo lc.length cbp)) (fun i _ => lc.length - (intOf i).toNat)
            case atStart => exact ⟨0, by omega, rfl, AllTo.zero _, (Below.refl _ _).alloc (Nat.le_refl _) _, by simp, by simp [go_sem], by simp [go_sem]⟩
            case round =>
              obtain ⟨k, hk, rfl, hall, hbl, hsz, hq0, hq1⟩ := hrel
              by_cases hlt : (k : Int) < lc.length
              · have hltn : k < lc.length := by omega
                obtain ⟨b, off, rfl, hb, hc⟩ := hsh1 (by omega)
                have c0 : wr.cell? ⟨b, off + k * 2, none⟩ = some (.int .i64 lc[k].sec) := (hbl.cell (by exact hb)).trans (hc k hltn 0 _ rfl)
                have c1 : wr.cell? ⟨b, off + k * 2 + 1, none⟩ = some (.string lc[k].text) := (hbl.cell (by exact hb)).trans (hc k hltn 1 _ rfl)
                have x0 : (wr.alloc (.cells #[.int .i64 lc[k].sec, .string lc[k].text] 61)).cell? ⟨w.heap.size, 0, none⟩ = some (.slice ao ls.length cap) := by rw [World.cell?_alloc_past _ _ _ hsz]; exact hq0
                have x1 : (wr.alloc (.cells #[.int .i64 lc[k].sec, .string lc[k].text] 61)).cell? ⟨w.heap.size, 1, none⟩ = some (.slice (some ⟨b, off, none⟩) lc.length cbp) := by rw [World.cell?_alloc_past _ _ _ hsz]; exact hq1
                have hs2 : w.heap.size < (wr.alloc (.cells #[.int .i64 lc[k].sec, .string lc[k].text] 61)).heap.size := by simp; omega
                by_cases hi : inB lc[k].sec 0 ((ls.length : Int) - 1) = true
                · have hlo : (0 : Int) ≤ lc[k].sec := by simp [inB] at hi; omega
                  have hhi : lc[k].sec < ls.length := by simp [inB] at hi; omega
                  by_cases hz : (200 : Int) < lc[k].text.size
                  · have HR := Lib.hid (devB_put (d := ⟨ls, lc, writes⟩) hltn (by simp [putB, hi]; omega))
                    clear hall hsh hsh1 hc
                    go_wp2_with (go_at_call 105; refine (inRange_any _ _ _ _).mono ?_; rintro e w' ⟨rfl, rfl⟩; rw [hi])
                    go_ret
                    exact ⟨by rw [HR.out]; rfl, hbl.alloc hbl.size _⟩
                  · have hall2 := hall.step ((putAt_in hltn).trans (by simp [putB, hi]; omega))
                    clear hall hsh hsh1 hc
                    go_wp2_with (go_at_call 105; refine (inRange_any _ _ _ _).mono ?_; rintro e w' ⟨rfl, rfl⟩; rw [hi])
                    go_roundw
                    case rel => exact ⟨k + 1, by omega, by go_num, hall2, hbl.alloc hbl.size _, hs2, x0, x1⟩
                    case measure => simp [intOf]; omega
                · have hi' : inB lc[k].sec 0 ((ls.length : Int) - 1) = false := by simpa using hi
                  have HR := Lib.hid (devB_put (d := ⟨ls, lc, writes⟩) hltn (by simp [putB, hi']))
                  by_cases hlo : lc[k].sec < 0
                  · clear hall hsh hsh1 hc hi
                    go_wp2_with (go_at_call 105; refine (inRange_any _ _ _ _).mono ?_; rintro e w' ⟨rfl, rfl⟩; rw [hi'])
                    go_ret
                    exact ⟨by rw [HR.out]; rfl, hbl.alloc hbl.size _⟩
                  · have hhi : (ls.length : Int) ≤ lc[k].sec := by simp [inB] at hi; omega
                    clear hall hsh hsh1 hc hi
                    go_wp2_with (go_at_call 105; refine (inRange_any _ _ _ _).mono ?_; rintro e w' ⟨rfl, rfl⟩; rw [hi'])
                    go_ret
                    exact ⟨by rw [HR.out]; rfl, hbl.alloc hbl.size _⟩
              · obtain rfl : k = lc.length := by omega
                have HR := Lib.hid (devB_all (d := ⟨ls, lc, writes⟩) hh HALL.out hall)
                clear hall hsh hsh1
                go_wp2
                go_ret
                exact ⟨by rw [HR.out]; rfl, hbl⟩
      · have g2' : inB writes 0 1000000 = false := by simpa using g2
        have HR := Lib.hid (devB_head (d := ⟨ls, lc, writes⟩) (by simp [devHead, g2']))
        clear hsh hsh1 h0 h1
        go_enter Try.func111, Try.ntmps111
        go_wp2_with (first | (go_at_call 105; refine (inRange_any _ _ _ _).mono ?_; rintro e w' ⟨rfl, rfl⟩; first | rw [g0] | rw [g2']) | (go_at_call 172; refine (isNumber_any _ _).mono ?_; rintro e w' ⟨rfl, rfl⟩; rw [g2']))
        go_ret
        exact ⟨by rw [HR.out]; rfl, (Below.refl _ _).alloc (Nat.le_refl _) _⟩
    · have HR := Lib.hid (devB_head (d := ⟨ls, lc, writes⟩) (by simp [devHead, g1]))
      clear hsh hsh1 h0 h1
      go_enter Try.func111, Try.ntmps111
      go_wp2_with (go_at_call 105; refine (inRange_any _ _ _ _).mono ?_; rintro e w' ⟨rfl, rfl⟩; rw [g0])
      go_ret
      exact ⟨by rw [HR.out]; rfl, (Below.refl _ _).alloc (Nat.le_refl _) _⟩
  · have g0' : inB ls.length 1 16 = false := by simpa using g0
    have HR := Lib.hid (devB_head (d := ⟨ls, lc, writes⟩) (by simp [devHead, g0']))
    clear hsh hsh1 h0 h1
    go_enter Try.func111, Try.ntmps111
    go_wp2_with (go_at_call 105; refine (inRange_any _ _ _ _).mono ?_; rintro e w' ⟨rfl, rfl⟩; rw [g0'])
    go_ret
    exact ⟨by rw [HR.out]; rfl, (Below.refl _ _).alloc (Nat.le_refl _) _⟩
end Go.Proofs.Ytmbmflhcimkjpaa
