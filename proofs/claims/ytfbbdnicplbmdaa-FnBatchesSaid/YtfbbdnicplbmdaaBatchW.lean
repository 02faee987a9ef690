
/- Walks: BatchOk of the reference and of the program. -/
import Derived.Test.YtfbbdnicplbmdaaMapW
set_option linter.unusedVariables false
set_option linter.unusedSimpArgs false
namespace Go.Proofs.Ytfbbdnicplbmdaa
open Go.RowKit Sp Go.Sort
namespace Sp
def opR (x : OpR) : Bool := opB x.key x.del x.val
def opAt (l : List OpR) (i : Nat) : Bool := match l[i]? with
  | some x => opR x
  | none => false
def batchB (l : List OpR) : Bool := inB l.length 1 6 && allIx l.length (opAt l)
theorem opAt_in {l : List OpR} {k : Nat} (h : k < l.length) : opAt l k = opR l[k] := by simp [opAt, h]
theorem batchB_out {l : List OpR} (h : inB l.length 1 6 = false) : batchB l = false := by simp [batchB, h]
theorem batchB_bad {l : List OpR} {k : Nat} (hk : k < l.length) (h : opR l[k] = false) : batchB l = false := by
  unfold batchB; rw [allIx_false hk ((opAt_in hk).trans h), Bool.and_false]
theorem batchB_all {l : List OpR} (h : AllTo (opAt l) l.length) : batchB l = inB l.length 1 6 := by
  unfold batchB; rw [allIx_true h, Bool.and_true]
theorem opR_eq (x : OpR) : opR x = (keyB x.key && valOk x.del x.val) := by unfold opR opB valOk; rw [Bool.and_assoc]
end Sp

set_option maxRecDepth 100000 in
set_option maxHeartbeats 800000 in
theorem specBatchOk (v : Value) (l : List OpR) (w : World) (h : SlT OpR.cells 3 w v l) (hl : (l.length : Int) ≤ 1048576) :
    Calls Try.prog 34 #[v] w fun e w' => e = .returned (.bool (batchB l)) ∧ Below w.heap.size w w' := by
  obtain ⟨ao, cap, rfl, hlc, hcm, hsh⟩ := h.shape
  by_cases hin : inB l.length 1 6 = true
  · go_enter Try.func34, Try.ntmps34
    go_wp2_with (go_at_call 104; refine (l1In_any _ _ _ _).mono ?_; rintro e w' ⟨rfl, rfl⟩; rw [hin])
    go_loopw [3] (fun i wr => ∃ k : Nat, (k : Int) ≤ l.length ∧ i = .int .i64 k ∧ AllTo (opAt l) k ∧ Below w.heap.size w wr) (fun i _ => l.length - (intOf i).toNat)
    case atStart => exact ⟨0, by omega, rfl, AllTo.zero _, Below.refl _ _⟩
    case round =>
      obtain ⟨k, hk, rfl, hall, hbl⟩ := hrel
      by_cases hlt : (k : Int) < l.length
      · have hltn : k < l.length := by omega
        obtain ⟨b, off, rfl, hb, hc⟩ := hsh (by omega)
        have hc0 : wr.cell? ⟨b, off + k * 3, none⟩ = some (.string l[k].key) := (hbl.cell (by exact hb)).trans (hc k hltn 0 _ rfl)
        have hc1 : wr.cell? ⟨b, off + k * 3 + 1, none⟩ = some (.bool l[k].del) := (hbl.cell (by exact hb)).trans (hc k hltn 1 _ rfl)
        have hc2 : wr.cell? ⟨b, off + k * 3 + 2, none⟩ = some (.string l[k].val) := (hbl.cell (by exact hb)).trans (hc k hltn 2 _ rfl)
        have hop : opB l[k].key l[k].del l[k].val = opR l[k] := rfl
        by_cases hok : opR l[k] = true
        · have hall2 := hall.step ((opAt_in hltn).trans hok)
          rw [hok] at hop
          clear hok hall hsh h hc
          go_wp2_with (go_at_call 99; refine (l7Op_any _ _ _ _).mono ?_; rintro e w2 ⟨rfl, hb2⟩; rw [hop]; have hb3 := hbl.trans (hb2.mono hbl.size))
          go_roundw
          case rel => exact ⟨k + 1, by omega, by go_num, hall2, hb3⟩
          case measure => simp [intOf]; omega
        · have hok' : opR l[k] = false := by simpa using hok
          rw [hok'] at hop
          have HR := Lib.hid (batchB_bad hltn hok')
          clear hok hok' hall hsh h hc
          go_wp2_with (go_at_call 99; refine (l7Op_any _ _ _ _).mono ?_; rintro e w2 ⟨rfl, hb2⟩; rw [hop]; have hb3 := hbl.trans (hb2.mono hbl.size))
          go_ret
          exact ⟨by rw [HR.out]; rfl, hb3⟩
      · obtain rfl : k = l.length := by omega
        have HR := Lib.hid ((batchB_all hall).trans hin)
        clear hall hsh h
        go_wp2
        go_ret
        exact ⟨by rw [HR.out]; rfl, hbl⟩
  · have hin' : inB l.length 1 6 = false := by simpa using hin
    have HR := Lib.hid (batchB_out hin')
    clear hsh h
    go_enter Try.func34, Try.ntmps34
    go_wp2_with (go_at_call 104; refine (l1In_any _ _ _ _).mono ?_; rintro e w' ⟨rfl, rfl⟩; rw [hin'])
    go_ret
    exact ⟨by rw [HR.out]; rfl, Below.refl _ _⟩

set_option maxRecDepth 100000 in
set_option maxHeartbeats 800000 in
theorem implBatchOk (v : Value) (l : List OpR) (w : World) (h : SlT OpR.cells 3 w v l) (hl : (l.length : Int) ≤ 1048576) :
    Calls Try.prog 95 #[v] w fun e w' => e = .returned (.bool (batchB l)) ∧ Below w.heap.size w w' := by
  obtain ⟨ao, cap, rfl, hlc, hcm, hsh⟩ := h.shape
  go_enter Try.func95, Try.ntmps95
  go_wp2
  go_loopw [7] (fun i wr => ∃ k : Nat, (k : Int) ≤ l.length ∧ i = .int .i64 k ∧ AllTo (opAt l) k ∧ Below w.heap.size w wr) (fun i _ => l.length - (intOf i).toNat)
  case atStart => exact ⟨0, by omega, rfl, AllTo.zero _, Below.refl _ _⟩
  case round =>
    obtain ⟨k, hk, rfl, hall, hbl⟩ := hrel
    by_cases hlt : (k : Int) < l.length
    · have hltn : k < l.length := by omega
      obtain ⟨b, off, rfl, hb, hc⟩ := hsh (by omega)
      have hc0 : wr.cell? ⟨b, off + k * 3, none⟩ = some (.string l[k].key) := (hbl.cell (by exact hb)).trans (hc k hltn 0 _ rfl)
      have hc1 : wr.cell? ⟨b, off + k * 3 + 1, none⟩ = some (.bool l[k].del) := (hbl.cell (by exact hb)).trans (hc k hltn 1 _ rfl)
      have hc2 : wr.cell? ⟨b, off + k * 3 + 2, none⟩ = some (.string l[k].val) := (hbl.cell (by exact hb)).trans (hc k hltn 2 _ rfl)
      have hop := opR_eq l[k]
      by_cases hok : opR l[k] = true
      · have hall2 := hall.step ((opAt_in hltn).trans hok)
        rw [hok] at hop
        have hk1 : keyB l[k].key = true := by revert hop; cases keyB l[k].key <;> simp
        have hk2 : valOk l[k].del l[k].val = true := by revert hop; cases valOk l[k].del l[k].val <;> simp
        clear hok hall hsh h hc hop
        go_wp2_with (first | (go_at_call 153; refine (isKey_any _ _).mono ?_; rintro e w2 ⟨rfl, rfl⟩; rw [hk1]) | (go_at_call 154; refine (isVal_any _ _ _).mono ?_; rintro e w2 ⟨rfl, rfl⟩; rw [hk2]))
        go_roundw
        case rel => exact ⟨k + 1, by omega, by go_num, hall2, hbl.alloc hbl.size _⟩
        case measure => simp [intOf]; omega
      · have hok' : opR l[k] = false := by simpa using hok
        rw [hok'] at hop
        have HR := Lib.hid (batchB_bad hltn hok')
        clear hok hok' hall hsh h hc
        by_cases hk1 : keyB l[k].key = true
        · have hk2 : valOk l[k].del l[k].val = false := by rw [hk1] at hop; simpa using hop.symm
          clear hop
          go_wp2_with (first | (go_at_call 153; refine (isKey_any _ _).mono ?_; rintro e w2 ⟨rfl, rfl⟩; rw [hk1]) | (go_at_call 154; refine (isVal_any _ _ _).mono ?_; rintro e w2 ⟨rfl, rfl⟩; rw [hk2]))
          go_ret
          exact ⟨by rw [HR.out]; rfl, hbl.alloc hbl.size _⟩
        · have hk1' : keyB l[k].key = false := by simpa using hk1
          clear hop
          go_wp2_with (first | (go_at_call 153; refine (isKey_any _ _).mono ?_; rintro e w2 ⟨rfl, rfl⟩; rw [hk1']))
          go_ret
          exact ⟨by rw [HR.out]; rfl, hbl.alloc hbl.size _⟩
    · obtain rfl : k = l.length := by omega
      have HR := Lib.hid (batchB_all hall)
      clear hall hsh h
      go_wp2_with (go_at_call 108; refine (inRange_any _ _ _ _).mono ?_; rintro e w' ⟨rfl, rfl⟩)
      go_ret
      exact ⟨by rw [HR.out]; rfl, hbl⟩
end Go.Proofs.Ytfbbdnicplbmdaa
