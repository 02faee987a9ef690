
/- Walks: what two keys share. -/
import Derived.Test.YtmbmflhcimkjpaaBlkP
import Derived.BigQuiet
import Derived.Lib.Hide
set_option linter.unusedVariables false
set_option linter.unusedSimpArgs false
namespace Go.Proofs.Ytmbmflhcimkjpaa
open Go.RowKit Sp Go.Sort

set_option maxRecDepth 100000 in
set_option maxHeartbeats 800000 in
theorem commonPrefix_any (a b : ByteArray) (w : World) (ha : (a.size : Int) ≤ 1048576) (hb : (b.size : Int) ≤ 1048576) :
    Calls Try.prog 127 #[.string a, .string b] w fun e w' => e = .returned (.int .i64 (comm a.data.toList b.data.toList : Nat)) ∧ Below w.heap.size w w' := by
  go_enter Try.func127, Try.ntmps127
  go_wp2
  go_loopw [5] (fun i wr => ∃ k : Nat, k ≤ a.size ∧ k ≤ b.size ∧ i = .int .i64 k ∧ comm a.data.toList b.data.toList = k + comm (a.data.toList.drop k) (b.data.toList.drop k) ∧ Below w.heap.size w wr) (fun i _ => a.size - (intOf i).toNat)
  case atStart => exact ⟨0, by omega, by omega, rfl, by simp, Below.refl _ _⟩
  case round =>
    obtain ⟨k, hka, hkb, rfl, hc, hbl⟩ := hrel
    have hsa : a.data.toList.length = a.size := by simp
    have hsb : b.data.toList.length = b.size := by simp
    by_cases h1 : k < a.size
    · have q1 : (decide ((k : Int) < (a.size : Int))) = true := decide_eq_true (by omega)
      have g1 : (k : Int) < (a.size : Int) := by omega
      by_cases h2 : k < b.size
      · have q2 : (decide ((k : Int) < (b.size : Int))) = true := decide_eq_true (by omega)
        have g2 : (k : Int) < (b.size : Int) := by omega
        have e1 : a.data.toList[k]'(by simpa using h1) = a[k] := rfl
        have e2 : b.data.toList[k]'(by simpa using h2) = b[k] := rfl
        rcases hq : (((a[k].toNat : Nat) : Int) == ((b[k].toNat : Nat) : Int)) with _ | _
        · have hne : a.data.toList[k]'(by simpa using h1) ≠ b.data.toList[k]'(by simpa using h2) := by
            rw [e1, e2]; intro he; rw [he] at hq; simp at hq
          have hfin : comm a.data.toList b.data.toList = k := by rw [hc, comm_miss (s := a.data.toList) (t := b.data.toList) (by simpa using h1) (by simpa using h2) hne]; rfl
          have HF := Lib.hid hfin
          clear hne e1 e2 hc hfin hsa hsb
          go_wp2
          go_quiet (fail)
          have x3 := below_drewN hbl nq
          generalize wr.drewN nq = W2 at x3 ⊢
          go_wp2
          go_ret
          exact ⟨by rw [HF.out]; rfl, x3⟩
        · have heq : a.data.toList[k]'(by simpa using h1) = b.data.toList[k]'(by simpa using h2) := by
            rw [e1, e2]; simp at hq; exact UInt8.toNat_inj.1 (by omega)
          have HN := Lib.hid (show comm a.data.toList b.data.toList = (k + 1) + comm (a.data.toList.drop (k + 1)) (b.data.toList.drop (k + 1)) from by rw [hc, comm_hit (by simpa using h1) (by simpa using h2) heq]; omega)
          clear heq e1 e2 hc hsa hsb
          go_wp2
          go_quiet (fail)
          have x3 := below_drewN hbl nq
          generalize wr.drewN nq = W2 at x3 ⊢
          go_wp2
          go_roundw
          case rel => exact ⟨k + 1, by omega, by omega, by go_num, HN.out, x3⟩
          case measure => simp [intOf]; omega
      · have q2 : (decide ((k : Int) < (b.size : Int))) = false := decide_eq_false (by omega)
        have HF := Lib.hid (show comm a.data.toList b.data.toList = k from by rw [hc, comm_end2 (by omega)]; rfl)
        clear hc hsa hsb
        go_wp2
        go_quiet (fail)
        have x3 := below_drewN hbl nq
        generalize wr.drewN nq = W2 at x3 ⊢
        go_wp2
        go_ret
        exact ⟨by rw [HF.out]; rfl, x3⟩
    · have q1 : (decide ((k : Int) < (a.size : Int))) = false := decide_eq_false (by omega)
      have HF := Lib.hid (show comm a.data.toList b.data.toList = k from by rw [hc, comm_end1 (by omega)]; rfl)
      clear hc hsa hsb
      go_wp2
      go_quiet (fail)
      have x3 := below_drewN hbl nq
      generalize wr.drewN nq = W2 at x3 ⊢
      go_wp2
      go_ret
      exact ⟨by rw [HF.out]; rfl, x3⟩

set_option maxRecDepth 100000 in
set_option maxHeartbeats 800000 in
theorem l11Shared_any (a b : ByteArray) (w : World) (ha : (a.size : Int) ≤ 1048576) (hb : (b.size : Int) ≤ 1048576) :
    Calls Try.prog 133 #[.string a, .string b] w fun e w' => e = .returned (.int .i64 (comm a.data.toList b.data.toList : Nat)) ∧ Below w.heap.size w w' := by
  go_enter Try.func133, Try.ntmps133
  go_wp2
  go_loopw [5] (fun i wr => ∃ k : Nat, k ≤ a.size ∧ k ≤ b.size ∧ i = .int .i64 k ∧ comm a.data.toList b.data.toList = k + comm (a.data.toList.drop k) (b.data.toList.drop k) ∧ Below w.heap.size w wr) (fun i _ => a.size - (intOf i).toNat)
  case atStart => exact ⟨0, by omega, by omega, rfl, by simp, Below.refl _ _⟩
  case round =>
    obtain ⟨k, hka, hkb, rfl, hc, hbl⟩ := hrel
    have hsa : a.data.toList.length = a.size := by simp
    have hsb : b.data.toList.length = b.size := by simp
    by_cases h1 : k < a.size
    · have q1 : (decide ((k : Int) < (a.size : Int))) = true := decide_eq_true (by omega)
      have g1 : (k : Int) < (a.size : Int) := by omega
      by_cases h2 : k < b.size
      · have q2 : (decide ((k : Int) < (b.size : Int))) = true := decide_eq_true (by omega)
        have g2 : (k : Int) < (b.size : Int) := by omega
        have e1 : a.data.toList[k]'(by simpa using h1) = a[k] := rfl
        have e2 : b.data.toList[k]'(by simpa using h2) = b[k] := rfl
        rcases hq : (((a[k].toNat : Nat) : Int) == ((b[k].toNat : Nat) : Int)) with _ | _
        · have hne : a.data.toList[k]'(by simpa using h1) ≠ b.data.toList[k]'(by simpa using h2) := by
            rw [e1, e2]; intro he; rw [he] at hq; simp at hq
          have hfin : comm a.data.toList b.data.toList = k := by rw [hc, comm_miss (s := a.data.toList) (t := b.data.toList) (by simpa using h1) (by simpa using h2) hne]; rfl
          have HF := Lib.hid hfin
          clear hne e1 e2 hc hfin hsa hsb
          go_wp2
          go_quiet (fail)
          have x3 := below_drewN hbl nq
          generalize wr.drewN nq = W2 at x3 ⊢
          go_wp2
          go_ret
          exact ⟨by rw [HF.out]; rfl, x3⟩
        · have heq : a.data.toList[k]'(by simpa using h1) = b.data.toList[k]'(by simpa using h2) := by
            rw [e1, e2]; simp at hq; exact UInt8.toNat_inj.1 (by omega)
          have HN := Lib.hid (show comm a.data.toList b.data.toList = (k + 1) + comm (a.data.toList.drop (k + 1)) (b.data.toList.drop (k + 1)) from by rw [hc, comm_hit (by simpa using h1) (by simpa using h2) heq]; omega)
          clear heq e1 e2 hc hsa hsb
          go_wp2
          go_quiet (fail)
          have x3 := below_drewN hbl nq
          generalize wr.drewN nq = W2 at x3 ⊢
          go_wp2
          go_roundw
          case rel => exact ⟨k + 1, by omega, by omega, by go_num, HN.out, x3⟩
          case measure => simp [intOf]; omega
      · have q2 : (decide ((k : Int) < (b.size : Int))) = false := decide_eq_false (by omega)
        have HF := Lib.hid (show comm a.data.toList b.data.toList = k from by rw [hc, comm_end2 (by omega)]; rfl)
        clear hc hsa hsb
        go_wp2
        go_quiet (fail)
        have x3 := below_drewN hbl nq
        generalize wr.drewN nq = W2 at x3 ⊢
        go_wp2
        go_ret
        exact ⟨by rw [HF.out]; rfl, x3⟩
    · have q1 : (decide ((k : Int) < (a.size : Int))) = false := decide_eq_false (by omega)
      have HF := Lib.hid (show comm a.data.toList b.data.toList = k from by rw [hc, comm_end1 (by omega)]; rfl)
      clear hc hsa hsb
      go_wp2
      go_quiet (fail)
      have x3 := below_drewN hbl nq
      generalize wr.drewN nq = W2 at x3 ⊢
      go_wp2
      go_ret
      exact ⟨by rw [HF.out]; rfl, x3⟩
end Go.Proofs.Ytmbmflhcimkjpaa
