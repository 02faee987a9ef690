/- Walks: findKey of the program: slices.BinarySearchFunc at KV with its closure. -/
import Derived.Test.YtajjefpopjdfaaaApyP
import Derived.Test.YtajjefpopjdfaaaShelf
import Derived.Test.YtajjefpopjdfaaaRow
import Derived.Deep.DeepCutAuto
import Derived.BigQuiet
import Derived.Lib.QuietBelow
import Derived.Lib.Hide
set_option linter.unusedVariables false
set_option linter.unusedSimpArgs false
namespace Go.Proofs.Ytajjefpopjdfaaa
open Go.RowKit Sp Go.Sort
namespace Sp
theorem cmpB_lt : ∀ a b : List UInt8, (Lib.compareBytes a b < 0) ↔ a < b
  | [], [] => by simp [Lib.compareBytes]
  | [], _ :: _ => by simp [Lib.compareBytes]
  | _ :: _, [] => by simp [Lib.compareBytes]
  | x :: a, y :: b => by
    rw [List.cons_lt_cons_iff, ← cmpB_lt a b]
    have e : Lib.compareBytes (x :: a) (y :: b) = if x < y then -1 else if y < x then 1 else Lib.compareBytes a b := rfl
    rw [e]
    by_cases h1 : x < y
    · simp [h1]
    · by_cases h2 : y < x
      · have : x ≠ y := by rintro rfl; exact h1 h2
        simp [h1, h2, this]
      · have : x = y := UInt8.le_antisymm (UInt8.not_lt.1 h2) (UInt8.not_lt.1 h1)
        simp [this]
theorem cmpB_zero : ∀ a b : List UInt8, (Lib.compareBytes a b = 0) ↔ a = b
  | [], [] => by simp [Lib.compareBytes]
  | [], _ :: _ => by simp [Lib.compareBytes]
  | _ :: _, [] => by simp [Lib.compareBytes]
  | x :: a, y :: b => by
    rw [List.cons.injEq, ← cmpB_zero a b]
    have e : Lib.compareBytes (x :: a) (y :: b) = if x < y then -1 else if y < x then 1 else Lib.compareBytes a b := rfl
    rw [e]
    by_cases h1 : x < y
    · have : x ≠ y := by rintro rfl; exact UInt8.lt_irrefl _ h1
      simp [h1, this]
    · by_cases h2 : y < x
      · have : x ≠ y := by rintro rfl; exact h1 h2
        simp [h1, h2, this]
      · have : x = y := UInt8.le_antisymm (UInt8.not_lt.1 h2) (UInt8.not_lt.1 h1)
        simp [this]
def cmpK (a b : ByteArray) : Int := Lib.compareBytes a.data.toList b.data.toList
theorem cmpK_lt (a b : ByteArray) : decide (cmpK a b < 0) = less a b := by
  unfold less cmpK
  rw [bytesLess_eq, toList_data, toList_data]
  exact decide_eq_decide.2 (cmpB_lt _ _)
theorem cmpK_zero (a b : ByteArray) : (cmpK a b == 0) = (a.toList == b.toList) := by
  unfold cmpK
  rw [toList_data, toList_data, Bool.eq_iff_iff, beq_iff_eq, beq_iff_eq]
  exact cmpB_zero _ _
theorem halfK_lo {l : List KV} {e : ByteArray} {i m : Nat} (hm : mapB l = true) (h : m < l.length) (ha : less l[m].key e = true) : ∀ t (ht : t < l.length), t < m + 1 → less l[t].key e = true := by
  intro t ht htm
  by_cases h2 : t = m
  · subst h2; exact ha
  · exact less_trans (map_mono hm (by omega) h) ha
theorem halfK_hi {l : List KV} {e : ByteArray} {m : Nat} (hm : mapB l = true) (h : m < l.length) (ha : less l[m].key e = false) : ∀ t (ht : t < l.length), m ≤ t → less l[t].key e = false := by
  intro t ht htm
  by_cases h2 : m = t
  · subst h2; exact ha
  · rcases hx : less l[t].key e with _ | _
    · rfl
    · have := less_trans (map_mono hm (show m < t by omega) ht) hx
      rw [ha] at this; cases this
end Sp

set_option maxRecDepth 100000 in
set_option maxHeartbeats 800000 in
theorem keyCmp_any (a b e : ByteArray) (w : World) :
    Calls Try.prog 102 #[.agg #[.string a, .string b], .string e] w fun r w' => r = .returned (.int .i64 (cmpK a e)) ∧ Below w.heap.size w w' := by
  go_enter Try.func102, Try.ntmps102
  go_wp2_with (go_at_call 103; refine (Try.strings_Compare _ _ _).mono ?_; rintro e w' ⟨rfl, rfl⟩)
  go_ret
  exact ⟨rfl, (Below.refl _ _).alloc (Nat.le_refl _) _⟩

set_option maxRecDepth 100000 in
set_option maxHeartbeats 1600000 in
theorem bsearchK_any (v : Value) (l : List KV) (e : ByteArray) (w : World) (h : SlT KV.cells 2 w v l) (hl : (l.length : Int) ≤ 1048576) (hm : mapB l = true) :
    Calls Try.prog 101 #[v, .string e, .func (.func 102) #[] #[]] w fun r w' => r = .returned (.tuple #[.int .i64 (posK l e : Nat), .bool (hitK l e (posK l e))]) ∧ Below w.heap.size w w' := by
  obtain ⟨ao, cap, rfl, hlc, hcm, hsh⟩ := h.shape
  have HM := Lib.hid hm
  clear hm
  go_enter Try.func101, Try.ntmps101
  go_wp2
  go_loopw [9, 10] (fun s9 s10 wr => ∃ lo hi : Nat, s9 = .int .i64 lo ∧ s10 = .int .i64 hi ∧ lo ≤ hi ∧ hi ≤ l.length ∧ Hid ((∀ i (h : i < l.length), i < lo → less l[i].key e = true) ∧ (∀ i (h : i < l.length), hi ≤ i → less l[i].key e = false)) ∧ Below w.heap.size w wr) (fun s9 s10 _ => (intOf s10).toNat - (intOf s9).toNat)
  case atStart => exact ⟨0, l.length, rfl, rfl, by omega, by omega, Lib.hid ⟨fun i h1 h2 => by omega, fun i h1 h2 => by omega⟩, Below.refl _ _⟩
  case round =>
    obtain ⟨lo, hi, rfl, rfl, hlh, hin, I, hbl⟩ := hrel
    have hcell : ∀ k (hk : k < l.length), ∃ b off, ao = some ⟨b, off, none⟩ ∧ wr.cell? ⟨b, off + k * 2, none⟩ = some (.string l[k].key) ∧ wr.cell? ⟨b, off + k * 2 + 1, none⟩ = some (.string l[k].val) := by
      intro k hk
      obtain ⟨b, off, hb0, hb, hcc⟩ := hsh (by omega)
      exact ⟨b, off, hb0, (hbl.cell (p := ⟨b, off + k * 2, none⟩) hb).trans (hcc k hk 0 _ rfl), (hbl.cell (p := ⟨b, off + k * 2 + 1, none⟩) hb).trans (hcc k hk 1 _ rfl)⟩
    by_cases hlt : lo < hi
    · obtain ⟨m, hmd⟩ : ∃ m, m = (lo + hi) / 2 := ⟨_, rfl⟩
      have hml : m < l.length := by omega
      have hmi : ((lo : Int) + (hi : Int)) / 2 = (m : Int) := by omega
      obtain ⟨b, off, rfl, e0, e1⟩ := hcell m hml
      clear hcell hsh h
      have hcmp := cmpK_lt l[m].key e
      rcases ha : less l[m].key e with _ | _
      · have hneg : ¬ cmpK l[m].key e < 0 := by rw [ha] at hcmp; simpa using hcmp
        have I2 := Lib.hid (show (∀ i (h : i < l.length), i < lo → less l[i].key e = true) ∧ (∀ i (h : i < l.length), m ≤ i → less l[i].key e = false) from ⟨I.out.1, halfK_hi HM.out hml ha⟩)
        have HMI := Lib.hid hmi
        have HMD := Lib.hid hmd
        skip
        clear hcmp ha I hmi hmd
        go_upto_region 5 with fail
        rw [HMI.out]
        go_wp2_with fail
        refine (keyCmp_any _ _ _ _).mono ?_
        rintro r w2 ⟨rfl, b2⟩
        have hb2 := hbl.trans (b2.mono hbl.size)
        clear b2 e0 e1
        go_wp2
        have hmd := HMD.out
        go_roundw

        case rel => exact ⟨lo, m, rfl, by first | rfl | (rw [HMI.out]), by omega, by omega, I2, hb2⟩
        case measure => simp [intOf]; omega
      · have hneg : cmpK l[m].key e < 0 := by rw [ha] at hcmp; simpa using hcmp
        have I2 := Lib.hid (show (∀ i (h : i < l.length), i < m + 1 → less l[i].key e = true) ∧ (∀ i (h : i < l.length), hi ≤ i → less l[i].key e = false) from ⟨halfK_lo (i := lo) HM.out hml ha, I.out.2⟩)
        have HMI := Lib.hid hmi
        have HMD := Lib.hid hmd
        skip
        clear hcmp ha I hmi hmd
        go_upto_region 5 with fail
        rw [HMI.out]
        go_wp2_with fail
        refine (keyCmp_any _ _ _ _).mono ?_
        rintro r w2 ⟨rfl, b2⟩
        have hb2 := hbl.trans (b2.mono hbl.size)
        clear b2 e0 e1
        go_wp2
        have hmd := HMD.out
        go_roundw

        case rel => exact ⟨m + 1, hi, by go_num, rfl, by omega, by omega, I2, hb2⟩
        case measure => simp [intOf]; omega
    · obtain rfl : lo = hi := by omega
      have HP := Lib.hid (show posK l e = lo from posK_eq ⟨hin, I.out.1, I.out.2⟩)
      by_cases hq : lo < l.length
      · obtain ⟨b, off, rfl, e0, e1⟩ := hcell lo hq
        have hhit := hitK_in (k := e) hq
        clear hcell hsh h I
        skip
        have hqi : (lo : Int) < (l.length : Int) := by omega
        have hzz := cmpK_zero l[lo].key e
        rw [← hhit] at hzz
        rcases hz : (cmpK l[lo].key e == 0) with _ | _
        · have HH := Lib.hid (show hitK l e lo = false by rw [← hzz, hz])
          clear hhit hzz
          have hdq : decide (lo < l.length) = true := decide_eq_true hq
          go_wp2_with fail
          refine (keyCmp_any _ _ _ _).mono ?_
          rintro r w2 ⟨rfl, b2⟩
          have hb2 := hbl.trans (b2.mono hbl.size)
          clear b2 e0 e1
          go_wp2
          refine bodyPost_ret (v := .tuple #[.int .i64 lo, .bool false]) (by simp [results, Try.results101, go_sem]) rfl ?_
          refine ⟨by rw [HP.out]; first | rfl | exact ⟨rfl, HH.out⟩ | (rw [HH.out]), hb2⟩
        · have HH := Lib.hid (show hitK l e lo = true by rw [← hzz, hz])
          clear hhit hzz
          have hdq : decide (lo < l.length) = true := decide_eq_true hq
          go_wp2_with fail
          refine (keyCmp_any _ _ _ _).mono ?_
          rintro r w2 ⟨rfl, b2⟩
          have hb2 := hbl.trans (b2.mono hbl.size)
          clear b2 e0 e1
          go_wp2
          refine bodyPost_ret (v := .tuple #[.int .i64 lo, .bool true]) (by simp [results, Try.results101, go_sem]) rfl ?_
          refine ⟨by rw [HP.out]; first | rfl | exact ⟨rfl, HH.out⟩ | (rw [HH.out]), hb2⟩
      · have hqi : ¬ (lo : Int) < (l.length : Int) := by omega
        have HH := Lib.hid (hitK_out (k := e) hq)
        clear hcell hsh h I
        have hb2 := hbl
        go_wp2
        refine bodyPost_ret (v := .tuple #[.int .i64 lo, .bool false]) (by simp [results, Try.results101, go_sem]) rfl ?_
        refine ⟨by rw [HP.out]; first | rfl | exact ⟨rfl, HH.out⟩ | (rw [HH.out]), hb2⟩

set_option maxRecDepth 100000 in
set_option maxHeartbeats 800000 in
theorem findKey_any (v : Value) (l : List KV) (e : ByteArray) (w : World) (h : SlT KV.cells 2 w v l) (hl : (l.length : Int) ≤ 1048576) (hm : mapB l = true) :
    Calls Try.prog 93 #[v, .string e] w fun r w' => r = .returned (.tuple #[.int .i64 (posK l e : Nat), .bool (hitK l e (posK l e))]) ∧ Below w.heap.size w w' := by
  have hh := h
  obtain ⟨ao, cap, rfl, _⟩ := h.shape
  go_enter Try.func93, Try.ntmps93
  go_wp2_with fail
  refine (bsearchK_any _ l e _ hh hl hm).mono ?_
  rintro r w1 ⟨rfl, b1⟩
  go_wp2
  refine bodyPost_ret (v := .tuple #[.int .i64 (posK l e : Nat), .bool (hitK l e (posK l e))]) (by simp [results, Try.results93, go_sem]) rfl ⟨rfl, b1⟩
end Go.Proofs.Ytajjefpopjdfaaa
