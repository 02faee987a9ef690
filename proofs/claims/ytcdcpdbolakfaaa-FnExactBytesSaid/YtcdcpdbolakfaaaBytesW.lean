/- Walks: Bytes of the reference and of the program. -/
import Derived.Test.YtcdcpdbolakfaaaMapS
import Derived.Test.YtcdcpdbolakfaaaSlices
set_option linter.unusedVariables false
set_option linter.unusedSimpArgs false
namespace Go.Proofs.Ytcdcpdbolakfaaa
open Go.RowKit Sp Go.Sort
namespace Sp
def bytesV (l : List KV) : Int := if mapB l then sumSz KV.sz l else 0
end Sp

set_option maxRecDepth 100000 in
set_option maxHeartbeats 800000 in
theorem specBytes (v : Value) (l : List KV) (w : World) (h : SlT KV.cells 2 w v l) (hl : (l.length : Int) ≤ 1048576) (hsum : sumSz KV.sz l ≤ 1048576) :
    Calls Try.prog 16 #[v] w fun e w' => e = .returned (.int .i64 (bytesV l)) ∧ Below w.heap.size w w' := by
  obtain ⟨ao, cap, hv, hlc, hcm, hsh⟩ := h.shape
  subst hv
  have hnn := sumSz_nonneg KV.sz_nonneg l
  by_cases hz : l.length = 0
  · have hz' : l = [] := List.length_eq_zero_iff.1 hz
    subst hz'
    have HR : bytesV [] = 0 := by decide
    clear hsh h
    go_enter Try.func16, Try.ntmps16
    go_wp2
    refine wp_loop_rounds 1 ?_
    rw [rounds_succ]; go_wp2
    go_ret
    exact ⟨by first | rfl | (rw [HR]; rfl), Below.refl _ _⟩
  by_cases hm : mapB l = true
  · go_enter Try.func16, Try.ntmps16
    go_wp2
    go_loopw [3, 4] (fun n i wr => ∃ k : Nat, (k : Int) ≤ l.length ∧ i = .int .i64 k ∧ n = .int .i64 (sumSz KV.sz (l.take k)) ∧ Below w.heap.size w wr) (fun _ i _ => l.length - (intOf i).toNat)
    case atStart => exact ⟨0, by omega, rfl, by simp [sumSz], Below.refl _ _⟩
    case round =>
      obtain ⟨k, hk, rfl, rfl, hbl⟩ := hrel
      have hnk := sumSz_nonneg KV.sz_nonneg (l.take k)
      by_cases hlt : (k : Int) < l.length
      · have hltn : k < l.length := by omega
        have hw := h.below hbl
        obtain ⟨b, off, rfl, hb, hc⟩ := hsh (by omega)
        have hc0 : w.cell? ⟨b, off + k * 2, none⟩ = some (.string l[k].key) := hc k hltn 0 _ rfl
        have hc1 : w.cell? ⟨b, off + k * 2 + 1, none⟩ = some (.string l[k].val) := hc k hltn 1 _ rfl
        have hst := sumSz_step KV.sz l k hltn
        have hmo := sumSz_take_le KV.sz_nonneg l (k + 1)
        have hzz := KV.sz_nonneg l[k]
        have hz1 : KV.sz l[k] = l[k].key.size + l[k].val.size := rfl
        have HST := Lib.hid hst
        have HZ := Lib.hid hz1
        have m1 : IntKind.i64.wrap (sumSz KV.sz (l.take k) + l[k].key.size) = sumSz KV.sz (l.take k) + l[k].key.size := by rw [IntKind.wrap_i64]; omega
        have m2 : IntKind.i64.wrap (sumSz KV.sz (l.take k) + l[k].key.size + l[k].val.size) = sumSz KV.sz (l.take k) + l[k].key.size + l[k].val.size := by rw [IntKind.wrap_i64]; omega
        clear hst hsh hz1 hc
        generalize sumSz KV.sz (l.take k) = q at *
        go_wp2_with (go_at_call 59; refine (specMapOk _ l _ hw hl).mono ?_; rintro e w2 ⟨rfl, hb2⟩; rw [hm]; have hb3 := hbl.trans (hb2.mono hbl.size); have kc0 := (hb3.cell (by exact hb)).trans hc0; have kc1 := (hb3.cell (by exact hb)).trans hc1)
        go_quiet (fail)
        go_wp2
        go_roundw
        case rel => exact ⟨k + 1, by omega, by go_num, by rw [HST.out]; exact congrArg (Value.int .i64) (by have := HZ.out; omega), below_drewN hb3 _⟩
        case measure => simp [intOf]; omega
      · obtain rfl : k = l.length := by omega
        rw [List.take_length] at *
        have HR : bytesV l = sumSz KV.sz l := by unfold bytesV; rw [if_pos hm]
        clear hsh h
        go_wp2
        go_ret
        exact ⟨by first | rfl | (rw [HR]; rfl), hbl⟩
  · have hm' : mapB l = false := by simpa using hm
    have HR : bytesV l = 0 := by unfold bytesV; rw [if_neg hm]
    go_enter Try.func16, Try.ntmps16
    go_wp2
    refine wp_loop_rounds 1 ?_
    rw [rounds_succ]
    go_wp2_with (go_at_call 59; refine (specMapOk _ l _ h hl).mono ?_; rintro e w2 ⟨rfl, hb2⟩; rw [hm'])
    go_ret
    exact ⟨by first | rfl | (rw [HR]; rfl), hb2⟩

set_option maxRecDepth 100000 in
set_option maxHeartbeats 800000 in
theorem bytesOf_any (v : Value) (l : List KV) (w : World) (h : SlT KV.cells 2 w v l) (hl : (l.length : Int) ≤ 1048576) (hsum : sumSz KV.sz l ≤ 1048576) :
    Calls Try.prog 62 #[v] w fun e w' => e = .returned (.int .i64 (sumSz KV.sz l)) ∧ Below w.heap.size w w' := by
  obtain ⟨ao, cap, rfl, hlc, hcm, hsh⟩ := h.shape
  have hnn := sumSz_nonneg KV.sz_nonneg l
  go_enter Try.func62, Try.ntmps62
  go_wp2
  go_loopw [3, 8] (fun n i wr => ∃ k : Nat, (k : Int) ≤ l.length ∧ i = .int .i64 k ∧ n = .int .i64 (sumSz KV.sz (l.take k)) ∧ Below w.heap.size w wr) (fun _ i _ => l.length - (intOf i).toNat)
  case atStart => exact ⟨0, by omega, rfl, by simp [sumSz], Below.refl _ _⟩
  case round =>
    obtain ⟨k, hk, rfl, rfl, hbl⟩ := hrel
    have hnk := sumSz_nonneg KV.sz_nonneg (l.take k)
    by_cases hlt : (k : Int) < l.length
    · have hltn : k < l.length := by omega
      obtain ⟨b, off, rfl, hb, hc⟩ := hsh (by omega)
      have hc0 : wr.cell? ⟨b, off + k * 2, none⟩ = some (.string l[k].key) := (hbl.cell (by exact hb)).trans (hc k hltn 0 _ rfl)
      have hc1 : wr.cell? ⟨b, off + k * 2 + 1, none⟩ = some (.string l[k].val) := (hbl.cell (by exact hb)).trans (hc k hltn 1 _ rfl)
      have hst := sumSz_step KV.sz l k hltn
      have hmo := sumSz_take_le KV.sz_nonneg l (k + 1)
      have hzz := KV.sz_nonneg l[k]
      have hz1 : KV.sz l[k] = l[k].key.size + l[k].val.size := rfl
      have HST := Lib.hid hst
      have HZ := Lib.hid hz1
      have hk1 : (l[k].key.size : Int) ≤ 1048576 := by omega
      have hk2 : (l[k].val.size : Int) ≤ 1048576 := by omega
      have hk3 : sumSz KV.sz (l.take k) ≤ 1048576 := by omega
      clear hst hsh h hz1 hc hmo
      generalize sumSz KV.sz (l.take k) = q at *
      go_wp2
      go_roundw
      case rel => exact ⟨k + 1, by omega, by go_num, by rw [HST.out]; exact congrArg (Value.int .i64) (by have := HZ.out; omega), hbl.alloc hbl.size _⟩
      case measure => simp [intOf]; omega
    · obtain rfl : k = l.length := by omega
      rw [List.take_length] at *
      clear hsh h
      go_wp2
      go_ret
      exact ⟨rfl, hbl⟩

set_option maxRecDepth 100000 in
set_option maxHeartbeats 400000 in
theorem implBytes (v : Value) (l : List KV) (w : World) (h : SlT KV.cells 2 w v l) (hl : (l.length : Int) ≤ 1048576) (hsum : sumSz KV.sz l ≤ 1048576) :
    Calls Try.prog 18 #[v] w fun e w' => e = .returned (.int .i64 (bytesV l)) ∧ Below w.heap.size w w' := by
  by_cases hm : mapB l = true
  · have HR : bytesV l = sumSz KV.sz l := by unfold bytesV; rw [if_pos hm]
    go_enter Try.func18, Try.ntmps18
    go_wp2_with (go_at_call 61; refine (implMapOk _ l _ h hl).mono ?_; rintro e w2 ⟨rfl, hb2⟩; rw [hm])
    go_wp2_with (go_at_call 62; refine (bytesOf_any _ l _ (h.below hb2) hl hsum).mono ?_; rintro e w3 ⟨rfl, hb3⟩)
    go_ret
    exact ⟨by first | rfl | (rw [HR]; rfl), hb2.trans (hb3.mono hb2.size)⟩
  · have hm' : mapB l = false := by simpa using hm
    have HR : bytesV l = 0 := by unfold bytesV; rw [if_neg hm]
    go_enter Try.func18, Try.ntmps18
    go_wp2_with (go_at_call 61; refine (implMapOk _ l _ h hl).mono ?_; rintro e w2 ⟨rfl, hb2⟩; rw [hm'])
    go_ret
    exact ⟨by first | rfl | (rw [HR]; rfl), hb2⟩
end Go.Proofs.Ytcdcpdbolakfaaa
