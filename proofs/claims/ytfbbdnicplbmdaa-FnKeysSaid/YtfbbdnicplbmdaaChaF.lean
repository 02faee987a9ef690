
/- Walks: the words of a block, by the program. -/
import Derived.Test.YtfbbdnicplbmdaaChaC
import Derived.Test.YtfbbdnicplbmdaaChaI
import Derived.BigQuiet
set_option linter.unusedVariables false
set_option linter.unusedSimpArgs false
namespace Go.Proofs.Ytfbbdnicplbmdaa
open Go.RowKit Sp
namespace Sp
/-- The first m words; zeros behind. -/
def chaP (f : Nat → Nat) (m : Nat) : Nat → Nat := fun i => if i < m then f i else 0
theorem chaP_step (f : Nat → Nat) (m : Nat) : upd (chaP f m) m (f m) = chaP f (m + 1) := by
  funext j
  unfold upd chaP
  by_cases h : j = m
  · subst h; simp
  · by_cases h2 : j < m
    · rw [if_neg h, if_pos h2, if_pos (by omega)]
    · rw [if_neg h, if_neg h2, if_neg (by omega)]
theorem chaP_lit (key nonce : List UInt8) (c : Nat) : W32 (chaP (chaW key nonce c) 4) = [.int .u32 1634760805, .int .u32 857760878, .int .u32 2036477234, .int .u32 1797285236, .int .u32 0, .int .u32 0, .int .u32 0, .int .u32 0, .int .u32 0, .int .u32 0, .int .u32 0, .int .u32 0, .int .u32 0, .int .u32 0, .int .u32 0, .int .u32 0] := rfl
theorem chaP_full (f : Nat → Nat) : W32 (chaP f 16) = W32 f := by
  unfold W32
  apply List.map_congr_left
  intro i hi
  have : i < 16 := List.mem_range.1 hi
  simp [chaP, this]
def aggW (f : Nat → Nat) : Value := .agg #[.int .u32 (f 0 : Nat), .int .u32 (f 1 : Nat), .int .u32 (f 2 : Nat), .int .u32 (f 3 : Nat), .int .u32 (f 4 : Nat), .int .u32 (f 5 : Nat), .int .u32 (f 6 : Nat), .int .u32 (f 7 : Nat), .int .u32 (f 8 : Nat), .int .u32 (f 9 : Nat), .int .u32 (f 10 : Nat), .int .u32 (f 11 : Nat), .int .u32 (f 12 : Nat), .int .u32 (f 13 : Nat), .int .u32 (f 14 : Nat), .int .u32 (f 15 : Nat)]
theorem chaP_at (f : Nat → Nat) {m i : Nat} (h : i < m) : chaP f m i = f i := if_pos h
end Sp
theorem little_lit (s : ByteArray) (i : Nat) (j : Int) (hj : j = (i : Int)) (w : World) (h : (i : Int) + 3 < s.size) (hs : (s.size : Int) ≤ 1048576) :
    Calls Try.prog 197 #[.string s, .int .i64 j] w fun e w' => e = .returned (.int .u32 (leW s.data.toList i : Nat)) ∧ Below w.heap.size w w' := by
  subst hj; exact little_any s i w h hs
set_option maxRecDepth 100000 in
set_option maxHeartbeats 1600000 in
theorem firstWords_any (key nonce : ByteArray) (c : Nat) (w : World) (hk : (key.size : Int) = 32) (hn : (nonce.size : Int) = 12) (hc : (c : Int) ≤ 4294967295) :
    Calls Try.prog 184 #[.string key, .int .i64 c, .string nonce] w fun e w' => e = .returned (aggW (chaW key.data.toList nonce.data.toList c)) ∧ Below w.heap.size w w' := by
  have hlit := chaP_lit key.data.toList nonce.data.toList c
  have hkey := fun k h => @chaW_key key.data.toList nonce.data.toList c k h
  have hcnt := chaW_count key.data.toList nonce.data.toList c
  have hnon := fun k h => @chaW_nonce key.data.toList nonce.data.toList c k h
  generalize chaW key.data.toList nonce.data.toList c = f at *
  have HK := Lib.hid hkey
  have HC := Lib.hid hcnt
  have HN := Lib.hid hnon
  clear hkey hcnt hnon
  have r0 : ((w.alloc (.cells #[.int .u32 0, .int .u32 0, .int .u32 0, .int .u32 0, .int .u32 0, .int .u32 0, .int .u32 0, .int .u32 0, .int .u32 0, .int .u32 0, .int .u32 0, .int .u32 0, .int .u32 0, .int .u32 0, .int .u32 0, .int .u32 0] 202)).alloc (.cells #[.int .u32 1634760805, .int .u32 857760878, .int .u32 2036477234, .int .u32 1797285236, .int .u32 0, .int .u32 0, .int .u32 0, .int .u32 0, .int .u32 0, .int .u32 0, .int .u32 0, .int .u32 0, .int .u32 0, .int .u32 0, .int .u32 0, .int .u32 0] 202)).ownsRow (w.heap.size + 1) 202 1 (.slice (some ⟨w.heap.size + 1, 0, none⟩) 16 16) 16 (W32 (chaP f 4)) := by
    rw [hlit]
    have h := World.ownsRow_lit (base := w.heap.size + 1) (e := 202) (size := 1) (w.alloc (.cells #[.int .u32 0, .int .u32 0, .int .u32 0, .int .u32 0, .int .u32 0, .int .u32 0, .int .u32 0, .int .u32 0, .int .u32 0, .int .u32 0, .int .u32 0, .int .u32 0, .int .u32 0, .int .u32 0, .int .u32 0, .int .u32 0] 202)) #[.int .u32 1634760805, .int .u32 857760878, .int .u32 2036477234, .int .u32 1797285236, .int .u32 0, .int .u32 0, .int .u32 0, .int .u32 0, .int .u32 0, .int .u32 0, .int .u32 0, .int .u32 0, .int .u32 0, .int .u32 0, .int .u32 0, .int .u32 0] 16 (by simp) (by simp [maxLen]) rfl
    rw [show (w.alloc (.cells #[.int .u32 0, .int .u32 0, .int .u32 0, .int .u32 0, .int .u32 0, .int .u32 0, .int .u32 0, .int .u32 0, .int .u32 0, .int .u32 0, .int .u32 0, .int .u32 0, .int .u32 0, .int .u32 0, .int .u32 0, .int .u32 0] 202)).heap.size = w.heap.size + 1 from by simp] at h
    exact h
  have q0 : ((w.alloc (.cells #[.int .u32 0, .int .u32 0, .int .u32 0, .int .u32 0, .int .u32 0, .int .u32 0, .int .u32 0, .int .u32 0, .int .u32 0, .int .u32 0, .int .u32 0, .int .u32 0, .int .u32 0, .int .u32 0, .int .u32 0, .int .u32 0] 202)).alloc (.cells #[.int .u32 1634760805, .int .u32 857760878, .int .u32 2036477234, .int .u32 1797285236, .int .u32 0, .int .u32 0, .int .u32 0, .int .u32 0, .int .u32 0, .int .u32 0, .int .u32 0, .int .u32 0, .int .u32 0, .int .u32 0, .int .u32 0, .int .u32 0] 202)).ownsRow w.heap.size 202 1 (.slice (some ⟨w.heap.size, 0, none⟩) 16 16) 16 (W32 (fun _ => 0)) :=
    (World.ownsRow_lit w #[.int .u32 0, .int .u32 0, .int .u32 0, .int .u32 0, .int .u32 0, .int .u32 0, .int .u32 0, .int .u32 0, .int .u32 0, .int .u32 0, .int .u32 0, .int .u32 0, .int .u32 0, .int .u32 0, .int .u32 0, .int .u32 0] 16 (Nat.le_refl _) (by simp [maxLen]) rfl).alloc _
  clear hlit
  go_enter Try.func184, Try.ntmps184
  go_upto_region 2 with fail
  have bl0 : Below w.heap.size w ((w.alloc (.cells #[.int .u32 0, .int .u32 0, .int .u32 0, .int .u32 0, .int .u32 0, .int .u32 0, .int .u32 0, .int .u32 0, .int .u32 0, .int .u32 0, .int .u32 0, .int .u32 0, .int .u32 0, .int .u32 0, .int .u32 0, .int .u32 0] 202)).alloc (.cells #[.int .u32 1634760805, .int .u32 857760878, .int .u32 2036477234, .int .u32 1797285236, .int .u32 0, .int .u32 0, .int .u32 0, .int .u32 0, .int .u32 0, .int .u32 0, .int .u32 0, .int .u32 0, .int .u32 0, .int .u32 0, .int .u32 0, .int .u32 0] 202)) := ((Below.refl _ _).alloc (Nat.le_refl _) _).alloc (by simp) _
  have hz0 : w.heap.size + 1 < ((w.alloc (.cells #[.int .u32 0, .int .u32 0, .int .u32 0, .int .u32 0, .int .u32 0, .int .u32 0, .int .u32 0, .int .u32 0, .int .u32 0, .int .u32 0, .int .u32 0, .int .u32 0, .int .u32 0, .int .u32 0, .int .u32 0, .int .u32 0] 202)).alloc (.cells #[.int .u32 1634760805, .int .u32 857760878, .int .u32 2036477234, .int .u32 1797285236, .int .u32 0, .int .u32 0, .int .u32 0, .int .u32 0, .int .u32 0, .int .u32 0, .int .u32 0, .int .u32 0, .int .u32 0, .int .u32 0, .int .u32 0, .int .u32 0] 202)).heap.size := by simp
  generalize ((w.alloc (.cells #[.int .u32 0, .int .u32 0, .int .u32 0, .int .u32 0, .int .u32 0, .int .u32 0, .int .u32 0, .int .u32 0, .int .u32 0, .int .u32 0, .int .u32 0, .int .u32 0, .int .u32 0, .int .u32 0, .int .u32 0, .int .u32 0] 202)).alloc (.cells #[.int .u32 1634760805, .int .u32 857760878, .int .u32 2036477234, .int .u32 1797285236, .int .u32 0, .int .u32 0, .int .u32 0, .int .u32 0, .int .u32 0, .int .u32 0, .int .u32 0, .int .u32 0, .int .u32 0, .int .u32 0, .int .u32 0, .int .u32 0] 202)) = wi at *
  go_wp2
  go_loopw [11] (fun i wr => ∃ k : Nat, (k : Int) ≤ 8 ∧ i = .int .i64 k ∧ wr.ownsRow (w.heap.size + 1) 202 1 (.slice (some ⟨w.heap.size + 1, 0, none⟩) 16 16) 16 (W32 (chaP f (4 + k))) ∧ wr.ownsRow w.heap.size 202 1 (.slice (some ⟨w.heap.size, 0, none⟩) 16 16) 16 (W32 (fun _ => 0)) ∧ Below w.heap.size w wr) (fun i _ => 8 - (intOf i).toNat)
  case atStart => exact ⟨0, by omega, rfl, r0, q0, bl0⟩
  case round =>
    obtain ⟨k, hk8, rfl, hr, hq, hbl⟩ := hrel
    by_cases hlt : (k : Int) < 8
    · have hlt' : k < 8 := by omega
      have M4 : (4 * (k : Int)) = ((4 * k : Nat) : Int) := by omega
      clear r0 q0 M4
      go_wp2_with fail
      refine (little_lit key (4 * k) _ (by omega) _ (by omega) (by omega)).mono ?_
      rintro e w1 ⟨rfl, b1⟩
      rw [← HK.out k hlt']
      have r1 := own_below hr b1
      have q1 := own_below hq b1
      have x1 := hbl.trans (b1.mono hbl.size)
      have c1 := cell32 r1 (4 + k) (by omega)
      have z1 := r1.frozenAt
      have r2 := set32 r1 (4 + k) (f (4 + k))
      rw [chaP_step] at r2
      have q2 := q1.kept (touch_set (touch_refl w1 (w.heap.size + 1)) (4 + k) (.int .u32 (f (4 + k) : Nat))) (Or.inr (by simp [Value.ownBlock]))
      have x2 := x1.setCell (p := ⟨w.heap.size + 1, 4 + k, none⟩) (by simp) (.int .u32 (f (4 + k) : Nat))
      have hx8 : (4 : Int) + (k : Int) < 16 := by omega
      have hx9 : (0 : Int) ≤ (4 : Int) + (k : Int) := by omega
      have hx10 : ((4 : Int) + (k : Int)).toNat = 4 + k := by omega
      go_wp2
      exact ⟨⟨k + 1, by omega, by go_num, r2, q2, x2⟩, by simp [intOf]; omega⟩
    · obtain rfl : k = 8 := by omega
      have c1 := cell32 hr 12 (by omega)
      have z1 := hr.frozenAt
      have r2 := set32 hr 12 (f 12)
      rw [show 4 + 8 = 12 from rfl, chaP_step, HC.out] at r2
      have q2 := hq.kept (touch_set (touch_refl wr (w.heap.size + 1)) 12 (.int .u32 (c : Nat))) (Or.inr (by simp [Value.ownBlock]))
      have x2 := hbl.setCell (p := ⟨w.heap.size + 1, 12, none⟩) (by simp) (.int .u32 (c : Nat))
      clear r0 q0 bl0 hr hq
      go_wp2
      clear c1 z1
      go_loopw [25] (fun i wr => ∃ k : Nat, (k : Int) ≤ 3 ∧ i = .int .i64 k ∧ wr.ownsRow (w.heap.size + 1) 202 1 (.slice (some ⟨w.heap.size + 1, 0, none⟩) 16 16) 16 (W32 (chaP f (13 + k))) ∧ wr.ownsRow w.heap.size 202 1 (.slice (some ⟨w.heap.size, 0, none⟩) 16 16) 16 (W32 (fun _ => 0)) ∧ Below w.heap.size w wr) (fun i _ => 3 - (intOf i).toNat)
      case atStart => exact ⟨0, by omega, rfl, r2, q2, x2⟩
      case round =>
        obtain ⟨k, hk3, rfl, hr, hq, hbl⟩ := hrel
        clear r2 q2 x2
        by_cases hlt2 : (k : Int) < 3
        · have hlt' : k < 3 := by omega
          go_wp2_with fail
          refine (little_lit nonce (4 * k) _ (by omega) _ (by omega) (by omega)).mono ?_
          rintro e w1 ⟨rfl, b1⟩
          rw [← HN.out k hlt']
          have r1 := own_below hr b1
          have q1 := own_below hq b1
          have x1 := hbl.trans (b1.mono hbl.size)
          have c1 := cell32 r1 (13 + k) (by omega)
          have z1 := r1.frozenAt
          have r2 := set32 r1 (13 + k) (f (13 + k))
          rw [chaP_step] at r2
          have q2 := q1.kept (touch_set (touch_refl w1 (w.heap.size + 1)) (13 + k) (.int .u32 (f (13 + k) : Nat))) (Or.inr (by simp [Value.ownBlock]))
          have x2 := x1.setCell (p := ⟨w.heap.size + 1, 13 + k, none⟩) (by simp) (.int .u32 (f (13 + k) : Nat))
          have hx8 : (13 : Int) + (k : Int) < 16 := by omega
          have hx9 : (0 : Int) ≤ (13 : Int) + (k : Int) := by omega
          have hx10 : ((13 : Int) + (k : Int)).toNat = 13 + k := by omega
          go_wp2
          exact ⟨⟨k + 1, by omega, by go_num, r2, q2, x2⟩, by simp [intOf]; omega⟩
        · obtain rfl : k = 3 := by omega
          rw [show 13 + 3 = 16 from rfl, chaP_full] at hr
          have c0 := cell32 hr 0 (by omega)
          have c1 := cell32 hr 1 (by omega)
          have c2 := cell32 hr 2 (by omega)
          have c3 := cell32 hr 3 (by omega)
          have c4 := cell32 hr 4 (by omega)
          have c5 := cell32 hr 5 (by omega)
          have c6 := cell32 hr 6 (by omega)
          have c7 := cell32 hr 7 (by omega)
          have c8 := cell32 hr 8 (by omega)
          have c9 := cell32 hr 9 (by omega)
          have c10 := cell32 hr 10 (by omega)
          have c11 := cell32 hr 11 (by omega)
          have c12 := cell32 hr 12 (by omega)
          have c13 := cell32 hr 13 (by omega)
          have c14 := cell32 hr 14 (by omega)
          have c15 := cell32 hr 15 (by omega)
          have d0 := cell32 hq 0 (by omega)
          have d1 := cell32 hq 1 (by omega)
          have d2 := cell32 hq 2 (by omega)
          have d3 := cell32 hq 3 (by omega)
          have d4 := cell32 hq 4 (by omega)
          have d5 := cell32 hq 5 (by omega)
          have d6 := cell32 hq 6 (by omega)
          have d7 := cell32 hq 7 (by omega)
          have d8 := cell32 hq 8 (by omega)
          have d9 := cell32 hq 9 (by omega)
          have d10 := cell32 hq 10 (by omega)
          have d11 := cell32 hq 11 (by omega)
          have d12 := cell32 hq 12 (by omega)
          have d13 := cell32 hq 13 (by omega)
          have d14 := cell32 hq 14 (by omega)
          have d15 := cell32 hq 15 (by omega)
          have z2 := hq.frozenAt
          clear hr hq
          go_wp2
          refine bodyPost_ret (v := aggW f) (by simp [results, Try.results184, go_sem, aggW, d0, d1, d2, d3, d4, d5, d6, d7, d8, d9, d10, d11, d12, d13, d14, d15]) rfl ⟨rfl, ?_⟩
          exact Below.setCell (Below.setCell (Below.setCell (Below.setCell (Below.setCell (Below.setCell (Below.setCell (Below.setCell (Below.setCell (Below.setCell (Below.setCell (Below.setCell (Below.setCell (Below.setCell (Below.setCell (Below.setCell (hbl) (p := ⟨w.heap.size, 0, none⟩) (Nat.le_refl _) _) (p := ⟨w.heap.size, 1, none⟩) (Nat.le_refl _) _) (p := ⟨w.heap.size, 2, none⟩) (Nat.le_refl _) _) (p := ⟨w.heap.size, 3, none⟩) (Nat.le_refl _) _) (p := ⟨w.heap.size, 4, none⟩) (Nat.le_refl _) _) (p := ⟨w.heap.size, 5, none⟩) (Nat.le_refl _) _) (p := ⟨w.heap.size, 6, none⟩) (Nat.le_refl _) _) (p := ⟨w.heap.size, 7, none⟩) (Nat.le_refl _) _) (p := ⟨w.heap.size, 8, none⟩) (Nat.le_refl _) _) (p := ⟨w.heap.size, 9, none⟩) (Nat.le_refl _) _) (p := ⟨w.heap.size, 10, none⟩) (Nat.le_refl _) _) (p := ⟨w.heap.size, 11, none⟩) (Nat.le_refl _) _) (p := ⟨w.heap.size, 12, none⟩) (Nat.le_refl _) _) (p := ⟨w.heap.size, 13, none⟩) (Nat.le_refl _) _) (p := ⟨w.heap.size, 14, none⟩) (Nat.le_refl _) _) (p := ⟨w.heap.size, 15, none⟩) (Nat.le_refl _) _
end Go.Proofs.Ytfbbdnicplbmdaa
