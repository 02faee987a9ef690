
/- Walk: the law FnBloom. -/
import Derived.Test.YtmbmflhcimkjpaaDrawK
import Derived.Test.YtmbmflhcimkjpaaBloomM
set_option linter.unusedVariables false
set_option linter.unusedSimpArgs false
namespace Go.Proofs.Ytmbmflhcimkjpaa
open Go.RowKit Sp Go.Sort
set_option maxRecDepth 100000 in
theorem big_any (v : Value) (xs : List UInt8) (w : World) (h : SlT bytC 1 w v xs) :
    Calls Try.prog 10 #[v] w fun e w' => e = .returned (.bool (decide (1048576 < (xs.length : Int)))) ∧ w = w' := by
  obtain ⟨ao, cap, rfl, hlc, hcm, hsh⟩ := h.shape
  go_enter Try.func10, Try.ntmps10
  go_wp2
  go_ret
  exact ⟨rfl, rfl⟩

set_option maxRecDepth 100000 in
set_option maxHeartbeats 1600000 in
theorem walkFnBloom (w : World) (v : Value) (xs : List UInt8) (h : SlT bytC 1 w v xs) :
    Calls Try.prog 4 #[v] w fun e w' => e = .returned (.bool true) ∧ Below w.heap.size w w' := by
  by_cases hbig : 1048576 < (xs.length : Int)
  · go_enter Try.func4, Try.ntmps4
    go_wp2_with fail
    refine (big_any v xs _ h).mono ?_
    rintro e w1 ⟨rfl, rfl⟩
    rw [decide_eq_true hbig]
    go_wp2
    go_ret
    exact ⟨rfl, Below.refl _ _⟩
  · go_enter Try.func4, Try.ntmps4
    go_wp2_with fail
    refine (big_any v xs _ h).mono ?_
    rintro e w1 ⟨rfl, rfl⟩
    rw [decide_eq_false (show ¬ 1048576 < (xs.length : Int) from by omega)]
    go_wp2_with fail
    refine (drawBloomOf_any v xs _ h (by omega)).mono ?_
    rintro e w1 ⟨u, l, n, rfl, hs, hl, hn, hi, b1⟩
    go_wp2_with fail
    refine (implBloomOf u l n _ hs hl (by omega)).mono ?_
    rintro e w2 ⟨rfl, b2⟩
    have x2 := b1.trans (b2.mono b1.size)
    have s2 := hs.below b2
    go_wp2_with fail
    refine (specBloomOf u l n _ s2 hl (by omega)).mono ?_
    rintro e w3 ⟨rfl, b3⟩
    have x3 := x2.trans (b3.mono x2.size)
    have s3 := s2.below b3
    have hz : ((str (bloomL l n)).size : Int) ≤ 1048576 ∧ (bloomL l n = [] ∨ ((str (bloomL l n)).size : Int) = n) := by
      rw [str_size]
      by_cases h : inB n 1 64 = true
      · have := inB_iff.1 h
        rcases bloomL_len l n with h | h
        · exact ⟨by rw [h]; decide, .inl h⟩
        · exact ⟨by omega, .inr h⟩
      · exact ⟨by rw [bloomL_not (fun h2 => h h2.1)]; decide, .inl (bloomL_not (fun h2 => h h2.1))⟩
    have HB := Lib.hid (fun i (hi : i < l.length) hb => bloom_has l n i hi hb)
    clear hs s2 b1 b2 b3 x2
    by_cases hE : bloomL l n = []
    · rw [hE]
      have hem : (str []).toList.isEmpty = true := by rw [str_toList]; rfl
      obtain ⟨ao, cap, rfl, hlc, hcm, hsh⟩ := s3.shape
      go_wp2_with fail
      go_loopw [6] (fun i wr => i = .int .i64 0 ∧ wr = w3) (fun _ _ => 0)
      case atStart => exact ⟨rfl, rfl⟩
      case round =>
        obtain ⟨rfl, rfl⟩ := hrel
        by_cases hl0 : (0 : Int) < l.length
        · skip
          go_wp2_with fail
          refine (drawBloomMay_any v xs _ (h.below x3) (by omega)).mono ?_
          rintro e w7 ⟨c, k, rfl, hc, hk, b7⟩
          have x7 := x3.trans (b7.mono x3.size)
          go_wp2_with fail
          refine (implBloomMay c k _ hc hk).mono ?_
          rintro e w8 ⟨rfl, b8⟩
          have x8 := x7.trans (b8.mono x7.size)
          go_wp2_with fail
          refine (specBloomMay c k _ hc hk).mono ?_
          rintro e w9 ⟨rfl, b9⟩
          have x9 := x8.trans (b9.mono x8.size)
          have hee := beq_self_eq_true (bloomB c k)
          go_wp2_with fail
          refine (implBloomMay ⟨#[]⟩ k _ (by decide) hk).mono ?_
          rintro e w10 ⟨rfl, b10⟩
          have x10 := x9.trans (b10.mono x9.size)
          rw [bloomB_out (b := ⟨#[]⟩) (by decide)]
          go_wp2
          go_ret
          exact ⟨rfl, x10⟩
        · skip
          go_wp2_with fail
          refine (drawBloomMay_any v xs _ (h.below x3) (by omega)).mono ?_
          rintro e w7 ⟨c, k, rfl, hc, hk, b7⟩
          have x7 := x3.trans (b7.mono x3.size)
          go_wp2_with fail
          refine (implBloomMay c k _ hc hk).mono ?_
          rintro e w8 ⟨rfl, b8⟩
          have x8 := x7.trans (b8.mono x7.size)
          go_wp2_with fail
          refine (specBloomMay c k _ hc hk).mono ?_
          rintro e w9 ⟨rfl, b9⟩
          have x9 := x8.trans (b9.mono x8.size)
          have hee := beq_self_eq_true (bloomB c k)
          go_wp2_with fail
          refine (implBloomMay ⟨#[]⟩ k _ (by decide) hk).mono ?_
          rintro e w10 ⟨rfl, b10⟩
          have x10 := x9.trans (b10.mono x9.size)
          rw [bloomB_out (b := ⟨#[]⟩) (by decide)]
          go_wp2
          go_ret
          exact ⟨rfl, x10⟩
    · have hem : (str (bloomL l n)).toList.isEmpty = false := by rw [str_toList]; simpa using hE
      have HE := Lib.hid hE
      have hzn := hz.2.resolve_left hE
      obtain ⟨ao, cap, rfl, hlc, hcm, hsh⟩ := s3.shape
      go_wp2_with fail
      go_loopw [6] (fun i wr => ∃ q : Nat, i = .int .i64 q ∧ q ≤ l.length ∧ Below w.heap.size w wr ∧ SlT strCells 1 wr (.slice ao l.length cap) l) (fun i _ => l.length - (intOf i).toNat)
      case atStart => exact ⟨0, rfl, Nat.zero_le _, x3, s3⟩
      case round =>
        clear hsh
        obtain ⟨q, rfl, hq, xr, sr⟩ := hrel
        by_cases hql : q < l.length
        · obtain ⟨ao', cap', hv', _, _, hsh⟩ := sr.shape
          simp only [Value.slice.injEq] at hv'
          obtain ⟨rfl, _, rfl⟩ := hv'
          obtain ⟨gb, off, rfl, hgl, hcell⟩ := hsh (by omega)
          have ce : wr.cell? ⟨gb, off + q, none⟩ = some (.string l[q]) := by
            have := hcell q hql 0 (.string l[q]) rfl
            rwa [Nat.mul_one, Nat.add_zero] at this
          have hbt := HB.out q hql HE.out
          go_wp2_with fail
          refine (implBloomMay (str (bloomL l n)) l[q] _ hz.1 (hl _ (List.getElem_mem hql))).mono ?_
          rintro e w4 ⟨rfl, b4⟩
          rw [hbt]
          go_wp2
          go_roundw
          case rel => exact ⟨q + 1, by go_num, hql, xr.trans (b4.mono xr.size), sr.below b4⟩
          case measure => simp [intOf]; omega
        · obtain rfl : q = l.length := by omega
          go_wp2_with fail
          refine (drawBloomMay_any v xs _ (h.below xr) (by omega)).mono ?_
          rintro e w7 ⟨c, k, rfl, hc, hk, b7⟩
          have x7 := xr.trans (b7.mono xr.size)
          go_wp2_with fail
          refine (implBloomMay c k _ hc hk).mono ?_
          rintro e w8 ⟨rfl, b8⟩
          have x8 := x7.trans (b8.mono x7.size)
          go_wp2_with fail
          refine (specBloomMay c k _ hc hk).mono ?_
          rintro e w9 ⟨rfl, b9⟩
          have x9 := x8.trans (b9.mono x8.size)
          have hee := beq_self_eq_true (bloomB c k)
          go_wp2_with fail
          refine (implBloomMay ⟨#[]⟩ k _ (by decide) hk).mono ?_
          rintro e w10 ⟨rfl, b10⟩
          have x10 := x9.trans (b10.mono x9.size)
          rw [bloomB_out (b := ⟨#[]⟩) (by decide)]
          go_wp2
          go_ret
          exact ⟨rfl, x10⟩
end Go.Proofs.Ytmbmflhcimkjpaa
