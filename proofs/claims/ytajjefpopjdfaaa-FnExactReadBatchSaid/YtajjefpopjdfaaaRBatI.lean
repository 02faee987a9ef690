/- Walks: ReadBatch of the program. -/
import Derived.Test.YtajjefpopjdfaaaRBatP
import Derived.Test.YtajjefpopjdfaaaStepR
import Derived.Test.YtajjefpopjdfaaaKOpR
import Derived.Test.YtajjefpopjdfaaaKOpA
import Derived.Test.YtajjefpopjdfaaaBx
set_option linter.unusedVariables false
set_option linter.unusedSimpArgs false
namespace Go.Proofs.Ytajjefpopjdfaaa
open Go.RowKit Sp Go.Sort

set_option maxRecDepth 100000 in
set_option maxHeartbeats 1600000 in
theorem implReadBatch (s : ByteArray) (L : List OpR) (b : Bool) (hC : BatC s L b) (w : World) (hs : (s.size : Int) ≤ 1048576) :
    Calls Try.prog 23 #[.string s] w fun e w' => ∃ v', e = .returned (.tuple #[v', .bool b]) ∧ Row OpR.cells 58 3 w.heap.size w'.heap.size w' v' L ∧ Below w.heap.size w w' := by
  have r0 : Rd (w.alloc (.cells #[.string s, .int .i64 0, .bool false] 84)) w.heap.size s 0 false := ⟨84, heap_alloc_new w _⟩
  have b0 : Below w.heap.size w (w.alloc (.cells #[.string s, .int .i64 0, .bool false] 84)) := (Below.refl _ _).alloc (Nat.le_refl _) _
  have HST := Lib.hid (BI.start hC)
  have hbd := rdNum_bdI s 0 false (by omega)
  go_enter Try.func23, Try.ntmps23
  go_wp2_with fail
  refine (number_any w.heap.size 0 s false _ r0 (by omega) hs).mono ?_
  rintro e w1 ⟨rfl, r1, t1⟩
  have x1 := below_touch b0 t1 (Nat.le_refl _) b0.size
  have z1 := t1.size
  rw [World.size_alloc] at z1
  clear r0 b0 t1
  generalize rdNum s 0 false = rn at *
  obtain ⟨n, p0, bad0⟩ := rn
  simp only at r1 hbd
  have hn49 := hbd.2
  clear hbd
  go_wp2_with fail
  go_loopw [6, 7] (fun o i wr => ∃ (k p : Nat) (l : List OpR) (bad : Bool) (ao : Option Addr) (c : Nat), i = .int .i64 k ∧ o = .slice ao k c ∧ RowKit.Hid (BI s L b n k l p bad) ∧ Rd wr w.heap.size s p bad ∧ wr.ownsRow (w.heap.size + 1) 58 3 o k (l.map OpR.cells).flatten ∧ Below w.heap.size w wr) (fun _ i _ => 6 - (intOf i).toNat)
  case atStart => exact ⟨0, p0, [], bad0, none, 0, rfl, rfl, HST, r1, World.ownsRow_nil _ _ _ _, x1⟩
  case round =>
    obtain ⟨k, p, l, bad, ao, c, rfl, rfl, HB, hr, ho, xb⟩ := hrel
    obtain ⟨c0, c1, c2, zf⟩ := hr.facts
    have hp := HB.out.ps
    have zr := hr.lt
    have zr := hr.lt
    have zr := hr.lt
    have zr := hr.lt
    have zr := hr.lt
    by_cases hgo : bad = false ∧ k < n ∧ k < 6
    · obtain ⟨rfl, hn, h6⟩ := hgo
      have HN := Lib.hid (HB.out.step hC hn h6)
      have HO := Lib.hid (show rdOp s p = if (rdFlag s p false).1 then (⟨(rdShort s (rdFlag s p false).2.1 (rdFlag s p false).2.2).1, true, str []⟩, (rdShort s (rdFlag s p false).2.1 (rdFlag s p false).2.2).2)
        else (⟨(rdShort s (rdFlag s p false).2.1 (rdFlag s p false).2.2).1, false, (rdShort s (rdShort s (rdFlag s p false).2.1 (rdFlag s p false).2.2).2.1 (rdShort s (rdFlag s p false).2.1 (rdFlag s p false).2.2).2.2).1⟩,
          (rdShort s (rdShort s (rdFlag s p false).2.1 (rdFlag s p false).2.2).2.1 (rdShort s (rdFlag s p false).2.1 (rdFlag s p false).2.2).2.2).2) from rfl)
      have d2 := rdFlag_bd s p false hp
      go_wp2_with fail
      refine (flag_rd w.heap.size p s false _ hr hp hs).mono ?_
      rintro e w2 ⟨rfl, r2, t2⟩
      have x2 := below_touch xb t2 (Nat.le_refl _) xb.size
      have o2 := own_grown ho t2 (fun k hk e => by have := (ho.lt _ hk).1; have := Option.some.inj e; omega)
      generalize rdFlag s p false = fv at *
      obtain ⟨fl, p2, bad2⟩ := fv
      simp only at r2 d2 HO
      clear hr t2 ho c0 c1 c2 zf
      have d3 := rdShort_bd s p2 bad2 d2
      have B3 := Bx.new w2 #[.string ByteArray.empty, .bool fl, .string ByteArray.empty] 58
      have r3 := Rd.below r2 ((Below.refl w2.heap.size w2).alloc (Nat.le_refl _) (.cells #[.string ByteArray.empty, .bool fl, .string ByteArray.empty] 58))
      have o3 := o2.alloc (.cells #[.string ByteArray.empty, .bool fl, .string ByteArray.empty] 58)
      have x3 := x2.alloc x2.size (.cells #[.string ByteArray.empty, .bool fl, .string ByteArray.empty] 58)
      go_wp2_with fail
      refine (short_rd w.heap.size p2 s bad2 _ r3 d2 hs).mono ?_
      rintro e w4 ⟨rfl, r4, t4⟩
      have x4 := below_touch x3 t4 (Nat.le_refl _) x3.size
      have z2 := r2.lt
      have B4 := B3.grown t4 (by intro e; have := Option.some.inj e; omega)
      have o4 := own_grown o3 t4 (fun k hk e => by have := (o3.lt _ hk).1; have := Option.some.inj e; omega)
      generalize rdShort s p2 bad2 = sv at *
      obtain ⟨ky, p4, bad4⟩ := sv
      simp only at r4 d3 HO
      clear r3 t4 B3 x3
      generalize hbo : w2.heap.size = bo at *
      have r5 : Rd (w4.setCell ⟨bo, 0, none⟩ (.string ky)) w.heap.size s p4 bad4 := Rd.of (r4.bx.far ⟨bo, 0, none⟩ _ (by simp; omega))
      have B5 : Bx (w4.setCell ⟨bo, 0, none⟩ (.string ky)) bo #[.string ky, .bool fl, .string ByteArray.empty] := B4.set 0 _
      have x5 := below_set x4 ⟨bo, 0, none⟩ (.string ky) (by simp; omega)
      have c0 := B4.cell 0 _ rfl
      have c1 := B4.cell 1 _ rfl
      have zf := B4.frozen
      have f0 := B5.cell 0 _ rfl
      have f1 := B5.cell 1 _ rfl
      have f2 := B5.cell 2 _ rfl
      have hne : ∀ k', (Value.slice ao k c).ownBlock = some k' → k' ≠ bo := fun k' hk' => by
        have := (o2.lt _ hk').2; omega
      have o5 := own_far o4 ⟨bo, 0, none⟩ (.string ky) (fun e => hne _ e rfl)
      cases fl
      · simp only [Bool.false_eq_true, if_false] at HO
        go_wp2_with fail
        refine (short_rd w.heap.size p4 s bad4 _ r5 d3.1 hs).mono ?_
        rintro e w6 ⟨rfl, r6, t6⟩
        have x6 := below_touch x5 t6 (Nat.le_refl _) x5.size
        have B6 := B5.grown t6 (by intro e; have := Option.some.inj e; omega)
        have o6 := own_grown o5 t6 (fun k hk e => by have := (o5.lt _ hk).1; have := Option.some.inj e; omega)
        clear c0 c1 zf f0 f1 f2
        have d6 := rdShort_bd s p4 bad4 d3.1
        generalize rdShort s p4 bad4 = sv at *
        obtain ⟨vl, p6, bad6⟩ := sv
        simp only at r6 d6 HO
        have r7 : Rd (w6.setCell ⟨bo, 2, none⟩ (.string vl)) w.heap.size s p6 bad6 := Rd.of (r6.bx.far ⟨bo, 2, none⟩ _ (by simp; omega))
        have B7 : Bx (w6.setCell ⟨bo, 2, none⟩ (.string vl)) bo #[.string ky, .bool false, .string vl] := B6.set 2 _
        have x7 := below_set x6 ⟨bo, 2, none⟩ (.string vl) (by simp; omega)
        have c2 := B6.cell 2 _ rfl
        have zf := B6.frozen
        have o7 := own_far o6 ⟨bo, 2, none⟩ (.string vl) (fun e => hne _ e rfl)
        clear d3 d6
        have q0 := B7.cell 0 _ rfl
        have q1 := B7.cell 1 _ rfl
        have q2 := B7.cell 2 _ rfl
        go_wp2_with (at_builtin; refine app_new rfl rfl Try.underlying25 info_Op rfl (by decide) o7 rfl 1 (by simp [Act.eval]) rfl (by simp [Value.oneCell']) (by omega) x7 (Nat.le_succ _) (by have := r7.lt; omega) ?_; intro v8 w8 r8 x8 g8)
        have R8 := Rd.of (r7.bx.grown g8 (by intro e; have := (o7.lt _ e).1; omega))
        obtain ⟨g, cap, rfl⟩ := own_sl r8 (by omega)
        go_roundw
        case rel => exact ⟨k + 1, _, _, _, _, _, by go_num, rfl, HN.out, by rw [HO.out]; exact R8, by rw [HO.out]; simpa [OpR.cells] using r8, x8⟩
        case measure => simp [intOf]; omega
      · simp only [if_true] at HO
        rw [show str [] = ByteArray.empty from rfl] at HO
        clear d3
        have q0 := B5.cell 0 _ rfl
        have q1 := B5.cell 1 _ rfl
        have q2 := B5.cell 2 _ rfl
        go_wp2_with (at_builtin; refine app_new rfl rfl Try.underlying25 info_Op rfl (by decide) o5 rfl 1 (by simp [Act.eval]) rfl (by simp [Value.oneCell']) (by omega) x5 (Nat.le_succ _) (by have := r5.lt; omega) ?_; intro v8 w8 r8 x8 g8)
        have R8 := Rd.of (r5.bx.grown g8 (by intro e; have := (o5.lt _ e).1; omega))
        obtain ⟨g, cap, rfl⟩ := own_sl r8 (by omega)
        go_roundw
        case rel => exact ⟨k + 1, _, _, _, _, _, by go_num, rfl, HN.out, by rw [HO.out]; exact R8, by rw [HO.out]; simpa [OpR.cells] using r8, x8⟩
        case measure => simp [intOf]; omega
    · have HF := Lib.hid (HB.out.fin hC (by cases bad <;> first | exact .inl rfl | (right; simp only [true_and, Classical.not_and_iff_not_or_not] at hgo; omega)))
      have HL := Lib.hid HB.out.len
      have h66 := HB.out.six
      obtain rfl : k = l.length := HL.out.symm
      clear HB HST
      have hx : (bad = true ∧ (l.length : Int) < min (n : Int) 6) ∨ ¬ (l.length : Int) < min (n : Int) 6 := by
        by_cases h : (l.length : Int) < min (n : Int) 6
        · left; refine ⟨?_, h⟩
          cases bad
          · exact absurd ⟨rfl, by omega, by omega⟩ hgo
          · rfl
        · exact .inr h
      clear hgo
      rcases hx with ⟨hb, hx⟩ | hx
      all_goals
        go_wp2_with fail
        refine (done_any w.heap.size p s bad _ hr hs).mono ?_
        rintro e w2 ⟨rfl, b2⟩
        have x2 := xb.trans (b2.mono xb.size)
        have o2 := own_below ho b2
        clear hr ho c0 c1 c2 zf b2 xb
        try clear hb
        generalize (!bad && p == s.size) = dn at *
        cases dn
        · obtain rfl : b = false := by rw [HF.out.1, Bool.false_and]
          obtain rfl : L = [] := (hC.no rfl).1
          clear hx
          go_wp2
          refine bodyPost_ret (v := .tuple #[.slice none 0 0, .bool false]) (by simp [results, Try.results23, go_sem]) rfl ⟨_, rfl, Row.nil _ _ _, x2⟩
        · simp only [Bool.true_and] at HF
          by_cases hkn : l.length = n
          · rw [beq_iff_eq.2 hkn, Bool.true_and] at HF
            have hg : ((l.length : Int) != (n : Int)) = false := by simp; omega
            have HK := Lib.hid hkn
            have hs2 : SlT OpR.cells 3 w2 (.slice ao l.length c) l := SlT.of_own o2 (fun _ => rfl) (by decide)
            have hl6 : (l.length : Int) ≤ 1048576 := by omega
            clear hkn hx
            go_wp2_with fail
            refine (implBatchOk _ l _ hs2 hl6).mono ?_
            rintro e w3 ⟨rfl, b3⟩
            have x3 := x2.trans (b3.mono x2.size)
            have o3 := own_below o2 b3
            clear hs2 o2 b3 hl6
            rcases hbl : batchB l with _ | _
            · obtain rfl : b = false := by rw [HF.out.1, hbl]
              obtain rfl : L = [] := (hC.no rfl).1
              clear hbl
              go_wp2
              refine bodyPost_ret (v := .tuple #[.slice none 0 0, .bool false]) (by simp [results, Try.results23, go_sem]) rfl ⟨_, rfl, Row.nil _ _ _, x3⟩
            · obtain rfl : b = true := by rw [HF.out.1, hbl]
              have HLL := Lib.hid (HF.out.2 rfl)
              clear hbl
              go_wp2
              refine bodyPost_ret (v := .tuple #[.slice ao l.length c, .bool true]) (by simp [results, Try.results23, go_sem]) rfl ⟨_, rfl, ?_, x3⟩
              rw [HLL.out]
              exact Row.up o3 rfl (Nat.le_succ _)
          · have hne : (l.length == n) = false := by simpa using hkn
            obtain rfl : b = false := by rw [HF.out.1, hne, Bool.false_and]
            obtain rfl : L = [] := (hC.no rfl).1
            have hg : ((l.length : Int) != (n : Int)) = true := by simp; omega
            clear hx hkn hne
            go_wp2
            refine bodyPost_ret (v := .tuple #[.slice none 0 0, .bool false]) (by simp [results, Try.results23, go_sem]) rfl ⟨_, rfl, Row.nil _ _ _, x2⟩
end Go.Proofs.Ytajjefpopjdfaaa
