/- Walks: ReadBlock of the program. -/
import Derived.Test.YthmfiohcmnaacaaRBlkP
import Derived.Test.YthmfiohcmnaacaaBlkI
import Derived.Test.YthmfiohcmnaacaaKEntR
import Derived.Test.YthmfiohcmnaacaaKEntA
import Derived.Test.YthmfiohcmnaacaaBx
import Derived.Test.YthmfiohcmnaacaaStepR
set_option linter.unusedVariables false
set_option linter.unusedSimpArgs false
namespace Go.Proofs.Ythmfiohcmnaacaa
open Go.RowKit Sp Go.Sort

set_option maxRecDepth 100000 in
set_option maxHeartbeats 1600000 in
theorem implReadBlock (s : ByteArray) (L : List EntR) (b : Bool) (hC : BlkC s L b) (w : World) (hs : (s.size : Int) ≤ 1048576) :
    Calls Try.prog 39 #[.string s] w fun e w' => ∃ v', e = .returned (.tuple #[v', .bool b]) ∧ Row EntR.cells 30 4 w.heap.size w'.heap.size w' v' L ∧ Below w.heap.size w w' := by
  by_cases h2 : s.size < 2
  · obtain rfl : b = false := by
      cases b
      · rfl
      · have := (hC.end_eq rfl).2; omega
    obtain rfl : L = [] := (hC.no rfl).1
    go_enter Try.func39, Try.ntmps39
    go_wp2
    refine bodyPost_ret (v := .tuple #[.slice none 0 0, .bool false]) (by simp [results, Try.results39, go_sem]) rfl ⟨_, rfl, Row.nil _ _ _, Below.refl _ _⟩
  · have r0 : Rd (w.alloc (.cells #[.string s, .int .i64 0, .bool false] 103)) w.heap.size s 0 false := ⟨103, heap_alloc_new w _⟩
    have b0 : Below w.heap.size w (w.alloc (.cells #[.string s, .int .i64 0, .bool false] 103)) := (Below.refl _ _).alloc (Nat.le_refl _) _
    have HST := Lib.hid (KI.start s L b)
    have W1 : IntKind.i64.wrap ((s.size : Int) - 2) = (s.size : Int) - 2 := by rw [IntKind.wrap_i64]; omega
    have hee := endOf_le s
    obtain ⟨en, hen⟩ : ∃ en, en = endOf s := ⟨_, rfl⟩
    rw [← hen] at hee
    have HE := Lib.hid hen
    have hen2 : (readFixedL (s.extract (s.size - 2) s.size).data.toList 2).1 = en := hen.symm
    clear hen
    go_enter Try.func39, Try.ntmps39
    go_wp2_with fail
    refine (implReadFixed (s.extract (s.size - 2) s.size) 2 _).mono ?_
    rintro e wq ⟨rfl, rfl⟩
    rw [hen2]
    clear hen2
    generalize (readFixedL (s.extract (s.size - 2) s.size).data.toList 2).2 = okx at *
    go_wp2_with fail
    go_loopw [7, 8] (fun o lv wr => ∃ (k p : Nat) (l : List EntR) (bad : Bool) (last : ByteArray) (ao : Option Addr) (cp : Nat), o = .slice ao k cp ∧ lv = .string last ∧ RowKit.Hid (KI s L b k l p bad last) ∧ Rd wr w.heap.size s p bad ∧ wr.ownsRow (w.heap.size + 1) 30 4 o k (l.map EntR.cells).flatten ∧ Below w.heap.size w wr) (fun o _ _ => 16 - (match o with | .slice _ n _ => n | _ => 0))
    case atStart => exact ⟨0, 0, [], false, _, none, 0, rfl, rfl, HST, r0, World.ownsRow_nil _ _ _ _, b0⟩
    case round =>
      clear HST r0 b0
      obtain ⟨k, p, l, bad, last, ao, cp, rfl, rfl, HB, hr, ho, xb⟩ := hrel
      obtain ⟨c0, c1, c2, zf⟩ := hr.facts
      have hp := HB.out.ps
      have h16' := HB.out.six
      have zr := hr.lt
      by_cases hgo : p < en ∧ bad = false ∧ k < 16
      · obtain ⟨hpe, rfl, h16⟩ := hgo
        have hls := HB.out.ls
        go_wp2_with fail
        refine (number_any w.heap.size p s false _ hr hp hs).mono ?_
        rintro e w1 ⟨rfl, r1, t1⟩
        have x1 := below_touch xb t1 (Nat.le_refl _) xb.size
        have o1 := own_grown ho t1 (fun k hk e => by have := (ho.lt _ hk).1; have := Option.some.inj e; omega)
        have d1 := rdNum_bdI s p false hp
        clear hr t1 ho c0 c1 c2 zf
        rcases h1 : rdNum s p false with ⟨n, p1, b1⟩
        rw [h1] at r1 d1
        have H1 := Lib.hid h1
        clear h1
        simp only at r1 d1 ⊢
        by_cases hn : last.size < n
        · obtain rfl : b = false := HB.out.over hC (HE.out ▸ hpe) H1.out hn
          obtain rfl : L = [] := (hC.no rfl).1
          clear HB
          go_wp2
          refine bodyPost_ret (v := .tuple #[.slice none 0 0, .bool false]) (by simp [results, Try.results39, go_sem]) rfl ⟨_, rfl, Row.nil _ _ _, x1⟩
        · have i1 : (n : Int) ≤ last.size := by omega
          have d2 := rdShort_bd s p1 b1 d1.1
          rcases h2 : rdShort s p1 b1 with ⟨ky, p2, b2⟩
          have R2 := short_rd w.heap.size p1 s b1
          rw [h2] at d2 R2
          have H2 := Lib.hid h2
          clear h2
          simp only at d2 R2
          have i2 : ¬ 9223372036854775807 < min n last.size + ky.size := by omega
          have hR2 := Lib.hid R2
          clear R2
          go_upto_region 11 with fail
          go_cut [10] (fun s10 wx => ∃ bo, s10 = .pointer (some ⟨bo, 0, none⟩) ∧ w1.heap.size ≤ bo ∧ Bx wx bo #[.string (last.extract 0 n ++ ky), .int .i64 0, .bool false, .string ByteArray.empty] ∧ Rd wx w.heap.size s p2 b2 ∧ wx.ownsRow (w.heap.size + 1) 30 4 (.slice ao k cp) k (l.map EntR.cells).flatten ∧ Below w.heap.size w wx)
          case first =>
            have rA : Rd w1.drew w.heap.size s p1 b1 := r1
            have rZ0 : Rd (w1.alloc (.cells #[.string ⟨#[]⟩, .int .i64 0, .bool false, .string ⟨#[]⟩] 30)) w.heap.size s p1 b1 := r1.below ((Below.refl w1.heap.size w1).alloc (Nat.le_refl _) _)
            have rZ : Rd (w1.alloc (.cells #[.string ⟨#[]⟩, .int .i64 0, .bool false, .string ⟨#[]⟩] 30)).drew w.heap.size s p1 b1 := rZ0
            have BZ : Bx (w1.alloc (.cells #[.string ⟨#[]⟩, .int .i64 0, .bool false, .string ⟨#[]⟩] 30)).drew w1.heap.size #[.string ⟨#[]⟩, .int .i64 0, .bool false, .string ⟨#[]⟩] := Bx.new w1 _ _
            have oZ : (w1.alloc (.cells #[.string ⟨#[]⟩, .int .i64 0, .bool false, .string ⟨#[]⟩] 30)).drew.ownsRow (w.heap.size + 1) 30 4 (.slice ao k cp) k (l.map EntR.cells).flatten := (o1.alloc _).drew
            have xZ : Below w.heap.size w (w1.alloc (.cells #[.string ⟨#[]⟩, .int .i64 0, .bool false, .string ⟨#[]⟩] 30)).drew := (x1.alloc x1.size _).drew
            have xA : Below w.heap.size w w1.drew := x1.drew
            have oA : w1.drew.ownsRow (w.heap.size + 1) 30 4 (.slice ao k cp) k (l.map EntR.cells).flatten := o1.drew
            have z1 := r1.lt
            have hb9 : (Value.slice ao k cp).ownBlock ≠ some w1.heap.size := fun e => by have := (o1.lt _ e).2; omega
            go_region_law (go_simp; go_at_call 88; first | (refine (hR2.out _ rA d1.1 hs).mono ?_; rintro e w2 ⟨rfl, r2, t2⟩; have o2 := own_grown oA t2 (fun k hk e => by have := (oA.lt _ hk).1; have := Option.some.inj e; omega); have x2 := below_touch xA t2 (Nat.le_refl _) xA.size; have zz2 : w1.heap.size ≤ w2.heap.size := t2.size) | (refine (hR2.out _ rZ d1.1 hs).mono ?_; rintro e w2 ⟨rfl, r2, t2⟩; have B2 := BZ.grown t2 (by intro e; have := Option.some.inj e; omega); have y0 := B2.cell 0 _ rfl; have y1 := B2.cell 1 _ rfl; have y2 := B2.cell 2 _ rfl; have y3 := B2.cell 3 _ rfl; have yf := B2.frozen; have o2 := own_grown oZ t2 (fun k hk e => by have := (oZ.lt _ hk).1; have := Option.some.inj e; omega); have x2 := below_touch xZ t2 (Nat.le_refl _) xZ.size))
            all_goals
              go_wp2_with fail
              go_meet
              first
                | exact ⟨w2.heap.size, rfl, zz2, Bx.new w2 _ _, r2.below ((Below.refl w2.heap.size w2).alloc (Nat.le_refl _) _), o2.alloc _, x2.alloc x2.size _⟩
                | exact ⟨w1.heap.size, rfl, Nat.le_refl _, ((((B2.set 0 _).set 1 _).set 2 _).set 3 _), Rd.of ((((r2.bx.far _ _ (by simp; omega)).far _ _ (by simp; omega)).far _ _ (by simp; omega)).far _ _ (by simp; omega)), own_far (own_far (own_far (own_far o2 _ _ hb9) _ _ hb9) _ _ hb9) _ _ hb9, below_set (below_set (below_set (below_set x2 _ _ (by simp; omega)) _ _ (by simp; omega)) _ _ (by simp; omega)) _ _ (by simp; omega)⟩
          case rest =>
            obtain ⟨bo, rfl, hbo, B3, r3, o3, x3⟩ := hcut
            have z1 := r1.lt
            have hne : ∀ k', (Value.slice ao k cp).ownBlock = some k' → k' ≠ bo := fun k' hk' => by
              have := (o1.lt _ hk').2; omega
            clear r1 o1 x1 hR2
            go_wp2_with fail
            refine (number_any w.heap.size _ s _ _ r3 d2.1 hs).mono ?_
            rintro e w4 ⟨rfl, r4, t4⟩
            have x4 := below_touch x3 t4 (Nat.le_refl _) x3.size
            have B4 := B3.grown t4 (by intro e; have := Option.some.inj e; omega)
            have o4 := own_grown o3 t4 (fun k hk e => by have := (o3.lt _ hk).1; have := Option.some.inj e; omega)
            clear B3 r3 o3 x3 t4
            rcases h4 : rdNum s p2 b2 with ⟨q, p4, b4⟩
            have d4 := rdNum_bdI s p2 b2 d2.1
            rw [h4] at r4 d4
            have H4 := Lib.hid h4
            clear h4
            simp only at r4 d4 ⊢
            have rr4 : Rd (w4.setCell ⟨bo, 1, none⟩ (.int .i64 q)) w.heap.size s p4 b4 := Rd.of (r4.bx.far ⟨bo, 1, none⟩ _ (by simp; omega))
            have BB4 : Bx (w4.setCell ⟨bo, 1, none⟩ (.int .i64 q)) bo #[.string (last.extract 0 n ++ ky), .int .i64 q, .bool false, .string ByteArray.empty] := B4.set 1 _
            have xx4 := below_set x4 ⟨bo, 1, none⟩ (.int .i64 q) (by simp; omega)
            have oo4 := own_far o4 ⟨bo, 1, none⟩ (.int .i64 q) (fun e => hne _ e rfl)
            have y4 := B4.cell 1 _ rfl
            have yf4 := B4.frozen
            go_wp2_with fail
            refine (flag_rd w.heap.size _ s _ _ rr4 d4.1 hs).mono ?_
            rintro e w5 ⟨rfl, r5, t5⟩
            have x5 := below_touch xx4 t5 (Nat.le_refl _) xx4.size
            have B5 := BB4.grown t5 (by intro e; have := Option.some.inj e; omega)
            have o5 := own_grown oo4 t5 (fun k hk e => by have := (oo4.lt _ hk).1; have := Option.some.inj e; omega)
            clear BB4 rr4 oo4 xx4 t5
            rcases h5 : rdFlag s p4 b4 with ⟨dl, p5, b5⟩
            have d5 := rdFlag_bd s p4 b4 d4.1
            rw [h5] at r5 d5
            have H5 := Lib.hid h5
            clear h5
            simp only at r5 d5 ⊢
            have rr5 : Rd (w5.setCell ⟨bo, 2, none⟩ (.bool dl)) w.heap.size s p5 b5 := Rd.of (r5.bx.far ⟨bo, 2, none⟩ _ (by simp; omega))
            have BB5 : Bx (w5.setCell ⟨bo, 2, none⟩ (.bool dl)) bo #[.string (last.extract 0 n ++ ky), .int .i64 q, .bool dl, .string ByteArray.empty] := B5.set 2 _
            have xx5 := below_set x5 ⟨bo, 2, none⟩ (.bool dl) (by simp; omega)
            have oo5 := own_far o5 ⟨bo, 2, none⟩ (.bool dl) (fun e => hne _ e rfl)
            have y5 := B5.cell 2 _ rfl
            have yf5 := B5.frozen
            go_wp2_with fail
            refine (short_rd w.heap.size _ s _ _ rr5 d5 hs).mono ?_
            rintro e w6 ⟨rfl, r6, t6⟩
            have x6 := below_touch xx5 t6 (Nat.le_refl _) xx5.size
            have B6 := BB5.grown t6 (by intro e; have := Option.some.inj e; omega)
            have o6 := own_grown oo5 t6 (fun k hk e => by have := (oo5.lt _ hk).1; have := Option.some.inj e; omega)
            clear BB5 rr5 oo5 xx5 t6
            rcases h6 : rdShort s p5 b5 with ⟨vl, p6, b6⟩
            have d6 := rdShort_bd s p5 b5 d5
            rw [h6] at r6 d6
            have H6 := Lib.hid h6
            clear h6
            simp only at r6 d6 ⊢
            have rr6 : Rd (w6.setCell ⟨bo, 3, none⟩ (.string vl)) w.heap.size s p6 b6 := Rd.of (r6.bx.far ⟨bo, 3, none⟩ _ (by simp; omega))
            have BB6 : Bx (w6.setCell ⟨bo, 3, none⟩ (.string vl)) bo #[.string (last.extract 0 n ++ ky), .int .i64 q, .bool dl, .string vl] := B6.set 3 _
            have xx6 := below_set x6 ⟨bo, 3, none⟩ (.string vl) (by simp; omega)
            have oo6 := own_far o6 ⟨bo, 3, none⟩ (.string vl) (fun e => hne _ e rfl)
            have y6 := B6.cell 3 _ rfl
            have yf6 := B6.frozen
            have HN := Lib.hid (HB.out.step hC hs (HE.out ▸ hpe) h16 H1.out H2.out H4.out H5.out H6.out)
            have q0 := BB6.cell 0 _ rfl
            have q1 := BB6.cell 1 _ rfl
            have q2 := BB6.cell 2 _ rfl
            have q3 := BB6.cell 3 _ rfl
            clear HB
            go_wp2_with (at_builtin; go_loud (refine app_new rfl rfl Try.underlying25 info_Ent rfl (by decide) oo6 rfl 1 (by simp [Act.eval]) rfl (by simp [Value.oneCell']) (by omega) xx6 (Nat.le_succ _) (by have := rr6.lt; omega) ?_; intro v8 w8 r8 x8 g8))
            have R8 := Rd.of (rr6.bx.grown g8 (by intro e; have := (oo6.lt _ e).1; omega))
            obtain ⟨gg, cap, rfl⟩ := own_sl r8 (by omega)
            go_roundw
            case rel => exact ⟨k + 1, _, _, _, _, _, _, rfl, rfl, HN, R8, by simpa [EntR.cells] using r8, x8⟩
            case measure => simp [intOf]; omega
      · have HF := Lib.hid (HB.out.fin hC (by omega) (fun _ => by
          have := HE.out
          cases bad
          · right
            by_cases h1 : p < en
            · right; exact fun h => hgo ⟨h1, rfl, h⟩
            · left; omega
          · exact .inl rfl))
        have HL := Lib.hid HB.out.len
        obtain rfl : k = l.length := HL.out.symm
        clear HB
        have hs2 : SlT EntR.cells 4 wr (.slice ao l.length cp) l := SlT.of_own ho (fun _ => rfl) (by decide)
        have hl6 : (l.length : Int) ≤ 1048576 := by omega
        cases bad
        · have hx : ¬ p < en ∨ (p < en ∧ ¬ l.length < 16) := by
            by_cases h1 : p < en
            · exact .inr ⟨h1, fun h => hgo ⟨h1, rfl, h⟩⟩
            · exact .inl h1
          clear hgo
          rcases hx with hx | ⟨hx, hx2⟩
          · by_cases h0 : l.length = 0
            · obtain rfl : l = [] := List.eq_nil_of_length_eq_zero h0
              obtain rfl : b = false := by rw [HF.out.1]; rfl
              obtain rfl : L = [] := (hC.no rfl).1
              clear h0
              go_wp2
              refine bodyPost_ret (v := .tuple #[.slice none 0 0, .bool false]) (by simp [results, Try.results39, go_sem]) rfl ⟨_, rfl, Row.nil _ _ _, xb⟩
            · have hlen0 : decide (l.length ≠ 0) = true := by simpa using h0
              have HF2 := Lib.hid (show b = (showBlkL l == s.data.toList) ∧ (b = true → L = l) from ⟨by rw [HF.out.1, hlen0, Bool.not_false, Bool.true_and, Bool.true_and], HF.out.2⟩)
              have hcmp : ((str (showBlkL l)).toList == s.toList) = (showBlkL l == s.data.toList) := by rw [str_toList, toList_data]
              clear HF hlen0
              go_wp2_with fail
              refine (implShowBlock _ l _ hs2 hl6).mono ?_
              rintro e w2 ⟨rfl, b2⟩
              have x2 := xb.trans (b2.mono xb.size)
              have o2 := own_below ho b2
              clear hs2 b2 ho hr
              rcases hq : (showBlkL l == s.data.toList) with _ | _
              · obtain rfl : b = false := by rw [HF2.out.1, hq]
                obtain rfl : L = [] := (hC.no rfl).1
                rw [hq] at hcmp
                clear hq
                go_wp2
                refine bodyPost_ret (v := .tuple #[.slice none 0 0, .bool false]) (by simp [results, Try.results39, go_sem]) rfl ⟨_, rfl, Row.nil _ _ _, x2⟩
              · obtain rfl : b = true := by rw [HF2.out.1, hq]
                have HLL := Lib.hid (HF2.out.2 rfl)
                rw [hq] at hcmp
                clear hq
                go_wp2
                refine bodyPost_ret (v := .tuple #[.slice ao l.length cp, .bool true]) (by simp [results, Try.results39, go_sem]) rfl ⟨_, rfl, ?_, x2⟩
                rw [HLL.out]
                exact Row.up o2 rfl (Nat.le_succ _)
          · have h0 : ¬ l.length = 0 := by omega
            have hlen0 : decide (l.length ≠ 0) = true := by simpa using h0
            have HF2 := Lib.hid (show b = (showBlkL l == s.data.toList) ∧ (b = true → L = l) from ⟨by rw [HF.out.1, hlen0, Bool.not_false, Bool.true_and, Bool.true_and], HF.out.2⟩)
            have hcmp : ((str (showBlkL l)).toList == s.toList) = (showBlkL l == s.data.toList) := by rw [str_toList, toList_data]
            clear HF hlen0
            go_wp2_with fail
            refine (implShowBlock _ l _ hs2 hl6).mono ?_
            rintro e w2 ⟨rfl, b2⟩
            have x2 := xb.trans (b2.mono xb.size)
            have o2 := own_below ho b2
            clear hs2 b2 ho hr
            rcases hq : (showBlkL l == s.data.toList) with _ | _
            · obtain rfl : b = false := by rw [HF2.out.1, hq]
              obtain rfl : L = [] := (hC.no rfl).1
              rw [hq] at hcmp
              clear hq
              go_wp2
              refine bodyPost_ret (v := .tuple #[.slice none 0 0, .bool false]) (by simp [results, Try.results39, go_sem]) rfl ⟨_, rfl, Row.nil _ _ _, x2⟩
            · obtain rfl : b = true := by rw [HF2.out.1, hq]
              have HLL := Lib.hid (HF2.out.2 rfl)
              rw [hq] at hcmp
              clear hq
              go_wp2
              refine bodyPost_ret (v := .tuple #[.slice ao l.length cp, .bool true]) (by simp [results, Try.results39, go_sem]) rfl ⟨_, rfl, ?_, x2⟩
              rw [HLL.out]
              exact Row.up o2 rfl (Nat.le_succ _)
        · obtain rfl : b = false := by rw [HF.out.1]; rfl
          obtain rfl : L = [] := (hC.no rfl).1
          clear hgo
          by_cases hx : p < en
          all_goals
            go_wp2
            refine bodyPost_ret (v := .tuple #[.slice none 0 0, .bool false]) (by simp [results, Try.results39, go_sem]) rfl ⟨_, rfl, Row.nil _ _ _, xb⟩
end Go.Proofs.Ythmfiohcmnaacaa
