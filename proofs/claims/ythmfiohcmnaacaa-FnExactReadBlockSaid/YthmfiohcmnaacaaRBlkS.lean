/- Walks: ReadBlock of the reference. -/
import Derived.Test.YthmfiohcmnaacaaRBlkP
import Derived.Test.YthmfiohcmnaacaaBlkS
import Derived.Test.YthmfiohcmnaacaaKEntR
import Derived.Test.YthmfiohcmnaacaaKEntA
import Derived.Test.YthmfiohcmnaacaaBx
import Derived.Test.YthmfiohcmnaacaaStepR
set_option linter.unusedVariables false
set_option linter.unusedSimpArgs false
namespace Go.Proofs.Ythmfiohcmnaacaa
open Go.RowKit Sp Go.Sort
theorem u8_one (x : UInt8) : ((x.toNat : Int) == 1) = (x == 1) := by
  rw [Bool.eq_iff_iff, beq_iff_eq, beq_iff_eq]
  constructor
  · intro h; exact UInt8.toNat_inj.1 (by show x.toNat = 1; omega)
  · rintro rfl; rfl

set_option maxRecDepth 100000 in
set_option maxHeartbeats 1600000 in
theorem specReadBlock (s : ByteArray) (L : List EntR) (b : Bool) (hC : BlkC s L b) (w : World) (hs : (s.size : Int) ≤ 1048576) :
    Calls Try.prog 38 #[.string s] w fun e w' => ∃ v', e = .returned (.tuple #[v', .bool b]) ∧ SlT EntR.cells 4 w' v' L ∧ Below w.heap.size w w' := by
  have h0 : (w.alloc (.cells #[] 30)).ownsRow w.heap.size 30 4 (.slice (some ⟨w.heap.size, 0, none⟩) 0 0) 0 [] := World.ownsRow_lit w #[] 0 (Nat.le_refl _) (by simp [maxLen]) rfl
  have x0 : Below w.heap.size w (w.alloc (.cells #[] 30)) := (Below.refl _ _).alloc (Nat.le_refl _) _
  have hnil : ∀ (W : World) (a : Addr), SlT EntR.cells 4 W (.slice (some a) 0 0) ([] : List EntR) := fun W a => ⟨some a, 0, rfl, Nat.le_refl _, by decide, fun h => absurd h (by simp)⟩
  by_cases h2 : s.size < 2
  · obtain rfl : b = false := by
      cases b
      · rfl
      · have := (hC.end_eq rfl).2; omega
    obtain rfl : L = [] := (hC.no rfl).1
    go_enter Try.func38, Try.ntmps38
    go_wp2
    refine bodyPost_ret (v := .tuple #[.slice (some ⟨w.heap.size, 0, none⟩) 0 0, .bool false]) (by simp [results, Try.results38, go_sem]) rfl ⟨_, rfl, hnil _ _, x0⟩
  · have HST := Lib.hid (KI.start s L b)
    have W1 : IntKind.i64.wrap ((s.size : Int) - 2) = (s.size : Int) - 2 := by rw [IntKind.wrap_i64]; omega
    have hee := endOf_le s
    obtain ⟨en, hen⟩ : ∃ en, en = endOf s := ⟨_, rfl⟩
    rw [← hen] at hee
    have HE := Lib.hid hen
    have hen2 : (readFixedL (s.extract (s.size - 2) s.size).data.toList 2).1 = en := hen.symm
    clear hen
    go_enter Try.func38, Try.ntmps38
    go_wp2_with fail
    refine (specReadFixed (s.extract (s.size - 2) s.size) 2 _).mono ?_
    rintro e wq ⟨rfl, rfl⟩
    rw [hen2]
    clear hen2
    generalize (readFixedL (s.extract (s.size - 2) s.size).data.toList 2).2 = okx at *
    go_wp2
    go_loopw [4, 7, 8] (fun o a lv wr => ∃ (k p : Nat) (l : List EntR) (last : ByteArray) (ao : Option Addr) (cp : Nat), o = .slice ao k cp ∧ a = .int .i64 p ∧ lv = .string last ∧ RowKit.Hid (KI s L b k l p false last) ∧ wr.ownsRow w.heap.size 30 4 o k (l.map EntR.cells).flatten ∧ Below w.heap.size w wr) (fun o _ _ _ => 16 - (match o with | .slice _ n _ => n | _ => 0))
    case atStart => exact ⟨0, 0, [], _, _, _, rfl, rfl, rfl, HST, h0, x0⟩
    case round =>
      clear HST h0 x0
      obtain ⟨k, p, l, last, ao, cp, rfl, rfl, rfl, HB, ho, xb⟩ := hrel
      have hp := HB.out.ps
      have hk6 := HB.out.six
      by_cases hgo : p < en
      · by_cases hen : (en : Int) ≤ (s.size : Int) - 2
        · by_cases hk16 : k < 16
          · rcases h1 : takeV s p with _ | ⟨n, p1⟩
            · obtain rfl : b = false := HB.out.s1 hC (HE.out ▸ hgo) h1
              obtain rfl : L = [] := (hC.no rfl).1
              have hv' : tkV s (p : Int) = none := by rw [tkV_nat]; exact h1
              clear h1 HB
              go_wp2_with fail
              refine (vars1_none s p _ hs hv').mono ?_
              rintro e w1 ⟨g, c, rfl, b1⟩
              have x1 := xb.trans (b1.mono xb.size)
              clear hv'
              go_wp2
              refine bodyPost_ret (v := .tuple #[.slice (some ⟨w1.heap.size, 0, none⟩) 0 0, .bool false]) (by simp [results, Try.results38, go_sem]) rfl ⟨_, rfl, hnil _ _, x1.alloc x1.size _⟩
            · have H1 := Lib.hid h1
              have hv' : tkV s (p : Int) = some (n, p1) := by rw [tkV_nat]; exact h1
              have hq1 := (takeV_some h1).2.2.2
              clear h1
              go_wp2_with fail
              refine (vars1_some s p n p1 _ hs hv').mono ?_
              rintro e w1 ⟨g, c, rfl, c1, g0, g1, b1⟩
              have x1 := xb.trans (b1.mono xb.size)
              have o1 := own_below ho b1
              have hp1 : ¬ (p1 : Int) < 0 := by omega
              clear hv' b1 ho g0
              by_cases hn : last.size < n
              · obtain rfl : b = false := HB.out.over hC (HE.out ▸ hgo) (rdNum_some H1.out) hn
                obtain rfl : L = [] := (hC.no rfl).1
                clear HB
                go_wp2
                refine bodyPost_ret (v := .tuple #[.slice (some ⟨w1.heap.size, 0, none⟩) 0 0, .bool false]) (by simp [results, Try.results38, go_sem]) rfl ⟨_, rfl, hnil _ _, x1.alloc x1.size _⟩
              · go_wp2_with fail
                refine (take_any s (p1 : Int) _ hs).mono ?_
                rintro e w2 ⟨rfl, b2⟩
                have x2 := x1.trans (b2.mono x1.size)
                have o2 := own_below o1 b2
                have c2 := (b2.cell (p := ⟨g, 0, none⟩) g1).trans c1
                have g2 := Nat.lt_of_lt_of_le g1 b2.size
                have T2 := tkP_bd s (p1 : Int)
                clear c1 o1 b2 g1
                rcases h2 : tkP s (p1 : Int) with ⟨ky, e2⟩
                rw [h2] at T2
                have H2 := Lib.hid h2
                clear h2
                simp only at T2 ⊢
                rcases h3 : tkV s e2 with _ | ⟨q, p3⟩
                · obtain rfl : b = false := HB.out.s2 hC (HE.out ▸ hgo) H1.out H2.out h3
                  obtain rfl : L = [] := (hC.no rfl).1
                  clear HB
                  go_wp2_with fail
                  refine (vars1_none s e2 _ hs h3).mono ?_
                  rintro e w3 ⟨g', c', rfl, b3⟩
                  have x3 := x2.trans (b3.mono x2.size)
                  clear h3
                  go_wp2
                  refine bodyPost_ret (v := .tuple #[.slice (some ⟨w3.heap.size, 0, none⟩) 0 0, .bool false]) (by simp [results, Try.results38, go_sem]) rfl ⟨_, rfl, hnil _ _, x3.alloc x3.size _⟩
                · have H3 := Lib.hid h3
                  have hp3 : p3 ≤ s.size ∧ q ≤ 562949953421311 := by
                    obtain ⟨pp, _, hh⟩ := tkV_some h3
                    have := takeV_some hh
                    exact ⟨this.2.2.2, this.2.1⟩
                  go_wp2_with fail
                  refine (vars1_some s e2 q p3 _ hs h3).mono ?_
                  rintro e w3 ⟨g', c', rfl, d4, _, gd, b3⟩
                  have x4 := x2.trans (b3.mono x2.size)
                  have o4 := own_below o2 b3
                  have c4 := (b3.cell (p := ⟨g, 0, none⟩) g2).trans c2
                  have g4 := Nat.lt_of_lt_of_le g2 b3.size
                  have hp30 : ¬ (p3 : Int) < 0 := by omega
                  clear h3 c2 o2 b3 g2
                  by_cases h4 : p3 < s.size
                  · have W3 : IntKind.i64.wrap ((p3 : Int) + 1) = (p3 : Int) + 1 := by rw [IntKind.wrap_i64]; omega
                    have hu := u8_one s[p3]
                    rcases hd : (s[p3] == 1) with _ | _
                    · have HD := Lib.hid hd
                      rw [hd] at hu
                      clear hd
                      go_wp2_with fail
                      refine (take_any s ((p3 : Int) + 1) _ hs).mono ?_
                      rintro e w5 ⟨rfl, b5⟩
                      have x5 := x4.trans (b5.mono x4.size)
                      have o5 := own_below o4 b5
                      have c5 := (b5.cell (p := ⟨g, 0, none⟩) g4).trans c4
                      have d5 := (b5.cell (p := ⟨g', 0, none⟩) gd).trans d4
                      have T5 := tkP_bd s ((p3 : Int) + 1)
                      clear c4 d4 o4 b5
                      rcases h5 : tkP s ((p3 : Int) + 1) with ⟨vl, e5⟩
                      rw [h5] at T5
                      have H5 := Lib.hid h5
                      clear h5
                      simp only at T5 ⊢
                      by_cases he5 : e5 < 0
                      · obtain rfl : b = false := HB.out.s5 hC (HE.out ▸ hgo) H1.out H2.out H3.out H5.out he5
                        obtain rfl : L = [] := (hC.no rfl).1
                        clear HB
                        go_wp2
                        refine bodyPost_ret (v := .tuple #[.slice (some ⟨w5.heap.size, 0, none⟩) 0 0, .bool false]) (by simp [results, Try.results38, go_sem]) rfl ⟨_, rfl, hnil _ _, x5.alloc x5.size _⟩
                      · obtain ⟨p5, rfl⟩ : ∃ p5 : Nat, e5 = (p5 : Int) := ⟨e5.toNat, by omega⟩
                        have HN := Lib.hid (HB.out.sstep hC hs (HE.out ▸ hgo) hk16 H1.out H2.out H3.out h4 H5.out)
                        rw [HD.out] at HN
                        have hls := HB.out.ls
                        clear HB
                        have i1 : (n : Int) ≤ last.size := by omega
                        have i2 : ¬ 9223372036854775807 < ((last.extract 0 n).size : Int) + (ky.size : Int) := by rw [ByteArray.size_extract]; omega
                        have i3 : ¬ 9223372036854775807 < (last.extract 0 n).size + ky.size := by rw [ByteArray.size_extract]; omega
                        go_wp2_with (at_builtin; go_loud (refine app_new rfl rfl Try.underlying25 info_Ent rfl (by decide) o5 rfl 1 (by simp [Act.eval]) rfl (by simp [Value.oneCell']) (by omega) x5 (Nat.le_refl _) x5.size ?_; intro v8 w8 r8 x8 g8))
                        obtain ⟨gg, cap, rfl⟩ := own_sl r8 (by omega)
                        go_roundw
                        case rel => exact ⟨k + 1, p5, _, _, _, _, rfl, rfl, rfl, HN, by simpa [EntR.cells] using r8, x8⟩
                        case measure => simp [intOf]; omega
                    · have HD := Lib.hid hd
                      rw [hd] at hu
                      clear hd
                      go_wp2_with fail
                      refine (take_any s ((p3 : Int) + 1) _ hs).mono ?_
                      rintro e w5 ⟨rfl, b5⟩
                      have x5 := x4.trans (b5.mono x4.size)
                      have o5 := own_below o4 b5
                      have c5 := (b5.cell (p := ⟨g, 0, none⟩) g4).trans c4
                      have d5 := (b5.cell (p := ⟨g', 0, none⟩) gd).trans d4
                      have T5 := tkP_bd s ((p3 : Int) + 1)
                      clear c4 d4 o4 b5
                      rcases h5 : tkP s ((p3 : Int) + 1) with ⟨vl, e5⟩
                      rw [h5] at T5
                      have H5 := Lib.hid h5
                      clear h5
                      simp only at T5 ⊢
                      by_cases he5 : e5 < 0
                      · obtain rfl : b = false := HB.out.s5 hC (HE.out ▸ hgo) H1.out H2.out H3.out H5.out he5
                        obtain rfl : L = [] := (hC.no rfl).1
                        clear HB
                        go_wp2
                        refine bodyPost_ret (v := .tuple #[.slice (some ⟨w5.heap.size, 0, none⟩) 0 0, .bool false]) (by simp [results, Try.results38, go_sem]) rfl ⟨_, rfl, hnil _ _, x5.alloc x5.size _⟩
                      · obtain ⟨p5, rfl⟩ : ∃ p5 : Nat, e5 = (p5 : Int) := ⟨e5.toNat, by omega⟩
                        have HN := Lib.hid (HB.out.sstep hC hs (HE.out ▸ hgo) hk16 H1.out H2.out H3.out h4 H5.out)
                        rw [HD.out] at HN
                        have hls := HB.out.ls
                        clear HB
                        have i1 : (n : Int) ≤ last.size := by omega
                        have i2 : ¬ 9223372036854775807 < ((last.extract 0 n).size : Int) + (ky.size : Int) := by rw [ByteArray.size_extract]; omega
                        have i3 : ¬ 9223372036854775807 < (last.extract 0 n).size + ky.size := by rw [ByteArray.size_extract]; omega
                        go_wp2_with (at_builtin; go_loud (refine app_new rfl rfl Try.underlying25 info_Ent rfl (by decide) o5 rfl 1 (by simp [Act.eval]) rfl (by simp [Value.oneCell']) (by omega) x5 (Nat.le_refl _) x5.size ?_; intro v8 w8 r8 x8 g8))
                        obtain ⟨gg, cap, rfl⟩ := own_sl r8 (by omega)
                        go_roundw
                        case rel => exact ⟨k + 1, p5, _, _, _, _, rfl, rfl, rfl, HN, by simpa [EntR.cells] using r8, x8⟩
                        case measure => simp [intOf]; omega
                  · obtain rfl : b = false := HB.out.s3 hC (HE.out ▸ hgo) H1.out H2.out H3.out h4
                    obtain rfl : L = [] := (hC.no rfl).1
                    clear HB
                    go_wp2
                    refine bodyPost_ret (v := .tuple #[.slice (some ⟨w3.heap.size, 0, none⟩) 0 0, .bool false]) (by simp [results, Try.results38, go_sem]) rfl ⟨_, rfl, hnil _ _, x4.alloc x4.size _⟩
          · have HF := Lib.hid (HB.out.fin hC (by omega) (fun _ => .inr (.inr hk16)))
            have HL := Lib.hid HB.out.len
            obtain rfl : k = l.length := HL.out.symm
            clear HB
            have hs2 : SlT EntR.cells 4 wr (.slice ao l.length cp) l := SlT.of_own ho (fun _ => rfl) (by decide)
            have hl6 : (l.length : Int) ≤ 1048576 := by omega
            by_cases h0 : l.length = 0
            · exact absurd h0 (by omega)
            · have hlen0 : decide (l.length ≠ 0) = true := by simpa using h0
              have HF2 := Lib.hid (show b = (showBlkL l == s.data.toList) ∧ (b = true → L = l) from ⟨by rw [HF.out.1, hlen0, Bool.not_false, Bool.true_and, Bool.true_and], HF.out.2⟩)
              have hcmp : ((str (showBlkL l)).toList == s.toList) = (showBlkL l == s.data.toList) := by rw [str_toList, toList_data]
              clear HF hlen0
              go_wp2_with fail
              refine (specShowBlock _ l _ hs2 hl6).mono ?_
              rintro e w2 ⟨rfl, b2⟩
              have x2 := xb.trans (b2.mono xb.size)
              have hs3 := hs2.below b2
              clear hs2 b2
              rcases hq : (showBlkL l == s.data.toList) with _ | _
              · obtain rfl : b = false := by rw [HF2.out.1, hq]
                obtain rfl : L = [] := (hC.no rfl).1
                rw [hq] at hcmp
                clear hq
                go_wp2
                refine bodyPost_ret (v := .tuple #[.slice (some ⟨w2.heap.size, 0, none⟩) 0 0, .bool false]) (by simp [results, Try.results38, go_sem]) rfl ⟨_, rfl, hnil _ _, x2.alloc x2.size _⟩
              · obtain rfl : b = true := by rw [HF2.out.1, hq]
                have HLL := Lib.hid (HF2.out.2 rfl)
                rw [hq] at hcmp
                clear hq
                go_wp2
                refine bodyPost_ret (v := .tuple #[.slice ao l.length cp, .bool true]) (by simp [results, Try.results38, go_sem]) rfl ⟨_, rfl, ?_, x2⟩
                rw [HLL.out]
                exact hs3
        · have HF := Lib.hid (HB.out.fin hC (by omega) (fun hb => by exfalso; have := (hC.end_eq hb).2; have := HE.out; omega))
          have HL := Lib.hid HB.out.len
          obtain rfl : k = l.length := HL.out.symm
          clear HB
          have hs2 : SlT EntR.cells 4 wr (.slice ao l.length cp) l := SlT.of_own ho (fun _ => rfl) (by decide)
          have hl6 : (l.length : Int) ≤ 1048576 := by omega
          by_cases h0 : l.length = 0
          · obtain rfl : l = [] := List.eq_nil_of_length_eq_zero h0
            obtain rfl : b = false := by rw [HF.out.1]; rfl
            obtain rfl : L = [] := (hC.no rfl).1
            clear h0
            go_wp2
            refine bodyPost_ret (v := .tuple #[.slice (some ⟨wr.heap.size, 0, none⟩) 0 0, .bool false]) (by simp [results, Try.results38, go_sem]) rfl ⟨_, rfl, hnil _ _, xb.alloc xb.size _⟩
          · have hlen0 : decide (l.length ≠ 0) = true := by simpa using h0
            have HF2 := Lib.hid (show b = (showBlkL l == s.data.toList) ∧ (b = true → L = l) from ⟨by rw [HF.out.1, hlen0, Bool.not_false, Bool.true_and, Bool.true_and], HF.out.2⟩)
            have hcmp : ((str (showBlkL l)).toList == s.toList) = (showBlkL l == s.data.toList) := by rw [str_toList, toList_data]
            clear HF hlen0
            go_wp2_with fail
            refine (specShowBlock _ l _ hs2 hl6).mono ?_
            rintro e w2 ⟨rfl, b2⟩
            have x2 := xb.trans (b2.mono xb.size)
            have hs3 := hs2.below b2
            clear hs2 b2
            rcases hq : (showBlkL l == s.data.toList) with _ | _
            · obtain rfl : b = false := by rw [HF2.out.1, hq]
              obtain rfl : L = [] := (hC.no rfl).1
              rw [hq] at hcmp
              clear hq
              go_wp2
              refine bodyPost_ret (v := .tuple #[.slice (some ⟨w2.heap.size, 0, none⟩) 0 0, .bool false]) (by simp [results, Try.results38, go_sem]) rfl ⟨_, rfl, hnil _ _, x2.alloc x2.size _⟩
            · obtain rfl : b = true := by rw [HF2.out.1, hq]
              have HLL := Lib.hid (HF2.out.2 rfl)
              rw [hq] at hcmp
              clear hq
              go_wp2
              refine bodyPost_ret (v := .tuple #[.slice ao l.length cp, .bool true]) (by simp [results, Try.results38, go_sem]) rfl ⟨_, rfl, ?_, x2⟩
              rw [HLL.out]
              exact hs3
      · have HF := Lib.hid (HB.out.fin hC (by omega) (fun _ => .inr (.inl (HE.out ▸ hgo))))
        have HL := Lib.hid HB.out.len
        obtain rfl : k = l.length := HL.out.symm
        clear HB
        have hs2 : SlT EntR.cells 4 wr (.slice ao l.length cp) l := SlT.of_own ho (fun _ => rfl) (by decide)
        have hl6 : (l.length : Int) ≤ 1048576 := by omega
        by_cases h0 : l.length = 0
        · obtain rfl : l = [] := List.eq_nil_of_length_eq_zero h0
          obtain rfl : b = false := by rw [HF.out.1]; rfl
          obtain rfl : L = [] := (hC.no rfl).1
          clear h0
          go_wp2
          refine bodyPost_ret (v := .tuple #[.slice (some ⟨wr.heap.size, 0, none⟩) 0 0, .bool false]) (by simp [results, Try.results38, go_sem]) rfl ⟨_, rfl, hnil _ _, xb.alloc xb.size _⟩
        · have hlen0 : decide (l.length ≠ 0) = true := by simpa using h0
          have HF2 := Lib.hid (show b = (showBlkL l == s.data.toList) ∧ (b = true → L = l) from ⟨by rw [HF.out.1, hlen0, Bool.not_false, Bool.true_and, Bool.true_and], HF.out.2⟩)
          have hcmp : ((str (showBlkL l)).toList == s.toList) = (showBlkL l == s.data.toList) := by rw [str_toList, toList_data]
          clear HF hlen0
          go_wp2_with fail
          refine (specShowBlock _ l _ hs2 hl6).mono ?_
          rintro e w2 ⟨rfl, b2⟩
          have x2 := xb.trans (b2.mono xb.size)
          have hs3 := hs2.below b2
          clear hs2 b2
          rcases hq : (showBlkL l == s.data.toList) with _ | _
          · obtain rfl : b = false := by rw [HF2.out.1, hq]
            obtain rfl : L = [] := (hC.no rfl).1
            rw [hq] at hcmp
            clear hq
            go_wp2
            refine bodyPost_ret (v := .tuple #[.slice (some ⟨w2.heap.size, 0, none⟩) 0 0, .bool false]) (by simp [results, Try.results38, go_sem]) rfl ⟨_, rfl, hnil _ _, x2.alloc x2.size _⟩
          · obtain rfl : b = true := by rw [HF2.out.1, hq]
            have HLL := Lib.hid (HF2.out.2 rfl)
            rw [hq] at hcmp
            clear hq
            go_wp2
            refine bodyPost_ret (v := .tuple #[.slice ao l.length cp, .bool true]) (by simp [results, Try.results38, go_sem]) rfl ⟨_, rfl, ?_, x2⟩
            rw [HLL.out]
            exact hs3
end Go.Proofs.Ythmfiohcmnaacaa
