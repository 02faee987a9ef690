/- Walks: ReadBatch of the reference. -/
import Derived.Test.YtajjefpopjdfaaaRBatP
import Derived.Test.YtajjefpopjdfaaaTakeW
import Derived.Test.YtajjefpopjdfaaaKOpR
import Derived.Test.YtajjefpopjdfaaaKOpA
import Derived.Test.YtajjefpopjdfaaaStepR
import Derived.Test.YtajjefpopjdfaaaBx
set_option linter.unusedVariables false
set_option linter.unusedSimpArgs false
namespace Go.Proofs.Ytajjefpopjdfaaa
open Go.RowKit Sp Go.Sort
theorem u8_one (x : UInt8) : ((x.toNat : Int) == 1) = (x == 1) := by
  rw [Bool.eq_iff_iff, beq_iff_eq, beq_iff_eq]
  constructor
  · intro h; exact UInt8.toNat_inj.1 (by show x.toNat = 1; omega)
  · rintro rfl; rfl

set_option maxRecDepth 100000 in
set_option maxHeartbeats 1600000 in
theorem specReadBatch (s : ByteArray) (L : List OpR) (b : Bool) (hC : BatC s L b) (w : World) (hs : (s.size : Int) ≤ 1048576) :
    Calls Try.prog 22 #[.string s] w fun e w' => ∃ v', e = .returned (.tuple #[v', .bool b]) ∧ SlT OpR.cells 3 w' v' L ∧ Below w.heap.size w w' := by
  have h0 : (w.alloc (.cells #[] 58)).ownsRow w.heap.size 58 3 (.slice (some ⟨w.heap.size, 0, none⟩) 0 0) 0 [] := World.ownsRow_lit w #[] 0 (Nat.le_refl _) (by simp [maxLen]) rfl
  have x0 : Below w.heap.size w (w.alloc (.cells #[] 58)) := (Below.refl _ _).alloc (Nat.le_refl _) _
  have hnil : ∀ (W : World) (a : Addr), SlT OpR.cells 3 W (.slice (some a) 0 0) ([] : List OpR) := fun W a => ⟨some a, 0, rfl, Nat.le_refl _, by decide, fun h => absurd h (by simp)⟩
  rcases hv : takeV s 0 with _ | ⟨n, p0⟩
  · obtain rfl : b = false := BS.none hC hv
    obtain rfl : L = [] := (hC.no rfl).1
    have hv' : tkV s 0 = none := by rw [show (0 : Int) = ((0 : Nat) : Int) from rfl, tkV_nat]; exact hv
    clear hv
    go_enter Try.func22, Try.ntmps22
    go_wp2_with fail
    refine (vars1_none s 0 _ hs hv').mono ?_
    rintro e w1 ⟨g, c, rfl, b1⟩
    have x1 := x0.trans (b1.mono x0.size)
    go_wp2
    refine bodyPost_ret (v := .tuple #[.slice (some ⟨w.heap.size, 0, none⟩) 0 0, .bool false]) (by simp [results, Try.results22, go_sem]) rfl ⟨_, rfl, hnil _ _, x1⟩
  · have hv' : tkV s 0 = some (n, p0) := by rw [show (0 : Int) = ((0 : Nat) : Int) from rfl, tkV_nat]; exact hv
    by_cases h6 : 6 < n
    · obtain rfl : b = false := BS.big hC hv h6
      obtain rfl : L = [] := (hC.no rfl).1
      clear hv
      go_enter Try.func22, Try.ntmps22
      go_wp2_with fail
      refine (vars1_some s 0 n p0 _ hs hv').mono ?_
      rintro e w1 ⟨g, c, rfl, cg, _, _, b1⟩
      have x1 := x0.trans (b1.mono x0.size)
      have hp0 : ¬ (p0 : Int) < 0 := by omega
      clear hv'
      go_wp2
      refine bodyPost_ret (v := .tuple #[.slice (some ⟨w.heap.size, 0, none⟩) 0 0, .bool false]) (by simp [results, Try.results22, go_sem]) rfl ⟨_, rfl, hnil _ _, x1⟩
    · have HV := Lib.hid hv
      have HST := Lib.hid (BS.start hC hv)
      clear hv
      go_enter Try.func22, Try.ntmps22
      go_wp2_with fail
      refine (vars1_some s 0 n p0 _ hs hv').mono ?_
      rintro e w1 ⟨g, c, rfl, cg, g1, g2, b1⟩
      have x1 := x0.trans (b1.mono x0.size)
      have o1 := own_below h0 b1
      have hp0 : ¬ (p0 : Int) < 0 := by omega
      rw [World.size_alloc] at g1
      clear hv' h0 b1
      go_wp2
      go_loopw [4, 6, 7] (fun o a i wr => ∃ (k p : Nat) (l : List OpR) (ao : Option Addr) (cp : Nat), i = .int .i64 k ∧ a = .int .i64 p ∧ o = .slice ao k cp ∧ RowKit.Hid (BS s L b n k l p) ∧ wr.cell? ⟨g, 0, none⟩ = some (.int .i64 n) ∧ g < wr.heap.size ∧ o.ownBlock ≠ some g ∧ wr.ownsRow w.heap.size 58 3 o k (l.map OpR.cells).flatten ∧ Below w.heap.size w wr) (fun _ _ i _ => n - (intOf i).toNat)
      case atStart => exact ⟨0, p0, [], _, _, rfl, rfl, rfl, HST, cg, g2, by simp [Value.ownBlock]; omega, o1, x1⟩
      case round =>
        clear HST o1 x1 cg g2 x0
        obtain ⟨k, p, l, ao, cp, rfl, rfl, rfl, HB, cg, g2, hob, ho, xb⟩ := hrel
        have hp := HB.out.ps
        have hk6 := HB.out.le
        by_cases hk : k < n
        · by_cases hps : p < s.size
          · have W1 : IntKind.i64.wrap ((p : Int) + 1) = (p : Int) + 1 := by rw [IntKind.wrap_i64]; omega
            have hu := u8_one s[p]
            rcases hd : (s[p] == 1) with _ | _
            · have HD := Lib.hid hd
              have HO := Lib.hid (show tkOp s p false = (⟨(tkP s ((p : Int) + 1)).1, false, (tkP s (tkP s ((p : Int) + 1)).2).1⟩, (tkP s (tkP s ((p : Int) + 1)).2).2) from rfl)
              rw [hd] at hu
              clear hd
              go_wp2_with fail
              refine (take_any s ((p : Int) + 1) _ hs).mono ?_
              rintro e w2 ⟨rfl, b2⟩
              have x2 := xb.trans (b2.mono xb.size)
              have o2 := own_below ho b2
              have cg2 := (b2.cell (p := ⟨g, 0, none⟩) g2).trans cg
              have g22 := Nat.lt_of_lt_of_le g2 b2.size
              have d2 := tkP_bd s ((p : Int) + 1)
              clear cg ho
              generalize tkP s ((p : Int) + 1) = tv at *
              obtain ⟨ky, e1⟩ := tv
              simp only at d2 HO
              go_wp2_with fail
              refine (take_any s e1 _ hs).mono ?_
              rintro e w3 ⟨rfl, b3⟩
              have x3 := x2.trans (b3.mono x2.size)
              have o3 := own_below o2 b3
              have cg3 := (b3.cell (p := ⟨g, 0, none⟩) g22).trans cg2
              have g23 := Nat.lt_of_lt_of_le g22 b3.size
              have d3 := tkP_bd s e1
              clear cg2 o2 d2
              generalize tkP s e1 = tv at *
              obtain ⟨vl, e2⟩ := tv
              simp only at d3 HO
              clear b2 b3
              by_cases he : e2 < 0
              · obtain rfl : b = false := HB.out.fail hC hk hps (by rw [HD.out, HO.out]; exact he)
                obtain rfl : L = [] := (hC.no rfl).1
                clear HB
                go_wp2
                refine bodyPost_ret (v := .tuple #[.slice (some ⟨w3.heap.size, 0, none⟩) 0 0, .bool false]) (by simp [results, Try.results22, go_sem]) rfl ⟨_, rfl, hnil _ _, x3.alloc x3.size _⟩
              · obtain ⟨q, rfl⟩ : ∃ q : Nat, e2 = (q : Int) := ⟨e2.toNat, by omega⟩
                have HN := Lib.hid (HB.out.step hC hk hps (q := q) (by rw [HD.out, HO.out]) (by omega))
                clear HB
                go_wp2_with (at_builtin; go_loud (refine app_new_at rfl rfl Try.underlying25 info_Op rfl (by decide) o3 rfl 1 (by simp [Act.eval]) rfl (by simp [Value.oneCell']) (by omega) x3 (Nat.le_refl _) x3.size ?_; intro v8 w8 r8 x8 g8 p8))
                have hb8 : v8.ownBlock ≠ some g := by
                  intro h
                  rcases p8 with p | p <;> rw [p] at h
                  · exact hob h
                  · have := Option.some.inj h; omega
                have c8 := ((gcell g8 (b := g) (by omega) hob).1 0).trans cg3
                have z8 := g8.size
                obtain ⟨g', cap, rfl⟩ := own_sl r8 (by omega)
                go_roundw
                case rel => exact ⟨k + 1, q, _, _, _, by go_num, rfl, rfl, HN, c8, by omega, hb8, by rw [HD.out, HO.out]; simpa [OpR.cells] using r8, x8⟩
                case measure => simp [intOf]; omega
            · have HD := Lib.hid hd
              have HO := Lib.hid (show tkOp s p true = (⟨(tkP s ((p : Int) + 1)).1, true, ⟨#[]⟩⟩, (tkP s ((p : Int) + 1)).2) from rfl)
              rw [hd] at hu
              clear hd
              go_wp2_with fail
              refine (take_any s ((p : Int) + 1) _ hs).mono ?_
              rintro e w2 ⟨rfl, b2⟩
              have x2 := xb.trans (b2.mono xb.size)
              have o2 := own_below ho b2
              have cg2 := (b2.cell (p := ⟨g, 0, none⟩) g2).trans cg
              have g22 := Nat.lt_of_lt_of_le g2 b2.size
              have d2 := tkP_bd s ((p : Int) + 1)
              clear cg ho
              generalize tkP s ((p : Int) + 1) = tv at *
              obtain ⟨ky, e1⟩ := tv
              simp only at d2 HO
              clear b2
              by_cases he : e1 < 0
              · obtain rfl : b = false := HB.out.fail hC hk hps (by rw [HD.out, HO.out]; exact he)
                obtain rfl : L = [] := (hC.no rfl).1
                clear HB
                go_wp2
                refine bodyPost_ret (v := .tuple #[.slice (some ⟨w2.heap.size, 0, none⟩) 0 0, .bool false]) (by simp [results, Try.results22, go_sem]) rfl ⟨_, rfl, hnil _ _, x2.alloc x2.size _⟩
              · obtain ⟨q, rfl⟩ : ∃ q : Nat, e1 = (q : Int) := ⟨e1.toNat, by omega⟩
                have HN := Lib.hid (HB.out.step hC hk hps (q := q) (by rw [HD.out, HO.out]) (by omega))
                clear HB
                go_wp2_with (at_builtin; go_loud (refine app_new_at rfl rfl Try.underlying25 info_Op rfl (by decide) o2 rfl 1 (by simp [Act.eval]) rfl (by simp [Value.oneCell']) (by omega) x2 (Nat.le_refl _) x2.size ?_; intro v8 w8 r8 x8 g8 p8))
                have hb8 : v8.ownBlock ≠ some g := by
                  intro h
                  rcases p8 with p | p <;> rw [p] at h
                  · exact hob h
                  · have := Option.some.inj h; omega
                have c8 := ((gcell g8 (b := g) (by omega) hob).1 0).trans cg2
                have z8 := g8.size
                obtain ⟨g', cap, rfl⟩ := own_sl r8 (by omega)
                go_roundw
                case rel => exact ⟨k + 1, q, _, _, _, by go_num, rfl, rfl, HN, c8, by omega, hb8, by rw [HD.out, HO.out]; simpa [OpR.cells] using r8, x8⟩
                case measure => simp [intOf]; omega
          · obtain rfl : b = false := HB.out.short hC hk hps
            obtain rfl : L = [] := (hC.no rfl).1
            clear HB
            go_wp2
            refine bodyPost_ret (v := .tuple #[.slice (some ⟨wr.heap.size, 0, none⟩) 0 0, .bool false]) (by simp [results, Try.results22, go_sem]) rfl ⟨_, rfl, hnil _ _, xb.alloc xb.size _⟩
        · have HF := Lib.hid (HB.out.fin hC HV.out hk)
          have HL := Lib.hid HB.out.len
          obtain rfl : k = l.length := HL.out.symm
          clear HB HV
          have hs2 : SlT OpR.cells 3 wr (.slice ao l.length cp) l := SlT.of_own ho (fun _ => rfl) (by decide)
          have hl6 : (l.length : Int) ≤ 1048576 := by omega
          by_cases h0 : l.length = 0
          · obtain rfl : l = [] := List.eq_nil_of_length_eq_zero h0
            obtain rfl : b = false := by rw [HF.out.1]; rfl
            obtain rfl : L = [] := (hC.no rfl).1
            clear h0
            go_wp2
            refine bodyPost_ret (v := .tuple #[.slice (some ⟨wr.heap.size, 0, none⟩) 0 0, .bool false]) (by simp [results, Try.results22, go_sem]) rfl ⟨_, rfl, hnil _ _, xb.alloc xb.size _⟩
          · have hlen0 : decide (l.length ≠ 0) = true := by simpa using h0
            have HF2 := Lib.hid (show b = (showBL l == s.data.toList) ∧ (b = true → L = l) from ⟨by rw [HF.out.1, hlen0, Bool.true_and], HF.out.2⟩)
            clear hlen0
            have hcmp : ((str (showBL l)).toList == s.toList) = (showBL l == s.data.toList) := by rw [str_toList, toList_data]
            clear HF
            go_wp2_with fail
            refine (specShowBatch _ l _ hs2 hl6).mono ?_
            rintro e w2 ⟨rfl, b2⟩
            have x2 := xb.trans (b2.mono xb.size)
            have hs3 := hs2.below b2
            clear hs2 b2
            rcases hq : (showBL l == s.data.toList) with _ | _
            · obtain rfl : b = false := by rw [HF2.out.1, hq]
              obtain rfl : L = [] := (hC.no rfl).1
              rw [hq] at hcmp
              clear hq
              go_wp2
              refine bodyPost_ret (v := .tuple #[.slice (some ⟨w2.heap.size, 0, none⟩) 0 0, .bool false]) (by simp [results, Try.results22, go_sem]) rfl ⟨_, rfl, hnil _ _, x2.alloc x2.size _⟩
            · obtain rfl : b = true := by rw [HF2.out.1, hq]
              have HLL := Lib.hid (HF2.out.2 rfl)
              rw [hq] at hcmp
              clear hq
              go_wp2
              refine bodyPost_ret (v := .tuple #[.slice ao l.length cp, .bool true]) (by simp [results, Try.results22, go_sem]) rfl ⟨_, rfl, ?_, x2⟩
              rw [HLL.out]
              exact hs3
end Go.Proofs.Ytajjefpopjdfaaa
