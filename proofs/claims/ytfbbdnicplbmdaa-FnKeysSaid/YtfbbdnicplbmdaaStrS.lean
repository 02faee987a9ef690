
/- Walks: ChaStream of the reference. -/
import Derived.Test.YtfbbdnicplbmdaaStrP
import Derived.Test.YtfbbdnicplbmdaaChaU
import Derived.Test.YtfbbdnicplbmdaaStep
import Derived.Deep.RegionLaw
set_option linter.unusedVariables false
set_option linter.unusedSimpArgs false
namespace Go.Proofs.Ytfbbdnicplbmdaa
open Go.RowKit Sp
namespace Sp
theorem chaS_not {key nonce text : ByteArray} {c : Int} (h : chaOk key c nonce = false) : chaS key c nonce text = [] := by simp [chaS, h]
theorem chaS_far {key nonce text : ByteArray} {c : Int} (h : chaFits c text.size = false) : chaS key c nonce text = [] := by simp [chaS, h]
theorem chaS_yes {key nonce text : ByteArray} {n : Nat} (h : chaOk key (n : Int) nonce = true) (h2 : (n : Int) + ((text.size + 63) / 64 : Nat) ≤ 4294967296) : chaS key n nonce text = stT key nonce n text.data.toList text.size := by
  have : chaFits (n : Int) text.size = true := by simp only [chaFits, decide_eq_true_eq]; exact h2
  simp [chaS, h, this]
theorem chaOk_move {key nonce : ByteArray} {c : Int} (h : chaOk key c nonce = true) (d : Int) : chaOk key d nonce = inB d 0 4294967295 := by
  simp only [chaOk, Bool.and_eq_true, beq_iff_eq] at h
  simp [chaOk, h.1.1, h.2]
theorem stT_step (key nonce : ByteArray) (c : Nat) (t : List UInt8) (n : Nat) : stT key nonce c t (n + 1) = stT key nonce c t n ++ [streamAt key nonce c t n] := rfl
end Sp
/-- A block that is right is not empty. -/
theorem blk_ne (l : List UInt8) (h : l.length = 64) : (str l).toList.isEmpty = false := by
  rw [str_toList]; cases l with
  | nil => cases h
  | cons x l => rfl
theorem blk_emp : (str []).toList.isEmpty = true := by rw [str_toList]; rfl

set_option maxRecDepth 100000 in
set_option maxHeartbeats 1600000 in
theorem specStream_ok (key nonce text : ByteArray) (n : Nat) (w : World) (hok : chaOk key (n : Int) nonce = true) (hn : (n : Int) ≤ 4294967295) (ht : (text.size : Int) ≤ 1048576) :
    Calls Try.prog 111 #[.string key, .int .i64 n, .string nonce, .string text] w fun e w' => e = .returned (.string (str (chaS key n nonce text))) ∧ Below w.heap.size w w' := by
  have h0 : (w.alloc (.cells #[] 5)).ownsRow w.heap.size 5 1 (.slice (some ⟨w.heap.size, 0, none⟩) 0 0) 0 ((stT key nonce n text.data.toList 0).map B) := World.ownsRow_lit w #[] 0 (Nat.le_refl _) (by simp [maxLen]) rfl
  have hb0 : Below w.heap.size w (w.alloc (.cells #[] 5)) := (Below.refl _ _).alloc (Nat.le_refl _) _
  have hB : ∀ d : Nat, (d : Int) ≤ 4294967295 → chaB key (d : Int) nonce = chaG key nonce d := fun d hd => by
    rw [chaOk_yes (by rw [chaOk_move hok, inB_iff]; omega), Int.toNat_natCast]
  have hBn : ∀ d : Nat, (4294967295 : Int) < d → chaB key (d : Int) nonce = [] := fun d hd => by
    rw [chaOk_not (by rw [chaOk_move hok]; exact inB_false (by omega))]
  have hne := blk_ne (chaG key nonce n) (chaG_length _ _ _)
  go_enter Try.func111, Try.ntmps111
  go_wp2_with fail
  refine (specChaBlock _ _ _ _).mono ?_
  rintro e w1 ⟨rfl, b1⟩
  rw [hB n hn]
  have r1 := own_below h0 b1
  have x1 := hb0.trans (b1.mono hb0.size)
  clear h0 hb0
  go_wp2
  go_loopw [9, 10] (fun v i wr => ∃ (p j : Nat), i = .int .i64 p ∧ p = 64 * j ∧ (p : Int) ≤ text.size + 64 ∧ (n : Int) + j ≤ 4294967296 ∧ wr.ownsRow w.heap.size 5 1 v (min p text.size) ((stT key nonce n text.data.toList (min p text.size)).map B) ∧ Below w.heap.size w wr) (fun _ i _ => text.size + 64 - (intOf i).toNat)
  case atStart => exact ⟨0, 0, rfl, rfl, by omega, by omega, by simpa using r1, x1⟩
  case round =>
    obtain ⟨p, j, rfl, hp, hpn, hj, hr, hbl⟩ := hrel
    clear r1 x1
    by_cases hlt : (p : Int) < text.size
    · have hmin : min p text.size = p := by omega
      rw [hmin] at hr
      have hq : ((p : Int) / 64) = (j : Int) := by omega
      have HP := Lib.hid hp
      have HQ := Lib.hid hq
      clear hp hq hmin
      go_wp2_with fail
      refine (specChaBlock _ _ _ _).mono ?_
      rintro e w1 ⟨rfl, b1⟩
      rw [HQ.out, show (n : Int) + (j : Int) = ((n + j : Nat) : Int) from by omega]
      have x1 := hbl.trans (b1.mono hbl.size)
      have r1 := own_below hr b1
      clear hr
      by_cases hjj : ((n + j : Nat) : Int) ≤ 4294967295
      · rw [hB _ hjj]
        have hblen := chaG_length key nonce (n + j)
        have hne2 := blk_ne _ hblen
        obtain ⟨blk, hbk⟩ : ∃ b, b = str (chaG key nonce (n + j)) := ⟨_, rfl⟩
        have hdat : blk.data.toList = chaG key nonce (n + j) := by rw [hbk, str_data]
        have hsz : (blk.size : Int) = 64 := by rw [hbk, str_size, hblen]; rfl
        rw [← hbk] at hne2 ⊢
        have HD := Lib.hid hdat
        clear hbk hdat hblen b1 hB hBn hne
        go_wp2
        go_loopw [9, 12] (fun v i wr => ∃ q : Nat, i = .int .i64 ((p : Int) + (q : Int)) ∧ (q : Int) ≤ 64 ∧ (p : Int) + (q : Int) ≤ text.size ∧ wr.ownsRow w.heap.size 5 1 v (p + q) ((stT key nonce n text.data.toList (p + q)).map B) ∧ Below w.heap.size w wr) (fun _ i _ => text.size - (intOf i).toNat)
        case atStart => exact ⟨0, by simp, by omega, by omega, r1, x1⟩
        case round =>
          obtain ⟨q, rfl, hq64, hqn, hr, hbl2⟩ := hrel
          clear r1 x1
          by_cases hA : (p : Int) + (q : Int) < text.size
          · by_cases hC : (q : Int) < 64
            · have hi : p + q < text.size := by omega
              have e1 : (p + q) / 64 = j := by have := HP.out; omega
              have e2 : (p + q) % 64 = q := by have := HP.out; omega
              have hqb : q < blk.size := by omega
              have hsa := streamAt_nat key nonce text n (p + q) hi blk (by rw [e1]; exact HD.out) (by rw [e2]; exact hqb)
              simp only [e2] at hsa
              have hst := stT_step key nonce n text.data.toList (p + q)
              have y1 := text[p + q].toNat_lt
              have y2 := blk[q].toNat_lt
              have X : bits .xor .u8 (text[p + q].toNat : Int) (blk[q].toNat : Int) = ((streamAt key nonce n text.data.toList (p + q)).toNat : Int) := by rw [u8_xor _ _ (by omega) (by omega), hsa]
              generalize streamAt key nonce n text.data.toList (p + q) = u at *
              have yu := u.toNat_lt
              have HS := Lib.hid hst
              clear hst hsa e1 e2
              have g1 : (0 : Int) ≤ (p : Int) + (q : Int) := by omega
              have g2 : ((p : Int) + (q : Int)).toNat = p + q := by omega
              have g3 : (q : Int) < blk.size := by omega
              have g4 : (p : Int) + (q : Int) - (p : Int) = (q : Int) := by omega
              have g5 : IntKind.i64.wrap ((p : Int) + (q : Int) - (p : Int)) = (q : Int) := by rw [IntKind.wrap_i64]; omega
              have g6 : IntKind.i64.wrap (q : Int) = (q : Int) := by rw [IntKind.wrap_i64]; omega
              have hz := hbl2.size
              go_wp2
              go_region_law ((with_reducible refine step_app (o := ⟨some 58, _, _, _, _, _⟩) rfl rfl Try.underlying22 info_u8 rfl (by decide) rfl (hr.alloc _).drew 1 rfl (heap_new_drew _ _) rfl (by simp [Value.oneCell']) (by omega) (hbl2.alloc hz _).drew (Nat.le_refl _) (by simp; omega) ?_); intro v' w2 hr1 hbl1 hg1)
              all_goals
                have hr2 := own_snoc u.toNat hr1 rfl (by omega)
                rw [UInt8.ofNat_toNat, ← HS.out] at hr2
                clear hr1 hg1 hr
                go_wp2
                go_roundw
                case rel => exact ⟨q + 1, by go_num, by omega, by omega, hr2, hbl1⟩
                case measure => simp [intOf]; omega
            · obtain rfl : q = 64 := by omega
              go_wp2
              go_roundw
              case rel => exact ⟨p + 64, j + 1, by go_num, by have := HP.out; omega, by omega, by omega, by rw [show min (p + 64) text.size = p + 64 from by omega]; exact hr, hbl2⟩
              case measure => simp [intOf]; omega
          · have hpq : p + q = text.size := by omega
            rw [hpq] at hr
            go_wp2
            go_roundw
            case rel => exact ⟨p + 64, j + 1, by go_num, by have := HP.out; omega, by omega, by omega, by rw [show min (p + 64) text.size = text.size from by omega]; exact hr, hbl2⟩
            case measure => simp [intOf]; omega
      · rw [hBn _ (by omega)]
        have he := blk_emp
        have HR := Lib.hid (chaS_far (key := key) (c := (n : Int)) (nonce := nonce) (text := text) (by have := HP.out; simp only [chaFits, decide_eq_false_iff_not]; omega))
        clear hB hBn hne r1 b1
        go_wp2
        go_ret
        exact ⟨by rw [HR.out]; rfl, x1⟩
    · rw [show min p text.size = text.size from by omega] at hr
      have HR := Lib.hid (chaS_yes (text := text) hok (by omega))
      have kc := conv_owns (P := Try.prog) (dst := 9) (e := 5) (src := 22) hr Try.underlying22 Try.underlying5 Try.underlying9
      clear hB hBn hne b1 hp
      go_wp2
      go_ret
      exact ⟨by rw [HR.out]; rfl, hbl⟩

set_option maxRecDepth 100000 in
set_option maxHeartbeats 800000 in
/-- ChaStream of the reference, at every input. -/
theorem specChaStream (key nonce text : ByteArray) (c : Int) (w : World) (ht : (text.size : Int) ≤ 1048576) :
    Calls Try.prog 111 #[.string key, .int .i64 c, .string nonce, .string text] w fun e w' => e = .returned (.string (str (chaS key c nonce text))) ∧ Below w.heap.size w w' := by
  by_cases hok : chaOk key c nonce = true
  · obtain ⟨h1, h2, h3, n, rfl, h4⟩ := chaOk_parts hok
    exact specStream_ok key nonce text n w hok h4 ht
  · have hok' : chaOk key c nonce = false := by simpa using hok
    have he := blk_emp
    have hb0 : Below w.heap.size w (w.alloc (.cells #[] 5)) := (Below.refl _ _).alloc (Nat.le_refl _) _
    rw [chaS_not hok']
    go_enter Try.func111, Try.ntmps111
    go_wp2_with fail
    refine (specChaBlock _ _ _ _).mono ?_
    rintro e w1 ⟨rfl, b1⟩
    rw [chaOk_not hok']
    have x1 := hb0.trans (b1.mono hb0.size)
    go_wp2
    go_ret
    exact ⟨rfl, x1⟩
end Go.Proofs.Ytfbbdnicplbmdaa
