
/- Walks: ChaStream of the program; the law. -/
import Derived.Test.YtfbbdnicplbmdaaStrS
import Derived.Deep.RegionLaw
set_option linter.unusedVariables false
set_option linter.unusedSimpArgs false
namespace Go.Proofs.Ytfbbdnicplbmdaa
open Go.RowKit Sp

set_option maxRecDepth 100000 in
set_option maxHeartbeats 1600000 in
theorem implStream_ok (key nonce text : ByteArray) (n : Nat) (w : World) (hok : chaOk key (n : Int) nonce = true) (hn : (n : Int) ≤ 4294967295) (ht : (text.size : Int) ≤ 1048576) :
    Calls Try.prog 109 #[.string key, .int .i64 n, .string nonce, .string text] w fun e w' => e = .returned (.string (str (chaS key n nonce text))) ∧ Below w.heap.size w w' := by
  have hB : ∀ d : Nat, (d : Int) ≤ 4294967295 → chaB key (d : Int) nonce = chaG key nonce d := fun d hd => by
    rw [chaOk_yes (by rw [chaOk_move hok, inB_iff]; omega), Int.toNat_natCast]
  have hcv := fun w => Lib.run_convert_string_bytes (P := Try.prog) w 9 22 5 text Try.underlying9 Try.underlying22 Try.underlying5
  obtain ⟨nb, hnb⟩ : ∃ nb : Nat, (text.size + 63) / 64 = nb := ⟨_, rfl⟩
  have hq : ((text.size : Int) + 63) / 64 = (nb : Int) := by omega
  have hnb64 : text.size ≤ 64 * nb := by omega
  have hnb0 : nb = 0 → text.size = 0 := by omega
  have hnbs : (nb : Int) ≤ 16385 := by omega
  have hlast : 0 < text.size → 64 * (nb - 1) < text.size := by omega
  have H1 := Lib.hid hnb64
  have H0 := Lib.hid hnb0
  have H2 := Lib.hid hlast
  have HN := Lib.hid hnb
  clear hnb hnb64 hnb0 hlast
  go_enter Try.func109, Try.ntmps109
  go_wp2_with fail
  refine (isCha_any _ _ _ _).mono ?_
  rintro e w' ⟨rfl, rfl⟩
  rw [hok]
  go_upto_region 4 with fail
  have hrow : ByteRow (Lib.bytesWorld w 5 text) w.heap.size (stMid key nonce n text.data.toList (min 0 text.size)) := by rw [Nat.zero_min, stMid_zero]; exact ByteRow.new w 5 text
  have hbl0 := below_bytes w 5 text
  generalize Lib.bytesWorld w 5 text = wb at *
  generalize grownCap w text.size 0 5 = cap at *
  clear hcv
  by_cases hfit : (n : Int) + (nb : Int) ≤ 4294967296
  · have hnfit : ¬ ((4294967295 : Int) < (n : Int) + (nb : Int) - 1) := by omega
    rcases (by omega : (0 : Int) < (nb : Int) ∨ ¬ (0 : Int) < (nb : Int)) with hz | hz
    all_goals
      go_wp2
      go_loopw [1, 11] (fun cn at' wr => ∃ (p j : Nat), cn = .int .i64 ((n : Int) + (j : Int)) ∧ at' = .int .i64 p ∧ p = 64 * j ∧ (p : Int) ≤ text.size + 64 ∧ ByteRow wr w.heap.size (stMid key nonce n text.data.toList (min p text.size)) ∧ Below w.heap.size w wr) (fun _ i _ => text.size + 64 - (intOf i).toNat)
      case atStart => exact ⟨0, 0, by simp, rfl, by omega, by omega, hrow, hbl0⟩
      case round =>
        obtain ⟨p, j, rfl, rfl, hp, hpn, hr, hbl⟩ := hrel
        clear hrow hbl0
        by_cases hlt : (p : Int) < text.size
        · rw [show min p text.size = p from by omega] at hr
          have hjj : ((n + j : Nat) : Int) ≤ 4294967295 := by have := H1.out; omega
          have HP := Lib.hid hp
          clear hp
          go_wp2_with fail
          rw [show (n : Int) + (j : Int) = ((n + j : Nat) : Int) from by omega]
          refine (implChaBlock _ _ _ _).mono ?_
          rintro e w1 ⟨rfl, b1⟩
          rw [hB _ hjj, show ((n + j : Nat) : Int) = (n : Int) + (j : Int) from by omega]
          have x1 := hbl.trans (b1.mono hbl.size)
          have r1 := hr.below b1
          have hblen := chaG_length key nonce (n + j)
          obtain ⟨blk, hbk⟩ : ∃ b, b = str (chaG key nonce (n + j)) := ⟨_, rfl⟩
          have hdat : blk.data.toList = chaG key nonce (n + j) := by rw [hbk, str_data]
          have hsz : (blk.size : Int) = 64 := by rw [hbk, str_size, hblen]; rfl
          rw [← hbk]
          have HD := Lib.hid hdat
          clear hbk hdat hblen b1 hB hr hbl
          have hw1 : IntKind.i64.wrap ((n : Int) + (j : Int) + 1) = (n : Int) + (j : Int) + 1 := by rw [IntKind.wrap_i64]; omega
          go_wp2
          clear hw1
          go_loopw [13] (fun i wr => ∃ q : Nat, i = .int .i64 q ∧ (q : Int) ≤ 64 ∧ (p : Int) + (q : Int) ≤ text.size ∧ ByteRow wr w.heap.size (stMid key nonce n text.data.toList (p + q)) ∧ Below w.heap.size w wr) (fun i _ => 64 - (intOf i).toNat)
          case atStart => exact ⟨0, rfl, by omega, by omega, r1, x1⟩
          case round =>
            obtain ⟨q, rfl, hq64, hqn, hr, hbl2⟩ := hrel
            clear r1 x1
            by_cases hC : (q : Int) < 64
            · by_cases hA : (p : Int) + (q : Int) < text.size
              · have hi : p + q < text.size := by omega
                have e1 : (p + q) / 64 = j := by have := HP.out; omega
                have e2 : (p + q) % 64 = q := by have := HP.out; omega
                have hqb : q < blk.size := by omega
                have hsa := streamAt_nat key nonce text n (p + q) hi blk (by rw [e1]; exact HD.out) (by rw [e2]; exact hqb)
                simp only [e2] at hsa
                have y1 := text[p + q].toNat_lt
                have y2 := blk[q].toNat_lt
                have X : bits .xor .u8 (text[p + q].toNat : Int) (blk[q].toNat : Int) = ((streamAt key nonce n text.data.toList (p + q)).toNat : Int) := by rw [u8_xor _ _ (by omega) (by omega), hsa]
                have hil : p + q < text.data.toList.length := by simpa using hi
                have hr' : ByteRow wr.drew w.heap.size (stMid key nonce n text.data.toList (p + q)) := hr
                have c1 : wr.drew.cell? ⟨w.heap.size, p + q, none⟩ = some (.int .u8 (text[p + q].toNat : Int)) := hr'.cell (p + q) text[p + q] (stMid_at key nonce n text.data.toList hil)
                have z1 := hr'.free (p + q) (by rw [stMid_length _ _ _ _ (Nat.le_of_lt hil)]; exact hil)
                have r2 := hr'.set (p + q) (by rw [stMid_length _ _ _ _ (Nat.le_of_lt hil)]; exact hil) (streamAt key nonce n text.data.toList (p + q))
                rw [stMid_step _ _ _ _ hil] at r2
                have x2 : Below w.heap.size w (wr.drew.setCell ⟨w.heap.size, p + q, none⟩ (.int .u8 ((streamAt key nonce n text.data.toList (p + q)).toNat : Int))) := Below.setCell (below_drewN hbl2 1) (p := ⟨w.heap.size, p + q, none⟩) (Nat.le_refl _) _
                generalize streamAt key nonce n text.data.toList (p + q) = u at *
                clear hsa e1 e2 hr hr'
                have g0 : IntKind.i64.wrap ((p : Int) + (q : Int)) = (p : Int) + (q : Int) := by rw [IntKind.wrap_i64]; omega
                have g1 : (0 : Int) ≤ (p : Int) + (q : Int) := by omega
                have g2 : ((p : Int) + (q : Int)).toNat = p + q := by omega
                have g3 : (q : Int) < blk.size := by omega
                go_wp2
                go_region
                all_goals
                  go_wp2
                  go_roundw
                  case rel => exact ⟨q + 1, by go_num, by omega, by omega, r2, x2⟩
                  case measure => simp [intOf]; omega
              · have hpq : p + q = text.size := by omega
                rw [hpq] at hr
                go_wp2
                go_roundw
                case rel => exact ⟨p + 64, j + 1, by go_num, by go_num, by have := HP.out; omega, by omega, by rw [show min (p + 64) text.size = text.size from by omega]; exact hr, hbl2⟩
                case measure => simp [intOf]; omega
            · obtain rfl : q = 64 := by omega
              go_wp2
              go_roundw
              case rel => exact ⟨p + 64, j + 1, by go_num, by go_num, by have := HP.out; omega, by omega, by rw [show min (p + 64) text.size = p + 64 from by omega]; exact hr, hbl2⟩
              case measure => simp [intOf]; omega
        · rw [show min p text.size = text.size from by omega] at hr
          have HR := Lib.hid (chaS_yes (text := text) hok (by rw [HN.out]; exact hfit))
          have hr2 : ByteRow wr w.heap.size (stT key nonce n text.data.toList text.size) := by
            have := stMid_full key nonce n text.data.toList
            rw [show text.data.toList.length = text.size from by simp] at this
            rw [← this]; exact hr
          have kc := hr2.conv (P := Try.prog) (cap := cap) (dst := 9) (e := 5) (src := 22) text.size (by rw [stT_length]) Try.underlying22 Try.underlying5 Try.underlying9
          clear hB hp hr hr2
          go_wp2
          go_ret
          exact ⟨by rw [HR.out]; rfl, hbl⟩
  · have hnfit : (4294967295 : Int) < (n : Int) + (nb : Int) - 1 := by omega
    have hz : (0 : Int) < (nb : Int) := by omega
    have HR := Lib.hid (chaS_far (key := key) (c := (n : Int)) (nonce := nonce) (text := text) (by simp only [chaFits, decide_eq_false_iff_not, HN.out]; exact hfit))
    clear hB hrow
    go_wp2
    go_ret
    exact ⟨by rw [HR.out]; rfl, hbl0⟩

set_option maxRecDepth 100000 in
set_option maxHeartbeats 800000 in
/-- ChaStream of the program, at every input. -/
theorem implChaStream (key nonce text : ByteArray) (c : Int) (w : World) (ht : (text.size : Int) ≤ 1048576) :
    Calls Try.prog 109 #[.string key, .int .i64 c, .string nonce, .string text] w fun e w' => e = .returned (.string (str (chaS key c nonce text))) ∧ Below w.heap.size w w' := by
  by_cases hok : chaOk key c nonce = true
  · obtain ⟨h1, h2, h3, n, rfl, h4⟩ := chaOk_parts hok
    exact implStream_ok key nonce text n w hok h4 ht
  · have hok' : chaOk key c nonce = false := by simpa using hok
    rw [chaS_not hok']
    go_enter Try.func109, Try.ntmps109
    go_wp2_with (go_at_call 160; refine (isCha_any _ _ _ _).mono ?_; rintro e w' ⟨rfl, rfl⟩; rw [hok'])
    go_ret
    exact ⟨rfl, Below.refl _ _⟩
end Go.Proofs.Ytfbbdnicplbmdaa
