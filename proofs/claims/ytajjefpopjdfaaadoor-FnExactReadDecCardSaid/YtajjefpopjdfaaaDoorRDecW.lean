/- Walks: ReadDec of the reference and of the program. -/
import Derived.Test.YtajjefpopjdfaaaDoorDecW
set_option linter.unusedVariables false
set_option linter.unusedSimpArgs false
namespace Go.Proofs.YtajjefpopjdfaaaDoor
open Go.RowKit Sp
attribute [local go_sem] str_size str_append

theorem sgn_at (s : ByteArray) (h : 0 < s.size) : sgn s.data.toList = (s[0] == 45) := by
  obtain ⟨⟨l⟩⟩ := s
  cases l with
  | nil => exact absurd h (by decide)
  | cons c r => rfl
theorem sgn_nil (s : ByteArray) (h : s.size = 0) : sgn s.data.toList = false := by
  obtain ⟨⟨l⟩⟩ := s
  cases l with
  | nil => rfl
  | cons c r => cases h
theorem len_data (s : ByteArray) : s.data.toList.length = s.size := (Lib.size_eq s).symm
theorem str_inj {l : List UInt8} {s : ByteArray} : str l = s ↔ l = s.data.toList := ⟨fun h => by rw [← h, str_data], fun h => by rw [h, str_of]⟩

def RdPost (s : ByteArray) (e : Ending) : Prop := ∃ n b, Reads s.data.toList n b ∧ e = .returned (.tuple #[.int .i64 n, .bool b])
theorem ne_str {l : List UInt8} {s : ByteArray} (h : (!((str l).toList == s.toList)) = true) : l ≠ s.data.toList := by
  intro e; subst e; rw [str_of] at h; simp at h
theorem eq_str {l : List UInt8} {s : ByteArray} (h : (!((str l).toList == s.toList)) = false) : l = s.data.toList := by
  simp only [Bool.not_eq_false', beq_iff_eq] at h
  rw [str_toList, Lib.toList_data] at h; exact h

set_option maxRecDepth 100000 in
set_option maxHeartbeats 800000 in
theorem specReadDec (s : ByteArray) (w : World) (hs : (s.size : Int) ≤ 9223372036854775807) :
    Calls Tryd.prog 7 #[.string s] w fun e w' => RdPost s e ∧ Below w.heap.size w w' := by
  go_enter Tryd.func7, Tryd.ntmps7
  go_wp2
  go_loopw [4, 5, 6] (fun n c i wr => ∃ k : Nat, i = .int .i64 k ∧ k ≤ s.size ∧ k ≤ 11 ∧ n = .int .i64 (valD (s.data.toList.take k) : Nat) ∧ c = .int .i64 (cntD (s.data.toList.take k) : Nat) ∧ Below w.heap.size w wr) (fun _ _ i _ => s.size - (intOf i).toNat)
  case atStart => exact ⟨0, rfl, by omega, by omega, rfl, rfl, Below.refl _ _⟩
  case round =>
    obtain ⟨k, rfl, hk, hk11, rfl, rfl, hbl⟩ := hrel
    have hc1 := cntD_le (s.data.toList.take k)
    have hc2 : (s.data.toList.take k).length ≤ 11 := by simp; omega
    have hv : valD (s.data.toList.take k) < 10 ^ 11 := Nat.lt_of_lt_of_le (valD_lt _) (Nat.pow_le_pow_right (by omega) (by omega))
    simp only [Nat.reducePow] at hv
    by_cases hlt : k < s.size ∧ k < 11
    · obtain ⟨hks, hk1⟩ := hlt
      have hsn := take_snoc s k hks
      have hv2 := valD_snoc (s.data.toList.take k) s[k]
      have hc3 := cntD_snoc (s.data.toList.take k) s[k]
      rw [← hsn] at hv2 hc3
      generalize valD (s.data.toList.take k) = nv at *
      generalize cntD (s.data.toList.take k) = nc at *
      have HV := Lib.hid hv2
      have HC := Lib.hid hc3
      clear hv2 hc3 hsn
      have hby : s[k].toNat ≤ 255 := by have := s[k].toNat_lt; omega
      by_cases h1 : 48 ≤ s[k].toNat
      · by_cases h2 : s[k].toNat ≤ 57
        · have hd : isDig s[k] = true := by simp [isDig, h1, h2]
          have HD := Lib.hid hd
          clear hd
          have hw1 : IntKind.u8.wrap ((s[k].toNat : Int) - 48) = (s[k].toNat : Int) - 48 := by rw [IntKind.wrap_u8]; omega
          have hw2 : IntKind.i64.wrap ((s[k].toNat : Int) - 48) = (s[k].toNat : Int) - 48 := by rw [IntKind.wrap_i64]; omega
          go_wp2
          go_roundw
          case rel => exact ⟨k + 1, by go_num, by omega, by omega, by rw [HV.out]; rw [if_pos HD.out]; go_num, by rw [HC.out]; rw [if_pos HD.out]; go_num, hbl⟩
          case measure => simp [intOf]; omega
        · go_wp2
          go_roundw
          case rel => exact ⟨k + 1, by go_num, by omega, by omega, by rw [HV.out]; rw [if_neg (by simp [isDig]; omega)], by rw [HC.out]; rw [if_neg (by simp [isDig]; omega)], hbl⟩
          case measure => simp [intOf]; omega
      · go_wp2
        go_roundw
        case rel => exact ⟨k + 1, by go_num, by omega, by omega, by rw [HV.out]; rw [if_neg (by simp [isDig]; omega)], by rw [HC.out]; rw [if_neg (by simp [isDig]; omega)], hbl⟩
        case measure => simp [intOf]; omega
    · have htk : s.data.toList.take k = s.data.toList.take 11 := by
        rcases (by omega : k = 11 ∨ (k = s.size ∧ s.size ≤ 11)) with rfl | ⟨rfl, h⟩
        · rfl
        · rw [List.take_of_length_le (by rw [len_data]; omega), List.take_of_length_le (by rw [len_data]; omega)]
      have hsr := spec_reads s.data.toList
      rw [← htk, len_data] at hsr
      generalize valD (s.data.toList.take k) = nv at *
      generalize cntD (s.data.toList.take k) = nc at *
      have HR := Lib.hid hsr
      clear hsr htk
      by_cases hbad : 9 < nc ∨ 10 < s.size
      · have hrd := (HR.out _ rfl).2 (hbad.elim .inl fun h => .inr (.inl h))
        have HB := Lib.hid hrd
        clear hrd
        by_cases h0 : 0 < s.size
        · by_cases hd : s[0].toNat = 45
          · by_cases hc9 : 9 < nc
            · go_wp2
              all_goals (go_ret2; exact ⟨⟨0, false, HB.out, rfl⟩, hbl⟩)
            · have hs10 : 10 < s.size := by omega
              go_wp2
              all_goals (go_ret2; exact ⟨⟨0, false, HB.out, rfl⟩, hbl⟩)
          · by_cases hc9 : 9 < nc
            · go_wp2
              all_goals (go_ret2; exact ⟨⟨0, false, HB.out, rfl⟩, hbl⟩)
            · have hs10 : 10 < s.size := by omega
              go_wp2
              all_goals (go_ret2; exact ⟨⟨0, false, HB.out, rfl⟩, hbl⟩)
        · have h00 : s.size = 0 := by omega
          have hc9 : 9 < nc := by omega
          go_wp2
          all_goals (go_ret2; exact ⟨⟨0, false, HB.out, rfl⟩, hbl⟩)
      · have g1 : ¬ 9 < nc := by omega
        have g2 : ¬ 10 < s.size := by omega
        by_cases h0 : 0 < s.size
        · by_cases hd : s[0].toNat = 45
          · have hsg : sgn s.data.toList = true := by rw [sgn_at s h0, beq_iff_eq]; exact UInt8.toNat_inj.1 hd
            have HG := Lib.hid hsg
            clear hsg
            go_wp2_with (go_at_call 5; refine (specDec _ _ (by omega) (by omega)).mono ?_; rintro e w' ⟨rfl, b⟩)
            · rename_i hx
              go_ret2
              exact ⟨⟨0, false, (HR.out (-(nv : Int)) (by rw [HG.out]; rfl)).2 (.inr (.inr (ne_str (hx.resolve_left (by omega))))), rfl⟩, hbl.trans (b.mono hbl.size)⟩
            · rename_i hx
              go_ret2
              exact ⟨⟨_, true, (HR.out (-(nv : Int)) (by rw [HG.out]; rfl)).1 (by omega) (by omega) (eq_str hx.2), rfl⟩, hbl.trans (b.mono hbl.size)⟩
          · have hsg : sgn s.data.toList = false := by rw [sgn_at s h0, beq_eq_false_iff_ne]; exact fun e => hd (by rw [e]; rfl)
            have HG := Lib.hid hsg
            clear hsg
            go_wp2_with (go_at_call 5; refine (specDec _ _ (by omega) (by omega)).mono ?_; rintro e w' ⟨rfl, b⟩)
            · rename_i hx
              go_ret2
              exact ⟨⟨0, false, (HR.out ((nv : Int)) (by rw [HG.out]; rfl)).2 (.inr (.inr (ne_str (hx.resolve_left (by omega))))), rfl⟩, hbl.trans (b.mono hbl.size)⟩
            · rename_i hx
              go_ret2
              exact ⟨⟨_, true, (HR.out ((nv : Int)) (by rw [HG.out]; rfl)).1 (by omega) (by omega) (eq_str hx.2), rfl⟩, hbl.trans (b.mono hbl.size)⟩
        · have h00 : s.size = 0 := by omega
          have HG := Lib.hid (sgn_nil s h00)
          go_wp2_with (go_at_call 5; refine (specDec _ _ (by omega) (by omega)).mono ?_; rintro e w' ⟨rfl, b⟩)
          · rename_i hx
            go_ret2
            exact ⟨⟨0, false, (HR.out ((nv : Int)) (by rw [HG.out]; rfl)).2 (.inr (.inr (ne_str (hx.resolve_left (by omega))))), rfl⟩, hbl.trans (b.mono hbl.size)⟩
          · rename_i hx
            go_ret2
            exact ⟨⟨_, true, (HR.out ((nv : Int)) (by rw [HG.out]; rfl)).1 (by omega) (by omega) (eq_str hx.2), rfl⟩, hbl.trans (b.mono hbl.size)⟩

theorem trimAny (s : ByteArray) (w : World) :
    Calls Tryd.prog 10 #[.string s, .string (ByteArray.mk #[45])] w fun e w' => (∃ d : ByteArray, (d.data.toList = if sgn s.data.toList then s.data.toList.drop 1 else s.data.toList) ∧ d.size ≤ s.size ∧ e = .returned (.string d)) ∧ w' = w := by
  refine (Tryd.strings_TrimPrefix s _ w).mono ?_
  rintro e w1 ⟨rfl, rfl⟩
  have hdl := Lib.trimPrefix_le s.data.toList [45]
  rw [len_data] at hdl
  exact ⟨⟨⟨(Lib.trimPrefix s.data.toList [45]).toArray⟩, trim_dash s, hdl, rfl⟩, rfl⟩

set_option maxRecDepth 100000 in
set_option maxHeartbeats 800000 in
theorem implReadDec (s : ByteArray) (w : World) (hs : (s.size : Int) ≤ 9223372036854775807) (ht : Tab w) :
    Calls Tryd.prog 8 #[.string s] w fun e w' => RdPost s e ∧ Below w.heap.size w w' := by
  go_enter Tryd.func8, Tryd.ntmps8
  go_wp2_with fail
  refine (trimAny s w).mono ?_
  rintro e w1 ⟨⟨d, hd, hdl, rfl⟩, rfl⟩
  have hir := impl_reads s.data.toList _ hd
  rw [len_data, len_data] at hir
  have HI := Lib.hid hir
  clear hir hd
  by_cases h1 : d.size < 1
  · have HB := Lib.hid ((HI.out _ rfl).2 (.inl h1))
    go_wp2
    all_goals (go_ret2; exact ⟨⟨0, false, HB.out, rfl⟩, Below.refl _ _⟩)
  · by_cases h9 : 9 < d.size
    · have HB := Lib.hid ((HI.out _ rfl).2 (.inr (.inl h9)))
      go_wp2
      all_goals (go_ret2; exact ⟨⟨0, false, HB.out, rfl⟩, Below.refl _ _⟩)
    · go_wp2
      go_loopw [5, 6] (fun n i wr => ∃ k : Nat, i = .int .i64 k ∧ k ≤ d.size ∧ n = .int .i64 (valD (d.data.toList.take k) : Nat) ∧ wr = w1) (fun _ i _ => d.size - (intOf i).toNat)
      case atStart => exact ⟨0, rfl, by omega, rfl, rfl⟩
      case round =>
        obtain ⟨k, rfl, hk, rfl, rfl⟩ := hrel
        have hc1 := cntD_le (d.data.toList.take k)
        have hc2 : (d.data.toList.take k).length ≤ 9 := by simp; omega
        have hv : valD (d.data.toList.take k) < 10 ^ 9 := Nat.lt_of_lt_of_le (valD_lt _) (Nat.pow_le_pow_right (by omega) (by omega))
        simp only [Nat.reducePow] at hv
        by_cases hks : k < d.size
        · have hsn := take_snoc d k hks
          have hv2 := valD_snoc (d.data.toList.take k) d[k]
          have hmem : d[k] ∈ d.data.toList := by
            have := ByteArray.getElem_eq_getElem_data (a := d) (i := k) (h := hks)
            rw [this]; simp
          rw [← hsn] at hv2
          generalize valD (d.data.toList.take k) = nv at *
          have HV := Lib.hid hv2
          clear hv2 hsn
          have hby : d[k].toNat ≤ 255 := by have := d[k].toNat_lt; omega
          by_cases h2 : 48 ≤ d[k].toNat
          · by_cases h3 : d[k].toNat ≤ 57
            · have HD := Lib.hid (show isDig d[k] = true by simp [isDig, h2, h3])
              have hw1 : IntKind.u8.wrap ((d[k].toNat : Int) - 48) = (d[k].toNat : Int) - 48 := by rw [IntKind.wrap_u8]; omega
              have hw2 : IntKind.i64.wrap ((d[k].toNat : Int) - 48) = (d[k].toNat : Int) - 48 := by rw [IntKind.wrap_i64]; omega
              clear hmem
              go_wp2
              go_roundw
              case rel => exact ⟨k + 1, by go_num, by omega, by rw [HV.out, if_pos HD.out]; go_num, by first | rfl | trivial⟩
              case measure => simp [intOf]; omega
            · have HB := Lib.hid ((HI.out _ rfl).2 (.inr (.inr (.inl ⟨d[k], hmem, by simp [isDig]; omega⟩))))
              clear hmem
              go_wp2
              all_goals (go_ret2; exact ⟨⟨0, false, HB.out, rfl⟩, Below.refl _ _⟩)
          · have HB := Lib.hid ((HI.out _ rfl).2 (.inr (.inr (.inl ⟨d[k], hmem, by simp [isDig]; omega⟩))))
            clear hmem
            go_wp2
            all_goals (go_ret2; exact ⟨⟨0, false, HB.out, rfl⟩, Below.refl _ _⟩)
        · obtain rfl : k = d.size := by omega
          rw [List.take_of_length_le (by rw [len_data]; exact Nat.le_refl _)] at *
          generalize valD d.data.toList = nv at *
          by_cases hlt : d.size < s.size
          · have HR := Lib.hid (HI.out (-(nv : Int)) (by rw [if_pos hlt]))
            go_wp2_with (go_at_call 6; refine (implDec _ _ (by omega) (by omega) ht).mono ?_; rintro e w' ⟨rfl, b⟩)
            · rename_i hx
              go_ret2
              exact ⟨⟨0, false, HR.out.2 (.inr (.inr (.inr (ne_str hx)))), rfl⟩, b⟩
            · rename_i hx
              go_ret2
              exact ⟨⟨_, true, HR.out.1 (by omega) (eq_str hx), rfl⟩, b⟩
          · have HR := Lib.hid (HI.out (nv : Int) (by rw [if_neg hlt]))
            go_wp2_with (go_at_call 6; refine (implDec _ _ (by omega) (by omega) ht).mono ?_; rintro e w' ⟨rfl, b⟩)
            · rename_i hx
              go_ret2
              exact ⟨⟨0, false, HR.out.2 (.inr (.inr (.inr (ne_str hx)))), rfl⟩, b⟩
            · rename_i hx
              go_ret2
              exact ⟨⟨_, true, HR.out.1 (by omega) (eq_str hx), rfl⟩, b⟩

set_option maxRecDepth 100000 in
set_option maxHeartbeats 400000 in
theorem walkFnExactReadDec (a0 : ByteArray) (w0 : a0.size ≤ maxLen) (w : World) (ht : Tab w) :
    Calls Tryd.prog 4 #[.string a0] w fun e w' => e = .returned (.bool true) ∧ Below w.heap.size w w' := by
  have hs : (a0.size : Int) ≤ 9223372036854775807 := by simp only [maxLen] at w0; omega
  by_cases hbig : (1048576 : Int) < a0.size
  · go_enter Tryd.func4, Tryd.ntmps4
    go_wp2
    go_ret
    exact ⟨rfl, Below.refl _ _⟩
  · go_enter Tryd.func4, Tryd.ntmps4
    go_wp2_with fail
    refine (specReadDec _ _ hs).mono ?_
    rintro e w1 ⟨⟨n, b, hrd, rfl⟩, b1⟩
    have HS := Lib.hid hrd
    clear hrd
    go_wp2_with fail
    refine (implReadDec _ _ hs (tab_below ht b1)).mono ?_
    rintro e w2 ⟨⟨n', b', hrd', rfl⟩, b2⟩
    obtain ⟨rfl, rfl⟩ := reads_one hrd' HS.out
    clear hrd' HS
    go_wp2
    go_ret
    exact ⟨rfl, b1.trans (b2.mono b1.size)⟩
end Go.Proofs.YtajjefpopjdfaaaDoor
