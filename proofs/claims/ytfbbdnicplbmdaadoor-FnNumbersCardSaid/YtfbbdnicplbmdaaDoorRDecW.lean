
/- Walks: ReadDec of the reference and of the program. -/
import Derived.Test.YtfbbdnicplbmdaaDoorDecW
set_option linter.unusedVariables false
set_option linter.unusedSimpArgs false
namespace Go.Proofs.YtfbbdnicplbmdaaDoor
open Go.RowKit Sp
attribute [local go_sem] str_size str_append

theorem sgn_at (s : ByteArray) (h : 0 < s.size) : sgn s.data.toList = (s[0] == 45) := by
  obtain ⟨⟨l⟩⟩ := s
  cases l with
  | nil => exact absurd h (by decide)
  | cons c r => rfl
theorem sgn_nil (s : ByteArray) (h : s.size = 0) : sgn s.data.toList = false := by
  obtain ⟨⟨l⟩⟩ := s
  cases l with
  | nil => rfl
  | cons c r => cases h
theorem len_data (s : ByteArray) : s.data.toList.length = s.size := (Lib.size_eq s).symm
theorem str_inj {l : List UInt8} {s : ByteArray} : str l = s ↔ l = s.data.toList := ⟨fun h => by rw [← h, str_data], fun h => by rw [h, str_of]⟩

def RdPost (s : ByteArray) (e : Ending) : Prop := ∃ n b, Reads s.data.toList n b ∧ e = .returned (.tuple #[.int .i64 n, .bool b])
theorem ne_str {l : List UInt8} {s : ByteArray} (h : (!((str l).toList == s.toList)) = true) : l ≠ s.data.toList := by
  intro e; subst e; rw [str_of] at h; simp at h
theorem eq_str {l : List UInt8} {s : ByteArray} (h : (!((str l).toList == s.toList)) = false) : l = s.data.toList := by
  simp only [Bool.not_eq_false', beq_iff_eq] at h
  rw [str_toList, Lib.toList_data] at h; exact h

theorem trimAny (s : ByteArray) (w : World) :
    Calls Tryd.prog 20 #[.string s, .string (ByteArray.mk #[45])] w fun e w' => (∃ d : ByteArray, (d.data.toList = if sgn s.data.toList then s.data.toList.drop 1 else s.data.toList) ∧ d.size ≤ s.size ∧ e = .returned (.string d)) ∧ w' = w := by
  refine (Tryd.strings_TrimPrefix s _ w).mono ?_
  rintro e w1 ⟨rfl, rfl⟩
  have hdl := Lib.trimPrefix_le s.data.toList [45]
  rw [len_data] at hdl
  exact ⟨⟨⟨(Lib.trimPrefix s.data.toList [45]).toArray⟩, trim_dash s, hdl, rfl⟩, rfl⟩

set_option maxRecDepth 100000 in
set_option maxHeartbeats 800000 in
theorem implReadDec (s : ByteArray) (w : World) (hs : (s.size : Int) ≤ 9223372036854775807) (ht : Tab w) :
    Calls Tryd.prog 11 #[.string s] w fun e w' => RdPost s e ∧ Below w.heap.size w w' := by
  go_enter Tryd.func11, Tryd.ntmps11
  go_wp2_with fail
  refine (trimAny s w).mono ?_
  rintro e w1 ⟨⟨d, hd, hdl, rfl⟩, rfl⟩
  have hir := impl_reads s.data.toList _ hd
  rw [len_data, len_data] at hir
  have HI := Lib.hid hir
  clear hir hd
  by_cases h1 : d.size < 1
  · have HB := Lib.hid ((HI.out _ rfl).2 (.inl h1))
    go_wp2
    all_goals (go_ret2; exact ⟨⟨0, false, HB.out, rfl⟩, Below.refl _ _⟩)
  · by_cases h9 : 9 < d.size
    · have HB := Lib.hid ((HI.out _ rfl).2 (.inr (.inl h9)))
      go_wp2
      all_goals (go_ret2; exact ⟨⟨0, false, HB.out, rfl⟩, Below.refl _ _⟩)
    · go_wp2
      go_loopw [5, 6] (fun n i wr => ∃ k : Nat, i = .int .i64 k ∧ k ≤ d.size ∧ n = .int .i64 (valD (d.data.toList.take k) : Nat) ∧ wr = w1) (fun _ i _ => d.size - (intOf i).toNat)
      case atStart => exact ⟨0, rfl, by omega, rfl, rfl⟩
      case round =>
        obtain ⟨k, rfl, hk, rfl, rfl⟩ := hrel
        have hc1 := cntD_le (d.data.toList.take k)
        have hc2 : (d.data.toList.take k).length ≤ 9 := by simp; omega
        have hv : valD (d.data.toList.take k) < 10 ^ 9 := Nat.lt_of_lt_of_le (valD_lt _) (Nat.pow_le_pow_right (by omega) (by omega))
        simp only [Nat.reducePow] at hv
        by_cases hks : k < d.size
        · have hsn := take_snoc d k hks
          have hv2 := valD_snoc (d.data.toList.take k) d[k]
          have hmem : d[k] ∈ d.data.toList := by
            have := ByteArray.getElem_eq_getElem_data (a := d) (i := k) (h := hks)
            rw [this]; simp
          rw [← hsn] at hv2
          generalize valD (d.data.toList.take k) = nv at *
          have HV := Lib.hid hv2
          clear hv2 hsn
          have hby : d[k].toNat ≤ 255 := by have := d[k].toNat_lt; omega
          by_cases h2 : 48 ≤ d[k].toNat
          · by_cases h3 : d[k].toNat ≤ 57
            · have HD := Lib.hid (show isDig d[k] = true by simp [isDig, h2, h3])
              have hw1 : IntKind.u8.wrap ((d[k].toNat : Int) - 48) = (d[k].toNat : Int) - 48 := by rw [IntKind.wrap_u8]; omega
              have hw2 : IntKind.i64.wrap ((d[k].toNat : Int) - 48) = (d[k].toNat : Int) - 48 := by rw [IntKind.wrap_i64]; omega
              clear hmem
              go_wp2
              go_roundw
              case rel => exact ⟨k + 1, by go_num, by omega, by rw [HV.out, if_pos HD.out]; go_num, by first | rfl | trivial⟩
              case measure => simp [intOf]; omega
            · have HB := Lib.hid ((HI.out _ rfl).2 (.inr (.inr (.inl ⟨d[k], hmem, by simp [isDig]; omega⟩))))
              clear hmem
              go_wp2
              all_goals (go_ret2; exact ⟨⟨0, false, HB.out, rfl⟩, Below.refl _ _⟩)
          · have HB := Lib.hid ((HI.out _ rfl).2 (.inr (.inr (.inl ⟨d[k], hmem, by simp [isDig]; omega⟩))))
            clear hmem
            go_wp2
            all_goals (go_ret2; exact ⟨⟨0, false, HB.out, rfl⟩, Below.refl _ _⟩)
        · obtain rfl : k = d.size := by omega
          rw [List.take_of_length_le (by rw [len_data]; exact Nat.le_refl _)] at *
          generalize valD d.data.toList = nv at *
          by_cases hlt : d.size < s.size
          · have HR := Lib.hid (HI.out (-(nv : Int)) (by rw [if_pos hlt]))
            go_wp2_with (go_at_call 12; refine (implDec _ _ (by omega) (by omega) ht).mono ?_; rintro e w' ⟨rfl, b⟩)
            · rename_i hx
              go_ret2
              exact ⟨⟨0, false, HR.out.2 (.inr (.inr (.inr (ne_str hx)))), rfl⟩, b⟩
            · rename_i hx
              go_ret2
              exact ⟨⟨_, true, HR.out.1 (by omega) (eq_str hx), rfl⟩, b⟩
          · have HR := Lib.hid (HI.out (nv : Int) (by rw [if_neg hlt]))
            go_wp2_with (go_at_call 12; refine (implDec _ _ (by omega) (by omega) ht).mono ?_; rintro e w' ⟨rfl, b⟩)
            · rename_i hx
              go_ret2
              exact ⟨⟨0, false, HR.out.2 (.inr (.inr (.inr (ne_str hx)))), rfl⟩, b⟩
            · rename_i hx
              go_ret2
              exact ⟨⟨_, true, HR.out.1 (by omega) (eq_str hx), rfl⟩, b⟩

end Go.Proofs.YtfbbdnicplbmdaaDoor
