/- Walks: Dec of the reference and of the program. -/
import Derived.Test.YtajjefpopjdfaaaDoorDecP
import Derived.Test.YtajjefpopjdfaaaDoorTypes
import Derived.Test.YtajjefpopjdfaaaDoorLaws
import Derived.Test.YtajjefpopjdfaaaDoorShelf
import Derived.WalkKit
import Derived.WalkSpells
import Derived.WalkLawsBesides
import Derived.Lib.Hide
import Derived.Lib.LaidTab
import Derived.Lib.AppendIntMem
set_option linter.unusedVariables false
set_option linter.unusedSimpArgs false
namespace Go.Proofs.YtajjefpopjdfaaaDoor
open Go.RowKit Sp
attribute [local go_sem] str_size str_append

/-- The table of the powers of ten, as the door has laid it. -/
def Tab (w : World) : Prop := Lib.TabIs Tryd.prog w "internal/strconv.uint64pow10" .u64 Lib.pow10Tab
theorem tab_below {w w' : World} (h : Tab w) (b : Below w.heap.size w w') : Tab w' := by
  unfold Tab Lib.TabIs World.var? at *
  cases hg : Tryd.prog.globalNamed "internal/strconv.uint64pow10" with
  | none => simp [hg] at h
  | some g =>
    simp only [hg, Option.bind_some] at h ⊢
    have hlt : g < w.heap.size := by
      rcases Nat.lt_or_ge g w.heap.size with h' | h'
      · exact h'
      · rw [Array.getElem?_eq_none h'] at h; simp at h
    rw [b.block g hlt]
    exact h
set_option maxHeartbeats 400000 in
theorem implDec (n : Int) (w : World) (h0 : -9223372036854775808 ≤ n) (h1 : n ≤ 9223372036854775807) (ht : Tab w) :
    Calls Tryd.prog 6 #[.int .i64 n] w fun e w' => e = .returned (.string (str (Lib.itoa n))) ∧ Below w.heap.size w w' := by
  go_enter Tryd.func6, Tryd.ntmps6
  go_wp2_with fail
  refine (Tryd.strconv_Itoa n h0 h1 w ht).mono ?_
  rintro e w1 ⟨rfl, k, os, rfl⟩
  go_wp2
  go_ret
  exact ⟨rfl, Lib.below_grow _ _ (Nat.le_refl _) k os⟩

set_option maxHeartbeats 800000 in
theorem specDec_pos (m : Nat) (neg : Bool) (n : Int) (hn : n = if neg then -(m : Int) else (m : Int)) (w : World) (h1 : 1 ≤ m) (h2 : -9223372036854775808 ≤ n) (h3 : n ≤ 9223372036854775807) :
    Calls Tryd.prog 5 #[.int .i64 n] w fun e w' => e = .returned (.string (str (Lib.itoa n))) ∧ Below w.heap.size w w' := by
  have hz : (n == 0) = false := by rw [beq_eq_false_iff_ne]; cases neg <;> simp at hn <;> omega
  have hng : decide (n < 0) = neg := by cases neg <;> simp at hn <;> simp <;> omega
  have HN := Lib.hid hn
  clear hn
  go_enter Tryd.func5, Tryd.ntmps5
  go_wp2
  go_loopw [0, 3] (fun a o wr => ∃ q : Nat, a = .int .i64 (if neg then -(q : Int) else (q : Int)) ∧ (∃ l, o = .string (str l) ∧ digR q ++ l = Lib.decDigits m ∧ (q < m → 0 < l.length)) ∧ q ≤ m ∧ Below w.heap.size w wr) (fun a _ _ => (intOf a).natAbs)
  case atStart => exact ⟨m, by rw [HN.out], ⟨[], rfl, by rw [digR_pos (by omega), List.append_nil], by omega⟩, Nat.le_refl _, Below.refl _ _⟩
  case round =>
    obtain ⟨q, rfl, ⟨l, rfl, hl, hl2⟩, hq, hbl⟩ := hrel
    have hm : m ≤ 9223372036854775808 := by have := HN.out; cases neg <;> simp at this <;> omega
    have hlen : (digR q).length + l.length ≤ 21 := by
      have := congrArg List.length hl
      rw [List.length_append] at this
      have h21 := dec_len 19 m (by omega)
      omega
    have kc := conv_one (P := Tryd.prog) Tryd.underlying27 Tryd.underlying5 Tryd.underlying9
    have HL := Lib.hid hl
    have HL2 := Lib.hid hl2
    clear hl hl2
    by_cases hq0 : 0 < q
    · have hst := digR_step hq0
      have HS := Lib.hid hst
      clear hst
      have hlt : l.length < 100 := by omega
      cases neg
      · have hqm : (q : Int) ≤ 9223372036854775807 := by have := HN.out; simp only [if_false, Bool.false_eq_true] at this; omega
        simp only [if_false, Bool.false_eq_true]
        have hw1 : (q : Int).tmod 10 = (q : Int) % 10 := Int.tmod_eq_emod_of_nonneg (by omega)
        have hw2 : (q : Int).tdiv 10 = (q : Int) / 10 := Int.tdiv_eq_ediv_of_nonneg (by omega)
        go_wp2
        go_roundw
        case rel => exact ⟨q / 10, by go_num, ⟨(48 + UInt8.ofNat (q % 10)) :: l, rfl, by rw [← HL.out, HS.out]; simp, fun _ => by simp⟩, by omega, hbl.alloc (by have := hbl.size; omega) _⟩
        case measure => simp [intOf]; omega
      · simp only [if_true]
        have hw1 : (-(q : Int)).tmod 10 = -((q : Int) % 10) := by rw [Int.neg_tmod, Int.tmod_eq_emod_of_nonneg (by omega)]
        have hw2 : (-(q : Int)).tdiv 10 = -((q : Int) / 10) := by rw [Int.neg_tdiv, Int.tdiv_eq_ediv_of_nonneg (by omega)]
        by_cases hz : 0 < (q : Int) % 10
        · go_wp2
          go_roundw
          case rel => exact ⟨q / 10, by go_num, ⟨(48 + UInt8.ofNat (q % 10)) :: l, rfl, by rw [← HL.out, HS.out]; simp, fun _ => by simp⟩, by omega, hbl.alloc (by have := hbl.size; omega) _⟩
          case measure => simp [intOf]; omega
        · have hz' : (q : Int) % 10 = 0 := by omega
          rw [hz'] at hw1
          go_wp2
          go_roundw
          case rel => exact ⟨q / 10, by go_num, ⟨48 :: l, rfl, by rw [← HL.out, HS.out]; simp [show q % 10 = 0 by omega], fun _ => by simp⟩, by omega, hbl.alloc (by have := hbl.size; omega) _⟩
          case measure => simp [intOf]; omega
    · obtain rfl : q = 0 := by omega
      have hll : l = Lib.decDigits m := by have := HL.out; rwa [digR_zero, List.nil_append] at this
      subst hll
      cases neg
      · go_wp2
        go_ret
        have hn := HN.out
        simp only [if_false, Bool.false_eq_true] at hn
        exact ⟨by rw [hn, Lib.itoa_nonneg]; rfl, hbl⟩
      · go_wp2
        go_ret
        have hn := HN.out
        simp only [if_true] at hn
        exact ⟨by rw [hn, Lib.itoa_neg _ h1]; rfl, hbl⟩

set_option maxHeartbeats 400000 in
theorem specDec (n : Int) (w : World) (h0 : -9223372036854775808 ≤ n) (h1 : n ≤ 9223372036854775807) :
    Calls Tryd.prog 5 #[.int .i64 n] w fun e w' => e = .returned (.string (str (Lib.itoa n))) ∧ Below w.heap.size w w' := by
  by_cases hz : n = 0
  · subst hz
    go_enter Tryd.func5, Tryd.ntmps5
    go_wp2
    go_ret
    exact ⟨by rw [itoa_zero]; rfl, Below.refl _ _⟩
  · by_cases hn : n < 0
    · exact specDec_pos n.natAbs true n (by simp; omega) w (by omega) h0 h1
    · exact specDec_pos n.natAbs false n (by simp; omega) w (by omega) h0 h1

set_option maxHeartbeats 400000 in
theorem walkFnExactDec (a0 : Int) (w0 : (Lit.int .i64 a0).wf = true) (w : World) (ht : Tab w) :
    Calls Tryd.prog 3 #[.int .i64 a0] w fun e w' => e = .returned (.bool true) ∧ Below w.heap.size w w' := by
  have hr : -9223372036854775808 ≤ a0 ∧ a0 ≤ 9223372036854775807 := by
    simp [Lit.wf] at w0; first | exact w0 | exact ⟨by omega, by omega⟩
  go_enter Tryd.func3, Tryd.ntmps3
  go_wp2_with fail
  refine (specDec _ _ hr.1 hr.2).mono ?_
  rintro e w1 ⟨rfl, b1⟩
  go_wp2_with fail
  refine (implDec _ _ hr.1 hr.2 (tab_below ht b1)).mono ?_
  rintro e w2 ⟨rfl, b2⟩
  go_wp2
  go_ret
  exact ⟨rfl, b1.trans (b2.mono b1.size)⟩
end Go.Proofs.YtajjefpopjdfaaaDoor
