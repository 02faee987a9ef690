
/- Plain and walks: the reader's methods number, bytes, done. -/
import Derived.Test.YtfbbdnicplbmdaaReadVarI
import Derived.Test.YtfbbdnicplbmdaaTouch
import Derived.Test.YtfbbdnicplbmdaaExt
import Derived.Lib.QuietBelow
import Derived.BigQuiet
import Derived.Lib.Builder
import Derived.Deep.DeepCutAuto
set_option linter.unusedVariables false
set_option linter.unusedSimpArgs false
namespace Go.Proofs.Ytfbbdnicplbmdaa
open Go.RowKit Sp Go.Sort
namespace Sp
def rdNum (s : ByteArray) (p : Nat) (bad : Bool) : Nat × Nat × Bool :=
  if bad then (0, p, true) else if (readVarL (s.data.toList.drop p)).2 = 0 then (0, p, true) else ((readVarL (s.data.toList.drop p)).1, p + (readVarL (s.data.toList.drop p)).2, false)
def rdBytes (s : ByteArray) (p : Nat) (bad : Bool) (n : Nat) : List UInt8 × Nat × Bool :=
  if bad = true ∨ s.size - p < n then ([], p, true) else ((s.data.toList.drop p).take n, p + n, false)
theorem readVarL_bd (l : List UInt8) : (readVarL l).2 ≤ l.length ∧ ((readVarL l).1 : Int) ≤ 562949953421311 := by
  by_cases h : (readVarL l).2 = 0
  · by_cases hn : ∀ k, 1 ≤ k → k ≤ 7 → k ≤ l.length → can (l.take k) = false
    · rw [readVarL_none hn]; exact ⟨Nat.zero_le _, by decide⟩
    · exfalso
      simp only [Classical.not_forall] at hn
      obtain ⟨k, h1, h7, hs, hc⟩ := hn
      have := readVarL_can h1 h7 hs (by simpa using hc)
      rw [this] at h; simp at h; omega
  · by_cases hn : ∀ k, 1 ≤ k → k ≤ 7 → k ≤ l.length → can (l.take k) = false
    · rw [readVarL_none hn] at h; exact absurd rfl h
    · simp only [Classical.not_forall] at hn
      obtain ⟨k, h1, h7, hs, hc⟩ := hn
      have e := readVarL_can h1 h7 hs (by simpa using hc)
      have hv := val_lt7 (l := l.take k) (by simp; omega)
      rw [e]; exact ⟨hs, by omega⟩
theorem rdNum_bd (s : ByteArray) (p : Nat) (bad : Bool) (h : p ≤ s.size) : (rdNum s p bad).2.1 ≤ s.size ∧ ((rdNum s p bad).1 : Int) ≤ 562949953421311 := by
  have hb := readVarL_bd (s.data.toList.drop p)
  have hl : (s.data.toList.drop p).length = s.size - p := by simp
  unfold rdNum
  split
  · exact ⟨h, by show ((0 : Nat) : Int) ≤ _; omega⟩
  · split
    · exact ⟨h, by show ((0 : Nat) : Int) ≤ _; omega⟩
    · exact ⟨by simp only; omega, hb.2⟩
end Sp
/-- The block b holds a reader of s at p. -/
def Rd (w : World) (b : Nat) (s : ByteArray) (p : Nat) (bad : Bool) : Prop := ∃ T, w.heap[b]? = some (.cells #[.string s, .int .i64 (p : Nat), .bool bad] T (0, 0))
theorem Rd.below {w w' : World} {b p : Nat} {s : ByteArray} {bad : Bool} (h : Rd w b s p bad) (hb : Below w.heap.size w w') : Rd w' b s p bad := by
  obtain ⟨T, hT⟩ := h
  exact ⟨T, (hb.block b (Array.getElem?_eq_some_iff.1 hT).1).trans hT⟩
theorem Rd.lt {w : World} {b p : Nat} {s : ByteArray} {bad : Bool} (h : Rd w b s p bad) : b < w.heap.size := by
  obtain ⟨T, hT⟩ := h; exact (Array.getElem?_eq_some_iff.1 hT).1
theorem Rd.facts {w : World} {b p : Nat} {s : ByteArray} {bad : Bool} (h : Rd w b s p bad) :
    w.cell? ⟨b, 0, none⟩ = some (.string s) ∧ w.cell? ⟨b, 1, none⟩ = some (.int .i64 (p : Nat)) ∧ w.cell? ⟨b, 2, none⟩ = some (.bool bad) ∧ ∀ j, w.frozen? ⟨b, j, none⟩ = false := by
  obtain ⟨T, hT⟩ := h
  exact ⟨by rw [Lib.cell_of_heap hT]; rfl, by rw [Lib.cell_of_heap hT]; rfl, by rw [Lib.cell_of_heap hT]; rfl, fun j => Lib.frozen_of_heap hT j⟩
theorem Rd.setAt {w : World} {b p : Nat} {s : ByteArray} {bad : Bool} (h : Rd w b s p bad) (q : Nat) : Rd (w.setCell ⟨b, 1, none⟩ (.int .i64 (q : Nat))) b s q bad := by
  obtain ⟨T, hT⟩ := h
  refine ⟨T, ?_⟩
  simp only [World.setCell]
  rw [Array.getElem?_modify, if_pos rfl, hT]; rfl
theorem Rd.setBad {w : World} {b p : Nat} {s : ByteArray} {bad : Bool} (h : Rd w b s p bad) (q : Bool) : Rd (w.setCell ⟨b, 2, none⟩ (.bool q)) b s p q := by
  obtain ⟨T, hT⟩ := h
  refine ⟨T, ?_⟩
  simp only [World.setCell]
  rw [Array.getElem?_modify, if_pos rfl, hT]; rfl
theorem below_touch {B b : Nat} {w wa wb : World} (h : Below B w wa) (t : wa.grownBy wb (some b)) (hb : B ≤ b) (hB : B ≤ wa.heap.size) : Below B w wb :=
  h.trans ⟨t.os, t.tape, t.output, t.size, fun k hk => t.block k (Nat.lt_of_lt_of_le hk hB) (by intro he; have := Option.some.inj he; omega)⟩
theorem ext_from (s : ByteArray) (p : Nat) : (s.extract p s.size).data.toList = s.data.toList.drop p := by
  rw [ext_str, str_data, List.take_of_length_le (by simp)]

set_option maxRecDepth 100000 in
set_option maxHeartbeats 1600000 in
theorem number_any (b p : Nat) (s : ByteArray) (bad : Bool) (w : World) (h : Rd w b s p bad) (hp : (p : Int) ≤ s.size) (hs : (s.size : Int) ≤ 1048576) :
    Calls Try.prog 80 #[.pointer (some ⟨b, 0, none⟩)] w fun e w' => e = .returned (.int .i64 ((rdNum s p bad).1 : Nat)) ∧ Rd w' b s (rdNum s p bad).2.1 (rdNum s p bad).2.2 ∧ w.grownBy w' (some b) := by
  obtain ⟨c0, c1, c2, z⟩ := h.facts
  cases bad
  · have hb := readVarL_bd (s.data.toList.drop p)
    have hl : (s.data.toList.drop p).length = s.size - p := by simp
    have hx := ext_from s p
    have hxs : ((s.extract p s.size).size : Int) ≤ 1048576 := by rw [ByteArray.size_extract]; omega
    have hrd : rdNum s p false = if (readVarL (s.data.toList.drop p)).2 = 0 then (0, p, true) else ((readVarL (s.data.toList.drop p)).1, p + (readVarL (s.data.toList.drop p)).2, false) := rfl
    have cR : ∀ w, Calls Try.prog 145 #[.string (s.extract p s.size)] w fun e w' => e = .returned (.tuple #[.int .i64 ((readVarL (s.data.toList.drop p)).1 : Nat), .int .i64 ((readVarL (s.data.toList.drop p)).2 : Nat)]) ∧ w' = w := fun w => by
      have := implReadVar (s.extract p s.size) w (by omega)
      rw [hx] at this
      exact this.mono fun _ _ h => ⟨h.1, h.2.symm⟩
    generalize (readVarL (s.data.toList.drop p)).1 = x at *
    generalize (readVarL (s.data.toList.drop p)).2 = k at *
    have HX := Lib.hid hx
    have HR := Lib.hid hrd
    have HH := Lib.hid h
    clear hx hrd h
    go_enter Try.func80, Try.ntmps80
    go_wp2
    go_quiet ((go_at_call 145; exact Calls.quiet_of_same (cR _)))
    have HD := Lib.hid (show Rd (w.drewN nq) b s p false from HH.out)
    have c1' : (w.drewN nq).cell? ⟨b, 1, none⟩ = some (.int .i64 (p : Nat)) := HD.out.facts.2.1
    have c2' : (w.drewN nq).cell? ⟨b, 2, none⟩ = some (.bool false) := HD.out.facts.2.2.1
    have z' : ∀ j, (w.drewN nq).frozen? ⟨b, j, none⟩ = false := HD.out.facts.2.2.2
    have ht : w.grownBy (w.drewN nq) (some b) := ⟨rfl, rfl, rfl, Nat.le_refl _, fun k _ _ => rfl⟩
    clear cR
    by_cases hk : k = 0
    · have hk' : ((k : Int) == 0) = true := by simp [hk]
      have hr2 := HD.out.setBad true
      have ht2 := touch_set ht 2 (.bool true)
      have HK := Lib.hid hk
      clear hk
      go_wp2
      go_ret
      exact ⟨by rw [HR.out, if_pos HK.out]; rfl, by rw [HR.out, if_pos HK.out]; exact hr2, ht2⟩
    · have hk' : ((k : Int) == 0) = false := by simp; omega
      have hr2 := HD.out.setAt (p + k)
      have ht2 := touch_set ht 1 (.int .i64 ((p + k : Nat) : Int))
      have HK := Lib.hid hk
      clear hk
      go_wp2
      go_ret
      exact ⟨by rw [HR.out, if_neg HK.out]; rfl, by rw [HR.out, if_neg HK.out]; exact hr2, ht2⟩
  · have HR := Lib.hid (show rdNum s p true = (0, p, true) from rfl)
    go_enter Try.func80, Try.ntmps80
    go_wp2
    go_ret
    exact ⟨rfl, h, touch_refl _ _⟩

set_option maxRecDepth 100000 in
set_option maxHeartbeats 1600000 in
theorem bytes_any (b p n : Nat) (N : Int) (hN : N = (n : Int)) (s : ByteArray) (bad : Bool) (w : World) (h : Rd w b s p bad) (hp : (p : Int) ≤ s.size) (hs : (s.size : Int) ≤ 1048576) (hn : (n : Int) ≤ 562949953421311) :
    Calls Try.prog 82 #[.pointer (some ⟨b, 0, none⟩), .int .i64 N] w fun e w' => e = .returned (.string (str (rdBytes s p bad n).1)) ∧ Rd w' b s (rdBytes s p bad n).2.1 (rdBytes s p bad n).2.2 ∧ w.grownBy w' (some b) := by
  subst hN
  obtain ⟨c0, c1, c2, z⟩ := h.facts
  have W1 : IntKind.i64.wrap ((s.size : Int) - (p : Int)) = (s.size : Int) - (p : Int) := by rw [IntKind.wrap_i64]; omega
  have ht0 : ∀ q, w.grownBy (w.drewN q) (some b) := fun q => ⟨rfl, rfl, rfl, Nat.le_refl _, fun k _ _ => rfl⟩
  by_cases hbad : bad = true
  · subst hbad
    have HR := Lib.hid (show rdBytes s p true n = ([], p, true) from if_pos (.inl rfl))
    have HH := Lib.hid h
    clear h
    go_enter Try.func82, Try.ntmps82
    go_wp2
    go_quiet (fail)
    have HD := Lib.hid (show Rd (w.drewN nq) b s p true from HH.out)
    have c2' : (w.drewN nq).cell? ⟨b, 2, none⟩ = some (.bool true) := HD.out.facts.2.2.1
    have z' : ∀ j, (w.drewN nq).frozen? ⟨b, j, none⟩ = false := HD.out.facts.2.2.2
    have hr2 := HD.out.setBad true
    have ht2 := touch_set (ht0 nq) 2 (.bool true)
    go_wp2
    go_ret
    exact ⟨by rw [HR.out]; rfl, by rw [HR.out]; exact hr2, ht2⟩
  · have hbf : bad = false := by simpa using hbad
    subst hbf
    by_cases hlt : (s.size : Int) - (p : Int) < (n : Int)
    · have hg : decide ((s.size : Int) - (p : Int) < (n : Int)) = true := decide_eq_true hlt
      have HR := Lib.hid (show rdBytes s p false n = ([], p, true) from if_pos (.inr (by omega)))
      have HH := Lib.hid h
      clear h
      go_enter Try.func82, Try.ntmps82
      go_wp2
      go_quiet (fail)
      have HD := Lib.hid (show Rd (w.drewN nq) b s p false from HH.out)
      have c2' : (w.drewN nq).cell? ⟨b, 2, none⟩ = some (.bool false) := HD.out.facts.2.2.1
      have z' : ∀ j, (w.drewN nq).frozen? ⟨b, j, none⟩ = false := HD.out.facts.2.2.2
      have hr2 := HD.out.setBad true
      have ht2 := touch_set (ht0 nq) 2 (.bool true)
      go_wp2
      go_ret
      exact ⟨by rw [HR.out]; rfl, by rw [HR.out]; exact hr2, ht2⟩
    · have hg : decide ((s.size : Int) - (p : Int) < (n : Int)) = false := decide_eq_false hlt
      have HR := Lib.hid (show rdBytes s p false n = ((s.data.toList.drop p).take n, p + n, false) from if_neg (by simp; omega))
      have HH := Lib.hid h
      clear h
      have W2 : IntKind.i64.wrap ((p : Int) + (n : Int)) = (p : Int) + (n : Int) := by rw [IntKind.wrap_i64]; omega
      have W3 : IntKind.i64.wrap ((p : Int) + (n : Int) - (n : Int)) = (p : Int) := by rw [IntKind.wrap_i64]; omega
      have W4 : IntKind.i64.wrap (p : Int) = (p : Int) := by rw [IntKind.wrap_i64]; omega
      have W5 : (p : Int) + (n : Int) - (n : Int) = (p : Int) := by omega
      go_enter Try.func82, Try.ntmps82
      go_wp2
      go_quiet (fail)
      have HD := Lib.hid (show Rd (w.drewN nq) b s p false from HH.out)
      have c1' : (w.drewN nq).cell? ⟨b, 1, none⟩ = some (.int .i64 (p : Nat)) := HD.out.facts.2.1
      have z' : ∀ j, (w.drewN nq).frozen? ⟨b, j, none⟩ = false := HD.out.facts.2.2.2
      have hr2 := HD.out.setAt (p + n)
      have ht2 := touch_set (ht0 nq) 1 (.int .i64 ((p + n : Nat) : Int))
      have hq : (((p + n : Nat) : Int)) = (p : Int) + (n : Int) := by omega
      rw [hq] at hr2 ht2
      clear hq
      go_upto_region 5 with fail
      generalize (w.drewN nq).setCell ⟨b, 1, none⟩ (.int .i64 ((p : Int) + (n : Int))) = w2 at *
      obtain ⟨e0, e1, e2, ez⟩ := hr2.facts
      have hex := ext_str s p (p + n)
      rw [Nat.add_sub_cancel_left] at hex
      have H2 := Lib.hid hr2
      clear hr2 c0 c1 c2 z c1' z'
      have i1 : (p : Int) + (n : Int) ≤ s.size := by omega
      have i2 : (0 : Int) ≤ (p : Int) + (n : Int) := by omega
      have i3 : ((p : Int) + (n : Int)).toNat = p + n := by omega
      have e1' : w2.cell? ⟨b, 1, none⟩ = some (.int .i64 ((p : Int) + (n : Int))) := by rw [e1]; simp
      clear e1
      go_quiet (fail)
      go_wp2
      go_ret
      exact ⟨by rw [HR.out]; rfl, by rw [HR.out]; exact H2.out, ⟨ht2.os, ht2.tape, ht2.output, ht2.size, ht2.block⟩⟩

set_option maxRecDepth 100000 in
set_option maxHeartbeats 1600000 in
theorem done_any (b p : Nat) (s : ByteArray) (bad : Bool) (w : World) (h : Rd w b s p bad) (hs : (s.size : Int) ≤ 1048576) :
    Calls Try.prog 83 #[.pointer (some ⟨b, 0, none⟩)] w fun e w' => e = .returned (.bool (!bad && p == s.size)) ∧ Below w.heap.size w w' := by
  obtain ⟨c0, c1, c2, z⟩ := h.facts
  clear h
  cases bad
  · rcases he : (p == s.size) with _ | _
    all_goals
      have he' : ((p : Int) == (s.size : Int)) = (p == s.size) := by rw [Bool.eq_iff_iff]; simp; omega
      rw [he] at he'
      clear he
      go_enter Try.func83, Try.ntmps83
      go_wp2
      go_quiet (fail)
      go_wp2
      go_ret
      exact ⟨rfl, below_drewN (Below.refl _ _) _⟩
  · go_enter Try.func83, Try.ntmps83
    go_wp2
    go_quiet (fail)
    go_wp2
    go_ret
    exact ⟨rfl, below_drewN (Below.refl _ _) _⟩
end Go.Proofs.Ytfbbdnicplbmdaa
