
/- Walks: the reader's method flag. -/
import Derived.Test.YtfbbdnicplbmdaaRdS
set_option linter.unusedVariables false
set_option linter.unusedSimpArgs false
namespace Go.Proofs.Ytfbbdnicplbmdaa
open Go.RowKit Sp Go.Sort
attribute [local go_sem] str_toList

set_option maxRecDepth 100000 in
set_option maxHeartbeats 800000 in
theorem flag_rd (b p : Nat) (s : ByteArray) (bad : Bool) (w : World) (h : Rd w b s p bad) (hp : (p : Int) ≤ s.size) (hs : (s.size : Int) ≤ 1048576) :
    Calls Try.prog 102 #[.pointer (some ⟨b, 0, none⟩)] w fun e w' => e = .returned (.bool (rdFlag s p bad).1) ∧ Rd w' b s (rdFlag s p bad).2.1 (rdFlag s p bad).2.2 ∧ w.grownBy w' (some b) := by
  have hF : rdFlag s p bad = if (rdBytes s p bad 1).1 = [0] then (false, (rdBytes s p bad 1).2) else if (rdBytes s p bad 1).1 = [1] then (true, (rdBytes s p bad 1).2) else (false, (rdBytes s p bad 1).2.1, true) := rfl
  have hB := bytes_any b p 1 1 rfl s bad w h hp hs (by decide)
  generalize rdBytes s p bad 1 = q at *
  obtain ⟨x, q, bd⟩ := q
  simp only at hF hB
  by_cases h0 : x = [0]
  · subst h0
    rw [if_pos rfl] at hF
    have HF := Lib.hid hF
    clear hF
    go_enter Try.func102, Try.ntmps102
    go_wp2_with (go_at_call 82; refine hB.mono ?_; rintro e w1 ⟨rfl, r1, t1⟩)
    go_wp2
    go_ret
    exact ⟨by rw [HF.out]; rfl, by rw [HF.out]; exact r1, t1⟩
  · by_cases h1 : x = [1]
    · subst h1
      rw [if_neg h0, if_pos rfl] at hF
      have HF := Lib.hid hF
      clear hF h0
      go_enter Try.func102, Try.ntmps102
      go_wp2_with (go_at_call 82; refine hB.mono ?_; rintro e w1 ⟨rfl, r1, t1⟩)
      go_wp2
      go_ret
      exact ⟨by rw [HF.out]; rfl, by rw [HF.out]; exact r1, t1⟩
    · rw [if_neg h0, if_neg h1] at hF
      have e0 : (x == [0]) = false := by simp [h0]
      have e1 : (x == [1]) = false := by simp [h1]
      clear h0 h1
      have HF := Lib.hid hF
      clear hF
      go_enter Try.func102, Try.ntmps102
      go_wp2_with (go_at_call 82; refine hB.mono ?_; rintro e w1 ⟨rfl, r1, t1⟩; have r2 := r1.setBad true; have t2 := touch_set t1 2 (.bool true); obtain ⟨c0, c1, c2, z⟩ := r1.facts)
      go_wp2
      go_ret
      exact ⟨by rw [HF.out]; rfl, by rw [HF.out]; exact r2, t2⟩
end Go.Proofs.Ytfbbdnicplbmdaa
