
/- Walks: one number and one piece read by the reference, from a place that may be none. -/
import Derived.Test.YtfbbdnicplbmdaaVars
import Derived.Test.YtfbbdnicplbmdaaRdS
import Derived.Lib.QuietBelow
import Derived.BigQuiet
set_option linter.unusedVariables false
set_option linter.unusedSimpArgs false
namespace Go.Proofs.Ytfbbdnicplbmdaa
open Go.RowKit Sp Go.Sort
namespace Sp
def tkV (s : ByteArray) (a : Int) : Option (Nat × Nat) := if a < 0 then none else takeV s a.toNat
theorem takeV_far {s : ByteArray} {p : Nat} (h : s.size < p) : takeV s p = none := by
  rcases hv : takeV s p with _ | ⟨x, q⟩
  · rfl
  · have := takeV_some hv; omega
theorem tkV_nat (s : ByteArray) (p : Nat) : tkV s (p : Int) = takeV s p := by unfold tkV; rw [if_neg (by omega), Int.toNat_natCast]
theorem tkV_some {s : ByteArray} {a : Int} {x q : Nat} (h : tkV s a = some (x, q)) : ∃ p : Nat, a = (p : Int) ∧ takeV s p = some (x, q) := by
  unfold tkV at h
  split at h
  · cases h
  · exact ⟨a.toNat, by omega, h⟩
theorem tkP_tkV (s : ByteArray) (a : Int) : tkP s a = match tkV s a with
    | none => (str [], -1)
    | some (n, q) => if s.size - q < n then (str [], -1) else (str ((rem s q).take n), ((q + n : Nat) : Int)) := by
  unfold tkP tkV takeP
  by_cases h : a < 0
  · rw [if_pos h, if_pos h]
  · rw [if_neg h, if_neg h]
    rcases takeV s a.toNat with _ | ⟨n, q⟩
    · rfl
    · simp only
      by_cases h2 : s.size - q < n
      · rw [if_pos h2, if_pos h2]
      · rw [if_neg h2, if_neg h2]
end Sp
theorem vars1_none (s : ByteArray) (a : Int) (w : World) (hs : (s.size : Int) ≤ 1048576) (hv : tkV s a = none) :
    Calls Try.prog 90 #[.string s, .int .i64 a, .int .i64 1] w fun e w' => ∃ g c, e = .returned (.tuple #[.slice (some ⟨g, 0, none⟩) 0 c, .int .i64 (-1)]) ∧ Below w.heap.size w w' := by
  by_cases h : a < 0 ∨ (s.size : Int) < a
  · refine (vars_off s a 1 w hs h (by decide)).mono ?_
    rintro e w' ⟨g, rfl, b⟩
    exact ⟨g, 0, rfl, b⟩
  · obtain ⟨p, rfl⟩ : ∃ p : Nat, a = (p : Int) := ⟨a.toNat, by omega⟩
    rw [tkV_nat] at hv
    have ht : takeVs s p 1 = ([], -1) := by simp [takeVs, hv]
    have := vars_any s p 1 w hs (by omega) (by decide)
    rw [ht] at this
    refine this.mono ?_
    rintro e w' ⟨g, c, rfl, _, _, _, b⟩
    exact ⟨g, c, rfl, b⟩
theorem vars1_some (s : ByteArray) (a : Int) (x q : Nat) (w : World) (hs : (s.size : Int) ≤ 1048576) (hv : tkV s a = some (x, q)) :
    Calls Try.prog 90 #[.string s, .int .i64 a, .int .i64 1] w fun e w' => ∃ g c, e = .returned (.tuple #[.slice (some ⟨g, 0, none⟩) 1 c, .int .i64 q]) ∧ w'.cell? ⟨g, 0, none⟩ = some (.int .i64 x) ∧ w.heap.size ≤ g ∧ g < w'.heap.size ∧ Below w.heap.size w w' := by
  obtain ⟨p, rfl, hp⟩ := tkV_some hv
  have hb := takeV_some hp
  have ht : takeVs s p 1 = ([x], (q : Int)) := by simp [takeVs, hp]
  have := vars_any s p 1 w hs (by omega) (by decide)
  rw [ht] at this
  refine this.mono ?_
  rintro e w' ⟨g, c, rfl, hc, h1, h2, b⟩
  exact ⟨g, c, rfl, hc 0 (by simp), h1, h2, b⟩

set_option maxRecDepth 100000 in
set_option maxHeartbeats 1600000 in
theorem take_any (s : ByteArray) (a : Int) (w : World) (hs : (s.size : Int) ≤ 1048576) :
    Calls Try.prog 91 #[.string s, .int .i64 a] w fun e w' => e = .returned (.tuple #[.string (tkP s a).1, .int .i64 (tkP s a).2]) ∧ Below w.heap.size w w' := by
  have HT := tkP_tkV s a
  rcases hv : tkV s a with _ | ⟨n, q⟩
  · rw [hv] at HT
    have HT := Lib.hid HT
    go_enter Try.func91, Try.ntmps91
    go_wp2_with (go_at_call 90; refine (vars1_none s a _ hs hv).mono ?_; rintro e w1 ⟨g, c, rfl, b1⟩)
    refine bodyPost_ret (v := .tuple #[.string (str []), .int .i64 (-1)]) (by simp [results, Try.results91, go_sem] <;> rfl) rfl ⟨by rw [HT.out], b1⟩
  · rw [hv] at HT
    simp only at HT
    obtain ⟨p, hap, hp⟩ := tkV_some hv
    clear hap
    obtain ⟨_, h2, _, h4⟩ := takeV_some hp
    have hq0 : ¬ (q : Int) < 0 := by omega
    have W1 : IntKind.i64.wrap ((s.size : Int) - (q : Int)) = (s.size : Int) - (q : Int) := by rw [IntKind.wrap_i64]; omega
    by_cases hlt : s.size - q < n
    · rw [if_pos hlt] at HT
      have HT := Lib.hid HT
      have hg : decide ((s.size : Int) - (q : Int) < (n : Int)) = true := decide_eq_true (by omega)
      go_enter Try.func91, Try.ntmps91
      go_wp2_with fail
      refine (vars1_some s a n q _ hs hv).mono ?_
      rintro e w1 ⟨g, c, rfl, c1, _, _, b1⟩
      clear hp hv
      go_wp2
      refine bodyPost_ret (v := .tuple #[.string (str []), .int .i64 (-1)]) (by simp [results, Try.results91, go_sem] <;> rfl) rfl ⟨by rw [HT.out], b1⟩
    · rw [if_neg hlt] at HT
      have HT := Lib.hid HT
      have hg : decide ((s.size : Int) - (q : Int) < (n : Int)) = false := decide_eq_false (by omega)
      go_enter Try.func91, Try.ntmps91
      go_wp2_with fail
      refine (vars1_some s a n q _ hs hv).mono ?_
      rintro e w1 ⟨g, c, rfl, c1, _, _, b1⟩
      clear hp hv
      go_wp2
      have hex := ext_str s q (q + n)
      rw [Nat.add_sub_cancel_left] at hex
      have HX := Lib.hid (show s.extract q (q + n) = str ((rem s q).take n) from hex)
      clear hex
      have W2 : IntKind.i64.wrap ((q : Int) + (n : Int)) = (q : Int) + (n : Int) := by rw [IntKind.wrap_i64]; omega
      have i1 : (q : Int) + (n : Int) ≤ s.size := by omega
      have i2 : (0 : Int) ≤ (q : Int) + (n : Int) := by omega
      have i3 : ((q : Int) + (n : Int)).toNat = q + n := by omega
      go_quiet (fail)
      go_wp2
      refine bodyPost_ret (v := .tuple #[.string (s.extract q (q + n)), .int .i64 ((q : Int) + (n : Int))]) (by simp [results, Try.results91, go_sem] <;> rfl) rfl ⟨by rw [HT.out, HX.out]; rfl, below_drewN b1 _⟩
end Go.Proofs.Ytfbbdnicplbmdaa
