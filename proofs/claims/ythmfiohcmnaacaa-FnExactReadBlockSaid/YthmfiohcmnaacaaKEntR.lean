/- Walks: the laws' helper that marks a row of Ent, nil or not, said of rows. -/
import Derived.Test.YthmfiohcmnaacaaKEntM
import Derived.Test.YthmfiohcmnaacaaKEntH
import Derived.Test.YthmfiohcmnaacaaRow
set_option linter.unusedVariables false
set_option linter.unusedSimpArgs false
namespace Go.Proofs.Ythmfiohcmnaacaa
open Go.RowKit Sp Go.Sort

set_option maxRecDepth 100000 in
set_option maxHeartbeats 400000 in
theorem markEntS_nil (k : Nat) (w : World) (hk1 : 1 ≤ (k : Int)) (hkl : (k : Int) ≤ 999999999) :
    Calls Try.prog 26 #[.slice none 0 0, .int .i64 k] w fun e w' => e = .returned (.int .i64 (k : Int)) ∧ w' = w := by
  go_enter Try.func26, Try.ntmps26
  go_wp2
  go_loopw [1, 5] (fun a i wr => i = .int .i64 0 ∧ a = .int .i64 k ∧ wr = w) (fun _ _ _ => 0)
  case atStart => exact ⟨rfl, rfl, rfl⟩
  case round =>
    obtain ⟨rfl, rfl, rfl⟩ := hrel
    go_wp2
    go_ret
    exact ⟨rfl, rfl⟩
theorem markEntS_row (v : Value) (l : List EntR) (k : Nat) (w : World) (lo hi : Nat) (h : Row EntR.cells 30 4 lo hi w v l) (hk1 : 1 ≤ (k : Int)) (hkl : (k : Int) + 4 * l.length ≤ 999999999) :
    Calls Try.prog 26 #[v, .int .i64 k] w fun e w' => e = .returned (.int .i64 ((k + 4 * l.length : Nat) : Int)) ∧ Row EntR.cells 30 4 lo hi w' v (marksEnt k l.length) ∧ Wrote lo hi w w' := by
  rcases h.shape with ⟨rfl, rfl⟩ | ⟨g, cap, rfl, hlc, hcm, hg1, hg2, hg3⟩
  · refine (markEntS_nil k w hk1 (by simp at hkl; omega)).mono ?_
    rintro e w' ⟨rfl, rfl⟩
    exact ⟨by simp, by have := Row.nil (enc := EntR.cells) (T := 30) (size := 4) w' lo hi; simpa [marksEnt] using this, Wrote.refl _ _ _⟩
  · refine (markEntS_any l k w lo g cap h.1 hlc hk1 hkl).mono ?_
    rintro e w' ⟨rfl, hr, ht⟩
    refine ⟨rfl, ⟨by rw [marksEnt_length]; exact hr, h.2⟩, Wrote.of_touch ht fun k hk => ?_⟩
    obtain rfl : g = k := Option.some.inj hk
    exact ⟨hg1, hg2⟩
theorem heldEntS_row (v : Value) (k m : Nat) (w : World) (lo hi : Nat) (h : Row EntR.cells 30 4 lo hi w v (marksEnt k m)) (hk1 : 1 ≤ (k : Int)) (hkl : (k : Int) + 4 * m ≤ 999999999) :
    Calls Try.prog 37 #[v, .int .i64 k] w fun e w' => e = .returned (.int .i64 ((k + 4 * m : Nat) : Int)) ∧ Below w.heap.size w w' :=
  heldEntS_any v k m w (h.slT (fun _ => rfl) (by decide)) hk1 hkl
theorem markEntS_rowi (v : Value) (l : List EntR) (x : Int) (k : Nat) (hx : x = (k : Int)) (w : World) (lo hi : Nat) (h : Row EntR.cells 30 4 lo hi w v l) (hk1 : 1 ≤ (k : Int)) (hkl : (k : Int) + 4 * l.length ≤ 999999999) :
    Calls Try.prog 26 #[v, .int .i64 x] w fun e w' => e = .returned (.int .i64 ((k + 4 * l.length : Nat) : Int)) ∧ Row EntR.cells 30 4 lo hi w' v (marksEnt k l.length) ∧ Wrote lo hi w w' := by
  subst hx; exact markEntS_row v l k w lo hi h hk1 hkl
theorem heldEntS_rowi (v : Value) (x : Int) (k m : Nat) (hx : x = (k : Int)) (w : World) (lo hi : Nat) (h : Row EntR.cells 30 4 lo hi w v (marksEnt k m)) (hk1 : 1 ≤ (k : Int)) (hkl : (k : Int) + 4 * m ≤ 999999999) :
    Calls Try.prog 37 #[v, .int .i64 x] w fun e w' => e = .returned (.int .i64 ((k + 4 * m : Nat) : Int)) ∧ Below w.heap.size w w' := by
  subst hx; exact heldEntS_row v k m w lo hi h hk1 hkl
end Go.Proofs.Ythmfiohcmnaacaa
