/- Walks: the laws' helper that marks a row of LogRow, nil or not, said of rows. -/
import Derived.Test.YtoflclofcnpjlaaKLogRowM
import Derived.Test.YtoflclofcnpjlaaKLogRowH
import Derived.Test.YtoflclofcnpjlaaRow
set_option linter.unusedVariables false
set_option linter.unusedSimpArgs false
namespace Go.Proofs.Ytoflclofcnpjlaa
open Go.RowKit Sp Go.Sort

set_option maxRecDepth 100000 in
set_option maxHeartbeats 400000 in
theorem markLogRowS_nil (k : Nat) (w : World) (hk1 : 1 ≤ (k : Int)) (hkl : (k : Int) ≤ 999999999) :
    Calls Try.prog 39 #[.slice none 0 0, .int .i64 k] w fun e w' => e = .returned (.int .i64 (k : Int)) ∧ w' = w := by
  go_enter Try.func39, Try.ntmps39
  go_wp2
  go_loopw [1, 5] (fun a i wr => i = .int .i64 0 ∧ a = .int .i64 k ∧ wr = w) (fun _ _ _ => 0)
  case atStart => exact ⟨rfl, rfl, rfl⟩
  case round =>
    obtain ⟨rfl, rfl, rfl⟩ := hrel
    go_wp2
    go_ret
    exact ⟨rfl, rfl⟩
theorem markLogRowS_row (v : Value) (l : List RowR) (k : Nat) (w : World) (lo hi : Nat) (h : Row RowR.cells 28 5 lo hi w v l) (hk1 : 1 ≤ (k : Int)) (hkl : (k : Int) + 5 * l.length ≤ 999999999) :
    Calls Try.prog 39 #[v, .int .i64 k] w fun e w' => e = .returned (.int .i64 ((k + 5 * l.length : Nat) : Int)) ∧ Row RowR.cells 28 5 lo hi w' v (marksLogRow k l.length) ∧ Wrote lo hi w w' := by
  rcases h.shape with ⟨rfl, rfl⟩ | ⟨g, cap, rfl, hlc, hcm, hg1, hg2, hg3⟩
  · refine (markLogRowS_nil k w hk1 (by simp at hkl; omega)).mono ?_
    rintro e w' ⟨rfl, rfl⟩
    exact ⟨by simp, by have := Row.nil (enc := RowR.cells) (T := 28) (size := 5) w' lo hi; simpa [marksLogRow] using this, Wrote.refl _ _ _⟩
  · refine (markLogRowS_any l k w lo g cap h.1 hlc hk1 hkl).mono ?_
    rintro e w' ⟨rfl, hr, ht⟩
    refine ⟨rfl, ⟨by rw [marksLogRow_length]; exact hr, h.2⟩, Wrote.of_touch ht fun k hk => ?_⟩
    obtain rfl : g = k := Option.some.inj hk
    exact ⟨hg1, hg2⟩
theorem heldLogRowS_row (v : Value) (k m : Nat) (w : World) (lo hi : Nat) (h : Row RowR.cells 28 5 lo hi w v (marksLogRow k m)) (hk1 : 1 ≤ (k : Int)) (hkl : (k : Int) + 5 * m ≤ 999999999) :
    Calls Try.prog 40 #[v, .int .i64 k] w fun e w' => e = .returned (.int .i64 ((k + 5 * m : Nat) : Int)) ∧ Below w.heap.size w w' :=
  heldLogRowS_any v k m w (h.slT (fun _ => rfl) (by decide)) hk1 hkl
theorem markLogRowS_rowi (v : Value) (l : List RowR) (x : Int) (k : Nat) (hx : x = (k : Int)) (w : World) (lo hi : Nat) (h : Row RowR.cells 28 5 lo hi w v l) (hk1 : 1 ≤ (k : Int)) (hkl : (k : Int) + 5 * l.length ≤ 999999999) :
    Calls Try.prog 39 #[v, .int .i64 x] w fun e w' => e = .returned (.int .i64 ((k + 5 * l.length : Nat) : Int)) ∧ Row RowR.cells 28 5 lo hi w' v (marksLogRow k l.length) ∧ Wrote lo hi w w' := by
  subst hx; exact markLogRowS_row v l k w lo hi h hk1 hkl
theorem heldLogRowS_rowi (v : Value) (x : Int) (k m : Nat) (hx : x = (k : Int)) (w : World) (lo hi : Nat) (h : Row RowR.cells 28 5 lo hi w v (marksLogRow k m)) (hk1 : 1 ≤ (k : Int)) (hkl : (k : Int) + 5 * m ≤ 999999999) :
    Calls Try.prog 40 #[v, .int .i64 x] w fun e w' => e = .returned (.int .i64 ((k + 5 * m : Nat) : Int)) ∧ Below w.heap.size w w' := by
  subst hx; exact heldLogRowS_row v k m w lo hi h hk1 hkl
end Go.Proofs.Ytoflclofcnpjlaa
