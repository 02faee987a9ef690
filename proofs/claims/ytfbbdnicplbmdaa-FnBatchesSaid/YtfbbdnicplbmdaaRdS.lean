
/- Walks: the reader's method short. -/
import Derived.Test.YtfbbdnicplbmdaaTakP
set_option linter.unusedVariables false
set_option linter.unusedSimpArgs false
namespace Go.Proofs.Ytfbbdnicplbmdaa
open Go.RowKit Sp Go.Sort
attribute [local go_sem] str_toList
theorem touch2 {a b c : World} {g : Nat} (h : a.grownBy b (some g)) (k : b.grownBy c (some g)) : a.grownBy c (some g) :=
  ⟨k.os.trans h.os, k.tape.trans h.tape, k.output.trans h.output, Nat.le_trans h.size k.size, fun i hi hne => (k.block i (Nat.lt_of_lt_of_le hi h.size) hne).trans (h.block i hi hne)⟩

set_option maxRecDepth 100000 in
set_option maxHeartbeats 800000 in
theorem short_rd (b p : Nat) (s : ByteArray) (bad : Bool) (w : World) (h : Rd w b s p bad) (hp : (p : Int) ≤ s.size) (hs : (s.size : Int) ≤ 1048576) :
    Calls Try.prog 81 #[.pointer (some ⟨b, 0, none⟩)] w fun e w' => e = .returned (.string (rdShort s p bad).1) ∧ Rd w' b s (rdShort s p bad).2.1 (rdShort s p bad).2.2 ∧ w.grownBy w' (some b) := by
  obtain ⟨q1, q2⟩ := rdNum_bdI s p bad hp
  go_enter Try.func81, Try.ntmps81
  go_wp2_with (go_at_call 80; refine (number_any b p s bad _ h hp hs).mono ?_; rintro e w1 ⟨rfl, r1, t1⟩)
  go_wp2_with (go_at_call 82; refine (bytes_any b _ _ _ rfl s _ _ r1 q1 hs q2).mono ?_; rintro e w2 ⟨rfl, r2, t2⟩)
  go_wp2
  go_ret
  exact ⟨rfl, r2, touch2 t1 t2⟩

end Go.Proofs.Ytfbbdnicplbmdaa
