
/- Walks: markText of the laws. -/
import Derived.Test.YtmbmflhcimkjpaaTypes
import Derived.Test.YtmbmflhcimkjpaaLaws
import Derived.WalkKit
import Derived.WalkSpells
import Derived.WalkLawsBesides
import Derived.Lib.Hide
set_option linter.unusedVariables false
set_option linter.unusedSimpArgs false
namespace Go.Proofs.Ytmbmflhcimkjpaa
open Go.RowKit Sp
attribute [local go_sem] str_size str_append
namespace Sp
/-- The digits of a number, none of 0. -/
def digs (n : Nat) : List UInt8 := if h : n = 0 then [] else digs (n / 10) ++ [UInt8.ofNat (48 + n % 10)]
termination_by n
decreasing_by omega
theorem digs_zero : digs 0 = [] := by rw [digs]; simp
theorem digs_pos {n : Nat} (h : n ≠ 0) : digs n = digs (n / 10) ++ [UInt8.ofNat (48 + n % 10)] := by rw [digs]; simp [h]
theorem digs_length (k : Nat) : ∀ n, n < 10 ^ k → (digs n).length ≤ k := by
  induction k with
  | zero => intro n h; have : n = 0 := by omega
            subst this; simp [digs_zero]
  | succ k ih =>
    intro n h
    by_cases h0 : n = 0
    · subst h0; simp [digs_zero]
    · rw [digs_pos h0, List.length_append]
      have := ih (n / 10) (by rw [Nat.pow_succ] at h; omega)
      simp; omega
/-- The mark of a number above 0. -/
def markL (n : Nat) : List UInt8 := 109 :: digs n
end Sp

end Go.Proofs.Ytmbmflhcimkjpaa
