
/- Walks: the laws' helpers that mark Dev and read its marks; its slices are rows of one's own. -/
import Derived.Test.YtmbmflhcimkjpaaSDevA
import Derived.Test.YtmbmflhcimkjpaaKStrR
import Derived.Test.YtmbmflhcimkjpaaKPutR
set_option linter.unusedVariables false
set_option linter.unusedSimpArgs false
namespace Go.Proofs.Ytmbmflhcimkjpaa
open Go.RowKit Sp Go.Sort

/-- The value is the record, with slices of its own in the blocks from lo up to below hi. -/
def RowDev (lo hi : Nat) (w : World) (v : Value) (d : DevR) : Prop := ∃ s0 s1 : Value, ∃ m1 : Nat, v = .agg #[s0, s1, .int .i64 d.writes] ∧ lo ≤ m1 ∧ m1 ≤ hi ∧ Row strCells 9 1 lo m1 w s0 d.sectors ∧ Row PutR.cells 61 2 m1 hi w s1 d.cached
theorem RowDev.is {lo hi : Nat} {w : World} {v : Value} {d : DevR} (h : RowDev lo hi w v d) : IsDev w v d := by
  obtain ⟨s0, s1, m1, rfl, e0, e1, r0, r1⟩ := h
  exact ⟨s0, s1, rfl, r0.slT (fun _ => rfl) (by decide), r1.slT (fun _ => rfl) (by decide)⟩
theorem RowDev.below {lo hi : Nat} {w : World} {v : Value} {d : DevR} {w' : World} (h : RowDev lo hi w v d) (hb : Below w.heap.size w w') : RowDev lo hi w' v d := by
  obtain ⟨s0, s1, m1, rfl, e0, e1, r0, r1⟩ := h
  exact ⟨s0, s1, m1, rfl, e0, e1, r0.below hb, r1.below hb⟩
theorem RowDev.kept {lo hi : Nat} {w : World} {v : Value} {d : DevR} {w' : World} {a b : Nat} (h : RowDev lo hi w v d) (hw : Wrote a b w w') (hd : hi ≤ a ∨ b ≤ lo) : RowDev lo hi w' v d := by
  obtain ⟨s0, s1, m1, rfl, e0, e1, r0, r1⟩ := h
  exact ⟨s0, s1, m1, rfl, e0, e1, r0.kept hw (by omega), r1.kept hw (by omega)⟩
theorem RowDev.wide {lo hi : Nat} {w : World} {v : Value} {d : DevR} (h : RowDev lo hi w v d) {lo' hi' : Nat} (h1 : lo' ≤ lo) (h2 : hi ≤ hi') : RowDev lo' hi' w v d := by
  obtain ⟨s0, s1, m1, rfl, e0, e1, r0, r1⟩ := h
  exact ⟨s0, s1, m1, rfl, by omega, by omega, r0.wide h1 (Nat.le_refl _), r1.wide (Nat.le_refl _) h2⟩
theorem IsDev.s0 {w : World} {d : DevR} {a0 : Value} {a1 : Value} {a2 : Int} (h : IsDev w (.agg #[a0, a1, .int .i64 a2]) d) : SlT strCells 1 w a0 d.sectors := by
  obtain ⟨s0, s1, he, h0, h1⟩ := h
  simp at he
  obtain rfl : a0 = s0 := by first | exact he.1 | exact he.2.1 | exact he.2.2.1 | exact he
  exact h0
theorem IsDev.s1 {w : World} {d : DevR} {a0 : Value} {a1 : Value} {a2 : Int} (h : IsDev w (.agg #[a0, a1, .int .i64 a2]) d) : SlT PutR.cells 2 w a1 d.cached := by
  obtain ⟨s0, s1, he, h0, h1⟩ := h
  simp at he
  obtain rfl : a1 = s1 := by first | exact he.1 | exact he.2.1 | exact he.2.2.1 | exact he
  exact h1
/-- The record, marked from k on. -/
def Sp.DevR.marked (d : DevR) (k : Nat) : DevR := { d with sectors := marksStr (k) d.sectors.length, cached := marksPut (k + 1 * d.sectors.length) d.cached.length }
end Go.Proofs.Ytmbmflhcimkjpaa
