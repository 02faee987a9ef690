
/- Walks: the laws' helpers for KeyDev. -/
import Derived.Test.YtmbmflhcimkjpaaKKeySlotA
import Derived.Test.YtmbmflhcimkjpaaOKeySlot
import Derived.Test.YtmbmflhcimkjpaaTypes
import Derived.Test.YtmbmflhcimkjpaaLaws
import Derived.Test.YtmbmflhcimkjpaaRep
import Derived.Test.YtmbmflhcimkjpaaSlices
import Derived.WalkKit
import Derived.WalkSpells
import Derived.WalkLawsBesides
import Derived.BigQuiet
import Derived.Lib.QuietBelow
import Derived.Lib.Hide
import Derived.Lib.SmallJoins
import Derived.Carry
set_option linter.unusedVariables false
set_option linter.unusedSimpArgs false
namespace Go.Proofs.Ytmbmflhcimkjpaa
open Go.RowKit Sp Go.Sort

namespace Sp
structure KeyDevR where
  master : ByteArray
  slots : List SlotR
  wiped : Int
end Sp
/-- The value v reads as the record. -/
def IsKeyDev (w : World) (v : Value) (d : KeyDevR) : Prop := ∃ s1 : Value, v = .agg #[.string d.master, s1, .int .i64 d.wiped] ∧ SlT SlotR.cells 2 w s1 d.slots
theorem IsKeyDev.below {w w' : World} {v : Value} {d : KeyDevR} (h : IsKeyDev w v d) (hb : Below w.heap.size w w') : IsKeyDev w' v d := by
  obtain ⟨s1, rfl, h1⟩ := h
  exact ⟨s1, rfl, h1.below hb⟩
def Sp.KeyDevR.ok (d : KeyDevR) : Prop := szOk d.master ∧ (∀ x ∈ d.slots, x.ok) ∧ inI64 d.wiped
def Sp.KeyDevR.sz (d : KeyDevR) : Int := (d.master.size : Int) + ((d.slots.length : Int) + sumSz SlotR.sz d.slots)
theorem Sp.KeyDevR.sz_nonneg (d : KeyDevR) : 0 ≤ d.sz := by unfold KeyDevR.sz; have := sumSz_nonneg SlotR.sz_nonneg d.slots; omega
end Go.Proofs.Ytmbmflhcimkjpaa
