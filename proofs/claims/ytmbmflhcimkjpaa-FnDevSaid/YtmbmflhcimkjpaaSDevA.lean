
/- Walks: the laws' helpers for Dev. -/
import Derived.Test.YtmbmflhcimkjpaaKStrA
import Derived.Test.YtmbmflhcimkjpaaOpen
import Derived.Test.YtmbmflhcimkjpaaKPutA
import Derived.Test.YtmbmflhcimkjpaaOPut
import Derived.Test.YtmbmflhcimkjpaaTypes
import Derived.Test.YtmbmflhcimkjpaaLaws
import Derived.Test.YtmbmflhcimkjpaaRep
import Derived.Test.YtmbmflhcimkjpaaSlices
import Derived.WalkKit
import Derived.WalkSpells
import Derived.WalkLawsBesides
import Derived.BigQuiet
import Derived.Lib.QuietBelow
import Derived.Lib.Hide
import Derived.Lib.SmallJoins
import Derived.Carry
set_option linter.unusedVariables false
set_option linter.unusedSimpArgs false
namespace Go.Proofs.Ytmbmflhcimkjpaa
open Go.RowKit Sp Go.Sort

namespace Sp
structure DevR where
  sectors : List ByteArray
  cached : List PutR
  writes : Int
end Sp
/-- The value v reads as the record. -/
def IsDev (w : World) (v : Value) (d : DevR) : Prop := ∃ s0 s1 : Value, v = .agg #[s0, s1, .int .i64 d.writes] ∧ SlT strCells 1 w s0 d.sectors ∧ SlT PutR.cells 2 w s1 d.cached
theorem IsDev.below {w w' : World} {v : Value} {d : DevR} (h : IsDev w v d) (hb : Below w.heap.size w w') : IsDev w' v d := by
  obtain ⟨s0, s1, rfl, h0, h1⟩ := h
  exact ⟨s0, s1, rfl, h0.below hb, h1.below hb⟩
def Sp.DevR.ok (d : DevR) : Prop := (∀ x ∈ d.sectors, x.size ≤ maxLen) ∧ (∀ x ∈ d.cached, x.ok) ∧ inI64 d.writes
def Sp.DevR.sz (d : DevR) : Int := ((d.sectors.length : Int) + sumSz strSz d.sectors) + ((d.cached.length : Int) + sumSz PutR.sz d.cached)
theorem Sp.DevR.sz_nonneg (d : DevR) : 0 ≤ d.sz := by unfold DevR.sz; have := sumSz_nonneg strSz_nonneg d.sectors; have := sumSz_nonneg PutR.sz_nonneg d.cached; omega
end Go.Proofs.Ytmbmflhcimkjpaa
