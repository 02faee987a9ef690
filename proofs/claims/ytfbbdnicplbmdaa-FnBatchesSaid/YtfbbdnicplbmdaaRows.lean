/-
  No cell of these rows narrows 'for every input' (looked for: loops, veiled, ifaces, maps, wideKeys, modest, calm, conditions, laid).
  DERIVED. THE GIVEN ROWS OF THIS SEAT. 8 by the template 'for every input the law returns true; each argument reads behind the call as it read before'; 0 by the template 'total and deterministic' (their statements: YtfbbdnicplbmdaaTotals.lean).
  GIVEN WITH THE SEED: the statements are not yours to turn. If you find one false, say at which input.
  Laid BY PROGRAM, IN A SANDBOX (cutbox-rows.mjs): the forced cells as the released guide's own fill.sh prints them over the translation 71d3ae45870d074e… (all of the seat's roots in one cut). By AI agents, Wed Nov 11 2026. No macro, syntax, notation, axiom, sorry.
-/
import Derived.Test.YtfbbdnicplbmdaaChecked
import GoSem.Claim
import GoSem.ClaimJoined
import GoSem.ClaimMapViews
import Derived.JoinedTies
import Derived.KernelRfl
namespace Go.Proofs.Ytfbbdnicplbmdaa
/- THE CELL 'sum', in the pinned program and in every row, IS THE sha256 OF THE DUMP (.gsa) THAT YtfbbdnicplbmdaaProg.lean LOADS. Nothing in Lean hashes anything: it is a label: what it is worth is what the hold of that sum in a sandbox is worth. -/
noncomputable def Try.pinned : Pinned := { name := "ytfbbdnicplbmdaa", sum := "71d3ae45870d074e8073d3a0ea8165decb1d616c1dd2aeff3f7f8602d3592af0", checked := Try.checked }
namespace Rows
def none {H : Type} : Left H := { results := [], args := [] }

/-- 'laws.FnTables': WHATEVER THE INPUT: true; the input reads as it did. -/
def fnTablesSpec : ChangeSpec := { name := "fnTables", fn := fun _ => fun
  | [d] => { results := [.lit (.bool true)], args := [d] }
  | _ => none }
def fnTablesRow : OpenClaim := { program := "ytfbbdnicplbmdaa", sum := "71d3ae45870d074e8073d3a0ea8165decb1d616c1dd2aeff3f7f8602d3592af0", func := "loop.example/g00950/laws.FnTables", spec := "fnTables", inPlace := ["internal/abi.NoEscape"], unfollowed := true, recurses := true, apart := false }
def FnTablesSaid : Prop := fnTablesRow.holds Try.pinned (OpenSpec.ofChange fnTablesSpec)

/-- ITS FALSE NEIGHBOUR: 'it returns false'. Refute it at one input. -/
def fnTablesWrong : ChangeSpec := { name := "fnTables", fn := fun _ => fun
  | [d] => { results := [.lit (.bool false)], args := [d] }
  | _ => none }
def FnTablesWrongFalsely : Prop := fnTablesRow.holds Try.pinned (OpenSpec.ofChange fnTablesWrong)

/-- 'laws.FnBatches': WHATEVER THE INPUT: true; the input reads as it did. -/
def fnBatchesSpec : ChangeSpec := { name := "fnBatches", fn := fun _ => fun
  | [d] => { results := [.lit (.bool true)], args := [d] }
  | _ => none }
def fnBatchesRow : OpenClaim := { program := "ytfbbdnicplbmdaa", sum := "71d3ae45870d074e8073d3a0ea8165decb1d616c1dd2aeff3f7f8602d3592af0", func := "loop.example/g00950/laws.FnBatches", spec := "fnBatches", inPlace := ["internal/bytealg.abigen_runtime_cmpstring", "slices.overlaps[loop.example/g00950/impl.KV]", "internal/abi.NoEscape"], unfollowed := true, recurses := true, apart := false }
def FnBatchesSaid : Prop := fnBatchesRow.holds Try.pinned (OpenSpec.ofChange fnBatchesSpec)

/-- ITS FALSE NEIGHBOUR: 'it returns false'. Refute it at one input. -/
def fnBatchesWrong : ChangeSpec := { name := "fnBatches", fn := fun _ => fun
  | [d] => { results := [.lit (.bool false)], args := [d] }
  | _ => none }
def FnBatchesWrongFalsely : Prop := fnBatchesRow.holds Try.pinned (OpenSpec.ofChange fnBatchesWrong)

/-- 'laws.FnKeys': WHATEVER THE INPUT: true; the input reads as it did. -/
def fnKeysSpec : ChangeSpec := { name := "fnKeys", fn := fun _ => fun
  | [d] => { results := [.lit (.bool true)], args := [d] }
  | _ => none }
def fnKeysRow : OpenClaim := { program := "ytfbbdnicplbmdaa", sum := "71d3ae45870d074e8073d3a0ea8165decb1d616c1dd2aeff3f7f8602d3592af0", func := "loop.example/g00950/laws.FnKeys", spec := "fnKeys", inPlace := ["slices.overlaps[loop.example/g00950/impl.KeySlot]"], unfollowed := true, recurses := true, apart := false }
def FnKeysSaid : Prop := fnKeysRow.holds Try.pinned (OpenSpec.ofChange fnKeysSpec)

/-- ITS FALSE NEIGHBOUR: 'it returns false'. Refute it at one input. -/
def fnKeysWrong : ChangeSpec := { name := "fnKeys", fn := fun _ => fun
  | [d] => { results := [.lit (.bool false)], args := [d] }
  | _ => none }
def FnKeysWrongFalsely : Prop := fnKeysRow.holds Try.pinned (OpenSpec.ofChange fnKeysWrong)

/-- 'laws.FnExactTableOf': WHATEVER THE INPUT: true; the input reads as it did. -/
def fnExactTableOfSpec : ChangeSpec := { name := "fnExactTableOf", fn := fun _ => fun
  | [d] => { results := [.lit (.bool true)], args := [d] }
  | _ => none }
def fnExactTableOfRow : OpenClaim := { program := "ytfbbdnicplbmdaa", sum := "71d3ae45870d074e8073d3a0ea8165decb1d616c1dd2aeff3f7f8602d3592af0", func := "loop.example/g00950/laws.FnExactTableOf", spec := "fnExactTableOf", inPlace := ["internal/abi.NoEscape"], unfollowed := true, recurses := true, apart := false }
def FnExactTableOfSaid : Prop := fnExactTableOfRow.holds Try.pinned (OpenSpec.ofChange fnExactTableOfSpec)

/-- ITS FALSE NEIGHBOUR: 'it returns false'. Refute it at one input. -/
def fnExactTableOfWrong : ChangeSpec := { name := "fnExactTableOf", fn := fun _ => fun
  | [d] => { results := [.lit (.bool false)], args := [d] }
  | _ => none }
def FnExactTableOfWrongFalsely : Prop := fnExactTableOfRow.holds Try.pinned (OpenSpec.ofChange fnExactTableOfWrong)

/-- 'laws.FnExactShowTable': WHATEVER THE INPUT: true; the input reads as it did. -/
def fnExactShowTableSpec : ChangeSpec := { name := "fnExactShowTable", fn := fun _ => fun
  | [d] => { results := [.lit (.bool true)], args := [d] }
  | _ => none }
def fnExactShowTableRow : OpenClaim := { program := "ytfbbdnicplbmdaa", sum := "71d3ae45870d074e8073d3a0ea8165decb1d616c1dd2aeff3f7f8602d3592af0", func := "loop.example/g00950/laws.FnExactShowTable", spec := "fnExactShowTable", inPlace := ["internal/abi.NoEscape"], unfollowed := true, recurses := true, apart := false }
def FnExactShowTableSaid : Prop := fnExactShowTableRow.holds Try.pinned (OpenSpec.ofChange fnExactShowTableSpec)

/-- ITS FALSE NEIGHBOUR: 'it returns false'. Refute it at one input. -/
def fnExactShowTableWrong : ChangeSpec := { name := "fnExactShowTable", fn := fun _ => fun
  | [d] => { results := [.lit (.bool false)], args := [d] }
  | _ => none }
def FnExactShowTableWrongFalsely : Prop := fnExactShowTableRow.holds Try.pinned (OpenSpec.ofChange fnExactShowTableWrong)

/-- 'laws.FnExactReadTable': WHATEVER THE INPUT: true; the input reads as it did. -/
def fnExactReadTableSpec : ChangeSpec := { name := "fnExactReadTable", fn := fun _ => fun
  | [d] => { results := [.lit (.bool true)], args := [d] }
  | _ => none }
def fnExactReadTableRow : OpenClaim := { program := "ytfbbdnicplbmdaa", sum := "71d3ae45870d074e8073d3a0ea8165decb1d616c1dd2aeff3f7f8602d3592af0", func := "loop.example/g00950/laws.FnExactReadTable", spec := "fnExactReadTable", inPlace := ["internal/abi.NoEscape"], unfollowed := true, recurses := true, apart := false }
def FnExactReadTableSaid : Prop := fnExactReadTableRow.holds Try.pinned (OpenSpec.ofChange fnExactReadTableSpec)

/-- ITS FALSE NEIGHBOUR: 'it returns false'. Refute it at one input. -/
def fnExactReadTableWrong : ChangeSpec := { name := "fnExactReadTable", fn := fun _ => fun
  | [d] => { results := [.lit (.bool false)], args := [d] }
  | _ => none }
def FnExactReadTableWrongFalsely : Prop := fnExactReadTableRow.holds Try.pinned (OpenSpec.ofChange fnExactReadTableWrong)

/-- 'laws.FnExactTableEnts': WHATEVER THE INPUT: true; the input reads as it did. -/
def fnExactTableEntsSpec : ChangeSpec := { name := "fnExactTableEnts", fn := fun _ => fun
  | [d] => { results := [.lit (.bool true)], args := [d] }
  | _ => none }
def fnExactTableEntsRow : OpenClaim := { program := "ytfbbdnicplbmdaa", sum := "71d3ae45870d074e8073d3a0ea8165decb1d616c1dd2aeff3f7f8602d3592af0", func := "loop.example/g00950/laws.FnExactTableEnts", spec := "fnExactTableEnts", inPlace := ["internal/abi.NoEscape"], unfollowed := true, recurses := true, apart := false }
def FnExactTableEntsSaid : Prop := fnExactTableEntsRow.holds Try.pinned (OpenSpec.ofChange fnExactTableEntsSpec)

/-- ITS FALSE NEIGHBOUR: 'it returns false'. Refute it at one input. -/
def fnExactTableEntsWrong : ChangeSpec := { name := "fnExactTableEnts", fn := fun _ => fun
  | [d] => { results := [.lit (.bool false)], args := [d] }
  | _ => none }
def FnExactTableEntsWrongFalsely : Prop := fnExactTableEntsRow.holds Try.pinned (OpenSpec.ofChange fnExactTableEntsWrong)

/-- 'laws.FnExactTableGet': WHATEVER THE INPUT: true; the input reads as it did. -/
def fnExactTableGetSpec : ChangeSpec := { name := "fnExactTableGet", fn := fun _ => fun
  | [d1, d2, d3] => { results := [.lit (.bool true)], args := [d1, d2, d3] }
  | _ => none }
def fnExactTableGetRow : OpenClaim := { program := "ytfbbdnicplbmdaa", sum := "71d3ae45870d074e8073d3a0ea8165decb1d616c1dd2aeff3f7f8602d3592af0", func := "loop.example/g00950/laws.FnExactTableGet", spec := "fnExactTableGet", inPlace := ["internal/abi.NoEscape"], unfollowed := true, recurses := true, apart := false }
def FnExactTableGetSaid : Prop := fnExactTableGetRow.holds Try.pinned (OpenSpec.ofChange fnExactTableGetSpec)

/-- ITS FALSE NEIGHBOUR: 'it returns false'. Refute it at one input. -/
def fnExactTableGetWrong : ChangeSpec := { name := "fnExactTableGet", fn := fun _ => fun
  | [d1, d2, d3] => { results := [.lit (.bool false)], args := [d1, d2, d3] }
  | _ => none }
def FnExactTableGetWrongFalsely : Prop := fnExactTableGetRow.holds Try.pinned (OpenSpec.ofChange fnExactTableGetWrong)

/- THE SECOND FORM. 'bulk': how many values and letters a reading holds, each counted each time it is reached (what is shared counts as often as it is met; a slice's spare places count too). A statement '..UptoSaid' is the law's where the arguments, and the package variables that the reading takes, are together of bulk at most 1048576: NARROWER than '..Said'. Prove '..Said' where nothing that the law and all that it calls make is longer than what came in: it says more and counts as full. Else prove '..UptoSaid'. A law counts once. -/
mutual
def uptoBulk {H : Type} : DataW H → Nat
  | .lit (.string bytes) => bytes.length + 1
  | .lit _ => 1
  | .nil => 1
  | .ptr d => uptoBulk d + 1
  | .slice elems spare => uptoBulkAll elems + uptoBulkAll spare + 1
  | .agg parts => uptoBulkAll parts + 1
  | .iface _ d => uptoBulk d + 1
  | .map entries => uptoBulkEntries entries + 1
  | .held _ => 1
def uptoBulkAll {H : Type} : List (DataW H) → Nat
  | [] => 0
  | d :: r => uptoBulk d + uptoBulkAll r
def uptoBulkEntries {H : Type} : List (Lit × DataW H) → Nat
  | [] => 0
  | x :: r => uptoBulkEntry x + uptoBulkEntries r
def uptoBulkEntry {H : Type} : Lit × DataW H → Nat
  | (.string bytes, d) => bytes.length + uptoBulk d + 1
  | (_, d) => uptoBulk d + 1
 end
def uptoSmall : (H : Type) → List (DataW H) → Bool := fun _ ds => decide (uptoBulkAll ds ≤ 1048576)
def OpenSpec.upto (s : _root_.Go.ChangeSpec) : _root_.Go.OpenSpec := { _root_.Go.OpenSpec.ofChange s with cond := some uptoSmall }

/-- 'laws.FnTables', WHERE WHAT IT READS IS OF BULK AT MOST 1048576: true; the input reads as it did. -/
def fnTablesUptoRow : OpenClaim := { program := "ytfbbdnicplbmdaa", sum := "71d3ae45870d074e8073d3a0ea8165decb1d616c1dd2aeff3f7f8602d3592af0", func := "loop.example/g00950/laws.FnTables", spec := "fnTables", inPlace := ["internal/abi.NoEscape"], unfollowed := true, recurses := true, apart := false, narrowed := true }
def FnTablesUptoSaid : Prop := fnTablesUptoRow.holds Try.pinned (OpenSpec.upto fnTablesSpec)

/-- 'laws.FnBatches', WHERE WHAT IT READS IS OF BULK AT MOST 1048576: true; the input reads as it did. -/
def fnBatchesUptoRow : OpenClaim := { program := "ytfbbdnicplbmdaa", sum := "71d3ae45870d074e8073d3a0ea8165decb1d616c1dd2aeff3f7f8602d3592af0", func := "loop.example/g00950/laws.FnBatches", spec := "fnBatches", inPlace := ["internal/bytealg.abigen_runtime_cmpstring", "slices.overlaps[loop.example/g00950/impl.KV]", "internal/abi.NoEscape"], unfollowed := true, recurses := true, apart := false, narrowed := true }
def FnBatchesUptoSaid : Prop := fnBatchesUptoRow.holds Try.pinned (OpenSpec.upto fnBatchesSpec)

/-- 'laws.FnKeys', WHERE WHAT IT READS IS OF BULK AT MOST 1048576: true; the input reads as it did. -/
def fnKeysUptoRow : OpenClaim := { program := "ytfbbdnicplbmdaa", sum := "71d3ae45870d074e8073d3a0ea8165decb1d616c1dd2aeff3f7f8602d3592af0", func := "loop.example/g00950/laws.FnKeys", spec := "fnKeys", inPlace := ["slices.overlaps[loop.example/g00950/impl.KeySlot]"], unfollowed := true, recurses := true, apart := false, narrowed := true }
def FnKeysUptoSaid : Prop := fnKeysUptoRow.holds Try.pinned (OpenSpec.upto fnKeysSpec)

/-- 'laws.FnExactTableOf', WHERE WHAT IT READS IS OF BULK AT MOST 1048576: true; the input reads as it did. -/
def fnExactTableOfUptoRow : OpenClaim := { program := "ytfbbdnicplbmdaa", sum := "71d3ae45870d074e8073d3a0ea8165decb1d616c1dd2aeff3f7f8602d3592af0", func := "loop.example/g00950/laws.FnExactTableOf", spec := "fnExactTableOf", inPlace := ["internal/abi.NoEscape"], unfollowed := true, recurses := true, apart := false, narrowed := true }
def FnExactTableOfUptoSaid : Prop := fnExactTableOfUptoRow.holds Try.pinned (OpenSpec.upto fnExactTableOfSpec)

/-- 'laws.FnExactShowTable', WHERE WHAT IT READS IS OF BULK AT MOST 1048576: true; the input reads as it did. -/
def fnExactShowTableUptoRow : OpenClaim := { program := "ytfbbdnicplbmdaa", sum := "71d3ae45870d074e8073d3a0ea8165decb1d616c1dd2aeff3f7f8602d3592af0", func := "loop.example/g00950/laws.FnExactShowTable", spec := "fnExactShowTable", inPlace := ["internal/abi.NoEscape"], unfollowed := true, recurses := true, apart := false, narrowed := true }
def FnExactShowTableUptoSaid : Prop := fnExactShowTableUptoRow.holds Try.pinned (OpenSpec.upto fnExactShowTableSpec)

/-- 'laws.FnExactReadTable', WHERE WHAT IT READS IS OF BULK AT MOST 1048576: true; the input reads as it did. -/
def fnExactReadTableUptoRow : OpenClaim := { program := "ytfbbdnicplbmdaa", sum := "71d3ae45870d074e8073d3a0ea8165decb1d616c1dd2aeff3f7f8602d3592af0", func := "loop.example/g00950/laws.FnExactReadTable", spec := "fnExactReadTable", inPlace := ["internal/abi.NoEscape"], unfollowed := true, recurses := true, apart := false, narrowed := true }
def FnExactReadTableUptoSaid : Prop := fnExactReadTableUptoRow.holds Try.pinned (OpenSpec.upto fnExactReadTableSpec)

/-- 'laws.FnExactTableEnts', WHERE WHAT IT READS IS OF BULK AT MOST 1048576: true; the input reads as it did. -/
def fnExactTableEntsUptoRow : OpenClaim := { program := "ytfbbdnicplbmdaa", sum := "71d3ae45870d074e8073d3a0ea8165decb1d616c1dd2aeff3f7f8602d3592af0", func := "loop.example/g00950/laws.FnExactTableEnts", spec := "fnExactTableEnts", inPlace := ["internal/abi.NoEscape"], unfollowed := true, recurses := true, apart := false, narrowed := true }
def FnExactTableEntsUptoSaid : Prop := fnExactTableEntsUptoRow.holds Try.pinned (OpenSpec.upto fnExactTableEntsSpec)

/-- 'laws.FnExactTableGet', WHERE WHAT IT READS IS OF BULK AT MOST 1048576: true; the input reads as it did. -/
def fnExactTableGetUptoRow : OpenClaim := { program := "ytfbbdnicplbmdaa", sum := "71d3ae45870d074e8073d3a0ea8165decb1d616c1dd2aeff3f7f8602d3592af0", func := "loop.example/g00950/laws.FnExactTableGet", spec := "fnExactTableGet", inPlace := ["internal/abi.NoEscape"], unfollowed := true, recurses := true, apart := false, narrowed := true }
def FnExactTableGetUptoSaid : Prop := fnExactTableGetUptoRow.holds Try.pinned (OpenSpec.upto fnExactTableGetSpec)

end Rows
end Go.Proofs.Ytfbbdnicplbmdaa
