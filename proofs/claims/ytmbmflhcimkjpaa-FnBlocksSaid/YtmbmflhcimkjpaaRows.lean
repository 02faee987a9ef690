/-
  No cell of these rows narrows 'for every input' (looked for: loops, veiled, ifaces, maps, wideKeys, modest, calm, conditions, laid).
  DERIVED. THE GIVEN ROWS OF THIS SEAT. 7 by the template 'for every input the law returns true; each argument reads behind the call as it read before'; 0 by the template 'total and deterministic' (their statements: YtmbmflhcimkjpaaTotals.lean).
  GIVEN WITH THE SEED: the statements are not yours to turn. If you find one false, say at which input.
  Laid BY PROGRAM, IN A SANDBOX (cutbox-rows.mjs): the forced cells as the released guide's own fill.sh prints them over the translation 1f6a74fa06bd41ff… (all of the seat's roots in one cut). By AI agents, Wed Nov 11 2026. No macro, syntax, notation, axiom, sorry.
-/
import Derived.Test.YtmbmflhcimkjpaaChecked
import GoSem.Claim
import GoSem.ClaimJoined
import GoSem.ClaimMapViews
import Derived.JoinedTies
import Derived.KernelRfl
namespace Go.Proofs.Ytmbmflhcimkjpaa
/- THE CELL 'sum', in the pinned program and in every row, IS THE sha256 OF THE DUMP (.gsa) THAT YtmbmflhcimkjpaaProg.lean LOADS. Nothing in Lean hashes anything: it is a label: what it is worth is what the hold of that sum in a sandbox is worth. -/
noncomputable def Try.pinned : Pinned := { name := "ytmbmflhcimkjpaa", sum := "1f6a74fa06bd41ff5674b63b2a1162dafc69d9e7b43dc97358241e10d9129dde", checked := Try.checked }
namespace Rows
def none {H : Type} : Left H := { results := [], args := [] }

/-- 'laws.FnTables': WHATEVER THE INPUT: true; the input reads as it did. -/
def fnTablesSpec : ChangeSpec := { name := "fnTables", fn := fun _ => fun
  | [d] => { results := [.lit (.bool true)], args := [d] }
  | _ => none }
def fnTablesRow : OpenClaim := { program := "ytmbmflhcimkjpaa", sum := "1f6a74fa06bd41ff5674b63b2a1162dafc69d9e7b43dc97358241e10d9129dde", func := "loop.example/g00950/laws.FnTables", spec := "fnTables", inPlace := ["internal/abi.NoEscape"], unfollowed := true, recurses := true, apart := false }
def FnTablesSaid : Prop := fnTablesRow.holds Try.pinned (OpenSpec.ofChange fnTablesSpec)

/-- ITS FALSE NEIGHBOUR: 'it returns false'. Refute it at one input. -/
def fnTablesWrong : ChangeSpec := { name := "fnTables", fn := fun _ => fun
  | [d] => { results := [.lit (.bool false)], args := [d] }
  | _ => none }
def FnTablesWrongFalsely : Prop := fnTablesRow.holds Try.pinned (OpenSpec.ofChange fnTablesWrong)

/-- 'laws.FnBloom': WHATEVER THE INPUT: true; the input reads as it did. -/
def fnBloomSpec : ChangeSpec := { name := "fnBloom", fn := fun _ => fun
  | [d] => { results := [.lit (.bool true)], args := [d] }
  | _ => none }
def fnBloomRow : OpenClaim := { program := "ytmbmflhcimkjpaa", sum := "1f6a74fa06bd41ff5674b63b2a1162dafc69d9e7b43dc97358241e10d9129dde", func := "loop.example/g00950/laws.FnBloom", spec := "fnBloom", apart := false }
def FnBloomSaid : Prop := fnBloomRow.holds Try.pinned (OpenSpec.ofChange fnBloomSpec)

/-- ITS FALSE NEIGHBOUR: 'it returns false'. Refute it at one input. -/
def fnBloomWrong : ChangeSpec := { name := "fnBloom", fn := fun _ => fun
  | [d] => { results := [.lit (.bool false)], args := [d] }
  | _ => none }
def FnBloomWrongFalsely : Prop := fnBloomRow.holds Try.pinned (OpenSpec.ofChange fnBloomWrong)

/-- 'laws.FnDev': WHATEVER THE INPUT: true; the input reads as it did. -/
def fnDevSpec : ChangeSpec := { name := "fnDev", fn := fun _ => fun
  | [d] => { results := [.lit (.bool true)], args := [d] }
  | _ => none }
def fnDevRow : OpenClaim := { program := "ytmbmflhcimkjpaa", sum := "1f6a74fa06bd41ff5674b63b2a1162dafc69d9e7b43dc97358241e10d9129dde", func := "loop.example/g00950/laws.FnDev", spec := "fnDev", apart := false }
def FnDevSaid : Prop := fnDevRow.holds Try.pinned (OpenSpec.ofChange fnDevSpec)

/-- ITS FALSE NEIGHBOUR: 'it returns false'. Refute it at one input. -/
def fnDevWrong : ChangeSpec := { name := "fnDev", fn := fun _ => fun
  | [d] => { results := [.lit (.bool false)], args := [d] }
  | _ => none }
def FnDevWrongFalsely : Prop := fnDevRow.holds Try.pinned (OpenSpec.ofChange fnDevWrong)

/-- 'laws.FnMem': WHATEVER THE INPUT: true; the input reads as it did. -/
def fnMemSpec : ChangeSpec := { name := "fnMem", fn := fun _ => fun
  | [d] => { results := [.lit (.bool true)], args := [d] }
  | _ => none }
def fnMemRow : OpenClaim := { program := "ytmbmflhcimkjpaa", sum := "1f6a74fa06bd41ff5674b63b2a1162dafc69d9e7b43dc97358241e10d9129dde", func := "loop.example/g00950/laws.FnMem", spec := "fnMem", inPlace := ["slices.overlaps[loop.example/g00950/impl.Ent]"], unfollowed := true, recurses := true, apart := false }
def FnMemSaid : Prop := fnMemRow.holds Try.pinned (OpenSpec.ofChange fnMemSpec)

/-- ITS FALSE NEIGHBOUR: 'it returns false'. Refute it at one input. -/
def fnMemWrong : ChangeSpec := { name := "fnMem", fn := fun _ => fun
  | [d] => { results := [.lit (.bool false)], args := [d] }
  | _ => none }
def FnMemWrongFalsely : Prop := fnMemRow.holds Try.pinned (OpenSpec.ofChange fnMemWrong)

/-- 'laws.FnBlocks': WHATEVER THE INPUT: true; the input reads as it did. -/
def fnBlocksSpec : ChangeSpec := { name := "fnBlocks", fn := fun _ => fun
  | [d] => { results := [.lit (.bool true)], args := [d] }
  | _ => none }
def fnBlocksRow : OpenClaim := { program := "ytmbmflhcimkjpaa", sum := "1f6a74fa06bd41ff5674b63b2a1162dafc69d9e7b43dc97358241e10d9129dde", func := "loop.example/g00950/laws.FnBlocks", spec := "fnBlocks", inPlace := ["internal/abi.NoEscape"], apart := false }
def FnBlocksSaid : Prop := fnBlocksRow.holds Try.pinned (OpenSpec.ofChange fnBlocksSpec)

/-- ITS FALSE NEIGHBOUR: 'it returns false'. Refute it at one input. -/
def fnBlocksWrong : ChangeSpec := { name := "fnBlocks", fn := fun _ => fun
  | [d] => { results := [.lit (.bool false)], args := [d] }
  | _ => none }
def FnBlocksWrongFalsely : Prop := fnBlocksRow.holds Try.pinned (OpenSpec.ofChange fnBlocksWrong)

/-- 'laws.FnBatches': WHATEVER THE INPUT: true; the input reads as it did. -/
def fnBatchesSpec : ChangeSpec := { name := "fnBatches", fn := fun _ => fun
  | [d] => { results := [.lit (.bool true)], args := [d] }
  | _ => none }
def fnBatchesRow : OpenClaim := { program := "ytmbmflhcimkjpaa", sum := "1f6a74fa06bd41ff5674b63b2a1162dafc69d9e7b43dc97358241e10d9129dde", func := "loop.example/g00950/laws.FnBatches", spec := "fnBatches", inPlace := ["internal/bytealg.abigen_runtime_cmpstring", "slices.overlaps[loop.example/g00950/impl.KV]", "internal/abi.NoEscape"], unfollowed := true, recurses := true, apart := false }
def FnBatchesSaid : Prop := fnBatchesRow.holds Try.pinned (OpenSpec.ofChange fnBatchesSpec)

/-- ITS FALSE NEIGHBOUR: 'it returns false'. Refute it at one input. -/
def fnBatchesWrong : ChangeSpec := { name := "fnBatches", fn := fun _ => fun
  | [d] => { results := [.lit (.bool false)], args := [d] }
  | _ => none }
def FnBatchesWrongFalsely : Prop := fnBatchesRow.holds Try.pinned (OpenSpec.ofChange fnBatchesWrong)

/-- 'laws.FnKeys': WHATEVER THE INPUT: true; the input reads as it did. -/
def fnKeysSpec : ChangeSpec := { name := "fnKeys", fn := fun _ => fun
  | [d] => { results := [.lit (.bool true)], args := [d] }
  | _ => none }
def fnKeysRow : OpenClaim := { program := "ytmbmflhcimkjpaa", sum := "1f6a74fa06bd41ff5674b63b2a1162dafc69d9e7b43dc97358241e10d9129dde", func := "loop.example/g00950/laws.FnKeys", spec := "fnKeys", inPlace := ["slices.overlaps[loop.example/g00950/impl.KeySlot]"], unfollowed := true, recurses := true, apart := false }
def FnKeysSaid : Prop := fnKeysRow.holds Try.pinned (OpenSpec.ofChange fnKeysSpec)

/-- ITS FALSE NEIGHBOUR: 'it returns false'. Refute it at one input. -/
def fnKeysWrong : ChangeSpec := { name := "fnKeys", fn := fun _ => fun
  | [d] => { results := [.lit (.bool false)], args := [d] }
  | _ => none }
def FnKeysWrongFalsely : Prop := fnKeysRow.holds Try.pinned (OpenSpec.ofChange fnKeysWrong)

/- THE SECOND FORM. 'bulk': how many values and letters a reading holds, each counted each time it is reached (what is shared counts as often as it is met; a slice's spare places count too). A statement '..UptoSaid' is the law's where the arguments, and the package variables that the reading takes, are together of bulk at most 1048576: NARROWER than '..Said'. Prove '..Said' where nothing that the law and all that it calls make is longer than what came in: it says more and counts as full. Else prove '..UptoSaid'. A law counts once. -/
mutual
def uptoBulk {H : Type} : DataW H → Nat
  | .lit (.string bytes) => bytes.length + 1
  | .lit _ => 1
  | .nil => 1
  | .ptr d => uptoBulk d + 1
  | .slice elems spare => uptoBulkAll elems + uptoBulkAll spare + 1
  | .agg parts => uptoBulkAll parts + 1
  | .iface _ d => uptoBulk d + 1
  | .map entries => uptoBulkEntries entries + 1
  | .held _ => 1
def uptoBulkAll {H : Type} : List (DataW H) → Nat
  | [] => 0
  | d :: r => uptoBulk d + uptoBulkAll r
def uptoBulkEntries {H : Type} : List (Lit × DataW H) → Nat
  | [] => 0
  | x :: r => uptoBulkEntry x + uptoBulkEntries r
def uptoBulkEntry {H : Type} : Lit × DataW H → Nat
  | (.string bytes, d) => bytes.length + uptoBulk d + 1
  | (_, d) => uptoBulk d + 1
 end
def uptoSmall : (H : Type) → List (DataW H) → Bool := fun _ ds => decide (uptoBulkAll ds ≤ 1048576)
def OpenSpec.upto (s : _root_.Go.ChangeSpec) : _root_.Go.OpenSpec := { _root_.Go.OpenSpec.ofChange s with cond := some uptoSmall }

/-- 'laws.FnTables', WHERE WHAT IT READS IS OF BULK AT MOST 1048576: true; the input reads as it did. -/
def fnTablesUptoRow : OpenClaim := { program := "ytmbmflhcimkjpaa", sum := "1f6a74fa06bd41ff5674b63b2a1162dafc69d9e7b43dc97358241e10d9129dde", func := "loop.example/g00950/laws.FnTables", spec := "fnTables", inPlace := ["internal/abi.NoEscape"], unfollowed := true, recurses := true, apart := false, narrowed := true }
def FnTablesUptoSaid : Prop := fnTablesUptoRow.holds Try.pinned (OpenSpec.upto fnTablesSpec)

/-- 'laws.FnBloom', WHERE WHAT IT READS IS OF BULK AT MOST 1048576: true; the input reads as it did. -/
def fnBloomUptoRow : OpenClaim := { program := "ytmbmflhcimkjpaa", sum := "1f6a74fa06bd41ff5674b63b2a1162dafc69d9e7b43dc97358241e10d9129dde", func := "loop.example/g00950/laws.FnBloom", spec := "fnBloom", apart := false, narrowed := true }
def FnBloomUptoSaid : Prop := fnBloomUptoRow.holds Try.pinned (OpenSpec.upto fnBloomSpec)

/-- 'laws.FnDev', WHERE WHAT IT READS IS OF BULK AT MOST 1048576: true; the input reads as it did. -/
def fnDevUptoRow : OpenClaim := { program := "ytmbmflhcimkjpaa", sum := "1f6a74fa06bd41ff5674b63b2a1162dafc69d9e7b43dc97358241e10d9129dde", func := "loop.example/g00950/laws.FnDev", spec := "fnDev", apart := false, narrowed := true }
def FnDevUptoSaid : Prop := fnDevUptoRow.holds Try.pinned (OpenSpec.upto fnDevSpec)

/-- 'laws.FnMem', WHERE WHAT IT READS IS OF BULK AT MOST 1048576: true; the input reads as it did. -/
def fnMemUptoRow : OpenClaim := { program := "ytmbmflhcimkjpaa", sum := "1f6a74fa06bd41ff5674b63b2a1162dafc69d9e7b43dc97358241e10d9129dde", func := "loop.example/g00950/laws.FnMem", spec := "fnMem", inPlace := ["slices.overlaps[loop.example/g00950/impl.Ent]"], unfollowed := true, recurses := true, apart := false, narrowed := true }
def FnMemUptoSaid : Prop := fnMemUptoRow.holds Try.pinned (OpenSpec.upto fnMemSpec)

/-- 'laws.FnBlocks', WHERE WHAT IT READS IS OF BULK AT MOST 1048576: true; the input reads as it did. -/
def fnBlocksUptoRow : OpenClaim := { program := "ytmbmflhcimkjpaa", sum := "1f6a74fa06bd41ff5674b63b2a1162dafc69d9e7b43dc97358241e10d9129dde", func := "loop.example/g00950/laws.FnBlocks", spec := "fnBlocks", inPlace := ["internal/abi.NoEscape"], apart := false, narrowed := true }
def FnBlocksUptoSaid : Prop := fnBlocksUptoRow.holds Try.pinned (OpenSpec.upto fnBlocksSpec)

/-- 'laws.FnBatches', WHERE WHAT IT READS IS OF BULK AT MOST 1048576: true; the input reads as it did. -/
def fnBatchesUptoRow : OpenClaim := { program := "ytmbmflhcimkjpaa", sum := "1f6a74fa06bd41ff5674b63b2a1162dafc69d9e7b43dc97358241e10d9129dde", func := "loop.example/g00950/laws.FnBatches", spec := "fnBatches", inPlace := ["internal/bytealg.abigen_runtime_cmpstring", "slices.overlaps[loop.example/g00950/impl.KV]", "internal/abi.NoEscape"], unfollowed := true, recurses := true, apart := false, narrowed := true }
def FnBatchesUptoSaid : Prop := fnBatchesUptoRow.holds Try.pinned (OpenSpec.upto fnBatchesSpec)

/-- 'laws.FnKeys', WHERE WHAT IT READS IS OF BULK AT MOST 1048576: true; the input reads as it did. -/
def fnKeysUptoRow : OpenClaim := { program := "ytmbmflhcimkjpaa", sum := "1f6a74fa06bd41ff5674b63b2a1162dafc69d9e7b43dc97358241e10d9129dde", func := "loop.example/g00950/laws.FnKeys", spec := "fnKeys", inPlace := ["slices.overlaps[loop.example/g00950/impl.KeySlot]"], unfollowed := true, recurses := true, apart := false, narrowed := true }
def FnKeysUptoSaid : Prop := fnKeysUptoRow.holds Try.pinned (OpenSpec.upto fnKeysSpec)

end Rows
end Go.Proofs.Ytmbmflhcimkjpaa
