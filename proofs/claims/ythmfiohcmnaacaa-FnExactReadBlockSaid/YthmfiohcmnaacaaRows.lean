/-
  No cell of these rows narrows 'for every input' (looked for: loops, veiled, ifaces, maps, wideKeys, modest, calm, conditions, laid).
  DERIVED. THE GIVEN ROWS OF THIS SEAT. 12 by the template 'for every input the law returns true; each argument reads behind the call as it read before'; 0 by the template 'total and deterministic' (their statements: YthmfiohcmnaacaaTotals.lean).
  GIVEN WITH THE SEED: the statements are not yours to turn. If you find one false, say at which input.
  Laid BY PROGRAM, IN A SANDBOX (cutbox-rows.mjs): the forced cells as the released guide's own fill.sh prints them over the translation 58b5d70f9e22d17b… (all of the seat's roots in one cut). By AI agents, Wed Nov 11 2026. No macro, syntax, notation, axiom, sorry.
-/
import Derived.Test.YthmfiohcmnaacaaChecked
import GoSem.Claim
import GoSem.ClaimJoined
import GoSem.ClaimMapViews
import Derived.JoinedTies
import Derived.KernelRfl
namespace Go.Proofs.Ythmfiohcmnaacaa
/- THE CELL 'sum', in the pinned program and in every row, IS THE sha256 OF THE DUMP (.gsa) THAT YthmfiohcmnaacaaProg.lean LOADS. Nothing in Lean hashes anything: it is a label: what it is worth is what the hold of that sum in a sandbox is worth. -/
noncomputable def Try.pinned : Pinned := { name := "ythmfiohcmnaacaa", sum := "58b5d70f9e22d17b6454e5a4af794aa3bd594e5ba6023e775dd0dbe2c5d80596", checked := Try.checked }
namespace Rows
def none {H : Type} : Left H := { results := [], args := [] }

/-- 'laws.FnExactMemOk': WHATEVER THE INPUT: true; the input reads as it did. -/
def fnExactMemOkSpec : ChangeSpec := { name := "fnExactMemOk", fn := fun _ => fun
  | [d] => { results := [.lit (.bool true)], args := [d] }
  | _ => none }
def fnExactMemOkRow : OpenClaim := { program := "ythmfiohcmnaacaa", sum := "58b5d70f9e22d17b6454e5a4af794aa3bd594e5ba6023e775dd0dbe2c5d80596", func := "loop.example/g00950/laws.FnExactMemOk", spec := "fnExactMemOk", apart := false }
def FnExactMemOkSaid : Prop := fnExactMemOkRow.holds Try.pinned (OpenSpec.ofChange fnExactMemOkSpec)

/-- ITS FALSE NEIGHBOUR: 'it returns false'. Refute it at one input. -/
def fnExactMemOkWrong : ChangeSpec := { name := "fnExactMemOk", fn := fun _ => fun
  | [d] => { results := [.lit (.bool false)], args := [d] }
  | _ => none }
def FnExactMemOkWrongFalsely : Prop := fnExactMemOkRow.holds Try.pinned (OpenSpec.ofChange fnExactMemOkWrong)

/-- 'laws.FnExactMemGet': WHATEVER THE INPUT: true; the input reads as it did. -/
def fnExactMemGetSpec : ChangeSpec := { name := "fnExactMemGet", fn := fun _ => fun
  | [d1, d2, d3] => { results := [.lit (.bool true)], args := [d1, d2, d3] }
  | _ => none }
def fnExactMemGetRow : OpenClaim := { program := "ythmfiohcmnaacaa", sum := "58b5d70f9e22d17b6454e5a4af794aa3bd594e5ba6023e775dd0dbe2c5d80596", func := "loop.example/g00950/laws.FnExactMemGet", spec := "fnExactMemGet", apart := false }
def FnExactMemGetSaid : Prop := fnExactMemGetRow.holds Try.pinned (OpenSpec.ofChange fnExactMemGetSpec)

/-- ITS FALSE NEIGHBOUR: 'it returns false'. Refute it at one input. -/
def fnExactMemGetWrong : ChangeSpec := { name := "fnExactMemGet", fn := fun _ => fun
  | [d1, d2, d3] => { results := [.lit (.bool false)], args := [d1, d2, d3] }
  | _ => none }
def FnExactMemGetWrongFalsely : Prop := fnExactMemGetRow.holds Try.pinned (OpenSpec.ofChange fnExactMemGetWrong)

/-- 'laws.FnExactMemMap': WHATEVER THE INPUT: true; the input reads as it did. -/
def fnExactMemMapSpec : ChangeSpec := { name := "fnExactMemMap", fn := fun _ => fun
  | [d1, d2] => { results := [.lit (.bool true)], args := [d1, d2] }
  | _ => none }
def fnExactMemMapRow : OpenClaim := { program := "ythmfiohcmnaacaa", sum := "58b5d70f9e22d17b6454e5a4af794aa3bd594e5ba6023e775dd0dbe2c5d80596", func := "loop.example/g00950/laws.FnExactMemMap", spec := "fnExactMemMap", apart := false }
def FnExactMemMapSaid : Prop := fnExactMemMapRow.holds Try.pinned (OpenSpec.ofChange fnExactMemMapSpec)

/-- ITS FALSE NEIGHBOUR: 'it returns false'. Refute it at one input. -/
def fnExactMemMapWrong : ChangeSpec := { name := "fnExactMemMap", fn := fun _ => fun
  | [d1, d2] => { results := [.lit (.bool false)], args := [d1, d2] }
  | _ => none }
def FnExactMemMapWrongFalsely : Prop := fnExactMemMapRow.holds Try.pinned (OpenSpec.ofChange fnExactMemMapWrong)

/-- 'laws.FnExactMemRange': WHATEVER THE INPUT: true; the input reads as it did. -/
def fnExactMemRangeSpec : ChangeSpec := { name := "fnExactMemRange", fn := fun _ => fun
  | [d1, d2, d3, d4] => { results := [.lit (.bool true)], args := [d1, d2, d3, d4] }
  | _ => none }
def fnExactMemRangeRow : OpenClaim := { program := "ythmfiohcmnaacaa", sum := "58b5d70f9e22d17b6454e5a4af794aa3bd594e5ba6023e775dd0dbe2c5d80596", func := "loop.example/g00950/laws.FnExactMemRange", spec := "fnExactMemRange", apart := false }
def FnExactMemRangeSaid : Prop := fnExactMemRangeRow.holds Try.pinned (OpenSpec.ofChange fnExactMemRangeSpec)

/-- ITS FALSE NEIGHBOUR: 'it returns false'. Refute it at one input. -/
def fnExactMemRangeWrong : ChangeSpec := { name := "fnExactMemRange", fn := fun _ => fun
  | [d1, d2, d3, d4] => { results := [.lit (.bool false)], args := [d1, d2, d3, d4] }
  | _ => none }
def FnExactMemRangeWrongFalsely : Prop := fnExactMemRangeRow.holds Try.pinned (OpenSpec.ofChange fnExactMemRangeWrong)

/-- 'laws.FnExactShowBlock': WHATEVER THE INPUT: true; the input reads as it did. -/
def fnExactShowBlockSpec : ChangeSpec := { name := "fnExactShowBlock", fn := fun _ => fun
  | [d] => { results := [.lit (.bool true)], args := [d] }
  | _ => none }
def fnExactShowBlockRow : OpenClaim := { program := "ythmfiohcmnaacaa", sum := "58b5d70f9e22d17b6454e5a4af794aa3bd594e5ba6023e775dd0dbe2c5d80596", func := "loop.example/g00950/laws.FnExactShowBlock", spec := "fnExactShowBlock", inPlace := ["internal/abi.NoEscape"], apart := false }
def FnExactShowBlockSaid : Prop := fnExactShowBlockRow.holds Try.pinned (OpenSpec.ofChange fnExactShowBlockSpec)

/-- ITS FALSE NEIGHBOUR: 'it returns false'. Refute it at one input. -/
def fnExactShowBlockWrong : ChangeSpec := { name := "fnExactShowBlock", fn := fun _ => fun
  | [d] => { results := [.lit (.bool false)], args := [d] }
  | _ => none }
def FnExactShowBlockWrongFalsely : Prop := fnExactShowBlockRow.holds Try.pinned (OpenSpec.ofChange fnExactShowBlockWrong)

/-- 'laws.FnExactMemPut': WHATEVER THE INPUT: true; the input reads as it did. -/
def fnExactMemPutSpec : ChangeSpec := { name := "fnExactMemPut", fn := fun _ => fun
  | [d1, d2] => { results := [.lit (.bool true)], args := [d1, d2] }
  | _ => none }
def fnExactMemPutRow : OpenClaim := { program := "ythmfiohcmnaacaa", sum := "58b5d70f9e22d17b6454e5a4af794aa3bd594e5ba6023e775dd0dbe2c5d80596", func := "loop.example/g00950/laws.FnExactMemPut", spec := "fnExactMemPut", inPlace := ["slices.overlaps[loop.example/g00950/impl.Ent]"], unfollowed := true, recurses := true, apart := false }
def FnExactMemPutSaid : Prop := fnExactMemPutRow.holds Try.pinned (OpenSpec.ofChange fnExactMemPutSpec)

/-- ITS FALSE NEIGHBOUR: 'it returns false'. Refute it at one input. -/
def fnExactMemPutWrong : ChangeSpec := { name := "fnExactMemPut", fn := fun _ => fun
  | [d1, d2] => { results := [.lit (.bool false)], args := [d1, d2] }
  | _ => none }
def FnExactMemPutWrongFalsely : Prop := fnExactMemPutRow.holds Try.pinned (OpenSpec.ofChange fnExactMemPutWrong)

/-- 'laws.FnExactReadBlock': WHATEVER THE INPUT: true; the input reads as it did. -/
def fnExactReadBlockSpec : ChangeSpec := { name := "fnExactReadBlock", fn := fun _ => fun
  | [d] => { results := [.lit (.bool true)], args := [d] }
  | _ => none }
def fnExactReadBlockRow : OpenClaim := { program := "ythmfiohcmnaacaa", sum := "58b5d70f9e22d17b6454e5a4af794aa3bd594e5ba6023e775dd0dbe2c5d80596", func := "loop.example/g00950/laws.FnExactReadBlock", spec := "fnExactReadBlock", inPlace := ["internal/abi.NoEscape"], apart := false }
def FnExactReadBlockSaid : Prop := fnExactReadBlockRow.holds Try.pinned (OpenSpec.ofChange fnExactReadBlockSpec)

/-- ITS FALSE NEIGHBOUR: 'it returns false'. Refute it at one input. -/
def fnExactReadBlockWrong : ChangeSpec := { name := "fnExactReadBlock", fn := fun _ => fun
  | [d] => { results := [.lit (.bool false)], args := [d] }
  | _ => none }
def FnExactReadBlockWrongFalsely : Prop := fnExactReadBlockRow.holds Try.pinned (OpenSpec.ofChange fnExactReadBlockWrong)

/-- 'laws.FnExactTableOf': WHATEVER THE INPUT: true; the input reads as it did. -/
def fnExactTableOfSpec : ChangeSpec := { name := "fnExactTableOf", fn := fun _ => fun
  | [d] => { results := [.lit (.bool true)], args := [d] }
  | _ => none }
def fnExactTableOfRow : OpenClaim := { program := "ythmfiohcmnaacaa", sum := "58b5d70f9e22d17b6454e5a4af794aa3bd594e5ba6023e775dd0dbe2c5d80596", func := "loop.example/g00950/laws.FnExactTableOf", spec := "fnExactTableOf", inPlace := ["internal/abi.NoEscape"], unfollowed := true, recurses := true, apart := false }
def FnExactTableOfSaid : Prop := fnExactTableOfRow.holds Try.pinned (OpenSpec.ofChange fnExactTableOfSpec)

/-- ITS FALSE NEIGHBOUR: 'it returns false'. Refute it at one input. -/
def fnExactTableOfWrong : ChangeSpec := { name := "fnExactTableOf", fn := fun _ => fun
  | [d] => { results := [.lit (.bool false)], args := [d] }
  | _ => none }
def FnExactTableOfWrongFalsely : Prop := fnExactTableOfRow.holds Try.pinned (OpenSpec.ofChange fnExactTableOfWrong)

/-- 'laws.FnExactShowTable': WHATEVER THE INPUT: true; the input reads as it did. -/
def fnExactShowTableSpec : ChangeSpec := { name := "fnExactShowTable", fn := fun _ => fun
  | [d] => { results := [.lit (.bool true)], args := [d] }
  | _ => none }
def fnExactShowTableRow : OpenClaim := { program := "ythmfiohcmnaacaa", sum := "58b5d70f9e22d17b6454e5a4af794aa3bd594e5ba6023e775dd0dbe2c5d80596", func := "loop.example/g00950/laws.FnExactShowTable", spec := "fnExactShowTable", inPlace := ["internal/abi.NoEscape"], unfollowed := true, recurses := true, apart := false }
def FnExactShowTableSaid : Prop := fnExactShowTableRow.holds Try.pinned (OpenSpec.ofChange fnExactShowTableSpec)

/-- ITS FALSE NEIGHBOUR: 'it returns false'. Refute it at one input. -/
def fnExactShowTableWrong : ChangeSpec := { name := "fnExactShowTable", fn := fun _ => fun
  | [d] => { results := [.lit (.bool false)], args := [d] }
  | _ => none }
def FnExactShowTableWrongFalsely : Prop := fnExactShowTableRow.holds Try.pinned (OpenSpec.ofChange fnExactShowTableWrong)

/-- 'laws.FnExactReadTable': WHATEVER THE INPUT: true; the input reads as it did. -/
def fnExactReadTableSpec : ChangeSpec := { name := "fnExactReadTable", fn := fun _ => fun
  | [d] => { results := [.lit (.bool true)], args := [d] }
  | _ => none }
def fnExactReadTableRow : OpenClaim := { program := "ythmfiohcmnaacaa", sum := "58b5d70f9e22d17b6454e5a4af794aa3bd594e5ba6023e775dd0dbe2c5d80596", func := "loop.example/g00950/laws.FnExactReadTable", spec := "fnExactReadTable", inPlace := ["internal/abi.NoEscape"], unfollowed := true, recurses := true, apart := false }
def FnExactReadTableSaid : Prop := fnExactReadTableRow.holds Try.pinned (OpenSpec.ofChange fnExactReadTableSpec)

/-- ITS FALSE NEIGHBOUR: 'it returns false'. Refute it at one input. -/
def fnExactReadTableWrong : ChangeSpec := { name := "fnExactReadTable", fn := fun _ => fun
  | [d] => { results := [.lit (.bool false)], args := [d] }
  | _ => none }
def FnExactReadTableWrongFalsely : Prop := fnExactReadTableRow.holds Try.pinned (OpenSpec.ofChange fnExactReadTableWrong)

/-- 'laws.FnExactTableEnts': WHATEVER THE INPUT: true; the input reads as it did. -/
def fnExactTableEntsSpec : ChangeSpec := { name := "fnExactTableEnts", fn := fun _ => fun
  | [d] => { results := [.lit (.bool true)], args := [d] }
  | _ => none }
def fnExactTableEntsRow : OpenClaim := { program := "ythmfiohcmnaacaa", sum := "58b5d70f9e22d17b6454e5a4af794aa3bd594e5ba6023e775dd0dbe2c5d80596", func := "loop.example/g00950/laws.FnExactTableEnts", spec := "fnExactTableEnts", inPlace := ["internal/abi.NoEscape"], unfollowed := true, recurses := true, apart := false }
def FnExactTableEntsSaid : Prop := fnExactTableEntsRow.holds Try.pinned (OpenSpec.ofChange fnExactTableEntsSpec)

/-- ITS FALSE NEIGHBOUR: 'it returns false'. Refute it at one input. -/
def fnExactTableEntsWrong : ChangeSpec := { name := "fnExactTableEnts", fn := fun _ => fun
  | [d] => { results := [.lit (.bool false)], args := [d] }
  | _ => none }
def FnExactTableEntsWrongFalsely : Prop := fnExactTableEntsRow.holds Try.pinned (OpenSpec.ofChange fnExactTableEntsWrong)

/-- 'laws.FnExactTableGet': WHATEVER THE INPUT: true; the input reads as it did. -/
def fnExactTableGetSpec : ChangeSpec := { name := "fnExactTableGet", fn := fun _ => fun
  | [d1, d2, d3] => { results := [.lit (.bool true)], args := [d1, d2, d3] }
  | _ => none }
def fnExactTableGetRow : OpenClaim := { program := "ythmfiohcmnaacaa", sum := "58b5d70f9e22d17b6454e5a4af794aa3bd594e5ba6023e775dd0dbe2c5d80596", func := "loop.example/g00950/laws.FnExactTableGet", spec := "fnExactTableGet", inPlace := ["internal/abi.NoEscape"], unfollowed := true, recurses := true, apart := false }
def FnExactTableGetSaid : Prop := fnExactTableGetRow.holds Try.pinned (OpenSpec.ofChange fnExactTableGetSpec)

/-- ITS FALSE NEIGHBOUR: 'it returns false'. Refute it at one input. -/
def fnExactTableGetWrong : ChangeSpec := { name := "fnExactTableGet", fn := fun _ => fun
  | [d1, d2, d3] => { results := [.lit (.bool false)], args := [d1, d2, d3] }
  | _ => none }
def FnExactTableGetWrongFalsely : Prop := fnExactTableGetRow.holds Try.pinned (OpenSpec.ofChange fnExactTableGetWrong)

/- THE SECOND FORM. 'bulk': how many values and letters a reading holds, each counted each time it is reached (what is shared counts as often as it is met; a slice's spare places count too). A statement '..UptoSaid' is the law's where the arguments, and the package variables that the reading takes, are together of bulk at most 1048576: NARROWER than '..Said'. Prove '..Said' where nothing that the law and all that it calls make is longer than what came in: it says more and counts as full. Else prove '..UptoSaid'. A law counts once. -/
mutual
def uptoBulk {H : Type} : DataW H → Nat
  | .lit (.string bytes) => bytes.length + 1
  | .lit _ => 1
  | .nil => 1
  | .ptr d => uptoBulk d + 1
  | .slice elems spare => uptoBulkAll elems + uptoBulkAll spare + 1
  | .agg parts => uptoBulkAll parts + 1
  | .iface _ d => uptoBulk d + 1
  | .map entries => uptoBulkEntries entries + 1
  | .held _ => 1
def uptoBulkAll {H : Type} : List (DataW H) → Nat
  | [] => 0
  | d :: r => uptoBulk d + uptoBulkAll r
def uptoBulkEntries {H : Type} : List (Lit × DataW H) → Nat
  | [] => 0
  | x :: r => uptoBulkEntry x + uptoBulkEntries r
def uptoBulkEntry {H : Type} : Lit × DataW H → Nat
  | (.string bytes, d) => bytes.length + uptoBulk d + 1
  | (_, d) => uptoBulk d + 1
 end
def uptoSmall : (H : Type) → List (DataW H) → Bool := fun _ ds => decide (uptoBulkAll ds ≤ 1048576)
def OpenSpec.upto (s : _root_.Go.ChangeSpec) : _root_.Go.OpenSpec := { _root_.Go.OpenSpec.ofChange s with cond := some uptoSmall }

/-- 'laws.FnExactMemOk', WHERE WHAT IT READS IS OF BULK AT MOST 1048576: true; the input reads as it did. -/
def fnExactMemOkUptoRow : OpenClaim := { program := "ythmfiohcmnaacaa", sum := "58b5d70f9e22d17b6454e5a4af794aa3bd594e5ba6023e775dd0dbe2c5d80596", func := "loop.example/g00950/laws.FnExactMemOk", spec := "fnExactMemOk", apart := false, narrowed := true }
def FnExactMemOkUptoSaid : Prop := fnExactMemOkUptoRow.holds Try.pinned (OpenSpec.upto fnExactMemOkSpec)

/-- 'laws.FnExactMemGet', WHERE WHAT IT READS IS OF BULK AT MOST 1048576: true; the input reads as it did. -/
def fnExactMemGetUptoRow : OpenClaim := { program := "ythmfiohcmnaacaa", sum := "58b5d70f9e22d17b6454e5a4af794aa3bd594e5ba6023e775dd0dbe2c5d80596", func := "loop.example/g00950/laws.FnExactMemGet", spec := "fnExactMemGet", apart := false, narrowed := true }
def FnExactMemGetUptoSaid : Prop := fnExactMemGetUptoRow.holds Try.pinned (OpenSpec.upto fnExactMemGetSpec)

/-- 'laws.FnExactMemMap', WHERE WHAT IT READS IS OF BULK AT MOST 1048576: true; the input reads as it did. -/
def fnExactMemMapUptoRow : OpenClaim := { program := "ythmfiohcmnaacaa", sum := "58b5d70f9e22d17b6454e5a4af794aa3bd594e5ba6023e775dd0dbe2c5d80596", func := "loop.example/g00950/laws.FnExactMemMap", spec := "fnExactMemMap", apart := false, narrowed := true }
def FnExactMemMapUptoSaid : Prop := fnExactMemMapUptoRow.holds Try.pinned (OpenSpec.upto fnExactMemMapSpec)

/-- 'laws.FnExactMemRange', WHERE WHAT IT READS IS OF BULK AT MOST 1048576: true; the input reads as it did. -/
def fnExactMemRangeUptoRow : OpenClaim := { program := "ythmfiohcmnaacaa", sum := "58b5d70f9e22d17b6454e5a4af794aa3bd594e5ba6023e775dd0dbe2c5d80596", func := "loop.example/g00950/laws.FnExactMemRange", spec := "fnExactMemRange", apart := false, narrowed := true }
def FnExactMemRangeUptoSaid : Prop := fnExactMemRangeUptoRow.holds Try.pinned (OpenSpec.upto fnExactMemRangeSpec)

/-- 'laws.FnExactShowBlock', WHERE WHAT IT READS IS OF BULK AT MOST 1048576: true; the input reads as it did. -/
def fnExactShowBlockUptoRow : OpenClaim := { program := "ythmfiohcmnaacaa", sum := "58b5d70f9e22d17b6454e5a4af794aa3bd594e5ba6023e775dd0dbe2c5d80596", func := "loop.example/g00950/laws.FnExactShowBlock", spec := "fnExactShowBlock", inPlace := ["internal/abi.NoEscape"], apart := false, narrowed := true }
def FnExactShowBlockUptoSaid : Prop := fnExactShowBlockUptoRow.holds Try.pinned (OpenSpec.upto fnExactShowBlockSpec)

/-- 'laws.FnExactMemPut', WHERE WHAT IT READS IS OF BULK AT MOST 1048576: true; the input reads as it did. -/
def fnExactMemPutUptoRow : OpenClaim := { program := "ythmfiohcmnaacaa", sum := "58b5d70f9e22d17b6454e5a4af794aa3bd594e5ba6023e775dd0dbe2c5d80596", func := "loop.example/g00950/laws.FnExactMemPut", spec := "fnExactMemPut", inPlace := ["slices.overlaps[loop.example/g00950/impl.Ent]"], unfollowed := true, recurses := true, apart := false, narrowed := true }
def FnExactMemPutUptoSaid : Prop := fnExactMemPutUptoRow.holds Try.pinned (OpenSpec.upto fnExactMemPutSpec)

/-- 'laws.FnExactReadBlock', WHERE WHAT IT READS IS OF BULK AT MOST 1048576: true; the input reads as it did. -/
def fnExactReadBlockUptoRow : OpenClaim := { program := "ythmfiohcmnaacaa", sum := "58b5d70f9e22d17b6454e5a4af794aa3bd594e5ba6023e775dd0dbe2c5d80596", func := "loop.example/g00950/laws.FnExactReadBlock", spec := "fnExactReadBlock", inPlace := ["internal/abi.NoEscape"], apart := false, narrowed := true }
def FnExactReadBlockUptoSaid : Prop := fnExactReadBlockUptoRow.holds Try.pinned (OpenSpec.upto fnExactReadBlockSpec)

/-- 'laws.FnExactTableOf', WHERE WHAT IT READS IS OF BULK AT MOST 1048576: true; the input reads as it did. -/
def fnExactTableOfUptoRow : OpenClaim := { program := "ythmfiohcmnaacaa", sum := "58b5d70f9e22d17b6454e5a4af794aa3bd594e5ba6023e775dd0dbe2c5d80596", func := "loop.example/g00950/laws.FnExactTableOf", spec := "fnExactTableOf", inPlace := ["internal/abi.NoEscape"], unfollowed := true, recurses := true, apart := false, narrowed := true }
def FnExactTableOfUptoSaid : Prop := fnExactTableOfUptoRow.holds Try.pinned (OpenSpec.upto fnExactTableOfSpec)

/-- 'laws.FnExactShowTable', WHERE WHAT IT READS IS OF BULK AT MOST 1048576: true; the input reads as it did. -/
def fnExactShowTableUptoRow : OpenClaim := { program := "ythmfiohcmnaacaa", sum := "58b5d70f9e22d17b6454e5a4af794aa3bd594e5ba6023e775dd0dbe2c5d80596", func := "loop.example/g00950/laws.FnExactShowTable", spec := "fnExactShowTable", inPlace := ["internal/abi.NoEscape"], unfollowed := true, recurses := true, apart := false, narrowed := true }
def FnExactShowTableUptoSaid : Prop := fnExactShowTableUptoRow.holds Try.pinned (OpenSpec.upto fnExactShowTableSpec)

/-- 'laws.FnExactReadTable', WHERE WHAT IT READS IS OF BULK AT MOST 1048576: true; the input reads as it did. -/
def fnExactReadTableUptoRow : OpenClaim := { program := "ythmfiohcmnaacaa", sum := "58b5d70f9e22d17b6454e5a4af794aa3bd594e5ba6023e775dd0dbe2c5d80596", func := "loop.example/g00950/laws.FnExactReadTable", spec := "fnExactReadTable", inPlace := ["internal/abi.NoEscape"], unfollowed := true, recurses := true, apart := false, narrowed := true }
def FnExactReadTableUptoSaid : Prop := fnExactReadTableUptoRow.holds Try.pinned (OpenSpec.upto fnExactReadTableSpec)

/-- 'laws.FnExactTableEnts', WHERE WHAT IT READS IS OF BULK AT MOST 1048576: true; the input reads as it did. -/
def fnExactTableEntsUptoRow : OpenClaim := { program := "ythmfiohcmnaacaa", sum := "58b5d70f9e22d17b6454e5a4af794aa3bd594e5ba6023e775dd0dbe2c5d80596", func := "loop.example/g00950/laws.FnExactTableEnts", spec := "fnExactTableEnts", inPlace := ["internal/abi.NoEscape"], unfollowed := true, recurses := true, apart := false, narrowed := true }
def FnExactTableEntsUptoSaid : Prop := fnExactTableEntsUptoRow.holds Try.pinned (OpenSpec.upto fnExactTableEntsSpec)

/-- 'laws.FnExactTableGet', WHERE WHAT IT READS IS OF BULK AT MOST 1048576: true; the input reads as it did. -/
def fnExactTableGetUptoRow : OpenClaim := { program := "ythmfiohcmnaacaa", sum := "58b5d70f9e22d17b6454e5a4af794aa3bd594e5ba6023e775dd0dbe2c5d80596", func := "loop.example/g00950/laws.FnExactTableGet", spec := "fnExactTableGet", inPlace := ["internal/abi.NoEscape"], unfollowed := true, recurses := true, apart := false, narrowed := true }
def FnExactTableGetUptoSaid : Prop := fnExactTableGetUptoRow.holds Try.pinned (OpenSpec.upto fnExactTableGetSpec)

end Rows
end Go.Proofs.Ythmfiohcmnaacaa
