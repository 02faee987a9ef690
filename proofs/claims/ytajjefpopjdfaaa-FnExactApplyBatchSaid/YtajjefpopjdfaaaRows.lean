/-
  No cell of these rows narrows 'for every input' (looked for: loops, veiled, ifaces, maps, wideKeys, modest, calm, conditions, laid).
  DERIVED. THE GIVEN ROWS OF THIS SEAT. 7 by the template 'for every input the law returns true; each argument reads behind the call as it read before'; 0 by the template 'total and deterministic' (their statements: YtajjefpopjdfaaaTotals.lean).
  GIVEN WITH THE SEED: the statements are not yours to turn. If you find one false, say at which input.
  Laid BY PROGRAM, IN A SANDBOX (cutbox-rows.mjs): the forced cells as the released guide's own fill.sh prints them over the translation f3a63e097e75a0c6… (all of the seat's roots in one cut). By AI agents, Wed Nov 11 2026. No macro, syntax, notation, axiom, sorry.
-/
import Derived.Test.YtajjefpopjdfaaaChecked
import GoSem.Claim
import GoSem.ClaimJoined
import GoSem.ClaimMapViews
import Derived.JoinedTies
import Derived.KernelRfl
namespace Go.Proofs.Ytajjefpopjdfaaa
/- THE CELL 'sum', in the pinned program and in every row, IS THE sha256 OF THE DUMP (.gsa) THAT YtajjefpopjdfaaaProg.lean LOADS. Nothing in Lean hashes anything: it is a label: what it is worth is what the hold of that sum in a sandbox is worth. -/
noncomputable def Try.pinned : Pinned := { name := "ytajjefpopjdfaaa", sum := "f3a63e097e75a0c693a321d4de3368fbae7e3faadbb48d0d1f5ff4c08ab1ea43", checked := Try.checked }
namespace Rows
def none {H : Type} : Left H := { results := [], args := [] }

/-- 'laws.FnExactBatchOk': WHATEVER THE INPUT: true; the input reads as it did. -/
def fnExactBatchOkSpec : ChangeSpec := { name := "fnExactBatchOk", fn := fun _ => fun
  | [d] => { results := [.lit (.bool true)], args := [d] }
  | _ => none }
def fnExactBatchOkRow : OpenClaim := { program := "ytajjefpopjdfaaa", sum := "f3a63e097e75a0c693a321d4de3368fbae7e3faadbb48d0d1f5ff4c08ab1ea43", func := "loop.example/g00950/laws.FnExactBatchOk", spec := "fnExactBatchOk", apart := false }
def FnExactBatchOkSaid : Prop := fnExactBatchOkRow.holds Try.pinned (OpenSpec.ofChange fnExactBatchOkSpec)

/-- ITS FALSE NEIGHBOUR: 'it returns false'. Refute it at one input. -/
def fnExactBatchOkWrong : ChangeSpec := { name := "fnExactBatchOk", fn := fun _ => fun
  | [d] => { results := [.lit (.bool false)], args := [d] }
  | _ => none }
def FnExactBatchOkWrongFalsely : Prop := fnExactBatchOkRow.holds Try.pinned (OpenSpec.ofChange fnExactBatchOkWrong)

/-- 'laws.FnExactBloomOf': WHATEVER THE INPUT: true; the input reads as it did. -/
def fnExactBloomOfSpec : ChangeSpec := { name := "fnExactBloomOf", fn := fun _ => fun
  | [d1, d2] => { results := [.lit (.bool true)], args := [d1, d2] }
  | _ => none }
def fnExactBloomOfRow : OpenClaim := { program := "ytajjefpopjdfaaa", sum := "f3a63e097e75a0c693a321d4de3368fbae7e3faadbb48d0d1f5ff4c08ab1ea43", func := "loop.example/g00950/laws.FnExactBloomOf", spec := "fnExactBloomOf", apart := false }
def FnExactBloomOfSaid : Prop := fnExactBloomOfRow.holds Try.pinned (OpenSpec.ofChange fnExactBloomOfSpec)

/-- ITS FALSE NEIGHBOUR: 'it returns false'. Refute it at one input. -/
def fnExactBloomOfWrong : ChangeSpec := { name := "fnExactBloomOf", fn := fun _ => fun
  | [d1, d2] => { results := [.lit (.bool false)], args := [d1, d2] }
  | _ => none }
def FnExactBloomOfWrongFalsely : Prop := fnExactBloomOfRow.holds Try.pinned (OpenSpec.ofChange fnExactBloomOfWrong)

/-- 'laws.FnExactShowBatch': WHATEVER THE INPUT: true; the input reads as it did. -/
def fnExactShowBatchSpec : ChangeSpec := { name := "fnExactShowBatch", fn := fun _ => fun
  | [d] => { results := [.lit (.bool true)], args := [d] }
  | _ => none }
def fnExactShowBatchRow : OpenClaim := { program := "ytajjefpopjdfaaa", sum := "f3a63e097e75a0c693a321d4de3368fbae7e3faadbb48d0d1f5ff4c08ab1ea43", func := "loop.example/g00950/laws.FnExactShowBatch", spec := "fnExactShowBatch", inPlace := ["internal/abi.NoEscape"], apart := false }
def FnExactShowBatchSaid : Prop := fnExactShowBatchRow.holds Try.pinned (OpenSpec.ofChange fnExactShowBatchSpec)

/-- ITS FALSE NEIGHBOUR: 'it returns false'. Refute it at one input. -/
def fnExactShowBatchWrong : ChangeSpec := { name := "fnExactShowBatch", fn := fun _ => fun
  | [d] => { results := [.lit (.bool false)], args := [d] }
  | _ => none }
def FnExactShowBatchWrongFalsely : Prop := fnExactShowBatchRow.holds Try.pinned (OpenSpec.ofChange fnExactShowBatchWrong)

/-- 'laws.FnExactReadBatch': WHATEVER THE INPUT: true; the input reads as it did. -/
def fnExactReadBatchSpec : ChangeSpec := { name := "fnExactReadBatch", fn := fun _ => fun
  | [d] => { results := [.lit (.bool true)], args := [d] }
  | _ => none }
def fnExactReadBatchRow : OpenClaim := { program := "ytajjefpopjdfaaa", sum := "f3a63e097e75a0c693a321d4de3368fbae7e3faadbb48d0d1f5ff4c08ab1ea43", func := "loop.example/g00950/laws.FnExactReadBatch", spec := "fnExactReadBatch", apart := false }
def FnExactReadBatchSaid : Prop := fnExactReadBatchRow.holds Try.pinned (OpenSpec.ofChange fnExactReadBatchSpec)

/-- ITS FALSE NEIGHBOUR: 'it returns false'. Refute it at one input. -/
def fnExactReadBatchWrong : ChangeSpec := { name := "fnExactReadBatch", fn := fun _ => fun
  | [d] => { results := [.lit (.bool false)], args := [d] }
  | _ => none }
def FnExactReadBatchWrongFalsely : Prop := fnExactReadBatchRow.holds Try.pinned (OpenSpec.ofChange fnExactReadBatchWrong)

/-- 'laws.FnExactSealBatch': WHATEVER THE INPUT: true; the input reads as it did. -/
def fnExactSealBatchSpec : ChangeSpec := { name := "fnExactSealBatch", fn := fun _ => fun
  | [d1, d2, d3, d4] => { results := [.lit (.bool true)], args := [d1, d2, d3, d4] }
  | _ => none }
def fnExactSealBatchRow : OpenClaim := { program := "ytajjefpopjdfaaa", sum := "f3a63e097e75a0c693a321d4de3368fbae7e3faadbb48d0d1f5ff4c08ab1ea43", func := "loop.example/g00950/laws.FnExactSealBatch", spec := "fnExactSealBatch", inPlace := ["internal/abi.NoEscape"], apart := false }
def FnExactSealBatchSaid : Prop := fnExactSealBatchRow.holds Try.pinned (OpenSpec.ofChange fnExactSealBatchSpec)

/-- ITS FALSE NEIGHBOUR: 'it returns false'. Refute it at one input. -/
def fnExactSealBatchWrong : ChangeSpec := { name := "fnExactSealBatch", fn := fun _ => fun
  | [d1, d2, d3, d4] => { results := [.lit (.bool false)], args := [d1, d2, d3, d4] }
  | _ => none }
def FnExactSealBatchWrongFalsely : Prop := fnExactSealBatchRow.holds Try.pinned (OpenSpec.ofChange fnExactSealBatchWrong)

/-- 'laws.FnExactApplyBatch': WHATEVER THE INPUT: true; the input reads as it did. -/
def fnExactApplyBatchSpec : ChangeSpec := { name := "fnExactApplyBatch", fn := fun _ => fun
  | [d1, d2] => { results := [.lit (.bool true)], args := [d1, d2] }
  | _ => none }
def fnExactApplyBatchRow : OpenClaim := { program := "ytajjefpopjdfaaa", sum := "f3a63e097e75a0c693a321d4de3368fbae7e3faadbb48d0d1f5ff4c08ab1ea43", func := "loop.example/g00950/laws.FnExactApplyBatch", spec := "fnExactApplyBatch", inPlace := ["internal/bytealg.abigen_runtime_cmpstring", "slices.overlaps[loop.example/g00950/impl.KV]"], unfollowed := true, recurses := true, apart := false }
def FnExactApplyBatchSaid : Prop := fnExactApplyBatchRow.holds Try.pinned (OpenSpec.ofChange fnExactApplyBatchSpec)

/-- ITS FALSE NEIGHBOUR: 'it returns false'. Refute it at one input. -/
def fnExactApplyBatchWrong : ChangeSpec := { name := "fnExactApplyBatch", fn := fun _ => fun
  | [d1, d2] => { results := [.lit (.bool false)], args := [d1, d2] }
  | _ => none }
def FnExactApplyBatchWrongFalsely : Prop := fnExactApplyBatchRow.holds Try.pinned (OpenSpec.ofChange fnExactApplyBatchWrong)

/-- 'laws.FnExactOpenBatch': WHATEVER THE INPUT: true; the input reads as it did. -/
def fnExactOpenBatchSpec : ChangeSpec := { name := "fnExactOpenBatch", fn := fun _ => fun
  | [d1, d2, d3, d4] => { results := [.lit (.bool true)], args := [d1, d2, d3, d4] }
  | _ => none }
def fnExactOpenBatchRow : OpenClaim := { program := "ytajjefpopjdfaaa", sum := "f3a63e097e75a0c693a321d4de3368fbae7e3faadbb48d0d1f5ff4c08ab1ea43", func := "loop.example/g00950/laws.FnExactOpenBatch", spec := "fnExactOpenBatch", apart := false }
def FnExactOpenBatchSaid : Prop := fnExactOpenBatchRow.holds Try.pinned (OpenSpec.ofChange fnExactOpenBatchSpec)

/-- ITS FALSE NEIGHBOUR: 'it returns false'. Refute it at one input. -/
def fnExactOpenBatchWrong : ChangeSpec := { name := "fnExactOpenBatch", fn := fun _ => fun
  | [d1, d2, d3, d4] => { results := [.lit (.bool false)], args := [d1, d2, d3, d4] }
  | _ => none }
def FnExactOpenBatchWrongFalsely : Prop := fnExactOpenBatchRow.holds Try.pinned (OpenSpec.ofChange fnExactOpenBatchWrong)

/- THE SECOND FORM. 'bulk': how many values and letters a reading holds, each counted each time it is reached (what is shared counts as often as it is met; a slice's spare places count too). A statement '..UptoSaid' is the law's where the arguments, and the package variables that the reading takes, are together of bulk at most 1048576: NARROWER than '..Said'. Prove '..Said' where nothing that the law and all that it calls make is longer than what came in: it says more and counts as full. Else prove '..UptoSaid'. A law counts once. -/
mutual
def uptoBulk {H : Type} : DataW H → Nat
  | .lit (.string bytes) => bytes.length + 1
  | .lit _ => 1
  | .nil => 1
  | .ptr d => uptoBulk d + 1
  | .slice elems spare => uptoBulkAll elems + uptoBulkAll spare + 1
  | .agg parts => uptoBulkAll parts + 1
  | .iface _ d => uptoBulk d + 1
  | .map entries => uptoBulkEntries entries + 1
  | .held _ => 1
def uptoBulkAll {H : Type} : List (DataW H) → Nat
  | [] => 0
  | d :: r => uptoBulk d + uptoBulkAll r
def uptoBulkEntries {H : Type} : List (Lit × DataW H) → Nat
  | [] => 0
  | x :: r => uptoBulkEntry x + uptoBulkEntries r
def uptoBulkEntry {H : Type} : Lit × DataW H → Nat
  | (.string bytes, d) => bytes.length + uptoBulk d + 1
  | (_, d) => uptoBulk d + 1
 end
def uptoSmall : (H : Type) → List (DataW H) → Bool := fun _ ds => decide (uptoBulkAll ds ≤ 1048576)
def OpenSpec.upto (s : _root_.Go.ChangeSpec) : _root_.Go.OpenSpec := { _root_.Go.OpenSpec.ofChange s with cond := some uptoSmall }

/-- 'laws.FnExactBatchOk', WHERE WHAT IT READS IS OF BULK AT MOST 1048576: true; the input reads as it did. -/
def fnExactBatchOkUptoRow : OpenClaim := { program := "ytajjefpopjdfaaa", sum := "f3a63e097e75a0c693a321d4de3368fbae7e3faadbb48d0d1f5ff4c08ab1ea43", func := "loop.example/g00950/laws.FnExactBatchOk", spec := "fnExactBatchOk", apart := false, narrowed := true }
def FnExactBatchOkUptoSaid : Prop := fnExactBatchOkUptoRow.holds Try.pinned (OpenSpec.upto fnExactBatchOkSpec)

/-- 'laws.FnExactBloomOf', WHERE WHAT IT READS IS OF BULK AT MOST 1048576: true; the input reads as it did. -/
def fnExactBloomOfUptoRow : OpenClaim := { program := "ytajjefpopjdfaaa", sum := "f3a63e097e75a0c693a321d4de3368fbae7e3faadbb48d0d1f5ff4c08ab1ea43", func := "loop.example/g00950/laws.FnExactBloomOf", spec := "fnExactBloomOf", apart := false, narrowed := true }
def FnExactBloomOfUptoSaid : Prop := fnExactBloomOfUptoRow.holds Try.pinned (OpenSpec.upto fnExactBloomOfSpec)

/-- 'laws.FnExactShowBatch', WHERE WHAT IT READS IS OF BULK AT MOST 1048576: true; the input reads as it did. -/
def fnExactShowBatchUptoRow : OpenClaim := { program := "ytajjefpopjdfaaa", sum := "f3a63e097e75a0c693a321d4de3368fbae7e3faadbb48d0d1f5ff4c08ab1ea43", func := "loop.example/g00950/laws.FnExactShowBatch", spec := "fnExactShowBatch", inPlace := ["internal/abi.NoEscape"], apart := false, narrowed := true }
def FnExactShowBatchUptoSaid : Prop := fnExactShowBatchUptoRow.holds Try.pinned (OpenSpec.upto fnExactShowBatchSpec)

/-- 'laws.FnExactReadBatch', WHERE WHAT IT READS IS OF BULK AT MOST 1048576: true; the input reads as it did. -/
def fnExactReadBatchUptoRow : OpenClaim := { program := "ytajjefpopjdfaaa", sum := "f3a63e097e75a0c693a321d4de3368fbae7e3faadbb48d0d1f5ff4c08ab1ea43", func := "loop.example/g00950/laws.FnExactReadBatch", spec := "fnExactReadBatch", apart := false, narrowed := true }
def FnExactReadBatchUptoSaid : Prop := fnExactReadBatchUptoRow.holds Try.pinned (OpenSpec.upto fnExactReadBatchSpec)

/-- 'laws.FnExactSealBatch', WHERE WHAT IT READS IS OF BULK AT MOST 1048576: true; the input reads as it did. -/
def fnExactSealBatchUptoRow : OpenClaim := { program := "ytajjefpopjdfaaa", sum := "f3a63e097e75a0c693a321d4de3368fbae7e3faadbb48d0d1f5ff4c08ab1ea43", func := "loop.example/g00950/laws.FnExactSealBatch", spec := "fnExactSealBatch", inPlace := ["internal/abi.NoEscape"], apart := false, narrowed := true }
def FnExactSealBatchUptoSaid : Prop := fnExactSealBatchUptoRow.holds Try.pinned (OpenSpec.upto fnExactSealBatchSpec)

/-- 'laws.FnExactApplyBatch', WHERE WHAT IT READS IS OF BULK AT MOST 1048576: true; the input reads as it did. -/
def fnExactApplyBatchUptoRow : OpenClaim := { program := "ytajjefpopjdfaaa", sum := "f3a63e097e75a0c693a321d4de3368fbae7e3faadbb48d0d1f5ff4c08ab1ea43", func := "loop.example/g00950/laws.FnExactApplyBatch", spec := "fnExactApplyBatch", inPlace := ["internal/bytealg.abigen_runtime_cmpstring", "slices.overlaps[loop.example/g00950/impl.KV]"], unfollowed := true, recurses := true, apart := false, narrowed := true }
def FnExactApplyBatchUptoSaid : Prop := fnExactApplyBatchUptoRow.holds Try.pinned (OpenSpec.upto fnExactApplyBatchSpec)

/-- 'laws.FnExactOpenBatch', WHERE WHAT IT READS IS OF BULK AT MOST 1048576: true; the input reads as it did. -/
def fnExactOpenBatchUptoRow : OpenClaim := { program := "ytajjefpopjdfaaa", sum := "f3a63e097e75a0c693a321d4de3368fbae7e3faadbb48d0d1f5ff4c08ab1ea43", func := "loop.example/g00950/laws.FnExactOpenBatch", spec := "fnExactOpenBatch", apart := false, narrowed := true }
def FnExactOpenBatchUptoSaid : Prop := fnExactOpenBatchUptoRow.holds Try.pinned (OpenSpec.upto fnExactOpenBatchSpec)

end Rows
end Go.Proofs.Ytajjefpopjdfaaa
