/-
  No cell of these rows narrows 'for every input' (looked for: loops, veiled, ifaces, maps, wideKeys, modest, calm, conditions, laid).
  DERIVED. THE GIVEN ROWS OF THIS SEAT. 11 by the template 'for every input the law returns true; each argument reads behind the call as it read before'; 0 by the template 'total and deterministic' (their statements: YtoflclofcnpjlaaTotals.lean).
  GIVEN WITH THE SEED: the statements are not yours to turn. If you find one false, say at which input.
  Laid BY PROGRAM, IN A SANDBOX (cutbox-rows.mjs): the forced cells as the released guide's own fill.sh prints them over the translation b276ddaf88fb9e4d… (all of the seat's roots in one cut). By AI agents, Wed Nov 11 2026. No macro, syntax, notation, axiom, sorry.
-/
import Derived.Test.YtoflclofcnpjlaaChecked
import GoSem.Claim
import GoSem.ClaimJoined
import GoSem.ClaimMapViews
import Derived.JoinedTies
import Derived.KernelRfl
namespace Go.Proofs.Ytoflclofcnpjlaa
/- THE CELL 'sum', in the pinned program and in every row, IS THE sha256 OF THE DUMP (.gsa) THAT YtoflclofcnpjlaaProg.lean LOADS. Nothing in Lean hashes anything: it is a label: what it is worth is what the hold of that sum in a sandbox is worth. -/
noncomputable def Try.pinned : Pinned := { name := "ytoflclofcnpjlaa", sum := "b276ddaf88fb9e4d8bfc78f0ff4d7ac364895673009e56d938788dfeeebee860", checked := Try.checked }
namespace Rows
def none {H : Type} : Left H := { results := [], args := [] }

/-- 'laws.FnExactChaBlock': WHATEVER THE INPUT: true; the input reads as it did. -/
def fnExactChaBlockSpec : ChangeSpec := { name := "fnExactChaBlock", fn := fun _ => fun
  | [d1, d2, d3] => { results := [.lit (.bool true)], args := [d1, d2, d3] }
  | _ => none }
def fnExactChaBlockRow : OpenClaim := { program := "ytoflclofcnpjlaa", sum := "b276ddaf88fb9e4d8bfc78f0ff4d7ac364895673009e56d938788dfeeebee860", func := "loop.example/g00950/laws.FnExactChaBlock", spec := "fnExactChaBlock", apart := false }
def FnExactChaBlockSaid : Prop := fnExactChaBlockRow.holds Try.pinned (OpenSpec.ofChange fnExactChaBlockSpec)

/-- ITS FALSE NEIGHBOUR: 'it returns false'. Refute it at one input. -/
def fnExactChaBlockWrong : ChangeSpec := { name := "fnExactChaBlock", fn := fun _ => fun
  | [d1, d2, d3] => { results := [.lit (.bool false)], args := [d1, d2, d3] }
  | _ => none }
def FnExactChaBlockWrongFalsely : Prop := fnExactChaBlockRow.holds Try.pinned (OpenSpec.ofChange fnExactChaBlockWrong)

/-- 'laws.FnExactShowRow': WHATEVER THE INPUT: true; the input reads as it did. -/
def fnExactShowRowSpec : ChangeSpec := { name := "fnExactShowRow", fn := fun _ => fun
  | [d] => { results := [.lit (.bool true)], args := [d] }
  | _ => none }
def fnExactShowRowRow : OpenClaim := { program := "ytoflclofcnpjlaa", sum := "b276ddaf88fb9e4d8bfc78f0ff4d7ac364895673009e56d938788dfeeebee860", func := "loop.example/g00950/laws.FnExactShowRow", spec := "fnExactShowRow", apart := false }
def FnExactShowRowSaid : Prop := fnExactShowRowRow.holds Try.pinned (OpenSpec.ofChange fnExactShowRowSpec)

/-- ITS FALSE NEIGHBOUR: 'it returns false'. Refute it at one input. -/
def fnExactShowRowWrong : ChangeSpec := { name := "fnExactShowRow", fn := fun _ => fun
  | [d] => { results := [.lit (.bool false)], args := [d] }
  | _ => none }
def FnExactShowRowWrongFalsely : Prop := fnExactShowRowRow.holds Try.pinned (OpenSpec.ofChange fnExactShowRowWrong)

/-- 'laws.FnExactChaStream': WHATEVER THE INPUT: true; the input reads as it did. -/
def fnExactChaStreamSpec : ChangeSpec := { name := "fnExactChaStream", fn := fun _ => fun
  | [d1, d2, d3, d4] => { results := [.lit (.bool true)], args := [d1, d2, d3, d4] }
  | _ => none }
def fnExactChaStreamRow : OpenClaim := { program := "ytoflclofcnpjlaa", sum := "b276ddaf88fb9e4d8bfc78f0ff4d7ac364895673009e56d938788dfeeebee860", func := "loop.example/g00950/laws.FnExactChaStream", spec := "fnExactChaStream", apart := false }
def FnExactChaStreamSaid : Prop := fnExactChaStreamRow.holds Try.pinned (OpenSpec.ofChange fnExactChaStreamSpec)

/-- ITS FALSE NEIGHBOUR: 'it returns false'. Refute it at one input. -/
def fnExactChaStreamWrong : ChangeSpec := { name := "fnExactChaStream", fn := fun _ => fun
  | [d1, d2, d3, d4] => { results := [.lit (.bool false)], args := [d1, d2, d3, d4] }
  | _ => none }
def FnExactChaStreamWrongFalsely : Prop := fnExactChaStreamRow.holds Try.pinned (OpenSpec.ofChange fnExactChaStreamWrong)

/-- 'laws.FnExactFileKey': WHATEVER THE INPUT: true; the input reads as it did. -/
def fnExactFileKeySpec : ChangeSpec := { name := "fnExactFileKey", fn := fun _ => fun
  | [d1, d2] => { results := [.lit (.bool true)], args := [d1, d2] }
  | _ => none }
def fnExactFileKeyRow : OpenClaim := { program := "ytoflclofcnpjlaa", sum := "b276ddaf88fb9e4d8bfc78f0ff4d7ac364895673009e56d938788dfeeebee860", func := "loop.example/g00950/laws.FnExactFileKey", spec := "fnExactFileKey", apart := false }
def FnExactFileKeySaid : Prop := fnExactFileKeyRow.holds Try.pinned (OpenSpec.ofChange fnExactFileKeySpec)

/-- ITS FALSE NEIGHBOUR: 'it returns false'. Refute it at one input. -/
def fnExactFileKeyWrong : ChangeSpec := { name := "fnExactFileKey", fn := fun _ => fun
  | [d1, d2] => { results := [.lit (.bool false)], args := [d1, d2] }
  | _ => none }
def FnExactFileKeyWrongFalsely : Prop := fnExactFileKeyRow.holds Try.pinned (OpenSpec.ofChange fnExactFileKeyWrong)

/-- 'laws.FnExactMintToken': WHATEVER THE INPUT: true; the input reads as it did. -/
def fnExactMintTokenSpec : ChangeSpec := { name := "fnExactMintToken", fn := fun _ => fun
  | [d1, d2, d3] => { results := [.lit (.bool true)], args := [d1, d2, d3] }
  | _ => none }
def fnExactMintTokenRow : OpenClaim := { program := "ytoflclofcnpjlaa", sum := "b276ddaf88fb9e4d8bfc78f0ff4d7ac364895673009e56d938788dfeeebee860", func := "loop.example/g00950/laws.FnExactMintToken", spec := "fnExactMintToken", apart := false }
def FnExactMintTokenSaid : Prop := fnExactMintTokenRow.holds Try.pinned (OpenSpec.ofChange fnExactMintTokenSpec)

/-- ITS FALSE NEIGHBOUR: 'it returns false'. Refute it at one input. -/
def fnExactMintTokenWrong : ChangeSpec := { name := "fnExactMintToken", fn := fun _ => fun
  | [d1, d2, d3] => { results := [.lit (.bool false)], args := [d1, d2, d3] }
  | _ => none }
def FnExactMintTokenWrongFalsely : Prop := fnExactMintTokenRow.holds Try.pinned (OpenSpec.ofChange fnExactMintTokenWrong)

/-- 'laws.FnExactWrap': WHATEVER THE INPUT: true; the input reads as it did. -/
def fnExactWrapSpec : ChangeSpec := { name := "fnExactWrap", fn := fun _ => fun
  | [d1, d2, d3] => { results := [.lit (.bool true)], args := [d1, d2, d3] }
  | _ => none }
def fnExactWrapRow : OpenClaim := { program := "ytoflclofcnpjlaa", sum := "b276ddaf88fb9e4d8bfc78f0ff4d7ac364895673009e56d938788dfeeebee860", func := "loop.example/g00950/laws.FnExactWrap", spec := "fnExactWrap", apart := false }
def FnExactWrapSaid : Prop := fnExactWrapRow.holds Try.pinned (OpenSpec.ofChange fnExactWrapSpec)

/-- ITS FALSE NEIGHBOUR: 'it returns false'. Refute it at one input. -/
def fnExactWrapWrong : ChangeSpec := { name := "fnExactWrap", fn := fun _ => fun
  | [d1, d2, d3] => { results := [.lit (.bool false)], args := [d1, d2, d3] }
  | _ => none }
def FnExactWrapWrongFalsely : Prop := fnExactWrapRow.holds Try.pinned (OpenSpec.ofChange fnExactWrapWrong)

/-- 'laws.FnExactSealFile': WHATEVER THE INPUT: true; the input reads as it did. -/
def fnExactSealFileSpec : ChangeSpec := { name := "fnExactSealFile", fn := fun _ => fun
  | [d1, d2, d3] => { results := [.lit (.bool true)], args := [d1, d2, d3] }
  | _ => none }
def fnExactSealFileRow : OpenClaim := { program := "ytoflclofcnpjlaa", sum := "b276ddaf88fb9e4d8bfc78f0ff4d7ac364895673009e56d938788dfeeebee860", func := "loop.example/g00950/laws.FnExactSealFile", spec := "fnExactSealFile", apart := false }
def FnExactSealFileSaid : Prop := fnExactSealFileRow.holds Try.pinned (OpenSpec.ofChange fnExactSealFileSpec)

/-- ITS FALSE NEIGHBOUR: 'it returns false'. Refute it at one input. -/
def fnExactSealFileWrong : ChangeSpec := { name := "fnExactSealFile", fn := fun _ => fun
  | [d1, d2, d3] => { results := [.lit (.bool false)], args := [d1, d2, d3] }
  | _ => none }
def FnExactSealFileWrongFalsely : Prop := fnExactSealFileRow.holds Try.pinned (OpenSpec.ofChange fnExactSealFileWrong)

/-- 'laws.FnExactUnwrap': WHATEVER THE INPUT: true; the input reads as it did. -/
def fnExactUnwrapSpec : ChangeSpec := { name := "fnExactUnwrap", fn := fun _ => fun
  | [d1, d2, d3] => { results := [.lit (.bool true)], args := [d1, d2, d3] }
  | _ => none }
def fnExactUnwrapRow : OpenClaim := { program := "ytoflclofcnpjlaa", sum := "b276ddaf88fb9e4d8bfc78f0ff4d7ac364895673009e56d938788dfeeebee860", func := "loop.example/g00950/laws.FnExactUnwrap", spec := "fnExactUnwrap", apart := false }
def FnExactUnwrapSaid : Prop := fnExactUnwrapRow.holds Try.pinned (OpenSpec.ofChange fnExactUnwrapSpec)

/-- ITS FALSE NEIGHBOUR: 'it returns false'. Refute it at one input. -/
def fnExactUnwrapWrong : ChangeSpec := { name := "fnExactUnwrap", fn := fun _ => fun
  | [d1, d2, d3] => { results := [.lit (.bool false)], args := [d1, d2, d3] }
  | _ => none }
def FnExactUnwrapWrongFalsely : Prop := fnExactUnwrapRow.holds Try.pinned (OpenSpec.ofChange fnExactUnwrapWrong)

/-- 'laws.FnExactOpenFile': WHATEVER THE INPUT: true; the input reads as it did. -/
def fnExactOpenFileSpec : ChangeSpec := { name := "fnExactOpenFile", fn := fun _ => fun
  | [d1, d2, d3] => { results := [.lit (.bool true)], args := [d1, d2, d3] }
  | _ => none }
def fnExactOpenFileRow : OpenClaim := { program := "ytoflclofcnpjlaa", sum := "b276ddaf88fb9e4d8bfc78f0ff4d7ac364895673009e56d938788dfeeebee860", func := "loop.example/g00950/laws.FnExactOpenFile", spec := "fnExactOpenFile", apart := false }
def FnExactOpenFileSaid : Prop := fnExactOpenFileRow.holds Try.pinned (OpenSpec.ofChange fnExactOpenFileSpec)

/-- ITS FALSE NEIGHBOUR: 'it returns false'. Refute it at one input. -/
def fnExactOpenFileWrong : ChangeSpec := { name := "fnExactOpenFile", fn := fun _ => fun
  | [d1, d2, d3] => { results := [.lit (.bool false)], args := [d1, d2, d3] }
  | _ => none }
def FnExactOpenFileWrongFalsely : Prop := fnExactOpenFileRow.holds Try.pinned (OpenSpec.ofChange fnExactOpenFileWrong)

/-- 'laws.FnExactReadToken': WHATEVER THE INPUT: true; the input reads as it did. -/
def fnExactReadTokenSpec : ChangeSpec := { name := "fnExactReadToken", fn := fun _ => fun
  | [d1, d2] => { results := [.lit (.bool true)], args := [d1, d2] }
  | _ => none }
def fnExactReadTokenRow : OpenClaim := { program := "ytoflclofcnpjlaa", sum := "b276ddaf88fb9e4d8bfc78f0ff4d7ac364895673009e56d938788dfeeebee860", func := "loop.example/g00950/laws.FnExactReadToken", spec := "fnExactReadToken", apart := false }
def FnExactReadTokenSaid : Prop := fnExactReadTokenRow.holds Try.pinned (OpenSpec.ofChange fnExactReadTokenSpec)

/-- ITS FALSE NEIGHBOUR: 'it returns false'. Refute it at one input. -/
def fnExactReadTokenWrong : ChangeSpec := { name := "fnExactReadToken", fn := fun _ => fun
  | [d1, d2] => { results := [.lit (.bool false)], args := [d1, d2] }
  | _ => none }
def FnExactReadTokenWrongFalsely : Prop := fnExactReadTokenRow.holds Try.pinned (OpenSpec.ofChange fnExactReadTokenWrong)

/-- 'laws.FnExactScanRows': WHATEVER THE INPUT: true; the input reads as it did. -/
def fnExactScanRowsSpec : ChangeSpec := { name := "fnExactScanRows", fn := fun _ => fun
  | [d] => { results := [.lit (.bool true)], args := [d] }
  | _ => none }
def fnExactScanRowsRow : OpenClaim := { program := "ytoflclofcnpjlaa", sum := "b276ddaf88fb9e4d8bfc78f0ff4d7ac364895673009e56d938788dfeeebee860", func := "loop.example/g00950/laws.FnExactScanRows", spec := "fnExactScanRows", apart := false }
def FnExactScanRowsSaid : Prop := fnExactScanRowsRow.holds Try.pinned (OpenSpec.ofChange fnExactScanRowsSpec)

/-- ITS FALSE NEIGHBOUR: 'it returns false'. Refute it at one input. -/
def fnExactScanRowsWrong : ChangeSpec := { name := "fnExactScanRows", fn := fun _ => fun
  | [d] => { results := [.lit (.bool false)], args := [d] }
  | _ => none }
def FnExactScanRowsWrongFalsely : Prop := fnExactScanRowsRow.holds Try.pinned (OpenSpec.ofChange fnExactScanRowsWrong)

/- THE SECOND FORM. 'bulk': how many values and letters a reading holds, each counted each time it is reached (what is shared counts as often as it is met; a slice's spare places count too). A statement '..UptoSaid' is the law's where the arguments, and the package variables that the reading takes, are together of bulk at most 1048576: NARROWER than '..Said'. Prove '..Said' where nothing that the law and all that it calls make is longer than what came in: it says more and counts as full. Else prove '..UptoSaid'. A law counts once. -/
mutual
def uptoBulk {H : Type} : DataW H → Nat
  | .lit (.string bytes) => bytes.length + 1
  | .lit _ => 1
  | .nil => 1
  | .ptr d => uptoBulk d + 1
  | .slice elems spare => uptoBulkAll elems + uptoBulkAll spare + 1
  | .agg parts => uptoBulkAll parts + 1
  | .iface _ d => uptoBulk d + 1
  | .map entries => uptoBulkEntries entries + 1
  | .held _ => 1
def uptoBulkAll {H : Type} : List (DataW H) → Nat
  | [] => 0
  | d :: r => uptoBulk d + uptoBulkAll r
def uptoBulkEntries {H : Type} : List (Lit × DataW H) → Nat
  | [] => 0
  | x :: r => uptoBulkEntry x + uptoBulkEntries r
def uptoBulkEntry {H : Type} : Lit × DataW H → Nat
  | (.string bytes, d) => bytes.length + uptoBulk d + 1
  | (_, d) => uptoBulk d + 1
 end
def uptoSmall : (H : Type) → List (DataW H) → Bool := fun _ ds => decide (uptoBulkAll ds ≤ 1048576)
def OpenSpec.upto (s : _root_.Go.ChangeSpec) : _root_.Go.OpenSpec := { _root_.Go.OpenSpec.ofChange s with cond := some uptoSmall }

/-- 'laws.FnExactChaBlock', WHERE WHAT IT READS IS OF BULK AT MOST 1048576: true; the input reads as it did. -/
def fnExactChaBlockUptoRow : OpenClaim := { program := "ytoflclofcnpjlaa", sum := "b276ddaf88fb9e4d8bfc78f0ff4d7ac364895673009e56d938788dfeeebee860", func := "loop.example/g00950/laws.FnExactChaBlock", spec := "fnExactChaBlock", apart := false, narrowed := true }
def FnExactChaBlockUptoSaid : Prop := fnExactChaBlockUptoRow.holds Try.pinned (OpenSpec.upto fnExactChaBlockSpec)

/-- 'laws.FnExactShowRow', WHERE WHAT IT READS IS OF BULK AT MOST 1048576: true; the input reads as it did. -/
def fnExactShowRowUptoRow : OpenClaim := { program := "ytoflclofcnpjlaa", sum := "b276ddaf88fb9e4d8bfc78f0ff4d7ac364895673009e56d938788dfeeebee860", func := "loop.example/g00950/laws.FnExactShowRow", spec := "fnExactShowRow", apart := false, narrowed := true }
def FnExactShowRowUptoSaid : Prop := fnExactShowRowUptoRow.holds Try.pinned (OpenSpec.upto fnExactShowRowSpec)

/-- 'laws.FnExactChaStream', WHERE WHAT IT READS IS OF BULK AT MOST 1048576: true; the input reads as it did. -/
def fnExactChaStreamUptoRow : OpenClaim := { program := "ytoflclofcnpjlaa", sum := "b276ddaf88fb9e4d8bfc78f0ff4d7ac364895673009e56d938788dfeeebee860", func := "loop.example/g00950/laws.FnExactChaStream", spec := "fnExactChaStream", apart := false, narrowed := true }
def FnExactChaStreamUptoSaid : Prop := fnExactChaStreamUptoRow.holds Try.pinned (OpenSpec.upto fnExactChaStreamSpec)

/-- 'laws.FnExactFileKey', WHERE WHAT IT READS IS OF BULK AT MOST 1048576: true; the input reads as it did. -/
def fnExactFileKeyUptoRow : OpenClaim := { program := "ytoflclofcnpjlaa", sum := "b276ddaf88fb9e4d8bfc78f0ff4d7ac364895673009e56d938788dfeeebee860", func := "loop.example/g00950/laws.FnExactFileKey", spec := "fnExactFileKey", apart := false, narrowed := true }
def FnExactFileKeyUptoSaid : Prop := fnExactFileKeyUptoRow.holds Try.pinned (OpenSpec.upto fnExactFileKeySpec)

/-- 'laws.FnExactMintToken', WHERE WHAT IT READS IS OF BULK AT MOST 1048576: true; the input reads as it did. -/
def fnExactMintTokenUptoRow : OpenClaim := { program := "ytoflclofcnpjlaa", sum := "b276ddaf88fb9e4d8bfc78f0ff4d7ac364895673009e56d938788dfeeebee860", func := "loop.example/g00950/laws.FnExactMintToken", spec := "fnExactMintToken", apart := false, narrowed := true }
def FnExactMintTokenUptoSaid : Prop := fnExactMintTokenUptoRow.holds Try.pinned (OpenSpec.upto fnExactMintTokenSpec)

/-- 'laws.FnExactWrap', WHERE WHAT IT READS IS OF BULK AT MOST 1048576: true; the input reads as it did. -/
def fnExactWrapUptoRow : OpenClaim := { program := "ytoflclofcnpjlaa", sum := "b276ddaf88fb9e4d8bfc78f0ff4d7ac364895673009e56d938788dfeeebee860", func := "loop.example/g00950/laws.FnExactWrap", spec := "fnExactWrap", apart := false, narrowed := true }
def FnExactWrapUptoSaid : Prop := fnExactWrapUptoRow.holds Try.pinned (OpenSpec.upto fnExactWrapSpec)

/-- 'laws.FnExactSealFile', WHERE WHAT IT READS IS OF BULK AT MOST 1048576: true; the input reads as it did. -/
def fnExactSealFileUptoRow : OpenClaim := { program := "ytoflclofcnpjlaa", sum := "b276ddaf88fb9e4d8bfc78f0ff4d7ac364895673009e56d938788dfeeebee860", func := "loop.example/g00950/laws.FnExactSealFile", spec := "fnExactSealFile", apart := false, narrowed := true }
def FnExactSealFileUptoSaid : Prop := fnExactSealFileUptoRow.holds Try.pinned (OpenSpec.upto fnExactSealFileSpec)

/-- 'laws.FnExactUnwrap', WHERE WHAT IT READS IS OF BULK AT MOST 1048576: true; the input reads as it did. -/
def fnExactUnwrapUptoRow : OpenClaim := { program := "ytoflclofcnpjlaa", sum := "b276ddaf88fb9e4d8bfc78f0ff4d7ac364895673009e56d938788dfeeebee860", func := "loop.example/g00950/laws.FnExactUnwrap", spec := "fnExactUnwrap", apart := false, narrowed := true }
def FnExactUnwrapUptoSaid : Prop := fnExactUnwrapUptoRow.holds Try.pinned (OpenSpec.upto fnExactUnwrapSpec)

/-- 'laws.FnExactOpenFile', WHERE WHAT IT READS IS OF BULK AT MOST 1048576: true; the input reads as it did. -/
def fnExactOpenFileUptoRow : OpenClaim := { program := "ytoflclofcnpjlaa", sum := "b276ddaf88fb9e4d8bfc78f0ff4d7ac364895673009e56d938788dfeeebee860", func := "loop.example/g00950/laws.FnExactOpenFile", spec := "fnExactOpenFile", apart := false, narrowed := true }
def FnExactOpenFileUptoSaid : Prop := fnExactOpenFileUptoRow.holds Try.pinned (OpenSpec.upto fnExactOpenFileSpec)

/-- 'laws.FnExactReadToken', WHERE WHAT IT READS IS OF BULK AT MOST 1048576: true; the input reads as it did. -/
def fnExactReadTokenUptoRow : OpenClaim := { program := "ytoflclofcnpjlaa", sum := "b276ddaf88fb9e4d8bfc78f0ff4d7ac364895673009e56d938788dfeeebee860", func := "loop.example/g00950/laws.FnExactReadToken", spec := "fnExactReadToken", apart := false, narrowed := true }
def FnExactReadTokenUptoSaid : Prop := fnExactReadTokenUptoRow.holds Try.pinned (OpenSpec.upto fnExactReadTokenSpec)

/-- 'laws.FnExactScanRows', WHERE WHAT IT READS IS OF BULK AT MOST 1048576: true; the input reads as it did. -/
def fnExactScanRowsUptoRow : OpenClaim := { program := "ytoflclofcnpjlaa", sum := "b276ddaf88fb9e4d8bfc78f0ff4d7ac364895673009e56d938788dfeeebee860", func := "loop.example/g00950/laws.FnExactScanRows", spec := "fnExactScanRows", apart := false, narrowed := true }
def FnExactScanRowsUptoSaid : Prop := fnExactScanRowsUptoRow.holds Try.pinned (OpenSpec.upto fnExactScanRowsSpec)

end Rows
end Go.Proofs.Ytoflclofcnpjlaa
