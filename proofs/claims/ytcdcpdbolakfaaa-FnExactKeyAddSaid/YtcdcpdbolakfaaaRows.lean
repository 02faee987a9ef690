/-
  No cell of these rows narrows 'for every input' (looked for: loops, veiled, ifaces, maps, wideKeys, modest, calm, conditions, laid).
  DERIVED. THE GIVEN ROWS OF THIS SEAT. 12 by the template 'for every input the law returns true; each argument reads behind the call as it read before'; 0 by the template 'total and deterministic' (their statements: YtcdcpdbolakfaaaTotals.lean).
  GIVEN WITH THE SEED: the statements are not yours to turn. If you find one false, say at which input.
  Laid BY PROGRAM, IN A SANDBOX (cutbox-rows.mjs): the forced cells as the released guide's own fill.sh prints them over the translation 329716e4e5ed9323… (all of the seat's roots in one cut). By AI agents, Wed Nov 11 2026. No macro, syntax, notation, axiom, sorry.
-/
import Derived.Test.YtcdcpdbolakfaaaChecked
import GoSem.Claim
import GoSem.ClaimJoined
import GoSem.ClaimMapViews
import Derived.JoinedTies
import Derived.KernelRfl
namespace Go.Proofs.Ytcdcpdbolakfaaa
/- THE CELL 'sum', in the pinned program and in every row, IS THE sha256 OF THE DUMP (.gsa) THAT YtcdcpdbolakfaaaProg.lean LOADS. Nothing in Lean hashes anything: it is a label: what it is worth is what the hold of that sum in a sandbox is worth. -/
noncomputable def Try.pinned : Pinned := { name := "ytcdcpdbolakfaaa", sum := "329716e4e5ed9323868b1e8e0d143150cf210e05a5c6a87d6705e39d5be98f23", checked := Try.checked }
namespace Rows
def none {H : Type} : Left H := { results := [], args := [] }

/-- 'laws.FnExactBytes': WHATEVER THE INPUT: true; the input reads as it did. -/
def fnExactBytesSpec : ChangeSpec := { name := "fnExactBytes", fn := fun _ => fun
  | [d] => { results := [.lit (.bool true)], args := [d] }
  | _ => none }
def fnExactBytesRow : OpenClaim := { program := "ytcdcpdbolakfaaa", sum := "329716e4e5ed9323868b1e8e0d143150cf210e05a5c6a87d6705e39d5be98f23", func := "loop.example/g00950/laws.FnExactBytes", spec := "fnExactBytes", apart := false }
def FnExactBytesSaid : Prop := fnExactBytesRow.holds Try.pinned (OpenSpec.ofChange fnExactBytesSpec)

/-- ITS FALSE NEIGHBOUR: 'it returns false'. Refute it at one input. -/
def fnExactBytesWrong : ChangeSpec := { name := "fnExactBytes", fn := fun _ => fun
  | [d] => { results := [.lit (.bool false)], args := [d] }
  | _ => none }
def FnExactBytesWrongFalsely : Prop := fnExactBytesRow.holds Try.pinned (OpenSpec.ofChange fnExactBytesWrong)

/-- 'laws.FnExactKeyOk': WHATEVER THE INPUT: true; the input reads as it did. -/
def fnExactKeyOkSpec : ChangeSpec := { name := "fnExactKeyOk", fn := fun _ => fun
  | [d] => { results := [.lit (.bool true)], args := [d] }
  | _ => none }
def fnExactKeyOkRow : OpenClaim := { program := "ytcdcpdbolakfaaa", sum := "329716e4e5ed9323868b1e8e0d143150cf210e05a5c6a87d6705e39d5be98f23", func := "loop.example/g00950/laws.FnExactKeyOk", spec := "fnExactKeyOk", apart := false }
def FnExactKeyOkSaid : Prop := fnExactKeyOkRow.holds Try.pinned (OpenSpec.ofChange fnExactKeyOkSpec)

/-- ITS FALSE NEIGHBOUR: 'it returns false'. Refute it at one input. -/
def fnExactKeyOkWrong : ChangeSpec := { name := "fnExactKeyOk", fn := fun _ => fun
  | [d] => { results := [.lit (.bool false)], args := [d] }
  | _ => none }
def FnExactKeyOkWrongFalsely : Prop := fnExactKeyOkRow.holds Try.pinned (OpenSpec.ofChange fnExactKeyOkWrong)

/-- 'laws.FnExactIterOk': WHATEVER THE INPUT: true; the input reads as it did. -/
def fnExactIterOkSpec : ChangeSpec := { name := "fnExactIterOk", fn := fun _ => fun
  | [d] => { results := [.lit (.bool true)], args := [d] }
  | _ => none }
def fnExactIterOkRow : OpenClaim := { program := "ytcdcpdbolakfaaa", sum := "329716e4e5ed9323868b1e8e0d143150cf210e05a5c6a87d6705e39d5be98f23", func := "loop.example/g00950/laws.FnExactIterOk", spec := "fnExactIterOk", apart := false }
def FnExactIterOkSaid : Prop := fnExactIterOkRow.holds Try.pinned (OpenSpec.ofChange fnExactIterOkSpec)

/-- ITS FALSE NEIGHBOUR: 'it returns false'. Refute it at one input. -/
def fnExactIterOkWrong : ChangeSpec := { name := "fnExactIterOk", fn := fun _ => fun
  | [d] => { results := [.lit (.bool false)], args := [d] }
  | _ => none }
def FnExactIterOkWrongFalsely : Prop := fnExactIterOkRow.holds Try.pinned (OpenSpec.ofChange fnExactIterOkWrong)

/-- 'laws.FnExactKeyOf': WHATEVER THE INPUT: true; the input reads as it did. -/
def fnExactKeyOfSpec : ChangeSpec := { name := "fnExactKeyOf", fn := fun _ => fun
  | [d1, d2] => { results := [.lit (.bool true)], args := [d1, d2] }
  | _ => none }
def fnExactKeyOfRow : OpenClaim := { program := "ytcdcpdbolakfaaa", sum := "329716e4e5ed9323868b1e8e0d143150cf210e05a5c6a87d6705e39d5be98f23", func := "loop.example/g00950/laws.FnExactKeyOf", spec := "fnExactKeyOf", unfollowed := true, recurses := true, apart := false }
def FnExactKeyOfSaid : Prop := fnExactKeyOfRow.holds Try.pinned (OpenSpec.ofChange fnExactKeyOfSpec)

/-- ITS FALSE NEIGHBOUR: 'it returns false'. Refute it at one input. -/
def fnExactKeyOfWrong : ChangeSpec := { name := "fnExactKeyOf", fn := fun _ => fun
  | [d1, d2] => { results := [.lit (.bool false)], args := [d1, d2] }
  | _ => none }
def FnExactKeyOfWrongFalsely : Prop := fnExactKeyOfRow.holds Try.pinned (OpenSpec.ofChange fnExactKeyOfWrong)

/-- 'laws.FnExactDevOk': WHATEVER THE INPUT: true; the input reads as it did. -/
def fnExactDevOkSpec : ChangeSpec := { name := "fnExactDevOk", fn := fun _ => fun
  | [d] => { results := [.lit (.bool true)], args := [d] }
  | _ => none }
def fnExactDevOkRow : OpenClaim := { program := "ytcdcpdbolakfaaa", sum := "329716e4e5ed9323868b1e8e0d143150cf210e05a5c6a87d6705e39d5be98f23", func := "loop.example/g00950/laws.FnExactDevOk", spec := "fnExactDevOk", apart := false }
def FnExactDevOkSaid : Prop := fnExactDevOkRow.holds Try.pinned (OpenSpec.ofChange fnExactDevOkSpec)

/-- ITS FALSE NEIGHBOUR: 'it returns false'. Refute it at one input. -/
def fnExactDevOkWrong : ChangeSpec := { name := "fnExactDevOk", fn := fun _ => fun
  | [d] => { results := [.lit (.bool false)], args := [d] }
  | _ => none }
def FnExactDevOkWrongFalsely : Prop := fnExactDevOkRow.holds Try.pinned (OpenSpec.ofChange fnExactDevOkWrong)

/-- 'laws.FnExactIterNew': WHATEVER THE INPUT: true; the input reads as it did. -/
def fnExactIterNewSpec : ChangeSpec := { name := "fnExactIterNew", fn := fun _ => fun
  | [d1, d2, d3] => { results := [.lit (.bool true)], args := [d1, d2, d3] }
  | _ => none }
def fnExactIterNewRow : OpenClaim := { program := "ytcdcpdbolakfaaa", sum := "329716e4e5ed9323868b1e8e0d143150cf210e05a5c6a87d6705e39d5be98f23", func := "loop.example/g00950/laws.FnExactIterNew", spec := "fnExactIterNew", apart := false }
def FnExactIterNewSaid : Prop := fnExactIterNewRow.holds Try.pinned (OpenSpec.ofChange fnExactIterNewSpec)

/-- ITS FALSE NEIGHBOUR: 'it returns false'. Refute it at one input. -/
def fnExactIterNewWrong : ChangeSpec := { name := "fnExactIterNew", fn := fun _ => fun
  | [d1, d2, d3] => { results := [.lit (.bool false)], args := [d1, d2, d3] }
  | _ => none }
def FnExactIterNewWrongFalsely : Prop := fnExactIterNewRow.holds Try.pinned (OpenSpec.ofChange fnExactIterNewWrong)

/-- 'laws.FnExactDevRead': WHATEVER THE INPUT: true; the input reads as it did. -/
def fnExactDevReadSpec : ChangeSpec := { name := "fnExactDevRead", fn := fun _ => fun
  | [d1, d2] => { results := [.lit (.bool true)], args := [d1, d2] }
  | _ => none }
def fnExactDevReadRow : OpenClaim := { program := "ytcdcpdbolakfaaa", sum := "329716e4e5ed9323868b1e8e0d143150cf210e05a5c6a87d6705e39d5be98f23", func := "loop.example/g00950/laws.FnExactDevRead", spec := "fnExactDevRead", apart := false }
def FnExactDevReadSaid : Prop := fnExactDevReadRow.holds Try.pinned (OpenSpec.ofChange fnExactDevReadSpec)

/-- ITS FALSE NEIGHBOUR: 'it returns false'. Refute it at one input. -/
def fnExactDevReadWrong : ChangeSpec := { name := "fnExactDevRead", fn := fun _ => fun
  | [d1, d2] => { results := [.lit (.bool false)], args := [d1, d2] }
  | _ => none }
def FnExactDevReadWrongFalsely : Prop := fnExactDevReadRow.holds Try.pinned (OpenSpec.ofChange fnExactDevReadWrong)

/-- 'laws.FnExactKeyWipe': WHATEVER THE INPUT: true; the input reads as it did. -/
def fnExactKeyWipeSpec : ChangeSpec := { name := "fnExactKeyWipe", fn := fun _ => fun
  | [d1, d2] => { results := [.lit (.bool true)], args := [d1, d2] }
  | _ => none }
def fnExactKeyWipeRow : OpenClaim := { program := "ytcdcpdbolakfaaa", sum := "329716e4e5ed9323868b1e8e0d143150cf210e05a5c6a87d6705e39d5be98f23", func := "loop.example/g00950/laws.FnExactKeyWipe", spec := "fnExactKeyWipe", unfollowed := true, recurses := true, apart := false }
def FnExactKeyWipeSaid : Prop := fnExactKeyWipeRow.holds Try.pinned (OpenSpec.ofChange fnExactKeyWipeSpec)

/-- ITS FALSE NEIGHBOUR: 'it returns false'. Refute it at one input. -/
def fnExactKeyWipeWrong : ChangeSpec := { name := "fnExactKeyWipe", fn := fun _ => fun
  | [d1, d2] => { results := [.lit (.bool false)], args := [d1, d2] }
  | _ => none }
def FnExactKeyWipeWrongFalsely : Prop := fnExactKeyWipeRow.holds Try.pinned (OpenSpec.ofChange fnExactKeyWipeWrong)

/-- 'laws.FnExactDevPut': WHATEVER THE INPUT: true; the input reads as it did. -/
def fnExactDevPutSpec : ChangeSpec := { name := "fnExactDevPut", fn := fun _ => fun
  | [d1, d2, d3] => { results := [.lit (.bool true)], args := [d1, d2, d3] }
  | _ => none }
def fnExactDevPutRow : OpenClaim := { program := "ytcdcpdbolakfaaa", sum := "329716e4e5ed9323868b1e8e0d143150cf210e05a5c6a87d6705e39d5be98f23", func := "loop.example/g00950/laws.FnExactDevPut", spec := "fnExactDevPut", apart := false }
def FnExactDevPutSaid : Prop := fnExactDevPutRow.holds Try.pinned (OpenSpec.ofChange fnExactDevPutSpec)

/-- ITS FALSE NEIGHBOUR: 'it returns false'. Refute it at one input. -/
def fnExactDevPutWrong : ChangeSpec := { name := "fnExactDevPut", fn := fun _ => fun
  | [d1, d2, d3] => { results := [.lit (.bool false)], args := [d1, d2, d3] }
  | _ => none }
def FnExactDevPutWrongFalsely : Prop := fnExactDevPutRow.holds Try.pinned (OpenSpec.ofChange fnExactDevPutWrong)

/-- 'laws.FnExactDevFall': WHATEVER THE INPUT: true; the input reads as it did. -/
def fnExactDevFallSpec : ChangeSpec := { name := "fnExactDevFall", fn := fun _ => fun
  | [d1, d2] => { results := [.lit (.bool true)], args := [d1, d2] }
  | _ => none }
def fnExactDevFallRow : OpenClaim := { program := "ytcdcpdbolakfaaa", sum := "329716e4e5ed9323868b1e8e0d143150cf210e05a5c6a87d6705e39d5be98f23", func := "loop.example/g00950/laws.FnExactDevFall", spec := "fnExactDevFall", apart := false }
def FnExactDevFallSaid : Prop := fnExactDevFallRow.holds Try.pinned (OpenSpec.ofChange fnExactDevFallSpec)

/-- ITS FALSE NEIGHBOUR: 'it returns false'. Refute it at one input. -/
def fnExactDevFallWrong : ChangeSpec := { name := "fnExactDevFall", fn := fun _ => fun
  | [d1, d2] => { results := [.lit (.bool false)], args := [d1, d2] }
  | _ => none }
def FnExactDevFallWrongFalsely : Prop := fnExactDevFallRow.holds Try.pinned (OpenSpec.ofChange fnExactDevFallWrong)

/-- 'laws.FnExactDevFlush': WHATEVER THE INPUT: true; the input reads as it did. -/
def fnExactDevFlushSpec : ChangeSpec := { name := "fnExactDevFlush", fn := fun _ => fun
  | [d] => { results := [.lit (.bool true)], args := [d] }
  | _ => none }
def fnExactDevFlushRow : OpenClaim := { program := "ytcdcpdbolakfaaa", sum := "329716e4e5ed9323868b1e8e0d143150cf210e05a5c6a87d6705e39d5be98f23", func := "loop.example/g00950/laws.FnExactDevFlush", spec := "fnExactDevFlush", apart := false }
def FnExactDevFlushSaid : Prop := fnExactDevFlushRow.holds Try.pinned (OpenSpec.ofChange fnExactDevFlushSpec)

/-- ITS FALSE NEIGHBOUR: 'it returns false'. Refute it at one input. -/
def fnExactDevFlushWrong : ChangeSpec := { name := "fnExactDevFlush", fn := fun _ => fun
  | [d] => { results := [.lit (.bool false)], args := [d] }
  | _ => none }
def FnExactDevFlushWrongFalsely : Prop := fnExactDevFlushRow.holds Try.pinned (OpenSpec.ofChange fnExactDevFlushWrong)

/-- 'laws.FnExactKeyAdd': WHATEVER THE INPUT: true; the input reads as it did. -/
def fnExactKeyAddSpec : ChangeSpec := { name := "fnExactKeyAdd", fn := fun _ => fun
  | [d1, d2, d3] => { results := [.lit (.bool true)], args := [d1, d2, d3] }
  | _ => none }
def fnExactKeyAddRow : OpenClaim := { program := "ytcdcpdbolakfaaa", sum := "329716e4e5ed9323868b1e8e0d143150cf210e05a5c6a87d6705e39d5be98f23", func := "loop.example/g00950/laws.FnExactKeyAdd", spec := "fnExactKeyAdd", inPlace := ["slices.overlaps[loop.example/g00950/impl.KeySlot]"], unfollowed := true, recurses := true, apart := false }
def FnExactKeyAddSaid : Prop := fnExactKeyAddRow.holds Try.pinned (OpenSpec.ofChange fnExactKeyAddSpec)

/-- ITS FALSE NEIGHBOUR: 'it returns false'. Refute it at one input. -/
def fnExactKeyAddWrong : ChangeSpec := { name := "fnExactKeyAdd", fn := fun _ => fun
  | [d1, d2, d3] => { results := [.lit (.bool false)], args := [d1, d2, d3] }
  | _ => none }
def FnExactKeyAddWrongFalsely : Prop := fnExactKeyAddRow.holds Try.pinned (OpenSpec.ofChange fnExactKeyAddWrong)

/- THE SECOND FORM. 'bulk': how many values and letters a reading holds, each counted each time it is reached (what is shared counts as often as it is met; a slice's spare places count too). A statement '..UptoSaid' is the law's where the arguments, and the package variables that the reading takes, are together of bulk at most 1048576: NARROWER than '..Said'. Prove '..Said' where nothing that the law and all that it calls make is longer than what came in: it says more and counts as full. Else prove '..UptoSaid'. A law counts once. -/
mutual
def uptoBulk {H : Type} : DataW H → Nat
  | .lit (.string bytes) => bytes.length + 1
  | .lit _ => 1
  | .nil => 1
  | .ptr d => uptoBulk d + 1
  | .slice elems spare => uptoBulkAll elems + uptoBulkAll spare + 1
  | .agg parts => uptoBulkAll parts + 1
  | .iface _ d => uptoBulk d + 1
  | .map entries => uptoBulkEntries entries + 1
  | .held _ => 1
def uptoBulkAll {H : Type} : List (DataW H) → Nat
  | [] => 0
  | d :: r => uptoBulk d + uptoBulkAll r
def uptoBulkEntries {H : Type} : List (Lit × DataW H) → Nat
  | [] => 0
  | x :: r => uptoBulkEntry x + uptoBulkEntries r
def uptoBulkEntry {H : Type} : Lit × DataW H → Nat
  | (.string bytes, d) => bytes.length + uptoBulk d + 1
  | (_, d) => uptoBulk d + 1
 end
def uptoSmall : (H : Type) → List (DataW H) → Bool := fun _ ds => decide (uptoBulkAll ds ≤ 1048576)
def OpenSpec.upto (s : _root_.Go.ChangeSpec) : _root_.Go.OpenSpec := { _root_.Go.OpenSpec.ofChange s with cond := some uptoSmall }

/-- 'laws.FnExactBytes', WHERE WHAT IT READS IS OF BULK AT MOST 1048576: true; the input reads as it did. -/
def fnExactBytesUptoRow : OpenClaim := { program := "ytcdcpdbolakfaaa", sum := "329716e4e5ed9323868b1e8e0d143150cf210e05a5c6a87d6705e39d5be98f23", func := "loop.example/g00950/laws.FnExactBytes", spec := "fnExactBytes", apart := false, narrowed := true }
def FnExactBytesUptoSaid : Prop := fnExactBytesUptoRow.holds Try.pinned (OpenSpec.upto fnExactBytesSpec)

/-- 'laws.FnExactKeyOk', WHERE WHAT IT READS IS OF BULK AT MOST 1048576: true; the input reads as it did. -/
def fnExactKeyOkUptoRow : OpenClaim := { program := "ytcdcpdbolakfaaa", sum := "329716e4e5ed9323868b1e8e0d143150cf210e05a5c6a87d6705e39d5be98f23", func := "loop.example/g00950/laws.FnExactKeyOk", spec := "fnExactKeyOk", apart := false, narrowed := true }
def FnExactKeyOkUptoSaid : Prop := fnExactKeyOkUptoRow.holds Try.pinned (OpenSpec.upto fnExactKeyOkSpec)

/-- 'laws.FnExactIterOk', WHERE WHAT IT READS IS OF BULK AT MOST 1048576: true; the input reads as it did. -/
def fnExactIterOkUptoRow : OpenClaim := { program := "ytcdcpdbolakfaaa", sum := "329716e4e5ed9323868b1e8e0d143150cf210e05a5c6a87d6705e39d5be98f23", func := "loop.example/g00950/laws.FnExactIterOk", spec := "fnExactIterOk", apart := false, narrowed := true }
def FnExactIterOkUptoSaid : Prop := fnExactIterOkUptoRow.holds Try.pinned (OpenSpec.upto fnExactIterOkSpec)

/-- 'laws.FnExactKeyOf', WHERE WHAT IT READS IS OF BULK AT MOST 1048576: true; the input reads as it did. -/
def fnExactKeyOfUptoRow : OpenClaim := { program := "ytcdcpdbolakfaaa", sum := "329716e4e5ed9323868b1e8e0d143150cf210e05a5c6a87d6705e39d5be98f23", func := "loop.example/g00950/laws.FnExactKeyOf", spec := "fnExactKeyOf", unfollowed := true, recurses := true, apart := false, narrowed := true }
def FnExactKeyOfUptoSaid : Prop := fnExactKeyOfUptoRow.holds Try.pinned (OpenSpec.upto fnExactKeyOfSpec)

/-- 'laws.FnExactDevOk', WHERE WHAT IT READS IS OF BULK AT MOST 1048576: true; the input reads as it did. -/
def fnExactDevOkUptoRow : OpenClaim := { program := "ytcdcpdbolakfaaa", sum := "329716e4e5ed9323868b1e8e0d143150cf210e05a5c6a87d6705e39d5be98f23", func := "loop.example/g00950/laws.FnExactDevOk", spec := "fnExactDevOk", apart := false, narrowed := true }
def FnExactDevOkUptoSaid : Prop := fnExactDevOkUptoRow.holds Try.pinned (OpenSpec.upto fnExactDevOkSpec)

/-- 'laws.FnExactIterNew', WHERE WHAT IT READS IS OF BULK AT MOST 1048576: true; the input reads as it did. -/
def fnExactIterNewUptoRow : OpenClaim := { program := "ytcdcpdbolakfaaa", sum := "329716e4e5ed9323868b1e8e0d143150cf210e05a5c6a87d6705e39d5be98f23", func := "loop.example/g00950/laws.FnExactIterNew", spec := "fnExactIterNew", apart := false, narrowed := true }
def FnExactIterNewUptoSaid : Prop := fnExactIterNewUptoRow.holds Try.pinned (OpenSpec.upto fnExactIterNewSpec)

/-- 'laws.FnExactDevRead', WHERE WHAT IT READS IS OF BULK AT MOST 1048576: true; the input reads as it did. -/
def fnExactDevReadUptoRow : OpenClaim := { program := "ytcdcpdbolakfaaa", sum := "329716e4e5ed9323868b1e8e0d143150cf210e05a5c6a87d6705e39d5be98f23", func := "loop.example/g00950/laws.FnExactDevRead", spec := "fnExactDevRead", apart := false, narrowed := true }
def FnExactDevReadUptoSaid : Prop := fnExactDevReadUptoRow.holds Try.pinned (OpenSpec.upto fnExactDevReadSpec)

/-- 'laws.FnExactKeyWipe', WHERE WHAT IT READS IS OF BULK AT MOST 1048576: true; the input reads as it did. -/
def fnExactKeyWipeUptoRow : OpenClaim := { program := "ytcdcpdbolakfaaa", sum := "329716e4e5ed9323868b1e8e0d143150cf210e05a5c6a87d6705e39d5be98f23", func := "loop.example/g00950/laws.FnExactKeyWipe", spec := "fnExactKeyWipe", unfollowed := true, recurses := true, apart := false, narrowed := true }
def FnExactKeyWipeUptoSaid : Prop := fnExactKeyWipeUptoRow.holds Try.pinned (OpenSpec.upto fnExactKeyWipeSpec)

/-- 'laws.FnExactDevPut', WHERE WHAT IT READS IS OF BULK AT MOST 1048576: true; the input reads as it did. -/
def fnExactDevPutUptoRow : OpenClaim := { program := "ytcdcpdbolakfaaa", sum := "329716e4e5ed9323868b1e8e0d143150cf210e05a5c6a87d6705e39d5be98f23", func := "loop.example/g00950/laws.FnExactDevPut", spec := "fnExactDevPut", apart := false, narrowed := true }
def FnExactDevPutUptoSaid : Prop := fnExactDevPutUptoRow.holds Try.pinned (OpenSpec.upto fnExactDevPutSpec)

/-- 'laws.FnExactDevFall', WHERE WHAT IT READS IS OF BULK AT MOST 1048576: true; the input reads as it did. -/
def fnExactDevFallUptoRow : OpenClaim := { program := "ytcdcpdbolakfaaa", sum := "329716e4e5ed9323868b1e8e0d143150cf210e05a5c6a87d6705e39d5be98f23", func := "loop.example/g00950/laws.FnExactDevFall", spec := "fnExactDevFall", apart := false, narrowed := true }
def FnExactDevFallUptoSaid : Prop := fnExactDevFallUptoRow.holds Try.pinned (OpenSpec.upto fnExactDevFallSpec)

/-- 'laws.FnExactDevFlush', WHERE WHAT IT READS IS OF BULK AT MOST 1048576: true; the input reads as it did. -/
def fnExactDevFlushUptoRow : OpenClaim := { program := "ytcdcpdbolakfaaa", sum := "329716e4e5ed9323868b1e8e0d143150cf210e05a5c6a87d6705e39d5be98f23", func := "loop.example/g00950/laws.FnExactDevFlush", spec := "fnExactDevFlush", apart := false, narrowed := true }
def FnExactDevFlushUptoSaid : Prop := fnExactDevFlushUptoRow.holds Try.pinned (OpenSpec.upto fnExactDevFlushSpec)

/-- 'laws.FnExactKeyAdd', WHERE WHAT IT READS IS OF BULK AT MOST 1048576: true; the input reads as it did. -/
def fnExactKeyAddUptoRow : OpenClaim := { program := "ytcdcpdbolakfaaa", sum := "329716e4e5ed9323868b1e8e0d143150cf210e05a5c6a87d6705e39d5be98f23", func := "loop.example/g00950/laws.FnExactKeyAdd", spec := "fnExactKeyAdd", inPlace := ["slices.overlaps[loop.example/g00950/impl.KeySlot]"], unfollowed := true, recurses := true, apart := false, narrowed := true }
def FnExactKeyAddUptoSaid : Prop := fnExactKeyAddUptoRow.holds Try.pinned (OpenSpec.upto fnExactKeyAddSpec)

end Rows
end Go.Proofs.Ytcdcpdbolakfaaa
