/-
  No cell of these rows narrows 'for every input' (looked for: loops, veiled, ifaces, maps, wideKeys, modest, calm, conditions, laid).
  DERIVED. THE GIVEN ROWS OF THIS SEAT. 14 by the template 'for every input the law returns true; each argument reads behind the call as it read before'; 0 by the template 'total and deterministic' (their statements: YtknjnlkamhbmgaaTotals.lean).
  GIVEN WITH THE SEED: the statements are not yours to turn. If you find one false, say at which input.
  Laid BY PROGRAM, IN A SANDBOX (cutbox-rows.mjs): the forced cells as the released guide's own fill.sh prints them over the translation 0cdc1ed405c3e3f5… (all of the seat's roots in one cut). By AI agents, Wed Nov 11 2026. No macro, syntax, notation, axiom, sorry.
-/
import Derived.Test.YtknjnlkamhbmgaaChecked
import GoSem.Claim
import GoSem.ClaimJoined
import GoSem.ClaimMapViews
import Derived.JoinedTies
import Derived.KernelRfl
namespace Go.Proofs.Ytknjnlkamhbmgaa
/- THE CELL 'sum', in the pinned program and in every row, IS THE sha256 OF THE DUMP (.gsa) THAT YtknjnlkamhbmgaaProg.lean LOADS. Nothing in Lean hashes anything: it is a label: what it is worth is what the hold of that sum in a sandbox is worth. -/
noncomputable def Try.pinned : Pinned := { name := "ytknjnlkamhbmgaa", sum := "0cdc1ed405c3e3f56a1310c6da68b343d7660148b742e4866ca68a57d73a1fb8", checked := Try.checked }
namespace Rows
def none {H : Type} : Left H := { results := [], args := [] }

/-- 'laws.FnExactBoardValue': WHATEVER THE INPUT: true; the input reads as it did. -/
def fnExactBoardValueSpec : ChangeSpec := { name := "fnExactBoardValue", fn := fun _ => fun
  | [d] => { results := [.lit (.bool true)], args := [d] }
  | _ => none }
def fnExactBoardValueRow : OpenClaim := { program := "ytknjnlkamhbmgaa", sum := "0cdc1ed405c3e3f56a1310c6da68b343d7660148b742e4866ca68a57d73a1fb8", func := "loop.example/countingboards/laws.FnExactBoardValue", spec := "fnExactBoardValue", apart := false }
def FnExactBoardValueSaid : Prop := fnExactBoardValueRow.holds Try.pinned (OpenSpec.ofChange fnExactBoardValueSpec)

/-- ITS FALSE NEIGHBOUR: 'it returns false'. Refute it at one input. -/
def fnExactBoardValueWrong : ChangeSpec := { name := "fnExactBoardValue", fn := fun _ => fun
  | [d] => { results := [.lit (.bool false)], args := [d] }
  | _ => none }
def FnExactBoardValueWrongFalsely : Prop := fnExactBoardValueRow.holds Try.pinned (OpenSpec.ofChange fnExactBoardValueWrong)

/-- 'laws.FnBoardValue': WHATEVER THE INPUT: true; the input reads as it did. -/
def fnBoardValueSpec : ChangeSpec := { name := "fnBoardValue", fn := fun _ => fun
  | [d] => { results := [.lit (.bool true)], args := [d] }
  | _ => none }
def fnBoardValueRow : OpenClaim := { program := "ytknjnlkamhbmgaa", sum := "0cdc1ed405c3e3f56a1310c6da68b343d7660148b742e4866ca68a57d73a1fb8", func := "loop.example/countingboards/laws.FnBoardValue", spec := "fnBoardValue", apart := false }
def FnBoardValueSaid : Prop := fnBoardValueRow.holds Try.pinned (OpenSpec.ofChange fnBoardValueSpec)

/-- ITS FALSE NEIGHBOUR: 'it returns false'. Refute it at one input. -/
def fnBoardValueWrong : ChangeSpec := { name := "fnBoardValue", fn := fun _ => fun
  | [d] => { results := [.lit (.bool false)], args := [d] }
  | _ => none }
def FnBoardValueWrongFalsely : Prop := fnBoardValueRow.holds Try.pinned (OpenSpec.ofChange fnBoardValueWrong)

/-- 'laws.FnExactBoardRaises': WHATEVER THE INPUT: true; the input reads as it did. -/
def fnExactBoardRaisesSpec : ChangeSpec := { name := "fnExactBoardRaises", fn := fun _ => fun
  | [d] => { results := [.lit (.bool true)], args := [d] }
  | _ => none }
def fnExactBoardRaisesRow : OpenClaim := { program := "ytknjnlkamhbmgaa", sum := "0cdc1ed405c3e3f56a1310c6da68b343d7660148b742e4866ca68a57d73a1fb8", func := "loop.example/countingboards/laws.FnExactBoardRaises", spec := "fnExactBoardRaises", apart := false }
def FnExactBoardRaisesSaid : Prop := fnExactBoardRaisesRow.holds Try.pinned (OpenSpec.ofChange fnExactBoardRaisesSpec)

/-- ITS FALSE NEIGHBOUR: 'it returns false'. Refute it at one input. -/
def fnExactBoardRaisesWrong : ChangeSpec := { name := "fnExactBoardRaises", fn := fun _ => fun
  | [d] => { results := [.lit (.bool false)], args := [d] }
  | _ => none }
def FnExactBoardRaisesWrongFalsely : Prop := fnExactBoardRaisesRow.holds Try.pinned (OpenSpec.ofChange fnExactBoardRaisesWrong)

/-- 'laws.FnExactBoardReduce': WHATEVER THE INPUT: true; the input reads as it did. -/
def fnExactBoardReduceSpec : ChangeSpec := { name := "fnExactBoardReduce", fn := fun _ => fun
  | [d] => { results := [.lit (.bool true)], args := [d] }
  | _ => none }
def fnExactBoardReduceRow : OpenClaim := { program := "ytknjnlkamhbmgaa", sum := "0cdc1ed405c3e3f56a1310c6da68b343d7660148b742e4866ca68a57d73a1fb8", func := "loop.example/countingboards/laws.FnExactBoardReduce", spec := "fnExactBoardReduce", apart := false }
def FnExactBoardReduceSaid : Prop := fnExactBoardReduceRow.holds Try.pinned (OpenSpec.ofChange fnExactBoardReduceSpec)

/-- ITS FALSE NEIGHBOUR: 'it returns false'. Refute it at one input. -/
def fnExactBoardReduceWrong : ChangeSpec := { name := "fnExactBoardReduce", fn := fun _ => fun
  | [d] => { results := [.lit (.bool false)], args := [d] }
  | _ => none }
def FnExactBoardReduceWrongFalsely : Prop := fnExactBoardReduceRow.holds Try.pinned (OpenSpec.ofChange fnExactBoardReduceWrong)

/-- 'laws.FnExactBoardTake': WHATEVER THE INPUT: true; the input reads as it did. -/
def fnExactBoardTakeSpec : ChangeSpec := { name := "fnExactBoardTake", fn := fun _ => fun
  | [d1, d2] => { results := [.lit (.bool true)], args := [d1, d2] }
  | _ => none }
def fnExactBoardTakeRow : OpenClaim := { program := "ytknjnlkamhbmgaa", sum := "0cdc1ed405c3e3f56a1310c6da68b343d7660148b742e4866ca68a57d73a1fb8", func := "loop.example/countingboards/laws.FnExactBoardTake", spec := "fnExactBoardTake", apart := false }
def FnExactBoardTakeSaid : Prop := fnExactBoardTakeRow.holds Try.pinned (OpenSpec.ofChange fnExactBoardTakeSpec)

/-- ITS FALSE NEIGHBOUR: 'it returns false'. Refute it at one input. -/
def fnExactBoardTakeWrong : ChangeSpec := { name := "fnExactBoardTake", fn := fun _ => fun
  | [d1, d2] => { results := [.lit (.bool false)], args := [d1, d2] }
  | _ => none }
def FnExactBoardTakeWrongFalsely : Prop := fnExactBoardTakeRow.holds Try.pinned (OpenSpec.ofChange fnExactBoardTakeWrong)

/-- 'laws.FnBoardOf': WHATEVER THE INPUT: true; the input reads as it did. -/
def fnBoardOfSpec : ChangeSpec := { name := "fnBoardOf", fn := fun _ => fun
  | [d] => { results := [.lit (.bool true)], args := [d] }
  | _ => none }
def fnBoardOfRow : OpenClaim := { program := "ytknjnlkamhbmgaa", sum := "0cdc1ed405c3e3f56a1310c6da68b343d7660148b742e4866ca68a57d73a1fb8", func := "loop.example/countingboards/laws.FnBoardOf", spec := "fnBoardOf", apart := false }
def FnBoardOfSaid : Prop := fnBoardOfRow.holds Try.pinned (OpenSpec.ofChange fnBoardOfSpec)

/-- ITS FALSE NEIGHBOUR: 'it returns false'. Refute it at one input. -/
def fnBoardOfWrong : ChangeSpec := { name := "fnBoardOf", fn := fun _ => fun
  | [d] => { results := [.lit (.bool false)], args := [d] }
  | _ => none }
def FnBoardOfWrongFalsely : Prop := fnBoardOfRow.holds Try.pinned (OpenSpec.ofChange fnBoardOfWrong)

/-- 'laws.FnBoardLower': WHATEVER THE INPUT: true; the input reads as it did. -/
def fnBoardLowerSpec : ChangeSpec := { name := "fnBoardLower", fn := fun _ => fun
  | [d] => { results := [.lit (.bool true)], args := [d] }
  | _ => none }
def fnBoardLowerRow : OpenClaim := { program := "ytknjnlkamhbmgaa", sum := "0cdc1ed405c3e3f56a1310c6da68b343d7660148b742e4866ca68a57d73a1fb8", func := "loop.example/countingboards/laws.FnBoardLower", spec := "fnBoardLower", apart := false }
def FnBoardLowerSaid : Prop := fnBoardLowerRow.holds Try.pinned (OpenSpec.ofChange fnBoardLowerSpec)

/-- ITS FALSE NEIGHBOUR: 'it returns false'. Refute it at one input. -/
def fnBoardLowerWrong : ChangeSpec := { name := "fnBoardLower", fn := fun _ => fun
  | [d] => { results := [.lit (.bool false)], args := [d] }
  | _ => none }
def FnBoardLowerWrongFalsely : Prop := fnBoardLowerRow.holds Try.pinned (OpenSpec.ofChange fnBoardLowerWrong)

/-- 'laws.FnBoardDouble': WHATEVER THE INPUT: true; the input reads as it did. -/
def fnBoardDoubleSpec : ChangeSpec := { name := "fnBoardDouble", fn := fun _ => fun
  | [d] => { results := [.lit (.bool true)], args := [d] }
  | _ => none }
def fnBoardDoubleRow : OpenClaim := { program := "ytknjnlkamhbmgaa", sum := "0cdc1ed405c3e3f56a1310c6da68b343d7660148b742e4866ca68a57d73a1fb8", func := "loop.example/countingboards/laws.FnBoardDouble", spec := "fnBoardDouble", apart := false }
def FnBoardDoubleSaid : Prop := fnBoardDoubleRow.holds Try.pinned (OpenSpec.ofChange fnBoardDoubleSpec)

/-- ITS FALSE NEIGHBOUR: 'it returns false'. Refute it at one input. -/
def fnBoardDoubleWrong : ChangeSpec := { name := "fnBoardDouble", fn := fun _ => fun
  | [d] => { results := [.lit (.bool false)], args := [d] }
  | _ => none }
def FnBoardDoubleWrongFalsely : Prop := fnBoardDoubleRow.holds Try.pinned (OpenSpec.ofChange fnBoardDoubleWrong)

/-- 'laws.FnBoardLay': WHATEVER THE INPUT: true; the input reads as it did. -/
def fnBoardLaySpec : ChangeSpec := { name := "fnBoardLay", fn := fun _ => fun
  | [d] => { results := [.lit (.bool true)], args := [d] }
  | _ => none }
def fnBoardLayRow : OpenClaim := { program := "ytknjnlkamhbmgaa", sum := "0cdc1ed405c3e3f56a1310c6da68b343d7660148b742e4866ca68a57d73a1fb8", func := "loop.example/countingboards/laws.FnBoardLay", spec := "fnBoardLay", apart := false }
def FnBoardLaySaid : Prop := fnBoardLayRow.holds Try.pinned (OpenSpec.ofChange fnBoardLaySpec)

/-- ITS FALSE NEIGHBOUR: 'it returns false'. Refute it at one input. -/
def fnBoardLayWrong : ChangeSpec := { name := "fnBoardLay", fn := fun _ => fun
  | [d] => { results := [.lit (.bool false)], args := [d] }
  | _ => none }
def FnBoardLayWrongFalsely : Prop := fnBoardLayRow.holds Try.pinned (OpenSpec.ofChange fnBoardLayWrong)

/-- 'laws.FnBoardRaise': WHATEVER THE INPUT: true; the input reads as it did. -/
def fnBoardRaiseSpec : ChangeSpec := { name := "fnBoardRaise", fn := fun _ => fun
  | [d] => { results := [.lit (.bool true)], args := [d] }
  | _ => none }
def fnBoardRaiseRow : OpenClaim := { program := "ytknjnlkamhbmgaa", sum := "0cdc1ed405c3e3f56a1310c6da68b343d7660148b742e4866ca68a57d73a1fb8", func := "loop.example/countingboards/laws.FnBoardRaise", spec := "fnBoardRaise", apart := false }
def FnBoardRaiseSaid : Prop := fnBoardRaiseRow.holds Try.pinned (OpenSpec.ofChange fnBoardRaiseSpec)

/-- ITS FALSE NEIGHBOUR: 'it returns false'. Refute it at one input. -/
def fnBoardRaiseWrong : ChangeSpec := { name := "fnBoardRaise", fn := fun _ => fun
  | [d] => { results := [.lit (.bool false)], args := [d] }
  | _ => none }
def FnBoardRaiseWrongFalsely : Prop := fnBoardRaiseRow.holds Try.pinned (OpenSpec.ofChange fnBoardRaiseWrong)

/-- 'laws.FnBoardTake': WHATEVER THE INPUT: true; the input reads as it did. -/
def fnBoardTakeSpec : ChangeSpec := { name := "fnBoardTake", fn := fun _ => fun
  | [d] => { results := [.lit (.bool true)], args := [d] }
  | _ => none }
def fnBoardTakeRow : OpenClaim := { program := "ytknjnlkamhbmgaa", sum := "0cdc1ed405c3e3f56a1310c6da68b343d7660148b742e4866ca68a57d73a1fb8", func := "loop.example/countingboards/laws.FnBoardTake", spec := "fnBoardTake", apart := false }
def FnBoardTakeSaid : Prop := fnBoardTakeRow.holds Try.pinned (OpenSpec.ofChange fnBoardTakeSpec)

/-- ITS FALSE NEIGHBOUR: 'it returns false'. Refute it at one input. -/
def fnBoardTakeWrong : ChangeSpec := { name := "fnBoardTake", fn := fun _ => fun
  | [d] => { results := [.lit (.bool false)], args := [d] }
  | _ => none }
def FnBoardTakeWrongFalsely : Prop := fnBoardTakeRow.holds Try.pinned (OpenSpec.ofChange fnBoardTakeWrong)

/-- 'laws.FnBoardRaises': WHATEVER THE INPUT: true; the input reads as it did. -/
def fnBoardRaisesSpec : ChangeSpec := { name := "fnBoardRaises", fn := fun _ => fun
  | [d] => { results := [.lit (.bool true)], args := [d] }
  | _ => none }
def fnBoardRaisesRow : OpenClaim := { program := "ytknjnlkamhbmgaa", sum := "0cdc1ed405c3e3f56a1310c6da68b343d7660148b742e4866ca68a57d73a1fb8", func := "loop.example/countingboards/laws.FnBoardRaises", spec := "fnBoardRaises", apart := false }
def FnBoardRaisesSaid : Prop := fnBoardRaisesRow.holds Try.pinned (OpenSpec.ofChange fnBoardRaisesSpec)

/-- ITS FALSE NEIGHBOUR: 'it returns false'. Refute it at one input. -/
def fnBoardRaisesWrong : ChangeSpec := { name := "fnBoardRaises", fn := fun _ => fun
  | [d] => { results := [.lit (.bool false)], args := [d] }
  | _ => none }
def FnBoardRaisesWrongFalsely : Prop := fnBoardRaisesRow.holds Try.pinned (OpenSpec.ofChange fnBoardRaisesWrong)

/-- 'laws.FnBoardReduced': WHATEVER THE INPUT: true; the input reads as it did. -/
def fnBoardReducedSpec : ChangeSpec := { name := "fnBoardReduced", fn := fun _ => fun
  | [d] => { results := [.lit (.bool true)], args := [d] }
  | _ => none }
def fnBoardReducedRow : OpenClaim := { program := "ytknjnlkamhbmgaa", sum := "0cdc1ed405c3e3f56a1310c6da68b343d7660148b742e4866ca68a57d73a1fb8", func := "loop.example/countingboards/laws.FnBoardReduced", spec := "fnBoardReduced", apart := false }
def FnBoardReducedSaid : Prop := fnBoardReducedRow.holds Try.pinned (OpenSpec.ofChange fnBoardReducedSpec)

/-- ITS FALSE NEIGHBOUR: 'it returns false'. Refute it at one input. -/
def fnBoardReducedWrong : ChangeSpec := { name := "fnBoardReduced", fn := fun _ => fun
  | [d] => { results := [.lit (.bool false)], args := [d] }
  | _ => none }
def FnBoardReducedWrongFalsely : Prop := fnBoardReducedRow.holds Try.pinned (OpenSpec.ofChange fnBoardReducedWrong)

/-- 'laws.FnBoardReduce': WHATEVER THE INPUT: true; the input reads as it did. -/
def fnBoardReduceSpec : ChangeSpec := { name := "fnBoardReduce", fn := fun _ => fun
  | [d] => { results := [.lit (.bool true)], args := [d] }
  | _ => none }
def fnBoardReduceRow : OpenClaim := { program := "ytknjnlkamhbmgaa", sum := "0cdc1ed405c3e3f56a1310c6da68b343d7660148b742e4866ca68a57d73a1fb8", func := "loop.example/countingboards/laws.FnBoardReduce", spec := "fnBoardReduce", apart := false }
def FnBoardReduceSaid : Prop := fnBoardReduceRow.holds Try.pinned (OpenSpec.ofChange fnBoardReduceSpec)

/-- ITS FALSE NEIGHBOUR: 'it returns false'. Refute it at one input. -/
def fnBoardReduceWrong : ChangeSpec := { name := "fnBoardReduce", fn := fun _ => fun
  | [d] => { results := [.lit (.bool false)], args := [d] }
  | _ => none }
def FnBoardReduceWrongFalsely : Prop := fnBoardReduceRow.holds Try.pinned (OpenSpec.ofChange fnBoardReduceWrong)

/- THE SECOND FORM. 'bulk': how many values and letters a reading holds, each counted each time it is reached (what is shared counts as often as it is met; a slice's spare places count too). A statement '..UptoSaid' is the law's where the arguments, and the package variables that the reading takes, are together of bulk at most 1048576: NARROWER than '..Said'. Prove '..Said' where nothing that the law and all that it calls make is longer than what came in: it says more and counts as full. Else prove '..UptoSaid'. A law counts once. -/
mutual
def uptoBulk {H : Type} : DataW H → Nat
  | .lit (.string bytes) => bytes.length + 1
  | .lit _ => 1
  | .nil => 1
  | .ptr d => uptoBulk d + 1
  | .slice elems spare => uptoBulkAll elems + uptoBulkAll spare + 1
  | .agg parts => uptoBulkAll parts + 1
  | .iface _ d => uptoBulk d + 1
  | .map entries => uptoBulkEntries entries + 1
  | .held _ => 1
def uptoBulkAll {H : Type} : List (DataW H) → Nat
  | [] => 0
  | d :: r => uptoBulk d + uptoBulkAll r
def uptoBulkEntries {H : Type} : List (Lit × DataW H) → Nat
  | [] => 0
  | x :: r => uptoBulkEntry x + uptoBulkEntries r
def uptoBulkEntry {H : Type} : Lit × DataW H → Nat
  | (.string bytes, d) => bytes.length + uptoBulk d + 1
  | (_, d) => uptoBulk d + 1
 end
def uptoSmall : (H : Type) → List (DataW H) → Bool := fun _ ds => decide (uptoBulkAll ds ≤ 1048576)
def OpenSpec.upto (s : _root_.Go.ChangeSpec) : _root_.Go.OpenSpec := { _root_.Go.OpenSpec.ofChange s with cond := some uptoSmall }

/-- 'laws.FnExactBoardValue', WHERE WHAT IT READS IS OF BULK AT MOST 1048576: true; the input reads as it did. -/
def fnExactBoardValueUptoRow : OpenClaim := { program := "ytknjnlkamhbmgaa", sum := "0cdc1ed405c3e3f56a1310c6da68b343d7660148b742e4866ca68a57d73a1fb8", func := "loop.example/countingboards/laws.FnExactBoardValue", spec := "fnExactBoardValue", apart := false, narrowed := true }
def FnExactBoardValueUptoSaid : Prop := fnExactBoardValueUptoRow.holds Try.pinned (OpenSpec.upto fnExactBoardValueSpec)

/-- 'laws.FnBoardValue', WHERE WHAT IT READS IS OF BULK AT MOST 1048576: true; the input reads as it did. -/
def fnBoardValueUptoRow : OpenClaim := { program := "ytknjnlkamhbmgaa", sum := "0cdc1ed405c3e3f56a1310c6da68b343d7660148b742e4866ca68a57d73a1fb8", func := "loop.example/countingboards/laws.FnBoardValue", spec := "fnBoardValue", apart := false, narrowed := true }
def FnBoardValueUptoSaid : Prop := fnBoardValueUptoRow.holds Try.pinned (OpenSpec.upto fnBoardValueSpec)

/-- 'laws.FnExactBoardRaises', WHERE WHAT IT READS IS OF BULK AT MOST 1048576: true; the input reads as it did. -/
def fnExactBoardRaisesUptoRow : OpenClaim := { program := "ytknjnlkamhbmgaa", sum := "0cdc1ed405c3e3f56a1310c6da68b343d7660148b742e4866ca68a57d73a1fb8", func := "loop.example/countingboards/laws.FnExactBoardRaises", spec := "fnExactBoardRaises", apart := false, narrowed := true }
def FnExactBoardRaisesUptoSaid : Prop := fnExactBoardRaisesUptoRow.holds Try.pinned (OpenSpec.upto fnExactBoardRaisesSpec)

/-- 'laws.FnExactBoardReduce', WHERE WHAT IT READS IS OF BULK AT MOST 1048576: true; the input reads as it did. -/
def fnExactBoardReduceUptoRow : OpenClaim := { program := "ytknjnlkamhbmgaa", sum := "0cdc1ed405c3e3f56a1310c6da68b343d7660148b742e4866ca68a57d73a1fb8", func := "loop.example/countingboards/laws.FnExactBoardReduce", spec := "fnExactBoardReduce", apart := false, narrowed := true }
def FnExactBoardReduceUptoSaid : Prop := fnExactBoardReduceUptoRow.holds Try.pinned (OpenSpec.upto fnExactBoardReduceSpec)

/-- 'laws.FnExactBoardTake', WHERE WHAT IT READS IS OF BULK AT MOST 1048576: true; the input reads as it did. -/
def fnExactBoardTakeUptoRow : OpenClaim := { program := "ytknjnlkamhbmgaa", sum := "0cdc1ed405c3e3f56a1310c6da68b343d7660148b742e4866ca68a57d73a1fb8", func := "loop.example/countingboards/laws.FnExactBoardTake", spec := "fnExactBoardTake", apart := false, narrowed := true }
def FnExactBoardTakeUptoSaid : Prop := fnExactBoardTakeUptoRow.holds Try.pinned (OpenSpec.upto fnExactBoardTakeSpec)

/-- 'laws.FnBoardOf', WHERE WHAT IT READS IS OF BULK AT MOST 1048576: true; the input reads as it did. -/
def fnBoardOfUptoRow : OpenClaim := { program := "ytknjnlkamhbmgaa", sum := "0cdc1ed405c3e3f56a1310c6da68b343d7660148b742e4866ca68a57d73a1fb8", func := "loop.example/countingboards/laws.FnBoardOf", spec := "fnBoardOf", apart := false, narrowed := true }
def FnBoardOfUptoSaid : Prop := fnBoardOfUptoRow.holds Try.pinned (OpenSpec.upto fnBoardOfSpec)

/-- 'laws.FnBoardLower', WHERE WHAT IT READS IS OF BULK AT MOST 1048576: true; the input reads as it did. -/
def fnBoardLowerUptoRow : OpenClaim := { program := "ytknjnlkamhbmgaa", sum := "0cdc1ed405c3e3f56a1310c6da68b343d7660148b742e4866ca68a57d73a1fb8", func := "loop.example/countingboards/laws.FnBoardLower", spec := "fnBoardLower", apart := false, narrowed := true }
def FnBoardLowerUptoSaid : Prop := fnBoardLowerUptoRow.holds Try.pinned (OpenSpec.upto fnBoardLowerSpec)

/-- 'laws.FnBoardDouble', WHERE WHAT IT READS IS OF BULK AT MOST 1048576: true; the input reads as it did. -/
def fnBoardDoubleUptoRow : OpenClaim := { program := "ytknjnlkamhbmgaa", sum := "0cdc1ed405c3e3f56a1310c6da68b343d7660148b742e4866ca68a57d73a1fb8", func := "loop.example/countingboards/laws.FnBoardDouble", spec := "fnBoardDouble", apart := false, narrowed := true }
def FnBoardDoubleUptoSaid : Prop := fnBoardDoubleUptoRow.holds Try.pinned (OpenSpec.upto fnBoardDoubleSpec)

/-- 'laws.FnBoardLay', WHERE WHAT IT READS IS OF BULK AT MOST 1048576: true; the input reads as it did. -/
def fnBoardLayUptoRow : OpenClaim := { program := "ytknjnlkamhbmgaa", sum := "0cdc1ed405c3e3f56a1310c6da68b343d7660148b742e4866ca68a57d73a1fb8", func := "loop.example/countingboards/laws.FnBoardLay", spec := "fnBoardLay", apart := false, narrowed := true }
def FnBoardLayUptoSaid : Prop := fnBoardLayUptoRow.holds Try.pinned (OpenSpec.upto fnBoardLaySpec)

/-- 'laws.FnBoardRaise', WHERE WHAT IT READS IS OF BULK AT MOST 1048576: true; the input reads as it did. -/
def fnBoardRaiseUptoRow : OpenClaim := { program := "ytknjnlkamhbmgaa", sum := "0cdc1ed405c3e3f56a1310c6da68b343d7660148b742e4866ca68a57d73a1fb8", func := "loop.example/countingboards/laws.FnBoardRaise", spec := "fnBoardRaise", apart := false, narrowed := true }
def FnBoardRaiseUptoSaid : Prop := fnBoardRaiseUptoRow.holds Try.pinned (OpenSpec.upto fnBoardRaiseSpec)

/-- 'laws.FnBoardTake', WHERE WHAT IT READS IS OF BULK AT MOST 1048576: true; the input reads as it did. -/
def fnBoardTakeUptoRow : OpenClaim := { program := "ytknjnlkamhbmgaa", sum := "0cdc1ed405c3e3f56a1310c6da68b343d7660148b742e4866ca68a57d73a1fb8", func := "loop.example/countingboards/laws.FnBoardTake", spec := "fnBoardTake", apart := false, narrowed := true }
def FnBoardTakeUptoSaid : Prop := fnBoardTakeUptoRow.holds Try.pinned (OpenSpec.upto fnBoardTakeSpec)

/-- 'laws.FnBoardRaises', WHERE WHAT IT READS IS OF BULK AT MOST 1048576: true; the input reads as it did. -/
def fnBoardRaisesUptoRow : OpenClaim := { program := "ytknjnlkamhbmgaa", sum := "0cdc1ed405c3e3f56a1310c6da68b343d7660148b742e4866ca68a57d73a1fb8", func := "loop.example/countingboards/laws.FnBoardRaises", spec := "fnBoardRaises", apart := false, narrowed := true }
def FnBoardRaisesUptoSaid : Prop := fnBoardRaisesUptoRow.holds Try.pinned (OpenSpec.upto fnBoardRaisesSpec)

/-- 'laws.FnBoardReduced', WHERE WHAT IT READS IS OF BULK AT MOST 1048576: true; the input reads as it did. -/
def fnBoardReducedUptoRow : OpenClaim := { program := "ytknjnlkamhbmgaa", sum := "0cdc1ed405c3e3f56a1310c6da68b343d7660148b742e4866ca68a57d73a1fb8", func := "loop.example/countingboards/laws.FnBoardReduced", spec := "fnBoardReduced", apart := false, narrowed := true }
def FnBoardReducedUptoSaid : Prop := fnBoardReducedUptoRow.holds Try.pinned (OpenSpec.upto fnBoardReducedSpec)

/-- 'laws.FnBoardReduce', WHERE WHAT IT READS IS OF BULK AT MOST 1048576: true; the input reads as it did. -/
def fnBoardReduceUptoRow : OpenClaim := { program := "ytknjnlkamhbmgaa", sum := "0cdc1ed405c3e3f56a1310c6da68b343d7660148b742e4866ca68a57d73a1fb8", func := "loop.example/countingboards/laws.FnBoardReduce", spec := "fnBoardReduce", apart := false, narrowed := true }
def FnBoardReduceUptoSaid : Prop := fnBoardReduceUptoRow.holds Try.pinned (OpenSpec.upto fnBoardReduceSpec)

end Rows
end Go.Proofs.Ytknjnlkamhbmgaa
