/-
  No cell of these rows narrows 'for every input' (looked for: loops, veiled, ifaces, maps, wideKeys, modest, calm, conditions, laid).
  DERIVED. THE GIVEN ROWS OF THIS SEAT. 3 by the template 'for every input the law returns true; each argument reads behind the call as it read before'; 0 by the template 'total and deterministic' (their statements: YtogplbnabffcfaaTotals.lean).
  GIVEN WITH THE SEED: the statements are not yours to turn. If you find one false, say at which input.
  Laid BY PROGRAM, IN A SANDBOX (cutbox-rows.mjs): the forced cells as the released guide's own fill.sh prints them over the translation 3a4aaf104cf21855… (all of the seat's roots in one cut). By AI agents, Wed Nov 11 2026. No macro, syntax, notation, axiom, sorry.
-/
import Derived.Test.YtogplbnabffcfaaChecked
import GoSem.Claim
import GoSem.ClaimJoined
import GoSem.ClaimMapViews
import Derived.JoinedTies
import Derived.KernelRfl
namespace Go.Proofs.Ytogplbnabffcfaa
/- THE CELL 'sum', in the pinned program and in every row, IS THE sha256 OF THE DUMP (.gsa) THAT YtogplbnabffcfaaProg.lean LOADS. Nothing in Lean hashes anything: it is a label: what it is worth is what the hold of that sum in a sandbox is worth. -/
noncomputable def Try.pinned : Pinned := { name := "ytogplbnabffcfaa", sum := "3a4aaf104cf21855dec34e3204b63ca6b5b479b7492206d59848e9d337dbab91", checked := Try.checked }
namespace Rows
def none {H : Type} : Left H := { results := [], args := [] }

/-- 'laws.FnSettleMerge': WHATEVER THE INPUT: true; the input reads as it did. -/
def fnSettleMergeSpec : ChangeSpec := { name := "fnSettleMerge", fn := fun _ => fun
  | [d] => { results := [.lit (.bool true)], args := [d] }
  | _ => none }
def fnSettleMergeRow : OpenClaim := { program := "ytogplbnabffcfaa", sum := "3a4aaf104cf21855dec34e3204b63ca6b5b479b7492206d59848e9d337dbab91", func := "loop.example/countingboards/laws.FnSettleMerge", spec := "fnSettleMerge", inPlace := ["internal/bytealg.IndexByteString", "internal/abi.NoEscape", "internal/bytealg.MakeNoZero"], unfollowed := true, recurses := true, apart := false }
def FnSettleMergeSaid : Prop := fnSettleMergeRow.holds Try.pinned (OpenSpec.ofChange fnSettleMergeSpec)

/-- ITS FALSE NEIGHBOUR: 'it returns false'. Refute it at one input. -/
def fnSettleMergeWrong : ChangeSpec := { name := "fnSettleMerge", fn := fun _ => fun
  | [d] => { results := [.lit (.bool false)], args := [d] }
  | _ => none }
def FnSettleMergeWrongFalsely : Prop := fnSettleMergeRow.holds Try.pinned (OpenSpec.ofChange fnSettleMergeWrong)

/-- 'laws.FnSettle': WHATEVER THE INPUT: true; the input reads as it did. -/
def fnSettleSpec : ChangeSpec := { name := "fnSettle", fn := fun _ => fun
  | [d] => { results := [.lit (.bool true)], args := [d] }
  | _ => none }
def fnSettleRow : OpenClaim := { program := "ytogplbnabffcfaa", sum := "3a4aaf104cf21855dec34e3204b63ca6b5b479b7492206d59848e9d337dbab91", func := "loop.example/countingboards/laws.FnSettle", spec := "fnSettle", inPlace := ["internal/bytealg.IndexByteString", "internal/abi.NoEscape", "internal/bytealg.MakeNoZero"], unfollowed := true, recurses := true, apart := false }
def FnSettleSaid : Prop := fnSettleRow.holds Try.pinned (OpenSpec.ofChange fnSettleSpec)

/-- ITS FALSE NEIGHBOUR: 'it returns false'. Refute it at one input. -/
def fnSettleWrong : ChangeSpec := { name := "fnSettle", fn := fun _ => fun
  | [d] => { results := [.lit (.bool false)], args := [d] }
  | _ => none }
def FnSettleWrongFalsely : Prop := fnSettleRow.holds Try.pinned (OpenSpec.ofChange fnSettleWrong)

/-- 'laws.FnExactTalliesSettle': WHATEVER THE INPUT: true; the input reads as it did. -/
def fnExactTalliesSettleSpec : ChangeSpec := { name := "fnExactTalliesSettle", fn := fun _ => fun
  | [d] => { results := [.lit (.bool true)], args := [d] }
  | _ => none }
def fnExactTalliesSettleRow : OpenClaim := { program := "ytogplbnabffcfaa", sum := "3a4aaf104cf21855dec34e3204b63ca6b5b479b7492206d59848e9d337dbab91", func := "loop.example/countingboards/laws.FnExactTalliesSettle", spec := "fnExactTalliesSettle", inPlace := ["internal/bytealg.IndexByteString", "internal/abi.NoEscape", "internal/bytealg.MakeNoZero"], unfollowed := true, recurses := true, apart := false }
def FnExactTalliesSettleSaid : Prop := fnExactTalliesSettleRow.holds Try.pinned (OpenSpec.ofChange fnExactTalliesSettleSpec)

/-- ITS FALSE NEIGHBOUR: 'it returns false'. Refute it at one input. -/
def fnExactTalliesSettleWrong : ChangeSpec := { name := "fnExactTalliesSettle", fn := fun _ => fun
  | [d] => { results := [.lit (.bool false)], args := [d] }
  | _ => none }
def FnExactTalliesSettleWrongFalsely : Prop := fnExactTalliesSettleRow.holds Try.pinned (OpenSpec.ofChange fnExactTalliesSettleWrong)

/- THE SECOND FORM. 'bulk': how many values and letters a reading holds, each counted each time it is reached (what is shared counts as often as it is met; a slice's spare places count too). A statement '..UptoSaid' is the law's where the arguments, and the package variables that the reading takes, are together of bulk at most 1048576: NARROWER than '..Said'. Prove '..Said' where nothing that the law and all that it calls make is longer than what came in: it says more and counts as full. Else prove '..UptoSaid'. A law counts once. -/
mutual
def uptoBulk {H : Type} : DataW H → Nat
  | .lit (.string bytes) => bytes.length + 1
  | .lit _ => 1
  | .nil => 1
  | .ptr d => uptoBulk d + 1
  | .slice elems spare => uptoBulkAll elems + uptoBulkAll spare + 1
  | .agg parts => uptoBulkAll parts + 1
  | .iface _ d => uptoBulk d + 1
  | .map entries => uptoBulkEntries entries + 1
  | .held _ => 1
def uptoBulkAll {H : Type} : List (DataW H) → Nat
  | [] => 0
  | d :: r => uptoBulk d + uptoBulkAll r
def uptoBulkEntries {H : Type} : List (Lit × DataW H) → Nat
  | [] => 0
  | x :: r => uptoBulkEntry x + uptoBulkEntries r
def uptoBulkEntry {H : Type} : Lit × DataW H → Nat
  | (.string bytes, d) => bytes.length + uptoBulk d + 1
  | (_, d) => uptoBulk d + 1
 end
def uptoSmall : (H : Type) → List (DataW H) → Bool := fun _ ds => decide (uptoBulkAll ds ≤ 1048576)
def OpenSpec.upto (s : _root_.Go.ChangeSpec) : _root_.Go.OpenSpec := { _root_.Go.OpenSpec.ofChange s with cond := some uptoSmall }

/-- 'laws.FnSettleMerge', WHERE WHAT IT READS IS OF BULK AT MOST 1048576: true; the input reads as it did. -/
def fnSettleMergeUptoRow : OpenClaim := { program := "ytogplbnabffcfaa", sum := "3a4aaf104cf21855dec34e3204b63ca6b5b479b7492206d59848e9d337dbab91", func := "loop.example/countingboards/laws.FnSettleMerge", spec := "fnSettleMerge", inPlace := ["internal/bytealg.IndexByteString", "internal/abi.NoEscape", "internal/bytealg.MakeNoZero"], unfollowed := true, recurses := true, apart := false, narrowed := true }
def FnSettleMergeUptoSaid : Prop := fnSettleMergeUptoRow.holds Try.pinned (OpenSpec.upto fnSettleMergeSpec)

/-- 'laws.FnSettle', WHERE WHAT IT READS IS OF BULK AT MOST 1048576: true; the input reads as it did. -/
def fnSettleUptoRow : OpenClaim := { program := "ytogplbnabffcfaa", sum := "3a4aaf104cf21855dec34e3204b63ca6b5b479b7492206d59848e9d337dbab91", func := "loop.example/countingboards/laws.FnSettle", spec := "fnSettle", inPlace := ["internal/bytealg.IndexByteString", "internal/abi.NoEscape", "internal/bytealg.MakeNoZero"], unfollowed := true, recurses := true, apart := false, narrowed := true }
def FnSettleUptoSaid : Prop := fnSettleUptoRow.holds Try.pinned (OpenSpec.upto fnSettleSpec)

/-- 'laws.FnExactTalliesSettle', WHERE WHAT IT READS IS OF BULK AT MOST 1048576: true; the input reads as it did. -/
def fnExactTalliesSettleUptoRow : OpenClaim := { program := "ytogplbnabffcfaa", sum := "3a4aaf104cf21855dec34e3204b63ca6b5b479b7492206d59848e9d337dbab91", func := "loop.example/countingboards/laws.FnExactTalliesSettle", spec := "fnExactTalliesSettle", inPlace := ["internal/bytealg.IndexByteString", "internal/abi.NoEscape", "internal/bytealg.MakeNoZero"], unfollowed := true, recurses := true, apart := false, narrowed := true }
def FnExactTalliesSettleUptoSaid : Prop := fnExactTalliesSettleUptoRow.holds Try.pinned (OpenSpec.upto fnExactTalliesSettleSpec)

end Rows
end Go.Proofs.Ytogplbnabffcfaa
