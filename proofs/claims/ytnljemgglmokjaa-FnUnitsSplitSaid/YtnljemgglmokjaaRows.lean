/-
  No cell of these rows narrows 'for every input' (looked for: loops, veiled, ifaces, maps, wideKeys, modest, calm, conditions, laid).
  DERIVED. THE GIVEN ROWS OF THIS SEAT. 5 by the template 'for every input the law returns true; each argument reads behind the call as it read before'; 0 by the template 'total and deterministic' (their statements: YtnljemgglmokjaaTotals.lean).
  GIVEN WITH THE SEED: the statements are not yours to turn. If you find one false, say at which input.
  Laid BY PROGRAM, IN A SANDBOX (cutbox-rows.mjs): the forced cells as the released guide's own fill.sh prints them over the translation 2b6fe96399e1c3f1… (all of the seat's roots in one cut). By AI agents, Wed Nov 11 2026. No macro, syntax, notation, axiom, sorry.
-/
import Derived.Test.YtnljemgglmokjaaChecked
import GoSem.Claim
import GoSem.ClaimJoined
import GoSem.ClaimMapViews
import Derived.JoinedTies
import Derived.KernelRfl
namespace Go.Proofs.Ytnljemgglmokjaa
/- THE CELL 'sum', in the pinned program and in every row, IS THE sha256 OF THE DUMP (.gsa) THAT YtnljemgglmokjaaProg.lean LOADS. Nothing in Lean hashes anything: it is a label: what it is worth is what the hold of that sum in a sandbox is worth. -/
noncomputable def Try.pinned : Pinned := { name := "ytnljemgglmokjaa", sum := "2b6fe96399e1c3f1cc15e1830f8016164bd3c0a8ae004af0cee3c62f7ff1cda3", checked := Try.checked }
namespace Rows
def none {H : Type} : Left H := { results := [], args := [] }

/-- 'laws.FnExactUnitsJoin': WHATEVER THE INPUT: true; the input reads as it did. -/
def fnExactUnitsJoinSpec : ChangeSpec := { name := "fnExactUnitsJoin", fn := fun _ => fun
  | [d1, d2] => { results := [.lit (.bool true)], args := [d1, d2] }
  | _ => none }
def fnExactUnitsJoinRow : OpenClaim := { program := "ytnljemgglmokjaa", sum := "2b6fe96399e1c3f1cc15e1830f8016164bd3c0a8ae004af0cee3c62f7ff1cda3", func := "loop.example/countingboards/laws.FnExactUnitsJoin", spec := "fnExactUnitsJoin", apart := false }
def FnExactUnitsJoinSaid : Prop := fnExactUnitsJoinRow.holds Try.pinned (OpenSpec.ofChange fnExactUnitsJoinSpec)

/-- ITS FALSE NEIGHBOUR: 'it returns false'. Refute it at one input. -/
def fnExactUnitsJoinWrong : ChangeSpec := { name := "fnExactUnitsJoin", fn := fun _ => fun
  | [d1, d2] => { results := [.lit (.bool false)], args := [d1, d2] }
  | _ => none }
def FnExactUnitsJoinWrongFalsely : Prop := fnExactUnitsJoinRow.holds Try.pinned (OpenSpec.ofChange fnExactUnitsJoinWrong)

/-- 'laws.FnExactUnitsSplit': WHATEVER THE INPUT: true; the input reads as it did. -/
def fnExactUnitsSplitSpec : ChangeSpec := { name := "fnExactUnitsSplit", fn := fun _ => fun
  | [d1, d2] => { results := [.lit (.bool true)], args := [d1, d2] }
  | _ => none }
def fnExactUnitsSplitRow : OpenClaim := { program := "ytnljemgglmokjaa", sum := "2b6fe96399e1c3f1cc15e1830f8016164bd3c0a8ae004af0cee3c62f7ff1cda3", func := "loop.example/countingboards/laws.FnExactUnitsSplit", spec := "fnExactUnitsSplit", apart := false }
def FnExactUnitsSplitSaid : Prop := fnExactUnitsSplitRow.holds Try.pinned (OpenSpec.ofChange fnExactUnitsSplitSpec)

/-- ITS FALSE NEIGHBOUR: 'it returns false'. Refute it at one input. -/
def fnExactUnitsSplitWrong : ChangeSpec := { name := "fnExactUnitsSplit", fn := fun _ => fun
  | [d1, d2] => { results := [.lit (.bool false)], args := [d1, d2] }
  | _ => none }
def FnExactUnitsSplitWrongFalsely : Prop := fnExactUnitsSplitRow.holds Try.pinned (OpenSpec.ofChange fnExactUnitsSplitWrong)

/-- 'laws.FnUnitsDrop': WHATEVER THE INPUT: true; the input reads as it did. -/
def fnUnitsDropSpec : ChangeSpec := { name := "fnUnitsDrop", fn := fun _ => fun
  | [d] => { results := [.lit (.bool true)], args := [d] }
  | _ => none }
def fnUnitsDropRow : OpenClaim := { program := "ytnljemgglmokjaa", sum := "2b6fe96399e1c3f1cc15e1830f8016164bd3c0a8ae004af0cee3c62f7ff1cda3", func := "loop.example/countingboards/laws.FnUnitsDrop", spec := "fnUnitsDrop", apart := false }
def FnUnitsDropSaid : Prop := fnUnitsDropRow.holds Try.pinned (OpenSpec.ofChange fnUnitsDropSpec)

/-- ITS FALSE NEIGHBOUR: 'it returns false'. Refute it at one input. -/
def fnUnitsDropWrong : ChangeSpec := { name := "fnUnitsDrop", fn := fun _ => fun
  | [d] => { results := [.lit (.bool false)], args := [d] }
  | _ => none }
def FnUnitsDropWrongFalsely : Prop := fnUnitsDropRow.holds Try.pinned (OpenSpec.ofChange fnUnitsDropWrong)

/-- 'laws.FnUnitsJoin': WHATEVER THE INPUT: true; the input reads as it did. -/
def fnUnitsJoinSpec : ChangeSpec := { name := "fnUnitsJoin", fn := fun _ => fun
  | [d] => { results := [.lit (.bool true)], args := [d] }
  | _ => none }
def fnUnitsJoinRow : OpenClaim := { program := "ytnljemgglmokjaa", sum := "2b6fe96399e1c3f1cc15e1830f8016164bd3c0a8ae004af0cee3c62f7ff1cda3", func := "loop.example/countingboards/laws.FnUnitsJoin", spec := "fnUnitsJoin", apart := false }
def FnUnitsJoinSaid : Prop := fnUnitsJoinRow.holds Try.pinned (OpenSpec.ofChange fnUnitsJoinSpec)

/-- ITS FALSE NEIGHBOUR: 'it returns false'. Refute it at one input. -/
def fnUnitsJoinWrong : ChangeSpec := { name := "fnUnitsJoin", fn := fun _ => fun
  | [d] => { results := [.lit (.bool false)], args := [d] }
  | _ => none }
def FnUnitsJoinWrongFalsely : Prop := fnUnitsJoinRow.holds Try.pinned (OpenSpec.ofChange fnUnitsJoinWrong)

/-- 'laws.FnUnitsSplit': WHATEVER THE INPUT: true; the input reads as it did. -/
def fnUnitsSplitSpec : ChangeSpec := { name := "fnUnitsSplit", fn := fun _ => fun
  | [d] => { results := [.lit (.bool true)], args := [d] }
  | _ => none }
def fnUnitsSplitRow : OpenClaim := { program := "ytnljemgglmokjaa", sum := "2b6fe96399e1c3f1cc15e1830f8016164bd3c0a8ae004af0cee3c62f7ff1cda3", func := "loop.example/countingboards/laws.FnUnitsSplit", spec := "fnUnitsSplit", apart := false }
def FnUnitsSplitSaid : Prop := fnUnitsSplitRow.holds Try.pinned (OpenSpec.ofChange fnUnitsSplitSpec)

/-- ITS FALSE NEIGHBOUR: 'it returns false'. Refute it at one input. -/
def fnUnitsSplitWrong : ChangeSpec := { name := "fnUnitsSplit", fn := fun _ => fun
  | [d] => { results := [.lit (.bool false)], args := [d] }
  | _ => none }
def FnUnitsSplitWrongFalsely : Prop := fnUnitsSplitRow.holds Try.pinned (OpenSpec.ofChange fnUnitsSplitWrong)

/- THE SECOND FORM. 'bulk': how many values and letters a reading holds, each counted each time it is reached (what is shared counts as often as it is met; a slice's spare places count too). A statement '..UptoSaid' is the law's where the arguments, and the package variables that the reading takes, are together of bulk at most 1048576: NARROWER than '..Said'. Prove '..Said' where nothing that the law and all that it calls make is longer than what came in: it says more and counts as full. Else prove '..UptoSaid'. A law counts once. -/
mutual
def uptoBulk {H : Type} : DataW H → Nat
  | .lit (.string bytes) => bytes.length + 1
  | .lit _ => 1
  | .nil => 1
  | .ptr d => uptoBulk d + 1
  | .slice elems spare => uptoBulkAll elems + uptoBulkAll spare + 1
  | .agg parts => uptoBulkAll parts + 1
  | .iface _ d => uptoBulk d + 1
  | .map entries => uptoBulkEntries entries + 1
  | .held _ => 1
def uptoBulkAll {H : Type} : List (DataW H) → Nat
  | [] => 0
  | d :: r => uptoBulk d + uptoBulkAll r
def uptoBulkEntries {H : Type} : List (Lit × DataW H) → Nat
  | [] => 0
  | x :: r => uptoBulkEntry x + uptoBulkEntries r
def uptoBulkEntry {H : Type} : Lit × DataW H → Nat
  | (.string bytes, d) => bytes.length + uptoBulk d + 1
  | (_, d) => uptoBulk d + 1
 end
def uptoSmall : (H : Type) → List (DataW H) → Bool := fun _ ds => decide (uptoBulkAll ds ≤ 1048576)
def OpenSpec.upto (s : _root_.Go.ChangeSpec) : _root_.Go.OpenSpec := { _root_.Go.OpenSpec.ofChange s with cond := some uptoSmall }

/-- 'laws.FnExactUnitsJoin', WHERE WHAT IT READS IS OF BULK AT MOST 1048576: true; the input reads as it did. -/
def fnExactUnitsJoinUptoRow : OpenClaim := { program := "ytnljemgglmokjaa", sum := "2b6fe96399e1c3f1cc15e1830f8016164bd3c0a8ae004af0cee3c62f7ff1cda3", func := "loop.example/countingboards/laws.FnExactUnitsJoin", spec := "fnExactUnitsJoin", apart := false, narrowed := true }
def FnExactUnitsJoinUptoSaid : Prop := fnExactUnitsJoinUptoRow.holds Try.pinned (OpenSpec.upto fnExactUnitsJoinSpec)

/-- 'laws.FnExactUnitsSplit', WHERE WHAT IT READS IS OF BULK AT MOST 1048576: true; the input reads as it did. -/
def fnExactUnitsSplitUptoRow : OpenClaim := { program := "ytnljemgglmokjaa", sum := "2b6fe96399e1c3f1cc15e1830f8016164bd3c0a8ae004af0cee3c62f7ff1cda3", func := "loop.example/countingboards/laws.FnExactUnitsSplit", spec := "fnExactUnitsSplit", apart := false, narrowed := true }
def FnExactUnitsSplitUptoSaid : Prop := fnExactUnitsSplitUptoRow.holds Try.pinned (OpenSpec.upto fnExactUnitsSplitSpec)

/-- 'laws.FnUnitsDrop', WHERE WHAT IT READS IS OF BULK AT MOST 1048576: true; the input reads as it did. -/
def fnUnitsDropUptoRow : OpenClaim := { program := "ytnljemgglmokjaa", sum := "2b6fe96399e1c3f1cc15e1830f8016164bd3c0a8ae004af0cee3c62f7ff1cda3", func := "loop.example/countingboards/laws.FnUnitsDrop", spec := "fnUnitsDrop", apart := false, narrowed := true }
def FnUnitsDropUptoSaid : Prop := fnUnitsDropUptoRow.holds Try.pinned (OpenSpec.upto fnUnitsDropSpec)

/-- 'laws.FnUnitsJoin', WHERE WHAT IT READS IS OF BULK AT MOST 1048576: true; the input reads as it did. -/
def fnUnitsJoinUptoRow : OpenClaim := { program := "ytnljemgglmokjaa", sum := "2b6fe96399e1c3f1cc15e1830f8016164bd3c0a8ae004af0cee3c62f7ff1cda3", func := "loop.example/countingboards/laws.FnUnitsJoin", spec := "fnUnitsJoin", apart := false, narrowed := true }
def FnUnitsJoinUptoSaid : Prop := fnUnitsJoinUptoRow.holds Try.pinned (OpenSpec.upto fnUnitsJoinSpec)

/-- 'laws.FnUnitsSplit', WHERE WHAT IT READS IS OF BULK AT MOST 1048576: true; the input reads as it did. -/
def fnUnitsSplitUptoRow : OpenClaim := { program := "ytnljemgglmokjaa", sum := "2b6fe96399e1c3f1cc15e1830f8016164bd3c0a8ae004af0cee3c62f7ff1cda3", func := "loop.example/countingboards/laws.FnUnitsSplit", spec := "fnUnitsSplit", apart := false, narrowed := true }
def FnUnitsSplitUptoSaid : Prop := fnUnitsSplitUptoRow.holds Try.pinned (OpenSpec.upto fnUnitsSplitSpec)

end Rows
end Go.Proofs.Ytnljemgglmokjaa
