/-
  No cell of these rows narrows 'for every input' (looked for: loops, veiled, ifaces, maps, wideKeys, modest, calm, conditions, laid).
  DERIVED. THE GIVEN ROWS OF THIS SEAT. 10 by the template 'for every input the law returns true; each argument reads behind the call as it read before'; 0 by the template 'total and deterministic' (their statements: YtphokfdaimbaiaaTotals.lean).
  GIVEN WITH THE SEED: the statements are not yours to turn. If you find one false, say at which input.
  Laid BY PROGRAM, IN A SANDBOX (cutbox-rows.mjs): the forced cells as the released guide's own fill.sh prints them over the translation 27ed1daaf16d544d… (all of the seat's roots in one cut). By AI agents, Wed Nov 11 2026. No macro, syntax, notation, axiom, sorry.
-/
import Derived.Test.YtphokfdaimbaiaaChecked
import GoSem.Claim
import GoSem.ClaimJoined
import GoSem.ClaimMapViews
import Derived.JoinedTies
import Derived.KernelRfl
namespace Go.Proofs.Ytphokfdaimbaiaa
/- THE CELL 'sum', in the pinned program and in every row, IS THE sha256 OF THE DUMP (.gsa) THAT YtphokfdaimbaiaaProg.lean LOADS. Nothing in Lean hashes anything: it is a label: what it is worth is what the hold of that sum in a sandbox is worth. -/
noncomputable def Try.pinned : Pinned := { name := "ytphokfdaimbaiaa", sum := "27ed1daaf16d544db8d0c79906192a2a3480d3d6950c8eaf66611a1e2f58ef8d", checked := Try.checked }
namespace Rows
def none {H : Type} : Left H := { results := [], args := [] }

/-- 'laws.FnRootNear': WHATEVER THE INPUT: true; the input reads as it did. -/
def fnRootNearSpec : ChangeSpec := { name := "fnRootNear", fn := fun _ => fun
  | [d] => { results := [.lit (.bool true)], args := [d] }
  | _ => none }
def fnRootNearRow : OpenClaim := { program := "ytphokfdaimbaiaa", sum := "27ed1daaf16d544db8d0c79906192a2a3480d3d6950c8eaf66611a1e2f58ef8d", func := "loop.example/countingboards/laws.FnRootNear", spec := "fnRootNear", apart := false }
def FnRootNearSaid : Prop := fnRootNearRow.holds Try.pinned (OpenSpec.ofChange fnRootNearSpec)

/-- ITS FALSE NEIGHBOUR: 'it returns false'. Refute it at one input. -/
def fnRootNearWrong : ChangeSpec := { name := "fnRootNear", fn := fun _ => fun
  | [d] => { results := [.lit (.bool false)], args := [d] }
  | _ => none }
def FnRootNearWrongFalsely : Prop := fnRootNearRow.holds Try.pinned (OpenSpec.ofChange fnRootNearWrong)

/-- 'laws.FnRootPairs': WHATEVER THE INPUT: true; the input reads as it did. -/
def fnRootPairsSpec : ChangeSpec := { name := "fnRootPairs", fn := fun _ => fun
  | [d] => { results := [.lit (.bool true)], args := [d] }
  | _ => none }
def fnRootPairsRow : OpenClaim := { program := "ytphokfdaimbaiaa", sum := "27ed1daaf16d544db8d0c79906192a2a3480d3d6950c8eaf66611a1e2f58ef8d", func := "loop.example/countingboards/laws.FnRootPairs", spec := "fnRootPairs", apart := false }
def FnRootPairsSaid : Prop := fnRootPairsRow.holds Try.pinned (OpenSpec.ofChange fnRootPairsSpec)

/-- ITS FALSE NEIGHBOUR: 'it returns false'. Refute it at one input. -/
def fnRootPairsWrong : ChangeSpec := { name := "fnRootPairs", fn := fun _ => fun
  | [d] => { results := [.lit (.bool false)], args := [d] }
  | _ => none }
def FnRootPairsWrongFalsely : Prop := fnRootPairsRow.holds Try.pinned (OpenSpec.ofChange fnRootPairsWrong)

/-- 'laws.FnLongSteps': WHATEVER THE INPUT: true; the input reads as it did. -/
def fnLongStepsSpec : ChangeSpec := { name := "fnLongSteps", fn := fun _ => fun
  | [d] => { results := [.lit (.bool true)], args := [d] }
  | _ => none }
def fnLongStepsRow : OpenClaim := { program := "ytphokfdaimbaiaa", sum := "27ed1daaf16d544db8d0c79906192a2a3480d3d6950c8eaf66611a1e2f58ef8d", func := "loop.example/countingboards/laws.FnLongSteps", spec := "fnLongSteps", unfollowed := true, recurses := true, apart := false }
def FnLongStepsSaid : Prop := fnLongStepsRow.holds Try.pinned (OpenSpec.ofChange fnLongStepsSpec)

/-- ITS FALSE NEIGHBOUR: 'it returns false'. Refute it at one input. -/
def fnLongStepsWrong : ChangeSpec := { name := "fnLongSteps", fn := fun _ => fun
  | [d] => { results := [.lit (.bool false)], args := [d] }
  | _ => none }
def FnLongStepsWrongFalsely : Prop := fnLongStepsRow.holds Try.pinned (OpenSpec.ofChange fnLongStepsWrong)

/-- 'laws.FnChainBack': WHATEVER THE INPUT: true; the input reads as it did. -/
def fnChainBackSpec : ChangeSpec := { name := "fnChainBack", fn := fun _ => fun
  | [d] => { results := [.lit (.bool true)], args := [d] }
  | _ => none }
def fnChainBackRow : OpenClaim := { program := "ytphokfdaimbaiaa", sum := "27ed1daaf16d544db8d0c79906192a2a3480d3d6950c8eaf66611a1e2f58ef8d", func := "loop.example/countingboards/laws.FnChainBack", spec := "fnChainBack", recurses := true, apart := false }
def FnChainBackSaid : Prop := fnChainBackRow.holds Try.pinned (OpenSpec.ofChange fnChainBackSpec)

/-- ITS FALSE NEIGHBOUR: 'it returns false'. Refute it at one input. -/
def fnChainBackWrong : ChangeSpec := { name := "fnChainBack", fn := fun _ => fun
  | [d] => { results := [.lit (.bool false)], args := [d] }
  | _ => none }
def FnChainBackWrongFalsely : Prop := fnChainBackRow.holds Try.pinned (OpenSpec.ofChange fnChainBackWrong)

/-- 'laws.FnPeriodDigits': WHATEVER THE INPUT: true; the input reads as it did. -/
def fnPeriodDigitsSpec : ChangeSpec := { name := "fnPeriodDigits", fn := fun _ => fun
  | [d] => { results := [.lit (.bool true)], args := [d] }
  | _ => none }
def fnPeriodDigitsRow : OpenClaim := { program := "ytphokfdaimbaiaa", sum := "27ed1daaf16d544db8d0c79906192a2a3480d3d6950c8eaf66611a1e2f58ef8d", func := "loop.example/countingboards/laws.FnPeriodDigits", spec := "fnPeriodDigits", unfollowed := true, recurses := true, apart := false }
def FnPeriodDigitsSaid : Prop := fnPeriodDigitsRow.holds Try.pinned (OpenSpec.ofChange fnPeriodDigitsSpec)

/-- ITS FALSE NEIGHBOUR: 'it returns false'. Refute it at one input. -/
def fnPeriodDigitsWrong : ChangeSpec := { name := "fnPeriodDigits", fn := fun _ => fun
  | [d] => { results := [.lit (.bool false)], args := [d] }
  | _ => none }
def FnPeriodDigitsWrongFalsely : Prop := fnPeriodDigitsRow.holds Try.pinned (OpenSpec.ofChange fnPeriodDigitsWrong)

/-- 'laws.FnExactLongSteps': WHATEVER THE INPUT: true; the input reads as it did. -/
def fnExactLongStepsSpec : ChangeSpec := { name := "fnExactLongSteps", fn := fun _ => fun
  | [d1, d2] => { results := [.lit (.bool true)], args := [d1, d2] }
  | _ => none }
def fnExactLongStepsRow : OpenClaim := { program := "ytphokfdaimbaiaa", sum := "27ed1daaf16d544db8d0c79906192a2a3480d3d6950c8eaf66611a1e2f58ef8d", func := "loop.example/countingboards/laws.FnExactLongSteps", spec := "fnExactLongSteps", unfollowed := true, recurses := true, apart := false }
def FnExactLongStepsSaid : Prop := fnExactLongStepsRow.holds Try.pinned (OpenSpec.ofChange fnExactLongStepsSpec)

/-- ITS FALSE NEIGHBOUR: 'it returns false'. Refute it at one input. -/
def fnExactLongStepsWrong : ChangeSpec := { name := "fnExactLongSteps", fn := fun _ => fun
  | [d1, d2] => { results := [.lit (.bool false)], args := [d1, d2] }
  | _ => none }
def FnExactLongStepsWrongFalsely : Prop := fnExactLongStepsRow.holds Try.pinned (OpenSpec.ofChange fnExactLongStepsWrong)

/-- 'laws.FnChainNear': WHATEVER THE INPUT: true; the input reads as it did. -/
def fnChainNearSpec : ChangeSpec := { name := "fnChainNear", fn := fun _ => fun
  | [d] => { results := [.lit (.bool true)], args := [d] }
  | _ => none }
def fnChainNearRow : OpenClaim := { program := "ytphokfdaimbaiaa", sum := "27ed1daaf16d544db8d0c79906192a2a3480d3d6950c8eaf66611a1e2f58ef8d", func := "loop.example/countingboards/laws.FnChainNear", spec := "fnChainNear", recurses := true, apart := false }
def FnChainNearSaid : Prop := fnChainNearRow.holds Try.pinned (OpenSpec.ofChange fnChainNearSpec)

/-- ITS FALSE NEIGHBOUR: 'it returns false'. Refute it at one input. -/
def fnChainNearWrong : ChangeSpec := { name := "fnChainNear", fn := fun _ => fun
  | [d] => { results := [.lit (.bool false)], args := [d] }
  | _ => none }
def FnChainNearWrongFalsely : Prop := fnChainNearRow.holds Try.pinned (OpenSpec.ofChange fnChainNearWrong)

/-- 'laws.FnExactLongDigits': WHATEVER THE INPUT: true; the input reads as it did. -/
def fnExactLongDigitsSpec : ChangeSpec := { name := "fnExactLongDigits", fn := fun _ => fun
  | [d1, d2, d3] => { results := [.lit (.bool true)], args := [d1, d2, d3] }
  | _ => none }
def fnExactLongDigitsRow : OpenClaim := { program := "ytphokfdaimbaiaa", sum := "27ed1daaf16d544db8d0c79906192a2a3480d3d6950c8eaf66611a1e2f58ef8d", func := "loop.example/countingboards/laws.FnExactLongDigits", spec := "fnExactLongDigits", unfollowed := true, recurses := true, apart := false }
def FnExactLongDigitsSaid : Prop := fnExactLongDigitsRow.holds Try.pinned (OpenSpec.ofChange fnExactLongDigitsSpec)

/-- ITS FALSE NEIGHBOUR: 'it returns false'. Refute it at one input. -/
def fnExactLongDigitsWrong : ChangeSpec := { name := "fnExactLongDigits", fn := fun _ => fun
  | [d1, d2, d3] => { results := [.lit (.bool false)], args := [d1, d2, d3] }
  | _ => none }
def FnExactLongDigitsWrongFalsely : Prop := fnExactLongDigitsRow.holds Try.pinned (OpenSpec.ofChange fnExactLongDigitsWrong)

/-- 'laws.FnLongQuotient': WHATEVER THE INPUT: true; the input reads as it did. -/
def fnLongQuotientSpec : ChangeSpec := { name := "fnLongQuotient", fn := fun _ => fun
  | [d] => { results := [.lit (.bool true)], args := [d] }
  | _ => none }
def fnLongQuotientRow : OpenClaim := { program := "ytphokfdaimbaiaa", sum := "27ed1daaf16d544db8d0c79906192a2a3480d3d6950c8eaf66611a1e2f58ef8d", func := "loop.example/countingboards/laws.FnLongQuotient", spec := "fnLongQuotient", unfollowed := true, recurses := true, apart := false }
def FnLongQuotientSaid : Prop := fnLongQuotientRow.holds Try.pinned (OpenSpec.ofChange fnLongQuotientSpec)

/-- ITS FALSE NEIGHBOUR: 'it returns false'. Refute it at one input. -/
def fnLongQuotientWrong : ChangeSpec := { name := "fnLongQuotient", fn := fun _ => fun
  | [d] => { results := [.lit (.bool false)], args := [d] }
  | _ => none }
def FnLongQuotientWrongFalsely : Prop := fnLongQuotientRow.holds Try.pinned (OpenSpec.ofChange fnLongQuotientWrong)

/-- 'laws.FnLongDigits': WHATEVER THE INPUT: true; the input reads as it did. -/
def fnLongDigitsSpec : ChangeSpec := { name := "fnLongDigits", fn := fun _ => fun
  | [d1, d2] => { results := [.lit (.bool true)], args := [d1, d2] }
  | _ => none }
def fnLongDigitsRow : OpenClaim := { program := "ytphokfdaimbaiaa", sum := "27ed1daaf16d544db8d0c79906192a2a3480d3d6950c8eaf66611a1e2f58ef8d", func := "loop.example/countingboards/laws.FnLongDigits", spec := "fnLongDigits", unfollowed := true, recurses := true, apart := false }
def FnLongDigitsSaid : Prop := fnLongDigitsRow.holds Try.pinned (OpenSpec.ofChange fnLongDigitsSpec)

/-- ITS FALSE NEIGHBOUR: 'it returns false'. Refute it at one input. -/
def fnLongDigitsWrong : ChangeSpec := { name := "fnLongDigits", fn := fun _ => fun
  | [d1, d2] => { results := [.lit (.bool false)], args := [d1, d2] }
  | _ => none }
def FnLongDigitsWrongFalsely : Prop := fnLongDigitsRow.holds Try.pinned (OpenSpec.ofChange fnLongDigitsWrong)

/- THE SECOND FORM. 'bulk': how many values and letters a reading holds, each counted each time it is reached (what is shared counts as often as it is met; a slice's spare places count too). A statement '..UptoSaid' is the law's where the arguments, and the package variables that the reading takes, are together of bulk at most 1048576: NARROWER than '..Said'. Prove '..Said' where nothing that the law and all that it calls make is longer than what came in: it says more and counts as full. Else prove '..UptoSaid'. A law counts once. -/
mutual
def uptoBulk {H : Type} : DataW H → Nat
  | .lit (.string bytes) => bytes.length + 1
  | .lit _ => 1
  | .nil => 1
  | .ptr d => uptoBulk d + 1
  | .slice elems spare => uptoBulkAll elems + uptoBulkAll spare + 1
  | .agg parts => uptoBulkAll parts + 1
  | .iface _ d => uptoBulk d + 1
  | .map entries => uptoBulkEntries entries + 1
  | .held _ => 1
def uptoBulkAll {H : Type} : List (DataW H) → Nat
  | [] => 0
  | d :: r => uptoBulk d + uptoBulkAll r
def uptoBulkEntries {H : Type} : List (Lit × DataW H) → Nat
  | [] => 0
  | x :: r => uptoBulkEntry x + uptoBulkEntries r
def uptoBulkEntry {H : Type} : Lit × DataW H → Nat
  | (.string bytes, d) => bytes.length + uptoBulk d + 1
  | (_, d) => uptoBulk d + 1
 end
def uptoSmall : (H : Type) → List (DataW H) → Bool := fun _ ds => decide (uptoBulkAll ds ≤ 1048576)
def OpenSpec.upto (s : _root_.Go.ChangeSpec) : _root_.Go.OpenSpec := { _root_.Go.OpenSpec.ofChange s with cond := some uptoSmall }

/-- 'laws.FnRootNear', WHERE WHAT IT READS IS OF BULK AT MOST 1048576: true; the input reads as it did. -/
def fnRootNearUptoRow : OpenClaim := { program := "ytphokfdaimbaiaa", sum := "27ed1daaf16d544db8d0c79906192a2a3480d3d6950c8eaf66611a1e2f58ef8d", func := "loop.example/countingboards/laws.FnRootNear", spec := "fnRootNear", apart := false, narrowed := true }
def FnRootNearUptoSaid : Prop := fnRootNearUptoRow.holds Try.pinned (OpenSpec.upto fnRootNearSpec)

/-- 'laws.FnRootPairs', WHERE WHAT IT READS IS OF BULK AT MOST 1048576: true; the input reads as it did. -/
def fnRootPairsUptoRow : OpenClaim := { program := "ytphokfdaimbaiaa", sum := "27ed1daaf16d544db8d0c79906192a2a3480d3d6950c8eaf66611a1e2f58ef8d", func := "loop.example/countingboards/laws.FnRootPairs", spec := "fnRootPairs", apart := false, narrowed := true }
def FnRootPairsUptoSaid : Prop := fnRootPairsUptoRow.holds Try.pinned (OpenSpec.upto fnRootPairsSpec)

/-- 'laws.FnLongSteps', WHERE WHAT IT READS IS OF BULK AT MOST 1048576: true; the input reads as it did. -/
def fnLongStepsUptoRow : OpenClaim := { program := "ytphokfdaimbaiaa", sum := "27ed1daaf16d544db8d0c79906192a2a3480d3d6950c8eaf66611a1e2f58ef8d", func := "loop.example/countingboards/laws.FnLongSteps", spec := "fnLongSteps", unfollowed := true, recurses := true, apart := false, narrowed := true }
def FnLongStepsUptoSaid : Prop := fnLongStepsUptoRow.holds Try.pinned (OpenSpec.upto fnLongStepsSpec)

/-- 'laws.FnChainBack', WHERE WHAT IT READS IS OF BULK AT MOST 1048576: true; the input reads as it did. -/
def fnChainBackUptoRow : OpenClaim := { program := "ytphokfdaimbaiaa", sum := "27ed1daaf16d544db8d0c79906192a2a3480d3d6950c8eaf66611a1e2f58ef8d", func := "loop.example/countingboards/laws.FnChainBack", spec := "fnChainBack", recurses := true, apart := false, narrowed := true }
def FnChainBackUptoSaid : Prop := fnChainBackUptoRow.holds Try.pinned (OpenSpec.upto fnChainBackSpec)

/-- 'laws.FnPeriodDigits', WHERE WHAT IT READS IS OF BULK AT MOST 1048576: true; the input reads as it did. -/
def fnPeriodDigitsUptoRow : OpenClaim := { program := "ytphokfdaimbaiaa", sum := "27ed1daaf16d544db8d0c79906192a2a3480d3d6950c8eaf66611a1e2f58ef8d", func := "loop.example/countingboards/laws.FnPeriodDigits", spec := "fnPeriodDigits", unfollowed := true, recurses := true, apart := false, narrowed := true }
def FnPeriodDigitsUptoSaid : Prop := fnPeriodDigitsUptoRow.holds Try.pinned (OpenSpec.upto fnPeriodDigitsSpec)

/-- 'laws.FnExactLongSteps', WHERE WHAT IT READS IS OF BULK AT MOST 1048576: true; the input reads as it did. -/
def fnExactLongStepsUptoRow : OpenClaim := { program := "ytphokfdaimbaiaa", sum := "27ed1daaf16d544db8d0c79906192a2a3480d3d6950c8eaf66611a1e2f58ef8d", func := "loop.example/countingboards/laws.FnExactLongSteps", spec := "fnExactLongSteps", unfollowed := true, recurses := true, apart := false, narrowed := true }
def FnExactLongStepsUptoSaid : Prop := fnExactLongStepsUptoRow.holds Try.pinned (OpenSpec.upto fnExactLongStepsSpec)

/-- 'laws.FnChainNear', WHERE WHAT IT READS IS OF BULK AT MOST 1048576: true; the input reads as it did. -/
def fnChainNearUptoRow : OpenClaim := { program := "ytphokfdaimbaiaa", sum := "27ed1daaf16d544db8d0c79906192a2a3480d3d6950c8eaf66611a1e2f58ef8d", func := "loop.example/countingboards/laws.FnChainNear", spec := "fnChainNear", recurses := true, apart := false, narrowed := true }
def FnChainNearUptoSaid : Prop := fnChainNearUptoRow.holds Try.pinned (OpenSpec.upto fnChainNearSpec)

/-- 'laws.FnExactLongDigits', WHERE WHAT IT READS IS OF BULK AT MOST 1048576: true; the input reads as it did. -/
def fnExactLongDigitsUptoRow : OpenClaim := { program := "ytphokfdaimbaiaa", sum := "27ed1daaf16d544db8d0c79906192a2a3480d3d6950c8eaf66611a1e2f58ef8d", func := "loop.example/countingboards/laws.FnExactLongDigits", spec := "fnExactLongDigits", unfollowed := true, recurses := true, apart := false, narrowed := true }
def FnExactLongDigitsUptoSaid : Prop := fnExactLongDigitsUptoRow.holds Try.pinned (OpenSpec.upto fnExactLongDigitsSpec)

/-- 'laws.FnLongQuotient', WHERE WHAT IT READS IS OF BULK AT MOST 1048576: true; the input reads as it did. -/
def fnLongQuotientUptoRow : OpenClaim := { program := "ytphokfdaimbaiaa", sum := "27ed1daaf16d544db8d0c79906192a2a3480d3d6950c8eaf66611a1e2f58ef8d", func := "loop.example/countingboards/laws.FnLongQuotient", spec := "fnLongQuotient", unfollowed := true, recurses := true, apart := false, narrowed := true }
def FnLongQuotientUptoSaid : Prop := fnLongQuotientUptoRow.holds Try.pinned (OpenSpec.upto fnLongQuotientSpec)

/-- 'laws.FnLongDigits', WHERE WHAT IT READS IS OF BULK AT MOST 1048576: true; the input reads as it did. -/
def fnLongDigitsUptoRow : OpenClaim := { program := "ytphokfdaimbaiaa", sum := "27ed1daaf16d544db8d0c79906192a2a3480d3d6950c8eaf66611a1e2f58ef8d", func := "loop.example/countingboards/laws.FnLongDigits", spec := "fnLongDigits", unfollowed := true, recurses := true, apart := false, narrowed := true }
def FnLongDigitsUptoSaid : Prop := fnLongDigitsUptoRow.holds Try.pinned (OpenSpec.upto fnLongDigitsSpec)

end Rows
end Go.Proofs.Ytphokfdaimbaiaa
