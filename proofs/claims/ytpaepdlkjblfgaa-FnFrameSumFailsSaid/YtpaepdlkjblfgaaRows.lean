/-
  No cell of these rows narrows 'for every input' (looked for: loops, veiled, ifaces, maps, wideKeys, modest, calm, conditions, laid).
  DERIVED. THE GIVEN ROWS OF THIS SEAT. 11 by the template 'for every input the law returns true; each argument reads behind the call as it read before'; 0 by the template 'total and deterministic' (their statements: YtpaepdlkjblfgaaTotals.lean).
  GIVEN WITH THE SEED: the statements are not yours to turn. If you find one false, say at which input.
  Laid BY PROGRAM, IN A SANDBOX (cutbox-rows.mjs): the forced cells as the released guide's own fill.sh prints them over the translation bc16b3ea1023b1e1… (all of the seat's roots in one cut). By AI agents, Wed Nov 11 2026. No macro, syntax, notation, axiom, sorry.
-/
import Derived.Test.YtpaepdlkjblfgaaChecked
import GoSem.Claim
import GoSem.ClaimJoined
import GoSem.ClaimMapViews
import Derived.JoinedTies
import Derived.KernelRfl
namespace Go.Proofs.Ytpaepdlkjblfgaa
/- THE CELL 'sum', in the pinned program and in every row, IS THE sha256 OF THE DUMP (.gsa) THAT YtpaepdlkjblfgaaProg.lean LOADS. Nothing in Lean hashes anything: it is a label: what it is worth is what the hold of that sum in a sandbox is worth. -/
noncomputable def Try.pinned : Pinned := { name := "ytpaepdlkjblfgaa", sum := "bc16b3ea1023b1e18241ed4bd5277d6008fa635de735985c87f5137e973ab662", checked := Try.checked }
namespace Rows
def none {H : Type} : Left H := { results := [], args := [] }

/-- 'laws.FnFrameDigit': WHATEVER THE INPUT: true; the input reads as it did. -/
def fnFrameDigitSpec : ChangeSpec := { name := "fnFrameDigit", fn := fun _ => fun
  | [d] => { results := [.lit (.bool true)], args := [d] }
  | _ => none }
def fnFrameDigitRow : OpenClaim := { program := "ytpaepdlkjblfgaa", sum := "bc16b3ea1023b1e18241ed4bd5277d6008fa635de735985c87f5137e973ab662", func := "loop.example/countingboards/laws.FnFrameDigit", spec := "fnFrameDigit", unfollowed := true, recurses := true, apart := false }
def FnFrameDigitSaid : Prop := fnFrameDigitRow.holds Try.pinned (OpenSpec.ofChange fnFrameDigitSpec)

/-- ITS FALSE NEIGHBOUR: 'it returns false'. Refute it at one input. -/
def fnFrameDigitWrong : ChangeSpec := { name := "fnFrameDigit", fn := fun _ => fun
  | [d] => { results := [.lit (.bool false)], args := [d] }
  | _ => none }
def FnFrameDigitWrongFalsely : Prop := fnFrameDigitRow.holds Try.pinned (OpenSpec.ofChange fnFrameDigitWrong)

/-- 'laws.FnFrameSumFails': WHATEVER THE INPUT: true; the input reads as it did. -/
def fnFrameSumFailsSpec : ChangeSpec := { name := "fnFrameSumFails", fn := fun _ => fun
  | [d1, d2] => { results := [.lit (.bool true)], args := [d1, d2] }
  | _ => none }
def fnFrameSumFailsRow : OpenClaim := { program := "ytpaepdlkjblfgaa", sum := "bc16b3ea1023b1e18241ed4bd5277d6008fa635de735985c87f5137e973ab662", func := "loop.example/countingboards/laws.FnFrameSumFails", spec := "fnFrameSumFails", unfollowed := true, recurses := true, apart := false }
def FnFrameSumFailsSaid : Prop := fnFrameSumFailsRow.holds Try.pinned (OpenSpec.ofChange fnFrameSumFailsSpec)

/-- ITS FALSE NEIGHBOUR: 'it returns false'. Refute it at one input. -/
def fnFrameSumFailsWrong : ChangeSpec := { name := "fnFrameSumFails", fn := fun _ => fun
  | [d1, d2] => { results := [.lit (.bool false)], args := [d1, d2] }
  | _ => none }
def FnFrameSumFailsWrongFalsely : Prop := fnFrameSumFailsRow.holds Try.pinned (OpenSpec.ofChange fnFrameSumFailsWrong)

/-- 'laws.FnFrameShift': WHATEVER THE INPUT: true; the input reads as it did. -/
def fnFrameShiftSpec : ChangeSpec := { name := "fnFrameShift", fn := fun _ => fun
  | [d] => { results := [.lit (.bool true)], args := [d] }
  | _ => none }
def fnFrameShiftRow : OpenClaim := { program := "ytpaepdlkjblfgaa", sum := "bc16b3ea1023b1e18241ed4bd5277d6008fa635de735985c87f5137e973ab662", func := "loop.example/countingboards/laws.FnFrameShift", spec := "fnFrameShift", unfollowed := true, recurses := true, apart := false }
def FnFrameShiftSaid : Prop := fnFrameShiftRow.holds Try.pinned (OpenSpec.ofChange fnFrameShiftSpec)

/-- ITS FALSE NEIGHBOUR: 'it returns false'. Refute it at one input. -/
def fnFrameShiftWrong : ChangeSpec := { name := "fnFrameShift", fn := fun _ => fun
  | [d] => { results := [.lit (.bool false)], args := [d] }
  | _ => none }
def FnFrameShiftWrongFalsely : Prop := fnFrameShiftRow.holds Try.pinned (OpenSpec.ofChange fnFrameShiftWrong)

/-- 'laws.FnExactFrameAdd': WHATEVER THE INPUT: true; the input reads as it did. -/
def fnExactFrameAddSpec : ChangeSpec := { name := "fnExactFrameAdd", fn := fun _ => fun
  | [d1, d2, d3] => { results := [.lit (.bool true)], args := [d1, d2, d3] }
  | _ => none }
def fnExactFrameAddRow : OpenClaim := { program := "ytpaepdlkjblfgaa", sum := "bc16b3ea1023b1e18241ed4bd5277d6008fa635de735985c87f5137e973ab662", func := "loop.example/countingboards/laws.FnExactFrameAdd", spec := "fnExactFrameAdd", unfollowed := true, recurses := true, apart := false }
def FnExactFrameAddSaid : Prop := fnExactFrameAddRow.holds Try.pinned (OpenSpec.ofChange fnExactFrameAddSpec)

/-- ITS FALSE NEIGHBOUR: 'it returns false'. Refute it at one input. -/
def fnExactFrameAddWrong : ChangeSpec := { name := "fnExactFrameAdd", fn := fun _ => fun
  | [d1, d2, d3] => { results := [.lit (.bool false)], args := [d1, d2, d3] }
  | _ => none }
def FnExactFrameAddWrongFalsely : Prop := fnExactFrameAddRow.holds Try.pinned (OpenSpec.ofChange fnExactFrameAddWrong)

/-- 'laws.FnExactFrameTake': WHATEVER THE INPUT: true; the input reads as it did. -/
def fnExactFrameTakeSpec : ChangeSpec := { name := "fnExactFrameTake", fn := fun _ => fun
  | [d1, d2, d3] => { results := [.lit (.bool true)], args := [d1, d2, d3] }
  | _ => none }
def fnExactFrameTakeRow : OpenClaim := { program := "ytpaepdlkjblfgaa", sum := "bc16b3ea1023b1e18241ed4bd5277d6008fa635de735985c87f5137e973ab662", func := "loop.example/countingboards/laws.FnExactFrameTake", spec := "fnExactFrameTake", unfollowed := true, recurses := true, apart := false }
def FnExactFrameTakeSaid : Prop := fnExactFrameTakeRow.holds Try.pinned (OpenSpec.ofChange fnExactFrameTakeSpec)

/-- ITS FALSE NEIGHBOUR: 'it returns false'. Refute it at one input. -/
def fnExactFrameTakeWrong : ChangeSpec := { name := "fnExactFrameTake", fn := fun _ => fun
  | [d1, d2, d3] => { results := [.lit (.bool false)], args := [d1, d2, d3] }
  | _ => none }
def FnExactFrameTakeWrongFalsely : Prop := fnExactFrameTakeRow.holds Try.pinned (OpenSpec.ofChange fnExactFrameTakeWrong)

/-- 'laws.FnExactFrameLess': WHATEVER THE INPUT: true; the input reads as it did. -/
def fnExactFrameLessSpec : ChangeSpec := { name := "fnExactFrameLess", fn := fun _ => fun
  | [d1, d2] => { results := [.lit (.bool true)], args := [d1, d2] }
  | _ => none }
def fnExactFrameLessRow : OpenClaim := { program := "ytpaepdlkjblfgaa", sum := "bc16b3ea1023b1e18241ed4bd5277d6008fa635de735985c87f5137e973ab662", func := "loop.example/countingboards/laws.FnExactFrameLess", spec := "fnExactFrameLess", unfollowed := true, recurses := true, apart := false }
def FnExactFrameLessSaid : Prop := fnExactFrameLessRow.holds Try.pinned (OpenSpec.ofChange fnExactFrameLessSpec)

/-- ITS FALSE NEIGHBOUR: 'it returns false'. Refute it at one input. -/
def fnExactFrameLessWrong : ChangeSpec := { name := "fnExactFrameLess", fn := fun _ => fun
  | [d1, d2] => { results := [.lit (.bool false)], args := [d1, d2] }
  | _ => none }
def FnExactFrameLessWrongFalsely : Prop := fnExactFrameLessRow.holds Try.pinned (OpenSpec.ofChange fnExactFrameLessWrong)

/-- 'laws.FnExactFrameSum': WHATEVER THE INPUT: true; the input reads as it did. -/
def fnExactFrameSumSpec : ChangeSpec := { name := "fnExactFrameSum", fn := fun _ => fun
  | [d1, d2] => { results := [.lit (.bool true)], args := [d1, d2] }
  | _ => none }
def fnExactFrameSumRow : OpenClaim := { program := "ytpaepdlkjblfgaa", sum := "bc16b3ea1023b1e18241ed4bd5277d6008fa635de735985c87f5137e973ab662", func := "loop.example/countingboards/laws.FnExactFrameSum", spec := "fnExactFrameSum", unfollowed := true, recurses := true, apart := false }
def FnExactFrameSumSaid : Prop := fnExactFrameSumRow.holds Try.pinned (OpenSpec.ofChange fnExactFrameSumSpec)

/-- ITS FALSE NEIGHBOUR: 'it returns false'. Refute it at one input. -/
def fnExactFrameSumWrong : ChangeSpec := { name := "fnExactFrameSum", fn := fun _ => fun
  | [d1, d2] => { results := [.lit (.bool false)], args := [d1, d2] }
  | _ => none }
def FnExactFrameSumWrongFalsely : Prop := fnExactFrameSumRow.holds Try.pinned (OpenSpec.ofChange fnExactFrameSumWrong)

/-- 'laws.FnFrameTake': WHATEVER THE INPUT: true; the input reads as it did. -/
def fnFrameTakeSpec : ChangeSpec := { name := "fnFrameTake", fn := fun _ => fun
  | [d] => { results := [.lit (.bool true)], args := [d] }
  | _ => none }
def fnFrameTakeRow : OpenClaim := { program := "ytpaepdlkjblfgaa", sum := "bc16b3ea1023b1e18241ed4bd5277d6008fa635de735985c87f5137e973ab662", func := "loop.example/countingboards/laws.FnFrameTake", spec := "fnFrameTake", unfollowed := true, recurses := true, apart := false }
def FnFrameTakeSaid : Prop := fnFrameTakeRow.holds Try.pinned (OpenSpec.ofChange fnFrameTakeSpec)

/-- ITS FALSE NEIGHBOUR: 'it returns false'. Refute it at one input. -/
def fnFrameTakeWrong : ChangeSpec := { name := "fnFrameTake", fn := fun _ => fun
  | [d] => { results := [.lit (.bool false)], args := [d] }
  | _ => none }
def FnFrameTakeWrongFalsely : Prop := fnFrameTakeRow.holds Try.pinned (OpenSpec.ofChange fnFrameTakeWrong)

/-- 'laws.FnFrameAdd': WHATEVER THE INPUT: true; the input reads as it did. -/
def fnFrameAddSpec : ChangeSpec := { name := "fnFrameAdd", fn := fun _ => fun
  | [d] => { results := [.lit (.bool true)], args := [d] }
  | _ => none }
def fnFrameAddRow : OpenClaim := { program := "ytpaepdlkjblfgaa", sum := "bc16b3ea1023b1e18241ed4bd5277d6008fa635de735985c87f5137e973ab662", func := "loop.example/countingboards/laws.FnFrameAdd", spec := "fnFrameAdd", unfollowed := true, recurses := true, apart := false }
def FnFrameAddSaid : Prop := fnFrameAddRow.holds Try.pinned (OpenSpec.ofChange fnFrameAddSpec)

/-- ITS FALSE NEIGHBOUR: 'it returns false'. Refute it at one input. -/
def fnFrameAddWrong : ChangeSpec := { name := "fnFrameAdd", fn := fun _ => fun
  | [d] => { results := [.lit (.bool false)], args := [d] }
  | _ => none }
def FnFrameAddWrongFalsely : Prop := fnFrameAddRow.holds Try.pinned (OpenSpec.ofChange fnFrameAddWrong)

/-- 'laws.FnFrameSum': WHATEVER THE INPUT: true; the input reads as it did. -/
def fnFrameSumSpec : ChangeSpec := { name := "fnFrameSum", fn := fun _ => fun
  | [d] => { results := [.lit (.bool true)], args := [d] }
  | _ => none }
def fnFrameSumRow : OpenClaim := { program := "ytpaepdlkjblfgaa", sum := "bc16b3ea1023b1e18241ed4bd5277d6008fa635de735985c87f5137e973ab662", func := "loop.example/countingboards/laws.FnFrameSum", spec := "fnFrameSum", unfollowed := true, recurses := true, apart := false }
def FnFrameSumSaid : Prop := fnFrameSumRow.holds Try.pinned (OpenSpec.ofChange fnFrameSumSpec)

/-- ITS FALSE NEIGHBOUR: 'it returns false'. Refute it at one input. -/
def fnFrameSumWrong : ChangeSpec := { name := "fnFrameSum", fn := fun _ => fun
  | [d] => { results := [.lit (.bool false)], args := [d] }
  | _ => none }
def FnFrameSumWrongFalsely : Prop := fnFrameSumRow.holds Try.pinned (OpenSpec.ofChange fnFrameSumWrong)

/-- 'laws.FnFrameLess': WHATEVER THE INPUT: true; the input reads as it did. -/
def fnFrameLessSpec : ChangeSpec := { name := "fnFrameLess", fn := fun _ => fun
  | [d] => { results := [.lit (.bool true)], args := [d] }
  | _ => none }
def fnFrameLessRow : OpenClaim := { program := "ytpaepdlkjblfgaa", sum := "bc16b3ea1023b1e18241ed4bd5277d6008fa635de735985c87f5137e973ab662", func := "loop.example/countingboards/laws.FnFrameLess", spec := "fnFrameLess", unfollowed := true, recurses := true, apart := false }
def FnFrameLessSaid : Prop := fnFrameLessRow.holds Try.pinned (OpenSpec.ofChange fnFrameLessSpec)

/-- ITS FALSE NEIGHBOUR: 'it returns false'. Refute it at one input. -/
def fnFrameLessWrong : ChangeSpec := { name := "fnFrameLess", fn := fun _ => fun
  | [d] => { results := [.lit (.bool false)], args := [d] }
  | _ => none }
def FnFrameLessWrongFalsely : Prop := fnFrameLessRow.holds Try.pinned (OpenSpec.ofChange fnFrameLessWrong)

/- THE SECOND FORM. 'bulk': how many values and letters a reading holds, each counted each time it is reached (what is shared counts as often as it is met; a slice's spare places count too). A statement '..UptoSaid' is the law's where the arguments, and the package variables that the reading takes, are together of bulk at most 1048576: NARROWER than '..Said'. Prove '..Said' where nothing that the law and all that it calls make is longer than what came in: it says more and counts as full. Else prove '..UptoSaid'. A law counts once. -/
mutual
def uptoBulk {H : Type} : DataW H → Nat
  | .lit (.string bytes) => bytes.length + 1
  | .lit _ => 1
  | .nil => 1
  | .ptr d => uptoBulk d + 1
  | .slice elems spare => uptoBulkAll elems + uptoBulkAll spare + 1
  | .agg parts => uptoBulkAll parts + 1
  | .iface _ d => uptoBulk d + 1
  | .map entries => uptoBulkEntries entries + 1
  | .held _ => 1
def uptoBulkAll {H : Type} : List (DataW H) → Nat
  | [] => 0
  | d :: r => uptoBulk d + uptoBulkAll r
def uptoBulkEntries {H : Type} : List (Lit × DataW H) → Nat
  | [] => 0
  | x :: r => uptoBulkEntry x + uptoBulkEntries r
def uptoBulkEntry {H : Type} : Lit × DataW H → Nat
  | (.string bytes, d) => bytes.length + uptoBulk d + 1
  | (_, d) => uptoBulk d + 1
 end
def uptoSmall : (H : Type) → List (DataW H) → Bool := fun _ ds => decide (uptoBulkAll ds ≤ 1048576)
def OpenSpec.upto (s : _root_.Go.ChangeSpec) : _root_.Go.OpenSpec := { _root_.Go.OpenSpec.ofChange s with cond := some uptoSmall }

/-- 'laws.FnFrameDigit', WHERE WHAT IT READS IS OF BULK AT MOST 1048576: true; the input reads as it did. -/
def fnFrameDigitUptoRow : OpenClaim := { program := "ytpaepdlkjblfgaa", sum := "bc16b3ea1023b1e18241ed4bd5277d6008fa635de735985c87f5137e973ab662", func := "loop.example/countingboards/laws.FnFrameDigit", spec := "fnFrameDigit", unfollowed := true, recurses := true, apart := false, narrowed := true }
def FnFrameDigitUptoSaid : Prop := fnFrameDigitUptoRow.holds Try.pinned (OpenSpec.upto fnFrameDigitSpec)

/-- 'laws.FnFrameSumFails', WHERE WHAT IT READS IS OF BULK AT MOST 1048576: true; the input reads as it did. -/
def fnFrameSumFailsUptoRow : OpenClaim := { program := "ytpaepdlkjblfgaa", sum := "bc16b3ea1023b1e18241ed4bd5277d6008fa635de735985c87f5137e973ab662", func := "loop.example/countingboards/laws.FnFrameSumFails", spec := "fnFrameSumFails", unfollowed := true, recurses := true, apart := false, narrowed := true }
def FnFrameSumFailsUptoSaid : Prop := fnFrameSumFailsUptoRow.holds Try.pinned (OpenSpec.upto fnFrameSumFailsSpec)

/-- 'laws.FnFrameShift', WHERE WHAT IT READS IS OF BULK AT MOST 1048576: true; the input reads as it did. -/
def fnFrameShiftUptoRow : OpenClaim := { program := "ytpaepdlkjblfgaa", sum := "bc16b3ea1023b1e18241ed4bd5277d6008fa635de735985c87f5137e973ab662", func := "loop.example/countingboards/laws.FnFrameShift", spec := "fnFrameShift", unfollowed := true, recurses := true, apart := false, narrowed := true }
def FnFrameShiftUptoSaid : Prop := fnFrameShiftUptoRow.holds Try.pinned (OpenSpec.upto fnFrameShiftSpec)

/-- 'laws.FnExactFrameAdd', WHERE WHAT IT READS IS OF BULK AT MOST 1048576: true; the input reads as it did. -/
def fnExactFrameAddUptoRow : OpenClaim := { program := "ytpaepdlkjblfgaa", sum := "bc16b3ea1023b1e18241ed4bd5277d6008fa635de735985c87f5137e973ab662", func := "loop.example/countingboards/laws.FnExactFrameAdd", spec := "fnExactFrameAdd", unfollowed := true, recurses := true, apart := false, narrowed := true }
def FnExactFrameAddUptoSaid : Prop := fnExactFrameAddUptoRow.holds Try.pinned (OpenSpec.upto fnExactFrameAddSpec)

/-- 'laws.FnExactFrameTake', WHERE WHAT IT READS IS OF BULK AT MOST 1048576: true; the input reads as it did. -/
def fnExactFrameTakeUptoRow : OpenClaim := { program := "ytpaepdlkjblfgaa", sum := "bc16b3ea1023b1e18241ed4bd5277d6008fa635de735985c87f5137e973ab662", func := "loop.example/countingboards/laws.FnExactFrameTake", spec := "fnExactFrameTake", unfollowed := true, recurses := true, apart := false, narrowed := true }
def FnExactFrameTakeUptoSaid : Prop := fnExactFrameTakeUptoRow.holds Try.pinned (OpenSpec.upto fnExactFrameTakeSpec)

/-- 'laws.FnExactFrameLess', WHERE WHAT IT READS IS OF BULK AT MOST 1048576: true; the input reads as it did. -/
def fnExactFrameLessUptoRow : OpenClaim := { program := "ytpaepdlkjblfgaa", sum := "bc16b3ea1023b1e18241ed4bd5277d6008fa635de735985c87f5137e973ab662", func := "loop.example/countingboards/laws.FnExactFrameLess", spec := "fnExactFrameLess", unfollowed := true, recurses := true, apart := false, narrowed := true }
def FnExactFrameLessUptoSaid : Prop := fnExactFrameLessUptoRow.holds Try.pinned (OpenSpec.upto fnExactFrameLessSpec)

/-- 'laws.FnExactFrameSum', WHERE WHAT IT READS IS OF BULK AT MOST 1048576: true; the input reads as it did. -/
def fnExactFrameSumUptoRow : OpenClaim := { program := "ytpaepdlkjblfgaa", sum := "bc16b3ea1023b1e18241ed4bd5277d6008fa635de735985c87f5137e973ab662", func := "loop.example/countingboards/laws.FnExactFrameSum", spec := "fnExactFrameSum", unfollowed := true, recurses := true, apart := false, narrowed := true }
def FnExactFrameSumUptoSaid : Prop := fnExactFrameSumUptoRow.holds Try.pinned (OpenSpec.upto fnExactFrameSumSpec)

/-- 'laws.FnFrameTake', WHERE WHAT IT READS IS OF BULK AT MOST 1048576: true; the input reads as it did. -/
def fnFrameTakeUptoRow : OpenClaim := { program := "ytpaepdlkjblfgaa", sum := "bc16b3ea1023b1e18241ed4bd5277d6008fa635de735985c87f5137e973ab662", func := "loop.example/countingboards/laws.FnFrameTake", spec := "fnFrameTake", unfollowed := true, recurses := true, apart := false, narrowed := true }
def FnFrameTakeUptoSaid : Prop := fnFrameTakeUptoRow.holds Try.pinned (OpenSpec.upto fnFrameTakeSpec)

/-- 'laws.FnFrameAdd', WHERE WHAT IT READS IS OF BULK AT MOST 1048576: true; the input reads as it did. -/
def fnFrameAddUptoRow : OpenClaim := { program := "ytpaepdlkjblfgaa", sum := "bc16b3ea1023b1e18241ed4bd5277d6008fa635de735985c87f5137e973ab662", func := "loop.example/countingboards/laws.FnFrameAdd", spec := "fnFrameAdd", unfollowed := true, recurses := true, apart := false, narrowed := true }
def FnFrameAddUptoSaid : Prop := fnFrameAddUptoRow.holds Try.pinned (OpenSpec.upto fnFrameAddSpec)

/-- 'laws.FnFrameSum', WHERE WHAT IT READS IS OF BULK AT MOST 1048576: true; the input reads as it did. -/
def fnFrameSumUptoRow : OpenClaim := { program := "ytpaepdlkjblfgaa", sum := "bc16b3ea1023b1e18241ed4bd5277d6008fa635de735985c87f5137e973ab662", func := "loop.example/countingboards/laws.FnFrameSum", spec := "fnFrameSum", unfollowed := true, recurses := true, apart := false, narrowed := true }
def FnFrameSumUptoSaid : Prop := fnFrameSumUptoRow.holds Try.pinned (OpenSpec.upto fnFrameSumSpec)

/-- 'laws.FnFrameLess', WHERE WHAT IT READS IS OF BULK AT MOST 1048576: true; the input reads as it did. -/
def fnFrameLessUptoRow : OpenClaim := { program := "ytpaepdlkjblfgaa", sum := "bc16b3ea1023b1e18241ed4bd5277d6008fa635de735985c87f5137e973ab662", func := "loop.example/countingboards/laws.FnFrameLess", spec := "fnFrameLess", unfollowed := true, recurses := true, apart := false, narrowed := true }
def FnFrameLessUptoSaid : Prop := fnFrameLessUptoRow.holds Try.pinned (OpenSpec.upto fnFrameLessSpec)

end Rows
end Go.Proofs.Ytpaepdlkjblfgaa
