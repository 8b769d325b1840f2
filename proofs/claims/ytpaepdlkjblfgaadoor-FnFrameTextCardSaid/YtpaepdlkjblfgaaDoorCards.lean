/-
  DERIVED. GIVEN WITH THE SEED: THE CARDS: each row of YtpaepdlkjblfgaaDoorRows.lean that lists a variable, with what it lists TIED to the program's text (the seventh form; the later family's looks); each row that meets fmt, with fmt's text TOLD by the authors' own Lean function (tested against real Go, not proved from fmt's source: count such statements apart). THE CARD IS WHAT COUNTS. Prove the row's statement (the work); the ties are given (YtpaepdlkjblfgaaDoorTie.lean); close each card by the builder's one call (the guide's Derived/Test/ToyasCard.lean, 'card_holds'). Laid BY PROGRAM, IN A SANDBOX (cutbox-door.mjs). By AI agents, Wed Nov 11 2026. No macro, syntax, notation, axiom, sorry.
-/
import Derived.Test.YtpaepdlkjblfgaaDoorRows
import GoSem.ClaimSeven
namespace Go.Proofs.YtpaepdlkjblfgaaDoor
namespace Rows

/-- THE TIED CARD OF 'laws.FnFrameText'. -/
def fnFrameTextCard : Claim7 := { stood := { row := fnFrameTextRow, standIns := [], harness := (true, "a337ecf7b8fbf892d923efffcd47e85fec30dce7904ba33154efd623d6443716"), looks := false }, kinds := [], alts := [], laidByText := true, laidKinds := [.data, .data, .data], laidTests := true, laidLooks := .later }
def FnFrameTextCardSaid : Prop := Claim7.holds Tryd.pinned (.plain (OpenSpec.ofChange fnFrameTextSpec)) fnFrameTextCard

/-- THE SECOND FORM's CARD OF 'laws.FnFrameText'. -/
def fnFrameTextUptoCard : Claim7 := { stood := { row := fnFrameTextUptoRow, standIns := [], harness := (true, "a337ecf7b8fbf892d923efffcd47e85fec30dce7904ba33154efd623d6443716"), looks := false }, kinds := [], alts := [], laidByText := true, laidKinds := [.data, .data, .data], laidTests := true, laidLooks := .later }
def FnFrameTextUptoCardSaid : Prop := Claim7.holds Tryd.pinned (.plain (OpenSpec.upto fnFrameTextSpec)) fnFrameTextUptoCard
end Rows
end Go.Proofs.YtpaepdlkjblfgaaDoor
