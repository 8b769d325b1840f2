/-
  DERIVED. GIVEN WITH THE SEED: THE CARDS: each row of YthdoofmfigemoaaGreatDoorRows.lean that lists a variable, with what it lists TIED to the program's text (the seventh form; the later family's looks); each row that meets fmt, with fmt's text TOLD by the authors' own Lean function (tested against real Go, not proved from fmt's source: count such statements apart). THE CARD IS WHAT COUNTS. Prove the row's statement (the work); the ties are given (YthdoofmfigemoaaGreatDoorTie.lean); close each card by the builder's one call (the guide's Derived/Test/ToyasCard.lean, 'card_holds'). Laid BY PROGRAM, IN A SANDBOX (cutbox-door.mjs). By AI agents, Wed Nov 11 2026. No macro, syntax, notation, axiom, sorry.
-/
import Derived.Test.YthdoofmfigemoaaGreatDoorRows
import GoSem.ClaimSeven
namespace Go.Proofs.YthdoofmfigemoaaGreatDoor
namespace Rows

/-- THE TIED CARD OF 'laws.FnExecuteNone'. -/
def fnExecuteNoneCard : Claim7 := { stood := { row := fnExecuteNoneRow, standIns := [], harness := (true, "17fc967171178923b44e86461e71a9ec3add025be0e37e1f9306cc7a5cf26f80"), looks := true }, kinds := [], alts := [], laidByText := true, laidKinds := [.data, .data, .data, .data, .pinned], laidTests := true, laidLooks := .later }
def FnExecuteNoneCardSaid : Prop := Claim7.holds Tryz.pinned (.plain (OpenSpec.ofChange fnExecuteNoneSpec)) fnExecuteNoneCard

/-- THE TIED CARD OF 'laws.FnExecuteTwice'. -/
def fnExecuteTwiceCard : Claim7 := { stood := { row := fnExecuteTwiceRow, standIns := [], harness := (true, "17fc967171178923b44e86461e71a9ec3add025be0e37e1f9306cc7a5cf26f80"), looks := true }, kinds := [], alts := [], laidByText := true, laidKinds := [.data, .data, .data, .data, .pinned], laidTests := true, laidLooks := .later }
def FnExecuteTwiceCardSaid : Prop := Claim7.holds Tryz.pinned (.plain (OpenSpec.ofChange fnExecuteTwiceSpec)) fnExecuteTwiceCard

/-- THE TIED CARD OF 'laws.FnExecuteWhat'. -/
def fnExecuteWhatCard : Claim7 := { stood := { row := fnExecuteWhatRow, standIns := [], harness := (true, "17fc967171178923b44e86461e71a9ec3add025be0e37e1f9306cc7a5cf26f80"), looks := true }, kinds := [], alts := [], laidByText := true, laidKinds := [.data, .data, .data, .data, .pinned], laidTests := true, laidLooks := .later }
def FnExecuteWhatCardSaid : Prop := Claim7.holds Tryz.pinned (.plain (OpenSpec.ofChange fnExecuteWhatSpec)) fnExecuteWhatCard

/-- THE TIED CARD OF 'laws.FnExecuteFrame'. -/
def fnExecuteFrameCard : Claim7 := { stood := { row := fnExecuteFrameRow, standIns := [], harness := (true, "17fc967171178923b44e86461e71a9ec3add025be0e37e1f9306cc7a5cf26f80"), looks := true }, kinds := [], alts := [], laidByText := true, laidKinds := [.data, .data, .data, .data, .pinned], laidTests := true, laidLooks := .later }
def FnExecuteFrameCardSaid : Prop := Claim7.holds Tryz.pinned (.plain (OpenSpec.ofChange fnExecuteFrameSpec)) fnExecuteFrameCard

/-- THE TIED CARD OF 'laws.FnExecuteLay'. -/
def fnExecuteLayCard : Claim7 := { stood := { row := fnExecuteLayRow, standIns := [], harness := (true, "17fc967171178923b44e86461e71a9ec3add025be0e37e1f9306cc7a5cf26f80"), looks := true }, kinds := [], alts := [], laidByText := true, laidKinds := [.data, .data, .data, .data, .pinned], laidTests := true, laidLooks := .later }
def FnExecuteLayCardSaid : Prop := Claim7.holds Tryz.pinned (.plain (OpenSpec.ofChange fnExecuteLaySpec)) fnExecuteLayCard

/-- THE TIED CARD OF 'laws.FnExecuteRoot'. -/
def fnExecuteRootCard : Claim7 := { stood := { row := fnExecuteRootRow, standIns := [], harness := (true, "17fc967171178923b44e86461e71a9ec3add025be0e37e1f9306cc7a5cf26f80"), looks := true }, kinds := [], alts := [], laidByText := true, laidKinds := [.data, .data, .data, .data, .pinned], laidTests := true, laidLooks := .later }
def FnExecuteRootCardSaid : Prop := Claim7.holds Tryz.pinned (.plain (OpenSpec.ofChange fnExecuteRootSpec)) fnExecuteRootCard

/-- THE TIED CARD OF 'laws.FnExecuteTimes'. -/
def fnExecuteTimesCard : Claim7 := { stood := { row := fnExecuteTimesRow, standIns := [], harness := (true, "17fc967171178923b44e86461e71a9ec3add025be0e37e1f9306cc7a5cf26f80"), looks := true }, kinds := [], alts := [], laidByText := true, laidKinds := [.data, .data, .data, .data, .pinned], laidTests := true, laidLooks := .later }
def FnExecuteTimesCardSaid : Prop := Claim7.holds Tryz.pinned (.plain (OpenSpec.ofChange fnExecuteTimesSpec)) fnExecuteTimesCard

/-- THE TIED CARD OF 'laws.FnExecuteSettle'. -/
def fnExecuteSettleCard : Claim7 := { stood := { row := fnExecuteSettleRow, standIns := [], harness := (true, "17fc967171178923b44e86461e71a9ec3add025be0e37e1f9306cc7a5cf26f80"), looks := true }, kinds := [], alts := [], laidByText := true, laidKinds := [.data, .data, .data, .data, .pinned], laidTests := true, laidLooks := .later }
def FnExecuteSettleCardSaid : Prop := Claim7.holds Tryz.pinned (.plain (OpenSpec.ofChange fnExecuteSettleSpec)) fnExecuteSettleCard

/-- THE TIED CARD OF 'laws.FnExactExecute'. -/
def fnExactExecuteCard : Claim7 := { stood := { row := fnExactExecuteRow, standIns := [], harness := (true, "17fc967171178923b44e86461e71a9ec3add025be0e37e1f9306cc7a5cf26f80"), looks := true }, kinds := [], alts := [], laidByText := true, laidKinds := [.data, .data, .data, .data, .pinned], laidTests := true, laidLooks := .later }
def FnExactExecuteCardSaid : Prop := Claim7.holds Tryz.pinned (.plain (OpenSpec.ofChange fnExactExecuteSpec)) fnExactExecuteCard

/-- THE SECOND FORM's CARD OF 'laws.FnExecuteNone'. -/
def fnExecuteNoneUptoCard : Claim7 := { stood := { row := fnExecuteNoneUptoRow, standIns := [], harness := (true, "17fc967171178923b44e86461e71a9ec3add025be0e37e1f9306cc7a5cf26f80"), looks := true }, kinds := [], alts := [], laidByText := true, laidKinds := [.data, .data, .data, .data, .pinned], laidTests := true, laidLooks := .later }
def FnExecuteNoneUptoCardSaid : Prop := Claim7.holds Tryz.pinned (.plain (OpenSpec.upto fnExecuteNoneSpec)) fnExecuteNoneUptoCard

/-- THE SECOND FORM's CARD OF 'laws.FnExecuteTwice'. -/
def fnExecuteTwiceUptoCard : Claim7 := { stood := { row := fnExecuteTwiceUptoRow, standIns := [], harness := (true, "17fc967171178923b44e86461e71a9ec3add025be0e37e1f9306cc7a5cf26f80"), looks := true }, kinds := [], alts := [], laidByText := true, laidKinds := [.data, .data, .data, .data, .pinned], laidTests := true, laidLooks := .later }
def FnExecuteTwiceUptoCardSaid : Prop := Claim7.holds Tryz.pinned (.plain (OpenSpec.upto fnExecuteTwiceSpec)) fnExecuteTwiceUptoCard

/-- THE SECOND FORM's CARD OF 'laws.FnExecuteWhat'. -/
def fnExecuteWhatUptoCard : Claim7 := { stood := { row := fnExecuteWhatUptoRow, standIns := [], harness := (true, "17fc967171178923b44e86461e71a9ec3add025be0e37e1f9306cc7a5cf26f80"), looks := true }, kinds := [], alts := [], laidByText := true, laidKinds := [.data, .data, .data, .data, .pinned], laidTests := true, laidLooks := .later }
def FnExecuteWhatUptoCardSaid : Prop := Claim7.holds Tryz.pinned (.plain (OpenSpec.upto fnExecuteWhatSpec)) fnExecuteWhatUptoCard

/-- THE SECOND FORM's CARD OF 'laws.FnExecuteFrame'. -/
def fnExecuteFrameUptoCard : Claim7 := { stood := { row := fnExecuteFrameUptoRow, standIns := [], harness := (true, "17fc967171178923b44e86461e71a9ec3add025be0e37e1f9306cc7a5cf26f80"), looks := true }, kinds := [], alts := [], laidByText := true, laidKinds := [.data, .data, .data, .data, .pinned], laidTests := true, laidLooks := .later }
def FnExecuteFrameUptoCardSaid : Prop := Claim7.holds Tryz.pinned (.plain (OpenSpec.upto fnExecuteFrameSpec)) fnExecuteFrameUptoCard

/-- THE SECOND FORM's CARD OF 'laws.FnExecuteLay'. -/
def fnExecuteLayUptoCard : Claim7 := { stood := { row := fnExecuteLayUptoRow, standIns := [], harness := (true, "17fc967171178923b44e86461e71a9ec3add025be0e37e1f9306cc7a5cf26f80"), looks := true }, kinds := [], alts := [], laidByText := true, laidKinds := [.data, .data, .data, .data, .pinned], laidTests := true, laidLooks := .later }
def FnExecuteLayUptoCardSaid : Prop := Claim7.holds Tryz.pinned (.plain (OpenSpec.upto fnExecuteLaySpec)) fnExecuteLayUptoCard

/-- THE SECOND FORM's CARD OF 'laws.FnExecuteRoot'. -/
def fnExecuteRootUptoCard : Claim7 := { stood := { row := fnExecuteRootUptoRow, standIns := [], harness := (true, "17fc967171178923b44e86461e71a9ec3add025be0e37e1f9306cc7a5cf26f80"), looks := true }, kinds := [], alts := [], laidByText := true, laidKinds := [.data, .data, .data, .data, .pinned], laidTests := true, laidLooks := .later }
def FnExecuteRootUptoCardSaid : Prop := Claim7.holds Tryz.pinned (.plain (OpenSpec.upto fnExecuteRootSpec)) fnExecuteRootUptoCard

/-- THE SECOND FORM's CARD OF 'laws.FnExecuteTimes'. -/
def fnExecuteTimesUptoCard : Claim7 := { stood := { row := fnExecuteTimesUptoRow, standIns := [], harness := (true, "17fc967171178923b44e86461e71a9ec3add025be0e37e1f9306cc7a5cf26f80"), looks := true }, kinds := [], alts := [], laidByText := true, laidKinds := [.data, .data, .data, .data, .pinned], laidTests := true, laidLooks := .later }
def FnExecuteTimesUptoCardSaid : Prop := Claim7.holds Tryz.pinned (.plain (OpenSpec.upto fnExecuteTimesSpec)) fnExecuteTimesUptoCard

/-- THE SECOND FORM's CARD OF 'laws.FnExecuteSettle'. -/
def fnExecuteSettleUptoCard : Claim7 := { stood := { row := fnExecuteSettleUptoRow, standIns := [], harness := (true, "17fc967171178923b44e86461e71a9ec3add025be0e37e1f9306cc7a5cf26f80"), looks := true }, kinds := [], alts := [], laidByText := true, laidKinds := [.data, .data, .data, .data, .pinned], laidTests := true, laidLooks := .later }
def FnExecuteSettleUptoCardSaid : Prop := Claim7.holds Tryz.pinned (.plain (OpenSpec.upto fnExecuteSettleSpec)) fnExecuteSettleUptoCard

/-- THE SECOND FORM's CARD OF 'laws.FnExactExecute'. -/
def fnExactExecuteUptoCard : Claim7 := { stood := { row := fnExactExecuteUptoRow, standIns := [], harness := (true, "17fc967171178923b44e86461e71a9ec3add025be0e37e1f9306cc7a5cf26f80"), looks := true }, kinds := [], alts := [], laidByText := true, laidKinds := [.data, .data, .data, .data, .pinned], laidTests := true, laidLooks := .later }
def FnExactExecuteUptoCardSaid : Prop := Claim7.holds Tryz.pinned (.plain (OpenSpec.upto fnExactExecuteSpec)) fnExactExecuteUptoCard
end Rows
end Go.Proofs.YthdoofmfigemoaaGreatDoor
