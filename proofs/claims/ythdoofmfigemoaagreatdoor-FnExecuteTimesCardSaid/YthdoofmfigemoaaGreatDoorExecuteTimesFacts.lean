/-
  The closed facts of FnExecuteTimes's row, one by one.
-/
import Derived.Test.YthdoofmfigemoaaGreatDoorRows
import Derived.JoinedOf
import Derived.ProofKit
namespace Go.Proofs.YthdoofmfigemoaaGreatDoor.fnExecuteTimes
open Go.RowKit
set_option maxRecDepth 100000

theorem fact1 : (Rows.fnExecuteTimesRow.wf (OpenSpec.ofChange Rows.fnExecuteTimesSpec)) = true := by kernel_rfl
theorem fact2 : (laidOutB Tryz.prog) = true := by kernel_rfl
theorem fact3 : (mapsRowed Tryz.prog) = true := by kernel_rfl
theorem fact4 : (Tryz.f9.params.all (Tryz.prog.readableRec ·)) = true := by kernel_rfl
theorem fact5 : (namedTie Tryz.prog Rows.fnExecuteTimesRow.named Rows.fnExecuteTimesSpec.vars) = true := by kernel_rfl
theorem fact6 : ((Rows.fnExecuteTimesRow.stops == [])) = true := by kernel_rfl
theorem fact7 : ((Tryz.prog.stops == [])) = true := by kernel_rfl
theorem fact8 : ((Rows.fnExecuteTimesRow.knobs == [])) = true := by kernel_rfl
theorem fact9 : ((Tryz.prog.stopKnobs == [])) = true := by kernel_rfl
theorem fact10 : ((Rows.fnExecuteTimesRow.inPlace == Tryz.prog.inPlace 9)) = true := by kernel_rfl
theorem fact11 : ((Rows.fnExecuteTimesRow.unfollowed == Tryz.prog.unfollowed 9)) = true := by kernel_rfl
theorem fact12 : ((Rows.fnExecuteTimesRow.recurses == Tryz.prog.recurses 9)) = true := by kernel_rfl
theorem fact13 : ((Rows.fnExecuteTimesRow.named == Tryz.prog.varsNamed 9)) = true := by kernel_rfl
theorem fact14 : ((Rows.fnExecuteTimesRow.maps == (Tryz.f9.params.toList ++ Rows.fnExecuteTimesSpec.plain.varTypes Tryz.prog).any (Tryz.prog.mapsRec ·))) = true := by kernel_rfl
theorem fact15 : ((Rows.fnExecuteTimesRow.ifaces == (Tryz.f9.params.toList ++ Rows.fnExecuteTimesSpec.plain.varTypes Tryz.prog).any (Tryz.prog.ifacesRec ·))) = true := by kernel_rfl
theorem fact16 : ((Rows.fnExecuteTimesRow.mapsOut == Tryz.prog.mapsAmong Tryz.f9.resultTypes.toList)) = true := by kernel_rfl
theorem fact17 : ((Rows.fnExecuteTimesRow.loops == (Tryz.f9.params.toList ++ Rows.fnExecuteTimesSpec.plain.varTypes Tryz.prog).any (Tryz.prog.loopsFrom ·))) = true := by kernel_rfl
theorem fact18 : ((Rows.fnExecuteTimesRow.wideKeys == (Tryz.f9.params.toList ++ Rows.fnExecuteTimesSpec.plain.varTypes Tryz.prog ++ Tryz.f9.resultTypes.toList).any (Tryz.prog.wideKeysFrom ·))) = true := by kernel_rfl
theorem fact19 : (Rows.fnExecuteTimesSpec.vars.all (Tryz.prog.varReadable ·)) = true := by kernel_rfl
theorem fact20 : (Tryz.f9.resultTypes.all (fun t => Tryz.prog.readableRec t && decide (t < Tryz.prog.types.size))) = true := by kernel_rfl
theorem fact21 : ((Rows.fnExecuteTimesRow.ifacesOut == Tryz.f9.resultTypes.toList.any (Tryz.prog.ifacesRec ·))) = true := by kernel_rfl
theorem fact22 : ((Rows.fnExecuteTimesRow.loopsOut == Tryz.f9.resultTypes.toList.any (Tryz.prog.loopsFrom ·))) = true := by kernel_rfl
theorem fact23 : ((Rows.fnExecuteTimesRow.plainKeys == Tryz.prog.plainKeys)) = true := by kernel_rfl
theorem fact24 : (Rows.fnExecuteTimesRow.shortTexts.isNone) = true := by kernel_rfl
theorem fact25 : (Tryz.prog.stopsHeard) = true := by kernel_rfl
theorem fact26 : (Tryz.prog.mayEnter) = true := by kernel_rfl
theorem fact27 : ((Rows.fnExecuteTimesRow.lifted == Tryz.prog.liftsFinal)) = true := by kernel_rfl
theorem fact28 : ((Tryz.prog.make == some Rows.fnExecuteTimesRow.make)) = true := by kernel_rfl
theorem fact29 : ((Rows.fnExecuteTimesRow.kinds == (if Rows.fnExecuteTimesRow.domain.isEmpty then [] else Tryz.f9.params.toList.map fun t => match Tryz.prog.underlying t with | some (.int k) => some k | _ => Option.none))) = true := by kernel_rfl
theorem fact30 : ((Rows.fnExecuteTimesRow.pinned == Rows.fnExecuteTimesRow.pinnedBy)) = true := by kernel_rfl
theorem fact31 : ((Rows.fnExecuteTimesRow.veiled == (Tryz.f9.params.toList ++ Rows.fnExecuteTimesSpec.plain.varTypes Tryz.prog ++ Tryz.f9.resultTypes.toList).any (Tryz.prog.veiledRec ·))) = true := by kernel_rfl
theorem fact32 : (Rows.fnExecuteTimesRow.veiledFits Tryz.prog Tryz.f9.params.toList (Tryz.f9.params.toList ++ Rows.fnExecuteTimesSpec.plain.varTypes Tryz.prog ++ Tryz.f9.resultTypes.toList)) = true := by kernel_rfl
theorem facts : joinedFacts Tryz.pinned.checked.prog 9 Tryz.f9 Rows.fnExecuteTimesSpec Rows.fnExecuteTimesRow = true := by
  unfold joinedFacts
  simp only [Bool.and_eq_true]
  exact ⟨⟨⟨⟨⟨⟨⟨⟨⟨⟨⟨⟨⟨⟨⟨⟨⟨⟨⟨⟨⟨⟨⟨⟨⟨⟨⟨⟨⟨⟨⟨fact1, fact2⟩, fact3⟩, fact4⟩, fact5⟩, fact6⟩, fact7⟩, fact8⟩, fact9⟩, fact10⟩, fact11⟩, fact12⟩, fact13⟩, fact14⟩, fact15⟩, fact16⟩, fact17⟩, fact18⟩, fact19⟩, fact20⟩, fact21⟩, fact22⟩, fact23⟩, fact24⟩, fact25⟩, fact26⟩, fact27⟩, fact28⟩, fact29⟩, fact30⟩, fact31⟩, fact32⟩
end Go.Proofs.YthdoofmfigemoaaGreatDoor.fnExecuteTimes
