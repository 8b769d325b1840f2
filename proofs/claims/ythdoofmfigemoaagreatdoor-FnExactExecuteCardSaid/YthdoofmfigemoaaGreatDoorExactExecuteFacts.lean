/-
  The closed facts of FnExactExecute's row, one by one.
-/
import Derived.Test.YthdoofmfigemoaaGreatDoorRows
import Derived.JoinedOf
import Derived.ProofKit
namespace Go.Proofs.YthdoofmfigemoaaGreatDoor.fnExactExecute
open Go.RowKit
set_option maxRecDepth 100000

theorem fact1 : (Rows.fnExactExecuteRow.wf (OpenSpec.ofChange Rows.fnExactExecuteSpec)) = true := by kernel_rfl
theorem fact2 : (laidOutB Tryz.prog) = true := by kernel_rfl
theorem fact3 : (mapsRowed Tryz.prog) = true := by kernel_rfl
theorem fact4 : (Tryz.f11.params.all (Tryz.prog.readableRec ·)) = true := by kernel_rfl
theorem fact5 : (namedTie Tryz.prog Rows.fnExactExecuteRow.named Rows.fnExactExecuteSpec.vars) = true := by kernel_rfl
theorem fact6 : ((Rows.fnExactExecuteRow.stops == [])) = true := by kernel_rfl
theorem fact7 : ((Tryz.prog.stops == [])) = true := by kernel_rfl
theorem fact8 : ((Rows.fnExactExecuteRow.knobs == [])) = true := by kernel_rfl
theorem fact9 : ((Tryz.prog.stopKnobs == [])) = true := by kernel_rfl
theorem fact10 : ((Rows.fnExactExecuteRow.inPlace == Tryz.prog.inPlace 11)) = true := by kernel_rfl
theorem fact11 : ((Rows.fnExactExecuteRow.unfollowed == Tryz.prog.unfollowed 11)) = true := by kernel_rfl
theorem fact12 : ((Rows.fnExactExecuteRow.recurses == Tryz.prog.recurses 11)) = true := by kernel_rfl
theorem fact13 : ((Rows.fnExactExecuteRow.named == Tryz.prog.varsNamed 11)) = true := by kernel_rfl
theorem fact14 : ((Rows.fnExactExecuteRow.maps == (Tryz.f11.params.toList ++ Rows.fnExactExecuteSpec.plain.varTypes Tryz.prog).any (Tryz.prog.mapsRec ·))) = true := by kernel_rfl
theorem fact15 : ((Rows.fnExactExecuteRow.ifaces == (Tryz.f11.params.toList ++ Rows.fnExactExecuteSpec.plain.varTypes Tryz.prog).any (Tryz.prog.ifacesRec ·))) = true := by kernel_rfl
theorem fact16 : ((Rows.fnExactExecuteRow.mapsOut == Tryz.prog.mapsAmong Tryz.f11.resultTypes.toList)) = true := by kernel_rfl
theorem fact17 : ((Rows.fnExactExecuteRow.loops == (Tryz.f11.params.toList ++ Rows.fnExactExecuteSpec.plain.varTypes Tryz.prog).any (Tryz.prog.loopsFrom ·))) = true := by kernel_rfl
theorem fact18 : ((Rows.fnExactExecuteRow.wideKeys == (Tryz.f11.params.toList ++ Rows.fnExactExecuteSpec.plain.varTypes Tryz.prog ++ Tryz.f11.resultTypes.toList).any (Tryz.prog.wideKeysFrom ·))) = true := by kernel_rfl
theorem fact19 : (Rows.fnExactExecuteSpec.vars.all (Tryz.prog.varReadable ·)) = true := by kernel_rfl
theorem fact20 : (Tryz.f11.resultTypes.all (fun t => Tryz.prog.readableRec t && decide (t < Tryz.prog.types.size))) = true := by kernel_rfl
theorem fact21 : ((Rows.fnExactExecuteRow.ifacesOut == Tryz.f11.resultTypes.toList.any (Tryz.prog.ifacesRec ·))) = true := by kernel_rfl
theorem fact22 : ((Rows.fnExactExecuteRow.loopsOut == Tryz.f11.resultTypes.toList.any (Tryz.prog.loopsFrom ·))) = true := by kernel_rfl
theorem fact23 : ((Rows.fnExactExecuteRow.plainKeys == Tryz.prog.plainKeys)) = true := by kernel_rfl
theorem fact24 : (Rows.fnExactExecuteRow.shortTexts.isNone) = true := by kernel_rfl
theorem fact25 : (Tryz.prog.stopsHeard) = true := by kernel_rfl
theorem fact26 : (Tryz.prog.mayEnter) = true := by kernel_rfl
theorem fact27 : ((Rows.fnExactExecuteRow.lifted == Tryz.prog.liftsFinal)) = true := by kernel_rfl
theorem fact28 : ((Tryz.prog.make == some Rows.fnExactExecuteRow.make)) = true := by kernel_rfl
theorem fact29 : ((Rows.fnExactExecuteRow.kinds == (if Rows.fnExactExecuteRow.domain.isEmpty then [] else Tryz.f11.params.toList.map fun t => match Tryz.prog.underlying t with | some (.int k) => some k | _ => Option.none))) = true := by kernel_rfl
theorem fact30 : ((Rows.fnExactExecuteRow.pinned == Rows.fnExactExecuteRow.pinnedBy)) = true := by kernel_rfl
theorem fact31 : ((Rows.fnExactExecuteRow.veiled == (Tryz.f11.params.toList ++ Rows.fnExactExecuteSpec.plain.varTypes Tryz.prog ++ Tryz.f11.resultTypes.toList).any (Tryz.prog.veiledRec ·))) = true := by kernel_rfl
theorem fact32 : (Rows.fnExactExecuteRow.veiledFits Tryz.prog Tryz.f11.params.toList (Tryz.f11.params.toList ++ Rows.fnExactExecuteSpec.plain.varTypes Tryz.prog ++ Tryz.f11.resultTypes.toList)) = true := by kernel_rfl
theorem facts : joinedFacts Tryz.pinned.checked.prog 11 Tryz.f11 Rows.fnExactExecuteSpec Rows.fnExactExecuteRow = true := by
  unfold joinedFacts
  simp only [Bool.and_eq_true]
  exact ⟨⟨⟨⟨⟨⟨⟨⟨⟨⟨⟨⟨⟨⟨⟨⟨⟨⟨⟨⟨⟨⟨⟨⟨⟨⟨⟨⟨⟨⟨⟨fact1, fact2⟩, fact3⟩, fact4⟩, fact5⟩, fact6⟩, fact7⟩, fact8⟩, fact9⟩, fact10⟩, fact11⟩, fact12⟩, fact13⟩, fact14⟩, fact15⟩, fact16⟩, fact17⟩, fact18⟩, fact19⟩, fact20⟩, fact21⟩, fact22⟩, fact23⟩, fact24⟩, fact25⟩, fact26⟩, fact27⟩, fact28⟩, fact29⟩, fact30⟩, fact31⟩, fact32⟩
end Go.Proofs.YthdoofmfigemoaaGreatDoor.fnExactExecute
