/-
  The closed facts of FnExecuteRoot's row, one by one.
-/
import Derived.Test.YthdoofmfigemoaaGreatDoorRows
import Derived.JoinedOf
import Derived.ProofKit
namespace Go.Proofs.YthdoofmfigemoaaGreatDoor.fnExecuteRoot
open Go.RowKit
set_option maxRecDepth 100000

theorem fact1 : (Rows.fnExecuteRootRow.wf (OpenSpec.ofChange Rows.fnExecuteRootSpec)) = true := by kernel_rfl
theorem fact2 : (laidOutB Tryz.prog) = true := by kernel_rfl
theorem fact3 : (mapsRowed Tryz.prog) = true := by kernel_rfl
theorem fact4 : (Tryz.f8.params.all (Tryz.prog.readableRec ·)) = true := by kernel_rfl
theorem fact5 : (namedTie Tryz.prog Rows.fnExecuteRootRow.named Rows.fnExecuteRootSpec.vars) = true := by kernel_rfl
theorem fact6 : ((Rows.fnExecuteRootRow.stops == [])) = true := by kernel_rfl
theorem fact7 : ((Tryz.prog.stops == [])) = true := by kernel_rfl
theorem fact8 : ((Rows.fnExecuteRootRow.knobs == [])) = true := by kernel_rfl
theorem fact9 : ((Tryz.prog.stopKnobs == [])) = true := by kernel_rfl
theorem fact10 : ((Rows.fnExecuteRootRow.inPlace == Tryz.prog.inPlace 8)) = true := by kernel_rfl
theorem fact11 : ((Rows.fnExecuteRootRow.unfollowed == Tryz.prog.unfollowed 8)) = true := by kernel_rfl
theorem fact12 : ((Rows.fnExecuteRootRow.recurses == Tryz.prog.recurses 8)) = true := by kernel_rfl
theorem fact13 : ((Rows.fnExecuteRootRow.named == Tryz.prog.varsNamed 8)) = true := by kernel_rfl
theorem fact14 : ((Rows.fnExecuteRootRow.maps == (Tryz.f8.params.toList ++ Rows.fnExecuteRootSpec.plain.varTypes Tryz.prog).any (Tryz.prog.mapsRec ·))) = true := by kernel_rfl
theorem fact15 : ((Rows.fnExecuteRootRow.ifaces == (Tryz.f8.params.toList ++ Rows.fnExecuteRootSpec.plain.varTypes Tryz.prog).any (Tryz.prog.ifacesRec ·))) = true := by kernel_rfl
theorem fact16 : ((Rows.fnExecuteRootRow.mapsOut == Tryz.prog.mapsAmong Tryz.f8.resultTypes.toList)) = true := by kernel_rfl
theorem fact17 : ((Rows.fnExecuteRootRow.loops == (Tryz.f8.params.toList ++ Rows.fnExecuteRootSpec.plain.varTypes Tryz.prog).any (Tryz.prog.loopsFrom ·))) = true := by kernel_rfl
theorem fact18 : ((Rows.fnExecuteRootRow.wideKeys == (Tryz.f8.params.toList ++ Rows.fnExecuteRootSpec.plain.varTypes Tryz.prog ++ Tryz.f8.resultTypes.toList).any (Tryz.prog.wideKeysFrom ·))) = true := by kernel_rfl
theorem fact19 : (Rows.fnExecuteRootSpec.vars.all (Tryz.prog.varReadable ·)) = true := by kernel_rfl
theorem fact20 : (Tryz.f8.resultTypes.all (fun t => Tryz.prog.readableRec t && decide (t < Tryz.prog.types.size))) = true := by kernel_rfl
theorem fact21 : ((Rows.fnExecuteRootRow.ifacesOut == Tryz.f8.resultTypes.toList.any (Tryz.prog.ifacesRec ·))) = true := by kernel_rfl
theorem fact22 : ((Rows.fnExecuteRootRow.loopsOut == Tryz.f8.resultTypes.toList.any (Tryz.prog.loopsFrom ·))) = true := by kernel_rfl
theorem fact23 : ((Rows.fnExecuteRootRow.plainKeys == Tryz.prog.plainKeys)) = true := by kernel_rfl
theorem fact24 : (Rows.fnExecuteRootRow.shortTexts.isNone) = true := by kernel_rfl
theorem fact25 : (Tryz.prog.stopsHeard) = true := by kernel_rfl
theorem fact26 : (Tryz.prog.mayEnter) = true := by kernel_rfl
theorem fact27 : ((Rows.fnExecuteRootRow.lifted == Tryz.prog.liftsFinal)) = true := by kernel_rfl
theorem fact28 : ((Tryz.prog.make == some Rows.fnExecuteRootRow.make)) = true := by kernel_rfl
theorem fact29 : ((Rows.fnExecuteRootRow.kinds == (if Rows.fnExecuteRootRow.domain.isEmpty then [] else Tryz.f8.params.toList.map fun t => match Tryz.prog.underlying t with | some (.int k) => some k | _ => Option.none))) = true := by kernel_rfl
theorem fact30 : ((Rows.fnExecuteRootRow.pinned == Rows.fnExecuteRootRow.pinnedBy)) = true := by kernel_rfl
theorem fact31 : ((Rows.fnExecuteRootRow.veiled == (Tryz.f8.params.toList ++ Rows.fnExecuteRootSpec.plain.varTypes Tryz.prog ++ Tryz.f8.resultTypes.toList).any (Tryz.prog.veiledRec ·))) = true := by kernel_rfl
theorem fact32 : (Rows.fnExecuteRootRow.veiledFits Tryz.prog Tryz.f8.params.toList (Tryz.f8.params.toList ++ Rows.fnExecuteRootSpec.plain.varTypes Tryz.prog ++ Tryz.f8.resultTypes.toList)) = true := by kernel_rfl
theorem facts : joinedFacts Tryz.pinned.checked.prog 8 Tryz.f8 Rows.fnExecuteRootSpec Rows.fnExecuteRootRow = true := by
  unfold joinedFacts
  simp only [Bool.and_eq_true]
  exact ⟨⟨⟨⟨⟨⟨⟨⟨⟨⟨⟨⟨⟨⟨⟨⟨⟨⟨⟨⟨⟨⟨⟨⟨⟨⟨⟨⟨⟨⟨⟨fact1, fact2⟩, fact3⟩, fact4⟩, fact5⟩, fact6⟩, fact7⟩, fact8⟩, fact9⟩, fact10⟩, fact11⟩, fact12⟩, fact13⟩, fact14⟩, fact15⟩, fact16⟩, fact17⟩, fact18⟩, fact19⟩, fact20⟩, fact21⟩, fact22⟩, fact23⟩, fact24⟩, fact25⟩, fact26⟩, fact27⟩, fact28⟩, fact29⟩, fact30⟩, fact31⟩, fact32⟩
end Go.Proofs.YthdoofmfigemoaaGreatDoor.fnExecuteRoot
