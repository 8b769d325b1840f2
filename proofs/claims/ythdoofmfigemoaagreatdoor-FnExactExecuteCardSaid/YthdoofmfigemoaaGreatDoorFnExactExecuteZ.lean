/-
  The walk of FnExactExecute and its given statement.
-/
import Derived.Test.YthdoofmfigemoaaGreatDoorS1
import Derived.Test.YthdoofmfigemoaaGreatDoorS2
import Derived.Test.YthdoofmfigemoaaGreatDoorS3
import Derived.Test.YthdoofmfigemoaaGreatDoorS4
import Derived.Test.YthdoofmfigemoaaGreatDoorS5
import Derived.Test.YthdoofmfigemoaaGreatDoorS6
import Derived.Test.YthdoofmfigemoaaGreatDoorS7
import Derived.Test.YthdoofmfigemoaaGreatDoorS8
import Derived.Test.YthdoofmfigemoaaGreatDoorS9
import Derived.Test.YthdoofmfigemoaaGreatDoorS10
import Derived.Test.YthdoofmfigemoaaGreatDoorS11
import Derived.Test.YthdoofmfigemoaaGreatDoorS12
import Derived.Test.YthdoofmfigemoaaGreatDoorS13
import Derived.Test.YthdoofmfigemoaaGreatDoorS14
import Derived.Test.YthdoofmfigemoaaGreatDoorS15
import Derived.Test.YthdoofmfigemoaaGreatDoorS16
import Derived.Test.YthdoofmfigemoaaGreatDoorS17
import Derived.Test.YthdoofmfigemoaaGreatDoorS18
import Derived.Test.YthdoofmfigemoaaGreatDoorS19
import Derived.Test.YthdoofmfigemoaaGreatDoorS20
import Derived.Test.YthdoofmfigemoaaGreatDoorS21
import Derived.Test.YthdoofmfigemoaaGreatDoorRows
import Derived.Test.YthdoofmfigemoaaGreatDoorCards
import Derived.Test.YthdoofmfigemoaaGreatDoorTie
import Derived.SevenTiedAt
import Derived.LaidMore
import Derived.Stop.Joined
import Derived.Lay
import Derived.MakeChecks
import Derived.Test.YthdoofmfigemoaaGreatDoorExactExecuteFacts
import Derived.WalkKit
import Derived.ProofKit
import Derived.OpenShut
import Derived.ShutString
import Derived.ChangeOld
import Derived.Below
namespace Go.Proofs.YthdoofmfigemoaaGreatDoor.fnExactExecute
open Go.RowKit
set_option linter.unusedSimpArgs false
set_option maxRecDepth 100000 in
set_option maxHeartbeats 4000000 in
theorem walk (t : ByteArray) (w : World) (_ : t.size ≤ maxLen) (hm : Max w) (hp : Pow w.heap.size w) :
  Calls Tryz.prog 11 #[.string t] w fun e w' => e = .returned (.bool true) ∧ Below w.heap.size w w' := by
 by_cases hbig : 1048576 < t.size
 ·go_enter Tryz.func11, Tryz.ntmps11
  go_wp2
  go_ret
  exact ⟨rfl, Below.refl _ _⟩
 ·have hsz : t.size ≤ 1048576 := by omega
  have HM := Hd hm
  have HP := Hd hp
  have h0w : 0 < w.heap.size := by obtain ⟨m, hm0⟩ := hm; exact World.block_lt_of_cell? w _ hm0
  have HS := Hd (fun w => specExecute_all t w)
  have HE := Hd (fun w h1 h2 => Execute_all t w h1 h2)
  obtain ⟨R, hR⟩ : ∃ R, bs (execT t.data.toList) = R := ⟨_, rfl⟩
  rw [hR] at HS HE
  clear hm hp hR
  go_enter Tryz.func11, Tryz.ntmps11
  go_wp2_with fail
  refine (HS.out _).mono ?_
  rintro e w1 ⟨rfl, hb1⟩
  have HB1 := Hd hb1
  have HM1 := Hd (show Max w1 from by obtain ⟨m, hm⟩ := HM.out; exact ⟨m, (hb1.cell (p := ⟨0, 0, none⟩) h0w).trans hm⟩)
  have HP1 := Hd (show Pow w1.heap.size w1 from fun w' hb => HP.out w' (hb1.trans (hb.mono hb1.size)))
  clear hb1
  go_wp2_with fail
  refine (HE.out _ HM1.out HP1.out).mono ?_
  rintro e w2 ⟨rfl, hb2⟩
  have HB2 := Hd (below_chain HB1.out hb2)
  clear hb2
  go_wp2_with fail
  go_ret
  exact ⟨by simp, HB2.out⟩
end Go.Proofs.YthdoofmfigemoaaGreatDoor.fnExactExecute
namespace Go.Proofs.YthdoofmfigemoaaGreatDoor.fnExactExecute
open Go.ChangeShapes Go.WideShapes Go.ChangeAt Go.RowKit
open Go.ChangeMaps (open_string shut_string)
set_option linter.unusedVariables false
theorem own : ownKnob Tryz.prog.godebug = none := by kernel_rfl
theorem laidOut : laidOutB Tryz.prog = true := by kernel_rfl
theorem lay_met (os : Os) (args : Array Value) : laidMetH Tryz.prog Rows.fnExactExecuteRow.laid ((World.laidAll Tryz.prog os Rows.fnExactExecuteRow.laid).forCall (fun _ _ => 0) ⟨#[], args, []⟩).memory := by
 rw [MakeChecks.laidMetH_plain _ _ _ (by kernel_rfl)]
 exact laidMet_laidAll _ (by kernel_rfl) (by kernel_rfl)
set_option maxRecDepth 100000 in
theorem lifted (os : Os) (started : os.Started) (H : Type) (enc : TypeId × Value → H) :
  ReturnsInHanded {} Tryz.checked os 11 .any (fun w args => (Rows.fnExactExecuteSpec.pre enc Tryz.prog Tryz.f11 [] false w args ∧ laidMetH Tryz.prog Rows.fnExactExecuteRow.laid w) ∧ sizedMet enc Tryz.prog Tryz.f11 (OpenSpec.ofChange Rows.fnExactExecuteSpec) false w args)
   (Rows.fnExactExecuteSpec.post enc Tryz.prog Tryz.f11 false true false false) := by
 refine handed_both (C := Tryz.checked) (X := fun w _ => laidMetH Tryz.prog Rows.fnExactExecuteRow.laid w) (fun _ _ _ hh h => h.of_heap hh) own started (by kernel_rfl) Tryz.func11
  (ChangeSpec.witness_shaped (enc := enc) (C := Tryz.checked) (os := os) (X := fun w _ => laidMetH Tryz.prog Rows.fnExactExecuteRow.laid w) false (World.laidAll Tryz.prog os Rows.fnExactExecuteRow.laid) #[.string ByteArray.empty] 8 (World.laidAll_os _ _ _) (World.shaped_of_ZipB (by kernel_rfl) (by kernel_rfl)) (by kernel_rfl) (by kernel_rfl) (by kernel_rfl) (lay_met os _)) ?_
 intro W base args ds gs before hval0 hW hL hsh
 have hval : ∀ (j : Nat) t v, Tryz.f11.params[j]? = some t → args[j]? = some v → Value.okWide Tryz.prog W .any base t v := hval0
 have hW' := hW
 obtain ⟨p, q, hA0, hV, rfl, hfz, hnd⟩ := hW
 have hA : DataW.TrodAll enc Tryz.prog W 0 (fun _ => true) true Tryz.f11.params.toList args.toList ds p := hA0
 rw [Tryz.params11] at hA hval
 obtain ⟨v0, vs0, d0, ds0, p0, q0, hargs, rfl, rfl, h0, r0⟩ := trodAll_cons hA
 obtain ⟨rfl, rfl, rfl⟩ := trodAll_nil r0
 obtain rfl : args = #[v0] := by cases args; simp_all
 obtain ⟨rfl, rfl⟩ := trodVars_none hV
 have k0 := h0
 have lt0 : ∀ x ∈ p0, x.block < W.heap.size := by obtain ⟨m, hm⟩ := k0; exact DataW.trod_lt m _ _ _ hm
 obtain ⟨a0, rfl, rfl, rfl, w0⟩ := open_string Tryz.underlying9 (hval 0 9 v0 rfl rfl) h0
 clear hA0 hval0
 have hpw : Pow W.heap.size W := pow_of_laid hL (by kernel_rfl) (.tail _ (.tail _ (.head _)))
 refine (walk a0 W w0 (max_of_shape hsh) hpw).mono fun e W' ⟨he, bel⟩ => ?_
 subst he
 exact ⟨_, rfl, _, _, _, [], _, [], hW', trodAll_mk1 (shut_bool Tryz.underlying4 _), (trodAll_cons_mk (shut_string Tryz.underlying9 w0) trodAll_mk0), rfl, bel.frame _, fun h => by cases h⟩
theorem over : Rows.fnExactExecuteRow.holds Tryz.pinned (OpenSpec.ofChange Rows.fnExactExecuteSpec) :=
 OpenClaim.holds_of_wide 11 Tryz.f11 rfl rfl rfl rfl rfl rfl rfl ⟨rfl, rfl, rfl, rfl, rfl⟩ rfl rfl rfl rfl rfl (by kernel_rfl) Tryz.func11 facts
  (of_decide_eq_true (by kernel_rfl)) (by unfold Func.isWrapper; first | (rw [if_pos (by decide +kernel)]; kernel_rfl) | (rw [if_neg (by decide +kernel)]; exact ⟨rfl, rfl⟩))
  (fun os started H enc _ => lifted os started H enc)
theorem card_wf : OpenClaim.wfByText (OpenSpec.ofChange Rows.fnExactExecuteSpec) Rows.fnExactExecuteRow = true := by kernel_rfl
theorem card_main : Tryz.pinned.checked.prog.mainIs = some (Rows.fnExactExecuteCard.stood.harness.fst, Rows.fnExactExecuteCard.stood.harness.snd.toList) := by kernel_rfl
theorem card_looks : Rows.fnExactExecuteCard.stood.looks = Tryz.pinned.checked.prog.looks [] := by kernel_rfl
theorem card_goes : false = Rows.fnExactExecuteRow.goesBy Tryz.pinned.checked.prog := by kernel_rfl
theorem card_fn : Tryz.prog.funcNamed "loop.example/countingboards/laws.FnExactExecute" = some 11 := by kernel_rfl
theorem proved : Rows.FnExactExecuteCardSaid :=
 Claim7.holds_tied_plain_at .later [] Rows.fnExactExecuteCard.laidKinds true Rows.fnExactExecuteCard.stood.harness Rows.fnExactExecuteCard.stood.looks
  over (fun _ h => by cases h) card_wf (fun _ h => by cases h) fnExactExecute_row_tie rfl ⟨rfl, rfl⟩ card_main rfl
  (fun f fn hf hfn => by
   obtain rfl : f = 11 := Option.some.inj (card_fn.symm.trans hf) |>.symm
   obtain rfl : fn = Tryz.f11 := (Option.some.inj (Tryz.func11.symm.trans hfn)).symm
   exact ⟨card_looks, fun j t ht => by
    rw [Tryz.params11] at ht
    have hm : t ∈ [9] := by simpa using Array.mem_of_getElem? ht
    have hall : ([9].all fun u => !Tryz.prog.wantsStandIn u) = true := by kernel_rfl
    exact (show Tryz.prog.wantsStandIn t = false by simpa using List.all_eq_true.1 hall t hm)⟩)
  card_goes
#print axioms proved
end Go.Proofs.YthdoofmfigemoaaGreatDoor.fnExactExecute
