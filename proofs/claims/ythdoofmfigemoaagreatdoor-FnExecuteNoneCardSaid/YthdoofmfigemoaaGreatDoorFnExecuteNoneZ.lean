/-
  The walk of FnExecuteNone and its given statement.
-/
import Derived.Test.YthdoofmfigemoaaGreatDoorSP1
import Derived.Test.YthdoofmfigemoaaGreatDoorRows
import Derived.Test.YthdoofmfigemoaaGreatDoorCards
import Derived.Test.YthdoofmfigemoaaGreatDoorTie
import Derived.SevenTiedAt
import Derived.LaidMore
import Derived.Stop.Joined
import Derived.Lay
import Derived.MakeChecks
import Derived.Test.YthdoofmfigemoaaGreatDoorExecuteNoneFacts
import Derived.WalkKit
import Derived.ProofKit
import Derived.OpenShut
import Derived.ShutString
import Derived.ChangeOld
import Derived.Below
namespace Go.Proofs.YthdoofmfigemoaaGreatDoor.fnExecuteNone
open Go.RowKit
set_option linter.unusedSimpArgs false
theorem exec_nil : bs (execT (⟨#[]⟩ : ByteArray).data.toList) = ⟨#[118, 97, 108, 117, 101, 32, 48, 32, 116, 97, 108, 108, 105, 101, 115, 32, 48, 10]⟩ := by
 have h : execT (⟨#[]⟩ : ByteArray).data.toList = [118, 97, 108, 117, 101, 32, 48, 32, 116, 97, 108, 108, 105, 101, 115, 32, 48, 10] := by
  rw [execT_short (by decide)]
  show ([] : List UInt8) ++ endL (bVal St.start.bs) 0 = _
  have h0 : bVal St.start.bs = 0 := by decide
  have h1 : Lib.itoa 0 = [48] := by simp [Lib.itoa, Lib.decDigits]
  rw [h0]
  simp [endL, h1]
 rw [h]
 rfl
set_option maxRecDepth 100000 in
set_option maxHeartbeats 4000000 in
theorem walk (a0 : Option Addr) (len0 cap0 : Nat) (z0 : List Int) (w : World) (w0 : IsRow .u8 w a0 len0 cap0 z0) (hm : Max w) (hp : Pow w.heap.size w) :
  Calls Tryz.prog 3 #[.slice a0 len0 cap0] w fun e w' => e = .returned (.bool true) ∧ Below w.heap.size w w' := by
 by_cases hbig : 1048576 < len0
 ·clear w0
  go_enter Tryz.func3, Tryz.ntmps3
  go_wp2
  go_ret
  exact ⟨rfl, Below.refl _ _⟩
 ·have HC := Hd (Bytes.of_row w0)
  have HM := Hd hm
  have HP := Hd hp
  have h0w : 0 < w.heap.size := by obtain ⟨m, hm0⟩ := hm; exact World.block_lt_of_cell? w _ hm0
  have HNX := Hd (show ∀ w', Below w.heap.size w w' → Max w' ∧ Pow w'.heap.size w' from fun w' hb => ⟨by obtain ⟨m, hm⟩ := HM.out; exact ⟨m, (hb.cell (p := ⟨0, 0, none⟩) h0w).trans hm⟩, fun w2 hb2 => HP.out w2 (hb.trans (hb2.mono hb.size))⟩)
  clear w0 hm hp HM HP
  go_enter Tryz.func3, Tryz.ntmps3
  go_wp2_with fail
  refine (DrawExecute_any _ _ _ _ HC.out (by omega)).mono ?_
  rintro e w1 ⟨s, rfl, hs, hb1⟩
  have HB1 := Hd hb1
  have hsl := ba_size s
  obtain ⟨R, hR⟩ : ∃ R, bs (execT s.data.toList) = R := ⟨_, rfl⟩
  have HE := Hd (fun w h1 h2 => Execute_all s w h1 h2)
  have HS := Hd (fun w => specExecute_all s w)
  rw [hR] at HE HS
  have HE0 := Hd (fun w h1 h2 => Execute_all ⟨#[]⟩ w h1 h2)
  rw [exec_nil] at HE0
  by_cases hl : 400 < s.size
  ·have hlit : R = ⟨#[116, 111, 111, 32, 108, 111, 110, 103, 10]⟩ := by rw [← hR, execT_long (by omega)]; rfl
   subst hlit
   have hlI : (s.size : Int) > 400 := by omega
   clear hb1 hsl hR hs HE0
   go_wp2_with fail
   refine (HE.out _ (HNX.out _ HB1.out).1 (HNX.out _ HB1.out).2).mono ?_
   rintro e w2 ⟨rfl, hb2⟩
   have HB2 := Hd (below_chain HB1.out hb2)
   clear hb2
   go_wp2_with fail
   refine (HS.out _).mono ?_
   rintro e w3 ⟨rfl, hb3⟩
   have HB3 := Hd (below_chain HB2.out hb3)
   clear hb3
   go_wp2_with fail
   go_ret
   exact ⟨rfl, HB3.out⟩
  ·have hlI : ¬ (s.size : Int) > 400 := by omega
   have hne : (R.toList == []) = false := by
    rw [← hR, bs_toList, execT_short (by omega), endS_is]
    simp
   have HCO := Hd (fun w => complete_any s w (by omega))
   have HR := Hd (show ∀ r, Comp s.data.toList r → ∀ w, Max w → Pow w.heap.size w → Calls Tryz.prog 13 #[.string (bs r)] w fun e w' => e = .returned (.string R) ∧ Below w.heap.size w w' from fun r hr w h1 h2 => by
    have h := Execute_all (bs r) w h1 h2
    rw [bs_list, hr.exec (by omega), hR] at h
    exact h)
   clear hb1 hsl hR hs
   go_wp2_with fail
   refine (HE.out _ (HNX.out _ HB1.out).1 (HNX.out _ HB1.out).2).mono ?_
   rintro e w2 ⟨rfl, hb2⟩
   have HB2 := Hd (below_chain HB1.out hb2)
   clear hb2
   go_wp2_with fail
   refine (HS.out _).mono ?_
   rintro e w3 ⟨rfl, hb3⟩
   have HB3 := Hd (below_chain HB2.out hb3)
   clear hb3
   go_wp2_with fail
   refine (HE0.out _ (HNX.out _ HB3.out).1 (HNX.out _ HB3.out).2).mono ?_
   rintro e w4 ⟨rfl, hb4⟩
   have HB4 := Hd (below_chain HB3.out hb4)
   clear hb4
   go_wp2_with fail
   refine (HCO.out _).mono ?_
   rintro e w5 ⟨r, rfl, hcr, rfl⟩
   have HRR := Hd (HR.out r hcr)
   clear hcr
   go_wp2_with fail
   refine (HRR.out _ (HNX.out _ HB4.out).1 (HNX.out _ HB4.out).2).mono ?_
   rintro e w6 ⟨rfl, hb6⟩
   have HB6 := Hd (below_chain HB4.out hb6)
   clear hb6
   go_wp2_with fail
   go_ret
   exact ⟨by simp, HB6.out⟩
end Go.Proofs.YthdoofmfigemoaaGreatDoor.fnExecuteNone
namespace Go.Proofs.YthdoofmfigemoaaGreatDoor.fnExecuteNone
open Go.ChangeShapes Go.WideShapes Go.ChangeAt Go.RowKit
open Go.ChangeMaps (open_string shut_string)
set_option linter.unusedVariables false
theorem own : ownKnob Tryz.prog.godebug = none := by kernel_rfl
theorem laidOut : laidOutB Tryz.prog = true := by kernel_rfl
theorem lay_met (os : Os) (args : Array Value) : laidMetH Tryz.prog Rows.fnExecuteNoneRow.laid ((World.laidAll Tryz.prog os Rows.fnExecuteNoneRow.laid).forCall (fun _ _ => 0) ⟨#[], args, []⟩).memory := by
 rw [MakeChecks.laidMetH_plain _ _ _ (by kernel_rfl)]
 exact laidMet_laidAll _ (by kernel_rfl) (by kernel_rfl)
set_option maxRecDepth 100000 in
theorem lifted (os : Os) (started : os.Started) (H : Type) (enc : TypeId × Value → H) :
  ReturnsInHanded {} Tryz.checked os 3 .any (fun w args => (Rows.fnExecuteNoneSpec.pre enc Tryz.prog Tryz.f3 [] false w args ∧ laidMetH Tryz.prog Rows.fnExecuteNoneRow.laid w) ∧ sizedMet enc Tryz.prog Tryz.f3 (OpenSpec.ofChange Rows.fnExecuteNoneSpec) false w args)
   (Rows.fnExecuteNoneSpec.post enc Tryz.prog Tryz.f3 false true false false) := by
 refine handed_both (C := Tryz.checked) (X := fun w _ => laidMetH Tryz.prog Rows.fnExecuteNoneRow.laid w) (fun _ _ _ hh h => h.of_heap hh) own started (by kernel_rfl) Tryz.func3
  (ChangeSpec.witness_shaped (enc := enc) (C := Tryz.checked) (os := os) (X := fun w _ => laidMetH Tryz.prog Rows.fnExecuteNoneRow.laid w) false (World.laidAll Tryz.prog os Rows.fnExecuteNoneRow.laid) #[.slice none 0 0] 8 (World.laidAll_os _ _ _) (World.shaped_of_ZipB (by kernel_rfl) (by kernel_rfl)) (by kernel_rfl) (by kernel_rfl) (by kernel_rfl) (lay_met os _)) ?_
 intro W base args ds gs before hval0 hW hL hsh
 have hval : ∀ (j : Nat) t v, Tryz.f3.params[j]? = some t → args[j]? = some v → Value.okWide Tryz.prog W .any base t v := hval0
 have hW' := hW
 obtain ⟨p, q, hA0, hV, rfl, hfz, hnd⟩ := hW
 have hA : DataW.TrodAll enc Tryz.prog W 0 (fun _ => true) true Tryz.f3.params.toList args.toList ds p := hA0
 rw [Tryz.params3] at hA hval
 obtain ⟨v0, vs0, d0, ds0, p0, q0, hargs, rfl, rfl, h0, r0⟩ := trodAll_cons hA
 obtain ⟨rfl, rfl, rfl⟩ := trodAll_nil r0
 obtain rfl : args = #[v0] := by cases args; simp_all
 obtain ⟨rfl, rfl⟩ := trodVars_none hV
 have k0 := h0
 have lt0 : ∀ x ∈ p0, x.block < W.heap.size := by obtain ⟨m, hm⟩ := k0; exact DataW.trod_lt m _ _ _ hm
 obtain ⟨a0, len0, cap0, rfl⟩ := okWide_slice Tryz.underlying22 (hval 0 22 v0 rfl rfl)
 obtain ⟨z0, w0⟩ : ∃ zs, IsRow .u8 W a0 len0 cap0 zs := by
  obtain ⟨fuel, hf⟩ := h0
  rcases open_ints Tryz.underlying22 Tryz.underlying5 (by kernel_rfl) hf with ⟨hcs, _⟩ | ⟨x, l, c, zs, hcs, _, hl, hm, hz, _, hcell, hwz⟩
  ·simp [Value.cells] at hcs
   obtain ⟨rfl, rfl, rfl⟩ := hcs
   exact ⟨[], .inl ⟨rfl, rfl, rfl, rfl⟩⟩
  ·simp [Value.cells] at hcs
   obtain ⟨rfl, rfl, rfl⟩ := hcs
   exact ⟨zs, .inr ⟨_, rfl, hl, hm, by simpa using hz, hcell, hwz⟩⟩
 clear hA0 hval0
 have hpw : Pow W.heap.size W := pow_of_laid hL (by kernel_rfl) (.tail _ (.tail _ (.head _)))
 refine (walk a0 len0 cap0 z0 W w0 (max_of_shape hsh) hpw).mono fun e W' ⟨he, bel⟩ => ?_
 subst he
 exact ⟨_, rfl, _, _, _, [], _, [], hW', trodAll_mk1 (shut_bool Tryz.underlying4 _), (trodAll_cons_mk (Below.trod laidOut (by kernel_rfl) (of_decide_eq_true (by kernel_rfl)) k0 bel lt0) trodAll_mk0), rfl, bel.frame _, fun h => by cases h⟩
theorem over : Rows.fnExecuteNoneRow.holds Tryz.pinned (OpenSpec.ofChange Rows.fnExecuteNoneSpec) :=
 OpenClaim.holds_of_wide 3 Tryz.f3 rfl rfl rfl rfl rfl rfl rfl ⟨rfl, rfl, rfl, rfl, rfl⟩ rfl rfl rfl rfl rfl (by kernel_rfl) Tryz.func3 facts
  (of_decide_eq_true (by kernel_rfl)) (by unfold Func.isWrapper; first | (rw [if_pos (by decide +kernel)]; kernel_rfl) | (rw [if_neg (by decide +kernel)]; exact ⟨rfl, rfl⟩))
  (fun os started H enc _ => lifted os started H enc)
theorem card_wf : OpenClaim.wfByText (OpenSpec.ofChange Rows.fnExecuteNoneSpec) Rows.fnExecuteNoneRow = true := by kernel_rfl
theorem card_main : Tryz.pinned.checked.prog.mainIs = some (Rows.fnExecuteNoneCard.stood.harness.fst, Rows.fnExecuteNoneCard.stood.harness.snd.toList) := by kernel_rfl
theorem card_looks : Rows.fnExecuteNoneCard.stood.looks = Tryz.pinned.checked.prog.looks [] := by kernel_rfl
theorem card_goes : false = Rows.fnExecuteNoneRow.goesBy Tryz.pinned.checked.prog := by kernel_rfl
theorem card_fn : Tryz.prog.funcNamed "loop.example/countingboards/laws.FnExecuteNone" = some 3 := by kernel_rfl
theorem proved : Rows.FnExecuteNoneCardSaid :=
 Claim7.holds_tied_plain_at .later [] Rows.fnExecuteNoneCard.laidKinds true Rows.fnExecuteNoneCard.stood.harness Rows.fnExecuteNoneCard.stood.looks
  over (fun _ h => by cases h) card_wf (fun _ h => by cases h) fnExecuteNone_row_tie rfl ⟨rfl, rfl⟩ card_main rfl
  (fun f fn hf hfn => by
   obtain rfl : f = 3 := Option.some.inj (card_fn.symm.trans hf) |>.symm
   obtain rfl : fn = Tryz.f3 := (Option.some.inj (Tryz.func3.symm.trans hfn)).symm
   exact ⟨card_looks, fun j t ht => by
    rw [Tryz.params3] at ht
    have hm : t ∈ [22] := by simpa using Array.mem_of_getElem? ht
    have hall : ([22].all fun u => !Tryz.prog.wantsStandIn u) = true := by kernel_rfl
    exact (show Tryz.prog.wantsStandIn t = false by simpa using List.all_eq_true.1 hall t hm)⟩)
  card_goes
#print axioms proved
end Go.Proofs.YthdoofmfigemoaaGreatDoor.fnExecuteNone
