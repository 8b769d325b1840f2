/-
  The walk of FnExecuteWhat and its given statement.
-/
import Derived.Test.YthdoofmfigemoaaGreatDoorSP1
import Derived.Test.YthdoofmfigemoaaGreatDoorRows
import Derived.Test.YthdoofmfigemoaaGreatDoorCards
import Derived.Test.YthdoofmfigemoaaGreatDoorTie
import Derived.SevenTiedAt
import Derived.LaidMore
import Derived.Stop.Joined
import Derived.Lay
import Derived.MakeChecks
import Derived.Test.YthdoofmfigemoaaGreatDoorExecuteWhatFacts
import Derived.WalkKit
import Derived.ProofKit
import Derived.OpenShut
import Derived.ShutString
import Derived.ChangeOld
import Derived.Below
namespace Go.Proofs.YthdoofmfigemoaaGreatDoor.fnExecuteWhat
open Go.RowKit
set_option linter.unusedSimpArgs false
theorem full_parts {r : List UInt8} (hl : r.length ≤ 400) : ∃ P L A : ByteArray, bs (execT r) = A ∧ bs (preOf r) = P ∧ bs (endQ (finOf r) ++ [10]) = L ∧ A.size ≤ 100000 ∧ L.size ≤ 61 ∧ 1 ≤ L.size ∧ A.size = P.size + L.size ∧ A.extract 0 P.size = P ∧
  ∀ w : World, Calls Tryz.prog 16 #[.string A] w fun e w' => e = .returned (.string L) ∧ w = w' := by
 have h1 := pre_size r hl
 have h2 := endQ_len (finOf_inv r)
 have hA : (bs (execT r)).data.toList = preOf r ++ (endQ (finOf r) ++ [10]) := by rw [bs_list, execT_short hl, endS_is]
 have sA : (bs (execT r)).size = (preOf r).length + ((endQ (finOf r)).length + 1) := by rw [← ba_size, hA]; simp
 have sP := bs_size (preOf r)
 have sL : (bs (endQ (finOf r) ++ [10])).size = (endQ (finOf r)).length + 1 := by rw [bs_size]; simp
 refine ⟨bs (preOf r), bs (endQ (finOf r) ++ [10]), bs (execT r), rfl, rfl, rfl, by omega, by omega, by omega, by omega, ?_, fun w => lastLine_any (preOf r) (endQ (finOf r)) (ends_pre r) (endQ_nl (finOf_inv r)) _ (by omega) hA w⟩
 rw [ext_take, hA, sP, List.take_left]
set_option maxRecDepth 100000 in
set_option maxHeartbeats 4000000 in
theorem walk (a0 : Option Addr) (len0 cap0 : Nat) (z0 : List Int) (w : World) (w0 : IsRow .u8 w a0 len0 cap0 z0) (hm : Max w) (hp : Pow w.heap.size w) :
  Calls Tryz.prog 5 #[.slice a0 len0 cap0] w fun e w' => e = .returned (.bool true) ∧ Below w.heap.size w w' := by
 by_cases hbig : 1048576 < len0
 ·clear w0
  go_enter Tryz.func5, Tryz.ntmps5
  go_wp2
  go_ret
  exact ⟨rfl, Below.refl _ _⟩
 ·have HC := Hd (Bytes.of_row w0)
  have HM := Hd hm
  have HP := Hd hp
  have h0w : 0 < w.heap.size := by obtain ⟨m, hm0⟩ := hm; exact World.block_lt_of_cell? w _ hm0
  have HNX := Hd (show ∀ w', Below w.heap.size w w' → Max w' ∧ Pow w'.heap.size w' from fun w' hb => ⟨by obtain ⟨m, hm⟩ := HM.out; exact ⟨m, (hb.cell (p := ⟨0, 0, none⟩) h0w).trans hm⟩, fun w2 hb2 => HP.out w2 (hb.trans (hb2.mono hb.size))⟩)
  clear w0 hm hp HM HP
  go_enter Tryz.func5, Tryz.ntmps5
  go_wp2_with fail
  refine (DrawExecute_any _ _ _ _ HC.out (by omega)).mono ?_
  rintro e w1 ⟨s, rfl, hs, hb1⟩
  have HB1 := Hd hb1
  have hsl := ba_size s
  obtain ⟨R, hR⟩ : ∃ R, bs (execT s.data.toList) = R := ⟨_, rfl⟩
  have HE := Hd (fun w h1 h2 => Execute_all s w h1 h2)
  have HS := Hd (fun w => specExecute_all s w)
  rw [hR] at HE HS
  have HCO := Hd (fun w => complete_any s w (by omega))
  clear hb1 hR hs hsl
  go_wp2_with fail
  refine (HE.out _ (HNX.out _ HB1.out).1 (HNX.out _ HB1.out).2).mono ?_
  rintro e w2 ⟨rfl, hb2⟩
  have HB2 := Hd (below_chain HB1.out hb2)
  clear hb2
  go_wp2_with fail
  refine (HS.out _).mono ?_
  rintro e w3 ⟨rfl, hb3⟩
  have HB3 := Hd (below_chain HB2.out hb3)
  clear hb3
  go_wp2_with fail
  refine (HCO.out _).mono ?_
  rintro e w4 ⟨r, rfl, hcr, rfl⟩
  have hfull := hcr.full
  have hsr := bs_size r
  obtain ⟨S, hS⟩ : ∃ S, bs r = S := ⟨_, rfl⟩
  by_cases hbg : 388 < S.size
  ·have hbI : (S.size : Int) > 388 := by omega
   rw [hS]
   clear hcr hfull hsr hS
   go_wp2_with fail
   go_ret
   exact ⟨rfl, HB3.out⟩
  have hbI : ¬ (S.size : Int) > 388 := by omega
  have hsz : r.length ≤ 388 := by rw [hS] at hsr; omega
  obtain ⟨P, L, A, hA, hP, hL, a1, l1, l2, hal, hext, hlast⟩ := full_parts (r := r) (by omega)
  have HLA := Hd hlast
  have HEA := Hd (show ∀ w, Max w → Pow w.heap.size w → Calls Tryz.prog 13 #[.string S] w fun e w' => e = .returned (.string A) ∧ Below w.heap.size w w' from fun w h1 h2 => by
   have h := Execute_all S w h1 h2
   rw [← hS, bs_list, hA, hS] at h
   exact h)
  have hx := exec_what hfull hsz
  obtain ⟨E, hE⟩ : ∃ E, bs (execT (r ++ ((wZzz ++ [10]) ++ (lineX ++ [10])))) = E := ⟨_, rfl⟩
  have hcatS : S ++ ⟨#[122, 122, 122, 10, 108, 97, 121, 32, 120, 10]⟩ = bs (r ++ ((wZzz ++ [10]) ++ (lineX ++ [10]))) := by rw [← hS]; exact bs_append _ _
  have hcat : (P ++ ⟨#[119, 104, 97, 116, 10, 110, 111, 10]⟩) ++ L = E := by
   rw [← hE, hx, ← hP, ← hL]
   show (bs (preOf r) ++ bs [119, 104, 97, 116, 10, 110, 111, 10]) ++ bs (endQ (finOf r) ++ [10]) = _
   rw [bs_append, bs_append, List.append_assoc]
   rfl
  obtain ⟨S2, hS2⟩ : ∃ S2, bs (r ++ ((wZzz ++ [10]) ++ (lineX ++ [10]))) = S2 := ⟨_, rfl⟩
  have HE2 := Hd (show ∀ w, Max w → Pow w.heap.size w → Calls Tryz.prog 13 #[.string S2] w fun e w' => e = .returned (.string E) ∧ Below w.heap.size w w' from fun w h1 h2 => by
   have h := Execute_all S2 w h1 h2
   rw [← hS2, bs_list, hE, hS2] at h
   exact h)
  rw [hS2] at hcatS
  rw [hS]
  have n1 := no_long (n := S.size) (by omega) 10 (by omega)
  have n2 := no_long (n := P.size) (by omega) 8 (by omega)
  have n3 := no_long (n := P.size + 8) (by omega) L.size (by omega)
  have k1 : (A.size : Int) - (L.size : Int) = (P.size : Int) := by omega
  have k2 : P.size ≤ A.size := by omega
  have k4 : IntKind.i64.wrap (P.size : Int) = (P.size : Int) := IntWalk.i64_in _ (by omega)
  have k5 : (0 : Int) ≤ (P.size : Int) := by omega
  have k6 : ¬ A.size < P.size := by omega
  have k7 : ¬ (A.size : Int) < (P.size : Int) := by omega
  have k3 : (P.size : Int) ≤ (A.size : Int) := by omega
  have HCS := Hd hcatS
  have HCA := Hd hcat
  clear hcr hfull hsr hS hA hP hL hlast hx hE hcatS hcat hS2 hsz hal
  go_wp2_with fail
  refine (HEA.out _ (HNX.out _ HB3.out).1 (HNX.out _ HB3.out).2).mono ?_
  rintro e w5 ⟨rfl, hb5⟩
  have HB5 := Hd (below_chain HB3.out hb5)
  clear hb5
  go_wp2_with fail
  go_region_with (first | (go_at_call 13; rw [HCS.out]; refine (HE2.out _ (HNX.out _ HB5.out.drew).1 (HNX.out _ HB5.out.drew).2).mono ?_; rintro e w6 ⟨rfl, hb6⟩; have HB6 := Hd (HB5.out.drew.trans (hb6.mono HB5.out.size))) | (go_at_call 16; refine (HLA.out _).mono ?_; rintro e w7 ⟨rfl, rfl⟩))
  all_goals
   go_wp2_with fail
   rw [HCA.out]
   go_ret
   exact ⟨by simp [Act.put], HB6.out⟩
end Go.Proofs.YthdoofmfigemoaaGreatDoor.fnExecuteWhat
namespace Go.Proofs.YthdoofmfigemoaaGreatDoor.fnExecuteWhat
open Go.ChangeShapes Go.WideShapes Go.ChangeAt Go.RowKit
open Go.ChangeMaps (open_string shut_string)
set_option linter.unusedVariables false
theorem own : ownKnob Tryz.prog.godebug = none := by kernel_rfl
theorem laidOut : laidOutB Tryz.prog = true := by kernel_rfl
theorem lay_met (os : Os) (args : Array Value) : laidMetH Tryz.prog Rows.fnExecuteWhatRow.laid ((World.laidAll Tryz.prog os Rows.fnExecuteWhatRow.laid).forCall (fun _ _ => 0) ⟨#[], args, []⟩).memory := by
 rw [MakeChecks.laidMetH_plain _ _ _ (by kernel_rfl)]
 exact laidMet_laidAll _ (by kernel_rfl) (by kernel_rfl)
set_option maxRecDepth 100000 in
theorem lifted (os : Os) (started : os.Started) (H : Type) (enc : TypeId × Value → H) :
  ReturnsInHanded {} Tryz.checked os 5 .any (fun w args => (Rows.fnExecuteWhatSpec.pre enc Tryz.prog Tryz.f5 [] false w args ∧ laidMetH Tryz.prog Rows.fnExecuteWhatRow.laid w) ∧ sizedMet enc Tryz.prog Tryz.f5 (OpenSpec.ofChange Rows.fnExecuteWhatSpec) false w args)
   (Rows.fnExecuteWhatSpec.post enc Tryz.prog Tryz.f5 false true false false) := by
 refine handed_both (C := Tryz.checked) (X := fun w _ => laidMetH Tryz.prog Rows.fnExecuteWhatRow.laid w) (fun _ _ _ hh h => h.of_heap hh) own started (by kernel_rfl) Tryz.func5
  (ChangeSpec.witness_shaped (enc := enc) (C := Tryz.checked) (os := os) (X := fun w _ => laidMetH Tryz.prog Rows.fnExecuteWhatRow.laid w) false (World.laidAll Tryz.prog os Rows.fnExecuteWhatRow.laid) #[.slice none 0 0] 8 (World.laidAll_os _ _ _) (World.shaped_of_ZipB (by kernel_rfl) (by kernel_rfl)) (by kernel_rfl) (by kernel_rfl) (by kernel_rfl) (lay_met os _)) ?_
 intro W base args ds gs before hval0 hW hL hsh
 have hval : ∀ (j : Nat) t v, Tryz.f5.params[j]? = some t → args[j]? = some v → Value.okWide Tryz.prog W .any base t v := hval0
 have hW' := hW
 obtain ⟨p, q, hA0, hV, rfl, hfz, hnd⟩ := hW
 have hA : DataW.TrodAll enc Tryz.prog W 0 (fun _ => true) true Tryz.f5.params.toList args.toList ds p := hA0
 rw [Tryz.params5] at hA hval
 obtain ⟨v0, vs0, d0, ds0, p0, q0, hargs, rfl, rfl, h0, r0⟩ := trodAll_cons hA
 obtain ⟨rfl, rfl, rfl⟩ := trodAll_nil r0
 obtain rfl : args = #[v0] := by cases args; simp_all
 obtain ⟨rfl, rfl⟩ := trodVars_none hV
 have k0 := h0
 have lt0 : ∀ x ∈ p0, x.block < W.heap.size := by obtain ⟨m, hm⟩ := k0; exact DataW.trod_lt m _ _ _ hm
 obtain ⟨a0, len0, cap0, rfl⟩ := okWide_slice Tryz.underlying22 (hval 0 22 v0 rfl rfl)
 obtain ⟨z0, w0⟩ : ∃ zs, IsRow .u8 W a0 len0 cap0 zs := by
  obtain ⟨fuel, hf⟩ := h0
  rcases open_ints Tryz.underlying22 Tryz.underlying5 (by kernel_rfl) hf with ⟨hcs, _⟩ | ⟨x, l, c, zs, hcs, _, hl, hm, hz, _, hcell, hwz⟩
  ·simp [Value.cells] at hcs
   obtain ⟨rfl, rfl, rfl⟩ := hcs
   exact ⟨[], .inl ⟨rfl, rfl, rfl, rfl⟩⟩
  ·simp [Value.cells] at hcs
   obtain ⟨rfl, rfl, rfl⟩ := hcs
   exact ⟨zs, .inr ⟨_, rfl, hl, hm, by simpa using hz, hcell, hwz⟩⟩
 clear hA0 hval0
 have hpw : Pow W.heap.size W := pow_of_laid hL (by kernel_rfl) (.tail _ (.tail _ (.head _)))
 refine (walk a0 len0 cap0 z0 W w0 (max_of_shape hsh) hpw).mono fun e W' ⟨he, bel⟩ => ?_
 subst he
 exact ⟨_, rfl, _, _, _, [], _, [], hW', trodAll_mk1 (shut_bool Tryz.underlying4 _), (trodAll_cons_mk (Below.trod laidOut (by kernel_rfl) (of_decide_eq_true (by kernel_rfl)) k0 bel lt0) trodAll_mk0), rfl, bel.frame _, fun h => by cases h⟩
theorem over : Rows.fnExecuteWhatRow.holds Tryz.pinned (OpenSpec.ofChange Rows.fnExecuteWhatSpec) :=
 OpenClaim.holds_of_wide 5 Tryz.f5 rfl rfl rfl rfl rfl rfl rfl ⟨rfl, rfl, rfl, rfl, rfl⟩ rfl rfl rfl rfl rfl (by kernel_rfl) Tryz.func5 facts
  (of_decide_eq_true (by kernel_rfl)) (by unfold Func.isWrapper; first | (rw [if_pos (by decide +kernel)]; kernel_rfl) | (rw [if_neg (by decide +kernel)]; exact ⟨rfl, rfl⟩))
  (fun os started H enc _ => lifted os started H enc)
theorem card_wf : OpenClaim.wfByText (OpenSpec.ofChange Rows.fnExecuteWhatSpec) Rows.fnExecuteWhatRow = true := by kernel_rfl
theorem card_main : Tryz.pinned.checked.prog.mainIs = some (Rows.fnExecuteWhatCard.stood.harness.fst, Rows.fnExecuteWhatCard.stood.harness.snd.toList) := by kernel_rfl
theorem card_looks : Rows.fnExecuteWhatCard.stood.looks = Tryz.pinned.checked.prog.looks [] := by kernel_rfl
theorem card_goes : false = Rows.fnExecuteWhatRow.goesBy Tryz.pinned.checked.prog := by kernel_rfl
theorem card_fn : Tryz.prog.funcNamed "loop.example/countingboards/laws.FnExecuteWhat" = some 5 := by kernel_rfl
theorem proved : Rows.FnExecuteWhatCardSaid :=
 Claim7.holds_tied_plain_at .later [] Rows.fnExecuteWhatCard.laidKinds true Rows.fnExecuteWhatCard.stood.harness Rows.fnExecuteWhatCard.stood.looks
  over (fun _ h => by cases h) card_wf (fun _ h => by cases h) fnExecuteWhat_row_tie rfl ⟨rfl, rfl⟩ card_main rfl
  (fun f fn hf hfn => by
   obtain rfl : f = 5 := Option.some.inj (card_fn.symm.trans hf) |>.symm
   obtain rfl : fn = Tryz.f5 := (Option.some.inj (Tryz.func5.symm.trans hfn)).symm
   exact ⟨card_looks, fun j t ht => by
    rw [Tryz.params5] at ht
    have hm : t ∈ [22] := by simpa using Array.mem_of_getElem? ht
    have hall : ([22].all fun u => !Tryz.prog.wantsStandIn u) = true := by kernel_rfl
    exact (show Tryz.prog.wantsStandIn t = false by simpa using List.all_eq_true.1 hall t hm)⟩)
  card_goes
#print axioms proved
end Go.Proofs.YthdoofmfigemoaaGreatDoor.fnExecuteWhat
