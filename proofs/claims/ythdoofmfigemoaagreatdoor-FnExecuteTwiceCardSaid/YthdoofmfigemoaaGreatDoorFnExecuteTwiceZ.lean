/-
  The walk of FnExecuteTwice and its given statement.
-/
import Derived.Test.YthdoofmfigemoaaGreatDoorSP1
import Derived.Test.YthdoofmfigemoaaGreatDoorRows
import Derived.Test.YthdoofmfigemoaaGreatDoorCards
import Derived.Test.YthdoofmfigemoaaGreatDoorTie
import Derived.SevenTiedAt
import Derived.LaidMore
import Derived.Stop.Joined
import Derived.Lay
import Derived.MakeChecks
import Derived.Test.YthdoofmfigemoaaGreatDoorExecuteTwiceFacts
import Derived.WalkKit
import Derived.ProofKit
import Derived.OpenShut
import Derived.ShutString
import Derived.ChangeOld
import Derived.Below
namespace Go.Proofs.YthdoofmfigemoaaGreatDoor.fnExecuteTwice
open Go.RowKit
set_option linter.unusedSimpArgs false
theorem full_parts {r : List UInt8} (hl : r.length ≤ 400) : ∃ P L A : ByteArray, bs (execT r) = A ∧ bs (preOf r) = P ∧ bs (endQ (finOf r) ++ [10]) = L ∧ A.size ≤ 100000 ∧ L.size ≤ 61 ∧ 1 ≤ L.size ∧ A.size = P.size + L.size ∧ A.extract 0 P.size = P ∧
  ∀ w : World, Calls Tryz.prog 16 #[.string A] w fun e w' => e = .returned (.string L) ∧ w = w' := by
 have h1 := pre_size r hl
 have h2 := endQ_len (finOf_inv r)
 have hA : (bs (execT r)).data.toList = preOf r ++ (endQ (finOf r) ++ [10]) := by rw [bs_list, execT_short hl, endS_is]
 have sA : (bs (execT r)).size = (preOf r).length + ((endQ (finOf r)).length + 1) := by rw [← ba_size, hA]; simp
 have sP := bs_size (preOf r)
 have sL : (bs (endQ (finOf r) ++ [10])).size = (endQ (finOf r)).length + 1 := by rw [bs_size]; simp
 refine ⟨bs (preOf r), bs (endQ (finOf r) ++ [10]), bs (execT r), rfl, rfl, rfl, by omega, by omega, by omega, by omega, ?_, fun w => lastLine_any (preOf r) (endQ (finOf r)) (ends_pre r) (endQ_nl (finOf_inv r)) _ (by omega) hA w⟩
 rw [ext_take, hA, sP, List.take_left]
def bs_list_p (P : ByteArray) : List UInt8 := P.data.toList
set_option maxRecDepth 100000 in
set_option maxHeartbeats 4000000 in
theorem walk (a0 : Option Addr) (len0 cap0 : Nat) (z0 : List Int) (w : World) (w0 : IsRow .u8 w a0 len0 cap0 z0) (hm : Max w) (hp : Pow w.heap.size w) :
  Calls Tryz.prog 4 #[.slice a0 len0 cap0] w fun e w' => e = .returned (.bool true) ∧ Below w.heap.size w w' := by
 by_cases hbig : 1048576 < len0
 ·clear w0
  go_enter Tryz.func4, Tryz.ntmps4
  go_wp2
  go_ret
  exact ⟨rfl, Below.refl _ _⟩
 ·have HC := Hd (Bytes.of_row w0)
  have HM := Hd hm
  have HP := Hd hp
  have h0w : 0 < w.heap.size := by obtain ⟨m, hm0⟩ := hm; exact World.block_lt_of_cell? w _ hm0
  have HNX := Hd (show ∀ w', Below w.heap.size w w' → Max w' ∧ Pow w'.heap.size w' from fun w' hb => ⟨by obtain ⟨m, hm⟩ := HM.out; exact ⟨m, (hb.cell (p := ⟨0, 0, none⟩) h0w).trans hm⟩, fun w2 hb2 => HP.out w2 (hb.trans (hb2.mono hb.size))⟩)
  clear w0 hm hp HM HP
  go_enter Tryz.func4, Tryz.ntmps4
  go_wp2_with fail
  refine (DrawExecute_any _ _ _ _ HC.out (by omega)).mono ?_
  rintro e w1 ⟨s, rfl, hs, hb1⟩
  have HB1 := Hd hb1
  have hsl := ba_size s
  obtain ⟨R, hR⟩ : ∃ R, bs (execT s.data.toList) = R := ⟨_, rfl⟩
  have HE := Hd (fun w h1 h2 => Execute_all s w h1 h2)
  have HS := Hd (fun w => specExecute_all s w)
  rw [hR] at HE HS
  have HCO := Hd (fun w => complete_any s w (by omega))
  clear hb1 hR hs hsl
  go_wp2_with fail
  refine (HE.out _ (HNX.out _ HB1.out).1 (HNX.out _ HB1.out).2).mono ?_
  rintro e w2 ⟨rfl, hb2⟩
  have HB2 := Hd (below_chain HB1.out hb2)
  clear hb2
  go_wp2_with fail
  refine (HS.out _).mono ?_
  rintro e w3 ⟨rfl, hb3⟩
  have HB3 := Hd (below_chain HB2.out hb3)
  clear hb3
  go_wp2_with fail
  refine (HCO.out _).mono ?_
  rintro e w4 ⟨r, rfl, hcr, rfl⟩
  have hfull := hcr.full
  have hsr := bs_size r
  obtain ⟨S, hS⟩ : ∃ S, bs r = S := ⟨_, rfl⟩
  by_cases hbg : 384 < S.size
  ·have hbI : (S.size : Int) > 384 := by omega
   rw [hS]
   clear hcr hfull hsr hS
   go_wp2_with fail
   go_ret
   exact ⟨rfl, HB3.out⟩
  have hbI : ¬ (S.size : Int) > 384 := by omega
  have hsz : r.length ≤ 384 := by rw [hS] at hsr; omega
  obtain ⟨P, L, A, hA, hP, hL, a1, l1, l2, hal, hext, hlast⟩ := full_parts (r := r) (by omega)
  have HLA := Hd hlast
  have HEA := Hd (show ∀ w, Max w → Pow w.heap.size w → Calls Tryz.prog 13 #[.string S] w fun e w' => e = .returned (.string A) ∧ Below w.heap.size w w' from fun w h1 h2 => by
   have h := Execute_all S w h1 h2
   rw [← hS, bs_list, hA, hS] at h
   exact h)
  have hx1 := exec_board hfull (by omega)
  have hx2 := exec_boards hfull (by omega)
  have hbl := bdText_len ((Bd.okB_iff _).1 (finOf_inv r).b.ok).1 ((Bd.okB_iff _).1 (finOf_inv r).b.ok).2
  obtain ⟨E1, hE1⟩ : ∃ E, bs (execT (r ++ (wBoard ++ [10]))) = E := ⟨_, rfl⟩
  obtain ⟨E2, hE2⟩ : ∃ E, bs (execT (r ++ ((wBoard ++ [10]) ++ (wBoard ++ [10])))) = E := ⟨_, rfl⟩
  obtain ⟨O, hO⟩ : ∃ O, bs (bdText (finOf r).bs ++ [10]) = O := ⟨_, rfl⟩
  have hOs : O.size ≤ 301 := by rw [← hO, bs_size]; simp; omega
  have q1 : E1 = (P ++ O) ++ L := by
   rw [← hE1, hx1, ← hP, ← hO, ← hL, bs_append, bs_append]
   congr 1
   simp only [List.append_assoc]
   rfl
  have q2 : ((P ++ O) ++ O) ++ L = E2 := by
   rw [← hE2, hx2, ← hP, ← hO, ← hL, bs_append, bs_append, bs_append]
   congr 1
   simp only [List.append_assoc]
   rfl
  have hE1s : E1.size = P.size + O.size + L.size := by rw [q1, ByteArray.size_append, ByteArray.size_append]
  have hone : E1.extract P.size (P.size + O.size) = O := by
   rw [ext_bs, q1]
   have h1 : ((P ++ O) ++ L).data.toList = bs_list_p P ++ (O.data.toList ++ L.data.toList) := by simp [bs_list_p]
   have h2 : (bs_list_p P).length = P.size := ba_size P
   rw [h1, show P.size + O.size - P.size = O.size by omega, ← h2, List.drop_left, ← ba_size O, List.take_left, bs_eta]
  have hcatS1 : S ++ ⟨#[98, 111, 97, 114, 100, 10]⟩ = bs (r ++ (wBoard ++ [10])) := by rw [← hS]; exact bs_append _ _
  have hcatS2 : S ++ ⟨#[98, 111, 97, 114, 100, 10, 98, 111, 97, 114, 100, 10]⟩ = bs (r ++ ((wBoard ++ [10]) ++ (wBoard ++ [10]))) := by rw [← hS]; exact bs_append _ _
  obtain ⟨S1, hS1⟩ : ∃ S1, bs (r ++ (wBoard ++ [10])) = S1 := ⟨_, rfl⟩
  obtain ⟨S2, hS2⟩ : ∃ S2, bs (r ++ ((wBoard ++ [10]) ++ (wBoard ++ [10]))) = S2 := ⟨_, rfl⟩
  have HE1 := Hd (show ∀ w, Max w → Pow w.heap.size w → Calls Tryz.prog 13 #[.string S1] w fun e w' => e = .returned (.string E1) ∧ Below w.heap.size w w' from fun w h1 h2 => by
   have h := Execute_all S1 w h1 h2
   rw [← hS1, bs_list, hE1, hS1] at h
   exact h)
  have HE2 := Hd (show ∀ w, Max w → Pow w.heap.size w → Calls Tryz.prog 13 #[.string S2] w fun e w' => e = .returned (.string E2) ∧ Below w.heap.size w w' from fun w h1 h2 => by
   have h := Execute_all S2 w h1 h2
   rw [← hS2, bs_list, hE2, hS2] at h
   exact h)
  rw [hS1] at hcatS1
  rw [hS2] at hcatS2
  rw [hS]
  have n1 := no_long (n := S.size) (by omega) 6 (by omega)
  have n2 := no_long (n := S.size) (by omega) 12 (by omega)
  have n3 := no_long (n := P.size) (by omega) O.size (by omega)
  have n4 := no_long (n := P.size + O.size) (by omega) O.size (by omega)
  have n5 := no_long (n := P.size + O.size + O.size) (by omega) L.size (by omega)
  have k1 : (A.size : Int) - (L.size : Int) = (P.size : Int) := by omega
  have k2 : P.size ≤ A.size := by omega
  have k3 : (P.size : Int) ≤ (A.size : Int) := by omega
  have k4 : IntKind.i64.wrap (P.size : Int) = (P.size : Int) := IntWalk.i64_in _ (by omega)
  have k5 : (0 : Int) ≤ (P.size : Int) := by omega
  have k6 : ¬ A.size < P.size := by omega
  have k7 : ¬ (A.size : Int) < (P.size : Int) := by omega
  obtain ⟨M, hM⟩ : ∃ M, P.size + O.size = M := ⟨_, rfl⟩
  have j1 : (E1.size : Int) - (L.size : Int) = (M : Int) := by omega
  have j2 : M ≤ E1.size := by omega
  have j3 : (M : Int) ≤ (E1.size : Int) := by omega
  have j4 : IntKind.i64.wrap (M : Int) = (M : Int) := IntWalk.i64_in _ (by omega)
  have j5 : (0 : Int) ≤ (M : Int) := by omega
  have j6 : ¬ E1.size < M := by omega
  have j7 : ¬ (E1.size : Int) < (M : Int) := by omega
  have j8 : P.size ≤ M := by omega
  have j9 : (P.size : Int) ≤ (M : Int) := by omega
  have j10 : ¬ (M : Int) < (P.size : Int) := by omega
  rw [hM] at hone
  have HCS1 := Hd hcatS1
  have HCS2 := Hd hcatS2
  have HCA := Hd q2
  clear hcr hfull hsr hS hA hP hL hlast hx1 hx2 hE1 hE2 hcatS1 hcatS2 hS1 hS2 hsz hal q1 q2 hO hbl hE1s hM
  go_wp2_with fail
  refine (HEA.out _ (HNX.out _ HB3.out).1 (HNX.out _ HB3.out).2).mono ?_
  rintro e w5 ⟨rfl, hb5⟩
  have HB5 := Hd (below_chain HB3.out hb5)
  clear hb5
  go_wp2_with fail
  refine (HLA.out _).mono ?_
  rintro e w6 ⟨rfl, rfl⟩
  go_wp2_with fail
  rw [HCS1.out]
  refine (HE1.out _ (HNX.out _ HB5.out).1 (HNX.out _ HB5.out).2).mono ?_
  rintro e w7 ⟨rfl, hb7⟩
  have HB7 := Hd (below_chain HB5.out hb7)
  clear hb7
  go_wp2_with fail
  go_region_with (go_at_call 13; rw [HCS2.out]; refine (HE2.out _ (HNX.out _ HB7.out.drew).1 (HNX.out _ HB7.out.drew).2).mono ?_; rintro e w8 ⟨rfl, hb8⟩; have HB8 := Hd (HB7.out.drew.trans (hb8.mono HB7.out.size)))
  all_goals
   go_wp2_with fail
   rw [HCA.out]
   go_ret
   exact ⟨by simp [Act.put], HB8.out⟩
end Go.Proofs.YthdoofmfigemoaaGreatDoor.fnExecuteTwice
namespace Go.Proofs.YthdoofmfigemoaaGreatDoor.fnExecuteTwice
open Go.ChangeShapes Go.WideShapes Go.ChangeAt Go.RowKit
open Go.ChangeMaps (open_string shut_string)
set_option linter.unusedVariables false
theorem own : ownKnob Tryz.prog.godebug = none := by kernel_rfl
theorem laidOut : laidOutB Tryz.prog = true := by kernel_rfl
theorem lay_met (os : Os) (args : Array Value) : laidMetH Tryz.prog Rows.fnExecuteTwiceRow.laid ((World.laidAll Tryz.prog os Rows.fnExecuteTwiceRow.laid).forCall (fun _ _ => 0) ⟨#[], args, []⟩).memory := by
 rw [MakeChecks.laidMetH_plain _ _ _ (by kernel_rfl)]
 exact laidMet_laidAll _ (by kernel_rfl) (by kernel_rfl)
set_option maxRecDepth 100000 in
theorem lifted (os : Os) (started : os.Started) (H : Type) (enc : TypeId × Value → H) :
  ReturnsInHanded {} Tryz.checked os 4 .any (fun w args => (Rows.fnExecuteTwiceSpec.pre enc Tryz.prog Tryz.f4 [] false w args ∧ laidMetH Tryz.prog Rows.fnExecuteTwiceRow.laid w) ∧ sizedMet enc Tryz.prog Tryz.f4 (OpenSpec.ofChange Rows.fnExecuteTwiceSpec) false w args)
   (Rows.fnExecuteTwiceSpec.post enc Tryz.prog Tryz.f4 false true false false) := by
 refine handed_both (C := Tryz.checked) (X := fun w _ => laidMetH Tryz.prog Rows.fnExecuteTwiceRow.laid w) (fun _ _ _ hh h => h.of_heap hh) own started (by kernel_rfl) Tryz.func4
  (ChangeSpec.witness_shaped (enc := enc) (C := Tryz.checked) (os := os) (X := fun w _ => laidMetH Tryz.prog Rows.fnExecuteTwiceRow.laid w) false (World.laidAll Tryz.prog os Rows.fnExecuteTwiceRow.laid) #[.slice none 0 0] 8 (World.laidAll_os _ _ _) (World.shaped_of_ZipB (by kernel_rfl) (by kernel_rfl)) (by kernel_rfl) (by kernel_rfl) (by kernel_rfl) (lay_met os _)) ?_
 intro W base args ds gs before hval0 hW hL hsh
 have hval : ∀ (j : Nat) t v, Tryz.f4.params[j]? = some t → args[j]? = some v → Value.okWide Tryz.prog W .any base t v := hval0
 have hW' := hW
 obtain ⟨p, q, hA0, hV, rfl, hfz, hnd⟩ := hW
 have hA : DataW.TrodAll enc Tryz.prog W 0 (fun _ => true) true Tryz.f4.params.toList args.toList ds p := hA0
 rw [Tryz.params4] at hA hval
 obtain ⟨v0, vs0, d0, ds0, p0, q0, hargs, rfl, rfl, h0, r0⟩ := trodAll_cons hA
 obtain ⟨rfl, rfl, rfl⟩ := trodAll_nil r0
 obtain rfl : args = #[v0] := by cases args; simp_all
 obtain ⟨rfl, rfl⟩ := trodVars_none hV
 have k0 := h0
 have lt0 : ∀ x ∈ p0, x.block < W.heap.size := by obtain ⟨m, hm⟩ := k0; exact DataW.trod_lt m _ _ _ hm
 obtain ⟨a0, len0, cap0, rfl⟩ := okWide_slice Tryz.underlying22 (hval 0 22 v0 rfl rfl)
 obtain ⟨z0, w0⟩ : ∃ zs, IsRow .u8 W a0 len0 cap0 zs := by
  obtain ⟨fuel, hf⟩ := h0
  rcases open_ints Tryz.underlying22 Tryz.underlying5 (by kernel_rfl) hf with ⟨hcs, _⟩ | ⟨x, l, c, zs, hcs, _, hl, hm, hz, _, hcell, hwz⟩
  ·simp [Value.cells] at hcs
   obtain ⟨rfl, rfl, rfl⟩ := hcs
   exact ⟨[], .inl ⟨rfl, rfl, rfl, rfl⟩⟩
  ·simp [Value.cells] at hcs
   obtain ⟨rfl, rfl, rfl⟩ := hcs
   exact ⟨zs, .inr ⟨_, rfl, hl, hm, by simpa using hz, hcell, hwz⟩⟩
 clear hA0 hval0
 have hpw : Pow W.heap.size W := pow_of_laid hL (by kernel_rfl) (.tail _ (.tail _ (.head _)))
 refine (walk a0 len0 cap0 z0 W w0 (max_of_shape hsh) hpw).mono fun e W' ⟨he, bel⟩ => ?_
 subst he
 exact ⟨_, rfl, _, _, _, [], _, [], hW', trodAll_mk1 (shut_bool Tryz.underlying4 _), (trodAll_cons_mk (Below.trod laidOut (by kernel_rfl) (of_decide_eq_true (by kernel_rfl)) k0 bel lt0) trodAll_mk0), rfl, bel.frame _, fun h => by cases h⟩
theorem over : Rows.fnExecuteTwiceRow.holds Tryz.pinned (OpenSpec.ofChange Rows.fnExecuteTwiceSpec) :=
 OpenClaim.holds_of_wide 4 Tryz.f4 rfl rfl rfl rfl rfl rfl rfl ⟨rfl, rfl, rfl, rfl, rfl⟩ rfl rfl rfl rfl rfl (by kernel_rfl) Tryz.func4 facts
  (of_decide_eq_true (by kernel_rfl)) (by unfold Func.isWrapper; first | (rw [if_pos (by decide +kernel)]; kernel_rfl) | (rw [if_neg (by decide +kernel)]; exact ⟨rfl, rfl⟩))
  (fun os started H enc _ => lifted os started H enc)
theorem card_wf : OpenClaim.wfByText (OpenSpec.ofChange Rows.fnExecuteTwiceSpec) Rows.fnExecuteTwiceRow = true := by kernel_rfl
theorem card_main : Tryz.pinned.checked.prog.mainIs = some (Rows.fnExecuteTwiceCard.stood.harness.fst, Rows.fnExecuteTwiceCard.stood.harness.snd.toList) := by kernel_rfl
theorem card_looks : Rows.fnExecuteTwiceCard.stood.looks = Tryz.pinned.checked.prog.looks [] := by kernel_rfl
theorem card_goes : false = Rows.fnExecuteTwiceRow.goesBy Tryz.pinned.checked.prog := by kernel_rfl
theorem card_fn : Tryz.prog.funcNamed "loop.example/countingboards/laws.FnExecuteTwice" = some 4 := by kernel_rfl
theorem proved : Rows.FnExecuteTwiceCardSaid :=
 Claim7.holds_tied_plain_at .later [] Rows.fnExecuteTwiceCard.laidKinds true Rows.fnExecuteTwiceCard.stood.harness Rows.fnExecuteTwiceCard.stood.looks
  over (fun _ h => by cases h) card_wf (fun _ h => by cases h) fnExecuteTwice_row_tie rfl ⟨rfl, rfl⟩ card_main rfl
  (fun f fn hf hfn => by
   obtain rfl : f = 4 := Option.some.inj (card_fn.symm.trans hf) |>.symm
   obtain rfl : fn = Tryz.f4 := (Option.some.inj (Tryz.func4.symm.trans hfn)).symm
   exact ⟨card_looks, fun j t ht => by
    rw [Tryz.params4] at ht
    have hm : t ∈ [22] := by simpa using Array.mem_of_getElem? ht
    have hall : ([22].all fun u => !Tryz.prog.wantsStandIn u) = true := by kernel_rfl
    exact (show Tryz.prog.wantsStandIn t = false by simpa using List.all_eq_true.1 hall t hm)⟩)
  card_goes
#print axioms proved
end Go.Proofs.YthdoofmfigemoaaGreatDoor.fnExecuteTwice
