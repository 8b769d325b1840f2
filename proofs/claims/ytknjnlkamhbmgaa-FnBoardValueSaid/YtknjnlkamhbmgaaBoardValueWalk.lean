/-
  FnBoardValue returns true for every code: a counter is worth its place.
-/
import Derived.Test.YtknjnlkamhbmgaaBdLow2
namespace Go.Proofs.Ytknjnlkamhbmgaa.fnBoardValue
open Go.RowKit

set_option maxRecDepth 100000 in
set_option maxHeartbeats 4000000 in
theorem walk (a0 : Option Addr) (len0 cap0 : Nat) (z0 : List Int) (w : World) (w0 : IsRow .u8 w a0 len0 cap0 z0) :
    Calls Try.prog 4 #[.slice a0 len0 cap0] w fun e w' => e = .returned (.bool true) ∧ Below w.heap.size w w' := by
  by_cases hbig : 1048576 < len0
  · clear w0
    go_enter Try.func4, Try.ntmps4
    go_wp2
    go_ret
    exact ⟨rfl, Below.refl _ _⟩
  · have HC := Lib.hid (Bytes.of_row w0)
    clear w0
    go_enter Try.func4, Try.ntmps4
    go_wp2_with fail
    refine (DrawBoardValue_any _ _ _ _ HC.out (by omega)).mono ?_
    rintro e w1 ⟨A1, n1, c1, xs, rfl, hx1, hn1, hb1⟩
    have HB1 := Lib.hid hb1
    clear hb1
    have HI1 := Lib.hid hx1
    clear hx1
    rcases hok : Bd.okB xs with _ | _
    · have HOK := Lib.hid hok
      have HV := Lib.hid (bVal_no hok)
      clear hok
      go_wp2_with fail
      have hcall := BoardValue_any A1 n1 c1 xs _ HI1.out
      rw [HV.out] at hcall
      refine hcall.mono ?_
      clear hcall
      rintro e w2 ⟨rfl, hb2⟩
      replace HI1 := Lib.hid (HI1.out.next hb2)
      have HB2 := Lib.hid (below_chain HB1.out hb2)
      clear hb2
      go_wp2_with fail
      have hcall := specBoardValue_any A1 n1 c1 xs _ _ HI1.out
      rw [HV.out] at hcall
      refine hcall.mono ?_
      clear hcall
      rintro e w3 ⟨rfl, hb3⟩
      replace HI1 := Lib.hid (HI1.out.next hb3)
      have HB3 := Lib.hid (below_chain HB2.out hb3)
      clear hb3
      go_wp2
      go_ret
      exact ⟨rfl, HB3.out⟩
    · have HOK := Lib.hid hok
      have hva := bVal_yes hok
      have hr := V_range hok
      have hl := ((Bd.okB_iff xs).1 hok).1
      have hlen := HI1.out.len
      obtain rfl : n1 = 10 := by omega
      generalize hVV : Bd.V true xs = va at *
      have HV := Lib.hid hva
      have HVV := Lib.hid hVV
      have HL := Lib.hid hl
      clear hok hva hVV hl hlen
      go_wp2_with fail
      have hcall := BoardValue_any A1 10 c1 xs _ HI1.out
      rw [HV.out] at hcall
      refine hcall.mono ?_
      clear hcall
      rintro e w2 ⟨rfl, hb2⟩
      replace HI1 := Lib.hid (HI1.out.next hb2)
      have HB2 := Lib.hid (below_chain HB1.out hb2)
      clear hb2
      go_wp2_with fail
      have hcall := specBoardValue_any A1 10 c1 xs _ _ HI1.out
      rw [HV.out] at hcall
      refine hcall.mono ?_
      clear hcall
      rintro e w3 ⟨rfl, hb3⟩
      replace HI1 := Lib.hid (HI1.out.next hb3)
      have HB3 := Lib.hid (below_chain HB2.out hb3)
      clear hb3
      go_wp2_with fail
      go_loopw [6, 7] (fun m i wr => ∃ k : Nat, k ≤ 10 ∧ i = .int .i64 k ∧ m = .int .i64 (Bd.worth k) ∧ Ints wr wr.heap.size A1 10 xs ∧ Below w.heap.size w wr) (fun _ i _ => 10 - (intOf i).toNat)
      case atStart => exact ⟨0, by omega, rfl, rfl, HI1.out, HB3.out⟩
      case round =>
        clear HB3 HI1
        obtain ⟨k, hk, rfl, rfl, hia, hbb⟩ := hrel
        have HIA := Lib.hid hia
        have HB0 := Lib.hid hbb
        clear hia hbb
        by_cases hlt : k < 10
        · obtain ⟨b, off, u, rfl, hub, hu, hcu⟩ := HIA.out.at_ hlt
          have hur := ((Bd.okB_iff xs).1 HOK.out).2 u (List.mem_of_getElem? hu)
          obtain ⟨hu0, hu1⟩ := hur
          have hwr := Bd.worth_range k hk
          obtain ⟨hw0, hw1⟩ := hwr
          have hws := Bd.worth_succ k
          have hyes := value_more HOK.out hlt hu
          rw [HVV.out] at hyes
          generalize Bd.worth k = m at *
          generalize hm2 : Bd.worth (k + 1) = m2 at *
          have HU := Lib.hid hu
          have HWS := Lib.hid hws
          have HM2 := Lib.hid hm2
          have HLN := Lib.hid (lit_nil wr)
          have HCU := Lib.hid hcu
          clear hu hws hm2 hcu
          by_cases h20 : u < 20
          · have HY : Hid (bVal (xs.set k (u + 1)) = va + m) := Lib.hid (by rw [hyes, if_pos h20])
            clear hyes
            rcases hpar : ((k : Int) % 2 == 0) with _ | _
            all_goals
              have HP := Lib.hid hpar
              go_wp2_with (at_builtin; refine wpList_app_ints rfl _ _ rfl rfl HLN.out rfl (HIA.out.alloc (Nat.le_refl _) _) (by omega) (by simp) ?_; intro A3 c3 w3 hown3 hg3; simp only [Nat.zero_add, List.nil_append] at hown3; obtain ⟨g, rfl, hgB, hgl, hcells, hfr⟩ := hown3.at_ (by omega); have cu := hcells k u HU.out; have fu := hfr k; have HS3 := Lib.hid (hown3.store k (u + 1)); have hb3 : Below wr.heap.size wr w3 := ((Below.refl _ _).alloc (Nat.le_refl _) _).grown hg3 (by simp) (by intro j hj; simp [Value.ownBlock] at hj; omega); have HB3 := Lib.hid hb3; clear hcells hfr hown3 hg3 hb3)
              refine (BoardValue_any _ _ _ _ _ HS3.out.1.ints).mono ?_
              rw [HY.out]
              rintro e w4 ⟨rfl, hb4⟩
              have HB4 := Lib.hid ((HB3.out.setCell (p := ⟨g, k, none⟩) hgB (.int .i64 (u + 1))).trans (hb4.mono (HB3.out.setCell (p := ⟨g, k, none⟩) hgB (.int .i64 (u + 1))).size))
              have hsz4 := HB4.out.size
              have HI4 := Lib.hid (HIA.out.next HB4.out)
              clear hb4
              go_wp2
              go_roundw
              case rel => exact ⟨k + 1, by omega, by go_num, by rw [HM2.out, HWS.out]; exact worth_mul HP.out, HI4.out, below_chain HB0.out HB4.out⟩
              case measure => simp [intOf]; omega
          · obtain rfl : u = 20 := by omega
            have HY : Hid (bVal (xs.set k (20 + 1)) = -1) := Lib.hid (by rw [hyes, if_neg h20])
            clear hyes
            rcases hpar : ((k : Int) % 2 == 0) with _ | _
            all_goals
              have HP := Lib.hid hpar
              go_wp2_with (at_builtin; refine wpList_app_ints rfl _ _ rfl rfl HLN.out rfl (HIA.out.alloc (Nat.le_refl _) _) (by omega) (by simp) ?_; intro A3 c3 w3 hown3 hg3; simp only [Nat.zero_add, List.nil_append] at hown3; obtain ⟨g, rfl, hgB, hgl, hcells, hfr⟩ := hown3.at_ (by omega); have cu := hcells k 20 HU.out; have fu := hfr k; have HS3 := Lib.hid (hown3.store k (20 + 1)); have hb3 : Below wr.heap.size wr w3 := ((Below.refl _ _).alloc (Nat.le_refl _) _).grown hg3 (by simp) (by intro j hj; simp [Value.ownBlock] at hj; omega); have HB3 := Lib.hid hb3; clear hcells hfr hown3 hg3 hb3)
              refine (BoardValue_any _ _ _ _ _ HS3.out.1.ints).mono ?_
              rw [HY.out]
              rintro e w4 ⟨rfl, hb4⟩
              have HB4 := Lib.hid ((HB3.out.setCell (p := ⟨g, k, none⟩) hgB (.int .i64 (20 + 1))).trans (hb4.mono (HB3.out.setCell (p := ⟨g, k, none⟩) hgB (.int .i64 (20 + 1))).size))
              have hsz4 := HB4.out.size
              have HI4 := Lib.hid (HIA.out.next HB4.out)
              have hc4 : w4.cell? ⟨b, off + k, none⟩ = some (.int .i64 20) := (HB4.out.cell (p := ⟨b, off + k, none⟩) hub).trans HCU.out
              clear hb4
              go_wp2
              go_roundw
              case rel => exact ⟨k + 1, by omega, by go_num, by rw [HM2.out, HWS.out]; exact worth_mul HP.out, HI4.out, below_chain HB0.out HB4.out⟩
              case measure => simp [intOf]; omega
        · go_wp2
          go_ret
          exact ⟨rfl, HB0.out⟩
end Go.Proofs.Ytknjnlkamhbmgaa.fnBoardValue
