/-
  FnBoardRaises returns true for every code: each raise takes counters.
-/
import Derived.Test.YtknjnlkamhbmgaaBdLow
namespace Go.Proofs.Ytknjnlkamhbmgaa.fnBoardRaises
open Go.RowKit

set_option maxRecDepth 100000 in
set_option maxHeartbeats 4000000 in
theorem walk (a0 : Option Addr) (len0 cap0 : Nat) (z0 : List Int) (w : World) (w0 : IsRow .u8 w a0 len0 cap0 z0) :
    Calls Try.prog 14 #[.slice a0 len0 cap0] w fun e w' => e = .returned (.bool true) ∧ Below w.heap.size w w' := by
  by_cases hbig : 1048576 < len0
  · clear w0
    go_enter Try.func14, Try.ntmps14
    go_wp2
    go_ret
    exact ⟨rfl, Below.refl _ _⟩
  · have HC := Lib.hid (Bytes.of_row w0)
    clear w0
    go_enter Try.func14, Try.ntmps14
    go_wp2_with fail
    refine (DrawBoardRaises_any _ _ _ _ HC.out (by omega)).mono ?_
    rintro e w1 ⟨A1, n1, c1, xs, rfl, hx1, hn1, hb1⟩
    have HB1 := Lib.hid hb1
    clear hb1
    have HI1 := Lib.hid hx1
    clear hx1
    by_cases hneg : bRais xs < 0
    · have HN := Lib.hid (bRais_neg hneg)
      clear hneg
      go_wp2_with fail
      have hcall := BoardRaises_any A1 n1 c1 xs _ HI1.out
      rw [HN.out] at hcall
      refine hcall.mono ?_
      clear hcall
      rintro e w2 ⟨rfl, hb2⟩
      replace HI1 := Lib.hid (HI1.out.next hb2)
      have HB2 := Lib.hid (below_chain HB1.out hb2)
      clear hb2
      go_wp2_with fail
      have hcall := specBoardRaises_any A1 n1 c1 xs _ HI1.out
      rw [HN.out] at hcall
      refine hcall.mono ?_
      clear hcall
      rintro e w3 ⟨rfl, hb3⟩
      replace HI1 := Lib.hid (HI1.out.next hb3)
      have HB3 := Lib.hid (below_chain HB2.out hb3)
      clear hb3
      go_wp2
      go_ret
      exact ⟨rfl, HB3.out⟩
    · obtain ⟨hok, hred, hra, hlo, hhi, hiff⟩ := rais_parts (by omega : 0 ≤ bRais xs)
      have hbd := sum_range hok
      have hbx := sum_range (okB_redL xs)
      rw [← hra] at hlo hhi hiff
      have hb : (Bd.okB xs && Bd.isRed true xs) = (bRais xs == 0) := by rw [hok, Bool.true_and, Bool.eq_iff_iff, ← hiff]; simp
      have hcx := bCnt_red (xs := xs)
      have hcb := bCnt_yes hok
      generalize hvr : bRais xs = ra at *
      generalize Bd.sum xs = sa at *
      generalize Bd.sum (redL xs) = sx at *
      have HRA := Lib.hid hvr
      have HRED := Lib.hid hred
      have HCX := Lib.hid hcx
      have HCB := Lib.hid hcb
      have HOB := Lib.hid hb
      clear hok hred hra hiff hvr hcx hcb hb
      go_wp2_with fail
      have hcall := BoardRaises_any A1 n1 c1 xs _ HI1.out
      rw [HRA.out] at hcall
      refine hcall.mono ?_
      clear hcall
      rintro e w2 ⟨rfl, hb2⟩
      replace HI1 := Lib.hid (HI1.out.next hb2)
      have HB2 := Lib.hid (below_chain HB1.out hb2)
      clear hb2
      go_wp2_with fail
      have hcall := specBoardRaises_any A1 n1 c1 xs _ HI1.out
      rw [HRA.out] at hcall
      refine hcall.mono ?_
      clear hcall
      rintro e w3 ⟨rfl, hb3⟩
      replace HI1 := Lib.hid (HI1.out.next hb3)
      have HB3 := Lib.hid (below_chain HB2.out hb3)
      clear hb3
      go_wp2_with fail
      have hcall := BoardReduce_any A1 n1 c1 xs _ HI1.out
      rw [HRED.out] at hcall
      refine hcall.mono ?_
      clear hcall
      rintro e w4 ⟨⟨A4, n4, c4, rfl, ho4⟩, hb4⟩
      simp only [if_true] at ho4
      replace HI1 := Lib.hid (HI1.out.next hb4)
      have HB4 := Lib.hid (below_chain HB3.out hb4)
      clear hb4
      have HI4 := Lib.hid ho4.ints
      clear ho4
      go_wp2_with fail
      have hcall := BoardCounters_any A1 n1 c1 xs _ HI1.out
      rw [HCB.out] at hcall
      refine hcall.mono ?_
      clear hcall
      rintro e w5 ⟨rfl, hb5⟩
      replace HI1 := Lib.hid (HI1.out.next hb5)
      replace HI4 := Lib.hid (HI4.out.next hb5)
      have HB5 := Lib.hid (below_chain HB4.out hb5)
      clear hb5
      go_wp2_with fail
      have hcall := BoardCounters_any A4 n4 c4 _ _ HI4.out
      rw [HCX.out] at hcall
      refine hcall.mono ?_
      clear hcall
      rintro e w6 ⟨rfl, hb6⟩
      replace HI1 := Lib.hid (HI1.out.next hb6)
      replace HI4 := Lib.hid (HI4.out.next hb6)
      have HB6 := Lib.hid (below_chain HB5.out hb6)
      clear hb6
      rcases hz : (ra == 0) with _ | _
      · have HZ := Lib.hid hz
        go_wp2_with fail
        have hcall := BoardReduced_any A1 n1 c1 xs _ HI1.out
        rw [HOB.out, HZ.out] at hcall
        refine hcall.mono ?_
        clear hcall
        rintro e w7 ⟨rfl, hb7⟩
        replace HI1 := Lib.hid (HI1.out.next hb7)
        replace HI4 := Lib.hid (HI4.out.next hb7)
        have HB7 := Lib.hid (below_chain HB6.out hb7)
        clear hb7
        go_wp2
        go_ret
        exact ⟨ret_bool (by simp <;> omega), HB7.out⟩
      · have HZ := Lib.hid hz
        go_wp2_with fail
        have hcall := BoardReduced_any A1 n1 c1 xs _ HI1.out
        rw [HOB.out, HZ.out] at hcall
        refine hcall.mono ?_
        clear hcall
        rintro e w7 ⟨rfl, hb7⟩
        replace HI1 := Lib.hid (HI1.out.next hb7)
        replace HI4 := Lib.hid (HI4.out.next hb7)
        have HB7 := Lib.hid (below_chain HB6.out hb7)
        clear hb7
        go_wp2
        go_ret
        exact ⟨ret_bool (by simp <;> omega), HB7.out⟩
end Go.Proofs.Ytknjnlkamhbmgaa.fnBoardRaises
