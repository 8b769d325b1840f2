/-
  FnBoardReduced returns true for every code: a reduced board has the fewest counters.
-/
import Derived.Test.YtknjnlkamhbmgaaBdLow
namespace Go.Proofs.Ytknjnlkamhbmgaa.fnBoardReduced
open Go.RowKit

set_option maxRecDepth 100000 in
set_option maxHeartbeats 4000000 in
theorem walk (a0 : Option Addr) (len0 cap0 : Nat) (z0 : List Int) (w : World) (w0 : IsRow .u8 w a0 len0 cap0 z0) :
    Calls Try.prog 15 #[.slice a0 len0 cap0] w fun e w' => e = .returned (.bool true) ∧ Below w.heap.size w w' := by
  by_cases hbig : 1048576 < len0
  · clear w0
    go_enter Try.func15, Try.ntmps15
    go_wp2
    go_ret
    exact ⟨rfl, Below.refl _ _⟩
  · have HC := Lib.hid (Bytes.of_row w0)
    clear w0
    go_enter Try.func15, Try.ntmps15
    go_wp2_with fail
    refine (DrawBoardReduced_any _ _ _ _ HC.out (by omega)).mono ?_
    rintro e w1 ⟨A1, n1, c1, xs, rfl, hx1, hn1, hb1⟩
    have HB1 := Lib.hid hb1
    clear hb1
    have HI1 := Lib.hid hx1
    clear hx1
    rcases hok : (Bd.okB xs && Bd.isRed true xs) with _ | _
    · have HOK := Lib.hid hok
      clear hok
      go_wp2_with fail
      have hcall := BoardReduced_any A1 n1 c1 xs _ HI1.out
      rw [HOK.out] at hcall
      refine hcall.mono ?_
      clear hcall
      rintro e w2 ⟨rfl, hb2⟩
      replace HI1 := Lib.hid (HI1.out.next hb2)
      have HB2 := Lib.hid (below_chain HB1.out hb2)
      clear hb2
      go_wp2_with fail
      have hcall := specBoardReduced_any A1 n1 c1 xs _ _ HI1.out (by omega)
      rw [HOK.out] at hcall
      refine hcall.mono ?_
      clear hcall
      rintro e w3 ⟨rfl, hb3⟩
      replace HI1 := Lib.hid (HI1.out.next hb3)
      have HB3 := Lib.hid (below_chain HB2.out hb3)
      clear hb3
      go_wp2
      go_ret
      exact ⟨rfl, HB3.out⟩
    · have HOK := Lib.hid hok
      clear hok
      go_wp2_with fail
      have hcall := BoardReduced_any A1 n1 c1 xs _ HI1.out
      rw [HOK.out] at hcall
      refine hcall.mono ?_
      clear hcall
      rintro e w2 ⟨rfl, hb2⟩
      replace HI1 := Lib.hid (HI1.out.next hb2)
      have HB2 := Lib.hid (below_chain HB1.out hb2)
      clear hb2
      go_wp2_with fail
      have hcall := specBoardReduced_any A1 n1 c1 xs _ _ HI1.out (by omega)
      rw [HOK.out] at hcall
      refine hcall.mono ?_
      clear hcall
      rintro e w3 ⟨rfl, hb3⟩
      replace HI1 := Lib.hid (HI1.out.next hb3)
      have HB3 := Lib.hid (below_chain HB2.out hb3)
      clear hb3
      obtain ⟨h1, h2⟩ := Bool.and_eq_true_iff.1 HOK.out
      have HLOW := Lib.hid (low_red h1 h2)
      have HRAI := Lib.hid (bRais_red h1 h2)
      have hfew := bFew_red h1 h2
      have hcnt := bCnt_yes h1
      have hval := bVal_yes h1
      generalize Bd.V true xs = va at hfew hval
      generalize Bd.sum xs = ca at hfew hcnt
      have HFEW := Lib.hid hfew
      have HCNT := Lib.hid hcnt
      have HVAL := Lib.hid hval
      clear h1 h2 hfew hcnt hval
      go_wp2_with fail
      have hcall := lowest_any A1 n1 c1 xs _ HI1.out
      rw [HLOW.out] at hcall
      refine hcall.mono ?_
      clear hcall
      rintro e w4 ⟨rfl, hb4⟩
      replace HI1 := Lib.hid (HI1.out.next hb4)
      have HB4 := Lib.hid (below_chain HB3.out hb4)
      clear hb4
      go_wp2_with fail
      have hcall := BoardRaises_any A1 n1 c1 xs _ HI1.out
      rw [HRAI.out] at hcall
      refine hcall.mono ?_
      clear hcall
      rintro e w5 ⟨rfl, hb5⟩
      replace HI1 := Lib.hid (HI1.out.next hb5)
      have HB5 := Lib.hid (below_chain HB4.out hb5)
      clear hb5
      go_wp2_with fail
      have hcall := BoardCounters_any A1 n1 c1 xs _ HI1.out
      rw [HCNT.out] at hcall
      refine hcall.mono ?_
      clear hcall
      rintro e w6 ⟨rfl, hb6⟩
      replace HI1 := Lib.hid (HI1.out.next hb6)
      have HB6 := Lib.hid (below_chain HB5.out hb6)
      clear hb6
      go_wp2_with fail
      have hcall := BoardValue_any A1 n1 c1 xs _ HI1.out
      rw [HVAL.out] at hcall
      refine hcall.mono ?_
      clear hcall
      rintro e w7 ⟨rfl, hb7⟩
      replace HI1 := Lib.hid (HI1.out.next hb7)
      have HB7 := Lib.hid (below_chain HB6.out hb7)
      clear hb7
      go_wp2_with fail
      have hcall := fun w => BoardFewest_any va w
      rw [HFEW.out] at hcall
      refine (hcall _).mono ?_
      clear hcall
      rintro e w8 ⟨rfl, hb8⟩
      replace HI1 := Lib.hid (HI1.out.next hb8)
      have HB8 := Lib.hid (below_chain HB7.out hb8)
      clear hb8
      go_wp2
      go_ret
      exact ⟨rfl, HB8.out⟩
end Go.Proofs.Ytknjnlkamhbmgaa.fnBoardReduced
