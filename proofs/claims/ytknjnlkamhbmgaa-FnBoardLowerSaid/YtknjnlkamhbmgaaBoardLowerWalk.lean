/-
  FnBoardLower returns true for every code: what is lowered goes back, and the value stays.
-/
import Derived.Test.YtknjnlkamhbmgaaBdLawKit3
namespace Go.Proofs.Ytknjnlkamhbmgaa.fnBoardLower
open Go.RowKit

set_option maxRecDepth 100000 in
set_option maxHeartbeats 4000000 in
theorem walk (a0 : Option Addr) (len0 cap0 : Nat) (z0 : List Int) (w : World) (w0 : IsRow .u8 w a0 len0 cap0 z0) :
    Calls Try.prog 9 #[.slice a0 len0 cap0] w fun e w' => e = .returned (.bool true) ∧ Below w.heap.size w w' := by
  by_cases hbig : 1048576 < len0
  · clear w0
    go_enter Try.func9, Try.ntmps9
    go_wp2
    go_ret
    exact ⟨rfl, Below.refl _ _⟩
  · have HC := Lib.hid (Bytes.of_row w0)
    clear w0
    go_enter Try.func9, Try.ntmps9
    go_wp2_with fail
    refine (DrawBoardLower_any _ _ _ _ HC.out (by omega)).mono ?_
    rintro e w1 ⟨A1, n1, c1, xs, v, rfl, hx1, hn1, hp0, hp1, hb1⟩
    have HB1 := Lib.hid hb1
    clear hb1
    have HI1 := Lib.hid hx1
    clear hx1
    rcases hok : lowerOK xs v with _ | _
    · have HOK := Lib.hid hok
      clear hok
      go_wp2_with fail
      have hcall := BoardLower_any A1 n1 c1 xs v _ HI1.out
      rw [HOK.out] at hcall
      refine hcall.mono ?_
      clear hcall
      rintro e w2 ⟨⟨A2, n2, c2, rfl, ho2⟩, hb2⟩
      simp only [Bool.false_eq_true, if_false] at ho2
      replace HI1 := Lib.hid (HI1.out.next hb2)
      have HB2 := Lib.hid (below_chain HB1.out hb2)
      clear hb2
      have HI2 := Lib.hid ho2.ints
      clear ho2
      go_wp2_with fail
      have hcall := specBoardLower_any A1 n1 c1 xs v _ HI1.out
      rw [HOK.out] at hcall
      refine hcall.mono ?_
      clear hcall
      rintro e w3 ⟨⟨A3, n3, c3, rfl, ho3⟩, hb3⟩
      simp only [Bool.false_eq_true, if_false] at ho3
      replace HI1 := Lib.hid (HI1.out.next hb3)
      replace HI2 := Lib.hid (HI2.out.next hb3)
      have HB3 := Lib.hid (below_chain HB2.out hb3)
      clear hb3
      have HI3 := Lib.hid ho3.ints
      clear ho3
      go_wp2_with fail
      refine (sameInts_any _ _ _ _ _ _ _ _ _ _ _ HI2.out HI3.out).mono ?_
      rintro e w4 ⟨rfl, q4, hw4⟩
      rw [sameB_self]
      replace HI1 := Lib.hid (ints_same HI1.out hw4)
      replace HI2 := Lib.hid (ints_same HI2.out hw4)
      replace HI3 := Lib.hid (ints_same HI3.out hw4)
      replace HB3 := Lib.hid (below_same HB3.out hw4)
      clear hw4
      go_wp2_with fail
      refine (sameInts_any _ _ _ _ _ _ _ _ _ _ _ HI2.out HI3.out).mono ?_
      rintro e w5 ⟨rfl, q5, hw5⟩
      rw [sameB_self]
      replace HI1 := Lib.hid (ints_same HI1.out hw5)
      replace HI2 := Lib.hid (ints_same HI2.out hw5)
      replace HI3 := Lib.hid (ints_same HI3.out hw5)
      replace HB3 := Lib.hid (below_same HB3.out hw5)
      clear hw5
      go_wp2
      go_ret
      exact ⟨rfl, HB3.out⟩
    · have HOK := Lib.hid hok
      clear hok
      obtain ⟨hx, hq0, hq1, _⟩ := lower_parts HOK.out
      have ra := V_range hx
      have sa := sum_range hx
      obtain ⟨hnv, g, hg, hnc⟩ := lower_nums HOK.out
      generalize hva : Bd.V true xs = va at ra hnv
      generalize hsa : Bd.sum xs = ca at sa hnc
      have HX := Lib.hid hx
      have HVA := Lib.hid hva
      have HSA := Lib.hid hsa
      have HNV := Lib.hid hnv
      have HNC := Lib.hid hnc
      clear hx hva hsa hnv hnc
      go_wp2_with fail
      have hcall := BoardLower_any A1 n1 c1 xs v _ HI1.out
      rw [HOK.out] at hcall
      refine hcall.mono ?_
      clear hcall
      rintro e w2 ⟨⟨A2, n2, c2, rfl, ho2⟩, hb2⟩
      simp only [if_true] at ho2
      replace HI1 := Lib.hid (HI1.out.next hb2)
      have HB2 := Lib.hid (below_chain HB1.out hb2)
      clear hb2
      have HI2 := Lib.hid ho2.ints
      clear ho2
      go_wp2_with fail
      have hcall := specBoardLower_any A1 n1 c1 xs v _ HI1.out
      rw [HOK.out] at hcall
      refine hcall.mono ?_
      clear hcall
      rintro e w3 ⟨⟨A3, n3, c3, rfl, ho3⟩, hb3⟩
      simp only [if_true] at ho3
      replace HI1 := Lib.hid (HI1.out.next hb3)
      replace HI2 := Lib.hid (HI2.out.next hb3)
      have HB3 := Lib.hid (below_chain HB2.out hb3)
      clear hb3
      have HI3 := Lib.hid ho3.ints
      clear ho3
      go_wp2_with fail
      refine (sameInts_any _ _ _ _ _ _ _ _ _ _ _ HI2.out HI3.out).mono ?_
      rintro e w4 ⟨rfl, q4, hw4⟩
      rw [sameB_self]
      replace HI1 := Lib.hid (ints_same HI1.out hw4)
      replace HI2 := Lib.hid (ints_same HI2.out hw4)
      replace HI3 := Lib.hid (ints_same HI3.out hw4)
      replace HB3 := Lib.hid (below_same HB3.out hw4)
      clear hw4
      go_wp2_with fail
      have hcall := BoardRaise_any A2 n2 c2 _ (v - 1) _ HI2.out
      rw [(lower_back HOK.out).1, (lower_back HOK.out).2] at hcall
      refine hcall.mono ?_
      clear hcall
      rintro e w5 ⟨⟨A5, n5, c5, rfl, ho5⟩, hb5⟩
      simp only [if_true] at ho5
      replace HI1 := Lib.hid (HI1.out.next hb5)
      replace HI2 := Lib.hid (HI2.out.next hb5)
      replace HI3 := Lib.hid (HI3.out.next hb5)
      have HB5 := Lib.hid (below_chain HB3.out hb5)
      clear hb5
      have HI5 := Lib.hid ho5.ints
      clear ho5
      go_wp2_with fail
      refine (sameInts_any _ _ _ _ _ _ _ _ _ _ _ HI5.out HI1.out).mono ?_
      rintro e w6 ⟨rfl, q6, hw6⟩
      rw [sameB_self]
      replace HI1 := Lib.hid (ints_same HI1.out hw6)
      replace HI2 := Lib.hid (ints_same HI2.out hw6)
      replace HI3 := Lib.hid (ints_same HI3.out hw6)
      replace HI5 := Lib.hid (ints_same HI5.out hw6)
      replace HB5 := Lib.hid (below_same HB5.out hw6)
      clear hw6
      go_wp2_with fail
      have hcall := BoardValue_any A2 n2 c2 _ _ HI2.out
      rw [HNV.out] at hcall
      refine hcall.mono ?_
      clear hcall
      rintro e w7 ⟨rfl, hb7⟩
      replace HI1 := Lib.hid (HI1.out.next hb7)
      replace HI2 := Lib.hid (HI2.out.next hb7)
      replace HI3 := Lib.hid (HI3.out.next hb7)
      replace HI5 := Lib.hid (HI5.out.next hb7)
      have HB7 := Lib.hid (below_chain HB5.out hb7)
      clear hb7
      go_wp2_with fail
      have hcall := BoardValue_any A1 n1 c1 xs _ HI1.out
      rw [bVal_yes HX.out, HVA.out] at hcall
      refine hcall.mono ?_
      clear hcall
      rintro e w8 ⟨rfl, hb8⟩
      replace HI1 := Lib.hid (HI1.out.next hb8)
      replace HI2 := Lib.hid (HI2.out.next hb8)
      replace HI3 := Lib.hid (HI3.out.next hb8)
      replace HI5 := Lib.hid (HI5.out.next hb8)
      have HB8 := Lib.hid (below_chain HB7.out hb8)
      clear hb8
      go_wp2_with fail
      have hcall := BoardCounters_any A2 n2 c2 _ _ HI2.out
      rw [HNC.out] at hcall
      refine hcall.mono ?_
      clear hcall
      rintro e w9 ⟨rfl, hb9⟩
      replace HI1 := Lib.hid (HI1.out.next hb9)
      replace HI2 := Lib.hid (HI2.out.next hb9)
      replace HI3 := Lib.hid (HI3.out.next hb9)
      replace HI5 := Lib.hid (HI5.out.next hb9)
      have HB9 := Lib.hid (below_chain HB8.out hb9)
      clear hb9
      go_wp2_with fail
      have hcall := BoardCounters_any A1 n1 c1 xs _ HI1.out
      rw [bCnt_yes HX.out, HSA.out] at hcall
      refine hcall.mono ?_
      clear hcall
      rintro e w10 ⟨rfl, hb10⟩
      replace HI1 := Lib.hid (HI1.out.next hb10)
      replace HI2 := Lib.hid (HI2.out.next hb10)
      replace HI3 := Lib.hid (HI3.out.next hb10)
      replace HI5 := Lib.hid (HI5.out.next hb10)
      have HB10 := Lib.hid (below_chain HB9.out hb10)
      clear hb10
      go_wp2
      go_ret
      exact ⟨ret_bool (by simp <;> omega), HB10.out⟩
end Go.Proofs.Ytknjnlkamhbmgaa.fnBoardLower
