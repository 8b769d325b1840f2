/-
  FnBoardLay returns true for every code: the counters of two boards laid together.
-/
import Derived.Test.YtknjnlkamhbmgaaBdLawKit2
namespace Go.Proofs.Ytknjnlkamhbmgaa.fnBoardLay
open Go.RowKit

set_option maxRecDepth 100000 in
set_option maxHeartbeats 4000000 in
theorem walk (a0 : Option Addr) (len0 cap0 : Nat) (z0 : List Int) (w : World) (w0 : IsRow .u8 w a0 len0 cap0 z0) :
    Calls Try.prog 11 #[.slice a0 len0 cap0] w fun e w' => e = .returned (.bool true) ∧ Below w.heap.size w w' := by
  by_cases hbig : 1048576 < len0
  · clear w0
    go_enter Try.func11, Try.ntmps11
    go_wp2
    go_ret
    exact ⟨rfl, Below.refl _ _⟩
  · have HC := Lib.hid (Bytes.of_row w0)
    clear w0
    go_enter Try.func11, Try.ntmps11
    go_wp2_with fail
    refine (DrawBoardLay_any _ _ _ _ HC.out (by omega)).mono ?_
    rintro e w1 ⟨A1, n1, c1, xs, A2, n2, c2, ys, rfl, hx1, hx2, hn1, hn2, hb1⟩
    have HB1 := Lib.hid hb1
    clear hb1
    have HI1 := Lib.hid hx1
    clear hx1
    have HI2 := Lib.hid hx2
    clear hx2
    rcases hok : layOK xs ys with _ | _
    · have HOK := Lib.hid hok
      clear hok
      go_wp2_with fail
      have hcall := BoardLay_any A1 A2 n1 c1 n2 c2 xs ys _ HI1.out HI2.out
      rw [HOK.out] at hcall
      refine hcall.mono ?_
      clear hcall
      rintro e w3 ⟨⟨A3, n3, c3, rfl, ho3⟩, hb3⟩
      simp only [Bool.false_eq_true, if_false] at ho3
      replace HI1 := Lib.hid (HI1.out.next hb3)
      replace HI2 := Lib.hid (HI2.out.next hb3)
      have HB3 := Lib.hid (below_chain HB1.out hb3)
      clear hb3
      have HI3 := Lib.hid ho3.ints
      clear ho3
      go_wp2_with fail
      have hcall := specBoardLay_any A1 A2 n1 c1 n2 c2 xs ys _ HI1.out HI2.out
      rw [HOK.out] at hcall
      refine hcall.mono ?_
      clear hcall
      rintro e w4 ⟨⟨A4, n4, c4, rfl, ho4⟩, hb4⟩
      simp only [Bool.false_eq_true, if_false] at ho4
      replace HI1 := Lib.hid (HI1.out.next hb4)
      replace HI2 := Lib.hid (HI2.out.next hb4)
      replace HI3 := Lib.hid (HI3.out.next hb4)
      have HB4 := Lib.hid (below_chain HB3.out hb4)
      clear hb4
      have HI4 := Lib.hid ho4.ints
      clear ho4
      go_wp2_with fail
      refine (sameInts_any _ _ _ _ _ _ _ _ _ _ _ HI3.out HI4.out).mono ?_
      rintro e w5 ⟨rfl, q5, hw5⟩
      rw [sameB_self]
      replace HI1 := Lib.hid (ints_same HI1.out hw5)
      replace HI2 := Lib.hid (ints_same HI2.out hw5)
      replace HI3 := Lib.hid (ints_same HI3.out hw5)
      replace HI4 := Lib.hid (ints_same HI4.out hw5)
      replace HB4 := Lib.hid (below_same HB4.out hw5)
      clear hw5
      go_wp2_with fail
      refine (sameInts_any _ _ _ _ _ _ _ _ _ _ _ HI3.out HI4.out).mono ?_
      rintro e w6 ⟨rfl, q6, hw6⟩
      rw [sameB_self]
      replace HI1 := Lib.hid (ints_same HI1.out hw6)
      replace HI2 := Lib.hid (ints_same HI2.out hw6)
      replace HI3 := Lib.hid (ints_same HI3.out hw6)
      replace HI4 := Lib.hid (ints_same HI4.out hw6)
      replace HB4 := Lib.hid (below_same HB4.out hw6)
      clear hw6
      go_wp2
      go_ret
      exact ⟨rfl, HB4.out⟩
    · have HOK := Lib.hid hok
      clear hok
      obtain ⟨hx, hy, _, _⟩ := lay_parts HOK.out
      have ra := V_range hx
      have rb := V_range hy
      have sa := sum_range hx
      have sb := sum_range hy
      generalize hva : Bd.V true xs = va at ra
      generalize hvb : Bd.V true ys = vb at rb
      generalize hsa : Bd.sum xs = ca at sa
      generalize hsb : Bd.sum ys = cb at sb
      have HX := Lib.hid hx
      have HY := Lib.hid hy
      have HVA := Lib.hid hva
      have HVB := Lib.hid hvb
      have HSA := Lib.hid hsa
      have HSB := Lib.hid hsb
      clear hx hy hva hvb hsa hsb
      go_wp2_with fail
      have hcall := BoardLay_any A1 A2 n1 c1 n2 c2 xs ys _ HI1.out HI2.out
      rw [HOK.out] at hcall
      refine hcall.mono ?_
      clear hcall
      rintro e w3 ⟨⟨A3, n3, c3, rfl, ho3⟩, hb3⟩
      simp only [if_true] at ho3
      replace HI1 := Lib.hid (HI1.out.next hb3)
      replace HI2 := Lib.hid (HI2.out.next hb3)
      have HB3 := Lib.hid (below_chain HB1.out hb3)
      clear hb3
      have HI3 := Lib.hid ho3.ints
      clear ho3
      go_wp2_with fail
      have hcall := specBoardLay_any A1 A2 n1 c1 n2 c2 xs ys _ HI1.out HI2.out
      rw [HOK.out] at hcall
      refine hcall.mono ?_
      clear hcall
      rintro e w4 ⟨⟨A4, n4, c4, rfl, ho4⟩, hb4⟩
      simp only [if_true] at ho4
      replace HI1 := Lib.hid (HI1.out.next hb4)
      replace HI2 := Lib.hid (HI2.out.next hb4)
      replace HI3 := Lib.hid (HI3.out.next hb4)
      have HB4 := Lib.hid (below_chain HB3.out hb4)
      clear hb4
      have HI4 := Lib.hid ho4.ints
      clear ho4
      go_wp2_with fail
      refine (sameInts_any _ _ _ _ _ _ _ _ _ _ _ HI3.out HI4.out).mono ?_
      rintro e w5 ⟨rfl, q5, hw5⟩
      rw [sameB_self]
      replace HI1 := Lib.hid (ints_same HI1.out hw5)
      replace HI2 := Lib.hid (ints_same HI2.out hw5)
      replace HI3 := Lib.hid (ints_same HI3.out hw5)
      replace HI4 := Lib.hid (ints_same HI4.out hw5)
      replace HB4 := Lib.hid (below_same HB4.out hw5)
      clear hw5
      rcases hred : redOK xs with _ | _
      · have HRED := Lib.hid hred
        clear hred
        go_wp2_with fail
        have hcall := BoardLay_any A2 A1 n2 c2 n1 c1 ys xs _ HI2.out HI1.out
        rw [lay_comm HOK.out, Bd.addL_comm ys xs] at hcall
        refine hcall.mono ?_
        clear hcall
        rintro e w6 ⟨⟨A6, n6, c6, rfl, ho6⟩, hb6⟩
        simp only [if_true] at ho6
        replace HI1 := Lib.hid (HI1.out.next hb6)
        replace HI2 := Lib.hid (HI2.out.next hb6)
        replace HI3 := Lib.hid (HI3.out.next hb6)
        replace HI4 := Lib.hid (HI4.out.next hb6)
        have HB6 := Lib.hid (below_chain HB4.out hb6)
        clear hb6
        have HI6 := Lib.hid ho6.ints
        clear ho6
        go_wp2_with fail
        have hcall := BoardTake_any A3 A2 n3 c3 n2 c2 _ ys _ HI3.out HI2.out
        rw [(take_lay HOK.out).1, (take_lay HOK.out).2, HRED.out] at hcall
        refine hcall.mono ?_
        clear hcall
        rintro e w7 ⟨⟨A7, n7, c7, rfl, ho7⟩, hb7⟩
        simp only [Bool.false_eq_true, if_false] at ho7
        replace HI1 := Lib.hid (HI1.out.next hb7)
        replace HI2 := Lib.hid (HI2.out.next hb7)
        replace HI3 := Lib.hid (HI3.out.next hb7)
        replace HI4 := Lib.hid (HI4.out.next hb7)
        replace HI6 := Lib.hid (HI6.out.next hb7)
        have HB7 := Lib.hid (below_chain HB6.out hb7)
        clear hb7
        have HI7 := Lib.hid ho7.ints
        clear ho7
        go_wp2_with fail
        have hcall := BoardReduce_any A1 n1 c1 xs _ HI1.out
        rw [HRED.out] at hcall
        refine hcall.mono ?_
        clear hcall
        rintro e w8 ⟨⟨A8, n8, c8, rfl, ho8⟩, hb8⟩
        simp only [Bool.false_eq_true, if_false] at ho8
        replace HI1 := Lib.hid (HI1.out.next hb8)
        replace HI2 := Lib.hid (HI2.out.next hb8)
        replace HI3 := Lib.hid (HI3.out.next hb8)
        replace HI4 := Lib.hid (HI4.out.next hb8)
        replace HI6 := Lib.hid (HI6.out.next hb8)
        replace HI7 := Lib.hid (HI7.out.next hb8)
        have HB8 := Lib.hid (below_chain HB7.out hb8)
        clear hb8
        have HI8 := Lib.hid ho8.ints
        clear ho8
        go_wp2_with fail
        refine (sameInts_any _ _ _ _ _ _ _ _ _ _ _ HI6.out HI3.out).mono ?_
        rintro e w9 ⟨rfl, q9, hw9⟩
        rw [sameB_self]
        replace HI1 := Lib.hid (ints_same HI1.out hw9)
        replace HI2 := Lib.hid (ints_same HI2.out hw9)
        replace HI3 := Lib.hid (ints_same HI3.out hw9)
        replace HI4 := Lib.hid (ints_same HI4.out hw9)
        replace HI6 := Lib.hid (ints_same HI6.out hw9)
        replace HI7 := Lib.hid (ints_same HI7.out hw9)
        replace HI8 := Lib.hid (ints_same HI8.out hw9)
        replace HB8 := Lib.hid (below_same HB8.out hw9)
        clear hw9
        go_wp2_with fail
        refine (sameInts_any _ _ _ _ _ _ _ _ _ _ _ HI7.out HI8.out).mono ?_
        rintro e w10 ⟨rfl, q10, hw10⟩
        rw [sameB_self]
        replace HI1 := Lib.hid (ints_same HI1.out hw10)
        replace HI2 := Lib.hid (ints_same HI2.out hw10)
        replace HI3 := Lib.hid (ints_same HI3.out hw10)
        replace HI4 := Lib.hid (ints_same HI4.out hw10)
        replace HI6 := Lib.hid (ints_same HI6.out hw10)
        replace HI7 := Lib.hid (ints_same HI7.out hw10)
        replace HI8 := Lib.hid (ints_same HI8.out hw10)
        replace HB8 := Lib.hid (below_same HB8.out hw10)
        clear hw10
        go_wp2_with fail
        have hcall := BoardValue_any A3 n3 c3 _ _ HI3.out
        rw [V_lay HOK.out, HVA.out, HVB.out] at hcall
        refine hcall.mono ?_
        clear hcall
        rintro e w11 ⟨rfl, hb11⟩
        replace HI1 := Lib.hid (HI1.out.next hb11)
        replace HI2 := Lib.hid (HI2.out.next hb11)
        replace HI3 := Lib.hid (HI3.out.next hb11)
        replace HI4 := Lib.hid (HI4.out.next hb11)
        replace HI6 := Lib.hid (HI6.out.next hb11)
        replace HI7 := Lib.hid (HI7.out.next hb11)
        replace HI8 := Lib.hid (HI8.out.next hb11)
        have HB11 := Lib.hid (below_chain HB8.out hb11)
        clear hb11
        go_wp2_with fail
        have hcall := BoardValue_any A1 n1 c1 xs _ HI1.out
        rw [bVal_yes HX.out, HVA.out] at hcall
        refine hcall.mono ?_
        clear hcall
        rintro e w12 ⟨rfl, hb12⟩
        replace HI1 := Lib.hid (HI1.out.next hb12)
        replace HI2 := Lib.hid (HI2.out.next hb12)
        replace HI3 := Lib.hid (HI3.out.next hb12)
        replace HI4 := Lib.hid (HI4.out.next hb12)
        replace HI6 := Lib.hid (HI6.out.next hb12)
        replace HI7 := Lib.hid (HI7.out.next hb12)
        replace HI8 := Lib.hid (HI8.out.next hb12)
        have HB12 := Lib.hid (below_chain HB11.out hb12)
        clear hb12
        go_wp2_with fail
        have hcall := BoardValue_any A2 n2 c2 ys _ HI2.out
        rw [bVal_yes HY.out, HVB.out] at hcall
        refine hcall.mono ?_
        clear hcall
        rintro e w13 ⟨rfl, hb13⟩
        replace HI1 := Lib.hid (HI1.out.next hb13)
        replace HI2 := Lib.hid (HI2.out.next hb13)
        replace HI3 := Lib.hid (HI3.out.next hb13)
        replace HI4 := Lib.hid (HI4.out.next hb13)
        replace HI6 := Lib.hid (HI6.out.next hb13)
        replace HI7 := Lib.hid (HI7.out.next hb13)
        replace HI8 := Lib.hid (HI8.out.next hb13)
        have HB13 := Lib.hid (below_chain HB12.out hb13)
        clear hb13
        go_wp2_with fail
        have hcall := BoardCounters_any A3 n3 c3 _ _ HI3.out
        rw [sum_lay HOK.out, HSA.out, HSB.out] at hcall
        refine hcall.mono ?_
        clear hcall
        rintro e w14 ⟨rfl, hb14⟩
        replace HI1 := Lib.hid (HI1.out.next hb14)
        replace HI2 := Lib.hid (HI2.out.next hb14)
        replace HI3 := Lib.hid (HI3.out.next hb14)
        replace HI4 := Lib.hid (HI4.out.next hb14)
        replace HI6 := Lib.hid (HI6.out.next hb14)
        replace HI7 := Lib.hid (HI7.out.next hb14)
        replace HI8 := Lib.hid (HI8.out.next hb14)
        have HB14 := Lib.hid (below_chain HB13.out hb14)
        clear hb14
        go_wp2_with fail
        have hcall := BoardCounters_any A1 n1 c1 xs _ HI1.out
        rw [bCnt_yes HX.out, HSA.out] at hcall
        refine hcall.mono ?_
        clear hcall
        rintro e w15 ⟨rfl, hb15⟩
        replace HI1 := Lib.hid (HI1.out.next hb15)
        replace HI2 := Lib.hid (HI2.out.next hb15)
        replace HI3 := Lib.hid (HI3.out.next hb15)
        replace HI4 := Lib.hid (HI4.out.next hb15)
        replace HI6 := Lib.hid (HI6.out.next hb15)
        replace HI7 := Lib.hid (HI7.out.next hb15)
        replace HI8 := Lib.hid (HI8.out.next hb15)
        have HB15 := Lib.hid (below_chain HB14.out hb15)
        clear hb15
        go_wp2_with fail
        have hcall := BoardCounters_any A2 n2 c2 ys _ HI2.out
        rw [bCnt_yes HY.out, HSB.out] at hcall
        refine hcall.mono ?_
        clear hcall
        rintro e w16 ⟨rfl, hb16⟩
        replace HI1 := Lib.hid (HI1.out.next hb16)
        replace HI2 := Lib.hid (HI2.out.next hb16)
        replace HI3 := Lib.hid (HI3.out.next hb16)
        replace HI4 := Lib.hid (HI4.out.next hb16)
        replace HI6 := Lib.hid (HI6.out.next hb16)
        replace HI7 := Lib.hid (HI7.out.next hb16)
        replace HI8 := Lib.hid (HI8.out.next hb16)
        have HB16 := Lib.hid (below_chain HB15.out hb16)
        clear hb16
        go_wp2
        go_ret
        exact ⟨rfl, HB16.out⟩
      · have HRED := Lib.hid hred
        clear hred
        go_wp2_with fail
        have hcall := BoardLay_any A2 A1 n2 c2 n1 c1 ys xs _ HI2.out HI1.out
        rw [lay_comm HOK.out, Bd.addL_comm ys xs] at hcall
        refine hcall.mono ?_
        clear hcall
        rintro e w6 ⟨⟨A6, n6, c6, rfl, ho6⟩, hb6⟩
        simp only [if_true] at ho6
        replace HI1 := Lib.hid (HI1.out.next hb6)
        replace HI2 := Lib.hid (HI2.out.next hb6)
        replace HI3 := Lib.hid (HI3.out.next hb6)
        replace HI4 := Lib.hid (HI4.out.next hb6)
        have HB6 := Lib.hid (below_chain HB4.out hb6)
        clear hb6
        have HI6 := Lib.hid ho6.ints
        clear ho6
        go_wp2_with fail
        have hcall := BoardTake_any A3 A2 n3 c3 n2 c2 _ ys _ HI3.out HI2.out
        rw [(take_lay HOK.out).1, (take_lay HOK.out).2, HRED.out] at hcall
        refine hcall.mono ?_
        clear hcall
        rintro e w7 ⟨⟨A7, n7, c7, rfl, ho7⟩, hb7⟩
        simp only [if_true] at ho7
        replace HI1 := Lib.hid (HI1.out.next hb7)
        replace HI2 := Lib.hid (HI2.out.next hb7)
        replace HI3 := Lib.hid (HI3.out.next hb7)
        replace HI4 := Lib.hid (HI4.out.next hb7)
        replace HI6 := Lib.hid (HI6.out.next hb7)
        have HB7 := Lib.hid (below_chain HB6.out hb7)
        clear hb7
        have HI7 := Lib.hid ho7.ints
        clear ho7
        go_wp2_with fail
        have hcall := BoardReduce_any A1 n1 c1 xs _ HI1.out
        rw [HRED.out] at hcall
        refine hcall.mono ?_
        clear hcall
        rintro e w8 ⟨⟨A8, n8, c8, rfl, ho8⟩, hb8⟩
        simp only [if_true] at ho8
        replace HI1 := Lib.hid (HI1.out.next hb8)
        replace HI2 := Lib.hid (HI2.out.next hb8)
        replace HI3 := Lib.hid (HI3.out.next hb8)
        replace HI4 := Lib.hid (HI4.out.next hb8)
        replace HI6 := Lib.hid (HI6.out.next hb8)
        replace HI7 := Lib.hid (HI7.out.next hb8)
        have HB8 := Lib.hid (below_chain HB7.out hb8)
        clear hb8
        have HI8 := Lib.hid ho8.ints
        clear ho8
        go_wp2_with fail
        refine (sameInts_any _ _ _ _ _ _ _ _ _ _ _ HI6.out HI3.out).mono ?_
        rintro e w9 ⟨rfl, q9, hw9⟩
        rw [sameB_self]
        replace HI1 := Lib.hid (ints_same HI1.out hw9)
        replace HI2 := Lib.hid (ints_same HI2.out hw9)
        replace HI3 := Lib.hid (ints_same HI3.out hw9)
        replace HI4 := Lib.hid (ints_same HI4.out hw9)
        replace HI6 := Lib.hid (ints_same HI6.out hw9)
        replace HI7 := Lib.hid (ints_same HI7.out hw9)
        replace HI8 := Lib.hid (ints_same HI8.out hw9)
        replace HB8 := Lib.hid (below_same HB8.out hw9)
        clear hw9
        go_wp2_with fail
        refine (sameInts_any _ _ _ _ _ _ _ _ _ _ _ HI7.out HI8.out).mono ?_
        rintro e w10 ⟨rfl, q10, hw10⟩
        rw [sameB_self]
        replace HI1 := Lib.hid (ints_same HI1.out hw10)
        replace HI2 := Lib.hid (ints_same HI2.out hw10)
        replace HI3 := Lib.hid (ints_same HI3.out hw10)
        replace HI4 := Lib.hid (ints_same HI4.out hw10)
        replace HI6 := Lib.hid (ints_same HI6.out hw10)
        replace HI7 := Lib.hid (ints_same HI7.out hw10)
        replace HI8 := Lib.hid (ints_same HI8.out hw10)
        replace HB8 := Lib.hid (below_same HB8.out hw10)
        clear hw10
        go_wp2_with fail
        have hcall := BoardValue_any A3 n3 c3 _ _ HI3.out
        rw [V_lay HOK.out, HVA.out, HVB.out] at hcall
        refine hcall.mono ?_
        clear hcall
        rintro e w11 ⟨rfl, hb11⟩
        replace HI1 := Lib.hid (HI1.out.next hb11)
        replace HI2 := Lib.hid (HI2.out.next hb11)
        replace HI3 := Lib.hid (HI3.out.next hb11)
        replace HI4 := Lib.hid (HI4.out.next hb11)
        replace HI6 := Lib.hid (HI6.out.next hb11)
        replace HI7 := Lib.hid (HI7.out.next hb11)
        replace HI8 := Lib.hid (HI8.out.next hb11)
        have HB11 := Lib.hid (below_chain HB8.out hb11)
        clear hb11
        go_wp2_with fail
        have hcall := BoardValue_any A1 n1 c1 xs _ HI1.out
        rw [bVal_yes HX.out, HVA.out] at hcall
        refine hcall.mono ?_
        clear hcall
        rintro e w12 ⟨rfl, hb12⟩
        replace HI1 := Lib.hid (HI1.out.next hb12)
        replace HI2 := Lib.hid (HI2.out.next hb12)
        replace HI3 := Lib.hid (HI3.out.next hb12)
        replace HI4 := Lib.hid (HI4.out.next hb12)
        replace HI6 := Lib.hid (HI6.out.next hb12)
        replace HI7 := Lib.hid (HI7.out.next hb12)
        replace HI8 := Lib.hid (HI8.out.next hb12)
        have HB12 := Lib.hid (below_chain HB11.out hb12)
        clear hb12
        go_wp2_with fail
        have hcall := BoardValue_any A2 n2 c2 ys _ HI2.out
        rw [bVal_yes HY.out, HVB.out] at hcall
        refine hcall.mono ?_
        clear hcall
        rintro e w13 ⟨rfl, hb13⟩
        replace HI1 := Lib.hid (HI1.out.next hb13)
        replace HI2 := Lib.hid (HI2.out.next hb13)
        replace HI3 := Lib.hid (HI3.out.next hb13)
        replace HI4 := Lib.hid (HI4.out.next hb13)
        replace HI6 := Lib.hid (HI6.out.next hb13)
        replace HI7 := Lib.hid (HI7.out.next hb13)
        replace HI8 := Lib.hid (HI8.out.next hb13)
        have HB13 := Lib.hid (below_chain HB12.out hb13)
        clear hb13
        go_wp2_with fail
        have hcall := BoardCounters_any A3 n3 c3 _ _ HI3.out
        rw [sum_lay HOK.out, HSA.out, HSB.out] at hcall
        refine hcall.mono ?_
        clear hcall
        rintro e w14 ⟨rfl, hb14⟩
        replace HI1 := Lib.hid (HI1.out.next hb14)
        replace HI2 := Lib.hid (HI2.out.next hb14)
        replace HI3 := Lib.hid (HI3.out.next hb14)
        replace HI4 := Lib.hid (HI4.out.next hb14)
        replace HI6 := Lib.hid (HI6.out.next hb14)
        replace HI7 := Lib.hid (HI7.out.next hb14)
        replace HI8 := Lib.hid (HI8.out.next hb14)
        have HB14 := Lib.hid (below_chain HB13.out hb14)
        clear hb14
        go_wp2_with fail
        have hcall := BoardCounters_any A1 n1 c1 xs _ HI1.out
        rw [bCnt_yes HX.out, HSA.out] at hcall
        refine hcall.mono ?_
        clear hcall
        rintro e w15 ⟨rfl, hb15⟩
        replace HI1 := Lib.hid (HI1.out.next hb15)
        replace HI2 := Lib.hid (HI2.out.next hb15)
        replace HI3 := Lib.hid (HI3.out.next hb15)
        replace HI4 := Lib.hid (HI4.out.next hb15)
        replace HI6 := Lib.hid (HI6.out.next hb15)
        replace HI7 := Lib.hid (HI7.out.next hb15)
        replace HI8 := Lib.hid (HI8.out.next hb15)
        have HB15 := Lib.hid (below_chain HB14.out hb15)
        clear hb15
        go_wp2_with fail
        have hcall := BoardCounters_any A2 n2 c2 ys _ HI2.out
        rw [bCnt_yes HY.out, HSB.out] at hcall
        refine hcall.mono ?_
        clear hcall
        rintro e w16 ⟨rfl, hb16⟩
        replace HI1 := Lib.hid (HI1.out.next hb16)
        replace HI2 := Lib.hid (HI2.out.next hb16)
        replace HI3 := Lib.hid (HI3.out.next hb16)
        replace HI4 := Lib.hid (HI4.out.next hb16)
        replace HI6 := Lib.hid (HI6.out.next hb16)
        replace HI7 := Lib.hid (HI7.out.next hb16)
        replace HI8 := Lib.hid (HI8.out.next hb16)
        have HB16 := Lib.hid (below_chain HB15.out hb16)
        clear hb16
        go_wp2
        go_ret
        exact ⟨rfl, HB16.out⟩
end Go.Proofs.Ytknjnlkamhbmgaa.fnBoardLay
