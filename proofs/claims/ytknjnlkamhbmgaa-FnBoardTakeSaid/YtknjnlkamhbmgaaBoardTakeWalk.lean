/-
  FnBoardTake returns true for every code: the reduced board of the difference.
-/
import Derived.Test.YtknjnlkamhbmgaaBdLawKit
namespace Go.Proofs.Ytknjnlkamhbmgaa.fnBoardTake
open Go.RowKit

set_option maxRecDepth 100000 in
set_option maxHeartbeats 4000000 in
theorem walk (a0 : Option Addr) (len0 cap0 : Nat) (z0 : List Int) (w : World) (w0 : IsRow .u8 w a0 len0 cap0 z0) :
    Calls Try.prog 13 #[.slice a0 len0 cap0] w fun e w' => e = .returned (.bool true) ∧ Below w.heap.size w w' := by
  by_cases hbig : 1048576 < len0
  · clear w0
    go_enter Try.func13, Try.ntmps13
    go_wp2
    go_ret
    exact ⟨rfl, Below.refl _ _⟩
  · have HC := Lib.hid (Bytes.of_row w0)
    clear w0
    go_enter Try.func13, Try.ntmps13
    go_wp2_with fail
    refine (DrawBoardTake_any _ _ _ _ HC.out (by omega)).mono ?_
    rintro e w1 ⟨A1, n1, c1, xs, A2, n2, c2, ys, rfl, hx1, hx2, hn1, hn2, hb1⟩
    have HB1 := Lib.hid hb1
    clear hb1
    have HI1 := Lib.hid hx1
    clear hx1
    have HI2 := Lib.hid hx2
    clear hx2
    rcases hok : takeOK xs ys with _ | _
    · have HOK := Lib.hid hok
      clear hok
      go_wp2_with fail
      have hcall := BoardTake_any A1 A2 n1 c1 n2 c2 xs ys _ HI1.out HI2.out
      rw [HOK.out] at hcall
      refine hcall.mono ?_
      clear hcall
      rintro e w3 ⟨⟨A3, n3, c3, rfl, ho3⟩, hb3⟩
      simp only [Bool.false_eq_true, if_false] at ho3
      replace HI1 := Lib.hid (HI1.out.next hb3)
      replace HI2 := Lib.hid (HI2.out.next hb3)
      have HB3 := Lib.hid (below_chain HB1.out hb3)
      clear hb3
      have HI3 := Lib.hid ho3.ints
      clear ho3
      go_wp2_with fail
      have hcall := specBoardTake_any A1 A2 n1 c1 n2 c2 xs ys _ HI1.out HI2.out
      rw [HOK.out] at hcall
      refine hcall.mono ?_
      clear hcall
      rintro e w4 ⟨⟨A4, n4, c4, rfl, ho4⟩, hb4⟩
      simp only [Bool.false_eq_true, if_false] at ho4
      replace HI1 := Lib.hid (HI1.out.next hb4)
      replace HI2 := Lib.hid (HI2.out.next hb4)
      replace HI3 := Lib.hid (HI3.out.next hb4)
      have HB4 := Lib.hid (below_chain HB3.out hb4)
      clear hb4
      have HI4 := Lib.hid ho4.ints
      clear ho4
      go_wp2_with fail
      refine (sameInts_any _ _ _ _ _ _ _ _ _ _ _ HI3.out HI4.out).mono ?_
      rintro e w5 ⟨rfl, q5, hw5⟩
      rw [sameB_self]
      replace HI1 := Lib.hid (ints_same HI1.out hw5)
      replace HI2 := Lib.hid (ints_same HI2.out hw5)
      replace HI3 := Lib.hid (ints_same HI3.out hw5)
      replace HI4 := Lib.hid (ints_same HI4.out hw5)
      replace HB4 := Lib.hid (below_same HB4.out hw5)
      clear hw5
      go_wp2_with fail
      refine (sameInts_any _ _ _ _ _ _ _ _ _ _ _ HI3.out HI4.out).mono ?_
      rintro e w6 ⟨rfl, q6, hw6⟩
      rw [sameB_self]
      replace HI1 := Lib.hid (ints_same HI1.out hw6)
      replace HI2 := Lib.hid (ints_same HI2.out hw6)
      replace HI3 := Lib.hid (ints_same HI3.out hw6)
      replace HI4 := Lib.hid (ints_same HI4.out hw6)
      replace HB4 := Lib.hid (below_same HB4.out hw6)
      clear hw6
      go_wp2
      go_ret
      exact ⟨rfl, HB4.out⟩
    · have HOK := Lib.hid hok
      clear hok
      obtain ⟨hx, hy, hv⟩ := take_parts HOK.out
      have ra := V_range hx
      have rb := V_range hy
      generalize hva : Bd.V true xs = va at hv ra
      generalize hvb : Bd.V true ys = vb at hv rb
      have HX := Lib.hid hx
      have HY := Lib.hid hy
      have HVA := Lib.hid hva
      have HVB := Lib.hid hvb
      have HV := Lib.hid hv
      have HL : Hid (takeL xs ys = Bd.D true 10 (va - vb)) := Lib.hid (by unfold takeL; rw [HVA.out, HVB.out])
      clear hx hy hva hvb hv
      go_wp2_with fail
      have hcall := BoardTake_any A1 A2 n1 c1 n2 c2 xs ys _ HI1.out HI2.out
      rw [HOK.out] at hcall
      rw [HL.out] at hcall
      refine hcall.mono ?_
      clear hcall
      rintro e w3 ⟨⟨A3, n3, c3, rfl, ho3⟩, hb3⟩
      simp only [if_true] at ho3
      replace HI1 := Lib.hid (HI1.out.next hb3)
      replace HI2 := Lib.hid (HI2.out.next hb3)
      have HB3 := Lib.hid (below_chain HB1.out hb3)
      clear hb3
      have HI3 := Lib.hid ho3.ints
      clear ho3
      go_wp2_with fail
      have hcall := specBoardTake_any A1 A2 n1 c1 n2 c2 xs ys _ HI1.out HI2.out
      rw [HOK.out] at hcall
      rw [HL.out] at hcall
      refine hcall.mono ?_
      clear hcall
      rintro e w4 ⟨⟨A4, n4, c4, rfl, ho4⟩, hb4⟩
      simp only [if_true] at ho4
      replace HI1 := Lib.hid (HI1.out.next hb4)
      replace HI2 := Lib.hid (HI2.out.next hb4)
      replace HI3 := Lib.hid (HI3.out.next hb4)
      have HB4 := Lib.hid (below_chain HB3.out hb4)
      clear hb4
      have HI4 := Lib.hid ho4.ints
      clear ho4
      go_wp2_with fail
      refine (sameInts_any _ _ _ _ _ _ _ _ _ _ _ HI3.out HI4.out).mono ?_
      rintro e w5 ⟨rfl, q5, hw5⟩
      rw [sameB_self]
      replace HI1 := Lib.hid (ints_same HI1.out hw5)
      replace HI2 := Lib.hid (ints_same HI2.out hw5)
      replace HI3 := Lib.hid (ints_same HI3.out hw5)
      replace HI4 := Lib.hid (ints_same HI4.out hw5)
      replace HB4 := Lib.hid (below_same HB4.out hw5)
      clear hw5
      rcases hlay : layOK (Bd.D true 10 (va - vb)) ys with _ | _
      · have HLAY := Lib.hid hlay
        clear hlay
        go_wp2_with fail
        have hcall := BoardLay_any A3 A2 n3 c3 n2 c2 _ ys _ HI3.out HI2.out
        rw [HLAY.out] at hcall
        refine hcall.mono ?_
        clear hcall
        rintro e w6 ⟨⟨A6, n6, c6, rfl, ho6⟩, hb6⟩
        simp only [Bool.false_eq_true, if_false] at ho6
        replace HI1 := Lib.hid (HI1.out.next hb6)
        replace HI2 := Lib.hid (HI2.out.next hb6)
        replace HI3 := Lib.hid (HI3.out.next hb6)
        replace HI4 := Lib.hid (HI4.out.next hb6)
        have HB6 := Lib.hid (below_chain HB4.out hb6)
        clear hb6
        have HI6 := Lib.hid ho6.ints
        clear ho6
        go_wp2_with fail
        have hcall := BoardReduced_any A3 n3 c3 _ _ HI3.out
        rw [isRed_D] at hcall
        refine hcall.mono ?_
        clear hcall
        rintro e w7 ⟨rfl, hb7⟩
        replace HI1 := Lib.hid (HI1.out.next hb7)
        replace HI2 := Lib.hid (HI2.out.next hb7)
        replace HI3 := Lib.hid (HI3.out.next hb7)
        replace HI4 := Lib.hid (HI4.out.next hb7)
        replace HI6 := Lib.hid (HI6.out.next hb7)
        have HB7 := Lib.hid (below_chain HB6.out hb7)
        clear hb7
        go_wp2_with fail
        have hcall := BoardValue_any A3 n3 c3 _ _ HI3.out
        rw [bVal_D HV.out] at hcall
        refine hcall.mono ?_
        clear hcall
        rintro e w8 ⟨rfl, hb8⟩
        replace HI1 := Lib.hid (HI1.out.next hb8)
        replace HI2 := Lib.hid (HI2.out.next hb8)
        replace HI3 := Lib.hid (HI3.out.next hb8)
        replace HI4 := Lib.hid (HI4.out.next hb8)
        replace HI6 := Lib.hid (HI6.out.next hb8)
        have HB8 := Lib.hid (below_chain HB7.out hb8)
        clear hb8
        go_wp2_with fail
        have hcall := BoardValue_any A1 n1 c1 xs _ HI1.out
        rw [bVal_yes HX.out, HVA.out] at hcall
        refine hcall.mono ?_
        clear hcall
        rintro e w9 ⟨rfl, hb9⟩
        replace HI1 := Lib.hid (HI1.out.next hb9)
        replace HI2 := Lib.hid (HI2.out.next hb9)
        replace HI3 := Lib.hid (HI3.out.next hb9)
        replace HI4 := Lib.hid (HI4.out.next hb9)
        replace HI6 := Lib.hid (HI6.out.next hb9)
        have HB9 := Lib.hid (below_chain HB8.out hb9)
        clear hb9
        go_wp2_with fail
        have hcall := BoardValue_any A2 n2 c2 ys _ HI2.out
        rw [bVal_yes HY.out, HVB.out] at hcall
        refine hcall.mono ?_
        clear hcall
        rintro e w10 ⟨rfl, hb10⟩
        replace HI1 := Lib.hid (HI1.out.next hb10)
        replace HI2 := Lib.hid (HI2.out.next hb10)
        replace HI3 := Lib.hid (HI3.out.next hb10)
        replace HI4 := Lib.hid (HI4.out.next hb10)
        replace HI6 := Lib.hid (HI6.out.next hb10)
        have HB10 := Lib.hid (below_chain HB9.out hb10)
        clear hb10
        go_wp2
        go_ret
        exact ⟨rfl, HB10.out⟩
      · have HLAY := Lib.hid hlay
        clear hlay
        go_wp2_with fail
        have hcall := BoardLay_any A3 A2 n3 c3 n2 c2 _ ys _ HI3.out HI2.out
        rw [HLAY.out] at hcall
        refine hcall.mono ?_
        clear hcall
        rintro e w6 ⟨⟨A6, n6, c6, rfl, ho6⟩, hb6⟩
        simp only [if_true] at ho6
        replace HI1 := Lib.hid (HI1.out.next hb6)
        replace HI2 := Lib.hid (HI2.out.next hb6)
        replace HI3 := Lib.hid (HI3.out.next hb6)
        replace HI4 := Lib.hid (HI4.out.next hb6)
        have HB6 := Lib.hid (below_chain HB4.out hb6)
        clear hb6
        have HI6 := Lib.hid ho6.ints
        clear ho6
        go_wp2_with fail
        have hcall := BoardReduced_any A3 n3 c3 _ _ HI3.out
        rw [isRed_D] at hcall
        refine hcall.mono ?_
        clear hcall
        rintro e w7 ⟨rfl, hb7⟩
        replace HI1 := Lib.hid (HI1.out.next hb7)
        replace HI2 := Lib.hid (HI2.out.next hb7)
        replace HI3 := Lib.hid (HI3.out.next hb7)
        replace HI4 := Lib.hid (HI4.out.next hb7)
        replace HI6 := Lib.hid (HI6.out.next hb7)
        have HB7 := Lib.hid (below_chain HB6.out hb7)
        clear hb7
        go_wp2_with fail
        have hcall := BoardValue_any A6 n6 c6 _ _ HI6.out
        rw [V_lay HLAY.out, V_DD HV.out, HVB.out, show va - vb + vb = va from by omega] at hcall
        refine hcall.mono ?_
        clear hcall
        rintro e w8 ⟨rfl, hb8⟩
        replace HI1 := Lib.hid (HI1.out.next hb8)
        replace HI2 := Lib.hid (HI2.out.next hb8)
        replace HI3 := Lib.hid (HI3.out.next hb8)
        replace HI4 := Lib.hid (HI4.out.next hb8)
        replace HI6 := Lib.hid (HI6.out.next hb8)
        have HB8 := Lib.hid (below_chain HB7.out hb8)
        clear hb8
        go_wp2_with fail
        have hcall := BoardValue_any A1 n1 c1 xs _ HI1.out
        rw [bVal_yes HX.out, HVA.out] at hcall
        refine hcall.mono ?_
        clear hcall
        rintro e w9 ⟨rfl, hb9⟩
        replace HI1 := Lib.hid (HI1.out.next hb9)
        replace HI2 := Lib.hid (HI2.out.next hb9)
        replace HI3 := Lib.hid (HI3.out.next hb9)
        replace HI4 := Lib.hid (HI4.out.next hb9)
        replace HI6 := Lib.hid (HI6.out.next hb9)
        have HB9 := Lib.hid (below_chain HB8.out hb9)
        clear hb9
        go_wp2_with fail
        have hcall := BoardValue_any A3 n3 c3 _ _ HI3.out
        rw [bVal_D HV.out] at hcall
        refine hcall.mono ?_
        clear hcall
        rintro e w10 ⟨rfl, hb10⟩
        replace HI1 := Lib.hid (HI1.out.next hb10)
        replace HI2 := Lib.hid (HI2.out.next hb10)
        replace HI3 := Lib.hid (HI3.out.next hb10)
        replace HI4 := Lib.hid (HI4.out.next hb10)
        replace HI6 := Lib.hid (HI6.out.next hb10)
        have HB10 := Lib.hid (below_chain HB9.out hb10)
        clear hb10
        go_wp2_with fail
        have hcall := BoardValue_any A1 n1 c1 xs _ HI1.out
        rw [bVal_yes HX.out, HVA.out] at hcall
        refine hcall.mono ?_
        clear hcall
        rintro e w11 ⟨rfl, hb11⟩
        replace HI1 := Lib.hid (HI1.out.next hb11)
        replace HI2 := Lib.hid (HI2.out.next hb11)
        replace HI3 := Lib.hid (HI3.out.next hb11)
        replace HI4 := Lib.hid (HI4.out.next hb11)
        replace HI6 := Lib.hid (HI6.out.next hb11)
        have HB11 := Lib.hid (below_chain HB10.out hb11)
        clear hb11
        go_wp2_with fail
        have hcall := BoardValue_any A2 n2 c2 ys _ HI2.out
        rw [bVal_yes HY.out, HVB.out] at hcall
        refine hcall.mono ?_
        clear hcall
        rintro e w12 ⟨rfl, hb12⟩
        replace HI1 := Lib.hid (HI1.out.next hb12)
        replace HI2 := Lib.hid (HI2.out.next hb12)
        replace HI3 := Lib.hid (HI3.out.next hb12)
        replace HI4 := Lib.hid (HI4.out.next hb12)
        replace HI6 := Lib.hid (HI6.out.next hb12)
        have HB12 := Lib.hid (below_chain HB11.out hb12)
        clear hb12
        go_wp2
        go_ret
        exact ⟨rfl, HB12.out⟩
end Go.Proofs.Ytknjnlkamhbmgaa.fnBoardTake
