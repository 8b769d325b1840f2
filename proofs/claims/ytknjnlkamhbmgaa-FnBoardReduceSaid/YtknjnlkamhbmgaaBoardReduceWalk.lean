/-
  FnBoardReduce returns true for every code: a board that is raised as long as can be is reduced, in as many steps as it has raises.
-/
import Derived.Test.YtknjnlkamhbmgaaBdLow
namespace Go.Proofs.Ytknjnlkamhbmgaa.fnBoardReduce
open Go.RowKit

set_option maxRecDepth 100000 in
set_option maxHeartbeats 4000000 in
theorem walk (a0 : Option Addr) (len0 cap0 : Nat) (z0 : List Int) (w : World) (w0 : IsRow .u8 w a0 len0 cap0 z0) :
    Calls Try.prog 16 #[.slice a0 len0 cap0] w fun e w' => e = .returned (.bool true) ∧ Below w.heap.size w w' := by
  by_cases hbig : 1048576 < len0
  · clear w0
    go_enter Try.func16, Try.ntmps16
    go_wp2
    go_ret
    exact ⟨rfl, Below.refl _ _⟩
  · have HC := Lib.hid (Bytes.of_row w0)
    clear w0
    go_enter Try.func16, Try.ntmps16
    go_wp2_with fail
    refine (DrawBoardReduce_any _ _ _ _ HC.out (by omega)).mono ?_
    rintro e w1 ⟨A1, n1, c1, xs, rfl, hx1, hn1, hb1⟩
    have HB1 := Lib.hid hb1
    clear hb1
    have HI1 := Lib.hid hx1
    clear hx1
    rcases hok : redOK xs with _ | _
    · have HOK := Lib.hid hok
      clear hok
      go_wp2_with fail
      have hcall := BoardReduce_any A1 n1 c1 xs _ HI1.out
      rw [HOK.out] at hcall
      refine hcall.mono ?_
      clear hcall
      rintro e w2 ⟨⟨A2, n2, c2, rfl, ho2⟩, hb2⟩
      simp only [Bool.false_eq_true, if_false] at ho2
      replace HI1 := Lib.hid (HI1.out.next hb2)
      have HB2 := Lib.hid (below_chain HB1.out hb2)
      clear hb2
      have HI2 := Lib.hid ho2.ints
      clear ho2
      go_wp2_with fail
      have hcall := specBoardReduce_any A1 n1 c1 xs _ HI1.out
      rw [HOK.out] at hcall
      refine hcall.mono ?_
      clear hcall
      rintro e w3 ⟨⟨A3, n3, c3, rfl, ho3⟩, hb3⟩
      simp only [Bool.false_eq_true, if_false] at ho3
      replace HI1 := Lib.hid (HI1.out.next hb3)
      replace HI2 := Lib.hid (HI2.out.next hb3)
      have HB3 := Lib.hid (below_chain HB2.out hb3)
      clear hb3
      have HI3 := Lib.hid ho3.ints
      clear ho3
      go_wp2_with fail
      refine (sameInts_any _ _ _ _ _ _ _ _ _ _ _ HI2.out HI3.out).mono ?_
      rintro e w4 ⟨rfl, q4, hw4⟩
      rw [sameB_self]
      replace HI1 := Lib.hid (ints_same HI1.out hw4)
      replace HI2 := Lib.hid (ints_same HI2.out hw4)
      replace HI3 := Lib.hid (ints_same HI3.out hw4)
      replace HB3 := Lib.hid (below_same HB3.out hw4)
      clear hw4
      go_wp2_with fail
      refine (sameInts_any _ _ _ _ _ _ _ _ _ _ _ HI2.out HI3.out).mono ?_
      rintro e w5 ⟨rfl, q5, hw5⟩
      rw [sameB_self]
      replace HI1 := Lib.hid (ints_same HI1.out hw5)
      replace HI2 := Lib.hid (ints_same HI2.out hw5)
      replace HI3 := Lib.hid (ints_same HI3.out hw5)
      replace HB3 := Lib.hid (below_same HB3.out hw5)
      clear hw5
      go_wp2
      go_ret
      exact ⟨rfl, HB3.out⟩
    · have HOK := Lib.hid hok
      clear hok
      obtain ⟨hx, hr0, hr1, hra, hrai, hva, hvb, hsum, hcx, hcb, hredr⟩ := red_parts HOK.out
      generalize hR : Bd.R true 0 xs = r0 at *
      generalize hVV : Bd.V true xs = v0 at *
      generalize Bd.sum xs = sa at *
      generalize Bd.sum (redL xs) = sx at *
      have HX := Lib.hid hx
      have HRAI := Lib.hid hrai
      have HVA := Lib.hid hva
      have HVB := Lib.hid hvb
      have HCX := Lib.hid hcx
      have HCB := Lib.hid hcb
      have HR := Lib.hid hR
      have HVV := Lib.hid hVV
      have HREDR := Lib.hid hredr
      clear hx hrai hva hvb hcx hcb hR hVV hra hredr
      go_wp2_with fail
      have hcall := BoardReduce_any A1 n1 c1 xs _ HI1.out
      rw [HOK.out] at hcall
      refine hcall.mono ?_
      clear hcall
      rintro e w2 ⟨⟨A2, n2, c2, rfl, ho2⟩, hb2⟩
      simp only [if_true] at ho2
      replace HI1 := Lib.hid (HI1.out.next hb2)
      have HB2 := Lib.hid (below_chain HB1.out hb2)
      clear hb2
      have HI2 := Lib.hid ho2.ints
      clear ho2
      go_wp2_with fail
      have hcall := specBoardReduce_any A1 n1 c1 xs _ HI1.out
      rw [HOK.out] at hcall
      refine hcall.mono ?_
      clear hcall
      rintro e w3 ⟨⟨A3, n3, c3, rfl, ho3⟩, hb3⟩
      simp only [if_true] at ho3
      replace HI1 := Lib.hid (HI1.out.next hb3)
      replace HI2 := Lib.hid (HI2.out.next hb3)
      have HB3 := Lib.hid (below_chain HB2.out hb3)
      clear hb3
      have HI3 := Lib.hid ho3.ints
      clear ho3
      go_wp2_with fail
      refine (sameInts_any _ _ _ _ _ _ _ _ _ _ _ HI2.out HI3.out).mono ?_
      rintro e w4 ⟨rfl, q4, hw4⟩
      rw [sameB_self]
      replace HI1 := Lib.hid (ints_same HI1.out hw4)
      replace HI2 := Lib.hid (ints_same HI2.out hw4)
      replace HI3 := Lib.hid (ints_same HI3.out hw4)
      replace HB3 := Lib.hid (below_same HB3.out hw4)
      clear hw4
      clear HI3
      go_wp2_with fail
      go_loopw [8, 9] (fun x i wr => ∃ (A : Option Addr) (k c : Nat) (ys : List Int) (s : Nat), x = .slice A k c ∧ i = .int .i64 s ∧ Ints wr wr.heap.size A k ys ∧ Mid xs ys s r0 v0 ∧
          Ints wr wr.heap.size A1 n1 xs ∧ Ints wr wr.heap.size A2 n2 (redL xs) ∧ Below w.heap.size w wr) (fun _ i _ => 1000 - (intOf i).toNat)
      case atStart => exact ⟨_, _, _, xs, 0, rfl, rfl, HI1.out, Mid.start HX.out HR.out HVV.out, HI1.out, HI2.out, HB3.out⟩
      case round =>
        clear HB3 HI1 HI2
        obtain ⟨A, k, c, ys, s, rfl, rfl, hy, hmid, hia, hio, hbb⟩ := hrel
        have hs1 := hmid.bound
        have hs2 : s ≤ 1000 := by omega
        have HY := Lib.hid hy
        have HMID := Lib.hid hmid
        have HI1 := Lib.hid hia
        have HI2 := Lib.hid hio
        have HB0 := Lib.hid hbb
        clear hy hmid hia hio hbb
        rcases lowP_cases ys with ⟨hl, hno⟩ | ⟨hl0, hl1, hrok⟩
        · have HL := Lib.hid hl
          clear hl hno
          go_wp2_with fail
          have hcall := lowest_any A k c ys _ HY.out
          rw [HL.out] at hcall
          refine hcall.mono ?_
          clear hcall
          rintro e w5 ⟨rfl, hb5⟩
          replace HY := Lib.hid (HY.out.next hb5)
          replace HI1 := Lib.hid (HI1.out.next hb5)
          replace HI2 := Lib.hid (HI2.out.next hb5)
          have HB5 := Lib.hid (below_chain HB0.out hb5)
          clear hb5
          rcases hdone : Bd.isRed true ys with _ | _
          · have HDONE := Lib.hid hdone
            clear hdone
            go_wp2_with fail
            have hcall := BoardReduced_any A k c ys _ HY.out
            rw [HMID.out.ok, HDONE.out] at hcall
            refine hcall.mono ?_
            clear hcall
            rintro e w6 ⟨rfl, hb6⟩
            replace HY := Lib.hid (HY.out.next hb6)
            replace HI1 := Lib.hid (HI1.out.next hb6)
            replace HI2 := Lib.hid (HI2.out.next hb6)
            have HB6 := Lib.hid (below_chain HB5.out hb6)
            clear hb6
            go_wp2_with fail
            have hcall := BoardReduced_any A2 n2 c2 _ _ HI2.out
            rw [HREDR.out] at hcall
            refine hcall.mono ?_
            clear hcall
            rintro e w7 ⟨rfl, hb7⟩
            replace HY := Lib.hid (HY.out.next hb7)
            replace HI1 := Lib.hid (HI1.out.next hb7)
            replace HI2 := Lib.hid (HI2.out.next hb7)
            have HB7 := Lib.hid (below_chain HB6.out hb7)
            clear hb7
            go_wp2_with fail
            have hcall := BoardValue_any A2 n2 c2 _ _ HI2.out
            rw [HVB.out] at hcall
            refine hcall.mono ?_
            clear hcall
            rintro e w8 ⟨rfl, hb8⟩
            replace HY := Lib.hid (HY.out.next hb8)
            replace HI1 := Lib.hid (HI1.out.next hb8)
            replace HI2 := Lib.hid (HI2.out.next hb8)
            have HB8 := Lib.hid (below_chain HB7.out hb8)
            clear hb8
            go_wp2_with fail
            have hcall := BoardValue_any A1 n1 c1 xs _ HI1.out
            rw [HVA.out] at hcall
            refine hcall.mono ?_
            clear hcall
            rintro e w9 ⟨rfl, hb9⟩
            replace HY := Lib.hid (HY.out.next hb9)
            replace HI1 := Lib.hid (HI1.out.next hb9)
            replace HI2 := Lib.hid (HI2.out.next hb9)
            have HB9 := Lib.hid (below_chain HB8.out hb9)
            clear hb9
            go_wp2_with fail
            have hcall := BoardCounters_any A2 n2 c2 _ _ HI2.out
            rw [HCX.out] at hcall
            refine hcall.mono ?_
            clear hcall
            rintro e w10 ⟨rfl, hb10⟩
            replace HY := Lib.hid (HY.out.next hb10)
            replace HI1 := Lib.hid (HI1.out.next hb10)
            replace HI2 := Lib.hid (HI2.out.next hb10)
            have HB10 := Lib.hid (below_chain HB9.out hb10)
            clear hb10
            go_wp2_with fail
            have hcall := BoardCounters_any A1 n1 c1 xs _ HI1.out
            rw [HCB.out] at hcall
            refine hcall.mono ?_
            clear hcall
            rintro e w11 ⟨rfl, hb11⟩
            replace HY := Lib.hid (HY.out.next hb11)
            replace HI1 := Lib.hid (HI1.out.next hb11)
            replace HI2 := Lib.hid (HI2.out.next hb11)
            have HB11 := Lib.hid (below_chain HB10.out hb11)
            clear hb11
            go_wp2
            go_ret
            exact ⟨rfl, HB11.out⟩
          · have HDONE := Lib.hid hdone
            clear hdone
            go_wp2_with fail
            have hcall := BoardReduced_any A k c ys _ HY.out
            rw [HMID.out.ok, HDONE.out] at hcall
            refine hcall.mono ?_
            clear hcall
            rintro e w6 ⟨rfl, hb6⟩
            replace HY := Lib.hid (HY.out.next hb6)
            replace HI1 := Lib.hid (HI1.out.next hb6)
            replace HI2 := Lib.hid (HI2.out.next hb6)
            have HB6 := Lib.hid (below_chain HB5.out hb6)
            clear hb6
            go_wp2_with fail
            have hcall := BoardReduced_any A2 n2 c2 _ _ HI2.out
            rw [HREDR.out] at hcall
            refine hcall.mono ?_
            clear hcall
            rintro e w7 ⟨rfl, hb7⟩
            replace HY := Lib.hid (HY.out.next hb7)
            replace HI1 := Lib.hid (HI1.out.next hb7)
            replace HI2 := Lib.hid (HI2.out.next hb7)
            have HB7 := Lib.hid (below_chain HB6.out hb7)
            clear hb7
            go_wp2_with fail
            have hcall := BoardValue_any A2 n2 c2 _ _ HI2.out
            rw [HVB.out] at hcall
            refine hcall.mono ?_
            clear hcall
            rintro e w8 ⟨rfl, hb8⟩
            replace HY := Lib.hid (HY.out.next hb8)
            replace HI1 := Lib.hid (HI1.out.next hb8)
            replace HI2 := Lib.hid (HI2.out.next hb8)
            have HB8 := Lib.hid (below_chain HB7.out hb8)
            clear hb8
            go_wp2_with fail
            have hcall := BoardValue_any A1 n1 c1 xs _ HI1.out
            rw [HVA.out] at hcall
            refine hcall.mono ?_
            clear hcall
            rintro e w9 ⟨rfl, hb9⟩
            replace HY := Lib.hid (HY.out.next hb9)
            replace HI1 := Lib.hid (HI1.out.next hb9)
            replace HI2 := Lib.hid (HI2.out.next hb9)
            have HB9 := Lib.hid (below_chain HB8.out hb9)
            clear hb9
            go_wp2_with fail
            have hcall := BoardCounters_any A2 n2 c2 _ _ HI2.out
            rw [HCX.out] at hcall
            refine hcall.mono ?_
            clear hcall
            rintro e w10 ⟨rfl, hb10⟩
            replace HY := Lib.hid (HY.out.next hb10)
            replace HI1 := Lib.hid (HI1.out.next hb10)
            replace HI2 := Lib.hid (HI2.out.next hb10)
            have HB10 := Lib.hid (below_chain HB9.out hb10)
            clear hb10
            go_wp2_with fail
            have hcall := BoardCounters_any A1 n1 c1 xs _ HI1.out
            rw [HCB.out] at hcall
            refine hcall.mono ?_
            clear hcall
            rintro e w11 ⟨rfl, hb11⟩
            replace HY := Lib.hid (HY.out.next hb11)
            replace HI1 := Lib.hid (HI1.out.next hb11)
            replace HI2 := Lib.hid (HI2.out.next hb11)
            have HB11 := Lib.hid (below_chain HB10.out hb11)
            clear hb11
            obtain ⟨hyl, hsr⟩ := HMID.out.done HDONE.out HVV.out
            have HSR := Lib.hid hsr
            clear hsr
            replace HY := Lib.hid (hyl ▸ HY.out)
            clear hyl
            go_wp2_with fail
            refine (sameInts_any _ _ _ _ _ _ _ _ _ _ _ HY.out HI2.out).mono ?_
            rintro e w12 ⟨rfl, q12, hw12⟩
            rw [sameB_self]
            replace HY := Lib.hid (ints_same HY.out hw12)
            replace HI1 := Lib.hid (ints_same HI1.out hw12)
            replace HI2 := Lib.hid (ints_same HI2.out hw12)
            replace HB11 := Lib.hid (below_same HB11.out hw12)
            clear hw12
            go_wp2_with fail
            have hcall := BoardRaises_any A1 n1 c1 xs _ HI1.out
            rw [HRAI.out, ← HSR.out] at hcall
            refine hcall.mono ?_
            clear hcall
            rintro e w13 ⟨rfl, hb13⟩
            replace HY := Lib.hid (HY.out.next hb13)
            replace HI1 := Lib.hid (HI1.out.next hb13)
            replace HI2 := Lib.hid (HI2.out.next hb13)
            have HB13 := Lib.hid (below_chain HB11.out hb13)
            clear hb13
            go_wp2
            go_ret
            exact ⟨rfl, HB13.out⟩
        · have HROK := Lib.hid hrok
          clear hrok
          generalize hlp : lowP ys = lp at hl0 hl1
          have HLP := Lib.hid hlp
          clear hlp
          go_wp2_with fail
          have hcall := lowest_any A k c ys _ HY.out
          rw [HLP.out] at hcall
          refine hcall.mono ?_
          clear hcall
          rintro e w5 ⟨rfl, hb5⟩
          replace HY := Lib.hid (HY.out.next hb5)
          replace HI1 := Lib.hid (HI1.out.next hb5)
          replace HI2 := Lib.hid (HI2.out.next hb5)
          have HB5 := Lib.hid (below_chain HB0.out hb5)
          clear hb5
          go_wp2_with fail
          have hcall := lowest_any A k c ys _ HY.out
          rw [HLP.out] at hcall
          refine hcall.mono ?_
          clear hcall
          rintro e w6 ⟨rfl, hb6⟩
          replace HY := Lib.hid (HY.out.next hb6)
          replace HI1 := Lib.hid (HI1.out.next hb6)
          replace HI2 := Lib.hid (HI2.out.next hb6)
          have HB6 := Lib.hid (below_chain HB5.out hb6)
          clear hb6
          go_wp2_with fail
          have hcall := BoardRaise_any A k c ys lp _ HY.out
          rw [(show raiseOK ys lp = true from HLP.out ▸ HROK.out)] at hcall
          refine hcall.mono ?_
          clear hcall
          rintro e w7 ⟨⟨A7, n7, c7, rfl, ho7⟩, hb7⟩
          simp only [if_true] at ho7
          replace HY := Lib.hid (HY.out.next hb7)
          replace HI1 := Lib.hid (HI1.out.next hb7)
          replace HI2 := Lib.hid (HI2.out.next hb7)
          have HB7 := Lib.hid (below_chain HB6.out hb7)
          clear hb7
          have HI7 := Lib.hid ho7.ints
          clear ho7
          have HM2 := Lib.hid (HMID.out.next (HLP.out ▸ HROK.out : raiseOK ys lp = true))
          have hs3 := HM2.out.bound
          go_wp2
          go_roundw
          case rel => exact ⟨_, _, _, _, s + 1, rfl, by go_num, HI7.out, HM2.out, HI1.out, HI2.out, HB7.out⟩
          case measure => simp [intOf]; omega
end Go.Proofs.Ytknjnlkamhbmgaa.fnBoardReduce
