/-
  FnLongQuotient returns true for every code: long division divides as duplation does.
-/
import Derived.Test.YtphokfdaimbaiaaGlLong4
import Derived.Test.YtphokfdaimbaiaaNumDraw
namespace Go.Proofs.Ytphokfdaimbaiaa.fnLongQuotient
open Go.RowKit

set_option maxRecDepth 100000 in
set_option maxHeartbeats 4000000 in
theorem walk (a0 : Option Addr) (len0 cap0 : Nat) (z0 : List Int) (w : World) (w0 : IsRow .u8 w a0 len0 cap0 z0) :
    Calls Try.prog 11 #[.slice a0 len0 cap0] w fun e w' => e = .returned (.bool true) ∧ Below w.heap.size w w' := by
  by_cases hbig : 1048576 < len0
  · clear w0
    go_enter Try.func11, Try.ntmps11
    go_wp2
    go_ret
    exact ⟨rfl, Below.refl _ _⟩
  · have HC := Lib.hid (Bytes.of_row w0)
    clear w0
    go_enter Try.func11, Try.ntmps11
    go_wp2_with fail
    refine (DrawLongQuotient_any _ _ _ _ HC.out (by omega)).mono ?_
    rintro e w1 ⟨A1, n1, c1, xs, d, rfl, hx1, hn1, hv0, hv1, hb1⟩
    have HB1 := Lib.hid hb1
    clear hb1
    have HI1 := Lib.hid hx1
    clear hx1
    rcases hok : okS xs d with _ | _
    · have HC1 := Lib.hid (fun w h => LongQuotient_no A1 n1 c1 xs d w h hok)
      have HC2 := Lib.hid (fun w h => specLongQuotient_no A1 n1 c1 xs d w h hok)
      clear hok
      go_wp2_with fail
      refine (HC1.out _ HI1.out).mono ?_
      rintro e w2 ⟨rfl, hb2⟩
      replace HI1 := Lib.hid (HI1.out.next hb2)
      have HB2 := Lib.hid (below_chain HB1.out hb2)
      clear hb2
      go_wp2_with fail
      refine (HC2.out _ HI1.out).mono ?_
      rintro e w3 ⟨rfl, hb3⟩
      replace HI1 := Lib.hid (HI1.out.next hb3)
      have HB3 := Lib.hid (below_chain HB2.out hb3)
      clear hb3
      go_wp2
      go_ret
      exact ⟨rfl, HB3.out⟩
    · have HC1 := Lib.hid (fun w h => LongQuotient_yes A1 n1 c1 xs d w h hok)
      have HC2 := Lib.hid (fun w h => specLongQuotient_yes A1 n1 c1 xs d w h hok)
      obtain ⟨d0, d1, q0, q1, r0, r1, v0, v1, hlaw, hval⟩ := quo_law hok
      have hdiv := div_law2 r0 r1 hlaw
      generalize hqq : quoL xs d = q at *
      generalize hrr : restL xs d = r at *
      generalize hvv : valN xs = v at *
      have HQQ := Lib.hid hqq
      have HRR := Lib.hid hrr
      have HVV := Lib.hid hvv
      have HDIV := Lib.hid hdiv
      clear hqq hrr hvv hdiv
      clear hok hval
      go_wp2_with fail
      refine (HC1.out _ HI1.out).mono ?_
      rintro e w2 ⟨rfl, hb2⟩
      replace HI1 := Lib.hid (HI1.out.next hb2)
      have HB2 := Lib.hid (below_chain HB1.out hb2)
      clear hb2
      go_wp2_with fail
      refine (HC2.out _ HI1.out).mono ?_
      rintro e w3 ⟨rfl, hb3⟩
      replace HI1 := Lib.hid (HI1.out.next hb3)
      have HB3 := Lib.hid (below_chain HB2.out hb3)
      clear hb3
      go_wp2_with fail
      have hcall := NumeralValue_any A1 n1 c1 xs _ HI1.out
      rw [HVV.out] at hcall
      refine hcall.mono ?_
      clear hcall
      rintro e w4 ⟨rfl, hb4⟩
      replace HI1 := Lib.hid (HI1.out.next hb4)
      have HB4 := Lib.hid (below_chain HB3.out hb4)
      clear hb4
      obtain ⟨p0, p1⟩ := mul_in q0 q1 (show 0 ≤ d by omega) d1
      by_cases hv : 1 ≤ v ∧ v ≤ 100000
      · obtain ⟨hv1, hv2⟩ := hv
        have HD := Lib.hid (fun w => DupDivide_yes v d w hv1 hv2 d0 d1)
        rw [HDIV.out.1, HDIV.out.2] at HD
        go_wp2_with fail
        refine (HD.out _).mono ?_
        rintro e w5 ⟨rfl, hb5⟩
        replace HI1 := Lib.hid (HI1.out.next hb5)
        have HB5 := Lib.hid (below_chain HB4.out hb5)
        clear hb5
        go_wp2
        go_ret
        exact ⟨ret_bool (by simp <;> omega), HB5.out⟩
      · have HD := Lib.hid (fun w => DupDivide_no v d w (by omega))
        go_wp2_with fail
        refine (HD.out _).mono ?_
        rintro e w' ⟨rfl, rfl⟩
        go_wp2
        go_ret
        exact ⟨ret_bool (by simp <;> omega), HB4.out⟩
end Go.Proofs.Ytphokfdaimbaiaa.fnLongQuotient
