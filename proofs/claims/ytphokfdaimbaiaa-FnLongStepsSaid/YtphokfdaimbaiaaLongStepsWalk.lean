/-
  FnLongSteps returns true for every code: each step has its rest.
-/
import Derived.Test.YtphokfdaimbaiaaGlLong2
import Derived.Test.YtphokfdaimbaiaaNumDraw
namespace Go.Proofs.Ytphokfdaimbaiaa.fnLongSteps
open Go.RowKit

set_option maxRecDepth 100000 in
set_option maxHeartbeats 4000000 in
theorem walk (a0 : Option Addr) (len0 cap0 : Nat) (z0 : List Int) (w : World) (w0 : IsRow .u8 w a0 len0 cap0 z0) :
    Calls Try.prog 5 #[.slice a0 len0 cap0] w fun e w' => e = .returned (.bool true) ∧ Below w.heap.size w w' := by
  by_cases hbig : 1048576 < len0
  · clear w0
    go_enter Try.func5, Try.ntmps5
    go_wp2
    go_ret
    exact ⟨rfl, Below.refl _ _⟩
  · have HC := Lib.hid (Bytes.of_row w0)
    clear w0
    go_enter Try.func5, Try.ntmps5
    go_wp2_with fail
    refine (DrawLongSteps_any _ _ _ _ HC.out (by omega)).mono ?_
    rintro e w1 ⟨A1, n1, c1, xs, d, rfl, hx1, hn1, hv0, hv1, hb1⟩
    have HB1 := Lib.hid hb1
    clear hb1
    have HI1 := Lib.hid hx1
    clear hx1
    rcases hok : okS xs d with _ | _
    · have HOK := Lib.hid hok
      have hc1 := fun w h => LongSteps_any A1 n1 c1 xs d w h
      have hc2 := fun w h => specLongSteps_any A1 n1 c1 xs d w h
      rw [hok] at hc1 hc2
      have HC1 := Lib.hid hc1
      have HC2 := Lib.hid hc2
      clear hc1 hc2
      clear hok
      go_wp2_with fail
      refine (HC1.out _ HI1.out).mono ?_
      rintro e w2 ⟨⟨A2, n2, c2, rfl, ho2⟩, hb2⟩
      simp only [Bool.false_eq_true, if_false] at ho2
      replace HI1 := Lib.hid (HI1.out.next hb2)
      have HB2 := Lib.hid (below_chain HB1.out hb2)
      clear hb2
      have HT2 := Lib.hid ho2.stps
      clear ho2
      go_wp2_with fail
      refine (HC2.out _ HI1.out).mono ?_
      rintro e w3 ⟨⟨A3, n3, c3, rfl, ho3⟩, hb3⟩
      simp only [Bool.false_eq_true, if_false] at ho3
      replace HI1 := Lib.hid (HI1.out.next hb3)
      replace HT2 := Lib.hid (HT2.out.next hb3)
      have HB3 := Lib.hid (below_chain HB2.out hb3)
      clear hb3
      have HT3 := Lib.hid ho3.stps
      clear ho3
      go_wp2_with fail
      refine (sameSteps_eq _ _ _ _ _ _ _ _ _ _ HT2.out HT3.out).mono ?_
      rintro e w4 ⟨rfl, q4, hw4⟩
      replace HI1 := Lib.hid (ints_same HI1.out hw4)
      replace HT2 := Lib.hid (stps_same HT2.out hw4)
      replace HT3 := Lib.hid (stps_same HT3.out hw4)
      replace HB3 := Lib.hid (below_same HB3.out hw4)
      clear hw4
      go_wp2_with fail
      refine (sameSteps_eq _ _ _ _ _ _ _ _ _ _ HT2.out HT3.out).mono ?_
      rintro e w5 ⟨rfl, q5, hw5⟩
      replace HI1 := Lib.hid (ints_same HI1.out hw5)
      replace HT2 := Lib.hid (stps_same HT2.out hw5)
      replace HT3 := Lib.hid (stps_same HT3.out hw5)
      replace HB3 := Lib.hid (below_same HB3.out hw5)
      clear hw5
      go_wp2
      go_ret
      exact ⟨rfl, HB3.out⟩
    · have HOK := Lib.hid hok
      obtain ⟨_, h6, h1, d0, d1, _⟩ := dsL_facts hok
      have hlx := HI1.out.len
      have HXD := Lib.hid ((okN_iff xs).1 ((okS_iff xs d).1 hok).1).2.2
      have hc1 := fun w h => LongSteps_any A1 n1 c1 xs d w h
      have hc2 := fun w h => specLongSteps_any A1 n1 c1 xs d w h
      rw [hok] at hc1 hc2
      have HC1 := Lib.hid hc1
      have HC2 := Lib.hid hc2
      clear hc1 hc2
      clear hok
      go_wp2_with fail
      refine (HC1.out _ HI1.out).mono ?_
      rintro e w2 ⟨⟨A2, n2, c2, rfl, ho2⟩, hb2⟩
      simp only [if_true] at ho2
      replace HI1 := Lib.hid (HI1.out.next hb2)
      have HB2 := Lib.hid (below_chain HB1.out hb2)
      clear hb2
      have HT2 := Lib.hid ho2.stps
      clear ho2
      go_wp2_with fail
      refine (HC2.out _ HI1.out).mono ?_
      rintro e w3 ⟨⟨A3, n3, c3, rfl, ho3⟩, hb3⟩
      simp only [if_true] at ho3
      replace HI1 := Lib.hid (HI1.out.next hb3)
      replace HT2 := Lib.hid (HT2.out.next hb3)
      have HB3 := Lib.hid (below_chain HB2.out hb3)
      clear hb3
      have HT3 := Lib.hid ho3.stps
      clear ho3
      go_wp2_with fail
      refine (sameSteps_eq _ _ _ _ _ _ _ _ _ _ HT2.out HT3.out).mono ?_
      rintro e w4 ⟨rfl, q4, hw4⟩
      replace HI1 := Lib.hid (ints_same HI1.out hw4)
      replace HT2 := Lib.hid (stps_same HT2.out hw4)
      replace HT3 := Lib.hid (stps_same HT3.out hw4)
      replace HB3 := Lib.hid (below_same HB3.out hw4)
      clear hw4
      obtain rfl : n2 = n1 := by have := HT2.out.len; rw [Gl.steps_length] at this; omega
      have HLX := Lib.hid hlx
      clear hlx HT3
      have hn6 : n2 ≤ 6 := by have := HLX.out; omega
      go_wp2_with fail
      go_loopw [9, 10] (fun rv i wr => ∃ (k : Nat) (r : Int), k ≤ n2 ∧ i = .int .i64 (k : Int) ∧ rv = .int .i64 r ∧ Gl.lastRest d 0 (xs.take k) = r ∧ 0 ≤ r ∧ r < d ∧ Stps wr wr.heap.size A2 n2 (Gl.steps d 0 xs) ∧ Ints wr wr.heap.size A1 n2 xs ∧ Below w.heap.size w wr) (fun _ i _ => n2 - (intOf i).toNat)
      case atStart => exact ⟨0, 0, by omega, rfl, rfl, rfl, by omega, by omega, HT2.out, HI1.out, HB3.out⟩
      case round =>
        clear HT2 HI1 HB3
        obtain ⟨k, r, hk, rfl, rfl, hr, r0, r1, ht, hi, hb⟩ := hrel
        have HR := Lib.hid hr
        have HT := Lib.hid ht
        have HI := Lib.hid hi
        have HB := Lib.hid hb
        clear hr ht hi hb
        by_cases hlt : k < n2
        · obtain ⟨b1, o1, a, b, rfl, hb1, hs, hc1, hc2⟩ := HT.out.at_ hlt
          obtain ⟨b2, o2, u, rfl, hb2, hu, hc3⟩ := HI.out.at_ hlt
          obtain ⟨u0, u9⟩ := HXD.out u (List.mem_of_getElem? hu)
          have hg := Gl.steps_get (d := d) xs 0 k u hu
          rw [hs, HR.out] at hg
          obtain ⟨ha, hb⟩ : a = (10 * r + u) / d ∧ b = (10 * r + u) % d := by simpa using hg
          obtain ⟨a0, a9, b0, bd, hab⟩ := step_law d0 r0 r1 u0 u9
          rw [← ha, ← hb] at hab
          rw [← ha] at a0 a9
          rw [← hb] at b0 bd
          have HRN := Lib.hid (Gl.rest_next (d := d) (r := 0) hu)
          rw [HR.out, ← hb] at HRN
          clear hs hu hg ha hb
          obtain ⟨p0, p1⟩ := mul_in a0 a9 (show 0 ≤ d by omega) d1
          have s1 : IntKind.i64.wrap (a * d) = a * d := IntWalk.i64_in _ (by omega)
          have s2 : IntKind.i64.wrap (a * d + b) = a * d + b := IntWalk.i64_in _ (by omega)
          have s3 : IntKind.i64.wrap (10 * r) = 10 * r := IntWalk.i64_in _ (by omega)
          have s4 : IntKind.i64.wrap (10 * r + u) = 10 * r + u := IntWalk.i64_in _ (by omega)
          have t1 : decide (a < 0) = false := by simp; omega
          have t2 : decide (9 < a) = false := by simp; omega
          have t3 : decide (b < 0) = false := by simp; omega
          have t4 : decide (d ≤ b) = false := by simp; omega
          have t5 : (a * d + b != 10 * r + u) = false := by simp [hab]
          clear hab
          go_wp2_with fail
          go_quiet (fail)
          clear s1 s2 s3 s4 t1 t2 t3 t4 t5
          go_wp2
          go_roundw
          case rel => exact ⟨k + 1, b, by omega, by go_num, rfl, HRN.out, b0, bd, stps_same HT.out rfl, ints_same HI.out rfl, below_drewN HB.out _⟩
          case measure => simp [intOf]; omega
        · obtain rfl : k = n2 := by omega
          go_wp2
          go_ret
          exact ⟨ret_bool (by simp), HB.out⟩
end Go.Proofs.Ytphokfdaimbaiaa.fnLongSteps
