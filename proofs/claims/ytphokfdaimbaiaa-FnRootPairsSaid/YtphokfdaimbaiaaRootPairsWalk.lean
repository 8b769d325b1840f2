/-
  FnRootPairs returns true for every code: pairs have the digits of the root.
-/
import Derived.Test.YtphokfdaimbaiaaGlRoot3
namespace Go.Proofs.Ytphokfdaimbaiaa.fnRootPairs
open Go.RowKit

set_option maxRecDepth 100000 in
set_option maxHeartbeats 4000000 in
theorem walk (a0 : Option Addr) (len0 cap0 : Nat) (z0 : List Int) (w : World) (w0 : IsRow .u8 w a0 len0 cap0 z0) :
    Calls Try.prog 4 #[.slice a0 len0 cap0] w fun e w' => e = .returned (.bool true) ∧ Below w.heap.size w w' := by
  by_cases hbig : 1048576 < len0
  · clear w0
    go_enter Try.func4, Try.ntmps4
    go_wp2
    go_ret
    exact ⟨rfl, Below.refl _ _⟩
  · have HC := Lib.hid (Bytes.of_row w0)
    clear w0
    go_enter Try.func4, Try.ntmps4
    go_wp2_with fail
    refine (DrawRootPairs_any _ _ _ _ HC.out (by omega)).mono ?_
    rintro e w1 ⟨v, rfl, hv0, hv1, hb1⟩
    have HB1 := Lib.hid hb1
    clear hb1
    by_cases hr : v < 0 ∨ 1000000000 < v
    · have HR := Lib.hid hr
      clear hr
      go_wp2_with fail
      refine (RootPairs_none v _ HR.out).mono ?_
      rintro e w2 ⟨⟨A2, n2, c2, rfl, ho2⟩, hb2⟩
      simp only [Bool.false_eq_true, if_false] at ho2
      have HB2 := Lib.hid (below_chain HB1.out hb2)
      clear hb2
      have HI2 := Lib.hid ho2.ints
      clear ho2
      go_wp2_with fail
      refine (specRootPairs_no v _ HR.out).mono ?_
      rintro e w3 ⟨⟨A3, n3, c3, rfl, ho3⟩, hb3⟩
      simp only [Bool.false_eq_true, if_false] at ho3
      replace HI2 := Lib.hid (HI2.out.next hb3)
      have HB3 := Lib.hid (below_chain HB2.out hb3)
      clear hb3
      have HI3 := Lib.hid ho3.ints
      clear ho3
      go_wp2_with fail
      refine (sameInts_any _ _ _ _ _ _ _ _ _ _ _ HI2.out HI3.out).mono ?_
      rintro e w4 ⟨rfl, q4, hw4⟩
      rw [sameB_self]
      replace HI2 := Lib.hid (ints_same HI2.out hw4)
      replace HI3 := Lib.hid (ints_same HI3.out hw4)
      replace HB3 := Lib.hid (below_same HB3.out hw4)
      clear hw4
      go_wp2_with fail
      refine (sameInts_any _ _ _ _ _ _ _ _ _ _ _ HI2.out HI3.out).mono ?_
      rintro e w5 ⟨rfl, q5, hw5⟩
      rw [sameB_self]
      replace HI2 := Lib.hid (ints_same HI2.out hw5)
      replace HI3 := Lib.hid (ints_same HI3.out hw5)
      replace HB3 := Lib.hid (below_same HB3.out hw5)
      clear hw5
      go_wp2
      go_ret
      exact ⟨rfl, HB3.out⟩
    · obtain ⟨m, rfl⟩ := Int.eq_ofNat_of_zero_le (show 0 ≤ v by omega)
      have hm : m ≤ 1000000000 := by omega
      clear hr hv0 hv1
      obtain ⟨_, hval, hlen, hdig⟩ := Gl.rt_inv m
      have hl := Gl.prs_length hm
      obtain ⟨hl1, hl5⟩ := hl
      have hst := prs_count m
      have hc := fun w => RootOf_yes m w hm
      have htm := @Gl.rtD_times m
      have hpy := fun w => RootPairs_post m w hm
      have hsy := fun w => specRootPairs_yes m w hm
      generalize (Gl.prs m).length = L at *
      generalize Gl.rtR m = r at *
      generalize Gl.rtD m = ds at *
      have HVAL := Lib.hid hval
      have HLEN := Lib.hid hlen
      have HDIG := Lib.hid hdig
      have HST := Lib.hid hst
      have HC := Lib.hid hc
      have HTM := Lib.hid htm
      have HPY := Lib.hid hpy
      have HSY := Lib.hid hsy
      clear hval hlen hdig hst hc htm hpy hsy
      go_wp2_with fail
      refine (HPY.out _).mono ?_
      rintro e w2 ⟨⟨A2, n2, c2, rfl, ho2⟩, hb2⟩
      simp only [if_true] at ho2
      have HB2 := Lib.hid (below_chain HB1.out hb2)
      clear hb2
      have HI2 := Lib.hid ho2.ints
      clear ho2
      go_wp2_with fail
      refine (HSY.out _).mono ?_
      rintro e w3 ⟨⟨A3, n3, c3, rfl, ho3⟩, hb3⟩
      simp only [if_true] at ho3
      replace HI2 := Lib.hid (HI2.out.next hb3)
      have HB3 := Lib.hid (below_chain HB2.out hb3)
      clear hb3
      have HI3 := Lib.hid ho3.ints
      clear ho3
      obtain rfl : n2 = L := by have := HI2.out.len; have := HLEN.out; omega
      go_wp2_with fail
      refine (sameInts_any _ _ _ _ _ _ _ _ _ _ _ HI2.out HI3.out).mono ?_
      rintro e w4 ⟨rfl, q4, hw4⟩
      rw [sameB_self]
      replace HI2 := Lib.hid (ints_same HI2.out hw4)
      replace HI3 := Lib.hid (ints_same HI3.out hw4)
      replace HB3 := Lib.hid (below_same HB3.out hw4)
      clear hw4
      go_wp2_with fail
      refine (HC.out _).mono ?_
      rintro e w5 ⟨rfl, hb5⟩
      replace HI2 := Lib.hid (HI2.out.next hb5)
      replace HI3 := Lib.hid (HI3.out.next hb5)
      have HB5 := Lib.hid (below_chain HB3.out hb5)
      clear hb5
      go_wp2_with fail
      go_loop [11, 12] (fun pv mv => ∃ k j : Nat, pv = .int .i64 (j : Int) ∧ mv = .int .i64 (k : Int) ∧ k ≤ 1000000000 ∧ (Gl.pr (k / 100)).length + j = n2) (fun _ mv => (intOf mv).toNat)
      case atStart => exact ⟨m, 1, rfl, rfl, hm, HST.out⟩
      case round =>
        obtain ⟨k, j, rfl, rfl, hk, hcnt⟩ := hrel
        have hj : j ≤ 5 := by omega
        have HCNT := Lib.hid hcnt
        clear hcnt
        by_cases h100 : 100 ≤ k
        · go_wp2
          go_round
          case rel => exact ⟨k / 100, j + 1, by go_num, by go_num, by omega, pr_step h100 HCNT.out⟩
          case measure => simp [intOf]; omega
        · obtain rfl : j = n2 := by have := HCNT.out; rw [show k / 100 = 0 from by omega, Gl.pr_zero] at this; simpa using this
          clear HCNT
          by_cases hbig : 1000000000 < 100 * m
          · skip
            have hne : (((m : Nat) : Int) == 0) = false := by simp; omega
            go_wp2_with fail
            refine (RootPairs_none (100 * (m : Int)) _ (.inr (by omega))).mono ?_
            rintro e w6 ⟨⟨A6, n6, c6, rfl, ho6⟩, hb6⟩
            simp only [Bool.false_eq_true, if_false] at ho6
            replace HI2 := Lib.hid (HI2.out.next hb6)
            replace HI3 := Lib.hid (HI3.out.next hb6)
            have HB6 := Lib.hid (below_chain HB5.out hb6)
            clear hb6
            have HI6 := Lib.hid ho6.ints
            clear ho6
            have HVA := Lib.hid (HVAL.out)
            go_wp2_with fail
            refine (valueOf_any _ _ _ ds _ _ HI2.out HDIG.out (by have := HLEN.out; omega)).mono ?_
            rintro e w' ⟨rfl, rfl⟩
            rw [HVAL.out]
            go_wp2
            go_ret
            exact ⟨rfl, HB6.out⟩
          · skip
            by_cases h0 : m = 0
            · subst h0
              go_wp2_with fail
              have hcall := RootPairs_post (100 * 0)
              refine (hcall _ (by omega)).mono ?_
              clear hcall
              rintro e w6 ⟨⟨A6, n6, c6, rfl, ho6⟩, hb6⟩
              simp only [if_true] at ho6
              have hcp6 := own_cap ho6
              replace HI2 := Lib.hid (HI2.out.next hb6)
              replace HI3 := Lib.hid (HI3.out.next hb6)
              have HB6 := Lib.hid (below_chain HB5.out hb6)
              clear hb6
              clear ho6
              go_wp2_with fail
              refine (valueOf_any _ _ _ ds _ _ HI2.out HDIG.out (by have := HLEN.out; omega)).mono ?_
              rintro e w' ⟨rfl, rfl⟩
              rw [HVAL.out]
              go_wp2
              go_ret
              exact ⟨rfl, HB6.out⟩
            · have hne : (((m : Nat) : Int) == 0) = false := by simp; omega
              go_wp2_with fail
              have hcall := RootPairs_post (100 * m)
              rw [show ((100 * m : Nat) : Int) = 100 * (m : Int) from by omega] at hcall
              refine (hcall _ (by omega)).mono ?_
              clear hcall
              rintro e w6 ⟨⟨A6, n6, c6, rfl, ho6⟩, hb6⟩
              simp only [if_true] at ho6
              have hcp6 := own_cap ho6
              replace HI2 := Lib.hid (HI2.out.next hb6)
              replace HI3 := Lib.hid (HI3.out.next hb6)
              have HB6 := Lib.hid (below_chain HB5.out hb6)
              clear hb6
              obtain ⟨d, hd⟩ := HTM.out (by omega)
              rw [hd] at ho6
              clear hd
              obtain rfl : n6 = j + 1 := by have h1 := ho6.len; rw [List.length_append, List.length_singleton] at h1; have := HLEN.out; omega
              have ht6 := ho6.ints.take (show j ≤ j + 1 by omega)
              rw [show (ds ++ [d]).take j = ds from by rw [← HLEN.out]; simp] at ht6
              have HT := Lib.hid ht6
              clear ht6
              clear ho6
              go_wp2_with fail
              refine (valueOf_any _ _ _ ds _ _ HI2.out HDIG.out (by have := HLEN.out; omega)).mono ?_
              rintro e w' ⟨rfl, rfl⟩
              rw [HVAL.out]
              go_wp2_with fail
              refine (sameInts_any _ _ _ _ _ _ _ _ _ _ _ HT.out HI2.out).mono ?_
              rintro e w7 ⟨rfl, q7, hw7⟩
              rw [sameB_self]
              replace HB6 := Lib.hid (below_same HB6.out hw7)
              clear hw7
              go_wp2
              go_ret
              exact ⟨rfl, HB6.out⟩
end Go.Proofs.Ytphokfdaimbaiaa.fnRootPairs
