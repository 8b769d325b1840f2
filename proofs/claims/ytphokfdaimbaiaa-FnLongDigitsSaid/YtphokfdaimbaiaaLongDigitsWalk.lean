/-
  FnLongDigits returns true for every pair of codes: further digits come nearer.
-/
import Derived.Test.YtphokfdaimbaiaaGlLong5
import Derived.Test.YtphokfdaimbaiaaNumDraw
namespace Go.Proofs.Ytphokfdaimbaiaa.fnLongDigits
open Go.RowKit

set_option maxRecDepth 100000 in
set_option maxHeartbeats 4000000 in
theorem walk (a0 : Option Addr) (len0 cap0 : Nat) (z0 : List Int) (a1 : Option Addr) (len1 cap1 : Nat) (z1 : List Int) (w : World) (w0 : IsRow .u8 w a0 len0 cap0 z0) (_w1 : IsRow .u8 w a1 len1 cap1 z1) :
    Calls Try.prog 12 #[.slice a0 len0 cap0, .slice a1 len1 cap1] w fun e w' => e = .returned (.bool true) ∧ Below w.heap.size w w' := by
  by_cases hbig : 1048576 < len0 ∨ 1048576 < len1
  · clear w0 _w1
    by_cases hb0 : 1048576 < len0
    · go_enter Try.func12, Try.ntmps12
      go_wp2
      go_ret
      exact ⟨rfl, Below.refl _ _⟩
    · have hb1 : 1048576 < len1 := by omega
      go_enter Try.func12, Try.ntmps12
      go_wp2
      go_ret
      exact ⟨rfl, Below.refl _ _⟩
  · have HC := Lib.hid (Bytes.of_row w0)
    have hs0 : len0 ≤ 1048576 := by omega
    have hs1 : len1 ≤ 1048576 := by omega
    clear w0 _w1 hbig
    go_enter Try.func12, Try.ntmps12
    go_wp2_with fail
    refine (DrawLongDigits_any _ _ _ _ HC.out (by omega)).mono ?_
    rintro e w1 ⟨A1, n1, c1, xs, d, v, rfl, hx1, hn1, hv0, hv1, hu0, hu1, hb1⟩
    have HB1 := Lib.hid hb1
    clear hb1
    have HI1 := Lib.hid hx1
    clear hx1
    rcases hok : okD xs d v with _ | _
    · have hc1 := fun w h => LongDigits_any A1 n1 c1 xs d v w h
      have hc2 := fun w h => specLongDigits_any A1 n1 c1 xs d v w h
      rw [hok] at hc1 hc2
      clear hok
      have HC1 := Lib.hid hc1
      have HC2 := Lib.hid hc2
      clear hc1 hc2
      go_wp2_with fail
      refine (HC1.out _ HI1.out).mono ?_
      rintro e w2 ⟨⟨A2, n2, c2, rfl, ho2⟩, hb2⟩
      simp only [Bool.false_eq_true, if_false] at ho2
      replace HI1 := Lib.hid (HI1.out.next hb2)
      have HB2 := Lib.hid (below_chain HB1.out hb2)
      clear hb2
      have HI2 := Lib.hid ho2.ints
      clear ho2
      go_wp2_with fail
      refine (HC2.out _ HI1.out).mono ?_
      rintro e w3 ⟨⟨A3, n3, c3, rfl, ho3⟩, hb3⟩
      simp only [Bool.false_eq_true, if_false] at ho3
      replace HI1 := Lib.hid (HI1.out.next hb3)
      replace HI2 := Lib.hid (HI2.out.next hb3)
      have HB3 := Lib.hid (below_chain HB2.out hb3)
      clear hb3
      have HI3 := Lib.hid ho3.ints
      clear ho3
      go_wp2_with fail
      refine (sameInts_any _ _ _ _ _ _ _ _ _ _ _ HI2.out HI3.out).mono ?_
      rintro e w4 ⟨rfl, q4, hw4⟩
      rw [sameB_self]
      replace HI1 := Lib.hid (ints_same HI1.out hw4)
      replace HI2 := Lib.hid (ints_same HI2.out hw4)
      replace HI3 := Lib.hid (ints_same HI3.out hw4)
      replace HB3 := Lib.hid (below_same HB3.out hw4)
      clear hw4
      go_wp2_with fail
      refine (sameInts_any _ _ _ _ _ _ _ _ _ _ _ HI2.out HI3.out).mono ?_
      rintro e w5 ⟨rfl, q5, hw5⟩
      rw [sameB_self]
      replace HI1 := Lib.hid (ints_same HI1.out hw5)
      replace HI2 := Lib.hid (ints_same HI2.out hw5)
      replace HI3 := Lib.hid (ints_same HI3.out hw5)
      replace HB3 := Lib.hid (below_same HB3.out hw5)
      clear hw5
      go_wp2
      go_ret
      exact ⟨rfl, HB3.out⟩
    · have hc1 := fun w h => LongDigits_any A1 n1 c1 xs d v w h
      have hc2 := fun w h => specLongDigits_any A1 n1 c1 xs d v w h
      rw [hok] at hc1 hc2
      obtain ⟨hokS, hv0', hv50⟩ := (okD_iff xs d v).1 hok
      obtain ⟨n, rfl⟩ := Int.eq_ofNat_of_zero_le hv0'
      have hn50 : n ≤ 50 := by omega
      simp only [Int.toNat_natCast] at hc1 hc2
      obtain ⟨d0, d1, q0, q1, r0, r1, v0, v1, hlaw, hval⟩ := quo_law hokS
      have hdr := digsL_range r0 r1 n
      have hdl := digsL_length d (restL xs d) n
      have hlw := digits_law hokS n
      have hqc := fun w h => LongQuotient_yes A1 n1 c1 xs d w h hokS
      have hk : len1 % (n + 1) ≤ n := by have := Nat.mod_lt len1 (show 0 < n + 1 by omega); omega
      have hfc := fun w h => LongDigits_yes A1 n1 c1 xs d (len1 % (n + 1)) w h hokS (by omega)
      have hft := digsL_take d (restL xs d) hk
      have hmod2 : (len1 : Int) % ((n : Int) + 1) = ((len1 % (n + 1) : Nat) : Int) := by rw [show (n : Int) + 1 = ((n + 1 : Nat) : Int) from by omega, ← Int.natCast_emod]
      generalize len1 % (n + 1) = k0 at *
      generalize hqq : quoL xs d = q at *
      generalize hvv : valN xs = vv at *
      generalize restL xs d = r at *
      generalize digsL d r k0 = dk at *
      generalize digsL d r n = dn at *
      generalize restsL d r n = rn at *
      clear hok hval hqq hv0' hokS
      have HLAW := Lib.hid hlaw
      have HDR := Lib.hid hdr
      have HDL := Lib.hid hdl
      have HLW := Lib.hid hlw
      have HQC := Lib.hid hqc
      have HFC := Lib.hid hfc
      have HFT := Lib.hid hft
      have HVV := Lib.hid hvv
      have HMOD2 := Lib.hid hmod2
      clear hlaw hdr hdl hlw hqc hfc hft hvv hmod2
      have HC1 := Lib.hid hc1
      have HC2 := Lib.hid hc2
      clear hc1 hc2
      go_wp2_with fail
      refine (HC1.out _ HI1.out).mono ?_
      rintro e w2 ⟨⟨A2, n2, c2, rfl, ho2⟩, hb2⟩
      simp only [if_true] at ho2
      have hcp2 := own_cap ho2
      replace HI1 := Lib.hid (HI1.out.next hb2)
      have HB2 := Lib.hid (below_chain HB1.out hb2)
      clear hb2
      have HI2 := Lib.hid ho2.ints
      clear ho2
      go_wp2_with fail
      refine (HC2.out _ HI1.out).mono ?_
      rintro e w3 ⟨⟨A3, n3, c3, rfl, ho3⟩, hb3⟩
      simp only [if_true] at ho3
      replace HI1 := Lib.hid (HI1.out.next hb3)
      replace HI2 := Lib.hid (HI2.out.next hb3)
      have HB3 := Lib.hid (below_chain HB2.out hb3)
      clear hb3
      have HI3 := Lib.hid ho3.ints
      clear ho3
      go_wp2_with fail
      refine (sameInts_any _ _ _ _ _ _ _ _ _ _ _ HI2.out HI3.out).mono ?_
      rintro e w4 ⟨rfl, q4, hw4⟩
      rw [sameB_self]
      replace HI1 := Lib.hid (ints_same HI1.out hw4)
      replace HI2 := Lib.hid (ints_same HI2.out hw4)
      replace HI3 := Lib.hid (ints_same HI3.out hw4)
      replace HB3 := Lib.hid (below_same HB3.out hw4)
      clear hw4
      clear HI3
      obtain rfl : n2 = n := by have := HI2.out.len; have := HDL.out; omega
      go_wp2_with fail
      refine (HQC.out _ HI1.out).mono ?_
      rintro e w5 ⟨rfl, hb5⟩
      replace HI1 := Lib.hid (HI1.out.next hb5)
      replace HI2 := Lib.hid (HI2.out.next hb5)
      have HB5 := Lib.hid (below_chain HB3.out hb5)
      clear hb5
      go_wp2_with fail
      rw [HMOD2.out]
      refine (HFC.out _ HI1.out).mono ?_
      rintro e w6 ⟨⟨A6, n6, c6, rfl, ho6⟩, hb6⟩
      simp only [if_true] at ho6
      replace HI1 := Lib.hid (HI1.out.next hb6)
      replace HI2 := Lib.hid (HI2.out.next hb6)
      have HB6 := Lib.hid (below_chain HB5.out hb6)
      clear hb6
      have HI6 := Lib.hid ho6.ints
      clear ho6
      obtain rfl : n6 = k0 := by have h1 := HI6.out.len; rw [← HFT.out, List.length_take] at h1; have := HDL.out; omega
      have HIT := Lib.hid (HI2.out.take hk)
      rw [HFT.out] at HIT
      by_cases h9 : n2 ≤ 9
      · skip
        have hlw9 := HLW.out h9
        obtain ⟨hl1, hl2, rn0, rn1⟩ := hlw9
        obtain ⟨t0, t1⟩ := ten_range n2 (by omega)
        have HL1 := Lib.hid hl1
        have HL2 := Lib.hid hl2
        clear hl1 hl2
        have HALL := Lib.hid (show Gl.horner q (dn.take n2) = Gl.horner q dn by rw [List.take_of_length_le (by have := HDL.out; omega)])
        go_wp2_with fail
        go_loop [18, 19] (fun nv i => ∃ k : Nat, k ≤ n2 ∧ i = .int .i64 (k : Int) ∧ nv = .int .i64 (Gl.horner q (dn.take k))) (fun _ i => n2 - (intOf i).toNat)
        case atStart => exact ⟨0, by omega, rfl, rfl⟩
        case round =>
          obtain ⟨k, hk2, rfl, rfl⟩ := hrel
          obtain ⟨m0, m1⟩ := HL2.out k
          by_cases hlt : k < n2
          · obtain ⟨b, off, u, rfl, hub, hu, hcu⟩ := HI2.out.at_ hlt
            obtain ⟨u0, u9⟩ := HDR.out u (List.mem_of_getElem? hu)
            have HN := Lib.hid (horner_next' (q := q) hu)
            generalize Gl.horner q (dn.take k) = nn at *
            clear hu
            go_wp2
            go_round
            case rel => exact ⟨k + 1, by omega, by go_num, by rw [HN.out]⟩
            case measure => simp [intOf]; omega
          · obtain rfl : k = n2 := by omega
            rw [HALL.out] at m0 m1 ⊢
            have HL1 := HL1
            generalize Gl.horner q dn = nn at *
            go_wp2_with fail
            refine (sameInts_any _ _ _ _ _ _ _ _ _ _ _ HI6.out HIT.out).mono ?_
            rintro e w7 ⟨rfl, q7, hw7⟩
            rw [sameB_self]
            replace HI1 := Lib.hid (ints_same HI1.out hw7)
            replace HI2 := Lib.hid (ints_same HI2.out hw7)
            replace HI6 := Lib.hid (ints_same HI6.out hw7)
            replace HIT := Lib.hid (ints_same HIT.out hw7)
            replace HB6 := Lib.hid (below_same HB6.out hw7)
            clear hw7
            go_wp2_with fail
            have hcall := NumeralValue_any A1 n1 c1 xs _ HI1.out
            rw [HVV.out] at hcall
            refine hcall.mono ?_
            clear hcall
            rintro e w8 ⟨rfl, hb8⟩
            replace HI1 := Lib.hid (HI1.out.next hb8)
            replace HI2 := Lib.hid (HI2.out.next hb8)
            replace HI6 := Lib.hid (HI6.out.next hb8)
            replace HIT := Lib.hid (HIT.out.next hb8)
            have HB8 := Lib.hid (below_chain HB6.out hb8)
            clear hb8
            go_wp2_with fail
            refine (tenTo_any k _ h9).mono ?_
            rintro e w' ⟨rfl, rfl⟩
            generalize (10 : Int) ^ k = t at *
            obtain ⟨p0, p1⟩ := mul_in v0 v1 (show 0 ≤ t by omega) t1
            have p2 : 0 ≤ nn * d := Int.mul_nonneg m0 (by omega)
            have hl1 := HL1.out
            have p3 : nn * d ≤ vv * t := by omega
            have p4 : 0 ≤ vv * t - nn * d := by omega
            have p5 : vv * t - nn * d < d := by omega
            clear hl1
            go_wp2
            go_ret
            exact ⟨ret_bool (by simp <;> omega), HB8.out⟩
      · skip
        go_wp2_with fail
        go_loop [18, 19] (fun nv i => ∃ k : Nat, k ≤ n2 ∧ i = .int .i64 (k : Int) ∧ nv = .int .i64 (q)) (fun _ i => n2 - (intOf i).toNat)
        case atStart => exact ⟨0, by omega, rfl, rfl⟩
        case round =>
          obtain ⟨k, hk2, rfl, rfl⟩ := hrel
          by_cases hlt : k < n2
          · obtain ⟨b, off, u, rfl, hub, hu, hcu⟩ := HI2.out.at_ hlt
            obtain ⟨u0, u9⟩ := HDR.out u (List.mem_of_getElem? hu)
            clear hu
            go_wp2
            go_round
            case rel => exact ⟨k + 1, by omega, by go_num, rfl⟩
            case measure => simp [intOf]; omega
          · obtain rfl : k = n2 := by omega
            go_wp2_with fail
            refine (sameInts_any _ _ _ _ _ _ _ _ _ _ _ HI6.out HIT.out).mono ?_
            rintro e w7 ⟨rfl, q7, hw7⟩
            rw [sameB_self]
            replace HI1 := Lib.hid (ints_same HI1.out hw7)
            replace HI2 := Lib.hid (ints_same HI2.out hw7)
            replace HI6 := Lib.hid (ints_same HI6.out hw7)
            replace HIT := Lib.hid (ints_same HIT.out hw7)
            replace HB6 := Lib.hid (below_same HB6.out hw7)
            clear hw7
            go_wp2_with fail
            have hcall := NumeralValue_any A1 n1 c1 xs _ HI1.out
            rw [HVV.out] at hcall
            refine hcall.mono ?_
            clear hcall
            rintro e w8 ⟨rfl, hb8⟩
            replace HI1 := Lib.hid (HI1.out.next hb8)
            replace HI2 := Lib.hid (HI2.out.next hb8)
            replace HI6 := Lib.hid (HI6.out.next hb8)
            replace HIT := Lib.hid (HIT.out.next hb8)
            have HB8 := Lib.hid (below_chain HB6.out hb8)
            clear hb8
            go_wp2_with fail
            refine (tenTo_any 9 _ (by omega)).mono ?_
            rintro e w' ⟨rfl, rfl⟩
            rw [show (10 : Int) ^ 9 = 1000000000 from by decide]
            obtain ⟨p0, p1⟩ := mul_in q0 q1 (show 0 ≤ d by omega) d1
            go_wp2
            go_ret
            exact ⟨ret_bool (by simp <;> omega), HB8.out⟩
end Go.Proofs.Ytphokfdaimbaiaa.fnLongDigits
