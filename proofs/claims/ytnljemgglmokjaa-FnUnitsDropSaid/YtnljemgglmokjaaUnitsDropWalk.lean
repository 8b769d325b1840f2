/-
  FnUnitsDrop returns true for every code: a dropped unit can be joined again.
-/
import Derived.Test.YtnljemgglmokjaaUnLaw
namespace Go.Proofs.Ytnljemgglmokjaa.fnUnitsDrop
open Go.RowKit

set_option maxRecDepth 100000 in
set_option maxHeartbeats 4000000 in
theorem walk (a0 : Option Addr) (len0 cap0 : Nat) (z0 : List Int) (w : World) (w0 : IsRow .u8 w a0 len0 cap0 z0) :
    Calls Try.prog 5 #[.slice a0 len0 cap0] w fun e w' => e = .returned (.bool true) ∧ Below w.heap.size w w' := by
  by_cases hbig : 1048576 < len0
  · clear w0
    go_enter Try.func5, Try.ntmps5
    go_wp2
    go_ret
    exact ⟨rfl, Below.refl _ _⟩
  · have HC := Lib.hid (Bytes.of_row w0)
    clear w0
    go_enter Try.func5, Try.ntmps5
    go_wp2_with fail
    refine (DrawUnitsDrop_any _ _ _ _ HC.out (by omega)).mono ?_
    rintro e w1 ⟨A1, n1, c1, xs, k, rfl, hx1, hn1, hcp, hk0, hk1, hb1⟩
    have HB1 := Lib.hid hb1
    clear hb1
    have HI1 := Lib.hid hx1
    have hl1 := hx1.len
    have hd1 := fun w => UnitsDrop_any A1 n1 c1 xs k w
    have hd2 := fun w h => specUnitsDrop_any A1 n1 c1 xs k w h hcp
    rcases hok : okD xs k with _ | _
    · rw [hok] at hd1 hd2
      clear hx1 hok
      have HD1 := Lib.hid hd1
      have HD2 := Lib.hid hd2
      have HL1 := Lib.hid hl1
      clear hd1 hd2 hl1
      go_wp2_with fail
      refine (HD1.out _ HI1.out).mono ?_
      rintro e w2 ⟨⟨A2, n2, c2, rfl, ho2⟩, hb2⟩
      simp only [Bool.false_eq_true, if_false] at ho2
      replace HI1 := Lib.hid (HI1.out.next hb2)
      have HB2 := Lib.hid (below_chain HB1.out hb2)
      clear hb2
      have HI2 := Lib.hid ho2.ints
      clear ho2
      go_wp2_with fail
      refine (HD2.out _ HI1.out).mono ?_
      rintro e w3 ⟨⟨A3, n3, c3, rfl, ho3⟩, hb3⟩
      simp only [Bool.false_eq_true, if_false] at ho3
      replace HI1 := Lib.hid (HI1.out.next hb3)
      replace HI2 := Lib.hid (HI2.out.next hb3)
      have HB3 := Lib.hid (below_chain HB2.out hb3)
      clear hb3
      have HI3 := Lib.hid ho3.ints
      clear ho3
      go_wp2_with fail
      refine (sameInts_any _ _ _ _ _ _ _ _ _ _ _ HI2.out HI3.out).mono ?_
      rintro e w4 ⟨rfl, q4, hw4⟩
      rw [sameB_self]
      replace HI1 := Lib.hid (ints_same HI1.out hw4)
      replace HI2 := Lib.hid (ints_same HI2.out hw4)
      replace HI3 := Lib.hid (ints_same HI3.out hw4)
      replace HB3 := Lib.hid (below_same HB3.out hw4)
      clear hw4
      go_wp2_with fail
      refine (sameInts_any _ _ _ _ _ _ _ _ _ _ _ HI2.out HI3.out).mono ?_
      rintro e w5 ⟨rfl, q5, hw5⟩
      rw [sameB_self]
      replace HI1 := Lib.hid (ints_same HI1.out hw5)
      replace HI2 := Lib.hid (ints_same HI2.out hw5)
      replace HI3 := Lib.hid (ints_same HI3.out hw5)
      replace HB3 := Lib.hid (below_same HB3.out hw5)
      clear hw5
      go_wp2
      go_ret
      exact ⟨rfl, HB3.out⟩
    · rw [hok] at hd1 hd2
      obtain ⟨hoku, k0, kl⟩ := (okD_iff xs k).1 hok
      obtain ⟨j, rfl⟩ := Int.eq_ofNat_of_zero_le k0
      have hj : j < n1 := by omega
      obtain ⟨d, hu⟩ : ∃ d, xs[j]? = some d := ⟨_, List.getElem?_eq_getElem (by omega)⟩
      obtain ⟨hj1, hj2⟩ := drop_join hoku hu
      have hone := one_at hu
      rw [Int.toNat_natCast] at hd1 hd2
      have hel : (xs.eraseIdx j).length = n1 - 1 := by rw [List.length_eraseIdx_of_lt (by omega)]; omega
      obtain ⟨rest, hrest⟩ : ∃ r, xs.eraseIdx j = r := ⟨_, rfl⟩
      rw [hrest] at hd1 hd2 hj1 hj2 hel
      have hjoin := fun A n c B m d' w hx hy => UnitsJoin_any A n c B m d' rest [d] w hx hy
      rw [hj1, hj2] at hjoin
      obtain ⟨b8, o8, hA8, -, -⟩ := hx1.addr (by omega)
      subst hA8
      obtain ⟨m, rfl⟩ : ∃ m, n1 = m + 1 := ⟨n1 - 1, by omega⟩
      have hck : ¬ c1 = j := by omega
      have hm1 : ((m + 1 : Nat) : Int) - 1 = (m : Int) := by omega
      clear hx1 hok hoku k0 kl hk0 hk1 hu hrest hj1 hj2
      have HD1 := Lib.hid hd1
      have HD2 := Lib.hid hd2
      have HL1 := Lib.hid hl1
      have HONE := Lib.hid hone
      have HEL := Lib.hid hel
      have HJOIN := Lib.hid hjoin
      clear hd1 hd2 hl1 hone hel hjoin
      go_wp2_with fail
      refine (HD1.out _ HI1.out).mono ?_
      rintro e w2 ⟨⟨A2, n2, c2, rfl, ho2⟩, hb2⟩
      simp only [if_true] at ho2
      replace HI1 := Lib.hid (HI1.out.next hb2)
      have HB2 := Lib.hid (below_chain HB1.out hb2)
      clear hb2
      have HI2 := Lib.hid ho2.ints
      clear ho2
      go_wp2_with fail
      refine (HD2.out _ HI1.out).mono ?_
      rintro e w3 ⟨⟨A3, n3, c3, rfl, ho3⟩, hb3⟩
      simp only [if_true] at ho3
      replace HI1 := Lib.hid (HI1.out.next hb3)
      replace HI2 := Lib.hid (HI2.out.next hb3)
      have HB3 := Lib.hid (below_chain HB2.out hb3)
      clear hb3
      have HI3 := Lib.hid ho3.ints
      clear ho3
      have hla := HI2.out.len
      obtain rfl : m = n2 := by have := HEL.out; omega
      clear hla
      go_wp2_with fail
      refine (sameInts_any _ _ _ _ _ _ _ _ _ _ _ HI2.out HI3.out).mono ?_
      rintro e w4 ⟨rfl, q4, hw4⟩
      rw [sameB_self]
      replace HI1 := Lib.hid (ints_same HI1.out hw4)
      replace HI2 := Lib.hid (ints_same HI2.out hw4)
      replace HI3 := Lib.hid (ints_same HI3.out hw4)
      replace HB3 := Lib.hid (below_same HB3.out hw4)
      clear hw4
      have ht := HI1.out.drop rfl (show j ≤ m + 1 by omega) hcp
      rw [if_neg hck] at ht
      have ht2 := ht.take (show 1 ≤ m + 1 - j by omega)
      rw [HONE.out] at ht2
      have HT := Lib.hid ht2
      clear ht ht2
      go_wp2_with fail
      refine (HJOIN.out _ _ _ _ _ _ _ HI2.out HT.out).mono ?_
      rintro e w5 ⟨⟨A5, n5, c5, rfl, ho5⟩, hb5⟩
      simp only [if_true] at ho5
      replace HI1 := Lib.hid (HI1.out.next hb5)
      replace HI2 := Lib.hid (HI2.out.next hb5)
      replace HI3 := Lib.hid (HI3.out.next hb5)
      replace HT := Lib.hid (HT.out.next hb5)
      have HB5 := Lib.hid (below_chain HB3.out hb5)
      clear hb5
      have HI5 := Lib.hid ho5.ints
      clear ho5
      go_wp2_with fail
      refine (sameInts_any _ _ _ _ _ _ _ _ _ _ _ HI5.out HI1.out).mono ?_
      rintro e w6 ⟨rfl, q6, hw6⟩
      rw [sameB_self]
      replace HI1 := Lib.hid (ints_same HI1.out hw6)
      replace HI2 := Lib.hid (ints_same HI2.out hw6)
      replace HI3 := Lib.hid (ints_same HI3.out hw6)
      replace HT := Lib.hid (ints_same HT.out hw6)
      replace HI5 := Lib.hid (ints_same HI5.out hw6)
      replace HB5 := Lib.hid (below_same HB5.out hw6)
      clear hw6
      go_wp2
      go_ret
      exact ⟨rfl, HB5.out⟩
end Go.Proofs.Ytnljemgglmokjaa.fnUnitsDrop
