/-
  FnUnitsJoin returns true for every code: joined units are added.
-/
import Derived.Test.YtnljemgglmokjaaUnLaw2
namespace Go.Proofs.Ytnljemgglmokjaa.fnUnitsJoin
open Go.RowKit

set_option maxRecDepth 100000 in
set_option maxHeartbeats 4000000 in
theorem walk (a0 : Option Addr) (len0 cap0 : Nat) (z0 : List Int) (w : World) (w0 : IsRow .u8 w a0 len0 cap0 z0) :
    Calls Try.prog 6 #[.slice a0 len0 cap0] w fun e w' => e = .returned (.bool true) ∧ Below w.heap.size w w' := by
  by_cases hbig : 1048576 < len0
  · clear w0
    go_enter Try.func6, Try.ntmps6
    go_wp2
    go_ret
    exact ⟨rfl, Below.refl _ _⟩
  · have HC := Lib.hid (Bytes.of_row w0)
    clear w0
    go_enter Try.func6, Try.ntmps6
    go_wp2_with fail
    refine (DrawUnitsJoin_any _ _ _ _ HC.out (by omega)).mono ?_
    rintro e w2 ⟨A1, n1, c1, xs, A2, n2, c2, ys, rfl, hx1, hx2, hn1, hn2, hb2⟩
    have HB2 := Lib.hid hb2
    clear hb2
    have HI1 := Lib.hid hx1
    have HI2 := Lib.hid hx2
    have hl1 := hx1.len
    have hl2 := hx2.len
    clear hx1 hx2
    have hd1 := fun A B n c m d w hx hy => UnitsJoin_x A B n c m d xs ys w hx hy
    have hd2 := fun A B n c m d w hx hy => specUnitsJoin_x A B n c m d xs ys w hx hy
    rcases hok : okJ xs ys with _ | _
    · rw [hok] at hd1 hd2
      clear hok
      have HD1 := Lib.hid hd1
      have HD2 := Lib.hid hd2
      have HL1 := Lib.hid hl1
      have HL2 := Lib.hid hl2
      clear hd1 hd2 hl1 hl2
      go_wp2_with fail
      refine (HD1.out _ _ _ _ _ _ _ HI1.out HI2.out).mono ?_
      rintro e w3 ⟨⟨A3, n3, c3, rfl, ho3⟩, hb3⟩
      simp only [Bool.false_eq_true, if_false] at ho3
      replace HI1 := Lib.hid (HI1.out.next hb3)
      replace HI2 := Lib.hid (HI2.out.next hb3)
      have HB3 := Lib.hid (below_chain HB2.out hb3)
      clear hb3
      have HI3 := Lib.hid ho3.ints
      clear ho3
      go_wp2_with fail
      refine (HD2.out _ _ _ _ _ _ _ HI1.out HI2.out).mono ?_
      rintro e w4 ⟨⟨A4, n4, c4, rfl, ho4⟩, hb4⟩
      simp only [Bool.false_eq_true, if_false] at ho4
      replace HI1 := Lib.hid (HI1.out.next hb4)
      replace HI2 := Lib.hid (HI2.out.next hb4)
      replace HI3 := Lib.hid (HI3.out.next hb4)
      have HB4 := Lib.hid (below_chain HB3.out hb4)
      clear hb4
      have HI4 := Lib.hid ho4.ints
      clear ho4
      go_wp2_with fail
      refine (sameInts_any _ _ _ _ _ _ _ _ _ _ _ HI3.out HI4.out).mono ?_
      rintro e w5 ⟨rfl, q5, hw5⟩
      rw [sameB_self]
      replace HI1 := Lib.hid (ints_same HI1.out hw5)
      replace HI2 := Lib.hid (ints_same HI2.out hw5)
      replace HI3 := Lib.hid (ints_same HI3.out hw5)
      replace HI4 := Lib.hid (ints_same HI4.out hw5)
      replace HB4 := Lib.hid (below_same HB4.out hw5)
      clear hw5
      go_wp2_with fail
      refine (sameInts_any _ _ _ _ _ _ _ _ _ _ _ HI3.out HI4.out).mono ?_
      rintro e w6 ⟨rfl, q6, hw6⟩
      rw [sameB_self]
      replace HI1 := Lib.hid (ints_same HI1.out hw6)
      replace HI2 := Lib.hid (ints_same HI2.out hw6)
      replace HI3 := Lib.hid (ints_same HI3.out hw6)
      replace HI4 := Lib.hid (ints_same HI4.out hw6)
      replace HB4 := Lib.hid (below_same HB4.out hw6)
      clear hw6
      go_wp2
      go_ret
      exact ⟨rfl, HB4.out⟩
    · rw [hok] at hd1 hd2
      obtain ⟨hs1, hs2⟩ := join_swap hok
      have hd3 := fun A B n c m d w hx hy => UnitsJoin_x A B n c m d ys xs w hx hy
      rw [hs1, hs2] at hd3
      have hlen : (Un.insAll xs ys).length = n1 + n2 := by rw [Un.insAll_length, hl1, hl2]
      have HOK := Lib.hid hok
      clear hok hs1 hs2
      have HD1 := Lib.hid hd1
      have HD2 := Lib.hid hd2
      have HD3 := Lib.hid hd3
      have HL1 := Lib.hid hl1
      have HL2 := Lib.hid hl2
      have HLEN := Lib.hid hlen
      clear hd1 hd2 hd3 hl1 hl2 hlen
      go_wp2_with fail
      refine (HD1.out _ _ _ _ _ _ _ HI1.out HI2.out).mono ?_
      rintro e w3 ⟨⟨A3, n3, c3, rfl, ho3⟩, hb3⟩
      simp only [if_true] at ho3
      replace HI1 := Lib.hid (HI1.out.next hb3)
      replace HI2 := Lib.hid (HI2.out.next hb3)
      have HB3 := Lib.hid (below_chain HB2.out hb3)
      clear hb3
      have HI3 := Lib.hid ho3.ints
      clear ho3
      go_wp2_with fail
      refine (HD2.out _ _ _ _ _ _ _ HI1.out HI2.out).mono ?_
      rintro e w4 ⟨⟨A4, n4, c4, rfl, ho4⟩, hb4⟩
      simp only [if_true] at ho4
      replace HI1 := Lib.hid (HI1.out.next hb4)
      replace HI2 := Lib.hid (HI2.out.next hb4)
      replace HI3 := Lib.hid (HI3.out.next hb4)
      have HB4 := Lib.hid (below_chain HB3.out hb4)
      clear hb4
      have HI4 := Lib.hid ho4.ints
      clear ho4
      have hla := HI3.out.len
      obtain rfl : n3 = n1 + n2 := by have := HLEN.out; omega
      clear hla
      go_wp2_with fail
      refine (sameInts_any _ _ _ _ _ _ _ _ _ _ _ HI3.out HI4.out).mono ?_
      rintro e w5 ⟨rfl, q5, hw5⟩
      rw [sameB_self]
      replace HI1 := Lib.hid (ints_same HI1.out hw5)
      replace HI2 := Lib.hid (ints_same HI2.out hw5)
      replace HI3 := Lib.hid (ints_same HI3.out hw5)
      replace HI4 := Lib.hid (ints_same HI4.out hw5)
      replace HB4 := Lib.hid (below_same HB4.out hw5)
      clear hw5
      go_wp2_with fail
      refine (HD3.out _ _ _ _ _ _ _ HI2.out HI1.out).mono ?_
      rintro e w6 ⟨⟨A6, n6, c6, rfl, ho6⟩, hb6⟩
      simp only [if_true] at ho6
      replace HI1 := Lib.hid (HI1.out.next hb6)
      replace HI2 := Lib.hid (HI2.out.next hb6)
      replace HI3 := Lib.hid (HI3.out.next hb6)
      replace HI4 := Lib.hid (HI4.out.next hb6)
      have HB6 := Lib.hid (below_chain HB4.out hb6)
      clear hb6
      have HI6 := Lib.hid ho6.ints
      clear ho6
      go_wp2_with fail
      refine (UnitsSum_any _ _ _ xs _ HI1.out).mono ?_
      rintro e w7 ⟨⟨c, d, q, rfl, hlow7⟩, hb7⟩
      have HLOW7 := Lib.hid hlow7
      clear hlow7
      replace HI1 := Lib.hid (HI1.out.next hb7)
      replace HI2 := Lib.hid (HI2.out.next hb7)
      replace HI3 := Lib.hid (HI3.out.next hb7)
      replace HI4 := Lib.hid (HI4.out.next hb7)
      replace HI6 := Lib.hid (HI6.out.next hb7)
      have HB7 := Lib.hid (below_chain HB6.out hb7)
      clear hb7
      go_wp2_with fail
      refine (UnitsSum_any _ _ _ ys _ HI2.out).mono ?_
      rintro e w8 ⟨⟨e', f, s, rfl, hlow8⟩, hb8⟩
      have HLOW8 := Lib.hid hlow8
      clear hlow8
      replace HI1 := Lib.hid (HI1.out.next hb8)
      replace HI2 := Lib.hid (HI2.out.next hb8)
      replace HI3 := Lib.hid (HI3.out.next hb8)
      replace HI4 := Lib.hid (HI4.out.next hb8)
      replace HI6 := Lib.hid (HI6.out.next hb8)
      have HB8 := Lib.hid (below_chain HB7.out hb8)
      clear hb8
      go_wp2_with fail
      refine (UnitsSum_any _ _ _ (Un.insAll xs ys) _ HI3.out).mono ?_
      rintro e w9 ⟨⟨g, h, t, rfl, hlow9⟩, hb9⟩
      have HLOW9 := Lib.hid hlow9
      clear hlow9
      replace HI1 := Lib.hid (HI1.out.next hb9)
      replace HI2 := Lib.hid (HI2.out.next hb9)
      replace HI3 := Lib.hid (HI3.out.next hb9)
      replace HI4 := Lib.hid (HI4.out.next hb9)
      replace HI6 := Lib.hid (HI6.out.next hb9)
      have HB9 := Lib.hid (below_chain HB8.out hb9)
      clear hb9
      rcases q with _ | _
      · skip
        go_wp2_with fail
        refine (sameInts_any _ _ _ _ _ _ _ _ _ _ _ HI6.out HI3.out).mono ?_
        rintro e w10 ⟨rfl, q10, hw10⟩
        rw [sameB_self]
        replace HI1 := Lib.hid (ints_same HI1.out hw10)
        replace HI2 := Lib.hid (ints_same HI2.out hw10)
        replace HI3 := Lib.hid (ints_same HI3.out hw10)
        replace HI4 := Lib.hid (ints_same HI4.out hw10)
        replace HI6 := Lib.hid (ints_same HI6.out hw10)
        replace HB9 := Lib.hid (below_same HB9.out hw10)
        clear hw10
        go_wp2
        go_ret
        exact ⟨rfl, HB9.out⟩
      · have hlw7 := HLOW7.out rfl
        obtain ⟨-, hp7, hu7, hv7, -⟩ := id hlw7
        replace HLOW7 := Lib.hid hlw7
        clear hlw7
        rcases s with _ | _
        · skip
          go_wp2_with fail
          refine (sameInts_any _ _ _ _ _ _ _ _ _ _ _ HI6.out HI3.out).mono ?_
          rintro e w10 ⟨rfl, q10, hw10⟩
          rw [sameB_self]
          replace HI1 := Lib.hid (ints_same HI1.out hw10)
          replace HI2 := Lib.hid (ints_same HI2.out hw10)
          replace HI3 := Lib.hid (ints_same HI3.out hw10)
          replace HI4 := Lib.hid (ints_same HI4.out hw10)
          replace HI6 := Lib.hid (ints_same HI6.out hw10)
          replace HB9 := Lib.hid (below_same HB9.out hw10)
          clear hw10
          go_wp2
          go_ret
          exact ⟨rfl, HB9.out⟩
        · have hlw8 := HLOW8.out rfl
          obtain ⟨-, hp8, hu8, hv8, -⟩ := id hlw8
          replace HLOW8 := Lib.hid hlw8
          clear hlw8
          rcases t with _ | _
          · skip
            go_wp2_with fail
            refine (sameInts_any _ _ _ _ _ _ _ _ _ _ _ HI6.out HI3.out).mono ?_
            rintro e w10 ⟨rfl, q10, hw10⟩
            rw [sameB_self]
            replace HI1 := Lib.hid (ints_same HI1.out hw10)
            replace HI2 := Lib.hid (ints_same HI2.out hw10)
            replace HI3 := Lib.hid (ints_same HI3.out hw10)
            replace HI4 := Lib.hid (ints_same HI4.out hw10)
            replace HI6 := Lib.hid (ints_same HI6.out hw10)
            replace HB9 := Lib.hid (below_same HB9.out hw10)
            clear hw10
            go_wp2
            go_ret
            exact ⟨rfl, HB9.out⟩
          · have hlw9 := HLOW9.out rfl
            obtain ⟨-, hp9, hu9, hv9, -⟩ := id hlw9
            replace HLOW9 := Lib.hid hlw9
            clear hlw9
            by_cases hd : 20000 < d
            · have kd : (20000 : Int) < (d : Int) := by omega
              go_wp2_with fail
              refine (sameInts_any _ _ _ _ _ _ _ _ _ _ _ HI6.out HI3.out).mono ?_
              rintro e w10 ⟨rfl, q10, hw10⟩
              rw [sameB_self]
              replace HI1 := Lib.hid (ints_same HI1.out hw10)
              replace HI2 := Lib.hid (ints_same HI2.out hw10)
              replace HI3 := Lib.hid (ints_same HI3.out hw10)
              replace HI4 := Lib.hid (ints_same HI4.out hw10)
              replace HI6 := Lib.hid (ints_same HI6.out hw10)
              replace HB9 := Lib.hid (below_same HB9.out hw10)
              clear hw10
              go_wp2
              go_ret
              exact ⟨rfl, HB9.out⟩
            · have kd : (d : Int) ≤ 20000 := by omega
              by_cases hf : 20000 < f
              · have kf : (20000 : Int) < (f : Int) := by omega
                go_wp2_with fail
                refine (sameInts_any _ _ _ _ _ _ _ _ _ _ _ HI6.out HI3.out).mono ?_
                rintro e w10 ⟨rfl, q10, hw10⟩
                rw [sameB_self]
                replace HI1 := Lib.hid (ints_same HI1.out hw10)
                replace HI2 := Lib.hid (ints_same HI2.out hw10)
                replace HI3 := Lib.hid (ints_same HI3.out hw10)
                replace HI4 := Lib.hid (ints_same HI4.out hw10)
                replace HI6 := Lib.hid (ints_same HI6.out hw10)
                replace HB9 := Lib.hid (below_same HB9.out hw10)
                clear hw10
                go_wp2
                go_ret
                exact ⟨rfl, HB9.out⟩
              · have kf : (f : Int) ≤ 20000 := by omega
                by_cases hh : 20000 < h
                · have kh : (20000 : Int) < (h : Int) := by omega
                  go_wp2_with fail
                  refine (sameInts_any _ _ _ _ _ _ _ _ _ _ _ HI6.out HI3.out).mono ?_
                  rintro e w10 ⟨rfl, q10, hw10⟩
                  rw [sameB_self]
                  replace HI1 := Lib.hid (ints_same HI1.out hw10)
                  replace HI2 := Lib.hid (ints_same HI2.out hw10)
                  replace HI3 := Lib.hid (ints_same HI3.out hw10)
                  replace HI4 := Lib.hid (ints_same HI4.out hw10)
                  replace HI6 := Lib.hid (ints_same HI6.out hw10)
                  replace HB9 := Lib.hid (below_same HB9.out hw10)
                  clear hw10
                  go_wp2
                  go_ret
                  exact ⟨rfl, HB9.out⟩
                · have kh : (h : Int) ≤ 20000 := by omega
                  have heq := join_law HOK.out HLOW7.out HLOW8.out HLOW9.out
                  have hbe : (((c : Int) * (f : Int) + (e' : Int) * (d : Int)) * (h : Int) == (g : Int) * (d : Int) * (f : Int)) = true := by simp only [heq, beq_self_eq_true]
                  have i1 := mul_in (show (0 : Int) ≤ (c : Int) by omega) (show (c : Int) ≤ 1000000000 by omega) (show (0 : Int) ≤ (f : Int) by omega) kf
                  have i2 := mul_in (show (0 : Int) ≤ (e' : Int) by omega) (show (e' : Int) ≤ 1000000000 by omega) (show (0 : Int) ≤ (d : Int) by omega) kd
                  have i3 := mul_in (show (0 : Int) ≤ (c : Int) * (f : Int) + (e' : Int) * (d : Int) by omega) (show (c : Int) * (f : Int) + (e' : Int) * (d : Int) ≤ 40000000000000 by omega) (show (0 : Int) ≤ (h : Int) by omega) kh
                  have i4 := mul_in (show (0 : Int) ≤ (g : Int) by omega) (show (g : Int) ≤ 1000000000 by omega) (show (0 : Int) ≤ (d : Int) by omega) kd
                  have i5 := mul_in (show (0 : Int) ≤ (g : Int) * (d : Int) by omega) (show (g : Int) * (d : Int) ≤ 20000000000000 by omega) (show (0 : Int) ≤ (f : Int) by omega) kf
                  have z1 : IntKind.i64.wrap ((c : Int) * (f : Int)) = (c : Int) * (f : Int) := IntWalk.i64_in _ (by omega)
                  have z2 : IntKind.i64.wrap ((e' : Int) * (d : Int)) = (e' : Int) * (d : Int) := IntWalk.i64_in _ (by omega)
                  have z3 : IntKind.i64.wrap ((c : Int) * (f : Int) + (e' : Int) * (d : Int)) = (c : Int) * (f : Int) + (e' : Int) * (d : Int) := IntWalk.i64_in _ (by omega)
                  have z4 : IntKind.i64.wrap (((c : Int) * (f : Int) + (e' : Int) * (d : Int)) * (h : Int)) = ((c : Int) * (f : Int) + (e' : Int) * (d : Int)) * (h : Int) := IntWalk.i64_in _ (by omega)
                  have z5 : IntKind.i64.wrap ((g : Int) * (d : Int)) = (g : Int) * (d : Int) := IntWalk.i64_in _ (by omega)
                  have z6 : IntKind.i64.wrap ((g : Int) * (d : Int) * (f : Int)) = (g : Int) * (d : Int) * (f : Int) := IntWalk.i64_in _ (by omega)
                  clear i1 i2 i3 i4 i5 heq
                  go_wp2_with fail
                  refine (sameInts_any _ _ _ _ _ _ _ _ _ _ _ HI6.out HI3.out).mono ?_
                  rintro e w10 ⟨rfl, q10, hw10⟩
                  rw [sameB_self]
                  replace HI1 := Lib.hid (ints_same HI1.out hw10)
                  replace HI2 := Lib.hid (ints_same HI2.out hw10)
                  replace HI3 := Lib.hid (ints_same HI3.out hw10)
                  replace HI4 := Lib.hid (ints_same HI4.out hw10)
                  replace HI6 := Lib.hid (ints_same HI6.out hw10)
                  replace HB9 := Lib.hid (below_same HB9.out hw10)
                  clear hw10
                  go_wp2
                  go_ret
                  exact ⟨rfl, HB9.out⟩
end Go.Proofs.Ytnljemgglmokjaa.fnUnitsJoin
