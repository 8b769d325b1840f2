/-
  FnExactUnitsJoin returns true for every input: the program's answer is the reference's, the argument stays, and what comes back is shared with nothing.
-/
import Derived.Test.YtnljemgglmokjaaExactKit
import Derived.Test.YtnljemgglmokjaaUnSpec4
namespace Go.Proofs.Ytnljemgglmokjaa.fnExactUnitsJoin
open Go.RowKit

set_option maxRecDepth 100000 in
set_option maxHeartbeats 2000000 in
theorem walk (a0 : Option Addr) (len0 cap0 : Nat) (z0 : List Int) (a1 : Option Addr) (len1 cap1 : Nat) (z1 : List Int) (w : World) (w0 : IsRow .i64 w a0 len0 cap0 z0) (w1 : IsRow .i64 w a1 len1 cap1 z1) :
    Calls Try.prog 3 #[.slice a0 len0 cap0, .slice a1 len1 cap1] w fun e w' => e = .returned (.bool true) ∧ Below w.heap.size w w' := by
  by_cases hbig : 1048576 < len0 ∨ 1048576 < len1
  · clear w0 w1
    by_cases hb1 : 1048576 < len0
    · go_enter Try.func3, Try.ntmps3
      go_wp2
      go_ret
      exact ⟨rfl, Below.refl _ _⟩
    · have hb2 : 1048576 < len1 := by omega
      go_enter Try.func3, Try.ntmps3
      go_wp2
      go_ret
      exact ⟨rfl, Below.refl _ _⟩
  · have hx0 := Ints.of_row w0 (by omega)
    have hx1 := Ints.of_row w1 (by omega)
    generalize z0.take len0 = xs0 at hx0
    have hbn0 : len0 ≤ 1048576 := by omega
    generalize z1.take len1 = xs1 at hx1
    have hbn1 : len1 ≤ 1048576 := by omega
    have HX0 := Lib.hid hx0
    have HX1 := Lib.hid hx1
    clear hbig hx0 w0 hx1 w1
    generalize hokd : (okJ xs0 xs1) = ok
    generalize hltd : (Un.insAll xs0 xs1) = lst
    have HOK := Lib.hid hokd
    have HLT := Lib.hid hltd
    clear hokd hltd
    rcases ok with _ | _
    all_goals
      go_enter Try.func3, Try.ntmps3
      go_wp2_with fail
      refine (toIntS_any _ _ _ xs0 _ HX0.out).mono ?_
      rintro e w1 ⟨⟨A1, c1, rfl, ho1⟩, hb1⟩
      have hn1 := ho1.bound
      clear hn1
      replace ho1 := ho1.mono (Nat.le_refl _)
      have HO1 := Lib.hid ho1
      have HB1 := Lib.hid hb1
      clear ho1 hb1
      go_wp2_with fail
      refine (toIntS_any _ _ _ xs1 _ (HX1.out.next HB1.out)).mono ?_
      rintro e w2 ⟨⟨A2, c2, rfl, ho2⟩, hb2⟩
      have hn2 := ho2.bound
      clear hn2
      have AP1_2 := Lib.hid (HO1.out.apart ho2)
      have AP2_1 := Lib.hid (HO1.out.apart' ho2)
      replace ho2 := ho2.mono HB1.out.size
      have HO2 := Lib.hid ho2
      replace HO1 := Lib.hid (HO1.out.next hb2)
      have HB2 := Lib.hid (below_chain HB1.out hb2)
      clear ho2 hb2
      go_wp2_with fail
      have hcall := specUnitsJoin_x A1 A2 len0 c1 len1 c2 xs0 xs1  _ HO1.out.ints HO2.out.ints
      rw [HOK.out, HLT.out] at hcall
      refine hcall.mono ?_
      clear hcall
      rintro e w3 ⟨⟨A3, n3, c3, rfl, ho3⟩, hb3⟩
      have hn3 := ho3.bound
      have AP1_3 := Lib.hid (HO1.out.apart ho3)
      have AP3_1 := Lib.hid (HO1.out.apart' ho3)
      have AP2_3 := Lib.hid (HO2.out.apart ho3)
      have AP3_2 := Lib.hid (HO2.out.apart' ho3)
      replace ho3 := ho3.mono HB2.out.size
      have HO3 := Lib.hid ho3
      replace HO1 := Lib.hid (HO1.out.next hb3)
      replace HO2 := Lib.hid (HO2.out.next hb3)
      have HB3 := Lib.hid (below_chain HB2.out hb3)
      clear ho3 hb3
      clear HO1
      clear HO2
      go_wp2_with fail
      refine (toIntS_any _ _ _ xs0 _ (HX0.out.next HB3.out)).mono ?_
      rintro e w4 ⟨⟨A4, c4, rfl, ho4⟩, hb4⟩
      have hn4 := ho4.bound
      clear hn4
      have AP3_4 := Lib.hid (HO3.out.apart ho4)
      have AP4_3 := Lib.hid (HO3.out.apart' ho4)
      replace ho4 := ho4.mono HB3.out.size
      have HO4 := Lib.hid ho4
      replace HO3 := Lib.hid (HO3.out.next hb4)
      have HB4 := Lib.hid (below_chain HB3.out hb4)
      clear ho4 hb4
      go_wp2_with fail
      refine (toIntS_any _ _ _ xs1 _ (HX1.out.next HB4.out)).mono ?_
      rintro e w5 ⟨⟨A5, c5, rfl, ho5⟩, hb5⟩
      have hn5 := ho5.bound
      clear hn5
      have AP3_5 := Lib.hid (HO3.out.apart ho5)
      have AP5_3 := Lib.hid (HO3.out.apart' ho5)
      have AP4_5 := Lib.hid (HO4.out.apart ho5)
      have AP5_4 := Lib.hid (HO4.out.apart' ho5)
      replace ho5 := ho5.mono HB4.out.size
      have HO5 := Lib.hid ho5
      replace HO3 := Lib.hid (HO3.out.next hb5)
      replace HO4 := Lib.hid (HO4.out.next hb5)
      have HB5 := Lib.hid (below_chain HB4.out hb5)
      clear ho5 hb5
      go_wp2_with fail
      have hcall := UnitsJoin_x A4 A5 len0 c4 len1 c5 xs0 xs1  _ HO4.out.ints HO5.out.ints
      rw [HOK.out, HLT.out] at hcall
      refine hcall.mono ?_
      clear hcall
      rintro e w6 ⟨⟨A6, n6, c6, rfl, ho6⟩, hb6⟩
      have hn6 := ho6.bound
      have AP3_6 := Lib.hid (HO3.out.apart ho6)
      have AP6_3 := Lib.hid (HO3.out.apart' ho6)
      have AP4_6 := Lib.hid (HO4.out.apart ho6)
      have AP6_4 := Lib.hid (HO4.out.apart' ho6)
      have AP5_6 := Lib.hid (HO5.out.apart ho6)
      have AP6_5 := Lib.hid (HO5.out.apart' ho6)
      replace ho6 := ho6.mono HB5.out.size
      have HO6 := Lib.hid ho6
      replace HO3 := Lib.hid (HO3.out.next hb6)
      replace HO4 := Lib.hid (HO4.out.next hb6)
      replace HO5 := Lib.hid (HO5.out.next hb6)
      have HB6 := Lib.hid (below_chain HB5.out hb6)
      clear ho6 hb6
      go_wp2_with fail
      refine (eqIntS_any _ _ _ _ _ _ _ _ _ _ _ HO6.out.ints HO3.out.ints).mono ?_
      rintro e v7 ⟨rfl, q7, rfl⟩
      rw [sameB_self]
      replace HO3 := Lib.hid (HO3.out.drewN q7)
      replace HO4 := Lib.hid (HO4.out.drewN q7)
      replace HO5 := Lib.hid (HO5.out.drewN q7)
      replace HO6 := Lib.hid (HO6.out.drewN q7)
      replace HB6 := Lib.hid (below_drewN HB6.out q7)
      go_wp2_with fail
      refine (toIntS_any _ _ _ xs0 _ (HX0.out.next HB6.out)).mono ?_
      rintro e w8 ⟨⟨A8, c8, rfl, ho8⟩, hb8⟩
      have hn8 := ho8.bound
      clear hn8
      replace ho8 := ho8.mono HB6.out.size
      have HO8 := Lib.hid ho8
      replace HO3 := Lib.hid (HO3.out.next hb8)
      replace HO4 := Lib.hid (HO4.out.next hb8)
      replace HO5 := Lib.hid (HO5.out.next hb8)
      replace HO6 := Lib.hid (HO6.out.next hb8)
      have HB8 := Lib.hid (below_chain HB6.out hb8)
      clear ho8 hb8
      go_wp2_with fail
      refine (eqIntS_any _ _ _ _ _ _ _ _ _ _ _ HO4.out.ints HO8.out.ints).mono ?_
      rintro e v9 ⟨rfl, q9, rfl⟩
      rw [sameB_self]
      replace HO3 := Lib.hid (HO3.out.drewN q9)
      replace HO4 := Lib.hid (HO4.out.drewN q9)
      replace HO5 := Lib.hid (HO5.out.drewN q9)
      replace HO6 := Lib.hid (HO6.out.drewN q9)
      replace HO8 := Lib.hid (HO8.out.drewN q9)
      replace HB8 := Lib.hid (below_drewN HB8.out q9)
      clear HO8
      go_wp2_with fail
      refine (toIntS_any _ _ _ xs1 _ (HX1.out.next HB8.out)).mono ?_
      rintro e w10 ⟨⟨A10, c10, rfl, ho10⟩, hb10⟩
      have hn10 := ho10.bound
      clear hn10
      replace ho10 := ho10.mono HB8.out.size
      have HO10 := Lib.hid ho10
      replace HO3 := Lib.hid (HO3.out.next hb10)
      replace HO4 := Lib.hid (HO4.out.next hb10)
      replace HO5 := Lib.hid (HO5.out.next hb10)
      replace HO6 := Lib.hid (HO6.out.next hb10)
      have HB10 := Lib.hid (below_chain HB8.out hb10)
      clear ho10 hb10
      go_wp2_with fail
      refine (eqIntS_any _ _ _ _ _ _ _ _ _ _ _ HO5.out.ints HO10.out.ints).mono ?_
      rintro e v11 ⟨rfl, q11, rfl⟩
      rw [sameB_self]
      replace HO3 := Lib.hid (HO3.out.drewN q11)
      replace HO4 := Lib.hid (HO4.out.drewN q11)
      replace HO5 := Lib.hid (HO5.out.drewN q11)
      replace HO6 := Lib.hid (HO6.out.drewN q11)
      replace HO10 := Lib.hid (HO10.out.drewN q11)
      replace HB10 := Lib.hid (below_drewN HB10.out q11)
      clear HO10
      go_wp2_with fail
      refine (markIntS_any _ _ _ _ _ _ _ (by omega) (by omega) HO4.out).mono ?_
      rintro e w12 ⟨rfl, ho12, hg12⟩
      have HB12 := Lib.hid (below_step HB10.out hg12 HO4.out HB10.out.size)
      replace HO3 := Lib.hid (HO3.out.kept hg12 AP4_3.out)
      replace HO5 := Lib.hid (HO5.out.kept hg12 AP4_5.out)
      replace HO6 := Lib.hid (HO6.out.kept hg12 AP4_6.out)
      replace HO4 := Lib.hid ho12
      clear ho12 hg12
      go_wp2_with fail
      refine (markIntS_any _ _ _ _ _ _ _ (by omega) (by omega) HO5.out).mono ?_
      rintro e w13 ⟨rfl, ho13, hg13⟩
      have HB13 := Lib.hid (below_step HB12.out hg13 HO5.out HB12.out.size)
      replace HO3 := Lib.hid (HO3.out.kept hg13 AP5_3.out)
      replace HO4 := Lib.hid (HO4.out.kept hg13 AP5_4.out)
      replace HO6 := Lib.hid (HO6.out.kept hg13 AP5_6.out)
      replace HO5 := Lib.hid ho13
      clear ho13 hg13
      go_wp2_with fail
      refine (eqIntS_any _ _ _ _ _ _ _ _ _ _ _ HO6.out.ints HO3.out.ints).mono ?_
      rintro e v14 ⟨rfl, q14, rfl⟩
      rw [sameB_self]
      replace HO3 := Lib.hid (HO3.out.drewN q14)
      replace HO4 := Lib.hid (HO4.out.drewN q14)
      replace HO5 := Lib.hid (HO5.out.drewN q14)
      replace HO6 := Lib.hid (HO6.out.drewN q14)
      replace HB13 := Lib.hid (below_drewN HB13.out q14)
      clear HO4
      clear HO5
      go_wp2_with fail
      refine (markIntS_any _ _ _ _ _ _ _ (by omega) (by omega) HO6.out).mono ?_
      rintro e w15 ⟨rfl, ho15, hg15⟩
      have HB15 := Lib.hid (below_step HB13.out hg15 HO6.out HB13.out.size)
      replace HO3 := Lib.hid (HO3.out.kept hg15 AP6_3.out)
      replace HO6 := Lib.hid ho15
      clear ho15 hg15
      go_wp2_with fail
      refine (heldIntS_any _ _ _ _ _ _ (by omega) (by omega) HO6.out.ints).mono ?_
      rintro e w16 ⟨rfl, rfl⟩
      go_wp2_with fail
      refine (toIntS_any _ _ _ xs0 _ (HX0.out.next HB15.out)).mono ?_
      rintro e w17 ⟨⟨A17, c17, rfl, ho17⟩, hb17⟩
      have hn17 := ho17.bound
      clear hn17
      replace ho17 := ho17.mono HB15.out.size
      have HO17 := Lib.hid ho17
      replace HO3 := Lib.hid (HO3.out.next hb17)
      replace HO6 := Lib.hid (HO6.out.next hb17)
      have HB17 := Lib.hid (below_chain HB15.out hb17)
      clear ho17 hb17
      go_wp2_with fail
      refine (toIntS_any _ _ _ xs1 _ (HX1.out.next HB17.out)).mono ?_
      rintro e w18 ⟨⟨A18, c18, rfl, ho18⟩, hb18⟩
      have hn18 := ho18.bound
      clear hn18
      replace ho18 := ho18.mono HB17.out.size
      have HO18 := Lib.hid ho18
      replace HO3 := Lib.hid (HO3.out.next hb18)
      replace HO6 := Lib.hid (HO6.out.next hb18)
      replace HO17 := Lib.hid (HO17.out.next hb18)
      have HB18 := Lib.hid (below_chain HB17.out hb18)
      clear ho18 hb18
      go_wp2_with fail
      have hcall := UnitsJoin_x A17 A18 len0 c17 len1 c18 xs0 xs1  _ HO17.out.ints HO18.out.ints
      rw [HOK.out, HLT.out] at hcall
      refine hcall.mono ?_
      clear hcall
      rintro e w19 ⟨⟨A19, n19, c19, rfl, ho19⟩, hb19⟩
      have hn19 := ho19.bound
      replace ho19 := ho19.mono HB18.out.size
      have HO19 := Lib.hid ho19
      replace HO3 := Lib.hid (HO3.out.next hb19)
      replace HO6 := Lib.hid (HO6.out.next hb19)
      replace HO17 := Lib.hid (HO17.out.next hb19)
      replace HO18 := Lib.hid (HO18.out.next hb19)
      have HB19 := Lib.hid (below_chain HB18.out hb19)
      clear ho19 hb19
      go_wp2_with fail
      refine (eqIntS_any _ _ _ _ _ _ _ _ _ _ _ HO19.out.ints HO3.out.ints).mono ?_
      rintro e v20 ⟨rfl, q20, rfl⟩
      rw [sameB_self]
      replace HO3 := Lib.hid (HO3.out.drewN q20)
      replace HO6 := Lib.hid (HO6.out.drewN q20)
      replace HO17 := Lib.hid (HO17.out.drewN q20)
      replace HO18 := Lib.hid (HO18.out.drewN q20)
      replace HO19 := Lib.hid (HO19.out.drewN q20)
      replace HB19 := Lib.hid (below_drewN HB19.out q20)
      go_wp2_with fail
      refine (heldIntS_any _ _ _ _ _ _ (by omega) (by omega) HO6.out.ints).mono ?_
      rintro e w21 ⟨rfl, rfl⟩
      go_wp2
      go_ret
      exact ⟨rfl, HB19.out⟩
end Go.Proofs.Ytnljemgglmokjaa.fnExactUnitsJoin
