/-
  FnExactUnitsSplit returns true for every input: the program's answer is the reference's, the argument stays, and what comes back is shared with nothing.
-/
import Derived.Test.YtnljemgglmokjaaExactKit
import Derived.Test.YtnljemgglmokjaaUnSpec3
namespace Go.Proofs.Ytnljemgglmokjaa.fnExactUnitsSplit
open Go.RowKit

set_option maxRecDepth 100000 in
set_option maxHeartbeats 2000000 in
theorem walk (a0 : Option Addr) (len0 cap0 : Nat) (z0 : List Int) (a1 : Int) (w : World) (w0 : IsRow .i64 w a0 len0 cap0 z0) (_w1 : (Lit.int .i64 a1).wf = true) :
    Calls Try.prog 4 #[.slice a0 len0 cap0, .int .i64 a1] w fun e w' => e = .returned (.bool true) ∧ Below w.heap.size w w' := by
  by_cases hbig : 1048576 < len0
  · clear w0
    go_enter Try.func4, Try.ntmps4
    go_wp2
    go_ret
    exact ⟨rfl, Below.refl _ _⟩
  · have hx0 := Ints.of_row w0 (by omega)
    generalize z0.take len0 = xs0 at hx0
    have hbn0 : len0 ≤ 1048576 := by omega
    have HX0 := Lib.hid hx0
    clear hbig hx0 w0
    generalize hokd : (okSp xs0 a1) = ok
    generalize hltd : (splitL xs0 a1) = lst
    have HOK := Lib.hid hokd
    have HLT := Lib.hid hltd
    clear hokd hltd
    rcases ok with _ | _
    all_goals
      go_enter Try.func4, Try.ntmps4
      go_wp2_with fail
      refine (toIntS_any _ _ _ xs0 _ HX0.out).mono ?_
      rintro e w1 ⟨⟨A1, c1, rfl, ho1⟩, hb1⟩
      have hn1 := ho1.bound
      clear hn1
      replace ho1 := ho1.mono (Nat.le_refl _)
      have HO1 := Lib.hid ho1
      have HB1 := Lib.hid hb1
      clear ho1 hb1
      go_wp2_with fail
      have hcall := specUnitsSplit_any A1 len0 c1 xs0 a1 _ HO1.out.ints (own_cap HO1.out)
      rw [HOK.out, HLT.out] at hcall
      refine hcall.mono ?_
      clear hcall
      rintro e w2 ⟨⟨A2, n2, c2, rfl, ho2⟩, hb2⟩
      have hn2 := ho2.bound
      have AP1_2 := Lib.hid (HO1.out.apart ho2)
      have AP2_1 := Lib.hid (HO1.out.apart' ho2)
      replace ho2 := ho2.mono HB1.out.size
      have HO2 := Lib.hid ho2
      replace HO1 := Lib.hid (HO1.out.next hb2)
      have HB2 := Lib.hid (below_chain HB1.out hb2)
      clear ho2 hb2
      clear HO1
      go_wp2_with fail
      refine (toIntS_any _ _ _ xs0 _ (HX0.out.next HB2.out)).mono ?_
      rintro e w3 ⟨⟨A3, c3, rfl, ho3⟩, hb3⟩
      have hn3 := ho3.bound
      clear hn3
      have AP2_3 := Lib.hid (HO2.out.apart ho3)
      have AP3_2 := Lib.hid (HO2.out.apart' ho3)
      replace ho3 := ho3.mono HB2.out.size
      have HO3 := Lib.hid ho3
      replace HO2 := Lib.hid (HO2.out.next hb3)
      have HB3 := Lib.hid (below_chain HB2.out hb3)
      clear ho3 hb3
      go_wp2_with fail
      have hcall := UnitsSplit_any A3 len0 c3 xs0 a1 _ HO3.out.ints
      rw [HOK.out, HLT.out] at hcall
      refine hcall.mono ?_
      clear hcall
      rintro e w4 ⟨⟨A4, n4, c4, rfl, ho4⟩, hb4⟩
      have hn4 := ho4.bound
      have AP2_4 := Lib.hid (HO2.out.apart ho4)
      have AP4_2 := Lib.hid (HO2.out.apart' ho4)
      have AP3_4 := Lib.hid (HO3.out.apart ho4)
      have AP4_3 := Lib.hid (HO3.out.apart' ho4)
      replace ho4 := ho4.mono HB3.out.size
      have HO4 := Lib.hid ho4
      replace HO2 := Lib.hid (HO2.out.next hb4)
      replace HO3 := Lib.hid (HO3.out.next hb4)
      have HB4 := Lib.hid (below_chain HB3.out hb4)
      clear ho4 hb4
      go_wp2_with fail
      refine (eqIntS_any _ _ _ _ _ _ _ _ _ _ _ HO4.out.ints HO2.out.ints).mono ?_
      rintro e v5 ⟨rfl, q5, rfl⟩
      rw [sameB_self]
      replace HO2 := Lib.hid (HO2.out.drewN q5)
      replace HO3 := Lib.hid (HO3.out.drewN q5)
      replace HO4 := Lib.hid (HO4.out.drewN q5)
      replace HB4 := Lib.hid (below_drewN HB4.out q5)
      go_wp2_with fail
      refine (toIntS_any _ _ _ xs0 _ (HX0.out.next HB4.out)).mono ?_
      rintro e w6 ⟨⟨A6, c6, rfl, ho6⟩, hb6⟩
      have hn6 := ho6.bound
      clear hn6
      replace ho6 := ho6.mono HB4.out.size
      have HO6 := Lib.hid ho6
      replace HO2 := Lib.hid (HO2.out.next hb6)
      replace HO3 := Lib.hid (HO3.out.next hb6)
      replace HO4 := Lib.hid (HO4.out.next hb6)
      have HB6 := Lib.hid (below_chain HB4.out hb6)
      clear ho6 hb6
      go_wp2_with fail
      refine (eqIntS_any _ _ _ _ _ _ _ _ _ _ _ HO3.out.ints HO6.out.ints).mono ?_
      rintro e v7 ⟨rfl, q7, rfl⟩
      rw [sameB_self]
      replace HO2 := Lib.hid (HO2.out.drewN q7)
      replace HO3 := Lib.hid (HO3.out.drewN q7)
      replace HO4 := Lib.hid (HO4.out.drewN q7)
      replace HO6 := Lib.hid (HO6.out.drewN q7)
      replace HB6 := Lib.hid (below_drewN HB6.out q7)
      clear HO6
      go_wp2_with fail
      refine (markIntS_any _ _ _ _ _ _ _ (by omega) (by omega) HO3.out).mono ?_
      rintro e w8 ⟨rfl, ho8, hg8⟩
      have HB8 := Lib.hid (below_step HB6.out hg8 HO3.out HB6.out.size)
      replace HO2 := Lib.hid (HO2.out.kept hg8 AP3_2.out)
      replace HO4 := Lib.hid (HO4.out.kept hg8 AP3_4.out)
      replace HO3 := Lib.hid ho8
      clear ho8 hg8
      go_wp2_with fail
      refine (eqIntS_any _ _ _ _ _ _ _ _ _ _ _ HO4.out.ints HO2.out.ints).mono ?_
      rintro e v9 ⟨rfl, q9, rfl⟩
      rw [sameB_self]
      replace HO2 := Lib.hid (HO2.out.drewN q9)
      replace HO3 := Lib.hid (HO3.out.drewN q9)
      replace HO4 := Lib.hid (HO4.out.drewN q9)
      replace HB8 := Lib.hid (below_drewN HB8.out q9)
      clear HO3
      go_wp2_with fail
      refine (markIntS_any _ _ _ _ _ _ _ (by omega) (by omega) HO4.out).mono ?_
      rintro e w10 ⟨rfl, ho10, hg10⟩
      have HB10 := Lib.hid (below_step HB8.out hg10 HO4.out HB8.out.size)
      replace HO2 := Lib.hid (HO2.out.kept hg10 AP4_2.out)
      replace HO4 := Lib.hid ho10
      clear ho10 hg10
      go_wp2_with fail
      refine (heldIntS_any _ _ _ _ _ _ (by omega) (by omega) HO4.out.ints).mono ?_
      rintro e w11 ⟨rfl, rfl⟩
      go_wp2_with fail
      refine (toIntS_any _ _ _ xs0 _ (HX0.out.next HB10.out)).mono ?_
      rintro e w12 ⟨⟨A12, c12, rfl, ho12⟩, hb12⟩
      have hn12 := ho12.bound
      clear hn12
      replace ho12 := ho12.mono HB10.out.size
      have HO12 := Lib.hid ho12
      replace HO2 := Lib.hid (HO2.out.next hb12)
      replace HO4 := Lib.hid (HO4.out.next hb12)
      have HB12 := Lib.hid (below_chain HB10.out hb12)
      clear ho12 hb12
      go_wp2_with fail
      have hcall := UnitsSplit_any A12 len0 c12 xs0 a1 _ HO12.out.ints
      rw [HOK.out, HLT.out] at hcall
      refine hcall.mono ?_
      clear hcall
      rintro e w13 ⟨⟨A13, n13, c13, rfl, ho13⟩, hb13⟩
      have hn13 := ho13.bound
      replace ho13 := ho13.mono HB12.out.size
      have HO13 := Lib.hid ho13
      replace HO2 := Lib.hid (HO2.out.next hb13)
      replace HO4 := Lib.hid (HO4.out.next hb13)
      replace HO12 := Lib.hid (HO12.out.next hb13)
      have HB13 := Lib.hid (below_chain HB12.out hb13)
      clear ho13 hb13
      go_wp2_with fail
      refine (eqIntS_any _ _ _ _ _ _ _ _ _ _ _ HO13.out.ints HO2.out.ints).mono ?_
      rintro e v14 ⟨rfl, q14, rfl⟩
      rw [sameB_self]
      replace HO2 := Lib.hid (HO2.out.drewN q14)
      replace HO4 := Lib.hid (HO4.out.drewN q14)
      replace HO12 := Lib.hid (HO12.out.drewN q14)
      replace HO13 := Lib.hid (HO13.out.drewN q14)
      replace HB13 := Lib.hid (below_drewN HB13.out q14)
      go_wp2_with fail
      refine (heldIntS_any _ _ _ _ _ _ (by omega) (by omega) HO4.out.ints).mono ?_
      rintro e w15 ⟨rfl, rfl⟩
      go_wp2
      go_ret
      exact ⟨rfl, HB13.out⟩
end Go.Proofs.Ytnljemgglmokjaa.fnExactUnitsSplit
