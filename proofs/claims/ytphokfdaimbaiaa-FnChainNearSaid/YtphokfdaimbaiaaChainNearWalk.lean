/-
  FnChainNear returns true for every code: near fractions are in lowest terms.
-/
import Derived.Test.YtphokfdaimbaiaaGlChain5
namespace Go.Proofs.Ytphokfdaimbaiaa.fnChainNear
open Go.RowKit

set_option maxRecDepth 100000 in
set_option maxHeartbeats 4000000 in
theorem walk (a0 : Option Addr) (len0 cap0 : Nat) (z0 : List Int) (w : World) (w0 : IsRow .u8 w a0 len0 cap0 z0) :
    Calls Try.prog 9 #[.slice a0 len0 cap0] w fun e w' => e = .returned (.bool true) ∧ Below w.heap.size w w' := by
  by_cases hbig : 1048576 < len0
  · clear w0
    go_enter Try.func9, Try.ntmps9
    go_wp2
    go_ret
    exact ⟨rfl, Below.refl _ _⟩
  · have HC := Lib.hid (Bytes.of_row w0)
    clear w0
    go_enter Try.func9, Try.ntmps9
    go_wp2_with fail
    refine (DrawChainNear_any _ _ _ _ HC.out (by omega)).mono ?_
    rintro e w1 ⟨a, b, k, rfl, hk0, hk1, hb1⟩
    have HB1 := Lib.hid hb1
    clear hb1
    rcases hv : nearV a b k with _ | ⟨x, y⟩
    · have HV := Lib.hid hv
      clear hv
      go_wp2_with fail
      refine (ChainNear_none HV.out _).mono ?_
      rintro e w2 ⟨rfl, hb2⟩
      have HB2 := Lib.hid (below_chain HB1.out hb2)
      clear hb2
      go_wp2_with fail
      refine (specChainNear_none HV.out _).mono ?_
      rintro e w3 ⟨rfl, hb3⟩
      have HB3 := Lib.hid (below_chain HB2.out hb3)
      clear hb3
      go_wp2
      go_ret
      exact ⟨rfl, HB3.out⟩
    · have HV := Lib.hid hv
      obtain ⟨hoc, k0, kl, hbv⟩ := near_facts' hv
      clear hv
      obtain ⟨-, -, x0, x1, y0, y1, hok, hcom, -⟩ := back_facts hbv
      clear hbv
      have hcc := fun w => ChainOf_any a b w
      rw [hoc] at hcc
      have hcm : comL x y = 1 := by rw [comL, hok, if_pos rfl]; exact hcom
      have hcg : comL a b = Gl.com a b := by rw [comL, hoc, if_pos rfl]
      have hlen : (Gl.ch a b).length ≤ 61 := ch_short hoc
      clear hok hcom hoc
      have HCC := Lib.hid hcc
      have HCM := Lib.hid hcm
      have HCG := Lib.hid hcg
      clear hcc hcm hcg
      obtain ⟨m, hm⟩ : ∃ m, (Gl.ch a b).length = m := ⟨_, rfl⟩
      rw [hm] at hlen kl
      obtain ⟨j, rfl⟩ := Int.eq_ofNat_of_zero_le k0
      clear k0
      have hj : j ≤ m := by omega
      clear kl hk0 hk1
      by_cases hjm : j = m
      · subst hjm
        have he := HV.out
        rw [← hm] at he
        obtain ⟨hg0, hga, hgb⟩ := near_end he
        clear he
        have HN : Hid (nearV a b ((j : Int) + 1) = none) := Lib.hid (near_over (by omega))
        have hda := near_div hg0 hga
        have hdb := near_div hg0 hgb
        have hne : (Gl.com a b == 0) = false := by simp; omega
        clear hga hgb
        obtain ⟨gg, hgg⟩ : ∃ gg, Gl.com a b = gg := ⟨_, rfl⟩
        rw [hgg] at hda hdb hne hg0 HCG
        clear hgg
        have hwx : IntKind.i64.wrap x = x := IntWalk.i64_in _ (by omega)
        have hwy : IntKind.i64.wrap y = y := IntWalk.i64_in _ (by omega)
        have HM := Lib.hid hm
        clear hm
        go_wp2_with fail
        refine (ChainNear_some HV.out _).mono ?_
        rintro e w2 ⟨rfl, hb2⟩
        have HB2 := Lib.hid (below_chain HB1.out hb2)
        clear hb2
        go_wp2_with fail
        refine (specChainNear_some HV.out _).mono ?_
        rintro e w3 ⟨rfl, hb3⟩
        have HB3 := Lib.hid (below_chain HB2.out hb3)
        clear hb3
        go_wp2_with fail
        refine (HCC.out _).mono ?_
        rintro e w4 ⟨⟨A4, n4, c4, rfl, ho4⟩, hb4⟩
        simp only [if_true] at ho4
        have HB4 := Lib.hid (below_chain HB3.out hb4)
        clear hb4
        have HI4 := Lib.hid ho4.ints
        clear ho4
        have hn4 := HI4.out.len
        obtain rfl : j = n4 := by have := HM.out; omega
        clear hn4
        go_wp2_with fail
        refine (ChainNear_none HN.out _).mono ?_
        rintro e w5 ⟨rfl, hb5⟩
        replace HI4 := Lib.hid (HI4.out.next hb5)
        have HB5 := Lib.hid (below_chain HB4.out hb5)
        clear hb5
        go_wp2_with fail
        refine (ChainCommon_is HCM.out _).mono ?_
        rintro e w6 ⟨rfl, hb6⟩
        replace HI4 := Lib.hid (HI4.out.next hb6)
        have HB6 := Lib.hid (below_chain HB5.out hb6)
        clear hb6
        go_wp2_with fail
        refine (ChainCommon_is HCG.out _).mono ?_
        rintro e w7 ⟨rfl, hb7⟩
        replace HI4 := Lib.hid (HI4.out.next hb7)
        have HB7 := Lib.hid (below_chain HB6.out hb7)
        clear hb7
        go_wp2
        go_ret
        exact ⟨rfl, HB7.out⟩
      · rcases hv2 : nearV a b ((j : Int) + 1) with _ | ⟨x2, y2⟩
        · have HN := Lib.hid hv2
          clear hv2
          have HM := Lib.hid hm
          clear hm
          go_wp2_with fail
          refine (ChainNear_some HV.out _).mono ?_
          rintro e w2 ⟨rfl, hb2⟩
          have HB2 := Lib.hid (below_chain HB1.out hb2)
          clear hb2
          go_wp2_with fail
          refine (specChainNear_some HV.out _).mono ?_
          rintro e w3 ⟨rfl, hb3⟩
          have HB3 := Lib.hid (below_chain HB2.out hb3)
          clear hb3
          go_wp2_with fail
          refine (HCC.out _).mono ?_
          rintro e w4 ⟨⟨A4, n4, c4, rfl, ho4⟩, hb4⟩
          simp only [if_true] at ho4
          have HB4 := Lib.hid (below_chain HB3.out hb4)
          clear hb4
          have HI4 := Lib.hid ho4.ints
          clear ho4
          have hn4 := HI4.out.len
          obtain rfl : m = n4 := by have := HM.out; omega
          clear hn4
          go_wp2_with fail
          refine (ChainNear_none HN.out _).mono ?_
          rintro e w5 ⟨rfl, hb5⟩
          replace HI4 := Lib.hid (HI4.out.next hb5)
          have HB5 := Lib.hid (below_chain HB4.out hb5)
          clear hb5
          go_wp2_with fail
          refine (ChainCommon_is HCM.out _).mono ?_
          rintro e w6 ⟨rfl, hb6⟩
          replace HI4 := Lib.hid (HI4.out.next hb6)
          have HB6 := Lib.hid (below_chain HB5.out hb6)
          clear hb6
          go_wp2_with fail
          refine (ChainCommon_is HCG.out _).mono ?_
          rintro e w7 ⟨rfl, hb7⟩
          replace HI4 := Lib.hid (HI4.out.next hb7)
          have HB7 := Lib.hid (below_chain HB6.out hb7)
          clear hb7
          go_wp2
          go_ret
          exact ⟨rfl, HB7.out⟩
        · have HN := Lib.hid hv2
          have hd := near_next HV.out hv2
          obtain ⟨-, -, -, hbv2⟩ := near_facts' hv2
          obtain ⟨-, -, u0, u1, z0', z1', -⟩ := back_facts hbv2
          clear hbv2
          obtain ⟨p0, p1⟩ := mul_in x0 x1 z0' z1'
          obtain ⟨r0, r1⟩ := mul_in y0 y1 u0 u1
          clear hv2
          have HM := Lib.hid hm
          clear hm
          go_wp2_with fail
          refine (ChainNear_some HV.out _).mono ?_
          rintro e w2 ⟨rfl, hb2⟩
          have HB2 := Lib.hid (below_chain HB1.out hb2)
          clear hb2
          go_wp2_with fail
          refine (specChainNear_some HV.out _).mono ?_
          rintro e w3 ⟨rfl, hb3⟩
          have HB3 := Lib.hid (below_chain HB2.out hb3)
          clear hb3
          go_wp2_with fail
          refine (HCC.out _).mono ?_
          rintro e w4 ⟨⟨A4, n4, c4, rfl, ho4⟩, hb4⟩
          simp only [if_true] at ho4
          have HB4 := Lib.hid (below_chain HB3.out hb4)
          clear hb4
          have HI4 := Lib.hid ho4.ints
          clear ho4
          have hn4 := HI4.out.len
          obtain rfl : m = n4 := by have := HM.out; omega
          clear hn4
          go_wp2_with fail
          refine (ChainNear_some HN.out _).mono ?_
          rintro e w5 ⟨rfl, hb5⟩
          replace HI4 := Lib.hid (HI4.out.next hb5)
          have HB5 := Lib.hid (below_chain HB4.out hb5)
          clear hb5
          go_wp2_with fail
          refine (ChainCommon_is HCM.out _).mono ?_
          rintro e w6 ⟨rfl, hb6⟩
          replace HI4 := Lib.hid (HI4.out.next hb6)
          have HB6 := Lib.hid (below_chain HB5.out hb6)
          clear hb6
          go_wp2_with fail
          refine (ChainCommon_is HCG.out _).mono ?_
          rintro e w7 ⟨rfl, hb7⟩
          replace HI4 := Lib.hid (HI4.out.next hb7)
          have HB7 := Lib.hid (below_chain HB6.out hb7)
          clear hb7
          rcases hd with hd | hd
          · skip
            go_wp2
            go_ret
            exact ⟨rfl, HB7.out⟩
          · skip
            go_wp2
            go_ret
            exact ⟨rfl, HB7.out⟩
end Go.Proofs.Ytphokfdaimbaiaa.fnChainNear
