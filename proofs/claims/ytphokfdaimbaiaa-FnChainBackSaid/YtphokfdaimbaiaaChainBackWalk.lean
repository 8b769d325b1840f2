/-
  FnChainBack returns true for every code: a chain leads back.
-/
import Derived.Test.YtphokfdaimbaiaaGlChain4
namespace Go.Proofs.Ytphokfdaimbaiaa.fnChainBack
open Go.RowKit

set_option maxRecDepth 100000 in
set_option maxHeartbeats 4000000 in
theorem walk (a0 : Option Addr) (len0 cap0 : Nat) (z0 : List Int) (w : World) (w0 : IsRow .u8 w a0 len0 cap0 z0) :
    Calls Try.prog 6 #[.slice a0 len0 cap0] w fun e w' => e = .returned (.bool true) ∧ Below w.heap.size w w' := by
  by_cases hbig : 1048576 < len0
  · clear w0
    go_enter Try.func6, Try.ntmps6
    go_wp2
    go_ret
    exact ⟨rfl, Below.refl _ _⟩
  · have HC := Lib.hid (Bytes.of_row w0)
    clear w0
    go_enter Try.func6, Try.ntmps6
    go_wp2_with fail
    refine (DrawChainBack_any _ _ _ _ HC.out (by omega)).mono ?_
    rintro e w1 ⟨A1, n1, c1, xs, rfl, hx1, hn1, hcp1, hb1⟩
    have HB1 := Lib.hid hb1
    clear hb1
    have HI1 := Lib.hid hx1
    have hl1 := hx1.len
    clear hx1
    rcases hv : backV xs with _ | ⟨x, y⟩
    · have HV := Lib.hid hv
      clear hv
      have HL1 := Lib.hid hl1
      clear hl1
      go_wp2_with fail
      refine (ChainBack_none HI1.out HV.out).mono ?_
      rintro e w2 ⟨rfl, hb2⟩
      replace HI1 := Lib.hid (HI1.out.next hb2)
      have HB2 := Lib.hid (below_chain HB1.out hb2)
      clear hb2
      go_wp2_with fail
      refine (specChainBack_none HI1.out HV.out).mono ?_
      rintro e w' ⟨rfl, rfl⟩
      go_wp2
      go_ret
      exact ⟨rfl, HB2.out⟩
    · have HV := Lib.hid hv
      obtain ⟨hgood, -, x0, x1, y0, y1, hok, hcom, -⟩ := back_facts hv
      clear hv
      have hcc := fun w => ChainOf_any x y w
      rw [hok] at hcc
      have hcm : comL x y = 1 := by rw [comL, hok, if_pos rfl]; exact hcom
      clear hok hcom
      have HGOOD := Lib.hid hgood
      have HCC := Lib.hid hcc
      have HCM := Lib.hid hcm
      clear hgood hcc hcm
      by_cases hlast : 1 < n1 ∧ xs[n1 - 1]? = some 1
      · obtain ⟨hn2, hl2⟩ := hlast
        obtain ⟨q, l, hxs, hll⟩ := two_last hl1 hn2 hl2
        obtain ⟨q0, q1⟩ := back_mid HV.out hxs
        have HSB : Hid (backV (l ++ [q + 1]) = some (x, y)) := Lib.hid (short_back (by rw [← hxs]; exact HV.out))
        obtain ⟨k, rfl⟩ : ∃ k, n1 = k + 2 := ⟨n1 - 2, by omega⟩
        replace hll : l.length = k := by omega
        have htk : xs.take (k + 1) = l ++ [q] := by rw [hxs]; exact take_mid hll
        rw [show k + 2 - 1 = k + 1 from rfl] at hl2
        have HL1 := Lib.hid hl1
        have HL2 := Lib.hid hl2
        have HXS := Lib.hid hxs
        have HLL := Lib.hid hll
        have HTK := Lib.hid htk
        clear hl1 hl2 hxs hll htk
        go_wp2_with fail
        refine (ChainBack_some HI1.out HV.out).mono ?_
        rintro e w2 ⟨rfl, hb2⟩
        replace HI1 := Lib.hid (HI1.out.next hb2)
        have HB2 := Lib.hid (below_chain HB1.out hb2)
        clear hb2
        go_wp2_with fail
        refine (specChainBack_some HI1.out HV.out).mono ?_
        rintro e w' ⟨rfl, rfl⟩
        go_wp2_with fail
        refine (HCC.out _).mono ?_
        rintro e w3 ⟨⟨A3, n3, c3, rfl, ho3⟩, hb3⟩
        simp only [if_true] at ho3
        replace HI1 := Lib.hid (HI1.out.next hb3)
        have HB3 := Lib.hid (below_chain HB2.out hb3)
        clear hb3
        have HI3 := Lib.hid ho3.ints
        clear ho3
        go_wp2_with fail
        refine (ChainCommon_is HCM.out _).mono ?_
        rintro e w4 ⟨rfl, hb4⟩
        replace HI1 := Lib.hid (HI1.out.next hb4)
        replace HI3 := Lib.hid (HI3.out.next hb4)
        have HB4 := Lib.hid (below_chain HB3.out hb4)
        clear hb4
        obtain ⟨b8, o8, hA8, hb8, hc8⟩ := HI1.out.addr (by omega)
        subst hA8
        have hlast8 := hc8 (k + 1) 1 HL2.out
        clear hc8
        have hk1 : ((k + 2 : Nat) : Int) - 1 = ((k + 1 : Nat) : Int) := by omega
        have hk2 : ((k + 2 : Nat) : Int) - 2 = (k : Int) := by omega
        have HT := Lib.hid (HI1.out.take (show k + 1 ≤ k + 2 by omega))
        rw [HTK.out] at HT
        have hz : 0 + (k + 2 - 1) = k + 1 := by omega
        have HZ := Lib.hid hz
        clear hz
        go_wp2_with (at_builtin; refine wpList_app_ints rfl _ _ rfl rfl (lit_nil _) rfl (HT.out.alloc (Nat.le_refl _) _) (by omega) (by simp) ?_; intro A9 c9 w9 hown9 hg9; rw [HZ.out] at hown9; rw [List.nil_append] at hown9; try rw [HZ.out]; obtain ⟨g9, rfl, hg9b, hl9, hc9, hf9⟩ := hown9.at_ (by omega); have hcq := hc9 k q (get_mid HLL.out); have hfq := hf9 k; have HO9 := Lib.hid hown9; have HG9 := Lib.hid hg9; have HSZ9 := Lib.hid hg9.size; clear hc9 hf9 hown9 hg9)
        have HB9 := Lib.hid ((HB4.out.alloc HB4.out.size _).grown HG9.out (by have := HB4.out.size; simp; omega) fun j hj => by have := ((lit_nil w4).blk j hj).1; have := HB4.out.size; omega)
        have HS := HO9.out.store k (q + 1)
        rw [set_mid HLL.out] at HS
        have HSI := Lib.hid HS.1.ints
        have HSB2 := Lib.hid (HB9.out.grown HS.2 (by have := HB9.out.size; omega) (by rintro j ⟨⟩; have := HB4.out.size; omega))
        clear HS
        refine (ChainBack_some HSI.out HSB.out).mono ?_
        rintro e w10 ⟨rfl, hb10⟩
        have HB10 := Lib.hid (below_chain HSB2.out hb10)
        clear hb10
        go_wp2
        go_ret
        exact ⟨rfl, HB10.out⟩
      · have HCB := Lib.hid (chain_back HV.out (last_not hl1 hlast))
        have hcase : n1 ≤ 1 ∨ ∃ u, 1 < n1 ∧ xs[n1 - 1]? = some u ∧ u ≠ 1 := last_case hl1 hlast
        clear hlast
        go_wp2_with fail
        refine (ChainBack_some HI1.out HV.out).mono ?_
        rintro e w2 ⟨rfl, hb2⟩
        replace HI1 := Lib.hid (HI1.out.next hb2)
        have HB2 := Lib.hid (below_chain HB1.out hb2)
        clear hb2
        go_wp2_with fail
        refine (specChainBack_some HI1.out HV.out).mono ?_
        rintro e w' ⟨rfl, rfl⟩
        go_wp2_with fail
        refine (HCC.out _).mono ?_
        rintro e w3 ⟨⟨A3, n3, c3, rfl, ho3⟩, hb3⟩
        simp only [if_true] at ho3
        replace HI1 := Lib.hid (HI1.out.next hb3)
        have HB3 := Lib.hid (below_chain HB2.out hb3)
        clear hb3
        have HI3 := Lib.hid ho3.ints
        clear ho3
        rw [HCB.out] at HI3
        go_wp2_with fail
        refine (ChainCommon_is HCM.out _).mono ?_
        rintro e w4 ⟨rfl, hb4⟩
        replace HI1 := Lib.hid (HI1.out.next hb4)
        replace HI3 := Lib.hid (HI3.out.next hb4)
        have HB4 := Lib.hid (below_chain HB3.out hb4)
        clear hb4
        rcases hcase with hn | ⟨u, hn, hu, hu1⟩
        · skip
          go_wp2_with fail
          refine (sameInts_any _ _ _ _ _ _ _ _ _ _ _ HI3.out HI1.out).mono ?_
          rintro e w5 ⟨rfl, q5, hw5⟩
          rw [sameB_self]
          replace HI1 := Lib.hid (ints_same HI1.out hw5)
          replace HI3 := Lib.hid (ints_same HI3.out hw5)
          replace HB4 := Lib.hid (below_same HB4.out hw5)
          clear hw5
          go_wp2
          go_ret
          exact ⟨rfl, HB4.out⟩
        · obtain ⟨k, rfl⟩ : ∃ k, n1 = k + 1 := ⟨n1 - 1, by omega⟩
          obtain ⟨b8, o8, hA8, hb8, hc8⟩ := HI1.out.addr (by omega)
          subst hA8
          have hlast8 := hc8 k u hu
          clear hc8 hu
          have hk1 : ((k + 1 : Nat) : Int) - 1 = (k : Int) := by omega
          have hue : (u == 1) = false := by simpa using hu1
          clear hu1
          go_wp2_with fail
          refine (sameInts_any _ _ _ _ _ _ _ _ _ _ _ HI3.out HI1.out).mono ?_
          rintro e w5 ⟨rfl, q5, hw5⟩
          rw [sameB_self]
          replace HI1 := Lib.hid (ints_same HI1.out hw5)
          replace HI3 := Lib.hid (ints_same HI3.out hw5)
          replace HB4 := Lib.hid (below_same HB4.out hw5)
          clear hw5
          go_wp2
          go_ret
          exact ⟨rfl, HB4.out⟩
end Go.Proofs.Ytphokfdaimbaiaa.fnChainBack
