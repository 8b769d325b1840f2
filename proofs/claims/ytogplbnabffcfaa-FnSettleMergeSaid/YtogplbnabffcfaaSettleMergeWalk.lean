/-
  FnSettleMerge returns true for every code: settling does not need merging.
-/
import Derived.Test.YtogplbnabffcfaaSettleWalk
import Derived.Test.YtogplbnabffcfaaTaMerge2
import Derived.Test.YtogplbnabffcfaaTaDraw2
import Derived.Test.YtogplbnabffcfaaTaRef5
namespace Go.Proofs.Ytogplbnabffcfaa.fnSettleMerge
open Go.RowKit
open Go.Proofs.Ytogplbnabffcfaa.fnSettle (small_ok)
set_option linter.unusedSimpArgs false

set_option maxRecDepth 100000 in
set_option maxHeartbeats 8000000 in
theorem walk (a0 : Option Addr) (len0 cap0 : Nat) (z0 : List Int) (w : World) (w0 : IsRow .u8 w a0 len0 cap0 z0) :
    Calls Try.prog 3 #[.slice a0 len0 cap0] w fun e w' => e = .returned (.bool true) ∧ Below w.heap.size w w' := by
  by_cases hbig : 1048576 < len0
  · clear w0
    go_enter Try.func3, Try.ntmps3
    go_wp2
    go_ret
    exact ⟨rfl, Below.refl _ _⟩
  have HC := Lib.hid (Bytes.of_row w0)
  clear w0
  go_enter Try.func3, Try.ntmps3
  go_wp2_with fail
  refine (DrawTalliesSettle_any _ _ _ _ HC.out (by omega)).mono ?_
  rintro e w1 ⟨A1, n1, c1, ts, rfl, hx1, hn1, hsm, hb1⟩
  have HI1 := Lib.hid hx1
  have HB1 := Lib.hid hb1
  have HSM := Lib.hid hsm.small
  clear hx1 hb1 hsm
  go_wp2_with fail
  refine (TalliesSettle_any A1 n1 c1 ts w1 HI1.out HSM.out).mono ?_
  rintro e w2 ⟨⟨out, hok, hset, A2, c2, rfl, ho2⟩ | ⟨hno, rfl⟩, hb2⟩
  rotate_left
  · replace HI1 := Lib.hid (show Tals w2 w2.heap.size A1 n1 ts from Row.next HI1.out hb2)
    have HB2 := Lib.hid (below_chain HB1.out hb2)
    have HNO := Lib.hid hno
    clear hb2 hno
    go_wp2_with fail
    refine (specTalliesSettle_any A1 n1 c1 ts w2 HI1.out HSM.out).mono ?_
    rintro e w3 ⟨⟨out, hok, hset, A3, c3, rfl, ho3⟩ | ⟨hno3, g3, c3, rfl⟩, hb3⟩
    · exfalso
      rcases HNO.out with h | h
      · rw [h] at hok; cases hok
      · rw [h] at hset; cases hset
    have HB3 := Lib.hid (below_chain HB2.out hb3)
    clear hno3 hb3
    go_wp2_with fail
    refine (sameTallies_any none (some ⟨g3, 0, none⟩) 0 0 0 c3 [] [] w3 (Row.nil _ _ _ _) (Row.nil _ _ _ _)).mono ?_
    rintro e w4 ⟨rfl, hb4⟩
    rw [sameT_yes rfl]
    have HB4 := Lib.hid (below_chain HB3.out hb4)
    clear hb4
    go_wp2_with fail
    refine (sameTallies_any none (some ⟨g3, 0, none⟩) 0 0 0 c3 [] [] w4 (Row.nil _ _ _ _) (Row.nil _ _ _ _)).mono ?_
    rintro e w5 ⟨rfl, hb5⟩
    rw [sameT_yes rfl]
    have HB5 := Lib.hid (below_chain HB4.out hb5)
    clear hb5
    go_wp2
    go_ret
    exact ⟨rfl, HB5.out⟩
  replace HI1 := Lib.hid (show Tals w2 w2.heap.size A1 n1 ts from Row.next HI1.out hb2)
  have HB2 := Lib.hid (below_chain HB1.out hb2)
  have HI2 := Lib.hid ho2.tals
  have HOK := Lib.hid (And.intro hok hset)
  have HS := Lib.hid (settled hok hset)
  have hout := (settled hok hset).few
  obtain ⟨us, hus⟩ : ∃ us, out.map payT = us := ⟨_, rfl⟩
  rw [hus] at HI2
  have HUS := Lib.hid hus
  clear hb2 ho2 hok hset hus
  go_wp2_with fail
  refine (specTalliesSettle_any A1 n1 c1 ts w2 HI1.out HSM.out).mono ?_
  rintro e w3 ⟨⟨out3, hok3, hset3, A3, c3, rfl, ho3⟩ | ⟨hno3, g3, c3, rfl⟩, hb3⟩
  rotate_left
  · exfalso
    rcases hno3 with h | h
    · rw [HOK.out.1] at h; cases h
    · rw [HOK.out.2] at h; cases h
  obtain rfl : out = out3 := by have := HOK.out.2; rw [hset3] at this; injection this with this; exact this.symm
  have ht3 := ho3.tals
  rw [HUS.out] at ht3
  have HI3 := Lib.hid ht3
  replace HI1 := Lib.hid (show Tals w3 w3.heap.size A1 n1 ts from Row.next HI1.out hb3)
  replace HI2 := Lib.hid (show Tals w3 w3.heap.size A2 out.length us from Row.next HI2.out hb3)
  have HB3 := Lib.hid (below_chain HB2.out hb3)
  clear hb3 ho3 ht3 hok3 hset3
  go_wp2_with fail
  refine (sameTallies_any A2 A3 out.length out.length c2 c3 us us w3 HI2.out HI3.out).mono ?_
  rintro e w4 ⟨rfl, hb4⟩
  rw [sameT_yes rfl]
  replace HI1 := Lib.hid (show Tals w4 w4.heap.size A1 n1 ts from Row.next HI1.out hb4)
  replace HI2 := Lib.hid (show Tals w4 w4.heap.size A2 out.length us from Row.next HI2.out hb4)
  have HB4 := Lib.hid (below_chain HB3.out hb4)
  clear hb4 HI3
  go_wp2_with fail
  refine (TalliesMerge_any A1 n1 c1 ts w4 HI1.out HSM.out).mono ?_
  rintro e w5 ⟨⟨ms, hok5, hmg, A5, c5, rfl, ho5⟩ | rfl, hb5⟩
  · obtain ⟨hm1, hm2⟩ := merged hok5 hmg
    have hset5 : Ta.settle 5 (bal ((ms.map payT).map debtOf)) = some out := by rw [hm2]; exact HOK.out.2
    replace HI2 := Lib.hid (show Tals w5 w5.heap.size A2 out.length us from Row.next HI2.out hb5)
    have HB5 := Lib.hid (below_chain HB4.out hb5)
    have HI5 := Lib.hid ho5.tals
    have HM := Lib.hid (And.intro hm1 hset5)
    clear hb5 ho5 hm1 hm2 hset5 hmg hok5 HI1
    go_wp2_with fail
    refine (TalliesSettle_any A5 ms.length c5 (ms.map payT) w5 HI5.out (small_ok HM.out.1).small).mono ?_
    rintro e w6 ⟨⟨out6, hok6, hset6, A6, c6, rfl, ho6⟩ | ⟨hno6, rfl⟩, hb6⟩
    rotate_left
    · exfalso
      rcases hno6 with h | h
      · rw [HM.out.1] at h; cases h
      · rw [HM.out.2] at h; cases h
    obtain rfl : out = out6 := by have := HM.out.2; rw [hset6] at this; injection this with this; exact this.symm
    have ht6 := ho6.tals
    rw [HUS.out] at ht6
    have HI6 := Lib.hid ht6
    replace HI2 := Lib.hid (show Tals w6 w6.heap.size A2 out.length us from Row.next HI2.out hb6)
    have HB6 := Lib.hid (below_chain HB5.out hb6)
    clear hb6 ho6 ht6 hok6 hset6 HI5
    go_wp2_with fail
    refine (TalliesSettle_any A2 out.length c2 us w6 HI2.out (by rw [← HUS.out]; exact (small_ok HS.out.ok).small)).mono ?_
    rintro e w7 ⟨⟨out7, hok7, hset7, A7, c7, rfl, ho7⟩ | ⟨hno7, rfl⟩, hb7⟩
    rotate_left
    · exfalso
      have h1 := HS.out.ok
      have h2 := settled_again HOK.out.1 HOK.out.2
      rw [HUS.out] at h1 h2
      rcases hno7 with h | h
      · rw [h1] at h; cases h
      · rw [h2] at h; cases h
    obtain rfl : out = out7 := by
      have h2 := settled_again HOK.out.1 HOK.out.2
      rw [HUS.out, hset7] at h2
      injection h2 with h2
      exact h2.symm
    have ht7 := ho7.tals
    rw [HUS.out] at ht7
    have HI7 := Lib.hid ht7
    replace HI2 := Lib.hid (show Tals w7 w7.heap.size A2 out.length us from Row.next HI2.out hb7)
    replace HI6 := Lib.hid (show Tals w7 w7.heap.size A6 out.length us from Row.next HI6.out hb7)
    have HB7 := Lib.hid (below_chain HB6.out hb7)
    clear hb7 ho7 ht7 hok7 hset7
    go_wp2_with fail
    refine (sameTallies_any A7 A2 out.length out.length c7 c2 us us w7 HI7.out HI2.out).mono ?_
    rintro e w8 ⟨rfl, hb8⟩
    rw [sameT_yes rfl]
    replace HI2 := Lib.hid (show Tals w8 w8.heap.size A2 out.length us from Row.next HI2.out hb8)
    replace HI6 := Lib.hid (show Tals w8 w8.heap.size A6 out.length us from Row.next HI6.out hb8)
    have HB8 := Lib.hid (below_chain HB7.out hb8)
    clear hb8
    go_wp2_with fail
    refine (sameTallies_any A6 A2 out.length out.length c6 c2 us us w8 HI6.out HI2.out).mono ?_
    rintro e w9 ⟨rfl, hb9⟩
    rw [sameT_yes rfl]
    have HB9 := Lib.hid (below_chain HB8.out hb9)
    clear hb9
    go_wp2
    go_ret
    exact ⟨rfl, HB9.out⟩
  · replace HI2 := Lib.hid (show Tals w5 w5.heap.size A2 out.length us from Row.next HI2.out hb5)
    have HB5 := Lib.hid (below_chain HB4.out hb5)
    clear hb5 HI1
    go_wp2_with fail
    refine (TalliesSettle_any none 0 0 [] w5 (Row.nil _ _ _ _) (fun t ht => by simp at ht)).mono ?_
    rintro e w6 ⟨hcase, hb6⟩
    obtain ⟨v6, q6, rfl⟩ : ∃ (v : Value) (q : Bool), e = .returned (.tuple #[v, .bool q]) := by
      rcases hcase with ⟨out6, _, _, A6, c6, rfl, _⟩ | ⟨_, rfl⟩
      · exact ⟨_, true, rfl⟩
      · exact ⟨_, false, rfl⟩
    replace HI2 := Lib.hid (show Tals w6 w6.heap.size A2 out.length us from Row.next HI2.out hb6)
    have HB6 := Lib.hid (below_chain HB5.out hb6)
    clear hb6 hcase
    go_wp2_with fail
    refine (TalliesSettle_any A2 out.length c2 us w6 HI2.out (by rw [← HUS.out]; exact (small_ok HS.out.ok).small)).mono ?_
    rintro e w7 ⟨⟨out7, hok7, hset7, A7, c7, rfl, ho7⟩ | ⟨hno7, rfl⟩, hb7⟩
    rotate_left
    · exfalso
      have h1 := HS.out.ok
      have h2 := settled_again HOK.out.1 HOK.out.2
      rw [HUS.out] at h1 h2
      rcases hno7 with h | h
      · rw [h1] at h; cases h
      · rw [h2] at h; cases h
    obtain rfl : out = out7 := by
      have h2 := settled_again HOK.out.1 HOK.out.2
      rw [HUS.out, hset7] at h2
      injection h2 with h2
      exact h2.symm
    have ht7 := ho7.tals
    rw [HUS.out] at ht7
    have HI7 := Lib.hid ht7
    replace HI2 := Lib.hid (show Tals w7 w7.heap.size A2 out.length us from Row.next HI2.out hb7)
    have HB7 := Lib.hid (below_chain HB6.out hb7)
    clear hb7 ho7 ht7 hok7 hset7
    go_wp2_with fail
    refine (sameTallies_any A7 A2 out.length out.length c7 c2 us us w7 HI7.out HI2.out).mono ?_
    rintro e w8 ⟨rfl, hb8⟩
    rw [sameT_yes rfl]
    have HB8 := Lib.hid (below_chain HB7.out hb8)
    clear hb8
    go_wp2
    go_ret
    exact ⟨rfl, HB8.out⟩
end Go.Proofs.Ytogplbnabffcfaa.fnSettleMerge
