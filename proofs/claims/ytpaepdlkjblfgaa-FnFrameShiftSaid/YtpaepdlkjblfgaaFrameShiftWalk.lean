/-
  FnFrameShift returns true for every code: a shift is ten times as much.
-/
import Derived.Test.YtpaepdlkjblfgaaFrLaw3
import Derived.Test.YtpaepdlkjblfgaaFrDraw3
namespace Go.Proofs.Ytpaepdlkjblfgaa.fnFrameShift
open Go.RowKit

set_option maxRecDepth 100000 in
set_option maxHeartbeats 4000000 in
theorem walk (a0 : Option Addr) (len0 cap0 : Nat) (z0 : List Int) (w : World) (w0 : IsRow .u8 w a0 len0 cap0 z0) :
    Calls Try.prog 5 #[.slice a0 len0 cap0] w fun e w' => e = .returned (.bool true) ∧ Below w.heap.size w w' := by
  by_cases hbig : 1048576 < len0
  · clear w0
    go_enter Try.func5, Try.ntmps5
    go_wp2
    go_ret
    exact ⟨rfl, Below.refl _ _⟩
  · have HC := Lib.hid (Bytes.of_row w0)
    clear w0
    go_enter Try.func5, Try.ntmps5
    go_wp2_with fail
    refine (DrawFrameShift_any _ _ _ _ HC.out (by omega)).mono ?_
    rintro e w1 ⟨v1, rfl, Af, n, cf, Bf, m, df, hs, ls, rfl, hxf, hyf, hn6, hn1, hm6, hb1⟩
    have HVf : Hid (FrV w1 (.agg #[.slice Af n cf, .slice Bf m df]) hs ls) := Lib.hid ⟨Af, n, cf, Bf, m, df, rfl, hxf, hyf⟩
    clear hxf hyf
    have s1 := hb1.size
    have HB1 := Lib.hid hb1
    clear hb1
    obtain ⟨hn1a, hcf, hdf⟩ := hn1
    rcases shift_cases hs ls with hno | ⟨ds, hd, rfl, rfl, hl1, hl6, hk⟩
    · have HNO := Lib.hid hno
      clear hno
      have Ff := HVf
      clear HVf
      obtain ⟨w2, hV2⟩ : ∃ V, w1.alloc (.cells #[.slice Af n cf, .slice Bf m df] 25) = V := ⟨_, rfl⟩
      have hb2 : Below w1.heap.size w1 w2 := by rw [← hV2]; exact (Below.refl _ _).alloc (Nat.le_refl _) _
      have HXf' : Hid (Box w2 w1.heap.size (.slice Af n cf) (.slice Bf m df)) := Lib.hid (by rw [← hV2]; exact Box.new w1 _ _)
      have zf : w1.heap.size < w2.heap.size := HXf'.out.lt
      have HV2 := Lib.hid hV2
      have s2 := hb2.size
      have HB2 := Lib.hid (below_chain HB1.out hb2)
      replace Ff := Lib.hid (Ff.out.next hb2)
      clear hb2 hV2
      have HXf := HXf'
      clear HXf'
      go_wp2_with fail
      rw [HV2.out]
      have lf_2 := HXf.out.lt
      have xf0_2 := HXf.out.fst
      have xf1_2 := HXf.out.snd
      refine (shift_n Ff.out HNO.out).mono ?_
      rintro e w3 ⟨Au, cu, Bu, du, rfl, hv3, hb3⟩
      have s3 := hb3.size
      have HB3 := Lib.hid (below_chain HB2.out hb3)
      replace Ff := Lib.hid (Ff.out.next hb3)
      replace HXf := Lib.hid (HXf.out.next hb3)
      have Fu := Lib.hid hv3
      clear hv3 hb3
      clear lf_2 xf0_2 xf1_2
      have lf_3 := HXf.out.lt
      have xf0_3 := HXf.out.fst
      have xf1_3 := HXf.out.snd
      obtain ⟨w4, hV4⟩ : ∃ V, w3.alloc (.cells #[.slice Au 0 cu, .slice Bu 0 du] 25) = V := ⟨_, rfl⟩
      have hb4 : Below w3.heap.size w3 w4 := by rw [← hV4]; exact (Below.refl _ _).alloc (Nat.le_refl _) _
      have HXu' : Hid (Box w4 w3.heap.size (.slice Au 0 cu) (.slice Bu 0 du)) := Lib.hid (by rw [← hV4]; exact Box.new w3 _ _)
      have zu : w3.heap.size < w4.heap.size := HXu'.out.lt
      have HV4 := Lib.hid hV4
      have s4 := hb4.size
      have HB4 := Lib.hid (below_chain HB3.out hb4)
      replace Ff := Lib.hid (Ff.out.next hb4)
      replace Fu := Lib.hid (Fu.out.next hb4)
      replace HXf := Lib.hid (HXf.out.next hb4)
      clear hb4 hV4
      have HXu := HXu'
      clear HXu'
      go_wp2_with fail
      rw [HV4.out]
      clear lf_3 xf0_3 xf1_3
      have lf_4 := HXf.out.lt
      have xf0_4 := HXf.out.fst
      have xf1_4 := HXf.out.snd
      have lu_4 := HXu.out.lt
      have xu0_4 := HXu.out.fst
      have xu1_4 := HXu.out.snd
      refine (specshift_n Ff.out HNO.out hcf hdf).mono ?_
      rintro e w5 ⟨Aq, cq, Bq, dq, rfl, hv5, hb5⟩
      have s5 := hb5.size
      have HB5 := Lib.hid (below_chain HB4.out hb5)
      replace Ff := Lib.hid (Ff.out.next hb5)
      replace Fu := Lib.hid (Fu.out.next hb5)
      replace HXf := Lib.hid (HXf.out.next hb5)
      replace HXu := Lib.hid (HXu.out.next hb5)
      have Fq := Lib.hid hv5
      clear hv5 hb5
      clear lf_4 xf0_4 xf1_4 lu_4 xu0_4 xu1_4
      have lf_5 := HXf.out.lt
      have xf0_5 := HXf.out.fst
      have xf1_5 := HXf.out.snd
      have lu_5 := HXu.out.lt
      have xu0_5 := HXu.out.fst
      have xu1_5 := HXu.out.snd
      obtain ⟨w6, hV6⟩ : ∃ V, w5.alloc (.cells #[.slice Aq 0 cq, .slice Bq 0 dq] 25) = V := ⟨_, rfl⟩
      have hb6 : Below w5.heap.size w5 w6 := by rw [← hV6]; exact (Below.refl _ _).alloc (Nat.le_refl _) _
      have HXq' : Hid (Box w6 w5.heap.size (.slice Aq 0 cq) (.slice Bq 0 dq)) := Lib.hid (by rw [← hV6]; exact Box.new w5 _ _)
      have zq : w5.heap.size < w6.heap.size := HXq'.out.lt
      have HV6 := Lib.hid hV6
      have s6 := hb6.size
      have HB6 := Lib.hid (below_chain HB5.out hb6)
      replace Ff := Lib.hid (Ff.out.next hb6)
      replace Fu := Lib.hid (Fu.out.next hb6)
      replace Fq := Lib.hid (Fq.out.next hb6)
      replace HXf := Lib.hid (HXf.out.next hb6)
      replace HXu := Lib.hid (HXu.out.next hb6)
      clear hb6 hV6
      have HXq := HXq'
      clear HXq'
      go_wp2_with fail
      rw [HV6.out]
      clear lf_5 xf0_5 xf1_5 lu_5 xu0_5 xu1_5
      have lf_6 := HXf.out.lt
      have xf0_6 := HXf.out.fst
      have xf1_6 := HXf.out.snd
      have lu_6 := HXu.out.lt
      have xu0_6 := HXu.out.fst
      have xu1_6 := HXu.out.snd
      have lq_6 := HXq.out.lt
      have xq0_6 := HXq.out.fst
      have xq1_6 := HXq.out.snd
      refine (sameFrame_eq Fu.out Fq.out).mono ?_
      rintro e w7 ⟨rfl, hb7⟩
      have s7 := hb7.size
      have HB7 := Lib.hid (below_chain HB6.out hb7)
      replace Ff := Lib.hid (Ff.out.next hb7)
      replace Fu := Lib.hid (Fu.out.next hb7)
      replace Fq := Lib.hid (Fq.out.next hb7)
      replace HXf := Lib.hid (HXf.out.next hb7)
      replace HXu := Lib.hid (HXu.out.next hb7)
      replace HXq := Lib.hid (HXq.out.next hb7)
      clear hb7
      clear lf_6 xf0_6 xf1_6 lu_6 xu0_6 xu1_6 lq_6 xq0_6 xq1_6
      have lf_7 := HXf.out.lt
      have xf0_7 := HXf.out.fst
      have xf1_7 := HXf.out.snd
      have lu_7 := HXu.out.lt
      have xu0_7 := HXu.out.fst
      have xu1_7 := HXu.out.snd
      have lq_7 := HXq.out.lt
      have xq0_7 := HXq.out.fst
      have xq1_7 := HXq.out.snd
      go_wp2_with fail
      refine (sameFrame_eq Fu.out Fq.out).mono ?_
      rintro e w8 ⟨rfl, hb8⟩
      have s8 := hb8.size
      have HB8 := Lib.hid (below_chain HB7.out hb8)
      replace Ff := Lib.hid (Ff.out.next hb8)
      replace Fu := Lib.hid (Fu.out.next hb8)
      replace Fq := Lib.hid (Fq.out.next hb8)
      replace HXf := Lib.hid (HXf.out.next hb8)
      replace HXu := Lib.hid (HXu.out.next hb8)
      replace HXq := Lib.hid (HXq.out.next hb8)
      clear hb8
      clear lf_7 xf0_7 xf1_7 lu_7 xu0_7 xu1_7 lq_7 xq0_7 xq1_7
      have lf_8 := HXf.out.lt
      have xf0_8 := HXf.out.fst
      have xf1_8 := HXf.out.snd
      have lu_8 := HXu.out.lt
      have xu0_8 := HXu.out.fst
      have xu1_8 := HXu.out.snd
      have lq_8 := HXq.out.lt
      have xq0_8 := HXq.out.fst
      have xq1_8 := HXq.out.snd
      go_wp2
      go_ret
      exact ⟨rfl, HB8.out⟩
    · obtain ⟨p, hp⟩ := shift_sum hd hl1 hk
      have hS := val_shift hl1 hk
      obtain ⟨V0, V1⟩ := val_le6 hd hl6
      obtain ⟨V, hV⟩ : ∃ V, Fr.val ds = V := ⟨_, rfl⟩
      rw [hV] at hp hS V0 V1
      obtain ⟨rfl, hlen, hg⟩ := HVf.out.good hd hl1 hl6
      have HLEN := Lib.hid hlen
      have HD := Lib.hid hd
      have Ff := Lib.hid hg
      clear HVf hlen hg hd hl1 hl6
      have K_hk := Lib.hid hk
      have K_hp := Lib.hid hp
      have K_hS := Lib.hid hS
      have K_hV := Lib.hid hV
      clear hk hp hS hV
      obtain ⟨w2, hV2⟩ : ∃ V, w1.alloc (.cells #[.slice Af n cf, .slice Bf n df] 25) = V := ⟨_, rfl⟩
      have hb2 : Below w1.heap.size w1 w2 := by rw [← hV2]; exact (Below.refl _ _).alloc (Nat.le_refl _) _
      have HXf' : Hid (Box w2 w1.heap.size (.slice Af n cf) (.slice Bf n df)) := Lib.hid (by rw [← hV2]; exact Box.new w1 _ _)
      have zf : w1.heap.size < w2.heap.size := HXf'.out.lt
      have HV2 := Lib.hid hV2
      have s2 := hb2.size
      have HB2 := Lib.hid (below_chain HB1.out hb2)
      replace Ff := Lib.hid (Ff.out.next hb2)
      clear hb2 hV2
      have HXf := HXf'
      clear HXf'
      go_wp2_with fail
      rw [HV2.out]
      have lf_2 := HXf.out.lt
      have xf0_2 := HXf.out.fst
      have xf1_2 := HXf.out.snd
      refine (shift_g Ff.out K_hk.out).mono ?_
      rintro e w3 ⟨Au, cu, Bu, du, rfl, hv3, hb3⟩
      have s3 := hb3.size
      have HB3 := Lib.hid (below_chain HB2.out hb3)
      replace Ff := Lib.hid (Ff.out.next hb3)
      replace HXf := Lib.hid (HXf.out.next hb3)
      have Fu := Lib.hid hv3
      clear hv3 hb3
      clear lf_2 xf0_2 xf1_2
      have lf_3 := HXf.out.lt
      have xf0_3 := HXf.out.fst
      have xf1_3 := HXf.out.snd
      obtain ⟨w4, hV4⟩ : ∃ V, w3.alloc (.cells #[.slice Au n cu, .slice Bu n du] 25) = V := ⟨_, rfl⟩
      have hb4 : Below w3.heap.size w3 w4 := by rw [← hV4]; exact (Below.refl _ _).alloc (Nat.le_refl _) _
      have HXu' : Hid (Box w4 w3.heap.size (.slice Au n cu) (.slice Bu n du)) := Lib.hid (by rw [← hV4]; exact Box.new w3 _ _)
      have zu : w3.heap.size < w4.heap.size := HXu'.out.lt
      have HV4 := Lib.hid hV4
      have s4 := hb4.size
      have HB4 := Lib.hid (below_chain HB3.out hb4)
      replace Ff := Lib.hid (Ff.out.next hb4)
      replace Fu := Lib.hid (Fu.out.next hb4)
      replace HXf := Lib.hid (HXf.out.next hb4)
      clear hb4 hV4
      have HXu := HXu'
      clear HXu'
      go_wp2_with fail
      rw [HV4.out]
      clear lf_3 xf0_3 xf1_3
      have lf_4 := HXf.out.lt
      have xf0_4 := HXf.out.fst
      have xf1_4 := HXf.out.snd
      have lu_4 := HXu.out.lt
      have xu0_4 := HXu.out.fst
      have xu1_4 := HXu.out.snd
      refine (specshift_g Ff.out K_hk.out hcf hdf).mono ?_
      rintro e w5 ⟨Aq, cq, Bq, dq, rfl, hv5, hb5⟩
      have s5 := hb5.size
      have HB5 := Lib.hid (below_chain HB4.out hb5)
      replace Ff := Lib.hid (Ff.out.next hb5)
      replace Fu := Lib.hid (Fu.out.next hb5)
      replace HXf := Lib.hid (HXf.out.next hb5)
      replace HXu := Lib.hid (HXu.out.next hb5)
      have Fq := Lib.hid hv5
      clear hv5 hb5
      clear lf_4 xf0_4 xf1_4 lu_4 xu0_4 xu1_4
      have lf_5 := HXf.out.lt
      have xf0_5 := HXf.out.fst
      have xf1_5 := HXf.out.snd
      have lu_5 := HXu.out.lt
      have xu0_5 := HXu.out.fst
      have xu1_5 := HXu.out.snd
      obtain ⟨w6, hV6⟩ : ∃ V, w5.alloc (.cells #[.slice Aq n cq, .slice Bq n dq] 25) = V := ⟨_, rfl⟩
      have hb6 : Below w5.heap.size w5 w6 := by rw [← hV6]; exact (Below.refl _ _).alloc (Nat.le_refl _) _
      have HXq' : Hid (Box w6 w5.heap.size (.slice Aq n cq) (.slice Bq n dq)) := Lib.hid (by rw [← hV6]; exact Box.new w5 _ _)
      have zq : w5.heap.size < w6.heap.size := HXq'.out.lt
      have HV6 := Lib.hid hV6
      have s6 := hb6.size
      have HB6 := Lib.hid (below_chain HB5.out hb6)
      replace Ff := Lib.hid (Ff.out.next hb6)
      replace Fu := Lib.hid (Fu.out.next hb6)
      replace Fq := Lib.hid (Fq.out.next hb6)
      replace HXf := Lib.hid (HXf.out.next hb6)
      replace HXu := Lib.hid (HXu.out.next hb6)
      clear hb6 hV6
      have HXq := HXq'
      clear HXq'
      go_wp2_with fail
      rw [HV6.out]
      clear lf_5 xf0_5 xf1_5 lu_5 xu0_5 xu1_5
      have lf_6 := HXf.out.lt
      have xf0_6 := HXf.out.fst
      have xf1_6 := HXf.out.snd
      have lu_6 := HXu.out.lt
      have xu0_6 := HXu.out.fst
      have xu1_6 := HXu.out.snd
      have lq_6 := HXq.out.lt
      have xq0_6 := HXq.out.fst
      have xq1_6 := HXq.out.snd
      refine (same_g Fu.out Fq.out).mono ?_
      rintro e w7 ⟨rfl, hb7⟩
      have s7 := hb7.size
      have HB7 := Lib.hid (below_chain HB6.out hb7)
      replace Ff := Lib.hid (Ff.out.next hb7)
      replace Fu := Lib.hid (Fu.out.next hb7)
      replace Fq := Lib.hid (Fq.out.next hb7)
      replace HXf := Lib.hid (HXf.out.next hb7)
      replace HXu := Lib.hid (HXu.out.next hb7)
      replace HXq := Lib.hid (HXq.out.next hb7)
      clear hb7
      clear lf_6 xf0_6 xf1_6 lu_6 xu0_6 xu1_6 lq_6 xq0_6 xq1_6
      have lf_7 := HXf.out.lt
      have xf0_7 := HXf.out.fst
      have xf1_7 := HXf.out.snd
      have lu_7 := HXu.out.lt
      have xu0_7 := HXu.out.fst
      have xu1_7 := HXu.out.snd
      have lq_7 := HXq.out.lt
      have xq0_7 := HXq.out.fst
      have xq1_7 := HXq.out.snd
      go_wp2_with fail
      refine (value_v Ff.out K_hV.out).mono ?_
      rintro e w8 ⟨rfl, hb8⟩
      have s8 := hb8.size
      have HB8 := Lib.hid (below_chain HB7.out hb8)
      replace Ff := Lib.hid (Ff.out.next hb8)
      replace Fu := Lib.hid (Fu.out.next hb8)
      replace Fq := Lib.hid (Fq.out.next hb8)
      replace HXf := Lib.hid (HXf.out.next hb8)
      replace HXu := Lib.hid (HXu.out.next hb8)
      replace HXq := Lib.hid (HXq.out.next hb8)
      clear hb8
      clear lf_7 xf0_7 xf1_7 lu_7 xu0_7 xu1_7 lq_7 xq0_7 xq1_7
      have lf_8 := HXf.out.lt
      have xf0_8 := HXf.out.fst
      have xf1_8 := HXf.out.snd
      have lu_8 := HXu.out.lt
      have xu0_8 := HXu.out.fst
      have xu1_8 := HXu.out.snd
      have lq_8 := HXq.out.lt
      have xq0_8 := HXq.out.fst
      have xq1_8 := HXq.out.snd
      go_wp2_with fail
      refine (sum_g Ff.out K_hp.out).mono ?_
      rintro e w9 ⟨Ax, cx, Bx, dx, rfl, hv9, hb9⟩
      have s9 := hb9.size
      have HB9 := Lib.hid (below_chain HB8.out hb9)
      replace Ff := Lib.hid (Ff.out.next hb9)
      replace Fu := Lib.hid (Fu.out.next hb9)
      replace Fq := Lib.hid (Fq.out.next hb9)
      replace HXf := Lib.hid (HXf.out.next hb9)
      replace HXu := Lib.hid (HXu.out.next hb9)
      replace HXq := Lib.hid (HXq.out.next hb9)
      have Fx := Lib.hid hv9
      clear hv9 hb9
      clear lf_8 xf0_8 xf1_8 lu_8 xu0_8 xu1_8 lq_8 xq0_8 xq1_8
      have lf_9 := HXf.out.lt
      have xf0_9 := HXf.out.fst
      have xf1_9 := HXf.out.snd
      have lu_9 := HXu.out.lt
      have xu0_9 := HXu.out.fst
      have xu1_9 := HXu.out.snd
      have lq_9 := HXq.out.lt
      have xq0_9 := HXq.out.fst
      have xq1_9 := HXq.out.snd
      obtain ⟨w10, hV10⟩ : ∃ V, w9.alloc (.cells #[.slice Ax n cx, .slice Bx n dx] 25) = V := ⟨_, rfl⟩
      have hb10 : Below w9.heap.size w9 w10 := by rw [← hV10]; exact (Below.refl _ _).alloc (Nat.le_refl _) _
      have HXx' : Hid (Box w10 w9.heap.size (.slice Ax n cx) (.slice Bx n dx)) := Lib.hid (by rw [← hV10]; exact Box.new w9 _ _)
      have zx : w9.heap.size < w10.heap.size := HXx'.out.lt
      have HV10 := Lib.hid hV10
      have s10 := hb10.size
      have HB10 := Lib.hid (below_chain HB9.out hb10)
      replace Ff := Lib.hid (Ff.out.next hb10)
      replace Fu := Lib.hid (Fu.out.next hb10)
      replace Fq := Lib.hid (Fq.out.next hb10)
      replace Fx := Lib.hid (Fx.out.next hb10)
      replace HXf := Lib.hid (HXf.out.next hb10)
      replace HXu := Lib.hid (HXu.out.next hb10)
      replace HXq := Lib.hid (HXq.out.next hb10)
      clear hb10 hV10
      have HXx := HXx'
      clear HXx'
      go_wp2_with fail
      rw [HV10.out]
      clear lf_9 xf0_9 xf1_9 lu_9 xu0_9 xu1_9 lq_9 xq0_9 xq1_9
      have lf_10 := HXf.out.lt
      have xf0_10 := HXf.out.fst
      have xf1_10 := HXf.out.snd
      have lu_10 := HXu.out.lt
      have xu0_10 := HXu.out.fst
      have xu1_10 := HXu.out.snd
      have lq_10 := HXq.out.lt
      have xq0_10 := HXq.out.fst
      have xq1_10 := HXq.out.snd
      have lx_10 := HXx.out.lt
      have xx0_10 := HXx.out.fst
      have xx1_10 := HXx.out.snd
      refine (value_v Fu.out K_hS.out).mono ?_
      rintro e w11 ⟨rfl, hb11⟩
      have s11 := hb11.size
      have HB11 := Lib.hid (below_chain HB10.out hb11)
      replace Ff := Lib.hid (Ff.out.next hb11)
      replace Fu := Lib.hid (Fu.out.next hb11)
      replace Fq := Lib.hid (Fq.out.next hb11)
      replace Fx := Lib.hid (Fx.out.next hb11)
      replace HXf := Lib.hid (HXf.out.next hb11)
      replace HXu := Lib.hid (HXu.out.next hb11)
      replace HXq := Lib.hid (HXq.out.next hb11)
      replace HXx := Lib.hid (HXx.out.next hb11)
      clear hb11
      clear lf_10 xf0_10 xf1_10 lu_10 xu0_10 xu1_10 lq_10 xq0_10 xq1_10 lx_10 xx0_10 xx1_10
      have lf_11 := HXf.out.lt
      have xf0_11 := HXf.out.fst
      have xf1_11 := HXf.out.snd
      have lu_11 := HXu.out.lt
      have xu0_11 := HXu.out.fst
      have xu1_11 := HXu.out.snd
      have lq_11 := HXq.out.lt
      have xq0_11 := HXq.out.fst
      have xq1_11 := HXq.out.snd
      have lx_11 := HXx.out.lt
      have xx0_11 := HXx.out.fst
      have xx1_11 := HXx.out.snd
      go_wp2_with fail
      refine (same_g Fx.out Fu.out).mono ?_
      rintro e w12 ⟨rfl, hb12⟩
      have s12 := hb12.size
      have HB12 := Lib.hid (below_chain HB11.out hb12)
      replace Ff := Lib.hid (Ff.out.next hb12)
      replace Fu := Lib.hid (Fu.out.next hb12)
      replace Fq := Lib.hid (Fq.out.next hb12)
      replace Fx := Lib.hid (Fx.out.next hb12)
      replace HXf := Lib.hid (HXf.out.next hb12)
      replace HXu := Lib.hid (HXu.out.next hb12)
      replace HXq := Lib.hid (HXq.out.next hb12)
      replace HXx := Lib.hid (HXx.out.next hb12)
      clear hb12
      clear lf_11 xf0_11 xf1_11 lu_11 xu0_11 xu1_11 lq_11 xq0_11 xq1_11 lx_11 xx0_11 xx1_11
      have lf_12 := HXf.out.lt
      have xf0_12 := HXf.out.fst
      have xf1_12 := HXf.out.snd
      have lu_12 := HXu.out.lt
      have xu0_12 := HXu.out.fst
      have xu1_12 := HXu.out.snd
      have lq_12 := HXq.out.lt
      have xq0_12 := HXq.out.fst
      have xq1_12 := HXq.out.snd
      have lx_12 := HXx.out.lt
      have xx0_12 := HXx.out.fst
      have xx1_12 := HXx.out.snd
      go_wp2
      go_ret
      exact ⟨rfl, HB12.out⟩
end Go.Proofs.Ytpaepdlkjblfgaa.fnFrameShift
