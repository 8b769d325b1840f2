/-
  FnFrameLess returns true for every code: taking is adding nines.
-/
import Derived.Test.YtpaepdlkjblfgaaFrLaw2
import Derived.Test.YtpaepdlkjblfgaaFrDraw5
namespace Go.Proofs.Ytpaepdlkjblfgaa.fnFrameLess
open Go.RowKit

set_option maxRecDepth 100000 in
set_option maxHeartbeats 4000000 in
theorem walk (a0 : Option Addr) (len0 cap0 : Nat) (z0 : List Int) (w : World) (w0 : IsRow .u8 w a0 len0 cap0 z0) :
    Calls Try.prog 13 #[.slice a0 len0 cap0] w fun e w' => e = .returned (.bool true) ∧ Below w.heap.size w w' := by
  by_cases hbig : 1048576 < len0
  · clear w0
    go_enter Try.func13, Try.ntmps13
    go_wp2
    go_ret
    exact ⟨rfl, Below.refl _ _⟩
  · have HC := Lib.hid (Bytes.of_row w0)
    clear w0
    go_enter Try.func13, Try.ntmps13
    go_wp2_with fail
    refine (DrawFrameLess_any _ _ _ _ HC.out (by omega)).mono ?_
    rintro e w1 ⟨v1, N, rfl, N0, N1, Af, n, cf, Bf, m, df, hs, ls, rfl, hxf, hyf, hn6, hn1, hm6, hb1⟩
    have HVf : Hid (FrV w1 (.agg #[.slice Af n cf, .slice Bf m df]) hs ls) := Lib.hid ⟨Af, n, cf, Bf, m, df, rfl, hxf, hyf⟩
    clear hxf hyf
    have s1 := hb1.size
    have HB1 := Lib.hid hb1
    clear hb1
    rcases frOf_cases hs ls (fun ds => frBy (-1) ds N) with hno | ⟨ds, r, p, hd, rfl, rfl, hl1, hl6, hp⟩
    · have HNO := Lib.hid hno
      clear hno
      have Ff := HVf
      clear HVf
      obtain ⟨w2, hV2⟩ : ∃ V, w1.alloc (.cells #[.slice Af n cf, .slice Bf m df] 25) = V := ⟨_, rfl⟩
      have hb2 : Below w1.heap.size w1 w2 := by rw [← hV2]; exact (Below.refl _ _).alloc (Nat.le_refl _) _
      have HXf' : Hid (Box w2 w1.heap.size (.slice Af n cf) (.slice Bf m df)) := Lib.hid (by rw [← hV2]; exact Box.new w1 _ _)
      have zf : w1.heap.size < w2.heap.size := HXf'.out.lt
      have HV2 := Lib.hid hV2
      have s2 := hb2.size
      have HB2 := Lib.hid (below_chain HB1.out hb2)
      replace Ff := Lib.hid (Ff.out.next hb2)
      clear hb2 hV2
      have HXf := HXf'
      clear HXf'
      go_wp2_with fail
      rw [HV2.out]
      have lf_2 := HXf.out.lt
      have xf0_2 := HXf.out.fst
      have xf1_2 := HXf.out.snd
      refine ((FrameLess_any _ _ _ _ _ _ hs ls N none _ Ff.out.rows.1 Ff.out.rows.2 HNO.out).mono fun _ _ q => q.not_).mono ?_
      rintro e w3 ⟨Au, cu, Bu, du, rfl, hv3, hb3⟩
      have s3 := hb3.size
      have HB3 := Lib.hid (below_chain HB2.out hb3)
      replace Ff := Lib.hid (Ff.out.next hb3)
      replace HXf := Lib.hid (HXf.out.next hb3)
      have Fu := Lib.hid hv3
      clear hv3 hb3
      clear lf_2 xf0_2 xf1_2
      have lf_3 := HXf.out.lt
      have xf0_3 := HXf.out.fst
      have xf1_3 := HXf.out.snd
      obtain ⟨w4, hV4⟩ : ∃ V, w3.alloc (.cells #[.slice Au 0 cu, .slice Bu 0 du] 25) = V := ⟨_, rfl⟩
      have hb4 : Below w3.heap.size w3 w4 := by rw [← hV4]; exact (Below.refl _ _).alloc (Nat.le_refl _) _
      have HXu' : Hid (Box w4 w3.heap.size (.slice Au 0 cu) (.slice Bu 0 du)) := Lib.hid (by rw [← hV4]; exact Box.new w3 _ _)
      have zu : w3.heap.size < w4.heap.size := HXu'.out.lt
      have HV4 := Lib.hid hV4
      have s4 := hb4.size
      have HB4 := Lib.hid (below_chain HB3.out hb4)
      replace Ff := Lib.hid (Ff.out.next hb4)
      replace Fu := Lib.hid (Fu.out.next hb4)
      replace HXf := Lib.hid (HXf.out.next hb4)
      clear hb4 hV4
      have HXu := HXu'
      clear HXu'
      go_wp2_with fail
      rw [HV4.out]
      clear lf_3 xf0_3 xf1_3
      have lf_4 := HXf.out.lt
      have xf0_4 := HXf.out.fst
      have xf1_4 := HXf.out.snd
      have lu_4 := HXu.out.lt
      have xu0_4 := HXu.out.fst
      have xu1_4 := HXu.out.snd
      refine ((specFrameLess_any _ _ _ _ _ _ hs ls N none _ Ff.out.rows.1 Ff.out.rows.2 HNO.out).mono fun _ _ q => q.not_).mono ?_
      rintro e w5 ⟨Aq, cq, Bq, dq, rfl, hv5, hb5⟩
      have s5 := hb5.size
      have HB5 := Lib.hid (below_chain HB4.out hb5)
      replace Ff := Lib.hid (Ff.out.next hb5)
      replace Fu := Lib.hid (Fu.out.next hb5)
      replace HXf := Lib.hid (HXf.out.next hb5)
      replace HXu := Lib.hid (HXu.out.next hb5)
      have Fq := Lib.hid hv5
      clear hv5 hb5
      clear lf_4 xf0_4 xf1_4 lu_4 xu0_4 xu1_4
      have lf_5 := HXf.out.lt
      have xf0_5 := HXf.out.fst
      have xf1_5 := HXf.out.snd
      have lu_5 := HXu.out.lt
      have xu0_5 := HXu.out.fst
      have xu1_5 := HXu.out.snd
      obtain ⟨w6, hV6⟩ : ∃ V, w5.alloc (.cells #[.slice Aq 0 cq, .slice Bq 0 dq] 25) = V := ⟨_, rfl⟩
      have hb6 : Below w5.heap.size w5 w6 := by rw [← hV6]; exact (Below.refl _ _).alloc (Nat.le_refl _) _
      have HXq' : Hid (Box w6 w5.heap.size (.slice Aq 0 cq) (.slice Bq 0 dq)) := Lib.hid (by rw [← hV6]; exact Box.new w5 _ _)
      have zq : w5.heap.size < w6.heap.size := HXq'.out.lt
      have HV6 := Lib.hid hV6
      have s6 := hb6.size
      have HB6 := Lib.hid (below_chain HB5.out hb6)
      replace Ff := Lib.hid (Ff.out.next hb6)
      replace Fu := Lib.hid (Fu.out.next hb6)
      replace Fq := Lib.hid (Fq.out.next hb6)
      replace HXf := Lib.hid (HXf.out.next hb6)
      replace HXu := Lib.hid (HXu.out.next hb6)
      clear hb6 hV6
      have HXq := HXq'
      clear HXq'
      go_wp2_with fail
      rw [HV6.out]
      clear lf_5 xf0_5 xf1_5 lu_5 xu0_5 xu1_5
      have lf_6 := HXf.out.lt
      have xf0_6 := HXf.out.fst
      have xf1_6 := HXf.out.snd
      have lu_6 := HXu.out.lt
      have xu0_6 := HXu.out.fst
      have xu1_6 := HXu.out.snd
      have lq_6 := HXq.out.lt
      have xq0_6 := HXq.out.fst
      have xq1_6 := HXq.out.snd
      refine (sameFrame_eq Fu.out Fq.out).mono ?_
      rintro e w7 ⟨rfl, hb7⟩
      have s7 := hb7.size
      have HB7 := Lib.hid (below_chain HB6.out hb7)
      replace Ff := Lib.hid (Ff.out.next hb7)
      replace Fu := Lib.hid (Fu.out.next hb7)
      replace Fq := Lib.hid (Fq.out.next hb7)
      replace HXf := Lib.hid (HXf.out.next hb7)
      replace HXu := Lib.hid (HXu.out.next hb7)
      replace HXq := Lib.hid (HXq.out.next hb7)
      clear hb7
      clear lf_6 xf0_6 xf1_6 lu_6 xu0_6 xu1_6 lq_6 xq0_6 xq1_6
      have lf_7 := HXf.out.lt
      have xf0_7 := HXf.out.fst
      have xf1_7 := HXf.out.snd
      have lu_7 := HXu.out.lt
      have xu0_7 := HXu.out.fst
      have xu1_7 := HXu.out.snd
      have lq_7 := HXq.out.lt
      have xq0_7 := HXq.out.fst
      have xq1_7 := HXq.out.snd
      go_wp2_with fail
      refine (sameFrame_eq Fu.out Fq.out).mono ?_
      rintro e w8 ⟨rfl, hb8⟩
      have s8 := hb8.size
      have HB8 := Lib.hid (below_chain HB7.out hb8)
      replace Ff := Lib.hid (Ff.out.next hb8)
      replace Fu := Lib.hid (Fu.out.next hb8)
      replace Fq := Lib.hid (Fq.out.next hb8)
      replace HXf := Lib.hid (HXf.out.next hb8)
      replace HXu := Lib.hid (HXu.out.next hb8)
      replace HXq := Lib.hid (HXq.out.next hb8)
      clear hb8
      clear lf_7 xf0_7 xf1_7 lu_7 xu0_7 xu1_7 lq_7 xq0_7 xq1_7
      have lf_8 := HXf.out.lt
      have xf0_8 := HXf.out.fst
      have xf1_8 := HXf.out.snd
      have lu_8 := HXu.out.lt
      have xu0_8 := HXu.out.fst
      have xu1_8 := HXu.out.snd
      have lq_8 := HXq.out.lt
      have xq0_8 := HXq.out.fst
      have xq1_8 := HXq.out.snd
      go_wp2
      go_ret
      exact ⟨rfl, HB8.out⟩
    · have hp : frBy (-1) ds N = some (r, p) := hp
      have hll := hl6
      obtain ⟨r1, r2, r3, r4, r5, rz, ⟨pb, r6⟩, r7, x0, x9⟩ := frBy_some (.inr rfl) hd hp
      obtain ⟨V0, V1⟩ := val_le6 hd hl6
      obtain ⟨U0, U1⟩ := val_le6 r1 (by omega)
      obtain ⟨V, hV⟩ : ∃ V, Fr.val ds = V := ⟨_, rfl⟩
      obtain ⟨U, hU⟩ : ∃ U, Fr.val r = U := ⟨_, rfl⟩
      rw [hV] at V0 V1 r3
      rw [hU] at U0 U1 r3
      obtain ⟨G, hG⟩ : ∃ G, N = G := ⟨_, rfl⟩
      have rU : U = V - G := by omega
      obtain ⟨D, hD⟩ : ∃ D, Fr.dist ds r = D := ⟨_, rfl⟩
      rw [hD] at r4
      have hDp : D ≤ p := by omega
      have D0 : 0 ≤ D ∧ D ≤ 12 := by have := dist_bd ds r; omega
      obtain ⟨D0, D1⟩ := D0
      have hR0 : 1 ≤ r.length := by omega
      have hR6 : r.length ≤ 6 := by omega
      obtain ⟨rfl, hlen, hg⟩ := HVf.out.good hd hl1 hl6
      have HLEN := Lib.hid hlen
      have HD := Lib.hid hd
      have Ff := Lib.hid hg
      clear HVf hlen hg hd hl1 hl6
      have K_hp := Lib.hid hp
      have K_hV := Lib.hid hV
      have K_hU := Lib.hid hU
      have K_hD := Lib.hid hD
      have K_r6 := Lib.hid r6
      have K_r7 := Lib.hid r7
      have K_rU := Lib.hid rU
      have K_hG := Lib.hid hG
      have K_rz := Lib.hid rz
      clear hp hV hU hD r6 r7 rU hG rz r1 r2 r3 r4 r5 hR0 hR6
      obtain ⟨w2, hV2⟩ : ∃ V, w1.alloc (.cells #[.slice Af n cf, .slice Bf n df] 25) = V := ⟨_, rfl⟩
      have hb2 : Below w1.heap.size w1 w2 := by rw [← hV2]; exact (Below.refl _ _).alloc (Nat.le_refl _) _
      have HXf' : Hid (Box w2 w1.heap.size (.slice Af n cf) (.slice Bf n df)) := Lib.hid (by rw [← hV2]; exact Box.new w1 _ _)
      have zf : w1.heap.size < w2.heap.size := HXf'.out.lt
      have HV2 := Lib.hid hV2
      have s2 := hb2.size
      have HB2 := Lib.hid (below_chain HB1.out hb2)
      replace Ff := Lib.hid (Ff.out.next hb2)
      clear hb2 hV2
      have HXf := HXf'
      clear HXf'
      go_wp2_with fail
      rw [HV2.out]
      have lf_2 := HXf.out.lt
      have xf0_2 := HXf.out.fst
      have xf1_2 := HXf.out.snd
      refine (less_g Ff.out K_hp.out).mono ?_
      rintro e w3 ⟨Au, cu, Bu, du, rfl, hv3, hb3⟩
      have s3 := hb3.size
      have HB3 := Lib.hid (below_chain HB2.out hb3)
      replace Ff := Lib.hid (Ff.out.next hb3)
      replace HXf := Lib.hid (HXf.out.next hb3)
      have Fu := Lib.hid hv3
      clear hv3 hb3
      clear lf_2 xf0_2 xf1_2
      have lf_3 := HXf.out.lt
      have xf0_3 := HXf.out.fst
      have xf1_3 := HXf.out.snd
      obtain ⟨w4, hV4⟩ : ∃ V, w3.alloc (.cells #[.slice Au n cu, .slice Bu n du] 25) = V := ⟨_, rfl⟩
      have hb4 : Below w3.heap.size w3 w4 := by rw [← hV4]; exact (Below.refl _ _).alloc (Nat.le_refl _) _
      have HXu' : Hid (Box w4 w3.heap.size (.slice Au n cu) (.slice Bu n du)) := Lib.hid (by rw [← hV4]; exact Box.new w3 _ _)
      have zu : w3.heap.size < w4.heap.size := HXu'.out.lt
      have HV4 := Lib.hid hV4
      have s4 := hb4.size
      have HB4 := Lib.hid (below_chain HB3.out hb4)
      replace Ff := Lib.hid (Ff.out.next hb4)
      replace Fu := Lib.hid (Fu.out.next hb4)
      replace HXf := Lib.hid (HXf.out.next hb4)
      clear hb4 hV4
      have HXu := HXu'
      clear HXu'
      go_wp2_with fail
      rw [HV4.out]
      clear lf_3 xf0_3 xf1_3
      have lf_4 := HXf.out.lt
      have xf0_4 := HXf.out.fst
      have xf1_4 := HXf.out.snd
      have lu_4 := HXu.out.lt
      have xu0_4 := HXu.out.fst
      have xu1_4 := HXu.out.snd
      refine (specless_g Ff.out K_hp.out).mono ?_
      rintro e w5 ⟨Aq, cq, Bq, dq, rfl, hv5, hb5⟩
      have s5 := hb5.size
      have HB5 := Lib.hid (below_chain HB4.out hb5)
      replace Ff := Lib.hid (Ff.out.next hb5)
      replace Fu := Lib.hid (Fu.out.next hb5)
      replace HXf := Lib.hid (HXf.out.next hb5)
      replace HXu := Lib.hid (HXu.out.next hb5)
      have Fq := Lib.hid hv5
      clear hv5 hb5
      clear lf_4 xf0_4 xf1_4 lu_4 xu0_4 xu1_4
      have lf_5 := HXf.out.lt
      have xf0_5 := HXf.out.fst
      have xf1_5 := HXf.out.snd
      have lu_5 := HXu.out.lt
      have xu0_5 := HXu.out.fst
      have xu1_5 := HXu.out.snd
      obtain ⟨w6, hV6⟩ : ∃ V, w5.alloc (.cells #[.slice Aq n cq, .slice Bq n dq] 25) = V := ⟨_, rfl⟩
      have hb6 : Below w5.heap.size w5 w6 := by rw [← hV6]; exact (Below.refl _ _).alloc (Nat.le_refl _) _
      have HXq' : Hid (Box w6 w5.heap.size (.slice Aq n cq) (.slice Bq n dq)) := Lib.hid (by rw [← hV6]; exact Box.new w5 _ _)
      have zq : w5.heap.size < w6.heap.size := HXq'.out.lt
      have HV6 := Lib.hid hV6
      have s6 := hb6.size
      have HB6 := Lib.hid (below_chain HB5.out hb6)
      replace Ff := Lib.hid (Ff.out.next hb6)
      replace Fu := Lib.hid (Fu.out.next hb6)
      replace Fq := Lib.hid (Fq.out.next hb6)
      replace HXf := Lib.hid (HXf.out.next hb6)
      replace HXu := Lib.hid (HXu.out.next hb6)
      clear hb6 hV6
      have HXq := HXq'
      clear HXq'
      go_wp2_with fail
      rw [HV6.out]
      clear lf_5 xf0_5 xf1_5 lu_5 xu0_5 xu1_5
      have lf_6 := HXf.out.lt
      have xf0_6 := HXf.out.fst
      have xf1_6 := HXf.out.snd
      have lu_6 := HXu.out.lt
      have xu0_6 := HXu.out.fst
      have xu1_6 := HXu.out.snd
      have lq_6 := HXq.out.lt
      have xq0_6 := HXq.out.fst
      have xq1_6 := HXq.out.snd
      refine (same_g Fu.out Fq.out).mono ?_
      rintro e w7 ⟨rfl, hb7⟩
      have s7 := hb7.size
      have HB7 := Lib.hid (below_chain HB6.out hb7)
      replace Ff := Lib.hid (Ff.out.next hb7)
      replace Fu := Lib.hid (Fu.out.next hb7)
      replace Fq := Lib.hid (Fq.out.next hb7)
      replace HXf := Lib.hid (HXf.out.next hb7)
      replace HXu := Lib.hid (HXu.out.next hb7)
      replace HXq := Lib.hid (HXq.out.next hb7)
      clear hb7
      clear lf_6 xf0_6 xf1_6 lu_6 xu0_6 xu1_6 lq_6 xq0_6 xq1_6
      have lf_7 := HXf.out.lt
      have xf0_7 := HXf.out.fst
      have xf1_7 := HXf.out.snd
      have lu_7 := HXu.out.lt
      have xu0_7 := HXu.out.fst
      have xu1_7 := HXu.out.snd
      have lq_7 := HXq.out.lt
      have xq0_7 := HXq.out.fst
      have xq1_7 := HXq.out.snd
      go_wp2_with fail
      refine (sum_g Fu.out K_r6.out).mono ?_
      rintro e w8 ⟨Ax, cx, Bx, dx, rfl, hv8, hb8⟩
      have s8 := hb8.size
      have HB8 := Lib.hid (below_chain HB7.out hb8)
      replace Ff := Lib.hid (Ff.out.next hb8)
      replace Fu := Lib.hid (Fu.out.next hb8)
      replace Fq := Lib.hid (Fq.out.next hb8)
      replace HXf := Lib.hid (HXf.out.next hb8)
      replace HXu := Lib.hid (HXu.out.next hb8)
      replace HXq := Lib.hid (HXq.out.next hb8)
      have Fx := Lib.hid hv8
      clear hv8 hb8
      clear lf_7 xf0_7 xf1_7 lu_7 xu0_7 xu1_7 lq_7 xq0_7 xq1_7
      have lf_8 := HXf.out.lt
      have xf0_8 := HXf.out.fst
      have xf1_8 := HXf.out.snd
      have lu_8 := HXu.out.lt
      have xu0_8 := HXu.out.fst
      have xu1_8 := HXu.out.snd
      have lq_8 := HXq.out.lt
      have xq0_8 := HXq.out.fst
      have xq1_8 := HXq.out.snd
      obtain ⟨w9, hV9⟩ : ∃ V, w8.alloc (.cells #[.slice Ax n cx, .slice Bx n dx] 25) = V := ⟨_, rfl⟩
      have hb9 : Below w8.heap.size w8 w9 := by rw [← hV9]; exact (Below.refl _ _).alloc (Nat.le_refl _) _
      have HXx' : Hid (Box w9 w8.heap.size (.slice Ax n cx) (.slice Bx n dx)) := Lib.hid (by rw [← hV9]; exact Box.new w8 _ _)
      have zx : w8.heap.size < w9.heap.size := HXx'.out.lt
      have HV9 := Lib.hid hV9
      have s9 := hb9.size
      have HB9 := Lib.hid (below_chain HB8.out hb9)
      replace Ff := Lib.hid (Ff.out.next hb9)
      replace Fu := Lib.hid (Fu.out.next hb9)
      replace Fq := Lib.hid (Fq.out.next hb9)
      replace Fx := Lib.hid (Fx.out.next hb9)
      replace HXf := Lib.hid (HXf.out.next hb9)
      replace HXu := Lib.hid (HXu.out.next hb9)
      replace HXq := Lib.hid (HXq.out.next hb9)
      clear hb9 hV9
      have HXx := HXx'
      clear HXx'
      go_wp2_with fail
      rw [HV9.out]
      clear lf_8 xf0_8 xf1_8 lu_8 xu0_8 xu1_8 lq_8 xq0_8 xq1_8
      have lf_9 := HXf.out.lt
      have xf0_9 := HXf.out.fst
      have xf1_9 := HXf.out.snd
      have lu_9 := HXu.out.lt
      have xu0_9 := HXu.out.fst
      have xu1_9 := HXu.out.snd
      have lq_9 := HXq.out.lt
      have xq0_9 := HXq.out.fst
      have xq1_9 := HXq.out.snd
      have lx_9 := HXx.out.lt
      have xx0_9 := HXx.out.fst
      have xx1_9 := HXx.out.snd
      refine (nines_g Ff.out).mono ?_
      rintro e w10 ⟨Am, cm, Bm, dm, rfl, hv10, hb10⟩
      have s10 := hb10.size
      have HB10 := Lib.hid (below_chain HB9.out hb10)
      replace Ff := Lib.hid (Ff.out.next hb10)
      replace Fu := Lib.hid (Fu.out.next hb10)
      replace Fq := Lib.hid (Fq.out.next hb10)
      replace Fx := Lib.hid (Fx.out.next hb10)
      replace HXf := Lib.hid (HXf.out.next hb10)
      replace HXu := Lib.hid (HXu.out.next hb10)
      replace HXq := Lib.hid (HXq.out.next hb10)
      replace HXx := Lib.hid (HXx.out.next hb10)
      have Fm := Lib.hid hv10
      clear hv10 hb10
      clear lf_9 xf0_9 xf1_9 lu_9 xu0_9 xu1_9 lq_9 xq0_9 xq1_9 lx_9 xx0_9 xx1_9
      have lf_10 := HXf.out.lt
      have xf0_10 := HXf.out.fst
      have xf1_10 := HXf.out.snd
      have lu_10 := HXu.out.lt
      have xu0_10 := HXu.out.fst
      have xu1_10 := HXu.out.snd
      have lq_10 := HXq.out.lt
      have xq0_10 := HXq.out.fst
      have xq1_10 := HXq.out.snd
      have lx_10 := HXx.out.lt
      have xx0_10 := HXx.out.fst
      have xx1_10 := HXx.out.snd
      obtain ⟨w11, hV11⟩ : ∃ V, w10.alloc (.cells #[.slice Am n cm, .slice Bm n dm] 25) = V := ⟨_, rfl⟩
      have hb11 : Below w10.heap.size w10 w11 := by rw [← hV11]; exact (Below.refl _ _).alloc (Nat.le_refl _) _
      have HXm' : Hid (Box w11 w10.heap.size (.slice Am n cm) (.slice Bm n dm)) := Lib.hid (by rw [← hV11]; exact Box.new w10 _ _)
      have zm : w10.heap.size < w11.heap.size := HXm'.out.lt
      have HV11 := Lib.hid hV11
      have s11 := hb11.size
      have HB11 := Lib.hid (below_chain HB10.out hb11)
      replace Ff := Lib.hid (Ff.out.next hb11)
      replace Fu := Lib.hid (Fu.out.next hb11)
      replace Fq := Lib.hid (Fq.out.next hb11)
      replace Fx := Lib.hid (Fx.out.next hb11)
      replace Fm := Lib.hid (Fm.out.next hb11)
      replace HXf := Lib.hid (HXf.out.next hb11)
      replace HXu := Lib.hid (HXu.out.next hb11)
      replace HXq := Lib.hid (HXq.out.next hb11)
      replace HXx := Lib.hid (HXx.out.next hb11)
      clear hb11 hV11
      have HXm := HXm'
      clear HXm'
      go_wp2_with fail
      rw [HV11.out]
      clear lf_10 xf0_10 xf1_10 lu_10 xu0_10 xu1_10 lq_10 xq0_10 xq1_10 lx_10 xx0_10 xx1_10
      have lf_11 := HXf.out.lt
      have xf0_11 := HXf.out.fst
      have xf1_11 := HXf.out.snd
      have lu_11 := HXu.out.lt
      have xu0_11 := HXu.out.fst
      have xu1_11 := HXu.out.snd
      have lq_11 := HXq.out.lt
      have xq0_11 := HXq.out.fst
      have xq1_11 := HXq.out.snd
      have lx_11 := HXx.out.lt
      have xx0_11 := HXx.out.fst
      have xx1_11 := HXx.out.snd
      have lm_11 := HXm.out.lt
      have xm0_11 := HXm.out.fst
      have xm1_11 := HXm.out.snd
      refine (sum_g Fm.out K_r7.out).mono ?_
      rintro e w12 ⟨Ay, cy, By, dy, rfl, hv12, hb12⟩
      have s12 := hb12.size
      have HB12 := Lib.hid (below_chain HB11.out hb12)
      replace Ff := Lib.hid (Ff.out.next hb12)
      replace Fu := Lib.hid (Fu.out.next hb12)
      replace Fq := Lib.hid (Fq.out.next hb12)
      replace Fx := Lib.hid (Fx.out.next hb12)
      replace Fm := Lib.hid (Fm.out.next hb12)
      replace HXf := Lib.hid (HXf.out.next hb12)
      replace HXu := Lib.hid (HXu.out.next hb12)
      replace HXq := Lib.hid (HXq.out.next hb12)
      replace HXx := Lib.hid (HXx.out.next hb12)
      replace HXm := Lib.hid (HXm.out.next hb12)
      have Fy := Lib.hid hv12
      clear hv12 hb12
      clear lf_11 xf0_11 xf1_11 lu_11 xu0_11 xu1_11 lq_11 xq0_11 xq1_11 lx_11 xx0_11 xx1_11 lm_11 xm0_11 xm1_11
      have lf_12 := HXf.out.lt
      have xf0_12 := HXf.out.fst
      have xf1_12 := HXf.out.snd
      have lu_12 := HXu.out.lt
      have xu0_12 := HXu.out.fst
      have xu1_12 := HXu.out.snd
      have lq_12 := HXq.out.lt
      have xq0_12 := HXq.out.fst
      have xq1_12 := HXq.out.snd
      have lx_12 := HXx.out.lt
      have xx0_12 := HXx.out.fst
      have xx1_12 := HXx.out.snd
      have lm_12 := HXm.out.lt
      have xm0_12 := HXm.out.fst
      have xm1_12 := HXm.out.snd
      obtain ⟨w13, hV13⟩ : ∃ V, w12.alloc (.cells #[.slice Ay n cy, .slice By n dy] 25) = V := ⟨_, rfl⟩
      have hb13 : Below w12.heap.size w12 w13 := by rw [← hV13]; exact (Below.refl _ _).alloc (Nat.le_refl _) _
      have HXy' : Hid (Box w13 w12.heap.size (.slice Ay n cy) (.slice By n dy)) := Lib.hid (by rw [← hV13]; exact Box.new w12 _ _)
      have zy : w12.heap.size < w13.heap.size := HXy'.out.lt
      have HV13 := Lib.hid hV13
      have s13 := hb13.size
      have HB13 := Lib.hid (below_chain HB12.out hb13)
      replace Ff := Lib.hid (Ff.out.next hb13)
      replace Fu := Lib.hid (Fu.out.next hb13)
      replace Fq := Lib.hid (Fq.out.next hb13)
      replace Fx := Lib.hid (Fx.out.next hb13)
      replace Fm := Lib.hid (Fm.out.next hb13)
      replace Fy := Lib.hid (Fy.out.next hb13)
      replace HXf := Lib.hid (HXf.out.next hb13)
      replace HXu := Lib.hid (HXu.out.next hb13)
      replace HXq := Lib.hid (HXq.out.next hb13)
      replace HXx := Lib.hid (HXx.out.next hb13)
      replace HXm := Lib.hid (HXm.out.next hb13)
      clear hb13 hV13
      have HXy := HXy'
      clear HXy'
      go_wp2_with fail
      rw [HV13.out]
      clear lf_12 xf0_12 xf1_12 lu_12 xu0_12 xu1_12 lq_12 xq0_12 xq1_12 lx_12 xx0_12 xx1_12 lm_12 xm0_12 xm1_12
      have lf_13 := HXf.out.lt
      have xf0_13 := HXf.out.fst
      have xf1_13 := HXf.out.snd
      have lu_13 := HXu.out.lt
      have xu0_13 := HXu.out.fst
      have xu1_13 := HXu.out.snd
      have lq_13 := HXq.out.lt
      have xq0_13 := HXq.out.fst
      have xq1_13 := HXq.out.snd
      have lx_13 := HXx.out.lt
      have xx0_13 := HXx.out.fst
      have xx1_13 := HXx.out.snd
      have lm_13 := HXm.out.lt
      have xm0_13 := HXm.out.fst
      have xm1_13 := HXm.out.snd
      have ly_13 := HXy.out.lt
      have xy0_13 := HXy.out.fst
      have xy1_13 := HXy.out.snd
      refine (nines_g Fu.out).mono ?_
      rintro e w14 ⟨Az, cz, Bz, dz, rfl, hv14, hb14⟩
      have s14 := hb14.size
      have HB14 := Lib.hid (below_chain HB13.out hb14)
      replace Ff := Lib.hid (Ff.out.next hb14)
      replace Fu := Lib.hid (Fu.out.next hb14)
      replace Fq := Lib.hid (Fq.out.next hb14)
      replace Fx := Lib.hid (Fx.out.next hb14)
      replace Fm := Lib.hid (Fm.out.next hb14)
      replace Fy := Lib.hid (Fy.out.next hb14)
      replace HXf := Lib.hid (HXf.out.next hb14)
      replace HXu := Lib.hid (HXu.out.next hb14)
      replace HXq := Lib.hid (HXq.out.next hb14)
      replace HXx := Lib.hid (HXx.out.next hb14)
      replace HXm := Lib.hid (HXm.out.next hb14)
      replace HXy := Lib.hid (HXy.out.next hb14)
      have Fz := Lib.hid hv14
      clear hv14 hb14
      clear lf_13 xf0_13 xf1_13 lu_13 xu0_13 xu1_13 lq_13 xq0_13 xq1_13 lx_13 xx0_13 xx1_13 lm_13 xm0_13 xm1_13 ly_13 xy0_13 xy1_13
      have lf_14 := HXf.out.lt
      have xf0_14 := HXf.out.fst
      have xf1_14 := HXf.out.snd
      have lu_14 := HXu.out.lt
      have xu0_14 := HXu.out.fst
      have xu1_14 := HXu.out.snd
      have lq_14 := HXq.out.lt
      have xq0_14 := HXq.out.fst
      have xq1_14 := HXq.out.snd
      have lx_14 := HXx.out.lt
      have xx0_14 := HXx.out.fst
      have xx1_14 := HXx.out.snd
      have lm_14 := HXm.out.lt
      have xm0_14 := HXm.out.fst
      have xm1_14 := HXm.out.snd
      have ly_14 := HXy.out.lt
      have xy0_14 := HXy.out.fst
      have xy1_14 := HXy.out.snd
      obtain ⟨w15, hV15⟩ : ∃ V, w14.alloc (.cells #[.slice Az n cz, .slice Bz n dz] 25) = V := ⟨_, rfl⟩
      have hb15 : Below w14.heap.size w14 w15 := by rw [← hV15]; exact (Below.refl _ _).alloc (Nat.le_refl _) _
      have HXz' : Hid (Box w15 w14.heap.size (.slice Az n cz) (.slice Bz n dz)) := Lib.hid (by rw [← hV15]; exact Box.new w14 _ _)
      have zz : w14.heap.size < w15.heap.size := HXz'.out.lt
      have HV15 := Lib.hid hV15
      have s15 := hb15.size
      have HB15 := Lib.hid (below_chain HB14.out hb15)
      replace Ff := Lib.hid (Ff.out.next hb15)
      replace Fu := Lib.hid (Fu.out.next hb15)
      replace Fq := Lib.hid (Fq.out.next hb15)
      replace Fx := Lib.hid (Fx.out.next hb15)
      replace Fm := Lib.hid (Fm.out.next hb15)
      replace Fy := Lib.hid (Fy.out.next hb15)
      replace Fz := Lib.hid (Fz.out.next hb15)
      replace HXf := Lib.hid (HXf.out.next hb15)
      replace HXu := Lib.hid (HXu.out.next hb15)
      replace HXq := Lib.hid (HXq.out.next hb15)
      replace HXx := Lib.hid (HXx.out.next hb15)
      replace HXm := Lib.hid (HXm.out.next hb15)
      replace HXy := Lib.hid (HXy.out.next hb15)
      clear hb15 hV15
      have HXz := HXz'
      clear HXz'
      have u7 : IntKind.i64.wrap (V - N) = U := by rw [K_hG.out, K_rU.out]; exact IntWalk.i64_in _ (by have := K_rU.out; omega)
      go_wp2_with fail
      rw [HV15.out]
      clear lf_14 xf0_14 xf1_14 lu_14 xu0_14 xu1_14 lq_14 xq0_14 xq1_14 lx_14 xx0_14 xx1_14 lm_14 xm0_14 xm1_14 ly_14 xy0_14 xy1_14
      have lf_15 := HXf.out.lt
      have xf0_15 := HXf.out.fst
      have xf1_15 := HXf.out.snd
      have lu_15 := HXu.out.lt
      have xu0_15 := HXu.out.fst
      have xu1_15 := HXu.out.snd
      have lq_15 := HXq.out.lt
      have xq0_15 := HXq.out.fst
      have xq1_15 := HXq.out.snd
      have lx_15 := HXx.out.lt
      have xx0_15 := HXx.out.fst
      have xx1_15 := HXx.out.snd
      have lm_15 := HXm.out.lt
      have xm0_15 := HXm.out.fst
      have xm1_15 := HXm.out.snd
      have ly_15 := HXy.out.lt
      have xy0_15 := HXy.out.fst
      have xy1_15 := HXy.out.snd
      have lz_15 := HXz.out.lt
      have xz0_15 := HXz.out.fst
      have xz1_15 := HXz.out.snd
      have KS : Hid (∀ w', SB w15 w' → (w'.cell? ⟨w1.heap.size, 0, none⟩ = some (.slice Af n cf) ∧ w'.cell? ⟨w1.heap.size, 1, none⟩ = some (.slice Bf n df) ∧ w'.cell? ⟨w3.heap.size, 0, none⟩ = some (.slice Au n cu) ∧ w'.cell? ⟨w3.heap.size, 1, none⟩ = some (.slice Bu n du) ∧ w'.cell? ⟨w8.heap.size, 0, none⟩ = some (.slice Ax n cx) ∧ w'.cell? ⟨w8.heap.size, 1, none⟩ = some (.slice Bx n dx) ∧ w'.cell? ⟨w12.heap.size, 0, none⟩ = some (.slice Ay n cy) ∧ w'.cell? ⟨w12.heap.size, 1, none⟩ = some (.slice By n dy) ∧ w'.cell? ⟨w14.heap.size, 0, none⟩ = some (.slice Az n cz) ∧ w'.cell? ⟨w14.heap.size, 1, none⟩ = some (.slice Bz n dz) ∧ SB w15 w')) :=
        Lib.hid fun w' h => ⟨(Below.cell h (p := ⟨w1.heap.size, 0, none⟩) (by show w1.heap.size < w15.heap.size; omega)).trans xf0_15, (Below.cell h (p := ⟨w1.heap.size, 1, none⟩) (by show w1.heap.size < w15.heap.size; omega)).trans xf1_15, (Below.cell h (p := ⟨w3.heap.size, 0, none⟩) (by show w3.heap.size < w15.heap.size; omega)).trans xu0_15, (Below.cell h (p := ⟨w3.heap.size, 1, none⟩) (by show w3.heap.size < w15.heap.size; omega)).trans xu1_15, (Below.cell h (p := ⟨w8.heap.size, 0, none⟩) (by show w8.heap.size < w15.heap.size; omega)).trans xx0_15, (Below.cell h (p := ⟨w8.heap.size, 1, none⟩) (by show w8.heap.size < w15.heap.size; omega)).trans xx1_15, (Below.cell h (p := ⟨w12.heap.size, 0, none⟩) (by show w12.heap.size < w15.heap.size; omega)).trans xy0_15, (Below.cell h (p := ⟨w12.heap.size, 1, none⟩) (by show w12.heap.size < w15.heap.size; omega)).trans xy1_15, (Below.cell h (p := ⟨w14.heap.size, 0, none⟩) (by show w14.heap.size < w15.heap.size; omega)).trans xz0_15, (Below.cell h (p := ⟨w14.heap.size, 1, none⟩) (by show w14.heap.size < w15.heap.size; omega)).trans xz1_15, h⟩
      have hsb := SB.refl w15
      have Gf := Lib.hid (fun (v : World) (h : SB w15 v) => Ff.out.next h)
      have Gu := Lib.hid (fun (v : World) (h : SB w15 v) => Fu.out.next h)
      have Gq := Lib.hid (fun (v : World) (h : SB w15 v) => Fq.out.next h)
      have Gx := Lib.hid (fun (v : World) (h : SB w15 v) => Fx.out.next h)
      have Gm := Lib.hid (fun (v : World) (h : SB w15 v) => Fm.out.next h)
      have Gy := Lib.hid (fun (v : World) (h : SB w15 v) => Fy.out.next h)
      have Gz := Lib.hid (fun (v : World) (h : SB w15 v) => Fz.out.next h)
      go_region_held3 (fun w' => w'.cell? ⟨w1.heap.size, 0, none⟩ = some (.slice Af n cf) ∧ w'.cell? ⟨w1.heap.size, 1, none⟩ = some (.slice Bf n df) ∧ w'.cell? ⟨w3.heap.size, 0, none⟩ = some (.slice Au n cu) ∧ w'.cell? ⟨w3.heap.size, 1, none⟩ = some (.slice Bu n du) ∧ w'.cell? ⟨w8.heap.size, 0, none⟩ = some (.slice Ax n cx) ∧ w'.cell? ⟨w8.heap.size, 1, none⟩ = some (.slice Bx n dx) ∧ w'.cell? ⟨w12.heap.size, 0, none⟩ = some (.slice Ay n cy) ∧ w'.cell? ⟨w12.heap.size, 1, none⟩ = some (.slice By n dy) ∧ w'.cell? ⟨w14.heap.size, 0, none⟩ = some (.slice Az n cz) ∧ w'.cell? ⟨w14.heap.size, 1, none⟩ = some (.slice Bz n dz) ∧ SB w15 w')
        (first | ((try go_split_ands); refine KS.out _ ?_; first | assumption | (exact SB.drew (by assumption))))
        (first
          | (go_at_call 23; (try go_split_ands); ((with_reducible refine (same_g (Gx.out _ (by assumption)) (Gf.out _ (by assumption))).mono ?_); rintro e w16 ⟨rfl, hb16⟩; have hs16 : SB w15 w16 := SB.below (by assumption) hb16))
          | (go_at_call 23; (try go_split_ands); ((with_reducible refine (same_g (Gy.out _ (by assumption)) (Gz.out _ (by assumption))).mono ?_); rintro e w17 ⟨rfl, hb17⟩; have hs17 : SB w15 w17 := SB.below (by assumption) hb17))
          | (go_at_call 18; (try go_split_ands); ((with_reducible refine (value_v (Gu.out _ (by assumption)) K_hU.out).mono ?_); rintro e w18 ⟨rfl, hb18⟩; have hs18 : SB w15 w18 := SB.below (by assumption) hb18))
          | (go_at_call 18; (try go_split_ands); ((with_reducible refine (value_v (Gf.out _ (by assumption)) K_hV.out).mono ?_); rintro e w19 ⟨rfl, hb19⟩; have hs19 : SB w15 w19 := SB.below (by assumption) hb19))
        )
      go_wp2
      go_ret
      exact ⟨rfl, below_chain HB15.out hs19⟩
end Go.Proofs.Ytpaepdlkjblfgaa.fnFrameLess
