/-
  FnFrameSumFails returns true for every code: a frame is full at its last number.
-/
import Derived.Test.YtpaepdlkjblfgaaFrLaw4
import Derived.Test.YtpaepdlkjblfgaaFrDraw6
namespace Go.Proofs.Ytpaepdlkjblfgaa.fnFrameSumFails
open Go.RowKit

set_option maxRecDepth 100000 in
set_option maxHeartbeats 4000000 in
theorem walk (a0 : Option Addr) (len0 cap0 : Nat) (z0 : List Int) (a1 : Option Addr) (len1 cap1 : Nat) (z1 : List Int) (w : World) (w0 : IsRow .u8 w a0 len0 cap0 z0) (_w1 : IsRow .u8 w a1 len1 cap1 z1) :
    Calls Try.prog 4 #[.slice a0 len0 cap0, .slice a1 len1 cap1] w fun e w' => e = .returned (.bool true) ∧ Below w.heap.size w w' := by
  by_cases hbig : 1048576 < len0 ∨ 1048576 < len1
  · clear w0 _w1
    by_cases hb0 : 1048576 < len0
    · go_enter Try.func4, Try.ntmps4
      go_wp2
      go_ret
      exact ⟨rfl, Below.refl _ _⟩
    · have hb1 : 1048576 < len1 := by omega
      go_enter Try.func4, Try.ntmps4
      go_wp2
      go_ret
      exact ⟨rfl, Below.refl _ _⟩
  · have HC := Lib.hid (Bytes.of_row w0)
    have hs0 : len0 ≤ 1048576 := by omega
    have hs1 : len1 ≤ 1048576 := by omega
    clear w0 _w1 hbig
    go_enter Try.func4, Try.ntmps4
    go_wp2_with fail
    refine (DrawFrameOf_any _ _ _ _ HC.out (by omega)).mono ?_
    rintro e w1 ⟨m, v, rfl, m0, m7, va, vb, hb1⟩
    have s1 := hb1.size
    have HB1 := Lib.hid hb1
    clear hb1
    rcases okOf_cases m v with hno | ⟨n, rfl, hn1, hn6, v0, v1⟩
    · have HNO := Lib.hid hno
      clear hno
      go_wp2_with fail
      refine (of_n HNO.out _).mono ?_
      rintro e w2 ⟨Au, cu, Bu, du, rfl, hv2, hb2⟩
      have s2 := hb2.size
      have HB2 := Lib.hid (below_chain HB1.out hb2)
      have Fu := Lib.hid hv2
      clear hv2 hb2
      obtain ⟨w3, hV3⟩ : ∃ V, w2.alloc (.cells #[.slice Au 0 cu, .slice Bu 0 du] 25) = V := ⟨_, rfl⟩
      have hb3 : Below w2.heap.size w2 w3 := by rw [← hV3]; exact (Below.refl _ _).alloc (Nat.le_refl _) _
      have HXu' : Hid (Box w3 w2.heap.size (.slice Au 0 cu) (.slice Bu 0 du)) := Lib.hid (by rw [← hV3]; exact Box.new w2 _ _)
      have zu : w2.heap.size < w3.heap.size := HXu'.out.lt
      have HV3 := Lib.hid hV3
      have s3 := hb3.size
      have HB3 := Lib.hid (below_chain HB2.out hb3)
      replace Fu := Lib.hid (Fu.out.next hb3)
      clear hb3 hV3
      have HXu := HXu'
      clear HXu'
      go_wp2_with fail
      rw [HV3.out]
      have lu_3 := HXu.out.lt
      have xu0_3 := HXu.out.fst
      have xu1_3 := HXu.out.snd
      refine (specof_n HNO.out _).mono ?_
      rintro e w4 ⟨Aq, cq, Bq, dq, rfl, hv4, hb4⟩
      have s4 := hb4.size
      have HB4 := Lib.hid (below_chain HB3.out hb4)
      replace Fu := Lib.hid (Fu.out.next hb4)
      replace HXu := Lib.hid (HXu.out.next hb4)
      have Fq := Lib.hid hv4
      clear hv4 hb4
      clear lu_3 xu0_3 xu1_3
      have lu_4 := HXu.out.lt
      have xu0_4 := HXu.out.fst
      have xu1_4 := HXu.out.snd
      obtain ⟨w5, hV5⟩ : ∃ V, w4.alloc (.cells #[.slice Aq 0 cq, .slice Bq 0 dq] 25) = V := ⟨_, rfl⟩
      have hb5 : Below w4.heap.size w4 w5 := by rw [← hV5]; exact (Below.refl _ _).alloc (Nat.le_refl _) _
      have HXq' : Hid (Box w5 w4.heap.size (.slice Aq 0 cq) (.slice Bq 0 dq)) := Lib.hid (by rw [← hV5]; exact Box.new w4 _ _)
      have zq : w4.heap.size < w5.heap.size := HXq'.out.lt
      have HV5 := Lib.hid hV5
      have s5 := hb5.size
      have HB5 := Lib.hid (below_chain HB4.out hb5)
      replace Fu := Lib.hid (Fu.out.next hb5)
      replace Fq := Lib.hid (Fq.out.next hb5)
      replace HXu := Lib.hid (HXu.out.next hb5)
      clear hb5 hV5
      have HXq := HXq'
      clear HXq'
      go_wp2_with fail
      rw [HV5.out]
      clear lu_4 xu0_4 xu1_4
      have lu_5 := HXu.out.lt
      have xu0_5 := HXu.out.fst
      have xu1_5 := HXu.out.snd
      have lq_5 := HXq.out.lt
      have xq0_5 := HXq.out.fst
      have xq1_5 := HXq.out.snd
      refine (sameFrame_eq Fu.out Fq.out).mono ?_
      rintro e w6 ⟨rfl, hb6⟩
      have s6 := hb6.size
      have HB6 := Lib.hid (below_chain HB5.out hb6)
      replace Fu := Lib.hid (Fu.out.next hb6)
      replace Fq := Lib.hid (Fq.out.next hb6)
      replace HXu := Lib.hid (HXu.out.next hb6)
      replace HXq := Lib.hid (HXq.out.next hb6)
      clear hb6
      clear lu_5 xu0_5 xu1_5 lq_5 xq0_5 xq1_5
      have lu_6 := HXu.out.lt
      have xu0_6 := HXu.out.fst
      have xu1_6 := HXu.out.snd
      have lq_6 := HXq.out.lt
      have xq0_6 := HXq.out.fst
      have xq1_6 := HXq.out.snd
      go_wp2_with fail
      refine (sameFrame_eq Fu.out Fq.out).mono ?_
      rintro e w7 ⟨rfl, hb7⟩
      have s7 := hb7.size
      have HB7 := Lib.hid (below_chain HB6.out hb7)
      replace Fu := Lib.hid (Fu.out.next hb7)
      replace Fq := Lib.hid (Fq.out.next hb7)
      replace HXu := Lib.hid (HXu.out.next hb7)
      replace HXq := Lib.hid (HXq.out.next hb7)
      clear hb7
      clear lu_6 xu0_6 xu1_6 lq_6 xq0_6 xq1_6
      have lu_7 := HXu.out.lt
      have xu0_7 := HXu.out.fst
      have xu1_7 := HXu.out.snd
      have lq_7 := HXq.out.lt
      have xq0_7 := HXq.out.fst
      have xq1_7 := HXq.out.snd
      go_wp2
      go_ret
      exact ⟨rfl, HB7.out⟩
    · have hV := val_digitsOf n v v0 v1
      obtain ⟨T0, T1⟩ := ten_bd n hn6
      obtain ⟨T, hT⟩ : ∃ T, Fr.ten n = T := ⟨_, rfl⟩
      have HV1 := Lib.hid v1
      rw [hT] at T0 T1 v1
      obtain ⟨N, hN⟩ : ∃ N, ((len1 : Int) * 7919).tmod T = N := ⟨_, rfl⟩
      have N0 : 0 ≤ N := by rw [← hN]; exact Int.tmod_nonneg _ (by omega)
      have N1 : N < T := by rw [← hN]; exact Int.tmod_lt_of_pos _ (by omega)
      have K_hV := Lib.hid hV
      have K_hT := Lib.hid hT
      have K_hN := Lib.hid hN
      clear hV hT hN
      go_wp2_with fail
      refine (of_g hn1 hn6 v0 HV1.out _).mono ?_
      rintro e w2 ⟨Au, cu, Bu, du, rfl, hv2, hb2⟩
      have s2 := hb2.size
      have HB2 := Lib.hid (below_chain HB1.out hb2)
      have Fu := Lib.hid hv2
      clear hv2 hb2
      obtain ⟨w3, hV3⟩ : ∃ V, w2.alloc (.cells #[.slice Au n cu, .slice Bu n du] 25) = V := ⟨_, rfl⟩
      have hb3 : Below w2.heap.size w2 w3 := by rw [← hV3]; exact (Below.refl _ _).alloc (Nat.le_refl _) _
      have HXu' : Hid (Box w3 w2.heap.size (.slice Au n cu) (.slice Bu n du)) := Lib.hid (by rw [← hV3]; exact Box.new w2 _ _)
      have zu : w2.heap.size < w3.heap.size := HXu'.out.lt
      have HV3 := Lib.hid hV3
      have s3 := hb3.size
      have HB3 := Lib.hid (below_chain HB2.out hb3)
      replace Fu := Lib.hid (Fu.out.next hb3)
      clear hb3 hV3
      have HXu := HXu'
      clear HXu'
      go_wp2_with fail
      rw [HV3.out]
      have lu_3 := HXu.out.lt
      have xu0_3 := HXu.out.fst
      have xu1_3 := HXu.out.snd
      refine (specof_g hn1 hn6 v0 HV1.out _).mono ?_
      rintro e w4 ⟨Aq, cq, Bq, dq, rfl, hv4, hb4⟩
      have s4 := hb4.size
      have HB4 := Lib.hid (below_chain HB3.out hb4)
      replace Fu := Lib.hid (Fu.out.next hb4)
      replace HXu := Lib.hid (HXu.out.next hb4)
      have Fq := Lib.hid hv4
      clear hv4 hb4
      clear lu_3 xu0_3 xu1_3
      have lu_4 := HXu.out.lt
      have xu0_4 := HXu.out.fst
      have xu1_4 := HXu.out.snd
      obtain ⟨w5, hV5⟩ : ∃ V, w4.alloc (.cells #[.slice Aq n cq, .slice Bq n dq] 25) = V := ⟨_, rfl⟩
      have hb5 : Below w4.heap.size w4 w5 := by rw [← hV5]; exact (Below.refl _ _).alloc (Nat.le_refl _) _
      have HXq' : Hid (Box w5 w4.heap.size (.slice Aq n cq) (.slice Bq n dq)) := Lib.hid (by rw [← hV5]; exact Box.new w4 _ _)
      have zq : w4.heap.size < w5.heap.size := HXq'.out.lt
      have HV5 := Lib.hid hV5
      have s5 := hb5.size
      have HB5 := Lib.hid (below_chain HB4.out hb5)
      replace Fu := Lib.hid (Fu.out.next hb5)
      replace Fq := Lib.hid (Fq.out.next hb5)
      replace HXu := Lib.hid (HXu.out.next hb5)
      clear hb5 hV5
      have HXq := HXq'
      clear HXq'
      go_wp2_with fail
      rw [HV5.out]
      clear lu_4 xu0_4 xu1_4
      have lu_5 := HXu.out.lt
      have xu0_5 := HXu.out.fst
      have xu1_5 := HXu.out.snd
      have lq_5 := HXq.out.lt
      have xq0_5 := HXq.out.fst
      have xq1_5 := HXq.out.snd
      refine (same_g Fu.out Fq.out).mono ?_
      rintro e w6 ⟨rfl, hb6⟩
      have s6 := hb6.size
      have HB6 := Lib.hid (below_chain HB5.out hb6)
      replace Fu := Lib.hid (Fu.out.next hb6)
      replace Fq := Lib.hid (Fq.out.next hb6)
      replace HXu := Lib.hid (HXu.out.next hb6)
      replace HXq := Lib.hid (HXq.out.next hb6)
      clear hb6
      clear lu_5 xu0_5 xu1_5 lq_5 xq0_5 xq1_5
      have lu_6 := HXu.out.lt
      have xu0_6 := HXu.out.fst
      have xu1_6 := HXu.out.snd
      have lq_6 := HXq.out.lt
      have xq0_6 := HXq.out.fst
      have xq1_6 := HXq.out.snd
      go_wp2_with fail
      refine (tenTo_v hn6 K_hT.out).mono ?_
      rintro e w' ⟨rfl, rfl⟩
      have hN := K_hN.out
      have hT0 : ¬ T = 0 := by omega
      have hT1 : (T == 0) = false := by simp; omega
      go_wp2_with fail
      refine (sum_b Fu.out K_hV.out K_hT.out N0 N1).mono ?_
      rintro e w7 ⟨Ax, Lx, cx, Bx, Mx, dx, px, rfl, hb7⟩
      have s7 := hb7.size
      have HB7 := Lib.hid (below_chain HB6.out hb7)
      replace Fu := Lib.hid (Fu.out.next hb7)
      replace Fq := Lib.hid (Fq.out.next hb7)
      replace HXu := Lib.hid (HXu.out.next hb7)
      replace HXq := Lib.hid (HXq.out.next hb7)
      clear hb7
      clear lu_6 xu0_6 xu1_6 lq_6 xq0_6 xq1_6
      have lu_7 := HXu.out.lt
      have xu0_7 := HXu.out.fst
      have xu1_7 := HXu.out.snd
      have lq_7 := HXq.out.lt
      have xq0_7 := HXq.out.fst
      have xq1_7 := HXq.out.snd
      obtain ⟨w8, hV8⟩ : ∃ V, w7.alloc (.cells #[.slice Ax Lx cx, .slice Bx Mx dx] 25) = V := ⟨_, rfl⟩
      have hb8 : Below w7.heap.size w7 w8 := by rw [← hV8]; exact (Below.refl _ _).alloc (Nat.le_refl _) _
      have HXx' : Hid (Box w8 w7.heap.size (.slice Ax Lx cx) (.slice Bx Mx dx)) := Lib.hid (by rw [← hV8]; exact Box.new w7 _ _)
      have zx : w7.heap.size < w8.heap.size := HXx'.out.lt
      have HV8 := Lib.hid hV8
      have s8 := hb8.size
      have HB8 := Lib.hid (below_chain HB7.out hb8)
      replace Fu := Lib.hid (Fu.out.next hb8)
      replace Fq := Lib.hid (Fq.out.next hb8)
      replace HXu := Lib.hid (HXu.out.next hb8)
      replace HXq := Lib.hid (HXq.out.next hb8)
      clear hb8 hV8
      have HXx := HXx'
      clear HXx'
      go_wp2_with fail
      rw [HV8.out]
      clear lu_7 xu0_7 xu1_7 lq_7 xq0_7 xq1_7
      have lu_8 := HXu.out.lt
      have xu0_8 := HXu.out.fst
      have xu1_8 := HXu.out.snd
      have lq_8 := HXq.out.lt
      have xq0_8 := HXq.out.fst
      have xq1_8 := HXq.out.snd
      have lx_8 := HXx.out.lt
      have xx0_8 := HXx.out.fst
      have xx1_8 := HXx.out.snd
      refine (less_b Fu.out K_hV.out K_hT.out N0 N1).mono ?_
      rintro e w9 ⟨Ay, Ly, cy, By, My, dy, py, rfl, hb9⟩
      have s9 := hb9.size
      have HB9 := Lib.hid (below_chain HB8.out hb9)
      replace Fu := Lib.hid (Fu.out.next hb9)
      replace Fq := Lib.hid (Fq.out.next hb9)
      replace HXu := Lib.hid (HXu.out.next hb9)
      replace HXq := Lib.hid (HXq.out.next hb9)
      replace HXx := Lib.hid (HXx.out.next hb9)
      clear hb9
      clear lu_8 xu0_8 xu1_8 lq_8 xq0_8 xq1_8 lx_8 xx0_8 xx1_8
      have lu_9 := HXu.out.lt
      have xu0_9 := HXu.out.fst
      have xu1_9 := HXu.out.snd
      have lq_9 := HXq.out.lt
      have xq0_9 := HXq.out.fst
      have xq1_9 := HXq.out.snd
      have lx_9 := HXx.out.lt
      have xx0_9 := HXx.out.fst
      have xx1_9 := HXx.out.snd
      obtain ⟨w10, hV10⟩ : ∃ V, w9.alloc (.cells #[.slice Ay Ly cy, .slice By My dy] 25) = V := ⟨_, rfl⟩
      have hb10 : Below w9.heap.size w9 w10 := by rw [← hV10]; exact (Below.refl _ _).alloc (Nat.le_refl _) _
      have HXy' : Hid (Box w10 w9.heap.size (.slice Ay Ly cy) (.slice By My dy)) := Lib.hid (by rw [← hV10]; exact Box.new w9 _ _)
      have zy : w9.heap.size < w10.heap.size := HXy'.out.lt
      have HV10 := Lib.hid hV10
      have s10 := hb10.size
      have HB10 := Lib.hid (below_chain HB9.out hb10)
      replace Fu := Lib.hid (Fu.out.next hb10)
      replace Fq := Lib.hid (Fq.out.next hb10)
      replace HXu := Lib.hid (HXu.out.next hb10)
      replace HXq := Lib.hid (HXq.out.next hb10)
      replace HXx := Lib.hid (HXx.out.next hb10)
      clear hb10 hV10
      have HXy := HXy'
      clear HXy'
      go_wp2_with fail
      rw [HV10.out]
      clear lu_9 xu0_9 xu1_9 lq_9 xq0_9 xq1_9 lx_9 xx0_9 xx1_9
      have lu_10 := HXu.out.lt
      have xu0_10 := HXu.out.fst
      have xu1_10 := HXu.out.snd
      have lq_10 := HXq.out.lt
      have xq0_10 := HXq.out.fst
      have xq1_10 := HXq.out.snd
      have lx_10 := HXx.out.lt
      have xx0_10 := HXx.out.fst
      have xx1_10 := HXx.out.snd
      have ly_10 := HXy.out.lt
      have xy0_10 := HXy.out.fst
      have xy1_10 := HXy.out.snd
      refine (tenTo_v hn6 K_hT.out).mono ?_
      rintro e w' ⟨rfl, rfl⟩
      go_wp2
      go_ret
      exact ⟨rfl, HB10.out⟩
end Go.Proofs.Ytpaepdlkjblfgaa.fnFrameSumFails
