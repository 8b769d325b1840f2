/-
  FnFrameDigit returns true for every code: a digit has its beads.
-/
import Derived.Test.YtpaepdlkjblfgaaFrLaw2
import Derived.Test.YtpaepdlkjblfgaaFrDraw3
namespace Go.Proofs.Ytpaepdlkjblfgaa.fnFrameDigit
open Go.RowKit

set_option maxRecDepth 100000 in
set_option maxHeartbeats 4000000 in
theorem walk (a0 : Option Addr) (len0 cap0 : Nat) (z0 : List Int) (w : World) (w0 : IsRow .u8 w a0 len0 cap0 z0) :
    Calls Try.prog 3 #[.slice a0 len0 cap0] w fun e w' => e = .returned (.bool true) ∧ Below w.heap.size w w' := by
  by_cases hbig : 1048576 < len0
  · clear w0
    go_enter Try.func3, Try.ntmps3
    go_wp2
    go_ret
    exact ⟨rfl, Below.refl _ _⟩
  · have HC := Lib.hid (Bytes.of_row w0)
    clear w0
    go_enter Try.func3, Try.ntmps3
    go_wp2_with fail
    refine (DrawFrameDigit_any _ _ _ _ HC.out (by omega)).mono ?_
    rintro e w1 ⟨v1, k, rfl, k0, k1, Af, n, cf, Bf, m, df, hs, ls, rfl, hxf, hyf, hn6, hn1, hm6, hb1⟩
    have HVf : Hid (FrV w1 (.agg #[.slice Af n cf, .slice Bf m df]) hs ls) := Lib.hid ⟨Af, n, cf, Bf, m, df, rfl, hxf, hyf⟩
    clear hxf hyf
    have s1 := hb1.size
    have HB1 := Lib.hid hb1
    clear hb1
    rcases frIs_digit hs ls k with hno | ⟨ds, j, g, hd, rfl, rfl, hl1, hl6, rfl, hdg⟩
    · have HNO := Lib.hid hno
      clear hno
      have Ff := HVf
      clear HVf
      obtain ⟨w2, hV2⟩ : ∃ V, w1.alloc (.cells #[.slice Af n cf, .slice Bf m df] 25) = V := ⟨_, rfl⟩
      have hb2 : Below w1.heap.size w1 w2 := by rw [← hV2]; exact (Below.refl _ _).alloc (Nat.le_refl _) _
      have HXf' : Hid (Box w2 w1.heap.size (.slice Af n cf) (.slice Bf m df)) := Lib.hid (by rw [← hV2]; exact Box.new w1 _ _)
      have zf : w1.heap.size < w2.heap.size := HXf'.out.lt
      have HV2 := Lib.hid hV2
      have s2 := hb2.size
      have HB2 := Lib.hid (below_chain HB1.out hb2)
      replace Ff := Lib.hid (Ff.out.next hb2)
      clear hb2 hV2
      have HXf := HXf'
      clear HXf'
      go_wp2_with fail
      rw [HV2.out]
      have lf_2 := HXf.out.lt
      have xf0_2 := HXf.out.fst
      have xf1_2 := HXf.out.snd
      refine (FrameDigit_any _ _ _ _ _ _ hs ls k (-1) _ Ff.out.rows.1 Ff.out.rows.2 HNO.out).mono ?_
      rintro e w3 ⟨rfl, hb3⟩
      have s3 := hb3.size
      have HB3 := Lib.hid (below_chain HB2.out hb3)
      replace Ff := Lib.hid (Ff.out.next hb3)
      replace HXf := Lib.hid (HXf.out.next hb3)
      clear hb3
      clear lf_2 xf0_2 xf1_2
      have lf_3 := HXf.out.lt
      have xf0_3 := HXf.out.fst
      have xf1_3 := HXf.out.snd
      go_wp2_with fail
      refine (specFrameDigit_any _ _ _ _ _ _ hs ls k (-1) _ Ff.out.rows.1 Ff.out.rows.2 HNO.out).mono ?_
      rintro e w4 ⟨rfl, hb4⟩
      have s4 := hb4.size
      have HB4 := Lib.hid (below_chain HB3.out hb4)
      replace Ff := Lib.hid (Ff.out.next hb4)
      replace HXf := Lib.hid (HXf.out.next hb4)
      clear hb4
      clear lf_3 xf0_3 xf1_3
      have lf_4 := HXf.out.lt
      have xf0_4 := HXf.out.fst
      have xf1_4 := HXf.out.snd
      go_wp2
      go_ret
      exact ⟨rfl, HB4.out⟩
    · obtain ⟨r, hr⟩ : ∃ r, ds.set j 9 = r := ⟨_, rfl⟩
      obtain ⟨p, hp⟩ := frAt_nine hd hdg
      rw [hr] at hp
      obtain ⟨r1, r2, r3, -⟩ := frAt_some (.inl rfl) hd hp
      have hr9 : r[j]? = some 9 := by rw [← hr, List.getElem?_set_self (List.getElem?_eq_some_iff.1 hdg).1]
      obtain ⟨g0, g9⟩ := hd g (List.mem_of_getElem? hdg)
      have hj6 : j ≤ 6 := by have := (List.getElem?_eq_some_iff.1 hdg).1; omega
      obtain ⟨V0, V1⟩ := val_le6 hd hl6
      obtain ⟨T0, T1⟩ := ten_bd j hj6
      obtain ⟨V, hV⟩ : ∃ V, Fr.val ds = V := ⟨_, rfl⟩
      obtain ⟨T, hT⟩ : ∃ T, Fr.ten j = T := ⟨_, rfl⟩
      rw [hV] at V0 V1 r3
      rw [Int.toNat_natCast, hT, Int.one_mul] at r3
      rw [hT] at T0 T1
      obtain ⟨G0, G1⟩ := mul_in (show 0 ≤ 9 - g by omega) (show 9 - g ≤ 9 by omega) (show 0 ≤ T by omega) T1
      obtain ⟨G, hG⟩ : ∃ G, (9 - g) * T = G := ⟨_, rfl⟩
      rw [hG] at G0 G1 r3
      obtain ⟨rfl, hlen, hg⟩ := HVf.out.good hd hl1 hl6
      have HLEN := Lib.hid hlen
      have HD := Lib.hid hd
      have Ff := Lib.hid hg
      clear HVf hlen hg hd hl1 hl6
      obtain ⟨bh, oh, bl, ol, rfl, rfl, hbh, hbl, hjn, hch, hcl⟩ := rows_at Ff.out hdg
      obtain ⟨a, ha⟩ : ∃ a, g / 5 = a := ⟨_, rfl⟩
      obtain ⟨b, hb⟩ : ∃ b, g % 5 = b := ⟨_, rfl⟩
      have a0 : 0 ≤ a ∧ a ≤ 1 := by omega
      have b0 : 0 ≤ b ∧ b ≤ 4 := by omega
      have hab : 5 * a + b = g := by omega
      obtain ⟨a0, a1⟩ := a0
      obtain ⟨b0, b1⟩ := b0
      have K_hdg := Lib.hid hdg
      have K_hr9 := Lib.hid hr9
      have K_hp := Lib.hid hp
      have K_ha := Lib.hid ha
      have K_hb := Lib.hid hb
      have K_hab := Lib.hid hab
      have K_hV := Lib.hid hV
      have K_hT := Lib.hid hT
      have K_hG := Lib.hid hG
      have K_r3 := Lib.hid r3
      clear hdg hr9 hp hch hcl hab hV hT hG r3 r1 r2 ha hb hr hbh hbl
      obtain ⟨w2, hV2⟩ : ∃ V, w1.alloc (.cells #[.slice (some ⟨bh, oh, none⟩) n cf, .slice (some ⟨bl, ol, none⟩) n df] 25) = V := ⟨_, rfl⟩
      have hb2 : Below w1.heap.size w1 w2 := by rw [← hV2]; exact (Below.refl _ _).alloc (Nat.le_refl _) _
      have HXf' : Hid (Box w2 w1.heap.size (.slice (some ⟨bh, oh, none⟩) n cf) (.slice (some ⟨bl, ol, none⟩) n df)) := Lib.hid (by rw [← hV2]; exact Box.new w1 _ _)
      have zf : w1.heap.size < w2.heap.size := HXf'.out.lt
      have HV2 := Lib.hid hV2
      have s2 := hb2.size
      have HB2 := Lib.hid (below_chain HB1.out hb2)
      replace Ff := Lib.hid (Ff.out.next hb2)
      clear hb2 hV2
      have HXf := HXf'
      clear HXf'
      have g9' : (0 : Int) ≤ 9 - g := by omega
      go_wp2_with fail
      rw [HV2.out]
      have lf_2 := HXf.out.lt
      have xf0_2 := HXf.out.fst
      have xf1_2 := HXf.out.snd
      refine (digit_g Ff.out K_hdg.out).mono ?_
      rintro e w3 ⟨rfl, hb3⟩
      have s3 := hb3.size
      have HB3 := Lib.hid (below_chain HB2.out hb3)
      replace Ff := Lib.hid (Ff.out.next hb3)
      replace HXf := Lib.hid (HXf.out.next hb3)
      clear hb3
      clear lf_2 xf0_2 xf1_2
      have lf_3 := HXf.out.lt
      have xf0_3 := HXf.out.fst
      have xf1_3 := HXf.out.snd
      go_wp2_with fail
      refine (specdigit_g Ff.out K_hdg.out).mono ?_
      rintro e w4 ⟨rfl, hb4⟩
      have s4 := hb4.size
      have HB4 := Lib.hid (below_chain HB3.out hb4)
      replace Ff := Lib.hid (Ff.out.next hb4)
      replace HXf := Lib.hid (HXf.out.next hb4)
      clear hb4
      clear lf_3 xf0_3 xf1_3
      have lf_4 := HXf.out.lt
      have xf0_4 := HXf.out.fst
      have xf1_4 := HXf.out.snd
      go_wp2_with fail
      refine (add_g Ff.out K_hp.out).mono ?_
      rintro e w5 ⟨Ax, cx, Bx, dx, rfl, hv5, hb5⟩
      have s5 := hb5.size
      have HB5 := Lib.hid (below_chain HB4.out hb5)
      replace Ff := Lib.hid (Ff.out.next hb5)
      replace HXf := Lib.hid (HXf.out.next hb5)
      have Fx := Lib.hid hv5
      clear hv5 hb5
      clear lf_4 xf0_4 xf1_4
      have lf_5 := HXf.out.lt
      have xf0_5 := HXf.out.fst
      have xf1_5 := HXf.out.snd
      obtain ⟨w6, hV6⟩ : ∃ V, w5.alloc (.cells #[.slice Ax n cx, .slice Bx n dx] 25) = V := ⟨_, rfl⟩
      have hb6 : Below w5.heap.size w5 w6 := by rw [← hV6]; exact (Below.refl _ _).alloc (Nat.le_refl _) _
      have HXx' : Hid (Box w6 w5.heap.size (.slice Ax n cx) (.slice Bx n dx)) := Lib.hid (by rw [← hV6]; exact Box.new w5 _ _)
      have zx : w5.heap.size < w6.heap.size := HXx'.out.lt
      have HV6 := Lib.hid hV6
      have s6 := hb6.size
      have HB6 := Lib.hid (below_chain HB5.out hb6)
      replace Ff := Lib.hid (Ff.out.next hb6)
      replace Fx := Lib.hid (Fx.out.next hb6)
      replace HXf := Lib.hid (HXf.out.next hb6)
      clear hb6 hV6
      have HXx := HXx'
      clear HXx'
      have u1 : (0 : Int) ≤ (j : Int) := by omega
      have u2 : (j : Int) < (n : Int) := by omega
      have u3 : IntKind.i64.wrap (5 * a) = 5 * a := IntWalk.i64_in _ (by omega)
      have u4 : IntKind.i64.wrap (5 * a + b) = g := by rw [K_hab.out]; exact IntWalk.i64_in _ (by omega)
      have u5 : IntKind.i64.wrap (9 - g) = 9 - g := IntWalk.i64_in _ (by omega)
      have u6 : IntKind.i64.wrap ((9 - g) * T) = G := by rw [K_hG.out]; exact IntWalk.i64_in _ (by omega)
      have u7 : IntKind.i64.wrap (V + G) = V + G := IntWalk.i64_in _ (by omega)
      obtain ⟨hbh, hbl, ch, cl⟩ := rows_cell Ff.out K_hdg.out
      rw [K_ha.out] at ch
      rw [K_hb.out] at cl
      go_wp2_with fail
      rw [HV6.out]
      clear lf_5 xf0_5 xf1_5
      have lf_6 := HXf.out.lt
      have xf0_6 := HXf.out.fst
      have xf1_6 := HXf.out.snd
      have lx_6 := HXx.out.lt
      have xx0_6 := HXx.out.fst
      have xx1_6 := HXx.out.snd
      have KS : Hid (∀ w', SB w6 w' → (w'.cell? ⟨w1.heap.size, 0, none⟩ = some (.slice (some ⟨bh, oh, none⟩) n cf) ∧ w'.cell? ⟨w1.heap.size, 1, none⟩ = some (.slice (some ⟨bl, ol, none⟩) n df) ∧ w'.cell? ⟨w5.heap.size, 0, none⟩ = some (.slice Ax n cx) ∧ w'.cell? ⟨w5.heap.size, 1, none⟩ = some (.slice Bx n dx) ∧ w'.cell? ⟨bh, oh + j, none⟩ = some (.int .i64 a) ∧ w'.cell? ⟨bl, ol + j, none⟩ = some (.int .i64 b) ∧ SB w6 w')) :=
        Lib.hid fun w' h => ⟨(Below.cell h (p := ⟨w1.heap.size, 0, none⟩) (by show w1.heap.size < w6.heap.size; omega)).trans xf0_6, (Below.cell h (p := ⟨w1.heap.size, 1, none⟩) (by show w1.heap.size < w6.heap.size; omega)).trans xf1_6, (Below.cell h (p := ⟨w5.heap.size, 0, none⟩) (by show w5.heap.size < w6.heap.size; omega)).trans xx0_6, (Below.cell h (p := ⟨w5.heap.size, 1, none⟩) (by show w5.heap.size < w6.heap.size; omega)).trans xx1_6, (Below.cell h (p := ⟨bh, oh + j, none⟩) (by show bh < w6.heap.size; omega)).trans ch, (Below.cell h (p := ⟨bl, ol + j, none⟩) (by show bl < w6.heap.size; omega)).trans cl, h⟩
      have hsb := SB.refl w6
      have Gf := Lib.hid (fun (v : World) (h : SB w6 v) => Ff.out.next h)
      have Gx := Lib.hid (fun (v : World) (h : SB w6 v) => Fx.out.next h)
      go_region_held3 (fun w' => w'.cell? ⟨w1.heap.size, 0, none⟩ = some (.slice (some ⟨bh, oh, none⟩) n cf) ∧ w'.cell? ⟨w1.heap.size, 1, none⟩ = some (.slice (some ⟨bl, ol, none⟩) n df) ∧ w'.cell? ⟨w5.heap.size, 0, none⟩ = some (.slice Ax n cx) ∧ w'.cell? ⟨w5.heap.size, 1, none⟩ = some (.slice Bx n dx) ∧ w'.cell? ⟨bh, oh + j, none⟩ = some (.int .i64 a) ∧ w'.cell? ⟨bl, ol + j, none⟩ = some (.int .i64 b) ∧ SB w6 w')
        (first | ((try go_split_ands); refine KS.out _ ?_; first | assumption | (exact SB.drew (by assumption))))
        (first
          | (go_at_call 15; (try go_split_ands); ((with_reducible refine (digit_g (Gx.out _ (by assumption)) K_hr9.out).mono ?_); rintro e w7 ⟨rfl, hb7⟩; have hs7 : SB w6 w7 := SB.below (by assumption) hb7))
          | (go_at_call 18; (try go_split_ands); ((with_reducible refine (value_v (Gx.out _ (by assumption)) K_r3.out).mono ?_); rintro e w8 ⟨rfl, hb8⟩; have hs8 : SB w6 w8 := SB.below (by assumption) hb8))
          | (go_at_call 18; (try go_split_ands); ((with_reducible refine (value_v (Gf.out _ (by assumption)) K_hV.out).mono ?_); rintro e w9 ⟨rfl, hb9⟩; have hs9 : SB w6 w9 := SB.below (by assumption) hb9))
          | (go_at_call 19; (try go_split_ands); ((with_reducible refine (tenTo_v hj6 K_hT.out).mono ?_); rintro e w10 ⟨rfl, hw10⟩; subst hw10))
        )
      go_wp2
      go_ret
      exact ⟨rfl, below_chain HB6.out hs9⟩
end Go.Proofs.Ytpaepdlkjblfgaa.fnFrameDigit
