/-
  FnExactFrameTake returns true for every input: the program's answer is the reference's, the argument stays, and what comes back is shared with nothing.
-/
import Derived.Test.YtpaepdlkjblfgaaFrLaw
import Derived.Test.YtpaepdlkjblfgaaFrBy
import Derived.Test.YtpaepdlkjblfgaaFrSpec4
import Derived.Deep.RegionHeld3
namespace Go.Proofs.Ytpaepdlkjblfgaa.fnExactFrameTake
open Go.RowKit

set_option maxRecDepth 100000 in
set_option maxHeartbeats 16000000 in
theorem walk (A0 : Option Addr) (la0 ca0 : Nat) (za0 : List Int) (B0 : Option Addr) (lb0 cb0 : Nat) (zb0 : List Int) (a1 a2 : Int) (w : World) (wa0 : IsRow .i64 w A0 la0 ca0 za0) (wb0 : IsRow .i64 w B0 lb0 cb0 zb0)
    (_w1 : (Lit.int .i64 a1).wf = true) (_w2 : (Lit.int .i64 a2).wf = true) :
    Calls Try.prog 7 #[.agg #[.slice A0 la0 ca0, .slice B0 lb0 cb0], .int .i64 a1, .int .i64 a2] w fun e w' => e = .returned (.bool true) ∧ Below w.heap.size w w' := by
  have hla := row_len wa0
  have hlb := row_len wb0
  obtain ⟨w0, hV⟩ : ∃ V, w.alloc (.cells #[.slice A0 la0 ca0, .slice B0 lb0 cb0] 43) = V := ⟨_, rfl⟩
  have HV := Lib.hid hV
  have HB0 := Lib.hid (hV ▸ (Below.refl w.heap.size w).alloc (Nat.le_refl _) (.cells #[.slice A0 la0 ca0, .slice B0 lb0 cb0] 43))
  have hz0 : w.heap.size < w0.heap.size := by rw [← hV]; simp
  have hbox : w0.heap[w.heap.size]? = some (.cells #[.slice A0 la0 ca0, .slice B0 lb0 cb0] 43 (0, 0)) := by rw [← hV]; exact heap_alloc_new w _
  have HC0 := Lib.hid hbox
  by_cases hbig : 1048576 < la0 + lb0
  · have HBIG := Lib.hid hbig
    clear wa0 wb0 hbox hV hbig
    go_enter Try.func7, Try.ntmps7
    go_wp2_with fail
    rw [HV.out]
    refine (szFrame_big hla hlb HBIG.out).mono ?_
    rintro e w1 ⟨rfl, hb1⟩
    have HB1 := Lib.hid (HB0.out.trans (hb1.mono (by omega)))
    clear hb1
    go_wp2
    go_ret
    exact ⟨rfl, HB1.out⟩
  · have hx := Ints.of_row wa0 (by omega)
    have hy := Ints.of_row wb0 (by omega)
    generalize za0.take la0 = hs at hx
    generalize zb0.take lb0 = ls at hy
    obtain ⟨R, hR⟩ := frOf_ex hs ls (fun ds => frAt (-1) ds a1 a2)
    have hrl := resL_len_at (.inr rfl) hR
    have HX := Lib.hid hx
    have HY := Lib.hid hy
    have HR := Lib.hid hR
    have hsm : la0 + lb0 ≤ 1048576 := by omega
    have hnl : hs.length + ls.length ≤ 1048576 := by have := hx.len; have := hy.len; omega
    have HSM := Lib.hid hsm
    obtain ⟨L, hL⟩ : ∃ L, (resL R).length = L := ⟨_, rfl⟩
    have h1L := HiL_length (resL R)
    have h2L := LoL_length (resL R)
    rw [hL] at hrl h1L h2L
    have HL := Lib.hid hL
    have HL1 := Lib.hid h1L
    have HL2 := Lib.hid h2L
    obtain ⟨nh, hnh⟩ : ∃ n, hs.length = n := ⟨_, rfl⟩
    obtain ⟨nl, hnl2⟩ : ∃ n, ls.length = n := ⟨_, rfl⟩
    rw [hnh, hnl2] at hnl
    have HNH := Lib.hid hnh
    have HNL := Lib.hid hnl2
    have t1 : ¬ ((1048576 : Int) - la0 - lb0 < 0) := by omega
    have t2 : ¬ ((1 : Int) + nh + nl < 0) := by omega
    have t3 : ¬ ((1 : Int) + L + L < 0) := by omega
    clear wa0 wb0 hbox hV hx hy hR hsm hbig hL h1L h2L hnh hnl2
    go_enter Try.func7, Try.ntmps7
    go_wp2_with fail
    rw [HV.out]
    refine (szFrame_small HSM.out).mono ?_
    rintro e w1 ⟨rfl, hb1⟩
    have s1 := hb1.size
    have HB1 := Lib.hid (HB0.out.trans (hb1.mono HB0.out.size))
    have HC1 := Lib.hid ((hb1.block w.heap.size (Array.getElem?_eq_some_iff.1 HC0.out).1).trans HC0.out)
    clear hb1
    have a0_1 := cell_of_row w1 w.heap.size 0 _ _ _ HC1.out
    have a1_1 := cell_of_row w1 w.heap.size 1 _ _ _ HC1.out
    simp only [List.getElem?_toArray, List.getElem?_cons_zero, List.getElem?_cons_succ] at a0_1 a1_1
    have l1 := (Array.getElem?_eq_some_iff.1 HC1.out).1
    go_wp2_with fail
    refine (toFrame_any _ _ _ _ _ _ hs ls _ ((HX.out.below HB1.out).mono HB1.out.size) ((HY.out.below HB1.out).mono HB1.out.size)).mono ?_
    rintro e w2 ⟨⟨v2, rfl, ho2⟩, hb2⟩
    obtain ⟨A2, n2, c2, B2, m2, d2, rfl, -⟩ := id ho2
    have s2 := hb2.size
    have HB2 := Lib.hid (HB1.out.trans (hb2.mono HB1.out.size))
    have HC2 := Lib.hid ((hb2.block w.heap.size (Array.getElem?_eq_some_iff.1 HC1.out).1).trans HC1.out)
    have BKT := Lib.hid ho2.blkIn
    have GOT := Lib.hid ho2
    clear hb2 ho2
    clear a0_1 a1_1 l1
    have a0_2 := cell_of_row w2 w.heap.size 0 _ _ _ HC2.out
    have a1_2 := cell_of_row w2 w.heap.size 1 _ _ _ HC2.out
    simp only [List.getElem?_toArray, List.getElem?_cons_zero, List.getElem?_cons_succ] at a0_2 a1_2
    have l2 := (Array.getElem?_eq_some_iff.1 HC2.out).1
    go_wp2_with fail
    have hcall := specFrameTake_any A2 B2 n2 m2 c2 d2 hs ls a1 a2 R _ GOT.out.v.rows.1 GOT.out.v.rows.2 HR.out
    have HCALL := Lib.hid hcall
    clear hcall
    refine HCALL.out.mono ?_
    rintro e w3 hpost3
    obtain ⟨A3, c3, B3, d3, rfl, hq3, hb3⟩ := hpost3.out_
    rw [HL.out] at hq3 ⊢
    have ho3 := hq3.g
    clear hpost3 hq3 HCALL
    have s3 := hb3.size
    have HB3 := Lib.hid (HB2.out.trans (hb3.mono HB2.out.size))
    have HC3 := Lib.hid ((hb3.block w.heap.size (Array.getElem?_eq_some_iff.1 HC2.out).1).trans HC2.out)
    replace GOT := Lib.hid (GOT.out.next hb3)
    have BKS := Lib.hid ho3.blkIn
    have GOS := Lib.hid ho3
    clear hb3 ho3
    clear GOT
    clear a0_2 a1_2 l2
    have a0_3 := cell_of_row w3 w.heap.size 0 _ _ _ HC3.out
    have a1_3 := cell_of_row w3 w.heap.size 1 _ _ _ HC3.out
    simp only [List.getElem?_toArray, List.getElem?_cons_zero, List.getElem?_cons_succ] at a0_3 a1_3
    have l3 := (Array.getElem?_eq_some_iff.1 HC3.out).1
    obtain ⟨w4, hV4⟩ : ∃ V, w3.alloc (.cells #[.slice A3 L c3, .slice B3 L d3] 25) = V := ⟨_, rfl⟩
    have hb4 : Below w3.heap.size w3 w4 := by rw [← hV4]; exact (Below.refl _ _).alloc (Nat.le_refl _) _
    have HX8 : Hid (Box w4 w3.heap.size (.slice A3 L c3) (.slice B3 L d3)) := Lib.hid (by rw [← hV4]; exact Box.new w3 _ _)
    have z8 : w3.heap.size < w4.heap.size := HX8.out.lt
    have HV4 := Lib.hid hV4
    have s4 := hb4.size
    have HB4 := Lib.hid (HB3.out.trans (hb4.mono HB3.out.size))
    have HC4 := Lib.hid ((hb4.block w.heap.size (Array.getElem?_eq_some_iff.1 HC3.out).1).trans HC3.out)
    replace GOS := Lib.hid (GOS.out.next hb4)
    clear hb4 hV4
    go_wp2_with fail
    rw [HV4.out]
    clear a0_3 a1_3 l3
    have a0_4 := cell_of_row w4 w.heap.size 0 _ _ _ HC4.out
    have a1_4 := cell_of_row w4 w.heap.size 1 _ _ _ HC4.out
    simp only [List.getElem?_toArray, List.getElem?_cons_zero, List.getElem?_cons_succ] at a0_4 a1_4
    have l4 := (Array.getElem?_eq_some_iff.1 HC4.out).1
    have l8_4 := HX8.out.lt
    have x80_4 := HX8.out.fst
    have x81_4 := HX8.out.snd
    refine (toFrame_any _ _ _ _ _ _ hs ls _ ((HX.out.below HB4.out).mono HB4.out.size) ((HY.out.below HB4.out).mono HB4.out.size)).mono ?_
    rintro e w5 ⟨⟨v5, rfl, ho5⟩, hb5⟩
    obtain ⟨A5, n5, c5, B5, m5, d5, rfl, -⟩ := id ho5
    have s5 := hb5.size
    have HB5 := Lib.hid (HB4.out.trans (hb5.mono HB4.out.size))
    have HC5 := Lib.hid ((hb5.block w.heap.size (Array.getElem?_eq_some_iff.1 HC4.out).1).trans HC4.out)
    replace GOS := Lib.hid (GOS.out.next hb5)
    replace HX8 := Lib.hid (HX8.out.next hb5)
    have BKX := Lib.hid ho5.blkIn
    have GOX := Lib.hid ho5
    clear hb5 ho5
    clear a0_4 a1_4 l4 l8_4 x80_4 x81_4
    have a0_5 := cell_of_row w5 w.heap.size 0 _ _ _ HC5.out
    have a1_5 := cell_of_row w5 w.heap.size 1 _ _ _ HC5.out
    simp only [List.getElem?_toArray, List.getElem?_cons_zero, List.getElem?_cons_succ] at a0_5 a1_5
    have l5 := (Array.getElem?_eq_some_iff.1 HC5.out).1
    have l8_5 := HX8.out.lt
    have x80_5 := HX8.out.fst
    have x81_5 := HX8.out.snd
    obtain ⟨w6, hV6⟩ : ∃ V, w5.alloc (.cells #[.slice A5 n5 c5, .slice B5 m5 d5] 25) = V := ⟨_, rfl⟩
    have hb6 : Below w5.heap.size w5 w6 := by rw [← hV6]; exact (Below.refl _ _).alloc (Nat.le_refl _) _
    have HX11 : Hid (Box w6 w5.heap.size (.slice A5 n5 c5) (.slice B5 m5 d5)) := Lib.hid (by rw [← hV6]; exact Box.new w5 _ _)
    have z11 : w5.heap.size < w6.heap.size := HX11.out.lt
    have HV6 := Lib.hid hV6
    have s6 := hb6.size
    have HB6 := Lib.hid (HB5.out.trans (hb6.mono HB5.out.size))
    have HC6 := Lib.hid ((hb6.block w.heap.size (Array.getElem?_eq_some_iff.1 HC5.out).1).trans HC5.out)
    replace GOS := Lib.hid (GOS.out.next hb6)
    replace GOX := Lib.hid (GOX.out.next hb6)
    replace HX8 := Lib.hid (HX8.out.next hb6)
    clear hb6 hV6
    go_wp2_with fail
    rw [HV6.out]
    clear a0_5 a1_5 l5 l8_5 x80_5 x81_5
    have a0_6 := cell_of_row w6 w.heap.size 0 _ _ _ HC6.out
    have a1_6 := cell_of_row w6 w.heap.size 1 _ _ _ HC6.out
    simp only [List.getElem?_toArray, List.getElem?_cons_zero, List.getElem?_cons_succ] at a0_6 a1_6
    have l6 := (Array.getElem?_eq_some_iff.1 HC6.out).1
    have l8_6 := HX8.out.lt
    have x80_6 := HX8.out.fst
    have x81_6 := HX8.out.snd
    have l11_6 := HX11.out.lt
    have x110_6 := HX11.out.fst
    have x111_6 := HX11.out.snd
    have hcall := FrameTake_any A5 B5 n5 m5 c5 d5 hs ls a1 a2 R _ GOX.out.v.rows.1 GOX.out.v.rows.2 HR.out
    have HCALL := Lib.hid hcall
    clear hcall
    refine HCALL.out.mono ?_
    rintro e w7 hpost7
    obtain ⟨A7, c7, B7, d7, rfl, hq7, hb7⟩ := hpost7.out_
    rw [HL.out] at hq7 ⊢
    have ho7 := hq7.g
    clear hpost7 hq7 HCALL
    have s7 := hb7.size
    have HB7 := Lib.hid (HB6.out.trans (hb7.mono HB6.out.size))
    have HC7 := Lib.hid ((hb7.block w.heap.size (Array.getElem?_eq_some_iff.1 HC6.out).1).trans HC6.out)
    replace GOS := Lib.hid (GOS.out.next hb7)
    replace GOX := Lib.hid (GOX.out.next hb7)
    replace HX8 := Lib.hid (HX8.out.next hb7)
    replace HX11 := Lib.hid (HX11.out.next hb7)
    have BKG := Lib.hid ho7.blkIn
    have GOG := Lib.hid ho7
    clear hb7 ho7
    clear a0_6 a1_6 l6 l8_6 x80_6 x81_6 l11_6 x110_6 x111_6
    have a0_7 := cell_of_row w7 w.heap.size 0 _ _ _ HC7.out
    have a1_7 := cell_of_row w7 w.heap.size 1 _ _ _ HC7.out
    simp only [List.getElem?_toArray, List.getElem?_cons_zero, List.getElem?_cons_succ] at a0_7 a1_7
    have l7 := (Array.getElem?_eq_some_iff.1 HC7.out).1
    have l8_7 := HX8.out.lt
    have x80_7 := HX8.out.fst
    have x81_7 := HX8.out.snd
    have l11_7 := HX11.out.lt
    have x110_7 := HX11.out.fst
    have x111_7 := HX11.out.snd
    obtain ⟨w8, hV8⟩ : ∃ V, w7.alloc (.cells #[.slice A7 L c7, .slice B7 L d7] 25) = V := ⟨_, rfl⟩
    have hb8 : Below w7.heap.size w7 w8 := by rw [← hV8]; exact (Below.refl _ _).alloc (Nat.le_refl _) _
    have HX12 : Hid (Box w8 w7.heap.size (.slice A7 L c7) (.slice B7 L d7)) := Lib.hid (by rw [← hV8]; exact Box.new w7 _ _)
    have z12 : w7.heap.size < w8.heap.size := HX12.out.lt
    have HV8 := Lib.hid hV8
    have s8 := hb8.size
    have HB8 := Lib.hid (HB7.out.trans (hb8.mono HB7.out.size))
    have HC8 := Lib.hid ((hb8.block w.heap.size (Array.getElem?_eq_some_iff.1 HC7.out).1).trans HC7.out)
    replace GOS := Lib.hid (GOS.out.next hb8)
    replace GOX := Lib.hid (GOX.out.next hb8)
    replace GOG := Lib.hid (GOG.out.next hb8)
    replace HX8 := Lib.hid (HX8.out.next hb8)
    replace HX11 := Lib.hid (HX11.out.next hb8)
    clear hb8 hV8
    go_wp2_with fail
    rw [HV8.out]
    clear a0_7 a1_7 l7 l8_7 x80_7 x81_7 l11_7 x110_7 x111_7
    have a0_8 := cell_of_row w8 w.heap.size 0 _ _ _ HC8.out
    have a1_8 := cell_of_row w8 w.heap.size 1 _ _ _ HC8.out
    simp only [List.getElem?_toArray, List.getElem?_cons_zero, List.getElem?_cons_succ] at a0_8 a1_8
    have l8 := (Array.getElem?_eq_some_iff.1 HC8.out).1
    have l8_8 := HX8.out.lt
    have x80_8 := HX8.out.fst
    have x81_8 := HX8.out.snd
    have l11_8 := HX11.out.lt
    have x110_8 := HX11.out.fst
    have x111_8 := HX11.out.snd
    have l12_8 := HX12.out.lt
    have x120_8 := HX12.out.fst
    have x121_8 := HX12.out.snd
    refine (eqFrame_eq GOG.out.v GOS.out.v).mono ?_
    rintro e w9 ⟨rfl, hb9⟩
    have s9 := hb9.size
    have HB9 := Lib.hid (HB8.out.trans (hb9.mono HB8.out.size))
    have HC9 := Lib.hid ((hb9.block w.heap.size (Array.getElem?_eq_some_iff.1 HC8.out).1).trans HC8.out)
    replace GOS := Lib.hid (GOS.out.next hb9)
    replace GOX := Lib.hid (GOX.out.next hb9)
    replace GOG := Lib.hid (GOG.out.next hb9)
    replace HX8 := Lib.hid (HX8.out.next hb9)
    replace HX11 := Lib.hid (HX11.out.next hb9)
    replace HX12 := Lib.hid (HX12.out.next hb9)
    clear hb9
    clear a0_8 a1_8 l8 l8_8 x80_8 x81_8 l11_8 x110_8 x111_8 l12_8 x120_8 x121_8
    have a0_9 := cell_of_row w9 w.heap.size 0 _ _ _ HC9.out
    have a1_9 := cell_of_row w9 w.heap.size 1 _ _ _ HC9.out
    simp only [List.getElem?_toArray, List.getElem?_cons_zero, List.getElem?_cons_succ] at a0_9 a1_9
    have l9 := (Array.getElem?_eq_some_iff.1 HC9.out).1
    have l8_9 := HX8.out.lt
    have x80_9 := HX8.out.fst
    have x81_9 := HX8.out.snd
    have l11_9 := HX11.out.lt
    have x110_9 := HX11.out.fst
    have x111_9 := HX11.out.snd
    have l12_9 := HX12.out.lt
    have x120_9 := HX12.out.fst
    have x121_9 := HX12.out.snd
    go_wp2_with fail
    have KS : Hid (∀ w', SB w9 w' → (w'.cell? ⟨w5.heap.size, 0, none⟩ = some (.slice A5 n5 c5) ∧ w'.cell? ⟨w5.heap.size, 1, none⟩ = some (.slice B5 m5 d5) ∧ w'.cell? ⟨w.heap.size, 0, none⟩ = some (.slice A0 la0 ca0) ∧ w'.cell? ⟨w.heap.size, 1, none⟩ = some (.slice B0 lb0 cb0) ∧ SB w9 w')) :=
      Lib.hid fun w' h => ⟨(Below.cell h (p := ⟨w5.heap.size, 0, none⟩) (by show w5.heap.size < w9.heap.size; omega)).trans x110_9, (Below.cell h (p := ⟨w5.heap.size, 1, none⟩) (by show w5.heap.size < w9.heap.size; omega)).trans x111_9, (Below.cell h (p := ⟨w.heap.size, 0, none⟩) (by show w.heap.size < w9.heap.size; omega)).trans a0_9, (Below.cell h (p := ⟨w.heap.size, 1, none⟩) (by show w.heap.size < w9.heap.size; omega)).trans a1_9, h⟩
    have hsb := SB.refl w9
    have HI1 : Hid (∀ v, SB w9 v → Ints v v.heap.size A0 la0 hs) := Lib.hid fun v h => (HX.out.below (HB9.out.trans (Below.mono h HB9.out.size))).mono (Nat.le_trans HB9.out.size (Below.size h))
    have HI2 : Hid (∀ v, SB w9 v → Ints v v.heap.size B0 lb0 ls) := Lib.hid fun v h => (HY.out.below (HB9.out.trans (Below.mono h HB9.out.size))).mono (Nat.le_trans HB9.out.size (Below.size h))
    have GX9 : Hid (∀ v, SB w9 v → GOwn v w4.heap.size (.agg #[.slice A5 n5 c5, .slice B5 m5 d5]) hs ls) := Lib.hid fun v h => GOX.out.next h
    go_region_held3 (fun w' => w'.cell? ⟨w5.heap.size, 0, none⟩ = some (.slice A5 n5 c5) ∧ w'.cell? ⟨w5.heap.size, 1, none⟩ = some (.slice B5 m5 d5) ∧ w'.cell? ⟨w.heap.size, 0, none⟩ = some (.slice A0 la0 ca0) ∧ w'.cell? ⟨w.heap.size, 1, none⟩ = some (.slice B0 lb0 cb0) ∧ SB w9 w')
      (first | ((try go_split_ands); refine KS.out _ ?_; first | assumption | (exact SB.drew (by assumption))))
      (first
        | (go_at_call 31; (try go_split_ands); (refine (toFrame_any _ _ _ _ _ _ hs ls _ (HI1.out _ (by assumption)) (HI2.out _ (by assumption))).mono ?_; rintro e w10 ⟨⟨v10, rfl, ho10⟩, hb10⟩; have hs10 : SB w9 w10 := SB.below (by assumption) hb10; obtain ⟨A10, n10, c10, B10, m10, d10, rfl, -⟩ := id ho10))
        | (go_at_call 32; (try go_split_ands); (refine (eqFrame_eq (GX9.out _ (by assumption)).v ho10.v).mono ?_; rintro e w11 ⟨rfl, hb11⟩; have hs11 : SB w9 w11 := SB.below (by assumption) hb11)))
    have hb12 : Below w9.heap.size w9 w11 := hs11
    clear a0_9 a1_9 l9 l8_9 x80_9 x81_9 l11_9 x110_9 x111_9 l12_9 x120_9 x121_9 hsb ho10 hb10 hs10 hs11 hb11
    obtain ⟨w12, hw12⟩ : ∃ v, w11 = v := ⟨_, rfl⟩
    rw [hw12] at hb12
    rw [hw12]
    clear hw12
    have s12 := hb12.size
    have HB12 := Lib.hid (HB9.out.trans (hb12.mono HB9.out.size))
    have HC12 := Lib.hid ((hb12.block w.heap.size (Array.getElem?_eq_some_iff.1 HC9.out).1).trans HC9.out)
    replace GOS := Lib.hid (GOS.out.next hb12)
    replace GOX := Lib.hid (GOX.out.next hb12)
    replace GOG := Lib.hid (GOG.out.next hb12)
    replace HX8 := Lib.hid (HX8.out.next hb12)
    replace HX11 := Lib.hid (HX11.out.next hb12)
    replace HX12 := Lib.hid (HX12.out.next hb12)
    clear hb12 KS HI1 HI2 GX9
    have a0_12 := cell_of_row w12 w.heap.size 0 _ _ _ HC12.out
    have a1_12 := cell_of_row w12 w.heap.size 1 _ _ _ HC12.out
    simp only [List.getElem?_toArray, List.getElem?_cons_zero, List.getElem?_cons_succ] at a0_12 a1_12
    have l12 := (Array.getElem?_eq_some_iff.1 HC12.out).1
    have l8_12 := HX8.out.lt
    have x80_12 := HX8.out.fst
    have x81_12 := HX8.out.snd
    have l11_12 := HX11.out.lt
    have x110_12 := HX11.out.fst
    have x111_12 := HX11.out.snd
    have l12_12 := HX12.out.lt
    have x120_12 := HX12.out.fst
    have x121_12 := HX12.out.snd
    go_wp2_with fail
    refine (markFrame_any (hi := w5.heap.size) 1 (by omega) (by omega) GOX.out BKX.out (by omega) (by have := HNH.out; have := HNL.out; have := HL1.out; have := HL2.out; omega)).mono ?_
    rw [HNH.out, HNL.out]
    rintro e w13 ⟨rfl, ho13, hw13⟩
    have s13 := hw13.2.2.2.1
    have HB13 := Lib.hid (hw13.below HB12.out (by have := HB12.out.size; omega) HB12.out.size)
    have HC13 := Lib.hid ((hw13.2.2.2.2 w.heap.size (Array.getElem?_eq_some_iff.1 HC12.out).1 (.inl (by omega))).trans HC12.out)
    replace GOS := Lib.hid (hw13.gown GOS.out BKS.out (by omega))
    replace GOG := Lib.hid (hw13.gown GOG.out BKG.out (by omega))
    replace HX8 := Lib.hid (hw13.box HX8.out (by omega))
    replace HX11 := Lib.hid (hw13.box HX11.out (by omega))
    replace HX12 := Lib.hid (hw13.box HX12.out (by omega))
    replace GOX := Lib.hid ho13
    clear ho13 hw13
    clear a0_12 a1_12 l12 l8_12 x80_12 x81_12 l11_12 x110_12 x111_12 l12_12 x120_12 x121_12
    have a0_13 := cell_of_row w13 w.heap.size 0 _ _ _ HC13.out
    have a1_13 := cell_of_row w13 w.heap.size 1 _ _ _ HC13.out
    simp only [List.getElem?_toArray, List.getElem?_cons_zero, List.getElem?_cons_succ] at a0_13 a1_13
    have l13 := (Array.getElem?_eq_some_iff.1 HC13.out).1
    have l8_13 := HX8.out.lt
    have x80_13 := HX8.out.fst
    have x81_13 := HX8.out.snd
    have l11_13 := HX11.out.lt
    have x110_13 := HX11.out.fst
    have x111_13 := HX11.out.snd
    have l12_13 := HX12.out.lt
    have x120_13 := HX12.out.fst
    have x121_13 := HX12.out.snd
    clear GOX
    go_wp2_with fail
    refine (eqFrame_eq GOG.out.v GOS.out.v).mono ?_
    rintro e w14 ⟨rfl, hb14⟩
    have s14 := hb14.size
    have HB14 := Lib.hid (HB13.out.trans (hb14.mono HB13.out.size))
    have HC14 := Lib.hid ((hb14.block w.heap.size (Array.getElem?_eq_some_iff.1 HC13.out).1).trans HC13.out)
    replace GOS := Lib.hid (GOS.out.next hb14)
    replace GOG := Lib.hid (GOG.out.next hb14)
    replace HX8 := Lib.hid (HX8.out.next hb14)
    replace HX11 := Lib.hid (HX11.out.next hb14)
    replace HX12 := Lib.hid (HX12.out.next hb14)
    clear hb14
    clear a0_13 a1_13 l13 l8_13 x80_13 x81_13 l11_13 x110_13 x111_13 l12_13 x120_13 x121_13
    have a0_14 := cell_of_row w14 w.heap.size 0 _ _ _ HC14.out
    have a1_14 := cell_of_row w14 w.heap.size 1 _ _ _ HC14.out
    simp only [List.getElem?_toArray, List.getElem?_cons_zero, List.getElem?_cons_succ] at a0_14 a1_14
    have l14 := (Array.getElem?_eq_some_iff.1 HC14.out).1
    have l8_14 := HX8.out.lt
    have x80_14 := HX8.out.fst
    have x81_14 := HX8.out.snd
    have l11_14 := HX11.out.lt
    have x110_14 := HX11.out.fst
    have x111_14 := HX11.out.snd
    have l12_14 := HX12.out.lt
    have x120_14 := HX12.out.fst
    have x121_14 := HX12.out.snd
    go_wp2_with fail
    refine (markFrame_any (hi := w7.heap.size) 1 (by omega) (by omega) GOG.out BKG.out (by omega) (by have := HNH.out; have := HNL.out; have := HL1.out; have := HL2.out; omega)).mono ?_
    rw [HL1.out, HL2.out]
    rintro e w15 ⟨rfl, ho15, hw15⟩
    have s15 := hw15.2.2.2.1
    have HB15 := Lib.hid (hw15.below HB14.out (by have := HB14.out.size; omega) HB14.out.size)
    have HC15 := Lib.hid ((hw15.2.2.2.2 w.heap.size (Array.getElem?_eq_some_iff.1 HC14.out).1 (.inl (by omega))).trans HC14.out)
    replace GOS := Lib.hid (hw15.gown GOS.out BKS.out (by omega))
    replace HX8 := Lib.hid (hw15.box HX8.out (by omega))
    replace HX11 := Lib.hid (hw15.box HX11.out (by omega))
    replace HX12 := Lib.hid (hw15.box HX12.out (by omega))
    replace GOG := Lib.hid ho15
    clear ho15 hw15
    clear a0_14 a1_14 l14 l8_14 x80_14 x81_14 l11_14 x110_14 x111_14 l12_14 x120_14 x121_14
    have a0_15 := cell_of_row w15 w.heap.size 0 _ _ _ HC15.out
    have a1_15 := cell_of_row w15 w.heap.size 1 _ _ _ HC15.out
    simp only [List.getElem?_toArray, List.getElem?_cons_zero, List.getElem?_cons_succ] at a0_15 a1_15
    have l15 := (Array.getElem?_eq_some_iff.1 HC15.out).1
    have l8_15 := HX8.out.lt
    have x80_15 := HX8.out.fst
    have x81_15 := HX8.out.snd
    have l11_15 := HX11.out.lt
    have x110_15 := HX11.out.fst
    have x111_15 := HX11.out.snd
    have l12_15 := HX12.out.lt
    have x120_15 := HX12.out.fst
    have x121_15 := HX12.out.snd
    go_wp2_with fail
    refine (heldFrame_any 1 (by omega) (by omega) (by omega) GOG.out.v).mono ?_
    rintro e w16 ⟨rfl, hb16⟩
    have s16 := hb16.size
    have HB16 := Lib.hid (HB15.out.trans (hb16.mono HB15.out.size))
    have HC16 := Lib.hid ((hb16.block w.heap.size (Array.getElem?_eq_some_iff.1 HC15.out).1).trans HC15.out)
    replace GOS := Lib.hid (GOS.out.next hb16)
    replace GOG := Lib.hid (GOG.out.next hb16)
    replace HX8 := Lib.hid (HX8.out.next hb16)
    replace HX11 := Lib.hid (HX11.out.next hb16)
    replace HX12 := Lib.hid (HX12.out.next hb16)
    clear hb16
    clear a0_15 a1_15 l15 l8_15 x80_15 x81_15 l11_15 x110_15 x111_15 l12_15 x120_15 x121_15
    have a0_16 := cell_of_row w16 w.heap.size 0 _ _ _ HC16.out
    have a1_16 := cell_of_row w16 w.heap.size 1 _ _ _ HC16.out
    simp only [List.getElem?_toArray, List.getElem?_cons_zero, List.getElem?_cons_succ] at a0_16 a1_16
    have l16 := (Array.getElem?_eq_some_iff.1 HC16.out).1
    have l8_16 := HX8.out.lt
    have x80_16 := HX8.out.fst
    have x81_16 := HX8.out.snd
    have l11_16 := HX11.out.lt
    have x110_16 := HX11.out.fst
    have x111_16 := HX11.out.snd
    have l12_16 := HX12.out.lt
    have x120_16 := HX12.out.fst
    have x121_16 := HX12.out.snd
    go_wp2_with fail
    refine (toFrame_any _ _ _ _ _ _ hs ls _ ((HX.out.below HB16.out).mono HB16.out.size) ((HY.out.below HB16.out).mono HB16.out.size)).mono ?_
    rintro e w17 ⟨⟨v17, rfl, ho17⟩, hb17⟩
    obtain ⟨A17, n17, c17, B17, m17, d17, rfl, -⟩ := id ho17
    have s17 := hb17.size
    have HB17 := Lib.hid (HB16.out.trans (hb17.mono HB16.out.size))
    have HC17 := Lib.hid ((hb17.block w.heap.size (Array.getElem?_eq_some_iff.1 HC16.out).1).trans HC16.out)
    replace GOS := Lib.hid (GOS.out.next hb17)
    replace GOG := Lib.hid (GOG.out.next hb17)
    replace HX8 := Lib.hid (HX8.out.next hb17)
    replace HX11 := Lib.hid (HX11.out.next hb17)
    replace HX12 := Lib.hid (HX12.out.next hb17)
    have BKT := Lib.hid ho17.blkIn
    have GOT := Lib.hid ho17
    clear hb17 ho17
    clear a0_16 a1_16 l16 l8_16 x80_16 x81_16 l11_16 x110_16 x111_16 l12_16 x120_16 x121_16
    have a0_17 := cell_of_row w17 w.heap.size 0 _ _ _ HC17.out
    have a1_17 := cell_of_row w17 w.heap.size 1 _ _ _ HC17.out
    simp only [List.getElem?_toArray, List.getElem?_cons_zero, List.getElem?_cons_succ] at a0_17 a1_17
    have l17 := (Array.getElem?_eq_some_iff.1 HC17.out).1
    have l8_17 := HX8.out.lt
    have x80_17 := HX8.out.fst
    have x81_17 := HX8.out.snd
    have l11_17 := HX11.out.lt
    have x110_17 := HX11.out.fst
    have x111_17 := HX11.out.snd
    have l12_17 := HX12.out.lt
    have x120_17 := HX12.out.fst
    have x121_17 := HX12.out.snd
    go_wp2_with fail
    have hcall := FrameTake_any A17 B17 n17 m17 c17 d17 hs ls a1 a2 R _ GOT.out.v.rows.1 GOT.out.v.rows.2 HR.out
    have HCALL := Lib.hid hcall
    clear hcall
    refine HCALL.out.mono ?_
    rintro e w18 hpost18
    obtain ⟨A18, c18, B18, d18, rfl, hq18, hb18⟩ := hpost18.out_
    rw [HL.out] at hq18 ⊢
    have ho18 := hq18.g
    clear hpost18 hq18 HCALL
    have s18 := hb18.size
    have HB18 := Lib.hid (HB17.out.trans (hb18.mono HB17.out.size))
    have HC18 := Lib.hid ((hb18.block w.heap.size (Array.getElem?_eq_some_iff.1 HC17.out).1).trans HC17.out)
    replace GOS := Lib.hid (GOS.out.next hb18)
    replace GOG := Lib.hid (GOG.out.next hb18)
    replace GOT := Lib.hid (GOT.out.next hb18)
    replace HX8 := Lib.hid (HX8.out.next hb18)
    replace HX11 := Lib.hid (HX11.out.next hb18)
    replace HX12 := Lib.hid (HX12.out.next hb18)
    have BKH := Lib.hid ho18.blkIn
    have GOH := Lib.hid ho18
    clear hb18 ho18
    clear GOT
    clear a0_17 a1_17 l17 l8_17 x80_17 x81_17 l11_17 x110_17 x111_17 l12_17 x120_17 x121_17
    have a0_18 := cell_of_row w18 w.heap.size 0 _ _ _ HC18.out
    have a1_18 := cell_of_row w18 w.heap.size 1 _ _ _ HC18.out
    simp only [List.getElem?_toArray, List.getElem?_cons_zero, List.getElem?_cons_succ] at a0_18 a1_18
    have l18 := (Array.getElem?_eq_some_iff.1 HC18.out).1
    have l8_18 := HX8.out.lt
    have x80_18 := HX8.out.fst
    have x81_18 := HX8.out.snd
    have l11_18 := HX11.out.lt
    have x110_18 := HX11.out.fst
    have x111_18 := HX11.out.snd
    have l12_18 := HX12.out.lt
    have x120_18 := HX12.out.fst
    have x121_18 := HX12.out.snd
    obtain ⟨w19, hV19⟩ : ∃ V, w18.alloc (.cells #[.slice A18 L c18, .slice B18 L d18] 25) = V := ⟨_, rfl⟩
    have hb19 : Below w18.heap.size w18 w19 := by rw [← hV19]; exact (Below.refl _ _).alloc (Nat.le_refl _) _
    have HX18 : Hid (Box w19 w18.heap.size (.slice A18 L c18) (.slice B18 L d18)) := Lib.hid (by rw [← hV19]; exact Box.new w18 _ _)
    have z18 : w18.heap.size < w19.heap.size := HX18.out.lt
    have HV19 := Lib.hid hV19
    have s19 := hb19.size
    have HB19 := Lib.hid (HB18.out.trans (hb19.mono HB18.out.size))
    have HC19 := Lib.hid ((hb19.block w.heap.size (Array.getElem?_eq_some_iff.1 HC18.out).1).trans HC18.out)
    replace GOS := Lib.hid (GOS.out.next hb19)
    replace GOG := Lib.hid (GOG.out.next hb19)
    replace GOH := Lib.hid (GOH.out.next hb19)
    replace HX8 := Lib.hid (HX8.out.next hb19)
    replace HX11 := Lib.hid (HX11.out.next hb19)
    replace HX12 := Lib.hid (HX12.out.next hb19)
    clear hb19 hV19
    go_wp2_with fail
    rw [HV19.out]
    clear a0_18 a1_18 l18 l8_18 x80_18 x81_18 l11_18 x110_18 x111_18 l12_18 x120_18 x121_18
    have a0_19 := cell_of_row w19 w.heap.size 0 _ _ _ HC19.out
    have a1_19 := cell_of_row w19 w.heap.size 1 _ _ _ HC19.out
    simp only [List.getElem?_toArray, List.getElem?_cons_zero, List.getElem?_cons_succ] at a0_19 a1_19
    have l19 := (Array.getElem?_eq_some_iff.1 HC19.out).1
    have l8_19 := HX8.out.lt
    have x80_19 := HX8.out.fst
    have x81_19 := HX8.out.snd
    have l11_19 := HX11.out.lt
    have x110_19 := HX11.out.fst
    have x111_19 := HX11.out.snd
    have l12_19 := HX12.out.lt
    have x120_19 := HX12.out.fst
    have x121_19 := HX12.out.snd
    have l18_19 := HX18.out.lt
    have x180_19 := HX18.out.fst
    have x181_19 := HX18.out.snd
    refine (eqFrame_eq GOH.out.v GOS.out.v).mono ?_
    rintro e w20 ⟨rfl, hb20⟩
    have s20 := hb20.size
    have HB20 := Lib.hid (HB19.out.trans (hb20.mono HB19.out.size))
    have HC20 := Lib.hid ((hb20.block w.heap.size (Array.getElem?_eq_some_iff.1 HC19.out).1).trans HC19.out)
    replace GOS := Lib.hid (GOS.out.next hb20)
    replace GOG := Lib.hid (GOG.out.next hb20)
    replace GOH := Lib.hid (GOH.out.next hb20)
    replace HX8 := Lib.hid (HX8.out.next hb20)
    replace HX11 := Lib.hid (HX11.out.next hb20)
    replace HX12 := Lib.hid (HX12.out.next hb20)
    replace HX18 := Lib.hid (HX18.out.next hb20)
    clear hb20
    clear a0_19 a1_19 l19 l8_19 x80_19 x81_19 l11_19 x110_19 x111_19 l12_19 x120_19 x121_19 l18_19 x180_19 x181_19
    have a0_20 := cell_of_row w20 w.heap.size 0 _ _ _ HC20.out
    have a1_20 := cell_of_row w20 w.heap.size 1 _ _ _ HC20.out
    simp only [List.getElem?_toArray, List.getElem?_cons_zero, List.getElem?_cons_succ] at a0_20 a1_20
    have l20 := (Array.getElem?_eq_some_iff.1 HC20.out).1
    have l8_20 := HX8.out.lt
    have x80_20 := HX8.out.fst
    have x81_20 := HX8.out.snd
    have l11_20 := HX11.out.lt
    have x110_20 := HX11.out.fst
    have x111_20 := HX11.out.snd
    have l12_20 := HX12.out.lt
    have x120_20 := HX12.out.fst
    have x121_20 := HX12.out.snd
    have l18_20 := HX18.out.lt
    have x180_20 := HX18.out.fst
    have x181_20 := HX18.out.snd
    go_wp2_with fail
    refine (heldFrame_any 1 (by omega) (by omega) (by omega) GOG.out.v).mono ?_
    rintro e w21 ⟨rfl, hb21⟩
    have s21 := hb21.size
    have HB21 := Lib.hid (HB20.out.trans (hb21.mono HB20.out.size))
    have HC21 := Lib.hid ((hb21.block w.heap.size (Array.getElem?_eq_some_iff.1 HC20.out).1).trans HC20.out)
    replace GOS := Lib.hid (GOS.out.next hb21)
    replace GOG := Lib.hid (GOG.out.next hb21)
    replace GOH := Lib.hid (GOH.out.next hb21)
    replace HX8 := Lib.hid (HX8.out.next hb21)
    replace HX11 := Lib.hid (HX11.out.next hb21)
    replace HX12 := Lib.hid (HX12.out.next hb21)
    replace HX18 := Lib.hid (HX18.out.next hb21)
    clear hb21
    clear a0_20 a1_20 l20 l8_20 x80_20 x81_20 l11_20 x110_20 x111_20 l12_20 x120_20 x121_20 l18_20 x180_20 x181_20
    have a0_21 := cell_of_row w21 w.heap.size 0 _ _ _ HC21.out
    have a1_21 := cell_of_row w21 w.heap.size 1 _ _ _ HC21.out
    simp only [List.getElem?_toArray, List.getElem?_cons_zero, List.getElem?_cons_succ] at a0_21 a1_21
    have l21 := (Array.getElem?_eq_some_iff.1 HC21.out).1
    have l8_21 := HX8.out.lt
    have x80_21 := HX8.out.fst
    have x81_21 := HX8.out.snd
    have l11_21 := HX11.out.lt
    have x110_21 := HX11.out.fst
    have x111_21 := HX11.out.snd
    have l12_21 := HX12.out.lt
    have x120_21 := HX12.out.fst
    have x121_21 := HX12.out.snd
    have l18_21 := HX18.out.lt
    have x180_21 := HX18.out.fst
    have x181_21 := HX18.out.snd
    go_wp2
    go_ret
    exact ⟨rfl, HB21.out⟩
end Go.Proofs.Ytpaepdlkjblfgaa.fnExactFrameTake
