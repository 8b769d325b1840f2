/-
  The draws of numerals and of long divisions: whatever the code, they come back with lists that can be read and numbers in their ranges.
-/
import Derived.Test.YtphokfdaimbaiaaKit
import Derived.Test.YtphokfdaimbaiaaDraw2
import Derived.Deep.RegionWith
namespace Go.Proofs.Ytphokfdaimbaiaa
open Go.RowKit

/-- a drawn list and a number -/
def DLI (N : Nat) (lo hi : Int) (w : World) (B g p : Nat) (e : Ending) (w' : World) : Prop :=
  ∃ A n c xs u q, e = .returned (.tuple #[.slice A n c, .int .i64 u]) ∧ (∀ v, w'.grownBy v (some g) → Ints v v.heap.size A n xs) ∧ n ≤ N ∧ lo ≤ u ∧ u ≤ hi ∧ Rd w' B g q ∧ q ≤ p + 60 ∧ w.grownBy w' (some g)

set_option maxRecDepth 100000 in
set_option maxHeartbeats 1000000 in
theorem l91Numeral_any (w : World) (B g p : Nat) (m : Int) (h : Rd w B g p) (hp : p ≤ 900000) (m1 : 1 ≤ m) (m6 : m ≤ 6) :
    Calls Try.prog 76 #[.pointer (some ⟨g, 0, none⟩), .int .i64 m] w (DInts 7 w B g p) := by
  have hlt := h.lt
  have hbs := h.base
  have HR := Lib.hid h
  have HG := Lib.hid (World.grownBy.refl w (some g))
  have hsz0 : w.heap.size ≤ w.heap.size := Nat.le_refl _
  clear h
  go_enter Try.func76, Try.ntmps76
  have HLN := Lib.hid (lit_nil w)
  go_wp2_with fail
  refine (pick_any _ _ _ _ _ (HR.out.alloc _) (by omega)).mono ?_
  rintro e w1 ⟨v1, rfl, hv1, hrd1, hg1⟩
  obtain ⟨hva1, hvb1⟩ := hv1 (by omega)
  clear hv1
  obtain ⟨j1, rfl⟩ := Int.eq_ofNat_of_zero_le hva1
  have HO := Lib.hid (own_pick HLN.out hg1 hlt)
  clear HLN
  have hsz1 := hg1.size
  simp only [World.size_alloc] at hsz1
  replace HG := Lib.hid ((HG.out.trans (World.grownBy_alloc _ _ _)).trans hg1)
  replace HR := Lib.hid hrd1
  clear hrd1 hg1
  go_wp2_with fail
  go_loopw [5, 7] (fun out i wr => ∃ k A c xs q, k ≤ j1 + 1 ∧ i = .int .i64 (k : Nat) ∧ out = .slice A k c ∧ Own wr w.heap.size A k c xs ∧ Rd wr B g q ∧ q ≤ p + 1 + k ∧ w.grownBy wr (some g)) (fun _ i _ => (j1 + 1) - (intOf i).toNat)
  case atStart => exact ⟨0, _, _, _, _, by omega, rfl, rfl, HO.out, HR.out, by omega, HG.out⟩
  case round =>
    clear HO HR HG
    obtain ⟨k, A, c, xs, q, hk, rfl, rfl, hown, hrd, hq, hg⟩ := hrel
    have hszg := hg.size
    have HO := Lib.hid hown
    have HR := Lib.hid hrd
    have HG := Lib.hid hg
    clear hown hrd hg
    by_cases hlk : k < j1 + 1
    · skip
      go_wp2_with fail
      refine (pick_any _ _ _ _ _ HR.out (by omega)).mono ?_
      rintro e w2 ⟨v2, rfl, hv2, hrd2, hg2⟩
      obtain ⟨hva2, hvb2⟩ := hv2 (by omega)
      clear hv2
      have hsz2 := hg2.size
      replace HG := Lib.hid (HG.out.trans hg2)
      replace HO := Lib.hid (own_pick HO.out hg2 hlt)
      replace HR := Lib.hid hrd2
      clear hrd2 hg2
      go_wp2_with (at_builtin; refine wpList_app rfl _ _ rfl rfl HO.out [v2] 1 rfl _ rfl _ rfl (by omega) (by have := HG.out.size; omega) ?_; intro A' c' w9 hown9 hg9)
      have HR9 := Lib.hid (HR.out.grown hg9 (fun k hk => by have := (HO.out.blk k hk).1; omega))
      have HG9 := Lib.hid (HG.out.then_ hg9 fun j hj => .inl (HO.out.blk j hj).1)
      go_roundw
      case rel => exact ⟨k + 1, _, _, _, _, by omega, by go_num, rfl, hown9, HR9.out, by omega, HG9.out⟩
      case measure => simp [intOf]; omega
    · obtain rfl : k = j1 + 1 := by omega
      go_wp2_with fail
      refine (pick_any _ _ _ _ _ HR.out (by omega)).mono ?_
      rintro e w2 ⟨v2, rfl, hv2, hrd2, hg2⟩
      obtain ⟨hva2, hvb2⟩ := hv2 (by omega)
      clear hv2
      have hsz2 := hg2.size
      replace HG := Lib.hid (HG.out.trans hg2)
      replace HO := Lib.hid (own_pick HO.out hg2 hlt)
      replace HR := Lib.hid hrd2
      clear hrd2 hg2
      by_cases ev2_0 : v2 = 0
      · subst ev2_0
        go_wp2_with fail
        refine (pick_any _ _ _ _ _ (HR.out.alloc _) (by omega)).mono ?_
        rintro e w3 ⟨v3, rfl, hv3, hrd3, hg3⟩
        obtain ⟨hva3, hvb3⟩ := hv3 (by omega)
        obtain ⟨j3, u3, rfl, hj3, hu3, hc3⟩ := lit_after (n := 2) (us := [-1, 10]) hg3 (by omega) rfl (by omega) hva3 hvb3
        obtain ⟨hua3, hub3⟩ : -1 ≤ u3 ∧ u3 ≤ 10 := by simp at hu3; omega
        clear hv3 hu3
        have hsz3 := hg3.size
        simp only [World.size_alloc] at hsz3
        replace HG := Lib.hid ((HG.out.trans (World.grownBy_alloc _ _ _)).trans hg3)
        replace HO := Lib.hid (own_pick (HO.out.alloc _) hg3 hlt)
        replace HR := Lib.hid hrd3
        clear hrd3 hg3
        obtain ⟨g8, rfl, hg8, hl8, hc8, hf8⟩ := HO.out.at_ (by omega)
        have hl7 := HO.out.len
        obtain ⟨u8, hu8⟩ : ∃ u, w3.cell? ⟨g8, 0, none⟩ = some u := ⟨_, hc8 0 _ (List.getElem?_eq_getElem (by omega))⟩
        have hf0 := hf8 0
        have HS := Lib.hid (HO.out.store 0 u3)
        clear hl7 hc8 hf8
        go_wp2
        go_ret
        exact ⟨_, _, _, _, _, rfl, fun v hg => (own_pick (w' := v) HS.out.1 hg hlt).ints, by omega, HR.out.grown HS.out.2 (by rintro k ⟨⟩; omega), by omega, HG.out.then_ HS.out.2 (by rintro k ⟨⟩; exact .inl hg8)⟩
      · have fv2_0 : (v2 == 0) = false := by simpa using ev2_0
        by_cases ev2_1 : v2 = 1
        · subst ev2_1
          have HL := Lib.hid (own_lit w2 [] w.heap.size 0 rfl (by omega) (by have := HG.out.size; omega))
          go_wp2
          go_ret
          exact ⟨_, _, _, _, _, rfl, fun v hg => (own_pick (w' := v) HL.out hg hlt).ints, by omega, HR.out.alloc _, by omega, HG.out.trans (World.grownBy_alloc _ _ _)⟩
        · have fv2_1 : (v2 == 1) = false := by simpa using ev2_1
          by_cases ev2_2 : v2 = 2
          · subst ev2_2
            have HL := Lib.hid (own_lit w2 [1, 2, 3, 4, 5, 6, 7] w.heap.size 7 rfl (by omega) (by have := HG.out.size; omega))
            go_wp2
            go_ret
            exact ⟨_, _, _, _, _, rfl, fun v hg => (own_pick (w' := v) HL.out hg hlt).ints, by omega, HR.out.alloc _, by omega, HG.out.trans (World.grownBy_alloc _ _ _)⟩
          · have fv2_2 : (v2 == 2) = false := by simpa using ev2_2
            go_wp2
            go_ret
            exact ⟨_, _, _, _, _, rfl, fun v hg => (own_pick (w' := v) HO.out hg hlt).ints, by omega, HR.out, by omega, HG.out⟩

set_option maxRecDepth 100000 in
set_option maxHeartbeats 1000000 in
theorem l92Long_any (w : World) (B g p : Nat) (h : Rd w B g p) (hp : p ≤ 900000) :
    Calls Try.prog 59 #[.pointer (some ⟨g, 0, none⟩)] w (DLI 7 (-1) 100001 w B g p) := by
  have hlt := h.lt
  have hbs := h.base
  have HR := Lib.hid h
  have HG := Lib.hid (World.grownBy.refl w (some g))
  have hsz0 : w.heap.size ≤ w.heap.size := Nat.le_refl _
  clear h
  go_enter Try.func59, Try.ntmps59
  go_wp2_with fail
  refine (l91Numeral_any _ _ _ _ _ HR.out (by omega) (by omega) (by omega)).mono ?_
  rintro e w1 ⟨A1, n1, c1, xs1, q1, rfl, hx1, hn1, hrd1, hq1, hg1⟩
  have hsz1 := hg1.size
  replace HG := Lib.hid (HG.out.trans hg1)
  replace HR := Lib.hid hrd1
  clear hrd1 hg1
  have HX1 := Lib.hid hx1
  clear hx1
  go_wp2_with fail
  refine (pick_any _ _ _ _ _ HR.out (by omega)).mono ?_
  rintro e w2 ⟨v2, rfl, hv2, hrd2, hg2⟩
  obtain ⟨hva2, hvb2⟩ := hv2 (by omega)
  clear hv2
  have hsz2 := hg2.size
  replace HG := Lib.hid (HG.out.trans hg2)
  replace HX1 := Lib.hid (fun v h => HX1.out v (hg2.trans h))
  replace HR := Lib.hid hrd2
  clear hrd2 hg2
  by_cases ev2_0 : v2 = 0
  · subst ev2_0
    go_wp2_with fail
    go_region_with (first
      | (go_at_call 64; (with_reducible refine (pick_any _ _ _ _ _ ((HR.out.alloc _).drew) (by omega)).mono ?_); rintro e w3 ⟨v3, rfl, hv3, hrd3, hg3⟩; obtain ⟨hva3, hvb3⟩ := hv3 (by omega); replace hg3 := grown_undrew hg3; obtain ⟨j3, u3, rfl, hj3, hu3, hc3⟩ := lit_after (n := 4) (us := [0, -1, 100001, 100000]) hg3 (by omega) rfl (by omega) hva3 hvb3; obtain ⟨hua3, hub3⟩ : -1 ≤ u3 ∧ u3 ≤ 100001 := (by simp at hu3; omega); have HRF := Lib.hid hrd3; have HGF := Lib.hid ((HG.out.trans (World.grownBy_alloc _ _ _)).trans hg3); have HX1F := Lib.hid (fun v h => HX1.out v (((World.grownBy_alloc _ _ _).trans hg3).trans h)); clear hv3 hu3 hrd3 hg3)
      | (go_at_call 64; (with_reducible refine (pick_any _ _ _ _ _ HR.out.drew (by omega)).mono ?_); rintro e w3 ⟨v3, rfl, hv3, hrd3, hg3⟩; obtain ⟨hva3, hvb3⟩ := hv3 (by omega); replace hg3 := grown_undrew hg3; obtain ⟨j3, u3, rfl, hj3, hu3, hc3⟩ := lit_here (w := w3) (n := 4) (us := [0, -1, 100001, 100000]) rfl (by omega) hva3 hvb3; obtain ⟨hua3, hub3⟩ : -1 ≤ u3 ∧ u3 ≤ 100001 := (by simp at hu3; omega); have HRF := Lib.hid (hrd3.alloc (.cells (IV [0, -1, 100001, 100000]).toArray 3)); have HGF := Lib.hid ((HG.out.trans hg3).trans (World.grownBy_alloc w3 (.cells (IV [0, -1, 100001, 100000]).toArray 3) _)); have HX1F := Lib.hid (fun v h => HX1.out v (hg3.trans ((World.grownBy_alloc w3 (.cells (IV [0, -1, 100001, 100000]).toArray 3) _).trans h))); clear hv3 hu3 hrd3 hg3))
    all_goals
      first
        | (go_wp2; go_ret2; exact ⟨_, _, _, _, _, _, rfl, HX1F.out, hn1, by omega, by omega, HRF.out, by omega, HGF.out⟩)
        | (obtain rfl | rfl | rfl | rfl : j3 = 0 ∨ j3 = 1 ∨ j3 = 2 ∨ j3 = 3 := (by omega)
           all_goals (go_wp2; go_ret2; exact ⟨_, _, _, _, _, _, rfl, HX1F.out, hn1, by omega, by omega, HRF.out, by omega, HGF.out⟩))
  · have fv2_0 : (v2 == 0) = false := by simpa using ev2_0
    go_wp2_with fail
    refine (pick_any _ _ _ _ _ HR.out (by omega)).mono ?_
    rintro e w3 ⟨v3, rfl, hv3, hrd3, hg3⟩
    obtain ⟨hva3, hvb3⟩ := hv3 (by omega)
    clear hv3
    have hsz3 := hg3.size
    replace HG := Lib.hid (HG.out.trans hg3)
    replace HX1 := Lib.hid (fun v h => HX1.out v (hg3.trans h))
    replace HR := Lib.hid hrd3
    clear hrd3 hg3
    go_wp2
    go_ret2
    exact ⟨_, _, _, _, _, _, rfl, HX1.out, hn1, by omega, by omega, HR.out, by omega, HG.out⟩


set_option maxRecDepth 100000 in
set_option maxHeartbeats 1000000 in
theorem DrawLongSteps_any (A : Option Addr) (n c : Nat) (w : World) (h : Bytes w w.heap.size A n c) (hn : n ≤ 1048576) :
    Calls Try.prog 22 #[.slice A n c] w (DrewLI 7 (-1) 100001 w) := by
  have H := Lib.hid h
  clear h
  go_enter Try.func22, Try.ntmps22
  go_wp2_with fail
  refine (l6Open_any _ _ _ _ H.out hn).mono ?_
  rintro e w0 ⟨rfl, hrd, hb⟩
  have HB := Lib.hid hb
  have hlt := hrd.lt
  have HR := Lib.hid hrd
  clear hrd hb
  go_wp2_with fail
  refine (l92Long_any _ _ _ _ HR.out (by omega)).mono ?_
  rintro e w1 ⟨A1, n1, c1, xs1, u1, q1, rfl, hx1, hn1, hua1, hub1, hrd1, hq1, hg1⟩
  have hsz1 := hg1.size
  replace HB := Lib.hid (HB.out.trans (base_in hg1 (Nat.le_refl _) (by omega)))
  replace HR := Lib.hid hrd1
  clear hrd1 hg1
  have HX1 := Lib.hid hx1
  clear hx1
  go_wp2
  go_ret2
  exact ⟨_, _, _, _, _, rfl, HX1.out _ (World.grownBy.refl _ _), hn1, hua1, hub1, HB.out⟩

set_option maxRecDepth 100000 in
set_option maxHeartbeats 1000000 in
theorem DrawLongQuotient_any (A : Option Addr) (n c : Nat) (w : World) (h : Bytes w w.heap.size A n c) (hn : n ≤ 1048576) :
    Calls Try.prog 46 #[.slice A n c] w (DrewLI 7 (-1) 100001 w) := by
  have H := Lib.hid h
  clear h
  go_enter Try.func46, Try.ntmps46
  go_wp2_with fail
  refine (l6Open_any _ _ _ _ H.out hn).mono ?_
  rintro e w0 ⟨rfl, hrd, hb⟩
  have HB := Lib.hid hb
  have hlt := hrd.lt
  have HR := Lib.hid hrd
  clear hrd hb
  go_wp2_with fail
  refine (l92Long_any _ _ _ _ HR.out (by omega)).mono ?_
  rintro e w1 ⟨A1, n1, c1, xs1, u1, q1, rfl, hx1, hn1, hua1, hub1, hrd1, hq1, hg1⟩
  have hsz1 := hg1.size
  replace HB := Lib.hid (HB.out.trans (base_in hg1 (Nat.le_refl _) (by omega)))
  replace HR := Lib.hid hrd1
  clear hrd1 hg1
  have HX1 := Lib.hid hx1
  clear hx1
  go_wp2
  go_ret2
  exact ⟨_, _, _, _, _, rfl, HX1.out _ (World.grownBy.refl _ _), hn1, hua1, hub1, HB.out⟩

set_option maxRecDepth 100000 in
set_option maxHeartbeats 1000000 in
theorem DrawLongDigits_any (A : Option Addr) (n c : Nat) (w : World) (h : Bytes w w.heap.size A n c) (hn : n ≤ 1048576) :
    Calls Try.prog 51 #[.slice A n c] w (DrewLII 7 (-100) 100001 w) := by
  have H := Lib.hid h
  clear h
  go_enter Try.func51, Try.ntmps51
  go_wp2_with fail
  refine (l6Open_any _ _ _ _ H.out hn).mono ?_
  rintro e w0 ⟨rfl, hrd, hb⟩
  have HB := Lib.hid hb
  have hlt := hrd.lt
  have HR := Lib.hid hrd
  clear hrd hb
  go_wp2_with fail
  refine (l92Long_any _ _ _ _ HR.out (by omega)).mono ?_
  rintro e w1 ⟨A1, n1, c1, xs1, u1, q1, rfl, hx1, hn1, hua1, hub1, hrd1, hq1, hg1⟩
  have hsz1 := hg1.size
  replace HB := Lib.hid (HB.out.trans (base_in hg1 (Nat.le_refl _) (by omega)))
  replace HR := Lib.hid hrd1
  clear hrd1 hg1
  have HX1 := Lib.hid hx1
  clear hx1
  go_wp2_with fail
  refine (pick_any _ _ _ _ _ HR.out (by omega)).mono ?_
  rintro e w2 ⟨v2, rfl, hv2, hrd2, hg2⟩
  obtain ⟨hva2, hvb2⟩ := hv2 (by omega)
  clear hv2
  have hsz2 := hg2.size
  replace HB := Lib.hid (HB.out.trans (base_in hg2 (Nat.le_refl _) (by omega)))
  replace HX1 := Lib.hid (fun v h => HX1.out v (hg2.trans h))
  replace HR := Lib.hid hrd2
  clear hrd2 hg2
  go_wp2_with fail
  refine (pick_any _ _ _ _ _ HR.out (by omega)).mono ?_
  rintro e w3 ⟨v3, rfl, hv3, hrd3, hg3⟩
  obtain ⟨hva3, hvb3⟩ := hv3 (by omega)
  clear hv3
  have hsz3 := hg3.size
  replace HB := Lib.hid (HB.out.trans (base_in hg3 (Nat.le_refl _) (by omega)))
  replace HX1 := Lib.hid (fun v h => HX1.out v (hg3.trans h))
  replace HR := Lib.hid hrd3
  clear hrd3 hg3
  go_wp2_with fail
  refine (pick_any _ _ _ _ _ HR.out (by omega)).mono ?_
  rintro e w4 ⟨v4, rfl, hv4, hrd4, hg4⟩
  obtain ⟨hva4, hvb4⟩ := hv4 (by omega)
  clear hv4
  have hsz4 := hg4.size
  replace HB := Lib.hid (HB.out.trans (base_in hg4 (Nat.le_refl _) (by omega)))
  replace HX1 := Lib.hid (fun v h => HX1.out v (hg4.trans h))
  replace HR := Lib.hid hrd4
  clear hrd4 hg4
  go_wp2
  go_ret3
  exact ⟨_, _, _, _, _, _, rfl, HX1.out _ (World.grownBy.refl _ _), hn1, by omega, hub1, by omega, by omega, HB.out⟩
end Go.Proofs.Ytphokfdaimbaiaa
