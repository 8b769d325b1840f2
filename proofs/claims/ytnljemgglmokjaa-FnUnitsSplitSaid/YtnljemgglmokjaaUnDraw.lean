/-
  The draws of units.
-/
import Derived.Test.YtnljemgglmokjaaKit
import Derived.Test.YtnljemgglmokjaaDraw2
namespace Go.Proofs.Ytnljemgglmokjaa
open Go.RowKit

/-- a drawn list with its capacity -/
def DRow (N : Nat) (w : World) (B g p : Nat) (e : Ending) (w' : World) : Prop :=
  ∃ A n c xs q, e = .returned (.slice A n c) ∧ (∀ v, w'.grownBy v (some g) → Ints v v.heap.size A n xs) ∧ n ≤ N ∧ n ≤ c ∧ Rd w' B g q ∧ q ≤ p + 40 ∧ w.grownBy w' (some g)

set_option maxRecDepth 100000 in
set_option maxHeartbeats 2000000 in
theorem l91Units_any (w : World) (B g p : Nat) (h : Rd w B g p) (hp : p ≤ 900000) :
    Calls Try.prog 32 #[.pointer (some ⟨g, 0, none⟩)] w (DRow 6 w B g p) := by
  have hlt := h.lt
  have hbs := h.base
  have HR := Lib.hid h
  have HG := Lib.hid (World.grownBy.refl w (some g))
  clear h
  go_enter Try.func32, Try.ntmps32
  have HLN := Lib.hid (lit_nil w)
  go_wp2_with fail
  refine (pick_any _ _ _ _ _ (HR.out.alloc _) (by omega)).mono ?_
  rintro e w1 ⟨v1, rfl, hv1, hrd1, hg1⟩
  obtain ⟨hva1, hvb1⟩ := hv1 (by omega)
  clear hv1
  obtain ⟨j1, rfl⟩ := Int.eq_ofNat_of_zero_le hva1
  have HO := Lib.hid (own_pick HLN.out hg1 hlt)
  clear HLN
  have hsz1 := hg1.size
  simp only [World.size_alloc] at hsz1
  replace HG := Lib.hid ((HG.out.trans (World.grownBy_alloc _ _ _)).trans hg1)
  replace HR := Lib.hid hrd1
  clear hrd1 hg1
  go_wp2_with fail
  go_loopw [3, 5, 6] (fun out lv i wr => ∃ (k : Nat) (A : Option Addr) (c : Nat) (xs : List Int) (q : Nat) (a : Int), k ≤ j1 ∧ i = .int .i64 (k : Nat) ∧ out = .slice A k c ∧ lv = .int .i64 a ∧ 1 ≤ a ∧ a ≤ 1 + 6 * k ∧ Own wr w.heap.size A k c xs ∧ Rd wr B g q ∧ q ≤ p + 1 + k ∧ w.grownBy wr (some g)) (fun _ _ i _ => j1 - (intOf i).toNat)
  case atStart => exact ⟨0, _, _, _, _, 1, by omega, rfl, rfl, rfl, by omega, by omega, HO.out, HR.out, by omega, HG.out⟩
  case round =>
    clear HO HR HG
    obtain ⟨k, A, c, xs, q, a, hk, rfl, rfl, rfl, a1, a2, hown, hrd, hq, hg⟩ := hrel
    have hszg := hg.size
    have HO := Lib.hid hown
    have HR := Lib.hid hrd
    have HG := Lib.hid hg
    clear hown hrd hg
    by_cases hlk : k < j1
    · go_wp2_with fail
      refine (pick_any _ _ _ _ _ HR.out (by omega)).mono ?_
      rintro e w2 ⟨v2, rfl, hv2, hrd2, hg2⟩
      obtain ⟨hva2, hvb2⟩ := hv2 (by omega)
      clear hv2
      have hsz2 := hg2.size
      replace HG := Lib.hid (HG.out.trans hg2)
      replace HO := Lib.hid (own_pick HO.out hg2 hlt)
      replace HR := Lib.hid hrd2
      clear hrd2 hg2
      go_wp2_with (at_builtin; refine wpList_app rfl _ _ rfl rfl HO.out [a + 1 + v2] 1 rfl _ rfl _ rfl (by omega) (by have := HG.out.size; omega) ?_; intro A' c' w9 hown9 hg9)
      have HR9 := Lib.hid (HR.out.grown hg9 (fun k hk => by have := (HO.out.blk k hk).1; omega))
      have HG9 := Lib.hid (HG.out.then_ hg9 fun j hj => .inl (HO.out.blk j hj).1)
      go_roundw
      case rel => exact ⟨k + 1, _, _, _, _, a + 1 + v2, by omega, by go_num, rfl, rfl, by omega, by omega, hown9, HR9.out, by omega, HG9.out⟩
      case measure => simp [intOf]; omega
    · obtain rfl : k = j1 := by omega
      clear hlk hk
      by_cases hk0 : k = 0
      · subst hk0
        go_wp2
        go_ret
        exact ⟨_, _, _, _, _, rfl, fun v hg => (own_pick (w' := v) HO.out hg hlt).ints, by omega, own_cap HO.out, HR.out, by omega, HG.out⟩
      · have hkp : 0 < k := by omega
        obtain ⟨k', rfl⟩ : ∃ k', k = k' + 1 := ⟨k - 1, by omega⟩
        clear hk0
        go_wp2_with fail
        refine (pick_any _ _ _ _ _ HR.out (by omega)).mono ?_
        rintro e w2 ⟨v2, rfl, hv2, hrd2, hg2⟩
        obtain ⟨hva2, hvb2⟩ := hv2 (by omega)
        clear hv2
        have hsz2 := hg2.size
        replace HG := Lib.hid (HG.out.trans hg2)
        replace HO := Lib.hid (own_pick HO.out hg2 hlt)
        replace HR := Lib.hid hrd2
        clear hrd2 hg2
        have hi1 : ((k' + 1 : Nat) : Int) - 1 = (k' : Int) := by omega
        by_cases ev2_0 : v2 = 0
        · subst ev2_0
          go_wp2_with fail
          refine (pick_any _ _ _ _ _ (HR.out.alloc _) (by omega)).mono ?_
          rintro e w3 ⟨v3, rfl, hv3, hrd3, hg3⟩
          obtain ⟨hva3, hvb3⟩ := hv3 (by omega)
          obtain ⟨j3, u3, rfl, hj3, hu3, hc3⟩ := lit_after (n := 3) (us := [1, 0, 1000000001]) hg3 (by omega) rfl (by omega) hva3 hvb3
          clear hv3 hu3
          have hsz3 := hg3.size
          simp only [World.size_alloc] at hsz3
          replace HG := Lib.hid ((HG.out.trans (World.grownBy_alloc _ _ _)).trans hg3)
          replace HO := Lib.hid (own_pick (HO.out.alloc _) hg3 hlt)
          replace HR := Lib.hid hrd3
          clear hrd3 hg3
          obtain ⟨g8, rfl, hg8, hl8, hc8, hf8⟩ := HO.out.at_ hkp
          have hl7 := HO.out.len
          obtain ⟨u8, hu8⟩ : ∃ u, w3.cell? ⟨g8, 0, none⟩ = some u := ⟨_, hc8 0 _ (List.getElem?_eq_getElem (by omega))⟩
          have hf0 := hf8 0
          have HS := Lib.hid (HO.out.store 0 u3)
          clear hl7 hc8 hf8
          go_wp2
          go_ret
          exact ⟨_, _, _, _, _, rfl, fun v hg => (own_pick (w' := v) HS.out.1 hg hlt).ints, by omega, own_cap HS.out.1, HR.out.grown HS.out.2 (by rintro k ⟨⟩; omega), by omega, HG.out.then_ HS.out.2 (by rintro k ⟨⟩; exact .inl hg8)⟩
        · have fv2_0 : (v2 == 0) = false := by simpa using ev2_0
          by_cases ev2_1 : v2 = 1
          · subst ev2_1
            clear ev2_0 fv2_0
            obtain ⟨g8, rfl, hg8, hl8, hc8, hf8⟩ := HO.out.at_ hkp
            have hl7 := HO.out.len
            obtain ⟨u8, hx8⟩ : ∃ u, xs[k']? = some u := ⟨_, List.getElem?_eq_getElem (by omega)⟩
            have hu8 := hc8 k' u8 hx8
            clear hl7 hc8 hf8 hx8
            go_wp2_with (at_builtin; refine wpList_app rfl _ _ rfl rfl HO.out [u8] 1 rfl _ rfl _ rfl (by omega) (by have := HG.out.size; omega) ?_; intro A' c' w9 hown9 hg9)
            have HR9 := Lib.hid (HR.out.grown hg9 (fun k hk => by have := (HO.out.blk k hk).1; omega))
            have HG9 := Lib.hid (HG.out.then_ hg9 fun j hj => .inl (HO.out.blk j hj).1)
            go_ret
            exact ⟨_, _, _, _, _, rfl, fun v hg => (own_pick (w' := v) hown9 hg hlt).ints, by omega, own_cap hown9, HR9.out, by omega, HG9.out⟩
          · have fv2_1 : (v2 == 1) = false := by simpa using ev2_1
            by_cases ev2_2 : v2 = 2
            · subst ev2_2
              clear ev2_0 fv2_0 ev2_1 fv2_1
              go_wp2_with fail
              refine (pick_any _ _ _ _ _ (HR.out.alloc _) (by omega)).mono ?_
              rintro e w3 ⟨v3, rfl, hv3, hrd3, hg3⟩
              obtain ⟨hva3, hvb3⟩ := hv3 (by omega)
              obtain ⟨j3, u3, rfl, hj3, hu3, hc3⟩ := lit_after (n := 3) (us := [1000000000, 40000, 31622]) hg3 (by omega) rfl (by omega) hva3 hvb3
              clear hv3 hu3
              have hsz3 := hg3.size
              simp only [World.size_alloc] at hsz3
              replace HG := Lib.hid ((HG.out.trans (World.grownBy_alloc _ _ _)).trans hg3)
              replace HO := Lib.hid (own_pick (HO.out.alloc _) hg3 hlt)
              replace HR := Lib.hid hrd3
              clear hrd3 hg3
              obtain ⟨g8, rfl, hg8, hl8, hc8, hf8⟩ := HO.out.at_ hkp
              have hl7 := HO.out.len
              obtain ⟨u8, hu8⟩ : ∃ u, w3.cell? ⟨g8, k', none⟩ = some u := ⟨_, hc8 k' _ (List.getElem?_eq_getElem (by omega))⟩
              have hf0 := hf8 k'
              have HS := Lib.hid (HO.out.store k' u3)
              clear hl7 hc8 hf8
              go_wp2
              go_ret
              exact ⟨_, _, _, _, _, rfl, fun v hg => (own_pick (w' := v) HS.out.1 hg hlt).ints, by omega, own_cap HS.out.1, HR.out.grown HS.out.2 (by rintro k ⟨⟩; omega), by omega, HG.out.then_ HS.out.2 (by rintro k ⟨⟩; exact .inl hg8)⟩
            · have fv2_2 : (v2 == 2) = false := by simpa using ev2_2
              go_wp2
              go_ret
              exact ⟨_, _, _, _, _, rfl, fun v hg => (own_pick (w' := v) HO.out hg hlt).ints, by omega, own_cap HO.out, HR.out, by omega, HG.out⟩

set_option maxHeartbeats 1000000 in
theorem l91At_any (w : World) (B g p : Nat) (n : Nat) (h : Rd w B g p) (hp : p ≤ 900000) (hn : n ≤ 100) :
    Calls Try.prog 34 #[.pointer (some ⟨g, 0, none⟩), .int .i64 (n : Int)] w (DInt (-1) 100 w B g p) := by
  have hlt := h.lt
  have hbs := h.base
  have HR := Lib.hid h
  have HG := Lib.hid (World.grownBy.refl w (some g))
  clear h
  by_cases hz : n = 0
  · subst hz
    go_enter Try.func34, Try.ntmps34
    go_wp2_with fail
    refine (pick_any _ _ _ _ _ (HR.out.alloc _) (by omega)).mono ?_
    rintro e w3 ⟨v3, rfl, hv3, hrd3, hg3⟩
    obtain ⟨hva3, hvb3⟩ := hv3 (by omega)
    obtain ⟨j3, u3, rfl, hj3, hu3, hc3⟩ := lit_after (n := 2) (us := [-1, 0]) hg3 (by omega) rfl (by omega) hva3 hvb3
    obtain ⟨hua3, hub3⟩ : -1 ≤ u3 ∧ u3 ≤ 100 := by simp at hu3; omega
    clear hv3 hu3
    replace HG := Lib.hid ((HG.out.trans (World.grownBy_alloc _ _ _)).trans hg3)
    replace HR := Lib.hid hrd3
    clear hrd3 hg3
    go_wp2
    go_ret
    exact ⟨_, _, rfl, by omega, by omega, HR.out, by omega, HG.out⟩
  · have hne : ((n : Int) == 0) = false := by simpa using hz
    go_enter Try.func34, Try.ntmps34
    go_wp2_with fail
    refine (pick_any _ _ _ _ _ HR.out (by omega)).mono ?_
    rintro e w1 ⟨v1, rfl, hv1, hrd1, hg1⟩
    obtain ⟨hva1, hvb1⟩ := hv1 (by omega)
    clear hv1
    have hsz1 := hg1.size
    replace HG := Lib.hid (HG.out.trans hg1)
    replace HR := Lib.hid hrd1
    clear hrd1 hg1
    by_cases h0 : v1 = 0
    · subst h0
      go_wp2_with fail
      refine (pick_any _ _ _ _ _ (HR.out.alloc _) (by omega)).mono ?_
      rintro e w3 ⟨v3, rfl, hv3, hrd3, hg3⟩
      obtain ⟨hva3, hvb3⟩ := hv3 (by omega)
      obtain ⟨j3, u3, rfl, hj3, hu3, hc3⟩ := lit_after (n := 2) (us := [-1, (n : Int)]) hg3 (by omega) rfl (by omega) hva3 hvb3
      obtain ⟨hua3, hub3⟩ : -1 ≤ u3 ∧ u3 ≤ 100 := by simp at hu3; omega
      clear hv3 hu3
      replace HG := Lib.hid ((HG.out.trans (World.grownBy_alloc _ _ _)).trans hg3)
      replace HR := Lib.hid hrd3
      clear hrd3 hg3
      go_wp2
      go_ret
      exact ⟨_, _, rfl, by omega, by omega, HR.out, by omega, HG.out⟩
    · have h0' : (v1 == 0) = false := by simpa using h0
      go_wp2_with fail
      refine (pick_any _ _ _ _ _ HR.out (by omega)).mono ?_
      rintro e w3 ⟨v3, rfl, hv3, hrd3, hg3⟩
      obtain ⟨hva3, hvb3⟩ := hv3 (by omega)
      clear hv3
      replace HG := Lib.hid (HG.out.trans hg3)
      replace HR := Lib.hid hrd3
      clear hrd3 hg3
      go_wp2
      go_ret
      exact ⟨_, _, rfl, by omega, by omega, HR.out, by omega, HG.out⟩

/-- a law's draw of units and an index -/
def DrewUI (w : World) (e : Ending) (w' : World) : Prop :=
  ∃ A n c xs v, e = .returned (.tuple #[.slice A n c, .int .i64 v]) ∧ Ints w' w'.heap.size A n xs ∧ n ≤ 6 ∧ n ≤ c ∧ -1 ≤ v ∧ v ≤ 100 ∧ Below w.heap.size w w'
set_option maxHeartbeats 1000000 in
theorem DrawUnitsSplit_any (A : Option Addr) (n c : Nat) (w : World) (h : Bytes w w.heap.size A n c) (hn : n ≤ 1048576) :
    Calls Try.prog 22 #[.slice A n c] w (DrewUI w) := by
  have H := Lib.hid h
  clear h
  go_enter Try.func22, Try.ntmps22
  go_wp2_with fail
  refine (l6Open_any _ _ _ _ H.out hn).mono ?_
  rintro e w0 ⟨rfl, hrd, hb⟩
  have HB := Lib.hid hb
  have hlt := hrd.lt
  have HR := Lib.hid hrd
  clear hrd hb
  go_wp2_with fail
  refine (l91Units_any _ _ _ _ HR.out (by omega)).mono ?_
  rintro e w1 ⟨A1, n1, c1, xs, q1, rfl, hx, hn1, hcp, hrd1, hq1, hg1⟩
  have hsz1 := hg1.size
  replace HB := Lib.hid (HB.out.trans (base_in hg1 (Nat.le_refl _) (by omega)))
  replace HR := Lib.hid hrd1
  have HX := Lib.hid hx
  clear hrd1 hg1 hx
  go_wp2_with fail
  refine (l91At_any _ _ _ _ n1 HR.out (by omega) (by omega)).mono ?_
  rintro e w2 ⟨v2, q2, rfl, hva, hvb, hrd2, hq2, hg2⟩
  have HX2 := Lib.hid (HX.out w2 hg2)
  replace HB := Lib.hid (HB.out.trans (base_in hg2 (Nat.le_refl _) (by omega)))
  clear hrd2 hg2
  go_wp2
  go_ret2
  exact ⟨_, _, _, _, _, rfl, HX2.out, hn1, hcp, hva, hvb, HB.out⟩
set_option maxHeartbeats 1000000 in
theorem DrawUnitsDrop_any (A : Option Addr) (n c : Nat) (w : World) (h : Bytes w w.heap.size A n c) (hn : n ≤ 1048576) :
    Calls Try.prog 16 #[.slice A n c] w (DrewUI w) := by
  have H := Lib.hid h
  clear h
  go_enter Try.func16, Try.ntmps16
  go_wp2_with fail
  refine (DrawUnitsSplit_any _ _ _ _ H.out hn).mono ?_
  rintro e w1 ⟨A1, n1, c1, xs, v, rfl, hx, hn1, hcp, hva, hvb, hb⟩
  have HX := Lib.hid hx
  have HB := Lib.hid hb
  clear hx hb
  go_wp2
  go_ret2
  exact ⟨_, _, _, _, _, rfl, HX.out, hn1, hcp, hva, hvb, HB.out⟩
end Go.Proofs.Ytnljemgglmokjaa
