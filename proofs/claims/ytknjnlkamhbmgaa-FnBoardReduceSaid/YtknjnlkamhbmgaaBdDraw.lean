/-
  The draws of boards, places and values: whatever the code, they come back with a list that can be read.
-/
import Derived.Test.YtknjnlkamhbmgaaDraw
import Derived.Test.YtknjnlkamhbmgaaBdSpec
namespace Go.Proofs.Ytknjnlkamhbmgaa
open Go.RowKit

theorem own_cap {w : World} {B n c : Nat} {A : Option Addr} {xs : List Int} (h : Own w B A n c xs) : n ≤ c := by
  rcases h.1.2 with ⟨h0, rfl⟩ | ⟨g, cap, cur, hv, hb, hg, hr⟩
  · omega
  · injection hv with _ _ e3
    subst e3
    exact hr.1

theorem own_tail {w : World} {B g n c : Nat} {xs : List Int} (h : Own w B (some ⟨g, 0, none⟩) n c xs) (hn : n = 10) : Ints w w.heap.size (some ⟨g, 1, none⟩) 9 (xs.drop 1) := by
  obtain ⟨g8, e8, hg8, hl8, hc8, hf8⟩ := h.at_ (by omega)
  obtain rfl : g = g8 := by simpa using e8
  exact ⟨by have := h.len; simp; omega, by omega, fun _ => ⟨g, 1, rfl, hl8, fun j u hu => hc8 (1 + j) u (by rw [List.getElem?_drop] at hu; exact hu)⟩⟩
theorem grown_of_below {w w' : World} (h : Below w.heap.size w w') (row : Option Nat) : w.grownBy w' row := ⟨h.os, h.tape, h.output, h.size, fun k hk _ => h.block k hk⟩

/-- what a board's draw comes back with -/
def BdDrawn (w : World) (B g p : Nat) (e : Ending) (w' : World) : Prop :=
  ∃ A n c xs q, e = .returned (.slice A n c) ∧ (∀ v, w'.grownBy v (some g) → Ints v v.heap.size A n xs) ∧ n ≤ 10 ∧ Rd w' B g q ∧ q ≤ p + 40 ∧ w.grownBy w' (some g)

theorem _root_.Go.World.grownBy.then_ {a b c : World} {row row' : Option Nat} (h : a.grownBy b row) (k : b.grownBy c row') (hr : ∀ j, row' = some j → a.heap.size ≤ j ∨ row = some j) : a.grownBy c row :=
  ⟨k.os.trans h.os, k.tape.trans h.tape, k.output.trans h.output, Nat.le_trans h.size k.size, fun i hi hne =>
    (k.block i (Nat.lt_of_lt_of_le hi h.size) (fun e => by
      rcases hr i e.symm with h1 | h1
      · omega
      · exact hne h1.symm)).trans (h.block i hi hne)⟩

theorem own_pick {w w' w0 : World} {g n c : Nat} {A : Option Addr} {xs : List Int} (h : Own w w0.heap.size A n c xs) (hg : w.grownBy w' (some g)) (hlt : g < w0.heap.size) : Own w' w0.heap.size A n c xs :=
  h.kept hg fun k hk e => by have := (h.blk k hk).1; injection e; omega

set_option maxRecDepth 100000 in
set_option maxHeartbeats 1000000 in
theorem l91Board_any (w : World) (B g p : Nat) (h : Rd w B g p) (hp : p ≤ 900000) :
    Calls Try.prog 59 #[.pointer (some ⟨g, 0, none⟩)] w (BdDrawn w B g p) := by
  have hlt := h.lt
  have hbs := h.base
  have HR := Lib.hid h
  clear h
  go_enter Try.func59, Try.ntmps59
  go_wp2
  go_loopw [3, 4] (fun out i wr => ∃ k A c xs q, k ≤ 10 ∧ i = .int .i64 (k : Nat) ∧ out = .slice A k c ∧ Own wr w.heap.size A k c xs ∧ Rd wr B g q ∧ q ≤ p + 2 * k ∧ w.grownBy wr (some g)) (fun _ i _ => 10 - (intOf i).toNat)
  case atStart => 
    refine ⟨0, _, _, [], p, by omega, rfl, rfl, own_lit w [] w.heap.size 0 rfl (by omega) (Nat.le_refl _), HR.out.alloc _, by omega, ?_⟩
    exact World.grownBy_alloc _ _ _
  case round =>
    obtain ⟨k, A, c, xs, q, hk, rfl, rfl, hown, hrd, hq, hb⟩ := hrel
    have HRD := Lib.hid hrd
    have HO := Lib.hid hown
    have HB := Lib.hid hb
    clear hrd hown hb
    by_cases hlt10 : k < 10
    · go_wp2_with fail
      refine (pick_any _ B g q _ HRD.out (by omega)).mono ?_
      rintro e w1 ⟨v1, rfl, hv1, hrd1, hg1⟩
      have hv1 := hv1 (by omega)
      have hsz0 := HB.out.size
      have hsz1 := hg1.size
      have HO1 := Lib.hid (own_pick HO.out hg1 hlt)
      have HB1 := Lib.hid (HB.out.trans hg1)
      have HRD1 := Lib.hid hrd1
      clear hrd1 hg1
      by_cases h5 : 5 < k
      · go_wp2_with fail
        refine (pick_any _ B g _ _ HRD1.out (by omega)).mono ?_
        rintro e w2 ⟨v2, rfl, hv2, hrd2, hg2⟩
        have hv2 := hv2 (by omega)
        have hsz := HB1.out.size
        have hsz2 := hg2.size
        have HO2 := Lib.hid (own_pick HO1.out hg2 hlt)
        have HB2 := Lib.hid (HB1.out.trans hg2)
        have HRD2 := Lib.hid hrd2
        clear hrd2 hg2
        go_wp2_with (at_builtin; refine wpList_app rfl _ _ rfl rfl HO2.out [v2 / 7] 1 rfl _ rfl _ rfl (by omega) (by have := HB2.out.size; omega) ?_; intro A' c' w3 hown3 hg3)
        have HRD3 := Lib.hid (HRD2.out.grown hg3 (fun k hk => by have := (HO2.out.blk k hk).1; omega))
        have HB3 := Lib.hid (HB2.out.then_ hg3 fun j hj => .inl (HO2.out.blk j hj).1)
        go_roundw
        case rel => exact ⟨k + 1, _, _, _, _, by omega, by go_num, rfl, hown3, HRD3.out, by omega, HB3.out⟩
        case measure => simp [intOf]; omega
      · go_wp2_with (at_builtin; refine wpList_app rfl _ _ rfl rfl HO1.out [v1] 1 rfl _ rfl _ rfl (by omega) (by have := HB1.out.size; omega) ?_; intro A' c' w3 hown3 hg3)
        have HRD3 := Lib.hid (HRD1.out.grown hg3 (fun k hk => by have := (HO1.out.blk k hk).1; omega))
        have HB3 := Lib.hid (HB1.out.then_ hg3 fun j hj => .inl (HO1.out.blk j hj).1)
        go_roundw
        case rel => exact ⟨k + 1, _, _, _, _, by omega, by go_num, rfl, hown3, HRD3.out, by omega, HB3.out⟩
        case measure => simp [intOf]; omega
    · have hk10 : k = 10 := by omega
      go_wp2_with fail
      refine (pick_any _ B g q _ HRD.out (by omega)).mono ?_
      rintro e w1 ⟨v1, rfl, hv1, hrd1, hg1⟩
      have hv1 := hv1 (by omega)
      have hsz0 := HB.out.size
      have hsz1 := hg1.size
      have HO1 := Lib.hid (own_pick HO.out hg1 hlt)
      have HB1 := Lib.hid (HB.out.trans hg1)
      have HRD1 := Lib.hid hrd1
      clear hrd1 hg1
      rcases h0 : (v1 == 0) with _ | _
      · go_wp2_with fail
        refine (pick_any _ B g _ _ HRD1.out (by omega)).mono ?_
        rintro e w5 ⟨v5, rfl, hv5, hrd5, hg5⟩
        have hv5 := hv5 (by omega)
        have hsz5 := hg5.size
        have HO5 := Lib.hid (own_pick HO1.out hg5 hlt)
        have HB5 := Lib.hid (HB1.out.trans hg5)
        have HRD5 := Lib.hid hrd5
        clear hrd5 hg5
        by_cases e0 : v5 = 0
        · subst e0
          go_wp2_with fail
          refine (pick_any _ B g _ _ HRD5.out (by omega)).mono ?_
          rintro e w6 ⟨v6, rfl, hv6, hrd6, hg6⟩
          have hv6 := hv6 (by omega)
          have hsz6 := hg6.size
          have HO6 := Lib.hid (own_pick HO5.out hg6 hlt)
          have HB6 := Lib.hid (HB5.out.trans hg6)
          have HRD6 := Lib.hid hrd6
          clear hrd6 hg6
          go_wp2_with fail
          have hlit := own_lit w6 [-1, 21, 20] w.heap.size 3 rfl (by omega) (by omega)
          refine (pick_any _ B g _ _ (HRD6.out.alloc _) (by omega)).mono ?_
          rintro e w7 ⟨v7, rfl, hv7, hrd7, hg7⟩
          have hv7 := hv7 (by omega)
          have hsz7 := hg7.size
          have hlit := own_pick hlit hg7 hlt
          have HO7 := Lib.hid (own_pick (HO6.out.alloc _) hg7 hlt)
          have HB7 := Lib.hid ((HB6.out.trans (World.grownBy_alloc _ _ _)).trans hg7)
          have HRD7 := Lib.hid hrd7
          clear hrd7 hg7
          obtain ⟨g7, e7, _, _, hc7, _⟩ := hlit.at_ (by omega)
          obtain rfl : w6.heap.size = g7 := by simpa using e7
          obtain ⟨j7, rfl⟩ := Int.eq_ofNat_of_zero_le hv7.1
          obtain ⟨u7, hu7⟩ : ∃ u, ([-1, 21, 20] : List Int)[j7]? = some u := ⟨_, List.getElem?_eq_getElem (by simp; omega)⟩
          have hc7 := hc7 _ _ hu7
          clear hlit hu7 e7
          obtain ⟨g8, rfl, hg8, hl8, hc8, hf8⟩ := HO7.out.at_ (by omega)
          obtain ⟨j6, rfl⟩ := Int.eq_ofNat_of_zero_le hv6.1
          have hst := HO7.out.store j6 u7
          have HS := Lib.hid hst
          have hl7 := HO7.out.len
          obtain ⟨u8, hu8⟩ : ∃ u, w7.cell? ⟨g8, j6, none⟩ = some u := ⟨_, hc8 j6 _ (List.getElem?_eq_getElem (by omega))⟩
          have hf8 := hf8 j6
          clear hst hl7 hc8
          have hfin := fun v hg => (own_pick (w' := v) HS.out.1 hg hlt).ints
          rw [hk10] at hfin
          have HF := Lib.hid hfin
          clear hfin
          go_wp2
          go_ret
          first
            | exact ⟨_, _, _, _, _, rfl, fun v hg => (own_pick (w' := v) HS.out.1 hg hlt).ints, by omega, HRD7.out.grown HS.out.2 (by rintro k ⟨⟩; omega), by omega, HB7.out.then_ HS.out.2 (by rintro k ⟨⟩; exact .inl hg8)⟩
            | exact ⟨_, _, _, _, _, rfl, HF.out, by omega, HRD7.out.grown HS.out.2 (by rintro k ⟨⟩; omega), by omega, HB7.out.then_ HS.out.2 (by rintro k ⟨⟩; exact .inl hg8)⟩
        · have e0' : (v5 == 0) = false := by simpa using e0
          by_cases e1 : v5 = 1
          · subst e1
            obtain ⟨g8, rfl, hg8, hl8, hc8, hf8⟩ := HO5.out.at_ (by omega)
            have hl5 := HO5.out.len
            have hcap := own_cap HO5.out
            have hfin := fun v hg => own_tail (own_pick (w' := v) HO5.out hg hlt) (by omega)
            have HF := Lib.hid hfin
            clear hfin hc8 hf8 hl5
            go_wp2
            go_ret
            exact ⟨_, _, _, _, _, rfl, HF.out, by omega, HRD5.out, by omega, HB5.out⟩
          · have e1' : (v5 == 1) = false := by simpa using e1
            by_cases e2 : v5 = 2
            · subst e2
              obtain ⟨g8, rfl, hg8, hl8, hc8, hf8⟩ := HO5.out.at_ (by omega)
              have hst := HO5.out.store 9 2
              have HS := Lib.hid hst
              have hl7 := HO5.out.len
              obtain ⟨u8, hu8⟩ : ∃ u, w5.cell? ⟨g8, 9, none⟩ = some u := ⟨_, hc8 9 _ (List.getElem?_eq_getElem (by omega))⟩
              have hf8 := hf8 9
              clear hst hl7 hc8
              have hfin := fun v hg => (own_pick (w' := v) HS.out.1 hg hlt).ints
              rw [hk10] at hfin
              have HF := Lib.hid hfin
              clear hfin
              go_wp2
              go_ret
              first
                | exact ⟨_, _, _, _, _, rfl, fun v hg => (own_pick (w' := v) HS.out.1 hg hlt).ints, by omega, HRD5.out.grown HS.out.2 (by rintro k ⟨⟩; omega), by omega, HB5.out.then_ HS.out.2 (by rintro k ⟨⟩; exact .inl hg8)⟩
                | exact ⟨_, _, _, _, _, rfl, HF.out, by omega, HRD5.out.grown HS.out.2 (by rintro k ⟨⟩; omega), by omega, HB5.out.then_ HS.out.2 (by rintro k ⟨⟩; exact .inl hg8)⟩
            · have e2' : (v5 == 2) = false := by simpa using e2
              have hfin := fun v hg => (own_pick (w' := v) HO5.out hg hlt).ints
              rw [hk10] at hfin
              have HF := Lib.hid hfin
              clear hfin
              go_wp2
              go_ret
              first
                | exact ⟨_, _, _, _, _, rfl, fun v hg => (own_pick (w' := v) HO5.out hg hlt).ints, by omega, HRD5.out, by omega, HB5.out⟩
                | exact ⟨_, _, _, _, _, rfl, HF.out, by omega, HRD5.out, by omega, HB5.out⟩
      · go_wp2_with fail
        refine (pick_any _ B g _ _ HRD1.out (by omega)).mono ?_
        rintro e w2 ⟨v2, rfl, hv2, hrd2, hg2⟩
        have hv2 := hv2 (by omega)
        have hsz2 := hg2.size
        have HB2 := Lib.hid (HB1.out.trans hg2)
        have HRD2 := Lib.hid hrd2
        clear hrd2 hg2
        go_wp2_with fail
        refine (pick_any _ B g _ _ HRD2.out (by omega)).mono ?_
        rintro e w3 ⟨v3, rfl, hv3, hrd3, hg3⟩
        have hv3 := hv3 (by omega)
        have hsz3 := hg3.size
        have HB3 := Lib.hid (HB2.out.trans hg3)
        have HRD3 := Lib.hid hrd3
        clear hrd3 hg3
        go_wp2_with fail
        have hcall := specBoardOf_any (v2 * 390 + v3) w3
        rw [show okV (v2 * 390 + v3) = true by simp [okV]; omega] at hcall
        refine hcall.mono ?_
        clear hcall
        rintro e w4 ⟨⟨A4, k4, c4, rfl, hown4⟩, hb4⟩
        obtain ⟨ys, hown4, hlys⟩ : ∃ ys, Own w4 w3.heap.size A4 k4 c4 ys ∧ ys.length = 10 := ⟨_, hown4, by simp [Bd.D_length]⟩
        have hk4 : k4 = 10 := by have := hown4.len; omega
        have hsz4 := hb4.size
        have HB4 := Lib.hid (HB3.out.trans (grown_of_below hb4 _))
        have HRD4 := Lib.hid (HRD3.out.next hb4)
        have HO4 := Lib.hid (hown4.mono (show w.heap.size ≤ _ by omega))
        clear hown4 hb4
        go_wp2_with fail
        refine (pick_any _ B g _ _ HRD4.out (by omega)).mono ?_
        rintro e w5 ⟨v5, rfl, hv5, hrd5, hg5⟩
        have hv5 := hv5 (by omega)
        have hsz5 := hg5.size
        have HO5 := Lib.hid (own_pick HO4.out hg5 hlt)
        have HB5 := Lib.hid (HB4.out.trans hg5)
        have HRD5 := Lib.hid hrd5
        clear hrd5 hg5
        by_cases e0 : v5 = 0
        · subst e0
          go_wp2_with fail
          refine (pick_any _ B g _ _ HRD5.out (by omega)).mono ?_
          rintro e w6 ⟨v6, rfl, hv6, hrd6, hg6⟩
          have hv6 := hv6 (by omega)
          have hsz6 := hg6.size
          have HO6 := Lib.hid (own_pick HO5.out hg6 hlt)
          have HB6 := Lib.hid (HB5.out.trans hg6)
          have HRD6 := Lib.hid hrd6
          clear hrd6 hg6
          go_wp2_with fail
          have hlit := own_lit w6 [-1, 21, 20] w.heap.size 3 rfl (by omega) (by omega)
          refine (pick_any _ B g _ _ (HRD6.out.alloc _) (by omega)).mono ?_
          rintro e w7 ⟨v7, rfl, hv7, hrd7, hg7⟩
          have hv7 := hv7 (by omega)
          have hsz7 := hg7.size
          have hlit := own_pick hlit hg7 hlt
          have HO7 := Lib.hid (own_pick (HO6.out.alloc _) hg7 hlt)
          have HB7 := Lib.hid ((HB6.out.trans (World.grownBy_alloc _ _ _)).trans hg7)
          have HRD7 := Lib.hid hrd7
          clear hrd7 hg7
          obtain ⟨g7, e7, _, _, hc7, _⟩ := hlit.at_ (by omega)
          obtain rfl : w6.heap.size = g7 := by simpa using e7
          obtain ⟨j7, rfl⟩ := Int.eq_ofNat_of_zero_le hv7.1
          obtain ⟨u7, hu7⟩ : ∃ u, ([-1, 21, 20] : List Int)[j7]? = some u := ⟨_, List.getElem?_eq_getElem (by simp; omega)⟩
          have hc7 := hc7 _ _ hu7
          clear hlit hu7 e7
          obtain ⟨g8, rfl, hg8, hl8, hc8, hf8⟩ := HO7.out.at_ (by omega)
          obtain ⟨j6, rfl⟩ := Int.eq_ofNat_of_zero_le hv6.1
          have hst := HO7.out.store j6 u7
          have HS := Lib.hid hst
          have hl7 := HO7.out.len
          obtain ⟨u8, hu8⟩ : ∃ u, w7.cell? ⟨g8, j6, none⟩ = some u := ⟨_, hc8 j6 _ (List.getElem?_eq_getElem (by omega))⟩
          have hf8 := hf8 j6
          clear hst hl7 hc8
          have hfin := fun v hg => (own_pick (w' := v) HS.out.1 hg hlt).ints
          rw [hk4] at hfin
          have HF := Lib.hid hfin
          clear hfin
          go_wp2
          go_ret
          first
            | exact ⟨_, _, _, _, _, rfl, fun v hg => (own_pick (w' := v) HS.out.1 hg hlt).ints, by omega, HRD7.out.grown HS.out.2 (by rintro k ⟨⟩; omega), by omega, HB7.out.then_ HS.out.2 (by rintro k ⟨⟩; exact .inl hg8)⟩
            | exact ⟨_, _, _, _, _, rfl, HF.out, by omega, HRD7.out.grown HS.out.2 (by rintro k ⟨⟩; omega), by omega, HB7.out.then_ HS.out.2 (by rintro k ⟨⟩; exact .inl hg8)⟩
        · have e0' : (v5 == 0) = false := by simpa using e0
          by_cases e1 : v5 = 1
          · subst e1
            obtain ⟨g8, rfl, hg8, hl8, hc8, hf8⟩ := HO5.out.at_ (by omega)
            have hl5 := HO5.out.len
            have hcap := own_cap HO5.out
            have hfin := fun v hg => own_tail (own_pick (w' := v) HO5.out hg hlt) (by omega)
            have HF := Lib.hid hfin
            clear hfin hc8 hf8 hl5
            go_wp2
            go_ret
            exact ⟨_, _, _, _, _, rfl, HF.out, by omega, HRD5.out, by omega, HB5.out⟩
          · have e1' : (v5 == 1) = false := by simpa using e1
            by_cases e2 : v5 = 2
            · subst e2
              obtain ⟨g8, rfl, hg8, hl8, hc8, hf8⟩ := HO5.out.at_ (by omega)
              have hst := HO5.out.store 9 2
              have HS := Lib.hid hst
              have hl7 := HO5.out.len
              obtain ⟨u8, hu8⟩ : ∃ u, w5.cell? ⟨g8, 9, none⟩ = some u := ⟨_, hc8 9 _ (List.getElem?_eq_getElem (by omega))⟩
              have hf8 := hf8 9
              clear hst hl7 hc8
              have hfin := fun v hg => (own_pick (w' := v) HS.out.1 hg hlt).ints
              rw [hk4] at hfin
              have HF := Lib.hid hfin
              clear hfin
              go_wp2
              go_ret
              first
                | exact ⟨_, _, _, _, _, rfl, fun v hg => (own_pick (w' := v) HS.out.1 hg hlt).ints, by omega, HRD5.out.grown HS.out.2 (by rintro k ⟨⟩; omega), by omega, HB5.out.then_ HS.out.2 (by rintro k ⟨⟩; exact .inl hg8)⟩
                | exact ⟨_, _, _, _, _, rfl, HF.out, by omega, HRD5.out.grown HS.out.2 (by rintro k ⟨⟩; omega), by omega, HB5.out.then_ HS.out.2 (by rintro k ⟨⟩; exact .inl hg8)⟩
            · have e2' : (v5 == 2) = false := by simpa using e2
              have hfin := fun v hg => (own_pick (w' := v) HO5.out hg hlt).ints
              rw [hk4] at hfin
              have HF := Lib.hid hfin
              clear hfin
              go_wp2
              go_ret
              first
                | exact ⟨_, _, _, _, _, rfl, fun v hg => (own_pick (w' := v) HO5.out hg hlt).ints, by omega, HRD5.out, by omega, HB5.out⟩
                | exact ⟨_, _, _, _, _, rfl, HF.out, by omega, HRD5.out, by omega, HB5.out⟩
end Go.Proofs.Ytknjnlkamhbmgaa
