/-
  Joined texts: ExDup4, BdDraw, BdDraw2, BdSpec2, BdSpec3, BdLawKit, BdLawKit3, ExecuteTimesWalk.
-/
import Derived.Test.YthdoofmfigemoaaGreatDoorExecuteTimesP1
import Derived.Deep.RegionWith
import Derived.Deep.RegionLaw

section
/-
  The draw of two factors.
-/
namespace Go.Proofs.YthdoofmfigemoaaGreatDoor
open Go.RowKit
set_option linter.unusedSimpArgs false

theorem grown_undrew' {a w : World} {row : Option Nat} (h : a.drew.grownBy w row) : a.grownBy w row := ⟨h.os, h.tape, h.output, h.size, h.block⟩
/-- a literal laid behind all: what an index finds there -/
theorem lit_there {us : List Int} {n : Nat} {v : Int} (hn : us.length = n) (h0 : 0 ≤ v) (h1 : v < n) :
    ∃ (j : Nat) (u : Int), v = (j : Int) ∧ j < n ∧ u ∈ us ∧ us[j]? = some u := by
  obtain ⟨j, rfl⟩ := Int.eq_ofNat_of_zero_le h0
  exact ⟨j, us[j], rfl, by omega, List.getElem_mem _, List.getElem?_eq_getElem (by omega)⟩
def DFac (w : World) (g : Nat) (e : Ending) (w' : World) : Prop := ∃ u v : Int, e = .returned (.tuple #[.int .i64 u, .int .i64 v]) ∧ (-1 ≤ u ∧ u ≤ 100001) ∧ (-1 ≤ v ∧ v ≤ 100001) ∧ w.grownBy w' (some g)
abbrev facL : List Int := [0, -1, 100001, 100000]
theorem lit_cell (W : World) {j : Nat} {u : Int} (h : facL[j]? = some u) : (W.alloc (.cells #[.int .i64 0, .int .i64 (-1), .int .i64 100001, .int .i64 100000] 3)).cell? ⟨W.heap.size, j, none⟩ = some (.int .i64 u) := by
  rw [cell_of_row _ W.heap.size j _ _ _ (heap_alloc_new W _)]
  obtain rfl | rfl | rfl | rfl : j = 0 ∨ j = 1 ∨ j = 2 ∨ j = 3 := by have := (List.getElem?_eq_some_iff.1 h).1; simp at this; omega
  all_goals
    injection h with h
    subst h
    rfl
theorem wr_bd {v : Int} (h0 : 0 ≤ v) (h1 : v < 9) : -1 ≤ IntKind.i64.wrap (1 + v) ∧ IntKind.i64.wrap (1 + v) ≤ 100001 := by
  rw [IntWalk.i64_in _ (by omega)]
  omega
set_option maxRecDepth 100000 in
set_option maxHeartbeats 2000000 in
theorem l91Factors_any (w : World) (B g p : Nat) (h : Rd w B g p) (hp : p ≤ 900000) :
    Calls Tryz.prog 74 #[.pointer (some ⟨g, 0, none⟩)] w (DFac w g) := by
  have hlt := h.lt
  have HR := Lib.hid h
  clear h
  go_enter Tryz.func74, Tryz.ntmps74
  go_wp2_with fail
  refine (pick_any _ _ _ _ _ HR.out (by omega)).mono ?_
  rintro e w1 ⟨v1, rfl, hv1, hrd1, hg1⟩
  obtain ⟨hva1, hvb1⟩ := hv1 (by omega)
  clear hv1
  have hsz1 := hg1.size
  have hlt1 := hrd1.lt
  replace HR := Lib.hid hrd1
  have HG := Lib.hid hg1
  clear hrd1 hg1
  by_cases e0 : v1 = 0
  · subst e0
    go_wp2_with fail
    go_region_with (first
      | (go_at_call 41; (with_reducible refine (pick_any _ _ _ _ _ ((HR.out.alloc _).drew) (by omega)).mono ?_); rintro e w3 ⟨v3, rfl, hv3, hrd3, hg3⟩; obtain ⟨hva3, hvb3⟩ := hv3 (by omega); replace hg3 := grown_undrew hg3; obtain ⟨j3, u3, rfl, hj3, hu3, hc3⟩ := lit_after (n := 4) (us := facL) hg3 (by omega) rfl (by omega) hva3 hvb3; obtain ⟨hua3, hub3⟩ : -1 ≤ u3 ∧ u3 ≤ 100001 := (by simp at hu3; omega); have hl3' := hrd3.lt; have hs3' := hg3.size; simp only [World.size_alloc] at hs3'; have HRA := Lib.hid hrd3; have HGA := Lib.hid ((HG.out.trans (World.grownBy_alloc _ _ _)).trans hg3); clear hv3 hu3 hrd3 hg3 HR)
      | (go_at_call 41; (with_reducible refine (pick_any _ _ _ _ _ HR.out.drew (by omega)).mono ?_); rintro e w3 ⟨v3, rfl, hv3, hrd3, hg3⟩; obtain ⟨hva3, hvb3⟩ := hv3 (by omega); replace hg3 := grown_undrew hg3; obtain ⟨j3, u3, rfl, hj3, hu3, hl3⟩ := lit_there (n := 4) (us := facL) rfl hva3 hvb3; have hc3 := lit_cell w3 hl3; have HL3 := Lib.hid hl3; clear hl3; obtain ⟨hua3, hub3⟩ : -1 ≤ u3 ∧ u3 ≤ 100001 := (by simp at hu3; omega); have hl3' := hrd3.lt; have HRB := Lib.hid hrd3; have HGB := Lib.hid (HG.out.trans hg3); clear hv3 hu3 hrd3 hg3 HR)
      | (go_at_call 41; (with_reducible refine (pick_any _ _ _ _ _ HRA.out (by omega)).mono ?_); rintro e w4 ⟨v4, rfl, hv4, hrd4, hg4⟩; obtain ⟨hva4, hvb4⟩ := hv4 (by omega); have hc4 := World.grownBy.cell hg4 hc3 (fun e => by have := Option.some.inj e; simp at this; omega); have HGF := Lib.hid (HGA.out.trans hg4); clear hv4 hrd4 hg4 HRA)
      | (go_at_call 41; (with_reducible refine (pick_any _ _ _ _ _ (HRB.out.alloc _) (by omega)).mono ?_); rintro e w4 ⟨v4, rfl, hv4, hrd4, hg4⟩; obtain ⟨hva4, hvb4⟩ := hv4 (by omega); have hc4 := World.grownBy.cell hg4 hc3 (fun e => by have := Option.some.inj e; simp at this; omega); have HGF := Lib.hid ((HGB.out.trans (World.grownBy_alloc _ _ _)).trans hg4); clear hv4 hrd4 hg4 HRB)
      | (go_at_call 41; (with_reducible refine (pick_any _ _ _ _ _ HRB.out (by omega)).mono ?_); rintro e w4 ⟨v4, rfl, hv4, hrd4, hg4⟩; obtain ⟨hva4, hvb4⟩ := hv4 (by omega); have hc4 := lit_cell w4 HL3.out; have HGF := Lib.hid (HGB.out.trans hg4); clear hv4 hrd4 hg4 HRB))
    all_goals
      first
        | (go_wp2; go_ret2; exact ⟨_, _, rfl, by omega, wr_bd hva4 hvb4, HGF.out⟩)
        | (go_wp2; go_ret2; exact ⟨_, _, rfl, by omega, wr_bd hva4 hvb4, HGF.out.trans (World.grownBy_alloc _ _ _)⟩)
  · have f0 : (v1 == 0) = false := by simpa using e0
    by_cases e1 : v1 = 1
    · subst e1
      go_wp2_with fail
      go_region_with (first
        | (go_at_call 41; (with_reducible refine (pick_any _ _ _ _ _ ((HR.out.alloc _).drew) (by omega)).mono ?_); rintro e w3 ⟨v3, rfl, hv3, hrd3, hg3⟩; obtain ⟨hva3, hvb3⟩ := hv3 (by omega); replace hg3 := grown_undrew hg3; have hl3' := hrd3.lt; have hs3' := hg3.size; simp only [World.size_alloc] at hs3'; have HRA := Lib.hid hrd3; have HGA := Lib.hid ((HG.out.trans (World.grownBy_alloc _ _ _)).trans hg3); have HGL := Lib.hid hg3; clear hv3 hrd3 hg3 HR)
        | (go_at_call 41; (with_reducible refine (pick_any _ _ _ _ _ HR.out.drew (by omega)).mono ?_); rintro e w3 ⟨v3, rfl, hv3, hrd3, hg3⟩; obtain ⟨hva3, hvb3⟩ := hv3 (by omega); replace hg3 := grown_undrew hg3; have hl3' := hrd3.lt; have HRB := Lib.hid hrd3; have HGB := Lib.hid (HG.out.trans hg3); clear hv3 hrd3 hg3 HR)
        | (go_at_call 41; (with_reducible refine (pick_any _ _ _ _ _ HRA.out (by omega)).mono ?_); rintro e w4 ⟨v4, rfl, hv4, hrd4, hg4⟩; obtain ⟨hva4, hvb4⟩ := hv4 (by omega); obtain ⟨j4, u4, rfl, hj4, hu4, hc4⟩ := lit_after (n := 4) (us := facL) (HGL.out.trans hg4) (by omega) rfl (by omega) hva4 hvb4; obtain ⟨hua4, hub4⟩ : -1 ≤ u4 ∧ u4 ≤ 100001 := (by simp at hu4; omega); have HGF := Lib.hid (HGA.out.trans hg4); clear hv4 hrd4 hg4 HRA hu4 HGL)
        | (go_at_call 41; (with_reducible refine (pick_any _ _ _ _ _ (HRB.out.alloc _) (by omega)).mono ?_); rintro e w4 ⟨v4, rfl, hv4, hrd4, hg4⟩; obtain ⟨hva4, hvb4⟩ := hv4 (by omega); obtain ⟨j4, u4, rfl, hj4, hu4, hc4⟩ := lit_after (n := 4) (us := facL) hg4 (by omega) rfl (by omega) hva4 hvb4; obtain ⟨hua4, hub4⟩ : -1 ≤ u4 ∧ u4 ≤ 100001 := (by simp at hu4; omega); have HGF := Lib.hid ((HGB.out.trans (World.grownBy_alloc _ _ _)).trans hg4); clear hv4 hrd4 hg4 HRB hu4)
        | (go_at_call 41; (with_reducible refine (pick_any _ _ _ _ _ HRB.out (by omega)).mono ?_); rintro e w4 ⟨v4, rfl, hv4, hrd4, hg4⟩; obtain ⟨hva4, hvb4⟩ := hv4 (by omega); obtain ⟨j4, u4, rfl, hj4, hu4, hl4⟩ := lit_there (n := 4) (us := facL) rfl hva4 hvb4; obtain ⟨hua4, hub4⟩ : -1 ≤ u4 ∧ u4 ≤ 100001 := (by simp at hu4; omega); have hc4 := lit_cell w4 hl4; have HGF := Lib.hid (HGB.out.trans hg4); clear hv4 hrd4 hg4 HRB hl4 hu4))
      all_goals
        first
          | (go_wp2; go_ret2; exact ⟨_, _, rfl, wr_bd hva3 hvb3, by omega, HGF.out⟩)
          | (go_wp2; go_ret2; exact ⟨_, _, rfl, wr_bd hva3 hvb3, by omega, HGF.out.trans (World.grownBy_alloc _ _ _)⟩)
    · have f1 : (v1 == 1) = false := by simpa using e1
      go_wp2_with fail
      refine (pick_any _ _ _ _ _ HR.out (by omega)).mono ?_
      rintro e w3 ⟨v3, rfl, hv3, hrd3, hg3⟩
      obtain ⟨hva3, hvb3⟩ := hv3 (by omega)
      replace HG := Lib.hid (HG.out.trans hg3)
      replace HR := Lib.hid hrd3
      clear hrd3 hg3 hv3
      go_wp2_with fail
      refine (pick_any _ _ _ _ _ HR.out (by omega)).mono ?_
      rintro e w4 ⟨v4, rfl, hv4, hrd4, hg4⟩
      obtain ⟨hva4, hvb4⟩ := hv4 (by omega)
      replace HG := Lib.hid (HG.out.trans hg4)
      clear hrd4 hg4 hv4 HR
      go_wp2
      go_ret2
      exact ⟨_, _, rfl, by omega, by omega, HG.out⟩
theorem DrawDupTimes_any (A : Option Addr) (n c : Nat) (w : World) (h : Bytes w w.heap.size A n c) (hn : n ≤ 1048576) :
    Calls Tryz.prog 32 #[.slice A n c] w fun e w' => ∃ u v : Int, e = .returned (.tuple #[.int .i64 u, .int .i64 v]) ∧ (-1 ≤ u ∧ u ≤ 100001) ∧ (-1 ≤ v ∧ v ≤ 100001) ∧ Below w.heap.size w w' := by
  have H := Lib.hid h
  clear h
  go_enter Tryz.func32, Tryz.ntmps32
  go_wp2_with fail
  refine (l6Open_any _ _ _ _ H.out hn).mono ?_
  rintro e w1 ⟨rfl, hrd, hb⟩
  have HB := Lib.hid hb
  have hsz := hrd.lt
  have HR := Lib.hid hrd
  clear hrd hb
  go_wp2_with fail
  refine (l91Factors_any _ _ _ _ HR.out (by omega)).mono ?_
  rintro e w2 ⟨u, v, rfl, hu, hv, hg⟩
  have HB2 := Lib.hid (HB.out.trans (base_in hg (Nat.le_refl _) (by omega)))
  clear hg
  go_wp2
  go_ret2
  exact ⟨_, _, rfl, hu, hv, HB2.out⟩
end Go.Proofs.YthdoofmfigemoaaGreatDoor
end

section
/-
  The draws of boards, places and values: whatever the code, they come back with a list that can be read.
-/
namespace Go.Proofs.YthdoofmfigemoaaGreatDoor
open Go.RowKit

theorem own_tail {w : World} {B g n c : Nat} {xs : List Int} (h : Own w B (some ⟨g, 0, none⟩) n c xs) (hn : n = 10) : Ints w w.heap.size (some ⟨g, 1, none⟩) 9 (xs.drop 1) := by
  obtain ⟨g8, e8, hg8, hl8, hc8, hf8⟩ := h.at_ (by omega)
  obtain rfl : g = g8 := by simpa using e8
  exact ⟨by have := h.len; simp; omega, by omega, fun _ => ⟨g, 1, rfl, hl8, fun j u hu => hc8 (1 + j) u (by rw [List.getElem?_drop] at hu; exact hu)⟩⟩
/-- what a board's draw comes back with -/
def BdDrawn (w : World) (B g p : Nat) (e : Ending) (w' : World) : Prop :=
  ∃ A n c xs q, e = .returned (.slice A n c) ∧ (∀ v, w'.grownBy v (some g) → Ints v v.heap.size A n xs) ∧ n ≤ 10 ∧ Rd w' B g q ∧ q ≤ p + 40 ∧ w.grownBy w' (some g)

end Go.Proofs.YthdoofmfigemoaaGreatDoor
end

section
/-
  The laws' draws of boards, places and values.
-/
namespace Go.Proofs.YthdoofmfigemoaaGreatDoor
open Go.RowKit

/-- a drawn board -/
def Drew1 (w : World) (e : Ending) (w' : World) : Prop := ∃ A n c xs, e = .returned (.slice A n c) ∧ Ints w' w'.heap.size A n xs ∧ n ≤ 10 ∧ Below w.heap.size w w'

/-- two drawn boards -/
def Drew2 (w : World) (e : Ending) (w' : World) : Prop :=
  ∃ A n c xs A2 n2 c2 ys, e = .returned (.tuple #[.slice A n c, .slice A2 n2 c2]) ∧ Ints w' w'.heap.size A n xs ∧ Ints w' w'.heap.size A2 n2 ys ∧ n ≤ 10 ∧ n2 ≤ 10 ∧ Below w.heap.size w w'
/-- a drawn board and a place -/
def DrewPlace (w : World) (e : Ending) (w' : World) : Prop :=
  ∃ A n c xs v, e = .returned (.tuple #[.slice A n c, .int .i64 v]) ∧ Ints w' w'.heap.size A n xs ∧ n ≤ 10 ∧ -100 ≤ v ∧ v ≤ 100 ∧ Below w.heap.size w w'
/-- a drawn value -/
def DrewV (w : World) (e : Ending) (w' : World) : Prop := ∃ v, e = .returned (.int .i64 v) ∧ -100 ≤ v ∧ v ≤ 1000000 ∧ Below w.heap.size w w'
set_option maxHeartbeats 1000000 in
theorem l91Value_any (w0 w : World) (g : Nat) (h : Rd w w0.heap.size g 0) (hb0 : Below w0.heap.size w0 w) :
    Calls Tryz.prog 64 #[.pointer (some ⟨g, 0, none⟩)] w (DrewV w0) := by
  have hlt := h.lt
  have hbs := h.base
  have HB := Lib.hid hb0
  have HR := Lib.hid h
  clear h hb0
  go_enter Tryz.func64, Tryz.ntmps64
  go_wp2_with fail
  refine (pick_any _ _ _ _ _ HR.out (by omega)).mono ?_
  rintro e w3 ⟨v3, rfl, hv3, hrd3, hg3⟩
  have hv3 := hv3 (by omega)
  have hsz3 := hg3.size
  have HB3 := Lib.hid (HB.out.trans (base_in hg3 hbs (by omega)))
  have HR3 := Lib.hid hrd3
  clear hrd3 hg3
  by_cases e0 : v3 = 0
  · subst e0
    go_wp2_with fail
    have hlit := own_lit w3 [-1, 99999, 100000, 0] w3.heap.size 4 rfl (by omega) (by omega)
    refine (pick_any _ _ _ _ _ (HR3.out.alloc _) (by omega)).mono ?_
    rintro e w4 ⟨v4, rfl, hv4, hrd4, hg4⟩
    have hv4 := hv4 (by omega)
    have hlit := own_pick hlit hg4 (by omega)
    have HB4 := Lib.hid ((HB3.out.alloc (by omega) _).trans (base_in hg4 hbs (by simp; omega)))
    clear hrd4 hg4
    obtain ⟨g7, e7, _, _, hc7, _⟩ := hlit.at_ (by omega)
    obtain rfl : w3.heap.size = g7 := by simpa using e7
    obtain ⟨j7, rfl⟩ := Int.eq_ofNat_of_zero_le hv4.1
    obtain ⟨u7, hu7⟩ : ∃ u, ([-1, 99999, 100000, 0] : List Int)[j7]? = some u := ⟨_, List.getElem?_eq_getElem (by simp; omega)⟩
    have hc7 := hc7 _ _ hu7
    have hbd : -100 ≤ u7 ∧ u7 ≤ 1000000 := by
      have := List.mem_of_getElem? hu7
      simp at this
      omega
    clear hlit hu7 e7
    go_wp2
    go_ret
    exact ⟨_, rfl, hbd.1, hbd.2, HB4.out⟩
  · have e0' : (v3 == 0) = false := by simpa using e0
    go_wp2_with fail
    refine (pick_any _ _ _ _ _ HR3.out (by omega)).mono ?_
    rintro e w4 ⟨v4, rfl, hv4, hrd4, hg4⟩
    have hv4 := hv4 (by omega)
    have hsz4 := hg4.size
    have HB4 := Lib.hid (HB3.out.trans (base_in hg4 hbs (by omega)))
    have HR4 := Lib.hid hrd4
    clear hrd4 hg4
    go_wp2_with fail
    refine (pick_any _ _ _ _ _ HR4.out (by omega)).mono ?_
    rintro e w5 ⟨v5, rfl, hv5, hrd5, hg5⟩
    have hv5 := hv5 (by omega)
    have HB5 := Lib.hid (HB4.out.trans (base_in hg5 hbs (by omega)))
    clear hrd5 hg5
    go_wp2
    go_ret
    exact ⟨_, rfl, by omega, by omega, HB5.out⟩
theorem DrawBoardOf_any (A : Option Addr) (n c : Nat) (w : World) (h : Bytes w w.heap.size A n c) (hn : n ≤ 1048576) :
    Calls Tryz.prog 24 #[.slice A n c] w (DrewV w) := by
  have H := Lib.hid h
  clear h
  go_enter Tryz.func24, Tryz.ntmps24
  go_wp2_with fail
  refine (l6Open_any _ _ _ _ H.out hn).mono ?_
  rintro e w1 ⟨rfl, hrd, hb⟩
  have HB := Lib.hid hb
  have HR := Lib.hid hrd
  clear hrd hb
  go_wp2_with fail
  refine (l91Value_any _ _ _ HR.out HB.out).mono ?_
  rintro e w2 ⟨v, rfl, hv0, hv1, hb⟩
  have HB2 := Lib.hid hb
  clear hb
  go_wp2
  go_ret
  exact ⟨_, rfl, hv0, hv1, HB2.out⟩
end Go.Proofs.YthdoofmfigemoaaGreatDoor
end

section
/-
  What the reference's functions that change boards give back, for every list.
-/
namespace Go.Proofs.YthdoofmfigemoaaGreatDoor
open Go.RowKit

theorem valid_yes {A : Option Addr} {n c : Nat} {xs : List Int} {w : World} {B : Nat} (hx : Ints w B A n xs) (h : Bd.okB xs = true) :
    Calls Tryz.prog 104 #[.slice A n c] w fun e w' => e = .returned (.bool true) ∧ w = w' := by
  have := specBoardValid_any A n c xs w B hx
  rwa [h] at this
theorem valid_no {A : Option Addr} {n c : Nat} {xs : List Int} {w : World} {B : Nat} (hx : Ints w B A n xs) (h : Bd.okB xs = false) :
    Calls Tryz.prog 104 #[.slice A n c] w fun e w' => e = .returned (.bool false) ∧ w = w' := by
  have := specBoardValid_any A n c xs w B hx
  rwa [h] at this
/-- the board with some taken at one place and some put at another -/
def shiftL (xs : List Int) (p : Nat) (t : Int) (q : Nat) (s : Int) : List Int := (xs.set p (xs.getD p 0 - t)).set q ((xs.set p (xs.getD p 0 - t)).getD q 0 + s)

set_option maxHeartbeats 400000 in
theorem l1Shift_no (A : Option Addr) (n c : Nat) (xs : List Int) (p t q s : Int) (w : World) (B : Nat) (hx : Ints w B A n xs) (h : Bd.okB xs = false ∨ p < 0 ∨ 9 < p ∨ q < 0 ∨ 9 < q) :
    Calls Tryz.prog 133 #[.slice A n c, .int .i64 p, .int .i64 t, .int .i64 q, .int .i64 s] w (BoardPost w false []) := by
  have hx' := Lib.hid hx
  rcases hok : Bd.okB xs with _ | _
  · have HOK := Lib.hid hok
    clear hx hok h
    go_enter Tryz.func133, Tryz.ntmps133
    go_wp2_with (go_at_call 104; refine (valid_no hx'.out HOK.out).mono ?_; rintro e w' ⟨rfl, rfl⟩)
    go_ret2
    exact ⟨⟨_, _, _, rfl, lit_nil w⟩, (Below.refl _ _).alloc (Nat.le_refl _) _⟩
  · have HOK := Lib.hid hok
    rw [hok] at h
    clear hx hok
    by_cases hp : p < 0 ∨ 9 < p
    · have HP := Lib.hid hp
      clear hp h
      go_enter Tryz.func133, Tryz.ntmps133
      go_wp2_with (first
        | (go_at_call 104; refine (valid_yes hx'.out HOK.out).mono ?_; rintro e w' ⟨rfl, rfl⟩)
        | (go_at_call 67; refine (l6In_no HP.out _).mono ?_; rintro e w' ⟨rfl, rfl⟩))
      go_ret2
      exact ⟨⟨_, _, _, rfl, lit_nil w⟩, (Below.refl _ _).alloc (Nat.le_refl _) _⟩
    · have hq : q < 0 ∨ 9 < q := by simp at h; omega
      have p0 : 0 ≤ p := by omega
      have p1 : p ≤ 9 := by omega
      have HQ := Lib.hid hq
      clear hp h hq
      go_enter Tryz.func133, Tryz.ntmps133
      go_wp2_with fail
      refine (valid_yes hx'.out HOK.out).mono ?_
      rintro e w' ⟨rfl, rfl⟩
      go_wp2_with fail
      refine (l6In_yes p0 p1 _).mono ?_
      rintro e w' ⟨rfl, rfl⟩
      go_wp2_with fail
      refine (l6In_no HQ.out _).mono ?_
      rintro e w' ⟨rfl, rfl⟩
      go_wp2
      go_ret2
      exact ⟨⟨_, _, _, rfl, lit_nil w⟩, (Below.refl _ _).alloc (Nat.le_refl _) _⟩

set_option maxHeartbeats 1000000 in
theorem l1Shift_yes (A : Option Addr) (n c : Nat) (xs : List Int) (p q : Nat) (t s : Int) (w : World) (hx : Ints w w.heap.size A n xs) (hok : Bd.okB xs = true) (hp : p < 10) (hq : q < 10) (hpq : p ≠ q)
    (t0 : 0 ≤ t) (t1 : t ≤ 10) (s0 : 0 ≤ s) (s1 : s ≤ 10) :
    Calls Tryz.prog 133 #[.slice A n c, .int .i64 (p : Int), .int .i64 t, .int .i64 (q : Int), .int .i64 s] w (BoardPost w (Bd.okB (shiftL xs p t q s)) (shiftL xs p t q s)) := by
  have hl := (Bd.okB_iff xs).1 hok
  have hn : n = 10 := by have := hx.len; omega
  subst hn
  have hx' := Lib.hid hx
  have HOK := Lib.hid hok
  obtain ⟨u, hu⟩ : ∃ u, xs[p]? = some u := ⟨_, List.getElem?_eq_getElem (by omega)⟩
  obtain ⟨v, hv⟩ : ∃ v, xs[q]? = some v := ⟨_, List.getElem?_eq_getElem (by omega)⟩
  obtain ⟨u0, u1⟩ := hl.2 u (List.mem_of_getElem? hu)
  obtain ⟨v0, v1⟩ := hl.2 v (List.mem_of_getElem? hv)
  have he : shiftL xs p t q s = (xs.set p (u - t)).set q (v + s) := by
    unfold shiftL
    have e1 : xs.getD p 0 = u := by rw [List.getD_eq_getElem?_getD, hu]; rfl
    have e2 : (xs.set p (u - t)).getD q 0 = v := by rw [List.getD_eq_getElem?_getD, List.getElem?_set_ne hpq, hv]; rfl
    rw [e1, e2]
  rw [he]
  have hq2 : (xs.set p (u - t))[q]? = some v := by rw [List.getElem?_set_ne hpq, hv]
  have HU := Lib.hid hu
  have HQ2 := Lib.hid hq2
  have hln : Own (w.alloc (.cells #[] 3)) w.heap.size (some ⟨w.heap.size, 0, none⟩) 0 0 [] := lit_nil w
  have HLN := Lib.hid hln
  have i0 : (0 : Int) ≤ (p : Int) := by omega
  have i1 : (p : Int) ≤ 9 := by omega
  have i2 : (0 : Int) ≤ (q : Int) := by omega
  have i3 : (q : Int) ≤ 9 := by omega
  clear hx hok hl hu hv he hq2 hln
  rcases hres : Bd.okB ((xs.set p (u - t)).set q (v + s)) with _ | _
  all_goals
    have HRES := Lib.hid hres
    clear hres
    go_enter Tryz.func133, Tryz.ntmps133
    go_wp2_with fail
    refine (valid_yes hx'.out HOK.out).mono ?_
    rintro e w' ⟨rfl, rfl⟩
    go_wp2_with fail
    refine (l6In_yes i0 i1 _).mono ?_
    rintro e w' ⟨rfl, rfl⟩
    go_wp2_with fail
    refine (l6In_yes i2 i3 _).mono ?_
    rintro e w' ⟨rfl, rfl⟩
    go_wp2_with (first
      | (at_builtin; refine wpList_app_ints rfl _ _ rfl rfl HLN.out rfl (hx'.out.alloc (Nat.le_refl _) _) (by omega) (by simp) ?_; intro A1 c1 w1 hown1 hg1; simp only [Nat.zero_add, List.nil_append] at hown1; obtain ⟨g, rfl, hgB, hgl, hcells, hfr⟩ := hown1.at_ (by omega); have cu := hcells p u HU.out; have fu := hfr p; have fq := hfr q; have hs1 := hown1.store p (u - t); obtain ⟨g2, hg2e, _, _, hcells2, _⟩ := hs1.1.at_ (by omega); obtain rfl : g = g2 := (by simpa using hg2e); have cq := hcells2 q v HQ2.out; have HS2 := Lib.hid (hs1.1.store q (v + s)); have HS1 := Lib.hid hs1; have HG1 := Lib.hid hg1; clear hcells hfr hs1 hg1 hcells2 hg2e)
      | (go_at_call 104; refine (specBoardValid_any _ _ _ ((xs.set p (u - t)).set q (v + s)) _ _ HS2.out.1.ints).mono ?_; rintro e w' ⟨rfl, rfl⟩; rw [HRES.out]))
    go_ret2
    have hB1 : Below w.heap.size w w1 := ((Below.refl _ _).alloc (Nat.le_refl _) _).grown HG1.out (by simp) (by intro k hk; simp [Value.ownBlock] at hk; omega)
    have hB2 := (hB1.setCell (p := ⟨g, p, none⟩) hgB (.int .i64 (u - t))).setCell (p := ⟨g, q, none⟩) hgB (.int .i64 (v + s))
    have hln := Own.mono (lit_nil ((w1.setCell ⟨g, p, none⟩ (.int .i64 (u - t))).setCell ⟨g, q, none⟩ (.int .i64 (v + s)))) hB2.size
    simp only [World.size_setCell] at hln
    first
      | exact ⟨⟨_, _, _, rfl, HS2.out.1⟩, hB2⟩
      | exact ⟨⟨_, _, _, rfl, hln⟩, hB2.alloc hB2.size _⟩

set_option maxHeartbeats 400000 in
theorem specBoardReduce_any (A : Option Addr) (n c : Nat) (xs : List Int) (w : World) (hx : Ints w w.heap.size A n xs) :
    Calls Tryz.prog 99 #[.slice A n c] w (BoardPost w (redOK xs) (redL xs)) := by
  have hx' := Lib.hid hx
  rcases hok : Bd.okB xs with _ | _
  · have HOK := Lib.hid hok
    rw [show redOK xs = false by simp [redOK, hok]]
    clear hx hok
    go_enter Tryz.func99, Tryz.ntmps99
    go_wp2_with (go_at_call 104; refine (valid_no hx'.out HOK.out).mono ?_; rintro e w' ⟨rfl, rfl⟩)
    go_ret2
    exact ⟨⟨_, _, _, rfl, lit_nil w⟩, (Below.refl _ _).alloc (Nat.le_refl _) _⟩
  · have HOK := Lib.hid hok
    rw [show redOK xs = okV (Bd.V true xs) by simp [redOK, hok]]
    clear hx hok
    go_enter Tryz.func99, Tryz.ntmps99
    go_wp2_with (first
      | (go_at_call 104; refine (valid_yes hx'.out HOK.out).mono ?_; rintro e w' ⟨rfl, rfl⟩)
      | (go_at_call 105; refine (l1Value_any _ _ _ xs _ _ hx'.out HOK.out).mono ?_; rintro e w' ⟨rfl, q, rfl⟩)
      | (go_at_call 26; refine (specBoardOf_any _ _).mono ?_; rintro e w2 ⟨⟨A2, n2, c2, rfl, hown⟩, hb2⟩))
    go_ret2
    exact ⟨⟨_, _, _, rfl, hown⟩, (below_drewN (Below.refl _ _) q).trans hb2⟩

theorem shift_raise {xs : List Int} (p : Nat) : shiftL xs p (Bd.grp p) (p + 1) 1 = Bd.raiseL xs p := by
  unfold shiftL Bd.raiseL Bd.move
  rw [show xs.getD p 0 + (0 - Bd.grp p) = xs.getD p 0 - Bd.grp p from by omega]
theorem okB_fit {xs : List Int} (h : xs.length = 10) : Bd.okB xs = fitB xs := by simp [Bd.okB, Bd.allIn, fitB, h]
theorem shift_lower {xs : List Int} (hl : xs.length = 10) (p : Nat) (hp : p < 9) : shiftL xs (p + 1) 1 p (Bd.grp p) = Bd.lowerL xs (p + 1) := by
  obtain ⟨u, hu⟩ : ∃ u, xs[p]? = some u := ⟨_, List.getElem?_eq_getElem (by omega)⟩
  obtain ⟨v, hv⟩ : ∃ v, xs[p + 1]? = some v := ⟨_, List.getElem?_eq_getElem (by omega)⟩
  rw [Bd.lowerL_eq hu hv]
  unfold shiftL
  have e1 : xs.getD (p + 1) 0 = v := by rw [List.getD_eq_getElem?_getD, hv]; rfl
  have e2 : (xs.set (p + 1) (v - 1)).getD p 0 = u := by rw [List.getD_eq_getElem?_getD, List.getElem?_set_ne (by omega), hu]; rfl
  rw [e1, e2]

set_option maxHeartbeats 1000000 in
theorem specBoardRaise_any (A : Option Addr) (n c : Nat) (xs : List Int) (q : Int) (w : World) (hx : Ints w w.heap.size A n xs) :
    Calls Tryz.prog 100 #[.slice A n c, .int .i64 q] w (BoardPost w (raiseOK xs q) (Bd.raiseL xs q.toNat)) := by
  have hx' := Lib.hid hx
  by_cases hq : q < 0 ∨ 9 < q
  · have HQ := Lib.hid hq
    rw [show raiseOK xs q = false by simp [raiseOK]; omega]
    clear hx hq
    go_enter Tryz.func100, Tryz.ntmps100
    go_wp2_with (go_at_call 67; refine (l6In_no HQ.out _).mono ?_; rintro e w' ⟨rfl, rfl⟩)
    go_ret2
    exact ⟨⟨_, _, _, rfl, lit_nil w⟩, (Below.refl _ _).alloc (Nat.le_refl _) _⟩
  · obtain ⟨p, rfl⟩ := Int.eq_ofNat_of_zero_le (by omega : 0 ≤ q)
    have i0 : (0 : Int) ≤ (p : Int) := by omega
    have i1 : (p : Int) ≤ 9 := by omega
    have hg := Bd.grp_cases p
    have g2 : 2 ≤ Bd.grp p ∧ Bd.grp p ≤ 5 := by rcases hg with h | h <;> omega
    obtain ⟨g2, g5⟩ := g2
    clear hq hg
    by_cases hno : Bd.okB xs = false ∨ p = 9
    · rw [show raiseOK xs (p : Int) = false by rcases hno with h | h <;> simp [raiseOK, h]]
      have HNO := Lib.hid (show Bd.okB xs = false ∨ (p : Int) < 0 ∨ 9 < (p : Int) ∨ (p : Int) + 1 < 0 ∨ 9 < (p : Int) + 1 by rcases hno with h | h; exact .inl h; exact .inr (by omega))
      clear hx hno
      go_enter Tryz.func100, Tryz.ntmps100
      go_wp2_with (first
        | (go_at_call 67; refine (l6In_yes i0 i1 _).mono ?_; rintro e w' ⟨rfl, rfl⟩)
        | (go_at_call 134; refine (l1Group_any _ (by omega) _).mono ?_; rintro e w' ⟨rfl, rfl⟩)
        | (go_at_call 133; refine (l1Shift_no _ _ _ xs _ _ _ _ _ _ hx'.out HNO.out).mono ?_; rintro e w2 ⟨⟨A2, n2, c2, rfl, hown⟩, hb2⟩))
      go_ret2
      exact ⟨⟨_, _, _, rfl, hown⟩, hb2⟩
    · have hok : Bd.okB xs = true := by
        cases h : Bd.okB xs with
        | false => exact absurd (.inl h) hno
        | true => rfl
      have hp9 : p < 9 := by omega
      have hl := ((Bd.okB_iff xs).1 hok).1
      rw [show raiseOK xs (p : Int) = Bd.okB (Bd.raiseL xs p) by rw [okB_fit ((Bd.raiseL_length xs p).trans hl)]; simp [raiseOK, hok]; omega, Int.toNat_natCast, ← shift_raise]
      have HOK := Lib.hid hok
      have e1 : ((p + 1 : Nat) : Int) = (p : Int) + 1 := by omega
      have hsh := l1Shift_yes A n c xs p (p + 1) (Bd.grp p) 1 w hx hok (by omega) (by omega) (by omega) (by omega) (by omega) (by omega) (by omega)
      rw [e1] at hsh
      have HSH := Lib.hid hsh
      clear hx hno hok hsh e1 hl
      go_enter Tryz.func100, Tryz.ntmps100
      go_wp2_with (first
        | (go_at_call 67; refine (l6In_yes i0 i1 _).mono ?_; rintro e w' ⟨rfl, rfl⟩)
        | (go_at_call 134; refine (l1Group_any _ (by omega) _).mono ?_; rintro e w' ⟨rfl, rfl⟩)
        | (go_at_call 133; refine HSH.out.mono ?_; rintro e w2 ⟨⟨A2, n2, c2, rfl, hown⟩, hb2⟩))
      go_ret2
      exact ⟨⟨_, _, _, rfl, hown⟩, hb2⟩

end Go.Proofs.YthdoofmfigemoaaGreatDoor
end

section
/-
  The reference's raises and layings, for every list.
-/
namespace Go.Proofs.YthdoofmfigemoaaGreatDoor
open Go.RowKit

theorem step_app {ops : Array Oper} {o : Oper} {a : Act} {w : World} {K : Act → World → Prop} {Q : Exit → Act → World → Prop} {E : Prop} (hgd : o.guard = none) (s x : Operand)
    (ho : o.op = .call { callee := .builtin .append, args := #[s, x], argTypes := #[28, 28] })
    {B : Nat} {A : Option Addr} {n c : Nat} {xs : List Int} (hs : a.eval s = .slice A n c) (hown : Own w B A n c xs) (us : List Int) (m : Nat) (hm : us.length = m) (c0 : Nat)
    (hx : a.eval x = .slice (some ⟨w.heap.size, 0, none⟩) m c0) (cs : Array Value) (hcs : cs = (IV us).toArray) (hn : n + m ≤ 1099511627776) (hB : B ≤ w.heap.size)
    (h : ∀ A' c' w', Own w' B A' (n + m) c' (xs ++ us) → w.grownBy w' (Value.slice A n c).ownBlock → K (a.put o.dst (.slice A' (n + m) c')) w') :
    if Region.wanted o (yielded ops a.tmps) = true then Oper.wp Tryz.prog o a (w.alloc (.cells cs 3)) K Q else E := by
  obtain ⟨i0, hi, hz0, hz1, hz2⟩ := info_parts own_int_info
  subst hcs
  subst hm
  rw [if_pos (by simp [Region.wanted, hgd])]
  refine wp_append_own _ s x 28 ho B 3 i0 (.int .i64 0) 1 8 Tryz.underlying28 hi hz0 hz1 hz2 rfl (by decide) _ n (IV xs) hs (hown.1.alloc _)
    ⟨w.heap.size, 0, none⟩ us.length c0 (IV us) hx (by simp [IV]) ?_ (IV_one us) (by unfold maxLen; omega) (by omega) (by simp; omega) ?_
  · intro j u hj
    rw [add_row, cell_of_row _ w.heap.size j _ _ _ (heap_alloc_new w _)]
    simpa using hj
  · intro v' w' hown' hg _
    obtain ⟨A', c', rfl, h'⟩ := Own.of_app us rfl hown' hn
    exact h A' c' w' h' ⟨hg.os, hg.tape, hg.output, by have := hg.size; simp at this; omega, fun k hk hne => (hg.block k (by simp; omega) hne).trans (Below.heap_alloc w _ k hk)⟩

def par (k : Nat) : Bool := decide (k % 2 = 0)
theorem full_par (k : Nat) : Bd.full (par k) = Bd.grp k := by
  rcases Nat.mod_two_eq_zero_or_one k with h | h <;> simp [par, Bd.full, Bd.grp, h]
theorem par_succ (k : Nat) : par (k + 1) = !(par k) := by
  rcases Nat.mod_two_eq_zero_or_one k with h | h
  · have : (k + 1) % 2 = 1 := by omega
    simp [par, h, this]
  · have : (k + 1) % 2 = 0 := by omega
    simp [par, h, this]
theorem R_drop {xs : List Int} {k : Nat} {u : Int} (c : Int) (h : xs[k]? = some u) :
    Bd.R (par k) c (xs.drop k) = (u + c) / Bd.grp k + Bd.R (par (k + 1)) ((u + c) / Bd.grp k) (xs.drop (k + 1)) := by
  have hk := (List.getElem?_eq_some_iff.1 h)
  obtain ⟨hk, hu⟩ := hk
  rw [List.drop_eq_getElem_cons hk, hu, Bd.R, full_par, par_succ]

set_option maxRecDepth 100000 in
set_option maxHeartbeats 1000000 in
theorem specBoardLay_any (A B : Option Addr) (n c m d : Nat) (xs ys : List Int) (w : World) (hx : Ints w w.heap.size A n xs) (hy : Ints w w.heap.size B m ys) :
    Calls Tryz.prog 132 #[.slice A n c, .slice B m d] w (BoardPost w (layOK xs ys) (Bd.addL xs ys)) := by
  have hx' := Lib.hid hx
  have hy' := Lib.hid hy
  rcases hokx : Bd.okB xs with _ | _
  · have HX := Lib.hid hokx
    rw [show layOK xs ys = false by simp [layOK, hokx]]
    clear hx hy hokx
    go_enter Tryz.func132, Tryz.ntmps132
    go_wp2_with (go_at_call 104; refine (valid_no hx'.out HX.out).mono ?_; rintro e w' ⟨rfl, rfl⟩)
    go_ret2
    exact ⟨⟨_, _, _, rfl, lit_nil w⟩, (Below.refl _ _).alloc (Nat.le_refl _) _⟩
  · have HX := Lib.hid hokx
    rcases hoky : Bd.okB ys with _ | _
    · have HY := Lib.hid hoky
      rw [show layOK xs ys = false by simp [layOK, hoky]]
      clear hx hy hokx hoky
      go_enter Tryz.func132, Tryz.ntmps132
      go_wp2_with fail
      refine (valid_yes hx'.out HX.out).mono ?_
      rintro e w' ⟨rfl, rfl⟩
      go_wp2_with fail
      refine (valid_no hy'.out HY.out).mono ?_
      rintro e w' ⟨rfl, rfl⟩
      go_wp2
      go_ret2
      exact ⟨⟨_, _, _, rfl, lit_nil w⟩, (Below.refl _ _).alloc (Nat.le_refl _) _⟩
    · have HY := Lib.hid hoky
      have hlx := (Bd.okB_iff xs).1 hokx
      have hly := (Bd.okB_iff ys).1 hoky
      have hll := hlx.1.trans hly.1.symm
      have hla := Bd.addL_length xs ys hll
      rw [show layOK xs ys = Bd.okB (Bd.addL xs ys) by rw [okB_fit (hla.trans hlx.1)]; simp [layOK, hokx, hoky]]
      have hn : n = 10 := by have := hx.len; omega
      have hm : m = 10 := by have := hy.len; omega
      subst hn
      subst hm
      have HLX := Lib.hid hlx
      have HLY := Lib.hid hly
      have HLA := Lib.hid (hla.trans hlx.1)
      have HLN := Lib.hid (lit_nil w)
      rcases hres : Bd.okB (Bd.addL xs ys) with _ | _
      all_goals
        have HRES := Lib.hid hres
        clear hx hy hokx hoky hlx hly hll hla hres
        go_enter Tryz.func132, Tryz.ntmps132
        go_wp2_with fail
        refine (valid_yes hx'.out HX.out).mono ?_
        rintro e w' ⟨rfl, rfl⟩
        go_wp2_with fail
        refine (valid_yes hy'.out HY.out).mono ?_
        rintro e w' ⟨rfl, rfl⟩
        go_wp2
        go_loopw [6, 7] (fun out i wr => ∃ (k : Nat) (A2 : Option Addr) (c2 : Nat), k ≤ 10 ∧ i = .int .i64 k ∧ out = .slice A2 k c2 ∧ Own wr w.heap.size A2 k c2 ((Bd.addL xs ys).take k) ∧ Below w.heap.size w wr) (fun _ i _ => 10 - (intOf i).toNat)
        case atStart => exact ⟨0, _, _, by omega, rfl, rfl, by simpa using HLN.out, (Below.refl _ _).alloc (Nat.le_refl _) _⟩
        case round =>
          obtain ⟨k, A2, c2, hk, rfl, rfl, hown, hbel⟩ := hrel
          have hB := hbel.size
          by_cases hlt : k < 10
          · obtain ⟨b1, o1, u, rfl, hb1, hu, hc1⟩ := (hx'.out.below hbel).at_ hlt
            obtain ⟨b2, o2, v, rfl, hb2, hv, hc2⟩ := (hy'.out.below hbel).at_ hlt
            obtain ⟨u0, u1⟩ := HLX.out.2 u (List.mem_of_getElem? hu)
            obtain ⟨v0, v1⟩ := HLY.out.2 v (List.mem_of_getElem? hv)
            have HN := Lib.hid (take_next (Bd.addL_get xs ys k u v hu hv))
            clear hu hv
            have i0 : (0 : Int) ≤ (k : Int) := by omega
            have i1 : (k : Int) < 10 := by omega
            have t1 : IntKind.i64.wrap (u + v) = u + v := IntWalk.i64_in _ (by omega)
            go_wp2_with fail
            go_region_law (refine step_app (w := wr.drew) rfl _ _ rfl rfl hown.drew [u + v] 1 rfl _ rfl _ rfl (by omega) hB ?_; intro A3 c3 w2 hown2 hg2)
            all_goals
              go_wp2
              go_roundw
              case rel => exact ⟨k + 1, _, _, by omega, by go_num, rfl, by rw [HN.out]; exact hown2, below_step hbel.drew hg2 hown.drew hB⟩
              case measure => simp [intOf]; omega
          · have e10 : (Bd.addL xs ys).take k = Bd.addL xs ys := List.take_of_length_le (by have := HLA.out; omega)
            rw [e10] at hown
            have HO := Lib.hid hown
            have HBL := Lib.hid hbel
            clear hown hbel e10
            go_wp2_with (go_at_call 104; refine (specBoardValid_any _ _ _ (Bd.addL xs ys) _ _ HO.out.ints).mono ?_; rintro e w' ⟨rfl, rfl⟩; rw [HRES.out])
            go_ret2
            first
              | exact ⟨⟨_, _, _, rfl, HO.out⟩, HBL.out⟩
              | exact ⟨⟨_, _, _, rfl, (lit_nil _).mono HBL.out.size⟩, HBL.out.alloc HBL.out.size _⟩

end Go.Proofs.YthdoofmfigemoaaGreatDoor
end

section
/-
  What the boards' laws read: facts on lists that are moved along; the words of the contracts at reduced boards.
-/
namespace Go.Proofs.YthdoofmfigemoaaGreatDoor
open Go.RowKit

theorem okV_iff (v : Int) : okV v = true ↔ 0 ≤ v ∧ v ≤ 99999 := by simp [okV]
theorem V_DD {v : Int} (h : okV v = true) : Bd.V true (Bd.D true 10 v) = v := by
  have := (okV_iff v).1 h
  exact Bd.V_D 10 true v this.1 (by rw [Bd.P10]; omega)
theorem redOK_D {v : Int} (h : okV v = true) : redOK (Bd.D true 10 v) = true := by simp [redOK, Bd.okB_D, V_DD h, h]
theorem redL_D {v : Int} (h : okV v = true) : redL (Bd.D true 10 v) = Bd.D true 10 v := by simp [redL, V_DD h]
theorem bVal_D {v : Int} (h : okV v = true) : bVal (Bd.D true 10 v) = v := by simp [bVal, Bd.okB_D, V_DD h]
theorem bCnt_D (v : Int) : bCnt (Bd.D true 10 v) = Bd.sum (Bd.D true 10 v) := by simp [bCnt, Bd.okB_D]
theorem bFew_yes {v : Int} (h : okV v = true) : bFew v = Bd.sum (Bd.D true 10 v) := by simp [bFew, h]
theorem isRed_D (v : Int) : (Bd.okB (Bd.D true 10 v) && Bd.isRed true (Bd.D true 10 v)) = true := by rw [Bd.okB_D, Bd.red_D]; rfl

theorem V_range {xs : List Int} (h : Bd.okB xs = true) : 0 ≤ Bd.V true xs ∧ Bd.V true xs ≤ 20000000 := by
  have h' := (Bd.okB_iff xs).1 h
  have := Bd.V_take_range h'.2 10 (Nat.le_refl _) (by omega)
  rw [List.take_of_length_le (by omega)] at this
  exact ⟨this.1, by omega⟩
theorem sum_range {xs : List Int} (h : Bd.okB xs = true) : 0 ≤ Bd.sum xs ∧ Bd.sum xs ≤ 200 := by
  have h' := (Bd.okB_iff xs).1 h
  have := Bd.sum_take_range h'.2 10 (by omega)
  rw [List.take_of_length_le (by omega)] at this
  exact ⟨this.1, by omega⟩
theorem bVal_yes {xs : List Int} (h : Bd.okB xs = true) : bVal xs = Bd.V true xs := by simp [bVal, h]
theorem bCnt_yes {xs : List Int} (h : Bd.okB xs = true) : bCnt xs = Bd.sum xs := by simp [bCnt, h]
theorem take_parts {xs ys : List Int} (h : takeOK xs ys = true) : Bd.okB xs = true ∧ Bd.okB ys = true ∧ okV (Bd.V true xs - Bd.V true ys) = true := by
  simp [takeOK] at h
  exact ⟨h.1.1, h.1.2, h.2⟩
theorem okB_of_fit {xs : List Int} (h : xs.length = 10) (hf : fitB xs = true) : Bd.okB xs = true := by rw [okB_fit h, hf]
theorem lay_parts {xs ys : List Int} (h : layOK xs ys = true) : Bd.okB xs = true ∧ Bd.okB ys = true ∧ Bd.okB (Bd.addL xs ys) = true ∧ xs.length = ys.length := by
  simp [layOK] at h
  have hx := ((Bd.okB_iff xs).1 h.1.1).1
  have hy := ((Bd.okB_iff ys).1 h.1.2).1
  exact ⟨h.1.1, h.1.2, okB_of_fit (by rw [Bd.addL_length _ _ (by omega)]; exact hx) h.2, by omega⟩
theorem V_lay {xs ys : List Int} (h : layOK xs ys = true) : bVal (Bd.addL xs ys) = Bd.V true xs + Bd.V true ys := by
  obtain ⟨_, _, h3, h4⟩ := lay_parts h
  rw [bVal_yes h3, Bd.V_addL _ _ _ h4]
end Go.Proofs.YthdoofmfigemoaaGreatDoor
end

section
/-
  Raises and lowerings: what is read off the board behind one.
-/
namespace Go.Proofs.YthdoofmfigemoaaGreatDoor
open Go.RowKit

theorem raise_parts {xs : List Int} {p : Int} (h : raiseOK xs p = true) : Bd.okB xs = true ∧ 0 ≤ p ∧ p < 9 ∧ Bd.okB (Bd.raiseL xs p.toNat) = true := by
  simp [raiseOK] at h
  exact ⟨h.1.1.1, h.1.1.2, h.1.2, okB_of_fit (by rw [Bd.raiseL_length]; exact ((Bd.okB_iff xs).1 h.1.1.1).1) h.2⟩
theorem lower_parts {xs : List Int} {p : Int} (h : lowerOK xs p = true) : Bd.okB xs = true ∧ 1 ≤ p ∧ p < 10 ∧ Bd.okB (Bd.lowerL xs p.toNat) = true := by
  simp [lowerOK] at h
  exact ⟨h.1.1.1, h.1.1.2, h.1.2, okB_of_fit (by rw [Bd.lowerL_length]; exact ((Bd.okB_iff xs).1 h.1.1.1).1) h.2⟩
theorem fit_of_okB {xs : List Int} (h : Bd.okB xs = true) : fitB xs = true := by rw [← okB_fit ((Bd.okB_iff xs).1 h).1]; exact h
theorem lower_raise {xs : List Int} {p : Nat} (h : p + 1 < xs.length) : Bd.lowerL (Bd.raiseL xs p) (p + 1) = xs := by
  have := Bd.move_back xs p (0 - Bd.grp p) 1 h
  simpa [Bd.lowerL, Bd.raiseL] using this
theorem raise_lower {xs : List Int} {p : Nat} (h : p + 1 < xs.length) : Bd.raiseL (Bd.lowerL xs (p + 1)) p = xs := by
  have := Bd.move_back xs p (Bd.grp p) (-1) h
  simpa [Bd.lowerL, Bd.raiseL] using this
theorem V_raise {xs : List Int} {p : Nat} (h : p + 1 < xs.length) : Bd.V true (Bd.raiseL xs p) = Bd.V true xs := by
  have := Bd.V_move xs true p 1 h
  simpa [Bd.raiseL, Bd.nthG_grp] using this
theorem V_lower {xs : List Int} {p : Nat} (h : p + 1 < xs.length) : Bd.V true (Bd.lowerL xs (p + 1)) = Bd.V true xs := by
  have := Bd.V_move xs true p (-1) h
  simpa [Bd.lowerL, Bd.nthG_grp] using this
theorem sum_raise {xs : List Int} {p : Nat} (h : p + 1 < xs.length) : Bd.sum (Bd.raiseL xs p) = Bd.sum xs - Bd.grp p + 1 := by
  have := Bd.sum_move xs p (0 - Bd.grp p) 1 h
  rw [Bd.raiseL, this]; omega
theorem sum_lower {xs : List Int} {p : Nat} (h : p + 1 < xs.length) : Bd.sum (Bd.lowerL xs (p + 1)) = Bd.sum xs + Bd.grp p - 1 := by
  have := Bd.sum_move xs p (Bd.grp p) (-1) h
  rw [Bd.lowerL, show p + 1 - 1 = p from rfl, this]; omega
theorem R_raise {xs : List Int} {p : Nat} (h : p + 1 < xs.length) : Bd.R true 0 (Bd.raiseL xs p) = Bd.R true 0 xs - 1 := by
  have := Bd.R_move p true 0 xs h
  simpa [Bd.raiseL, Bd.nthG_grp] using this
/-- a raise, taken back -/
theorem raise_back {xs : List Int} {p : Int} (h : raiseOK xs p = true) : lowerOK (Bd.raiseL xs p.toNat) (p + 1) = true ∧ Bd.lowerL (Bd.raiseL xs p.toNat) (p + 1).toNat = xs := by
  obtain ⟨h1, h2, h3, h4⟩ := raise_parts h
  have hl := ((Bd.okB_iff xs).1 h1).1
  have e : (p + 1).toNat = p.toNat + 1 := by omega
  have e2 : Bd.lowerL (Bd.raiseL xs p.toNat) (p + 1).toNat = xs := by rw [e]; exact lower_raise (by omega)
  refine ⟨?_, e2⟩
  simp only [lowerOK, e2, h4, fit_of_okB h1]
  simp; omega
theorem lower_back {xs : List Int} {p : Int} (h : lowerOK xs p = true) : raiseOK (Bd.lowerL xs p.toNat) (p - 1) = true ∧ Bd.raiseL (Bd.lowerL xs p.toNat) (p - 1).toNat = xs := by
  obtain ⟨h1, h2, h3, h4⟩ := lower_parts h
  have hl := ((Bd.okB_iff xs).1 h1).1
  have e : p.toNat = (p - 1).toNat + 1 := by omega
  have e2 : Bd.raiseL (Bd.lowerL xs p.toNat) (p - 1).toNat = xs := by rw [e]; exact raise_lower (by omega)
  refine ⟨?_, e2⟩
  simp only [raiseOK, e2, h4, fit_of_okB h1]
  simp; omega
/-- the numbers a raise turns -/
theorem raise_nums {xs : List Int} {p : Int} (h : raiseOK xs p = true) : bVal (Bd.raiseL xs p.toNat) = Bd.V true xs ∧ ∃ g, (g = 5 ∨ g = 2) ∧ bCnt (Bd.raiseL xs p.toNat) = Bd.sum xs - g + 1 := by
  obtain ⟨h1, h2, h3, h4⟩ := raise_parts h
  have hl := ((Bd.okB_iff xs).1 h1).1
  exact ⟨by rw [bVal_yes h4, V_raise (by omega)], _, Bd.grp_cases _, by rw [bCnt_yes h4, sum_raise (by omega)]⟩
theorem lower_nums {xs : List Int} {p : Int} (h : lowerOK xs p = true) : bVal (Bd.lowerL xs p.toNat) = Bd.V true xs ∧ ∃ g, (g = 5 ∨ g = 2) ∧ bCnt (Bd.lowerL xs p.toNat) = Bd.sum xs + g - 1 := by
  obtain ⟨h1, h2, h3, h4⟩ := lower_parts h
  have hl := ((Bd.okB_iff xs).1 h1).1
  obtain ⟨q, hq⟩ : ∃ q : Nat, p.toNat = q + 1 := ⟨p.toNat - 1, by omega⟩
  rw [hq] at h4 ⊢
  exact ⟨by rw [bVal_yes h4, V_lower (by omega)], _, Bd.grp_cases q, by rw [bCnt_yes h4, sum_lower (by omega)]⟩
theorem raise_rais {xs : List Int} {p : Int} (h : raiseOK xs p = true) : (bRais xs = -1) ∨ (bRais (Bd.raiseL xs p.toNat) = bRais xs - 1 ∧ 0 ≤ bRais xs ∧ bRais xs ≤ 1000) := by
  obtain ⟨h1, h2, h3, h4⟩ := raise_parts h
  have hl := ((Bd.okB_iff xs).1 h1)
  by_cases hv : Bd.V true xs ≤ 99999
  · right
    have hs := sum_range h1
    have e1 : bRais xs = Bd.R true 0 xs := by simp [bRais, h1, hv]
    have e2 : bRais (Bd.raiseL xs p.toNat) = Bd.R true 0 (Bd.raiseL xs p.toNat) := by
      have : Bd.V true (Bd.raiseL xs p.toNat) ≤ 99999 := by rw [V_raise (by omega)]; exact hv
      simp [bRais, h4, this]
    have h0 := Bd.R_nonneg xs true 0 (by omega) (fun x hx => (hl.2 x hx).1)
    have hR := Bd.R_sum xs true 0 (by omega) (fun x hx => (hl.2 x hx).1)
    rw [e1, e2, R_raise (by omega)]
    refine ⟨rfl, h0, ?_⟩
    have hC := Bd.C_nonneg xs true 0 (by omega) (fun x hx => (hl.2 x hx).1)
    have hN := Bd.D_eq_N xs true 0
    have hD := sum_range (Bd.okB_D (Bd.V true xs + 0))
    rw [hl.1] at hN
    rw [hN] at hD
    omega
  · left
    simp [bRais, hv]
end Go.Proofs.YthdoofmfigemoaaGreatDoor
end

section
/-
  FnExecuteTimes returns true for every code: two numbers are multiplied three ways.
-/
namespace Go.Proofs.YthdoofmfigemoaaGreatDoor.fnExecuteTimes
open Go.RowKit
set_option linter.unusedSimpArgs false

theorem script_eq (a b : Nat) : (((((((⟨#[116, 105, 109, 101, 115, 32]⟩ ++ dec (a : Int)) ++ ⟨#[32]⟩) ++ dec (b : Int)) ++ ⟨#[10, 100, 111, 117, 98, 108, 101, 32]⟩) ++ dec (a : Int)) ++ ⟨#[32]⟩) ++ dec (b : Int)) ++ ⟨#[10]⟩ = bs (scriptTimes a b) := by
  show (((((((bs [116, 105, 109, 101, 115, 32] ++ bs (Lib.itoa (a : Int))) ++ bs [32]) ++ bs (Lib.itoa (b : Int))) ++ bs [10, 100, 111, 117, 98, 108, 101, 32]) ++ bs (Lib.itoa (a : Int))) ++ bs [32]) ++ bs (Lib.itoa (b : Int))) ++ bs [10] = _
  simp only [bs_append]
  congr 1
  simp [scriptTimes, lnTimes, lnDouble, wTimes, wDouble]
theorem answer_eq (a b : Nat) : (((dec ((a * b : Nat) : Int) ++ ⟨#[10]⟩) ++ dec ((a * b : Nat) : Int)) ++ ⟨#[10]⟩) ++ bs (endL 0 0) = bs (outTimes a b ++ endL 0 0) := by
  show (((bs (Lib.itoa ((a * b : Nat) : Int)) ++ bs [10]) ++ bs (Lib.itoa ((a * b : Nat) : Int))) ++ bs [10]) ++ bs (endL 0 0) = _
  simp only [bs_append]
  congr 1
  simp [outTimes]
set_option maxRecDepth 100000 in
set_option maxHeartbeats 4000000 in
theorem walk (a0 : Option Addr) (len0 cap0 : Nat) (z0 : List Int) (w : World) (w0 : IsRow .u8 w a0 len0 cap0 z0) (hm : Max w) (hp : Pow w.heap.size w) :
    Calls Tryz.prog 9 #[.slice a0 len0 cap0] w fun e w' => e = .returned (.bool true) ∧ Below w.heap.size w w' := by
  by_cases hbig : 1048576 < len0
  · clear w0
    go_enter Tryz.func9, Tryz.ntmps9
    go_wp2
    go_ret
    exact ⟨rfl, Below.refl _ _⟩
  · have HC := Lib.hid (Bytes.of_row w0)
    have HM := Lib.hid hm
    have HP := Lib.hid hp
    have h0w : 0 < w.heap.size := by obtain ⟨m, hm0⟩ := hm; exact World.block_lt_of_cell? w _ hm0
    clear w0 hm hp
    go_enter Tryz.func9, Tryz.ntmps9
    go_wp2_with fail
    refine (DrawDupTimes_any _ _ _ _ HC.out (by omega)).mono ?_
    rintro e w1 ⟨u, v, rfl, hu, hv, hb1⟩
    have HB1 := Lib.hid hb1
    clear hb1
    by_cases hok : (1 ≤ u ∧ u ≤ 100000) ∧ 1 ≤ v ∧ v ≤ 100000
    · obtain ⟨⟨hu1, hu2⟩, hv1, hv2⟩ := hok
      obtain ⟨a, rfl⟩ := Int.eq_ofNat_of_zero_le (show 0 ≤ u by omega)
      obtain ⟨b, rfl⟩ := Int.eq_ofNat_of_zero_le (show 0 ≤ v by omega)
      have ha1 : 1 ≤ a := by omega
      have ha2 : a ≤ 100000 := by omega
      have hb1 : 1 ≤ b := by omega
      have hb2 : b ≤ 100000 := by omega
      have hmul : a * b ≤ 100000 * 100000 := Nat.mul_le_mul ha2 hb2
      have HE := Lib.hid (show ∀ w : World, Max w → Pow w.heap.size w → ∀ s : ByteArray, s = bs (scriptTimes a b) → Calls Tryz.prog 13 #[.string s] w fun e w' => e = .returned (.string (bs (outTimes a b ++ endL 0 0))) ∧ Below w.heap.size w w' from fun w h1 h2 s h3 => Execute_times a b ha1 ha2 hb1 hb2 w h1 h2 h3)
      have HI := Lib.hid (fun w => DupTimes_yes a b w ha1 ha2 hb1 hb2)
      have HSP := Lib.hid (fun w => specDupTimes_yes a b w ha1 ha2 hb1 hb2)
      have HA := Lib.hid (answer_eq a b)
      have HS := Lib.hid (script_eq a b)
      have k1 := dec_size (a : Int) (by omega) (by omega)
      have k2 := dec_size (b : Int) (by omega) (by omega)
      have k3 := dec_size ((a * b : Nat) : Int) (by omega) (by omega)
      have k4 := endL_size 0 0 (by omega) (by omega) (by omega) (by omega)
      have HDA := Lib.hid (show ∀ w : World, Calls Tryz.prog 21 #[.int .i64 (a : Int)] w fun e w' => e = .returned (.string (dec (a : Int))) ∧ Below w.heap.size w w' from fun w => digits_any a (by omega) w)
      have HDB := Lib.hid (show ∀ w : World, Calls Tryz.prog 21 #[.int .i64 (b : Int)] w fun e w' => e = .returned (.string (dec (b : Int))) ∧ Below w.heap.size w w' from fun w => digits_any b (by omega) w)
      have HDM := Lib.hid (show ∀ w : World, Calls Tryz.prog 21 #[.int .i64 ((a * b : Nat) : Int)] w fun e w' => e = .returned (.string (dec ((a * b : Nat) : Int))) ∧ Below w.heap.size w w' from fun w => digits_any (a * b) (by omega) w)
      have HDL := Lib.hid (show ∀ w : World, Calls Tryz.prog 23 #[.int .i64 0, .int .i64 0] w fun e w' => e = .returned (.string (bs (endL 0 0))) ∧ Below w.heap.size w w' from fun w => endLine_any 0 0 (by omega) (by omega) w)
      have hM2 : (0 : Int) ≤ ((a * b : Nat) : Int) := by omega
      obtain ⟨R, hRR⟩ : ∃ R, bs (outTimes a b ++ endL 0 0) = R := ⟨_, rfl⟩
      obtain ⟨L, hL⟩ : ∃ L, bs (endL 0 0) = L := ⟨_, rfl⟩
      obtain ⟨D, hD⟩ : ∃ D, dec (a : Int) = D := ⟨_, rfl⟩
      obtain ⟨C, hC⟩ : ∃ C, dec (b : Int) = C := ⟨_, rfl⟩
      rw [hRR] at HA HE
      rw [hL] at k4 HA HDL
      obtain ⟨M, hM⟩ : ∃ M, a * b = M := ⟨_, rfl⟩
      rw [hM] at hmul k3 hM2 HA HI HSP HDM
      obtain ⟨P, hP⟩ : ∃ P, dec (M : Int) = P := ⟨_, rfl⟩
      rw [hP] at k3 HA HDM
      rw [hD] at k1 HS HDA
      rw [hC] at k2 HS HDB
      have m1 := no_long (n := 6) (by omega) D.size (by omega)
      have m2 := no_long (n := 6 + D.size) (by omega) 1 (by omega)
      have m3 := no_long (n := 6 + D.size + 1) (by omega) C.size (by omega)
      have m4 := no_long (n := 6 + D.size + 1 + C.size) (by omega) 8 (by omega)
      have m5 := no_long (n := 6 + D.size + 1 + C.size + 8) (by omega) D.size (by omega)
      have m6 := no_long (n := 6 + D.size + 1 + C.size + 8 + D.size) (by omega) 1 (by omega)
      have m7 := no_long (n := 6 + D.size + 1 + C.size + 8 + D.size + 1) (by omega) C.size (by omega)
      have m8 := no_long (n := 6 + D.size + 1 + C.size + 8 + D.size + 1 + C.size) (by omega) 1 (by omega)
      have m9 := no_long (n := P.size) (by omega) 1 (by omega)
      have m10 := no_long (n := P.size + 1) (by omega) P.size (by omega)
      have m11 := no_long (n := P.size + 1 + P.size) (by omega) 1 (by omega)
      have m12 := no_long (n := P.size + 1 + P.size + 1) (by omega) L.size (by omega)
      clear hRR hL hD hC hM hP hu hv hu1 hu2 hv1 hv2
      go_wp2_with fail
      refine (HI.out _).mono ?_
      rintro e w2 ⟨rfl, hb2'⟩
      have HB2 := Lib.hid (below_chain HB1.out hb2')
      clear hb2'
      go_wp2_with fail
      refine (HSP.out _).mono ?_
      rintro e w3 ⟨rfl, hb3⟩
      have HB3 := Lib.hid (below_chain HB2.out hb3)
      clear hb3
      go_wp2_with fail
      refine (HDA.out _).mono ?_
      rintro e w4 ⟨rfl, hb4⟩
      have HB4 := Lib.hid (below_chain HB3.out hb4)
      clear hb4
      go_wp2_with fail
      refine (HDB.out _).mono ?_
      rintro e w5 ⟨rfl, hb5⟩
      have HB5 := Lib.hid (below_chain HB4.out hb5)
      clear hb5
      go_wp2_with fail
      refine (HDA.out _).mono ?_
      rintro e w6 ⟨rfl, hb6⟩
      have HB6 := Lib.hid (below_chain HB5.out hb6)
      clear hb6
      go_wp2_with fail
      refine (HDB.out _).mono ?_
      rintro e w7 ⟨rfl, hb7⟩
      have HB7 := Lib.hid (below_chain HB6.out hb7)
      clear hb7
      have HM7 := Lib.hid (show Max w7 from by obtain ⟨m, hm⟩ := HM.out; exact ⟨m, (HB7.out.cell (p := ⟨0, 0, none⟩) h0w).trans hm⟩)
      have HP7 := Lib.hid (show Pow w7.heap.size w7 from fun w' hb => HP.out w' (HB7.out.trans (hb.mono HB7.out.size)))
      go_wp2_with fail
      rw [HS.out]
      refine (HE.out _ HM7.out HP7.out _ rfl).mono ?_
      rintro e w8 ⟨rfl, hb8⟩
      have HB8 := Lib.hid (below_chain HB7.out hb8)
      clear hb8
      go_wp2_with fail
      refine (HDM.out _).mono ?_
      rintro e w9 ⟨rfl, hb9⟩
      have HB9 := Lib.hid (below_chain HB8.out hb9)
      clear hb9
      go_wp2_with fail
      refine (HDM.out _).mono ?_
      rintro e w10 ⟨rfl, hb10⟩
      have HB10 := Lib.hid (below_chain HB9.out hb10)
      clear hb10
      go_wp2_with fail
      refine (HDL.out _).mono ?_
      rintro e w11 ⟨rfl, hb11⟩
      have HB11 := Lib.hid (below_chain HB10.out hb11)
      clear hb11
      go_wp2_with fail
      rw [HA.out]
      go_ret
      exact ⟨by simp, HB11.out⟩
    · have hf : (fac u && fac v) = false := by
        cases h : (fac u && fac v) with
        | false => rfl
        | true =>
          refine absurd ?_ hok
          simp [fac] at h
          omega
      go_wp2_with fail
      refine (DupTimes_no u v _ hf).mono ?_
      rintro e w2 ⟨rfl, hb2⟩
      have HB2 := Lib.hid (below_chain HB1.out hb2)
      clear hb2
      go_wp2_with fail
      refine (specDupTimes_no u v _ hok).mono ?_
      rintro e w3 ⟨rfl, hb3⟩
      have HB3 := Lib.hid (below_chain HB2.out hb3)
      clear hb3
      go_wp2_with fail
      go_ret
      exact ⟨rfl, HB3.out⟩
end Go.Proofs.YthdoofmfigemoaaGreatDoor.fnExecuteTimes
end
