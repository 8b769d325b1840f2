/-
  The laws' draws of boards, places and values.
-/
import Derived.Test.YtknjnlkamhbmgaaBdDraw
import Derived.Test.YtknjnlkamhbmgaaDraw2
namespace Go.Proofs.Ytknjnlkamhbmgaa
open Go.RowKit

theorem base_in {w w' : World} {B g : Nat} (hg : w.grownBy w' (some g)) (hB : B ≤ g) (hlt : B ≤ w.heap.size) : Below B w w' := grown_below hg hlt (by rintro k ⟨⟩; exact hB)
/-- a drawn board -/
def Drew1 (w : World) (e : Ending) (w' : World) : Prop := ∃ A n c xs, e = .returned (.slice A n c) ∧ Ints w' w'.heap.size A n xs ∧ n ≤ 10 ∧ Below w.heap.size w w'

theorem DrawBoardValue_any (A : Option Addr) (n c : Nat) (w : World) (h : Bytes w w.heap.size A n c) (hn : n ≤ 1048576) :
    Calls Try.prog 21 #[.slice A n c] w (Drew1 w) := by
  have H := Lib.hid h
  clear h
  go_enter Try.func21, Try.ntmps21
  go_wp2_with fail
  refine (l6Open_any _ _ _ _ H.out hn).mono ?_
  rintro e w1 ⟨rfl, hrd, hb⟩
  have HB := Lib.hid hb
  have hsz := hrd.lt
  have HR := Lib.hid hrd
  clear hrd hb
  go_wp2_with fail
  refine (l91Board_any _ _ _ _ HR.out (by omega)).mono ?_
  rintro e w2 ⟨A2, n2, c2, xs, q, rfl, hx, hn2, hrd2, hq, hg⟩
  have HX := Lib.hid (hx _ (World.grownBy.refl _ _))
  have HB2 := Lib.hid (HB.out.trans (base_in hg (Nat.le_refl _) (by omega)))
  clear hx hrd2 hg
  go_wp2
  go_ret
  exact ⟨_, _, _, _, rfl, HX.out, hn2, HB2.out⟩

theorem DrawBoardReduce_any (A : Option Addr) (n c : Nat) (w : World) (h : Bytes w w.heap.size A n c) (hn : n ≤ 1048576) :
    Calls Try.prog 54 #[.slice A n c] w (Drew1 w) := by
  have H := Lib.hid h
  clear h
  go_enter Try.func54, Try.ntmps54
  go_wp2_with fail
  refine (l6Open_any _ _ _ _ H.out hn).mono ?_
  rintro e w1 ⟨rfl, hrd, hb⟩
  have HB := Lib.hid hb
  have hsz := hrd.lt
  have HR := Lib.hid hrd
  clear hrd hb
  go_wp2_with fail
  refine (l91Board_any _ _ _ _ HR.out (by omega)).mono ?_
  rintro e w2 ⟨A2, n2, c2, xs, q, rfl, hx, hn2, hrd2, hq, hg⟩
  have HX := Lib.hid (hx _ (World.grownBy.refl _ _))
  have HB2 := Lib.hid (HB.out.trans (base_in hg (Nat.le_refl _) (by omega)))
  clear hx hrd2 hg
  go_wp2
  go_ret
  exact ⟨_, _, _, _, rfl, HX.out, hn2, HB2.out⟩

theorem DrawBoardRaises_any (A : Option Addr) (n c : Nat) (w : World) (h : Bytes w w.heap.size A n c) (hn : n ≤ 1048576) :
    Calls Try.prog 50 #[.slice A n c] w (Drew1 w) := by
  have H := Lib.hid h
  clear h
  go_enter Try.func50, Try.ntmps50
  go_wp2_with fail
  refine (l6Open_any _ _ _ _ H.out hn).mono ?_
  rintro e w1 ⟨rfl, hrd, hb⟩
  have HB := Lib.hid hb
  have hsz := hrd.lt
  have HR := Lib.hid hrd
  clear hrd hb
  go_wp2_with fail
  refine (l91Board_any _ _ _ _ HR.out (by omega)).mono ?_
  rintro e w2 ⟨A2, n2, c2, xs, q, rfl, hx, hn2, hrd2, hq, hg⟩
  have HX := Lib.hid (hx _ (World.grownBy.refl _ _))
  have HB2 := Lib.hid (HB.out.trans (base_in hg (Nat.le_refl _) (by omega)))
  clear hx hrd2 hg
  go_wp2
  go_ret
  exact ⟨_, _, _, _, rfl, HX.out, hn2, HB2.out⟩

theorem DrawBoardDouble_any (A : Option Addr) (n c : Nat) (w : World) (h : Bytes w w.heap.size A n c) (hn : n ≤ 1048576) :
    Calls Try.prog 41 #[.slice A n c] w (Drew1 w) := by
  have H := Lib.hid h
  clear h
  go_enter Try.func41, Try.ntmps41
  go_wp2_with fail
  refine (l6Open_any _ _ _ _ H.out hn).mono ?_
  rintro e w1 ⟨rfl, hrd, hb⟩
  have HB := Lib.hid hb
  have hsz := hrd.lt
  have HR := Lib.hid hrd
  clear hrd hb
  go_wp2_with fail
  refine (l91Board_any _ _ _ _ HR.out (by omega)).mono ?_
  rintro e w2 ⟨A2, n2, c2, xs, q, rfl, hx, hn2, hrd2, hq, hg⟩
  have HX := Lib.hid (hx _ (World.grownBy.refl _ _))
  have HB2 := Lib.hid (HB.out.trans (base_in hg (Nat.le_refl _) (by omega)))
  clear hx hrd2 hg
  go_wp2
  go_ret
  exact ⟨_, _, _, _, rfl, HX.out, hn2, HB2.out⟩


set_option maxHeartbeats 1000000 in
theorem DrawBoardReduced_any (A : Option Addr) (n c : Nat) (w : World) (h : Bytes w w.heap.size A n c) (hn : n ≤ 1048576) :
    Calls Try.prog 51 #[.slice A n c] w (Drew1 w) := by
  have H := Lib.hid h
  clear h
  go_enter Try.func51, Try.ntmps51
  go_wp2_with fail
  refine (l6Open_any _ _ _ _ H.out hn).mono ?_
  rintro e w1 ⟨rfl, hrd, hb⟩
  have HB := Lib.hid hb
  have hsz := hrd.lt
  have HR := Lib.hid hrd
  clear hrd hb
  go_wp2_with fail
  refine (pick_any _ _ _ _ _ HR.out (by omega)).mono ?_
  rintro e w2 ⟨v2, rfl, hv2, hrd2, hg2⟩
  have hv2 := hv2 (by omega)
  have hsz2 := hg2.size
  have HB2 := Lib.hid (HB.out.trans (base_in hg2 (Nat.le_refl _) (by omega)))
  have HR2 := Lib.hid hrd2
  clear hrd2 hg2
  by_cases e0 : v2 = 0
  · subst e0
    go_wp2_with fail
    refine (pick_any _ _ _ _ _ HR2.out (by omega)).mono ?_
    rintro e w3 ⟨v3, rfl, hv3, hrd3, hg3⟩
    have hv3 := hv3 (by omega)
    have hsz3 := hg3.size
    have HB3 := Lib.hid (HB2.out.trans (base_in hg3 (Nat.le_refl _) (by omega)))
    clear hrd3 hg3
    go_wp2_with fail
    refine (specBoardOf_any v3 _).mono ?_
    rintro e w4 ⟨⟨A4, k4, c4, rfl, hown4⟩, hb4⟩
    have hl4 : k4 ≤ 10 := by
      have h1 := hown4.len
      have h2 := Bd.D_length 10 true v3
      rcases hh : okV v3 with _ | _
      · rw [hh] at h1; simp at h1; omega
      · rw [hh] at h1; simp only [if_true] at h1; omega
    have HO4 := Lib.hid hown4.ints
    have HB4 := Lib.hid (HB3.out.trans (hb4.mono (by omega)))
    clear hown4 hb4
    go_wp2
    go_ret
    exact ⟨_, _, _, _, rfl, HO4.out, hl4, HB4.out⟩
  · have e0' : (v2 == 0) = false := by simpa using e0
    go_wp2_with fail
    refine (l91Board_any _ _ _ _ HR2.out (by omega)).mono ?_
    rintro e w3 ⟨A2, n2, c2, xs, q, rfl, hx, hn2, hrd2, hq, hg⟩
    have HX := Lib.hid (hx _ (World.grownBy.refl _ _))
    have HB3 := Lib.hid (HB2.out.trans (base_in hg (Nat.le_refl _) (by omega)))
    clear hx hrd2 hg
    go_wp2
    go_ret
    exact ⟨_, _, _, _, rfl, HX.out, hn2, HB3.out⟩

/-- two drawn boards -/
def Drew2 (w : World) (e : Ending) (w' : World) : Prop :=
  ∃ A n c xs A2 n2 c2 ys, e = .returned (.tuple #[.slice A n c, .slice A2 n2 c2]) ∧ Ints w' w'.heap.size A n xs ∧ Ints w' w'.heap.size A2 n2 ys ∧ n ≤ 10 ∧ n2 ≤ 10 ∧ Below w.heap.size w w'
theorem DrawBoardLay_any (A : Option Addr) (n c : Nat) (w : World) (h : Bytes w w.heap.size A n c) (hn : n ≤ 1048576) :
    Calls Try.prog 45 #[.slice A n c] w (Drew2 w) := by
  have H := Lib.hid h
  clear h
  go_enter Try.func45, Try.ntmps45
  go_wp2_with fail
  refine (l6Open_any _ _ _ _ H.out hn).mono ?_
  rintro e w1 ⟨rfl, hrd, hb⟩
  have HB := Lib.hid hb
  have hsz := hrd.lt
  have HR := Lib.hid hrd
  clear hrd hb
  go_wp2_with fail
  refine (l91Board_any _ _ _ _ HR.out (by omega)).mono ?_
  rintro e w2 ⟨A2, n2, c2, xs, q, rfl, hx, hn2, hrd2, hq, hg⟩
  have HX := Lib.hid hx
  have hsz2 := hg.size
  have HB2 := Lib.hid (HB.out.trans (base_in hg (Nat.le_refl _) (by omega)))
  have HR2 := Lib.hid hrd2
  clear hx hrd2 hg
  go_wp2_with fail
  refine (l91Board_any _ _ _ _ HR2.out (by omega)).mono ?_
  rintro e w3 ⟨A3, n3, c3, ys, q3, rfl, hx3, hn3, hrd3, hq3, hg3⟩
  have HX3 := Lib.hid (hx3 _ (World.grownBy.refl _ _))
  have HX2 := Lib.hid (HX.out _ hg3)
  have HB3 := Lib.hid (HB2.out.trans (base_in hg3 (Nat.le_refl _) (by omega)))
  clear hx3 hrd3 hg3
  go_wp2
  go_ret2
  exact ⟨_, _, _, _, _, _, _, _, rfl, HX2.out, HX3.out, hn2, hn3, HB3.out⟩
theorem DrawBoardTake_any (A : Option Addr) (n c : Nat) (w : World) (h : Bytes w w.heap.size A n c) (hn : n ≤ 1048576) :
    Calls Try.prog 49 #[.slice A n c] w (Drew2 w) := by
  have H := Lib.hid h
  clear h
  go_enter Try.func49, Try.ntmps49
  go_wp2_with fail
  refine (DrawBoardLay_any _ _ _ _ H.out hn).mono ?_
  rintro e w1 ⟨A2, n2, c2, xs, A3, n3, c3, ys, rfl, hx, hy, hn2, hn3, hb⟩
  have HX := Lib.hid hx
  have HY := Lib.hid hy
  have HB := Lib.hid hb
  clear hx hy hb
  go_wp2
  go_ret2
  exact ⟨_, _, _, _, _, _, _, _, rfl, HX.out, HY.out, hn2, hn3, HB.out⟩

/-- a drawn board and a place -/
def DrewPlace (w : World) (e : Ending) (w' : World) : Prop :=
  ∃ A n c xs v, e = .returned (.tuple #[.slice A n c, .int .i64 v]) ∧ Ints w' w'.heap.size A n xs ∧ n ≤ 10 ∧ -100 ≤ v ∧ v ≤ 100 ∧ Below w.heap.size w w'
set_option maxHeartbeats 1000000 in
theorem l91Place_any (w0 w : World) (g : Nat) (h : Rd w w0.heap.size g 0) (hb0 : Below w0.heap.size w0 w) :
    Calls Try.prog 69 #[.pointer (some ⟨g, 0, none⟩)] w (DrewPlace w0) := by
  have hlt := h.lt
  have hbs := h.base
  have HB := Lib.hid hb0
  have HR := Lib.hid h
  clear h hb0
  go_enter Try.func69, Try.ntmps69
  go_wp2_with fail
  refine (l91Board_any _ _ _ _ HR.out (by omega)).mono ?_
  rintro e w2 ⟨A2, n2, c2, xs, q, rfl, hx, hn2, hrd2, hq, hg⟩
  have HX2 := Lib.hid hx
  have hsz2 := hg.size
  have HB2 := Lib.hid (HB.out.trans (base_in hg hbs (by omega)))
  have HR2 := Lib.hid hrd2
  clear hx hrd2 hg
  go_wp2_with fail
  refine (pick_any _ _ _ _ _ HR2.out (by omega)).mono ?_
  rintro e w3 ⟨v3, rfl, hv3, hrd3, hg3⟩
  have hv3 := hv3 (by omega)
  have hsz3 := hg3.size
  have HB3 := Lib.hid (HB2.out.trans (base_in hg3 hbs (by omega)))
  have HG3 := Lib.hid hg3
  have HR3 := Lib.hid hrd3
  clear hrd3 hg3
  go_wp2_with fail
  refine (pick_any _ _ _ _ _ HR3.out (by omega)).mono ?_
  rintro e w4 ⟨v4, rfl, hv4, hrd4, hg4⟩
  have hv4 := hv4 (by omega)
  have hsz4 := hg4.size
  have HB4 := Lib.hid (HB3.out.trans (base_in hg4 hbs (by omega)))
  have HG4 := Lib.hid (HG3.out.trans hg4)
  have HR4 := Lib.hid hrd4
  clear hrd4 hg4
  go_wp2_with fail
  refine (pick_any _ _ _ _ _ HR4.out (by omega)).mono ?_
  rintro e w5 ⟨v5, rfl, hv5, hrd5, hg5⟩
  have hv5 := hv5 (by omega)
  have hsz5 := hg5.size
  have HB5 := Lib.hid (HB4.out.trans (base_in hg5 hbs (by omega)))
  have HX5 := Lib.hid (HX2.out _ (HG4.out.trans hg5))
  clear hrd5 hg5
  go_wp2
  go_ret2
  refine ⟨_, _, _, _, _, rfl, HX5.out, hn2, ?_, ?_, HB5.out⟩
  · omega
  · omega
theorem DrawBoardRaise_any (A : Option Addr) (n c : Nat) (w : World) (h : Bytes w w.heap.size A n c) (hn : n ≤ 1048576) :
    Calls Try.prog 47 #[.slice A n c] w (DrewPlace w) := by
  have H := Lib.hid h
  clear h
  go_enter Try.func47, Try.ntmps47
  go_wp2_with fail
  refine (l6Open_any _ _ _ _ H.out hn).mono ?_
  rintro e w1 ⟨rfl, hrd, hb⟩
  have HB := Lib.hid hb
  have HR := Lib.hid hrd
  clear hrd hb
  go_wp2_with fail
  refine (l91Place_any _ _ _ HR.out HB.out).mono ?_
  rintro e w2 ⟨A2, n2, c2, xs, v, rfl, hx, hn2, hv0, hv1, hb⟩
  have HX := Lib.hid hx
  have HB2 := Lib.hid hb
  clear hx hb
  go_wp2
  go_ret2
  exact ⟨_, _, _, _, _, rfl, HX.out, hn2, hv0, hv1, HB2.out⟩
theorem DrawBoardLower_any (A : Option Addr) (n c : Nat) (w : World) (h : Bytes w w.heap.size A n c) (hn : n ≤ 1048576) :
    Calls Try.prog 37 #[.slice A n c] w (DrewPlace w) := by
  have H := Lib.hid h
  clear h
  go_enter Try.func37, Try.ntmps37
  go_wp2_with fail
  refine (l6Open_any _ _ _ _ H.out hn).mono ?_
  rintro e w1 ⟨rfl, hrd, hb⟩
  have HB := Lib.hid hb
  have HR := Lib.hid hrd
  clear hrd hb
  go_wp2_with fail
  refine (l91Place_any _ _ _ HR.out HB.out).mono ?_
  rintro e w2 ⟨A2, n2, c2, xs, v, rfl, hx, hn2, hv0, hv1, hb⟩
  have HX := Lib.hid hx
  have HB2 := Lib.hid hb
  clear hx hb
  go_wp2
  go_ret2
  exact ⟨_, _, _, _, _, rfl, HX.out, hn2, hv0, hv1, HB2.out⟩

/-- a drawn value -/
def DrewV (w : World) (e : Ending) (w' : World) : Prop := ∃ v, e = .returned (.int .i64 v) ∧ -100 ≤ v ∧ v ≤ 1000000 ∧ Below w.heap.size w w'
set_option maxHeartbeats 1000000 in
theorem l91Value_any (w0 w : World) (g : Nat) (h : Rd w w0.heap.size g 0) (hb0 : Below w0.heap.size w0 w) :
    Calls Try.prog 63 #[.pointer (some ⟨g, 0, none⟩)] w (DrewV w0) := by
  have hlt := h.lt
  have hbs := h.base
  have HB := Lib.hid hb0
  have HR := Lib.hid h
  clear h hb0
  go_enter Try.func63, Try.ntmps63
  go_wp2_with fail
  refine (pick_any _ _ _ _ _ HR.out (by omega)).mono ?_
  rintro e w3 ⟨v3, rfl, hv3, hrd3, hg3⟩
  have hv3 := hv3 (by omega)
  have hsz3 := hg3.size
  have HB3 := Lib.hid (HB.out.trans (base_in hg3 hbs (by omega)))
  have HR3 := Lib.hid hrd3
  clear hrd3 hg3
  by_cases e0 : v3 = 0
  · subst e0
    go_wp2_with fail
    have hlit := own_lit w3 [-1, 99999, 100000, 0] w3.heap.size 4 rfl (by omega) (by omega)
    refine (pick_any _ _ _ _ _ (HR3.out.alloc _) (by omega)).mono ?_
    rintro e w4 ⟨v4, rfl, hv4, hrd4, hg4⟩
    have hv4 := hv4 (by omega)
    have hlit := own_pick hlit hg4 (by omega)
    have HB4 := Lib.hid ((HB3.out.alloc (by omega) _).trans (base_in hg4 hbs (by simp; omega)))
    clear hrd4 hg4
    obtain ⟨g7, e7, _, _, hc7, _⟩ := hlit.at_ (by omega)
    obtain rfl : w3.heap.size = g7 := by simpa using e7
    obtain ⟨j7, rfl⟩ := Int.eq_ofNat_of_zero_le hv4.1
    obtain ⟨u7, hu7⟩ : ∃ u, ([-1, 99999, 100000, 0] : List Int)[j7]? = some u := ⟨_, List.getElem?_eq_getElem (by simp; omega)⟩
    have hc7 := hc7 _ _ hu7
    have hbd : -100 ≤ u7 ∧ u7 ≤ 1000000 := by
      have := List.mem_of_getElem? hu7
      simp at this
      omega
    clear hlit hu7 e7
    go_wp2
    go_ret
    exact ⟨_, rfl, hbd.1, hbd.2, HB4.out⟩
  · have e0' : (v3 == 0) = false := by simpa using e0
    go_wp2_with fail
    refine (pick_any _ _ _ _ _ HR3.out (by omega)).mono ?_
    rintro e w4 ⟨v4, rfl, hv4, hrd4, hg4⟩
    have hv4 := hv4 (by omega)
    have hsz4 := hg4.size
    have HB4 := Lib.hid (HB3.out.trans (base_in hg4 hbs (by omega)))
    have HR4 := Lib.hid hrd4
    clear hrd4 hg4
    go_wp2_with fail
    refine (pick_any _ _ _ _ _ HR4.out (by omega)).mono ?_
    rintro e w5 ⟨v5, rfl, hv5, hrd5, hg5⟩
    have hv5 := hv5 (by omega)
    have HB5 := Lib.hid (HB4.out.trans (base_in hg5 hbs (by omega)))
    clear hrd5 hg5
    go_wp2
    go_ret
    exact ⟨_, rfl, by omega, by omega, HB5.out⟩
theorem DrawBoardOf_any (A : Option Addr) (n c : Nat) (w : World) (h : Bytes w w.heap.size A n c) (hn : n ≤ 1048576) :
    Calls Try.prog 30 #[.slice A n c] w (DrewV w) := by
  have H := Lib.hid h
  clear h
  go_enter Try.func30, Try.ntmps30
  go_wp2_with fail
  refine (l6Open_any _ _ _ _ H.out hn).mono ?_
  rintro e w1 ⟨rfl, hrd, hb⟩
  have HB := Lib.hid hb
  have HR := Lib.hid hrd
  clear hrd hb
  go_wp2_with fail
  refine (l91Value_any _ _ _ HR.out HB.out).mono ?_
  rintro e w2 ⟨v, rfl, hv0, hv1, hb⟩
  have HB2 := Lib.hid hb
  clear hb
  go_wp2
  go_ret
  exact ⟨_, rfl, hv0, hv1, HB2.out⟩
end Go.Proofs.Ytknjnlkamhbmgaa
