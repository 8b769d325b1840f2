/-
  The draws of roots, long divisions and chains: whatever the code, they come back with numbers in their ranges and lists that can be read.
-/
import Derived.Test.YtphokfdaimbaiaaKit
import Derived.Test.YtphokfdaimbaiaaDraw2
namespace Go.Proofs.Ytphokfdaimbaiaa
open Go.RowKit

set_option maxRecDepth 100000 in
set_option maxHeartbeats 1000000 in
theorem l92Root_any (w : World) (B g p : Nat) (h : Rd w B g p) (hp : p ≤ 900000) :
    Calls Try.prog 53 #[.pointer (some ⟨g, 0, none⟩)] w (DInt (-1) 1000000001 w B g p) := by
  have hlt := h.lt
  have hbs := h.base
  have HR := Lib.hid h
  have HG := Lib.hid (World.grownBy.refl w (some g))
  have hsz0 : w.heap.size ≤ w.heap.size := Nat.le_refl _
  clear h
  go_enter Try.func53, Try.ntmps53
  go_wp2_with fail
  refine (pick_any _ _ _ _ _ HR.out (by omega)).mono ?_
  rintro e w1 ⟨v1, rfl, hv1, hrd1, hg1⟩
  obtain ⟨hva1, hvb1⟩ := hv1 (by omega)
  clear hv1
  have hsz1 := hg1.size
  replace HG := Lib.hid (HG.out.trans hg1)
  replace HR := Lib.hid hrd1
  clear hrd1 hg1
  by_cases e0 : v1 = 0
  · subst e0
    go_wp2_with fail
    refine (pick_any _ _ _ _ _ (HR.out.alloc _) (by omega)).mono ?_
    rintro e w2 ⟨v2, rfl, hv2, hrd2, hg2⟩
    obtain ⟨hva2, hvb2⟩ := hv2 (by omega)
    obtain ⟨j2, u2, rfl, hj2, hu2, hc2⟩ := lit_after (n := 4) (us := [-1, 0, 1000000000, 1000000001]) hg2 (by omega) rfl (by omega) hva2 hvb2
    obtain ⟨hua2, hub2⟩ : -1 ≤ u2 ∧ u2 ≤ 1000000001 := by simp at hu2; omega
    clear hv2 hu2
    have hsz2 := hg2.size
    simp only [World.size_alloc] at hsz2
    replace HG := Lib.hid ((HG.out.trans (World.grownBy_alloc _ _ _)).trans hg2)
    replace HR := Lib.hid hrd2
    clear hrd2 hg2
    go_wp2
    go_ret
    exact ⟨_, _, rfl, by omega, by omega, HR.out, by omega, HG.out⟩
  · have f0 : (v1 == 0) = false := by simpa using e0
    by_cases e1 : v1 = 1
    · subst e1
      go_wp2_with fail
      refine (pick_any _ _ _ _ _ HR.out (by omega)).mono ?_
      rintro e w2 ⟨v2, rfl, hv2, hrd2, hg2⟩
      obtain ⟨hva2, hvb2⟩ := hv2 (by omega)
      clear hv2
      have hsz2 := hg2.size
      replace HG := Lib.hid (HG.out.trans hg2)
      replace HR := Lib.hid hrd2
      clear hrd2 hg2
      obtain ⟨hm0, hm1⟩ := sq_in hva2 (by omega : v2 ≤ 2999)
      go_wp2_with fail
      refine (pick_any _ _ _ _ _ HR.out (by omega)).mono ?_
      rintro e w3 ⟨v3, rfl, hv3, hrd3, hg3⟩
      obtain ⟨hva3, hvb3⟩ := hv3 (by omega)
      clear hv3
      have hsz3 := hg3.size
      replace HG := Lib.hid (HG.out.trans hg3)
      replace HR := Lib.hid hrd3
      clear hrd3 hg3
      go_wp2
      go_ret
      exact ⟨_, _, rfl, by omega, by omega, HR.out, by omega, HG.out⟩
    · have f1 : (v1 == 1) = false := by simpa using e1
      by_cases e2 : v1 = 2
      · subst e2
        go_wp2_with fail
        refine (pick_any _ _ _ _ _ HR.out (by omega)).mono ?_
        rintro e w2 ⟨v2, rfl, hv2, hrd2, hg2⟩
        obtain ⟨hva2, hvb2⟩ := hv2 (by omega)
        clear hv2
        have hsz2 := hg2.size
        replace HG := Lib.hid (HG.out.trans hg2)
        replace HR := Lib.hid hrd2
        clear hrd2 hg2
        obtain ⟨hm0, hm1⟩ := sq_in hva2 (by omega : v2 ≤ 2999)
        go_wp2_with fail
        refine (pick_any _ _ _ _ _ HR.out (by omega)).mono ?_
        rintro e w3 ⟨v3, rfl, hv3, hrd3, hg3⟩
        obtain ⟨hva3, hvb3⟩ := hv3 (by omega)
        clear hv3
        have hsz3 := hg3.size
        replace HG := Lib.hid (HG.out.trans hg3)
        replace HR := Lib.hid hrd3
        clear hrd3 hg3
        go_wp2
        go_ret
        exact ⟨_, _, rfl, by omega, by omega, HR.out, by omega, HG.out⟩
      · have f2 : (v1 == 2) = false := by simpa using e2
        go_wp2_with fail
        refine (pick_any _ _ _ _ _ HR.out (by omega)).mono ?_
        rintro e w2 ⟨v2, rfl, hv2, hrd2, hg2⟩
        obtain ⟨hva2, hvb2⟩ := hv2 (by omega)
        clear hv2
        have hsz2 := hg2.size
        replace HG := Lib.hid (HG.out.trans hg2)
        replace HR := Lib.hid hrd2
        clear hrd2 hg2
        go_wp2_with fail
        refine (pick_any _ _ _ _ _ HR.out (by omega)).mono ?_
        rintro e w3 ⟨v3, rfl, hv3, hrd3, hg3⟩
        obtain ⟨hva3, hvb3⟩ := hv3 (by omega)
        clear hv3
        have hsz3 := hg3.size
        replace HG := Lib.hid (HG.out.trans hg3)
        replace HR := Lib.hid hrd3
        clear hrd3 hg3
        obtain ⟨hm0, hm1⟩ := mul_in hva2 (by omega : v2 ≤ 999) (by omega : 0 ≤ 1 + v3) (by omega : 1 + v3 ≤ 200)
        go_wp2
        go_ret
        exact ⟨_, _, rfl, by omega, by omega, HR.out, by omega, HG.out⟩

set_option maxRecDepth 100000 in
set_option maxHeartbeats 1000000 in
theorem DrawRootNear_any (A : Option Addr) (n c : Nat) (w : World) (h : Bytes w w.heap.size A n c) (hn : n ≤ 1048576) :
    Calls Try.prog 13 #[.slice A n c] w (DrewI (-1) 1000000001 w) := by
  have H := Lib.hid h
  clear h
  go_enter Try.func13, Try.ntmps13
  go_wp2_with fail
  refine (l6Open_any _ _ _ _ H.out hn).mono ?_
  rintro e w0 ⟨rfl, hrd, hb⟩
  have HB := Lib.hid hb
  have hlt := hrd.lt
  have HR := Lib.hid hrd
  clear hrd hb
  go_wp2_with fail
  refine (l92Root_any _ _ _ _ HR.out (by omega)).mono ?_
  rintro e w1 ⟨v1, q1, rfl, hva1, hvb1, hrd1, hq1, hg1⟩
  have hsz1 := hg1.size
  replace HB := Lib.hid (HB.out.trans (base_in hg1 (Nat.le_refl _) (by omega)))
  replace HR := Lib.hid hrd1
  clear hrd1 hg1
  go_wp2
  go_ret
  exact ⟨_, rfl, by omega, by omega, HB.out⟩

set_option maxRecDepth 100000 in
set_option maxHeartbeats 1000000 in
theorem DrawRootPairs_any (A : Option Addr) (n c : Nat) (w : World) (h : Bytes w w.heap.size A n c) (hn : n ≤ 1048576) :
    Calls Try.prog 16 #[.slice A n c] w (DrewI (-1) 1000000001 w) := by
  have H := Lib.hid h
  clear h
  go_enter Try.func16, Try.ntmps16
  go_wp2_with fail
  refine (l6Open_any _ _ _ _ H.out hn).mono ?_
  rintro e w0 ⟨rfl, hrd, hb⟩
  have HB := Lib.hid hb
  have hlt := hrd.lt
  have HR := Lib.hid hrd
  clear hrd hb
  go_wp2_with fail
  refine (l92Root_any _ _ _ _ HR.out (by omega)).mono ?_
  rintro e w1 ⟨v1, q1, rfl, hva1, hvb1, hrd1, hq1, hg1⟩
  have hsz1 := hg1.size
  replace HB := Lib.hid (HB.out.trans (base_in hg1 (Nat.le_refl _) (by omega)))
  replace HR := Lib.hid hrd1
  clear hrd1 hg1
  go_wp2
  go_ret
  exact ⟨_, rfl, by omega, by omega, HB.out⟩

set_option maxRecDepth 100000 in
set_option maxHeartbeats 1000000 in
theorem DrawLongPeriod_any (A : Option Addr) (n c : Nat) (w : World) (h : Bytes w w.heap.size A n c) (hn : n ≤ 1048576) :
    Calls Try.prog 31 #[.slice A n c] w (DrewI (-1) 1001 w) := by
  have H := Lib.hid h
  clear h
  go_enter Try.func31, Try.ntmps31
  go_wp2_with fail
  refine (l6Open_any _ _ _ _ H.out hn).mono ?_
  rintro e w0 ⟨rfl, hrd, hb⟩
  have HB := Lib.hid hb
  have hlt := hrd.lt
  have HR := Lib.hid hrd
  clear hrd hb
  go_wp2_with fail
  refine (pick_any _ _ _ _ _ HR.out (by omega)).mono ?_
  rintro e w1 ⟨v1, rfl, hv1, hrd1, hg1⟩
  obtain ⟨hva1, hvb1⟩ := hv1 (by omega)
  clear hv1
  have hsz1 := hg1.size
  replace HB := Lib.hid (HB.out.trans (base_in hg1 (Nat.le_refl _) (by omega)))
  replace HR := Lib.hid hrd1
  clear hrd1 hg1
  by_cases e0 : v1 = 0
  · subst e0
    go_wp2_with fail
    refine (pick_any _ _ _ _ _ (HR.out.alloc _) (by omega)).mono ?_
    rintro e w2 ⟨v2, rfl, hv2, hrd2, hg2⟩
    obtain ⟨hva2, hvb2⟩ := hv2 (by omega)
    obtain ⟨j2, u2, rfl, hj2, hu2, hc2⟩ := lit_after (n := 5) (us := [0, -1, 1000, 1001, 997]) hg2 (by omega) rfl (by omega) hva2 hvb2
    obtain ⟨hua2, hub2⟩ : -1 ≤ u2 ∧ u2 ≤ 1001 := by simp at hu2; omega
    clear hv2 hu2
    have hsz2 := hg2.size
    simp only [World.size_alloc] at hsz2
    replace HB := Lib.hid ((HB.out.alloc HB.out.size _).trans (base_in hg2 (Nat.le_refl _) (by simp; omega)))
    replace HR := Lib.hid hrd2
    clear hrd2 hg2
    go_wp2
    go_ret
    exact ⟨_, rfl, by omega, by omega, HB.out⟩
  · have f0 : (v1 == 0) = false := by simpa using e0
    go_wp2_with fail
    refine (pick_any _ _ _ _ _ HR.out (by omega)).mono ?_
    rintro e w2 ⟨v2, rfl, hv2, hrd2, hg2⟩
    obtain ⟨hva2, hvb2⟩ := hv2 (by omega)
    clear hv2
    have hsz2 := hg2.size
    replace HB := Lib.hid (HB.out.trans (base_in hg2 (Nat.le_refl _) (by omega)))
    replace HR := Lib.hid hrd2
    clear hrd2 hg2
    go_wp2
    go_ret
    exact ⟨_, rfl, by omega, by omega, HB.out⟩
end Go.Proofs.Ytphokfdaimbaiaa
