/-
  What the program's functions that change boards give back, for every list and place.
-/
import Derived.Test.YtknjnlkamhbmgaaBdFns
import Derived.Test.YtknjnlkamhbmgaaBdPlain2
namespace Go.Proofs.Ytknjnlkamhbmgaa
open Go.RowKit

theorem BoardOf_yes {v : Int} {w : World} (hok : okV v = true) : Calls Try.prog 31 #[.int .i64 v] w (BoardPost w true (Bd.D true 10 v)) := by
  have h := BoardOf_any v w
  rwa [hok] at h


set_option maxRecDepth 100000 in
set_option maxHeartbeats 400000 in
theorem BoardReduce_any (A : Option Addr) (n c : Nat) (xs : List Int) (w : World) (hx : Ints w w.heap.size A n xs) :
    Calls Try.prog 25 #[.slice A n c] w (BoardPost w (redOK xs) (redL xs)) := by
  have hx' := Lib.hid hx
  rcases hok : Bd.okB xs with _ | _
  · have hv : redOK xs = false := by simp [redOK, hok]
    rw [hv]
    have HOK := Lib.hid hok
    clear hv hok hx
    go_enter Try.func25, Try.ntmps25
    go_wp2_with (first
      | (go_at_call 57; refine (layOut_no hx'.out HOK.out).mono ?_; rintro e w1 ⟨rfl, hb1⟩)
      | (refine wpList_store_ten rfl rfl _ _ rfl w1.heap.size rfl 43 (AV z10) z10 rfl (heap_alloc_new w1 _) rfl rfl _ (setRow_alloc w1 _ _ _) ?_))
    go_ret2
    exact ⟨⟨_, _, _, rfl, Own.nil _ _⟩, hb1.alloc hb1.size _⟩
  · have hv : redOK xs = okV (Bd.V true xs) := by simp [redOK, hok]
    rw [hv]
    have hl := ((Bd.okB_iff xs).1 hok)
    have HL := Lib.hid hl
    have HOK := Lib.hid hok
    clear hv hok hx hl
    go_enter Try.func25, Try.ntmps25
    go_wp2_with (first
      | (go_at_call 57; refine (layOut_yes hx'.out HOK.out).mono ?_; rintro e w1 ⟨rfl, hb1⟩)
      | (refine wpList_store_ten rfl rfl _ _ rfl w1.heap.size rfl 43 (AV z10) xs rfl (heap_alloc_new w1 _) rfl HL.out.1 _ (setRow_alloc w1 _ _ _) ?_)
      | (refine wpList_load_ten rfl _ rfl w1.heap.size rfl _ xs _ (heap_alloc_new w1 _) HL.out.1 ?_)
      | (go_at_call 58; refine (value_any xs HL.out.1 HL.out.2 _).mono ?_; rintro e w' ⟨rfl, rfl⟩)
      | (go_at_call 31; refine (BoardOf_any _ _).mono ?_; rintro e w2 ⟨⟨A2, n2, c2, rfl, hown⟩, hb2⟩))
    go_ret2
    have hs := hb1.size
    exact ⟨⟨_, _, _, rfl, hown.mono (by simp; omega)⟩, ((hb1.alloc hb1.size _).alloc (by simp; omega) _).trans (hb2.mono (by simp; omega))⟩


set_option maxRecDepth 100000 in
set_option maxHeartbeats 1000000 in
theorem BoardRaise_any (A : Option Addr) (n c : Nat) (xs : List Int) (q : Int) (w : World) (hx : Ints w w.heap.size A n xs) :
    Calls Try.prog 40 #[.slice A n c, .int .i64 q] w (BoardPost w (raiseOK xs q) (Bd.raiseL xs q.toNat)) := by
  have hx' := Lib.hid hx
  rcases hok : Bd.okB xs with _ | _
  · have hv : raiseOK xs q = false := by simp [raiseOK, hok]
    rw [hv]
    have HOK := Lib.hid hok
    clear hv hok hx
    go_enter Try.func40, Try.ntmps40
    go_wp2_with (first
      | (go_at_call 57; refine (layOut_no hx'.out HOK.out).mono ?_; rintro e w1 ⟨rfl, hb1⟩)
      | (refine wpList_store_ten rfl rfl _ _ rfl w1.heap.size rfl 43 (AV z10) z10 rfl (heap_alloc_new w1 _) rfl rfl _ (setRow_alloc w1 _ _ _) ?_))
    go_ret2
    exact ⟨⟨_, _, _, rfl, Own.nil _ _⟩, hb1.alloc hb1.size _⟩
  · have hl := ((Bd.okB_iff xs).1 hok)
    have HL := Lib.hid hl
    by_cases hq : q < 0 ∨ 9 ≤ q
    · have hv : raiseOK xs q = false := by simp [raiseOK]; omega
      rw [hv]
      have HOK := Lib.hid hok
      clear hv hok hx hl
      rcases hq with hq | hq
      all_goals
        go_enter Try.func40, Try.ntmps40
        go_wp2_with (first
          | (go_at_call 57; refine (layOut_yes hx'.out HOK.out).mono ?_; rintro e w1 ⟨rfl, hb1⟩)
          | (refine wpList_store_ten rfl rfl _ _ rfl w1.heap.size rfl 43 (AV z10) xs rfl (heap_alloc_new w1 _) rfl HL.out.1 _ (setRow_alloc w1 _ _ _) ?_))
        go_ret2
        exact ⟨⟨_, _, _, rfl, Own.nil _ _⟩, hb1.alloc hb1.size _⟩
    · obtain ⟨p, rfl⟩ := Int.eq_ofNat_of_zero_le (by omega : 0 ≤ q)
      have hp : p < 9 := by omega
      have hv : raiseOK xs (p : Int) = fitB (Bd.raiseL xs p) := by simp [raiseOK, hok]; omega
      rw [hv, Int.toNat_natCast]
      obtain ⟨u, hu⟩ : ∃ u, xs[p]? = some u := ⟨_, List.getElem?_eq_getElem (by omega)⟩
      obtain ⟨v, hv'⟩ : ∃ v, xs[p + 1]? = some v := ⟨_, List.getElem?_eq_getElem (by omega)⟩
      have HE := Lib.hid (Bd.raiseL_eq hu hv')
      have HR := Lib.hid ((Bd.raiseL_length xs p).trans hl.1)
      have hu2 := hl.2 u (List.mem_of_getElem? hu)
      have hv2 := hl.2 v (List.mem_of_getElem? hv')
      obtain ⟨u0, u1⟩ := hu2
      obtain ⟨v0, v1⟩ := hv2
      have au := AV_get hu
      have av := AV_get hv'
      have HOK := Lib.hid hok
      have hg := Bd.grp_cases p
      have g2 : 2 ≤ Bd.grp p ∧ Bd.grp p ≤ 5 := by rcases hg with h | h <;> omega
      obtain ⟨g2, g5⟩ := g2
      have i0 : (0 : Int) ≤ (p : Int) := by omega
      have i1 : (p : Int) < 10 := by omega
      clear hv hok hx hl hu hv' hg hq
      go_enter Try.func40, Try.ntmps40
      go_wp2_with (first
        | (go_at_call 57; refine (layOut_yes hx'.out HOK.out).mono ?_; rintro e w1 ⟨rfl, hb1⟩)
        | (refine wpList_store_ten rfl rfl _ _ rfl w1.heap.size rfl 43 (AV z10) xs rfl (heap_alloc_new w1 _) rfl HL.out.1 _ (setRow_alloc w1 _ _ _) ?_))
      go_region_with (go_at_call 70; refine (fullAt_any _ (by omega) _).mono ?_; rintro e w' ⟨rfl, rfl⟩)
      all_goals
        go_wp2_with (first
          | (refine wpList_load_ten rfl _ rfl w1.heap.size rfl 43 (Bd.raiseL xs p) (0, 0) ((heap_alloc_new w1 _).trans (by rw [AV_set, AV_set, ← HE.out])) HR.out ?_)
          | (go_at_call 71; refine (board_any (Bd.raiseL xs p) HR.out _).mono ?_; rintro e w2 ⟨⟨A2, n2, c2, rfl, hown⟩, hb2⟩))
        go_ret2
        have hs := hb1.size
        exact ⟨⟨_, _, _, rfl, hown.mono (by simp; omega)⟩, ((hb1.alloc hb1.size _).drew).trans (hb2.mono (by simp; omega))⟩
end Go.Proofs.Ytknjnlkamhbmgaa
