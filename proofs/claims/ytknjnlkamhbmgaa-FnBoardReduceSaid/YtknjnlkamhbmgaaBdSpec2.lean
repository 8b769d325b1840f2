/-
  What the reference's functions that change boards give back, for every list.
-/
import Derived.Test.YtknjnlkamhbmgaaBdSpec
namespace Go.Proofs.Ytknjnlkamhbmgaa
open Go.RowKit

theorem valid_yes {A : Option Addr} {n c : Nat} {xs : List Int} {w : World} {B : Nat} (hx : Ints w B A n xs) (h : Bd.okB xs = true) :
    Calls Try.prog 55 #[.slice A n c] w fun e w' => e = .returned (.bool true) ∧ w = w' := by
  have := specBoardValid_any A n c xs w B hx
  rwa [h] at this
theorem valid_no {A : Option Addr} {n c : Nat} {xs : List Int} {w : World} {B : Nat} (hx : Ints w B A n xs) (h : Bd.okB xs = false) :
    Calls Try.prog 55 #[.slice A n c] w fun e w' => e = .returned (.bool false) ∧ w = w' := by
  have := specBoardValid_any A n c xs w B hx
  rwa [h] at this
theorem lit_nil (w : World) : Own (w.alloc (.cells #[] 3)) w.heap.size (some ⟨w.heap.size, 0, none⟩) 0 0 [] := own_lit w [] w.heap.size 0 rfl (by omega) (Nat.le_refl _)

set_option maxHeartbeats 400000 in
theorem specBoardReduced_any (A : Option Addr) (n c : Nat) (xs : List Int) (w : World) (B : Nat) (hx : Ints w B A n xs) (hn : n ≤ 1000) :
    Calls Try.prog 52 #[.slice A n c] w fun e w' => e = .returned (.bool (Bd.okB xs && Bd.isRed true xs)) ∧ Below w.heap.size w w' := by
  have hb := hx.bound
  have HX := Lib.hid hx.len
  go_enter Try.func52, Try.ntmps52
  go_wp2
  go_loopw [3] (fun i wr => ∃ k q : Nat, k ≤ n ∧ i = .int .i64 k ∧ wr = w.drewN q ∧ ∀ (j : Nat) u, j < k → xs[j]? = some u → u < Bd.grp j) (fun i _ => n - (intOf i).toNat)
  case atStart => exact ⟨0, 0, by omega, rfl, rfl, by intro j u h; omega⟩
  case round =>
    obtain ⟨k, q, hk, rfl, hwr, hin⟩ := hrel
    have hxr : Ints wr B A n xs := by rw [hwr]; exact hx.drewN q
    have HBL := Lib.hid (show Below w.heap.size w wr by rw [hwr]; exact below_drewN (Below.refl _ _) q)
    have HWR := Lib.hid hwr
    have HIN := Lib.hid hin
    clear hin hwr
    by_cases hlt : k < n
    · obtain ⟨b, off, u, rfl, hlb, hu, hcell⟩ := hxr.at_ hlt
      have HU := Lib.hid hu
      clear hu
      by_cases h1 : Bd.grp k ≤ u
      · go_wp2_with fail
        go_quiet ((go_at_call 61; exact quiet_same (l1Group_any _ (by omega) _)))
        go_wp2
        go_ret
        exact ⟨ret_bool (by rw [Bd.isRed_no HU.out h1]; simp), below_drewN HBL.out _⟩
      · go_wp2_with fail
        go_quiet ((go_at_call 61; exact quiet_same (l1Group_any _ (by omega) _)))
        go_wp2
        go_roundw
        case rel =>
          refine ⟨k + 1, _, by omega, by go_num, by rw [HWR.out, World.drewN_drewN], fun j v hj hv => ?_⟩
          by_cases hjk : j = k
          · subst hjk
            have := HU.out
            rw [this] at hv
            obtain rfl : u = v := by simpa using hv
            omega
          · exact HIN.out j v (by omega) hv
        case measure => simp [intOf]; omega
    · have hr : Bd.isRed true xs = true := by
        obtain rfl : k = n := by omega
        exact Bd.isRed_yes HX.out HIN.out
      have HR := Lib.hid hr
      have hxr' := Lib.hid hxr
      clear hr hxr
      go_wp2_with (go_at_call 55; refine (specBoardValid_any _ _ _ xs _ B hxr'.out).mono ?_; rintro e w' ⟨rfl, rfl⟩)
      go_ret
      exact ⟨ret_bool (by rw [HR.out]; simp), HBL.out⟩

/-- the board with some taken at one place and some put at another -/
def shiftL (xs : List Int) (p : Nat) (t : Int) (q : Nat) (s : Int) : List Int := (xs.set p (xs.getD p 0 - t)).set q ((xs.set p (xs.getD p 0 - t)).getD q 0 + s)

set_option maxHeartbeats 400000 in
theorem l1Shift_no (A : Option Addr) (n c : Nat) (xs : List Int) (p t q s : Int) (w : World) (B : Nat) (hx : Ints w B A n xs) (h : Bd.okB xs = false ∨ p < 0 ∨ 9 < p ∨ q < 0 ∨ 9 < q) :
    Calls Try.prog 72 #[.slice A n c, .int .i64 p, .int .i64 t, .int .i64 q, .int .i64 s] w (BoardPost w false []) := by
  have hx' := Lib.hid hx
  rcases hok : Bd.okB xs with _ | _
  · have HOK := Lib.hid hok
    clear hx hok h
    go_enter Try.func72, Try.ntmps72
    go_wp2_with (go_at_call 55; refine (valid_no hx'.out HOK.out).mono ?_; rintro e w' ⟨rfl, rfl⟩)
    go_ret2
    exact ⟨⟨_, _, _, rfl, lit_nil w⟩, (Below.refl _ _).alloc (Nat.le_refl _) _⟩
  · have HOK := Lib.hid hok
    rw [hok] at h
    clear hx hok
    by_cases hp : p < 0 ∨ 9 < p
    · have HP := Lib.hid hp
      clear hp h
      go_enter Try.func72, Try.ntmps72
      go_wp2_with (first
        | (go_at_call 55; refine (valid_yes hx'.out HOK.out).mono ?_; rintro e w' ⟨rfl, rfl⟩)
        | (go_at_call 66; refine (l6In_no HP.out _).mono ?_; rintro e w' ⟨rfl, rfl⟩))
      go_ret2
      exact ⟨⟨_, _, _, rfl, lit_nil w⟩, (Below.refl _ _).alloc (Nat.le_refl _) _⟩
    · have hq : q < 0 ∨ 9 < q := by simp at h; omega
      have p0 : 0 ≤ p := by omega
      have p1 : p ≤ 9 := by omega
      have HQ := Lib.hid hq
      clear hp h hq
      go_enter Try.func72, Try.ntmps72
      go_wp2_with fail
      refine (valid_yes hx'.out HOK.out).mono ?_
      rintro e w' ⟨rfl, rfl⟩
      go_wp2_with fail
      refine (l6In_yes p0 p1 _).mono ?_
      rintro e w' ⟨rfl, rfl⟩
      go_wp2_with fail
      refine (l6In_no HQ.out _).mono ?_
      rintro e w' ⟨rfl, rfl⟩
      go_wp2
      go_ret2
      exact ⟨⟨_, _, _, rfl, lit_nil w⟩, (Below.refl _ _).alloc (Nat.le_refl _) _⟩

set_option maxHeartbeats 1000000 in
theorem l1Shift_yes (A : Option Addr) (n c : Nat) (xs : List Int) (p q : Nat) (t s : Int) (w : World) (hx : Ints w w.heap.size A n xs) (hok : Bd.okB xs = true) (hp : p < 10) (hq : q < 10) (hpq : p ≠ q)
    (t0 : 0 ≤ t) (t1 : t ≤ 10) (s0 : 0 ≤ s) (s1 : s ≤ 10) :
    Calls Try.prog 72 #[.slice A n c, .int .i64 (p : Int), .int .i64 t, .int .i64 (q : Int), .int .i64 s] w (BoardPost w (Bd.okB (shiftL xs p t q s)) (shiftL xs p t q s)) := by
  have hl := (Bd.okB_iff xs).1 hok
  have hn : n = 10 := by have := hx.len; omega
  subst hn
  have hx' := Lib.hid hx
  have HOK := Lib.hid hok
  obtain ⟨u, hu⟩ : ∃ u, xs[p]? = some u := ⟨_, List.getElem?_eq_getElem (by omega)⟩
  obtain ⟨v, hv⟩ : ∃ v, xs[q]? = some v := ⟨_, List.getElem?_eq_getElem (by omega)⟩
  obtain ⟨u0, u1⟩ := hl.2 u (List.mem_of_getElem? hu)
  obtain ⟨v0, v1⟩ := hl.2 v (List.mem_of_getElem? hv)
  have he : shiftL xs p t q s = (xs.set p (u - t)).set q (v + s) := by
    unfold shiftL
    have e1 : xs.getD p 0 = u := by rw [List.getD_eq_getElem?_getD, hu]; rfl
    have e2 : (xs.set p (u - t)).getD q 0 = v := by rw [List.getD_eq_getElem?_getD, List.getElem?_set_ne hpq, hv]; rfl
    rw [e1, e2]
  rw [he]
  have hq2 : (xs.set p (u - t))[q]? = some v := by rw [List.getElem?_set_ne hpq, hv]
  have HU := Lib.hid hu
  have HQ2 := Lib.hid hq2
  have hln : Own (w.alloc (.cells #[] 3)) w.heap.size (some ⟨w.heap.size, 0, none⟩) 0 0 [] := lit_nil w
  have HLN := Lib.hid hln
  have i0 : (0 : Int) ≤ (p : Int) := by omega
  have i1 : (p : Int) ≤ 9 := by omega
  have i2 : (0 : Int) ≤ (q : Int) := by omega
  have i3 : (q : Int) ≤ 9 := by omega
  clear hx hok hl hu hv he hq2 hln
  rcases hres : Bd.okB ((xs.set p (u - t)).set q (v + s)) with _ | _
  all_goals
    have HRES := Lib.hid hres
    clear hres
    go_enter Try.func72, Try.ntmps72
    go_wp2_with fail
    refine (valid_yes hx'.out HOK.out).mono ?_
    rintro e w' ⟨rfl, rfl⟩
    go_wp2_with fail
    refine (l6In_yes i0 i1 _).mono ?_
    rintro e w' ⟨rfl, rfl⟩
    go_wp2_with fail
    refine (l6In_yes i2 i3 _).mono ?_
    rintro e w' ⟨rfl, rfl⟩
    go_wp2_with (first
      | (at_builtin; refine wpList_app_ints rfl _ _ rfl rfl HLN.out rfl (hx'.out.alloc (Nat.le_refl _) _) (by omega) (by simp) ?_; intro A1 c1 w1 hown1 hg1; simp only [Nat.zero_add, List.nil_append] at hown1; obtain ⟨g, rfl, hgB, hgl, hcells, hfr⟩ := hown1.at_ (by omega); have cu := hcells p u HU.out; have fu := hfr p; have fq := hfr q; have hs1 := hown1.store p (u - t); obtain ⟨g2, hg2e, _, _, hcells2, _⟩ := hs1.1.at_ (by omega); obtain rfl : g = g2 := (by simpa using hg2e); have cq := hcells2 q v HQ2.out; have HS2 := Lib.hid (hs1.1.store q (v + s)); have HS1 := Lib.hid hs1; have HG1 := Lib.hid hg1; clear hcells hfr hs1 hg1 hcells2 hg2e)
      | (go_at_call 55; refine (specBoardValid_any _ _ _ ((xs.set p (u - t)).set q (v + s)) _ _ HS2.out.1.ints).mono ?_; rintro e w' ⟨rfl, rfl⟩; rw [HRES.out]))
    go_ret2
    have hB1 : Below w.heap.size w w1 := ((Below.refl _ _).alloc (Nat.le_refl _) _).grown HG1.out (by simp) (by intro k hk; simp [Value.ownBlock] at hk; omega)
    have hB2 := (hB1.setCell (p := ⟨g, p, none⟩) hgB (.int .i64 (u - t))).setCell (p := ⟨g, q, none⟩) hgB (.int .i64 (v + s))
    have hln := Own.mono (lit_nil ((w1.setCell ⟨g, p, none⟩ (.int .i64 (u - t))).setCell ⟨g, q, none⟩ (.int .i64 (v + s)))) hB2.size
    simp only [World.size_setCell] at hln
    first
      | exact ⟨⟨_, _, _, rfl, HS2.out.1⟩, hB2⟩
      | exact ⟨⟨_, _, _, rfl, hln⟩, hB2.alloc hB2.size _⟩

set_option maxHeartbeats 400000 in
theorem specBoardReduce_any (A : Option Addr) (n c : Nat) (xs : List Int) (w : World) (hx : Ints w w.heap.size A n xs) :
    Calls Try.prog 24 #[.slice A n c] w (BoardPost w (redOK xs) (redL xs)) := by
  have hx' := Lib.hid hx
  rcases hok : Bd.okB xs with _ | _
  · have HOK := Lib.hid hok
    rw [show redOK xs = false by simp [redOK, hok]]
    clear hx hok
    go_enter Try.func24, Try.ntmps24
    go_wp2_with (go_at_call 55; refine (valid_no hx'.out HOK.out).mono ?_; rintro e w' ⟨rfl, rfl⟩)
    go_ret2
    exact ⟨⟨_, _, _, rfl, lit_nil w⟩, (Below.refl _ _).alloc (Nat.le_refl _) _⟩
  · have HOK := Lib.hid hok
    rw [show redOK xs = okV (Bd.V true xs) by simp [redOK, hok]]
    clear hx hok
    go_enter Try.func24, Try.ntmps24
    go_wp2_with (first
      | (go_at_call 55; refine (valid_yes hx'.out HOK.out).mono ?_; rintro e w' ⟨rfl, rfl⟩)
      | (go_at_call 56; refine (l1Value_any _ _ _ xs _ _ hx'.out HOK.out).mono ?_; rintro e w' ⟨rfl, q, rfl⟩)
      | (go_at_call 32; refine (specBoardOf_any _ _).mono ?_; rintro e w2 ⟨⟨A2, n2, c2, rfl, hown⟩, hb2⟩))
    go_ret2
    exact ⟨⟨_, _, _, rfl, hown⟩, (below_drewN (Below.refl _ _) q).trans hb2⟩

set_option maxHeartbeats 1000000 in
theorem specBoardTake_any (A B : Option Addr) (n c m d : Nat) (xs ys : List Int) (w : World) (hx : Ints w w.heap.size A n xs) (hy : Ints w w.heap.size B m ys) :
    Calls Try.prog 28 #[.slice A n c, .slice B m d] w (BoardPost w (takeOK xs ys) (takeL xs ys)) := by
  have hx' := Lib.hid hx
  have hy' := Lib.hid hy
  rcases hokx : Bd.okB xs with _ | _
  · have HX := Lib.hid hokx
    rw [show takeOK xs ys = false by simp [takeOK, hokx]]
    clear hx hy hokx
    go_enter Try.func28, Try.ntmps28
    go_wp2_with (go_at_call 55; refine (valid_no hx'.out HX.out).mono ?_; rintro e w' ⟨rfl, rfl⟩)
    go_ret2
    exact ⟨⟨_, _, _, rfl, lit_nil w⟩, (Below.refl _ _).alloc (Nat.le_refl _) _⟩
  · have HX := Lib.hid hokx
    rcases hoky : Bd.okB ys with _ | _
    · have HY := Lib.hid hoky
      rw [show takeOK xs ys = false by simp [takeOK, hoky]]
      clear hx hy hokx hoky
      go_enter Try.func28, Try.ntmps28
      go_wp2_with fail
      refine (valid_yes hx'.out HX.out).mono ?_
      rintro e w' ⟨rfl, rfl⟩
      go_wp2_with fail
      refine (valid_no hy'.out HY.out).mono ?_
      rintro e w' ⟨rfl, rfl⟩
      go_wp2
      go_ret2
      exact ⟨⟨_, _, _, rfl, lit_nil w⟩, (Below.refl _ _).alloc (Nat.le_refl _) _⟩
    · have HY := Lib.hid hoky
      rw [show takeOK xs ys = okV (Bd.V true xs - Bd.V true ys) by simp [takeOK, hokx, hoky]]
      have vx := Bd.V_take_range ((Bd.okB_iff xs).1 hokx).2 10 (by omega) (by have := ((Bd.okB_iff xs).1 hokx).1; omega)
      have vy := Bd.V_take_range ((Bd.okB_iff ys).1 hoky).2 10 (by omega) (by have := ((Bd.okB_iff ys).1 hoky).1; omega)
      rw [List.take_of_length_le (by have := ((Bd.okB_iff xs).1 hokx).1; omega)] at vx
      rw [List.take_of_length_le (by have := ((Bd.okB_iff ys).1 hoky).1; omega)] at vy
      obtain ⟨vx0, vx1⟩ := vx
      obtain ⟨vy0, vy1⟩ := vy
      clear hx hy hokx hoky
      go_enter Try.func28, Try.ntmps28
      go_wp2_with fail
      refine (valid_yes hx'.out HX.out).mono ?_
      rintro e w' ⟨rfl, rfl⟩
      go_wp2_with fail
      refine (valid_yes hy'.out HY.out).mono ?_
      rintro e w' ⟨rfl, rfl⟩
      go_wp2_with fail
      refine (l1Value_any _ _ _ xs _ _ hx'.out HX.out).mono ?_
      rintro e w' ⟨rfl, q1, rfl⟩
      go_wp2_with fail
      refine (l1Value_any _ _ _ ys _ _ (hy'.out.drewN q1) HY.out).mono ?_
      rintro e w' ⟨rfl, q2, rfl⟩
      go_wp2_with (go_at_call 32; refine (specBoardOf_any _ _).mono ?_; rintro e w2 ⟨⟨A2, n2, c2, rfl, hown⟩, hb2⟩)
      go_ret2
      exact ⟨⟨_, _, _, rfl, hown⟩, (below_drewN (Below.refl _ _) _).trans hb2⟩

theorem shift_raise {xs : List Int} (p : Nat) : shiftL xs p (Bd.grp p) (p + 1) 1 = Bd.raiseL xs p := by
  unfold shiftL Bd.raiseL Bd.move
  rw [show xs.getD p 0 + (0 - Bd.grp p) = xs.getD p 0 - Bd.grp p from by omega]
theorem okB_fit {xs : List Int} (h : xs.length = 10) : Bd.okB xs = fitB xs := by simp [Bd.okB, Bd.allIn, fitB, h]
theorem shift_lower {xs : List Int} (hl : xs.length = 10) (p : Nat) (hp : p < 9) : shiftL xs (p + 1) 1 p (Bd.grp p) = Bd.lowerL xs (p + 1) := by
  obtain ⟨u, hu⟩ : ∃ u, xs[p]? = some u := ⟨_, List.getElem?_eq_getElem (by omega)⟩
  obtain ⟨v, hv⟩ : ∃ v, xs[p + 1]? = some v := ⟨_, List.getElem?_eq_getElem (by omega)⟩
  rw [Bd.lowerL_eq hu hv]
  unfold shiftL
  have e1 : xs.getD (p + 1) 0 = v := by rw [List.getD_eq_getElem?_getD, hv]; rfl
  have e2 : (xs.set (p + 1) (v - 1)).getD p 0 = u := by rw [List.getD_eq_getElem?_getD, List.getElem?_set_ne (by omega), hu]; rfl
  rw [e1, e2]

set_option maxHeartbeats 1000000 in
theorem specBoardRaise_any (A : Option Addr) (n c : Nat) (xs : List Int) (q : Int) (w : World) (hx : Ints w w.heap.size A n xs) :
    Calls Try.prog 48 #[.slice A n c, .int .i64 q] w (BoardPost w (raiseOK xs q) (Bd.raiseL xs q.toNat)) := by
  have hx' := Lib.hid hx
  by_cases hq : q < 0 ∨ 9 < q
  · have HQ := Lib.hid hq
    rw [show raiseOK xs q = false by simp [raiseOK]; omega]
    clear hx hq
    go_enter Try.func48, Try.ntmps48
    go_wp2_with (go_at_call 66; refine (l6In_no HQ.out _).mono ?_; rintro e w' ⟨rfl, rfl⟩)
    go_ret2
    exact ⟨⟨_, _, _, rfl, lit_nil w⟩, (Below.refl _ _).alloc (Nat.le_refl _) _⟩
  · obtain ⟨p, rfl⟩ := Int.eq_ofNat_of_zero_le (by omega : 0 ≤ q)
    have i0 : (0 : Int) ≤ (p : Int) := by omega
    have i1 : (p : Int) ≤ 9 := by omega
    have hg := Bd.grp_cases p
    have g2 : 2 ≤ Bd.grp p ∧ Bd.grp p ≤ 5 := by rcases hg with h | h <;> omega
    obtain ⟨g2, g5⟩ := g2
    clear hq hg
    by_cases hno : Bd.okB xs = false ∨ p = 9
    · rw [show raiseOK xs (p : Int) = false by rcases hno with h | h <;> simp [raiseOK, h]]
      have HNO := Lib.hid (show Bd.okB xs = false ∨ (p : Int) < 0 ∨ 9 < (p : Int) ∨ (p : Int) + 1 < 0 ∨ 9 < (p : Int) + 1 by rcases hno with h | h; exact .inl h; exact .inr (by omega))
      clear hx hno
      go_enter Try.func48, Try.ntmps48
      go_wp2_with (first
        | (go_at_call 66; refine (l6In_yes i0 i1 _).mono ?_; rintro e w' ⟨rfl, rfl⟩)
        | (go_at_call 61; refine (l1Group_any _ (by omega) _).mono ?_; rintro e w' ⟨rfl, rfl⟩)
        | (go_at_call 72; refine (l1Shift_no _ _ _ xs _ _ _ _ _ _ hx'.out HNO.out).mono ?_; rintro e w2 ⟨⟨A2, n2, c2, rfl, hown⟩, hb2⟩))
      go_ret2
      exact ⟨⟨_, _, _, rfl, hown⟩, hb2⟩
    · have hok : Bd.okB xs = true := by
        cases h : Bd.okB xs with
        | false => exact absurd (.inl h) hno
        | true => rfl
      have hp9 : p < 9 := by omega
      have hl := ((Bd.okB_iff xs).1 hok).1
      rw [show raiseOK xs (p : Int) = Bd.okB (Bd.raiseL xs p) by rw [okB_fit ((Bd.raiseL_length xs p).trans hl)]; simp [raiseOK, hok]; omega, Int.toNat_natCast, ← shift_raise]
      have HOK := Lib.hid hok
      have e1 : ((p + 1 : Nat) : Int) = (p : Int) + 1 := by omega
      have hsh := l1Shift_yes A n c xs p (p + 1) (Bd.grp p) 1 w hx hok (by omega) (by omega) (by omega) (by omega) (by omega) (by omega) (by omega)
      rw [e1] at hsh
      have HSH := Lib.hid hsh
      clear hx hno hok hsh e1 hl
      go_enter Try.func48, Try.ntmps48
      go_wp2_with (first
        | (go_at_call 66; refine (l6In_yes i0 i1 _).mono ?_; rintro e w' ⟨rfl, rfl⟩)
        | (go_at_call 61; refine (l1Group_any _ (by omega) _).mono ?_; rintro e w' ⟨rfl, rfl⟩)
        | (go_at_call 72; refine HSH.out.mono ?_; rintro e w2 ⟨⟨A2, n2, c2, rfl, hown⟩, hb2⟩))
      go_ret2
      exact ⟨⟨_, _, _, rfl, hown⟩, hb2⟩

set_option maxHeartbeats 1000000 in
theorem specBoardLower_any (A : Option Addr) (n c : Nat) (xs : List Int) (q : Int) (w : World) (hx : Ints w w.heap.size A n xs) :
    Calls Try.prog 39 #[.slice A n c, .int .i64 q] w (BoardPost w (lowerOK xs q) (Bd.lowerL xs q.toNat)) := by
  have hx' := Lib.hid hx
  by_cases hq : q < 1 ∨ 9 < q
  · have HQ := Lib.hid hq
    rw [show lowerOK xs q = false by simp [lowerOK]; omega]
    clear hx hq
    go_enter Try.func39, Try.ntmps39
    go_wp2_with (go_at_call 66; refine (l6In_no HQ.out _).mono ?_; rintro e w' ⟨rfl, rfl⟩)
    go_ret2
    exact ⟨⟨_, _, _, rfl, lit_nil w⟩, (Below.refl _ _).alloc (Nat.le_refl _) _⟩
  · obtain ⟨p, hp1⟩ := Int.eq_ofNat_of_zero_le (by omega : 0 ≤ q - 1)
    obtain rfl : q = (p : Int) + 1 := by omega
    have et : ((p : Int) + 1).toNat = p + 1 := by omega
    have i0 : (1 : Int) ≤ (p : Int) + 1 := by omega
    have i1 : (p : Int) + 1 ≤ 9 := by omega
    have hg := Bd.grp_cases p
    have g2 : 2 ≤ Bd.grp p ∧ Bd.grp p ≤ 5 := by rcases hg with h | h <;> omega
    obtain ⟨g2, g5⟩ := g2
    clear hq hg hp1
    rcases hok : Bd.okB xs with _ | _
    · rw [show lowerOK xs ((p : Int) + 1) = false by simp [lowerOK, hok]]
      have HNO := Lib.hid (show Bd.okB xs = false ∨ (p : Int) + 1 < 0 ∨ 9 < (p : Int) + 1 ∨ (p : Int) < 0 ∨ 9 < (p : Int) from .inl hok)
      clear hx hok et
      go_enter Try.func39, Try.ntmps39
      go_wp2_with (first
        | (go_at_call 66; refine (l6In_yes i0 i1 _).mono ?_; rintro e w' ⟨rfl, rfl⟩)
        | (go_at_call 61; refine (l1Group_any _ (by omega) _).mono ?_; rintro e w' ⟨rfl, rfl⟩)
        | (go_at_call 72; refine (l1Shift_no _ _ _ xs _ _ _ _ _ _ hx'.out HNO.out).mono ?_; rintro e w2 ⟨⟨A2, n2, c2, rfl, hown⟩, hb2⟩))
      go_ret2
      exact ⟨⟨_, _, _, rfl, hown⟩, hb2⟩
    · have hl := ((Bd.okB_iff xs).1 hok).1
      rw [show lowerOK xs ((p : Int) + 1) = Bd.okB (Bd.lowerL xs (p + 1)) by rw [okB_fit ((Bd.lowerL_length xs _).trans hl)]; simp only [lowerOK, hok, et]; simp; omega, et, ← shift_lower hl p (by omega)]
      have HOK := Lib.hid hok
      have e1 : ((p + 1 : Nat) : Int) = (p : Int) + 1 := by omega
      have hsh := l1Shift_yes A n c xs (p + 1) p 1 (Bd.grp p) w hx hok (by omega) (by omega) (by omega) (by omega) (by omega) (by omega) (by omega)
      rw [e1] at hsh
      have HSH := Lib.hid hsh
      clear hx hok hsh e1 hl et
      go_enter Try.func39, Try.ntmps39
      go_wp2_with (first
        | (go_at_call 66; refine (l6In_yes i0 i1 _).mono ?_; rintro e w' ⟨rfl, rfl⟩)
        | (go_at_call 61; refine (l1Group_any _ (by omega) _).mono ?_; rintro e w' ⟨rfl, rfl⟩)
        | (go_at_call 72; refine HSH.out.mono ?_; rintro e w2 ⟨⟨A2, n2, c2, rfl, hown⟩, hb2⟩))
      go_ret2
      exact ⟨⟨_, _, _, rfl, hown⟩, hb2⟩
end Go.Proofs.Ytknjnlkamhbmgaa
