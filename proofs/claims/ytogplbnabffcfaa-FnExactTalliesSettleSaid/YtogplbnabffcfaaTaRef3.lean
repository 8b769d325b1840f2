/-
  The reference's tallies: a new one, whether it matches, whether a list are tallies.
-/
import Derived.Test.YtogplbnabffcfaaTaRef2
namespace Go.Proofs.Ytogplbnabffcfaa
open Go.RowKit
set_option linter.unusedSimpArgs false

theorem l6yTwo_any (a c : Int) (w : World) : Calls Try.prog 43 #[.int .i64 a, .int .i64 c] w fun e w' => e = .returned (.bool (twoB a c)) ∧ w = w' := by
  by_cases h1 : 0 ≤ a ∧ a ≤ 4
  · by_cases h2 : 0 ≤ c ∧ c ≤ 4
    · have HL1 := Lib.hid h1
      have HL2 := Lib.hid h2
      by_cases h3 : a = c
      · have hne : (a != c) = false := by simpa using h3
        have HT := Lib.hid (twoB_no (a := a) (c := c) (by unfold Two; omega))
        clear h1 h2 h3
        go_enter Try.func43, Try.ntmps43
        go_wp2_with fail
        refine (l6In_yes HL1.out.1 HL1.out.2 w).mono ?_
        rintro e w' ⟨rfl, rfl⟩
        go_wp2_with fail
        refine (l6In_yes HL2.out.1 HL2.out.2 w).mono ?_
        rintro e w' ⟨rfl, rfl⟩
        go_wp2
        go_ret
        exact ⟨ret_bool HT.out.symm, rfl⟩
      · have hne : (a != c) = true := by simpa using h3
        have HT := Lib.hid (twoB_yes (a := a) (c := c) (by unfold Two; omega))
        clear h1 h2 h3
        go_enter Try.func43, Try.ntmps43
        go_wp2_with fail
        refine (l6In_yes HL1.out.1 HL1.out.2 w).mono ?_
        rintro e w' ⟨rfl, rfl⟩
        go_wp2_with fail
        refine (l6In_yes HL2.out.1 HL2.out.2 w).mono ?_
        rintro e w' ⟨rfl, rfl⟩
        go_wp2
        go_ret
        exact ⟨ret_bool HT.out.symm, rfl⟩
    · have HL1 := Lib.hid h1
      have HL2 := Lib.hid (show c < 0 ∨ 4 < c by omega)
      have HT := Lib.hid (twoB_no (a := a) (c := c) (by unfold Two; omega))
      clear h1 h2
      go_enter Try.func43, Try.ntmps43
      go_wp2_with fail
      refine (l6In_yes HL1.out.1 HL1.out.2 w).mono ?_
      rintro e w' ⟨rfl, rfl⟩
      go_wp2_with fail
      refine (l6In_no HL2.out w).mono ?_
      rintro e w' ⟨rfl, rfl⟩
      go_wp2
      go_ret
      exact ⟨ret_bool HT.out.symm, rfl⟩
  · have HL1 := Lib.hid (show a < 0 ∨ 4 < a by omega)
    have HT := Lib.hid (twoB_no (a := a) (c := c) (by unfold Two; omega))
    clear h1
    go_enter Try.func43, Try.ntmps43
    go_wp2_with fail
    refine (l6In_no HL1.out w).mono ?_
    rintro e w' ⟨rfl, rfl⟩
    go_wp2
    go_ret
    exact ⟨ret_bool HT.out.symm, rfl⟩

set_option maxRecDepth 100000 in
set_option maxHeartbeats 4000000 in
theorem specTallyNew_any (a c v : Int) (w : World) : Calls Try.prog 27 #[.int .i64 a, .int .i64 c, .int .i64 v] w fun e w' =>
    ((DebtOk a c v ∧ e = .returned (.tuple #[(tallyOf a c v).val, .bool true])) ∨ (¬ DebtOk a c v ∧ e = .returned (.tuple #[noTl, .bool false]))) ∧ Below w.heap.size w w' := by
  obtain ⟨W, hW⟩ : ∃ W, w.alloc (.cells #[.int .i64 0, .int .i64 0, .string ⟨#[]⟩, .string ⟨#[]⟩] 33) = W := ⟨_, rfl⟩
  have hbt : Blk W w.heap.size #[.int .i64 0, .int .i64 0, .string ⟨#[]⟩, .string ⟨#[]⟩] 33 := by rw [← hW]; exact Blk.new _ _ _
  have HB := Lib.hid (show Below w.heap.size w W by rw [← hW]; exact (Below.refl _ _).alloc (Nat.le_refl _) _)
  have t0 : W.cell? ⟨w.heap.size, 0, none⟩ = some (.int .i64 0) := hbt.cell rfl
  have t1 : W.cell? ⟨w.heap.size, 1, none⟩ = some (.int .i64 0) := hbt.cell rfl
  have t2 : W.cell? ⟨w.heap.size, 2, none⟩ = some (.string ⟨#[]⟩) := hbt.cell rfl
  have t3 : W.cell? ⟨w.heap.size, 3, none⟩ = some (.string ⟨#[]⟩) := hbt.cell rfl
  have f0 := hbt.free 0
  have f1 := hbt.free 1
  have f2 := hbt.free 2
  have f3 := hbt.free 3
  have HT := Lib.hid hbt
  have HW := Lib.hid hW
  clear hW hbt
  by_cases hv : 0 ≤ v ∧ v ≤ 9999
  · obtain ⟨hv0, hv9⟩ := hv
    obtain ⟨n, rfl⟩ := Int.eq_ofNat_of_zero_le hv0
    have hn9 : n ≤ 9999 := by omega
    obtain ⟨u, hu⟩ : ∃ u, txt (Ta.ntext n) = u := ⟨_, rfl⟩
    have HU := Lib.hid hu
    go_enter Try.func27, Try.ntmps27
    go_wp2_with fail
    rw [HW.out]
    go_wp2_with fail
    refine (specNotchesOf_yes n hn9 W).mono ?_
    rintro e w1 ⟨rfl, rfl⟩
    rw [hu]
    clear hu
    go_wp2_with fail
    refine (l6yTwo_any a c _).mono ?_
    rintro e w1 ⟨rfl, rfl⟩
    by_cases h2 : Two a c
    · rw [twoB_yes h2]
      by_cases h0 : n = 0
      · subst h0
        have HN := Lib.hid (show ¬ DebtOk a c ((0 : Nat) : Int) by unfold DebtOk; omega)
        clear h2
        go_wp2_with fail
        have hf := HT.out.set4 (.int .i64 0) (.int .i64 0) (.string ⟨#[]⟩) (.string ⟨#[]⟩)
        have g0 := hf.cell (j := 0) rfl
        have g1 := hf.cell (j := 1) rfl
        have g2 := hf.cell (j := 2) rfl
        have g3 := hf.cell (j := 3) rfl
        exact bodyPost_ret (v := .tuple #[noTl, .bool false]) (by simp [results, Try.results27, go_sem, noTl, tallyOf, Tl.val, g0, g1, g2, g3]) rfl ⟨.inr ⟨HN.out, rfl⟩, below_set4 HB.out (by omega) _ _ _ _⟩
      · have HN := Lib.hid (show DebtOk a c (n : Int) from ⟨h2, by omega, by omega⟩)
        have hnz : ((n : Int) == 0) = false := by simp; omega
        clear h2
        go_wp2_with fail
        have hf := HT.out.set4 (.int .i64 a) (.int .i64 c) (.string u) (.string u)
        have g0 := hf.cell (j := 0) rfl
        have g1 := hf.cell (j := 1) rfl
        have g2 := hf.cell (j := 2) rfl
        have g3 := hf.cell (j := 3) rfl
        exact bodyPost_ret (v := .tuple #[(tallyOf a c n).val, .bool true]) (by simp [results, Try.results27, go_sem, tallyOf, Tl.val, HU.out, g0, g1, g2, g3]) rfl ⟨.inl ⟨HN.out, rfl⟩, below_set4 HB.out (by omega) _ _ _ _⟩
    · rw [twoB_no h2]
      have HN := Lib.hid (show ¬ DebtOk a c (n : Int) by unfold DebtOk; exact fun h => h2 h.1)
      clear h2
      go_wp2_with fail
      have hf := HT.out.set4 (.int .i64 0) (.int .i64 0) (.string ⟨#[]⟩) (.string ⟨#[]⟩)
      have g0 := hf.cell (j := 0) rfl
      have g1 := hf.cell (j := 1) rfl
      have g2 := hf.cell (j := 2) rfl
      have g3 := hf.cell (j := 3) rfl
      exact bodyPost_ret (v := .tuple #[noTl, .bool false]) (by simp [results, Try.results27, go_sem, noTl, tallyOf, Tl.val, g0, g1, g2, g3]) rfl ⟨.inr ⟨HN.out, rfl⟩, below_set4 HB.out (by omega) _ _ _ _⟩
  · have HN := Lib.hid (show ¬ DebtOk a c v by unfold DebtOk; omega)
    have hv2 : v < 0 ∨ 9999 < v := by omega
    have HV2 := Lib.hid hv2
    clear hv hv2
    go_enter Try.func27, Try.ntmps27
    go_wp2_with fail
    rw [HW.out]
    go_wp2_with fail
    refine (specNotchesOf_no v HV2.out W).mono ?_
    rintro e w1 ⟨rfl, rfl⟩
    go_wp2_with fail
    have hf := HT.out.set4 (.int .i64 0) (.int .i64 0) (.string ⟨#[]⟩) (.string ⟨#[]⟩)
    have g0 := hf.cell (j := 0) rfl
    have g1 := hf.cell (j := 1) rfl
    have g2 := hf.cell (j := 2) rfl
    have g3 := hf.cell (j := 3) rfl
    exact bodyPost_ret (v := .tuple #[noTl, .bool false]) (by simp [results, Try.results27, go_sem, noTl, tallyOf, Tl.val, g0, g1, g2, g3]) rfl ⟨.inr ⟨HN.out, rfl⟩, below_set4 HB.out (by omega) _ _ _ _⟩
set_option maxHeartbeats 2000000 in
theorem specTallyMatches_any (t : Tl) (w : World) (hs : t.s.size ≤ 1099511627776) : Calls Try.prog 51 #[t.val] w fun e w' => e = .returned (.bool (matchB t)) ∧ Below w.heap.size w w' := by
  obtain ⟨a, c, s, f⟩ := t
  show Calls Try.prog 51 #[.agg #[.int .i64 a, .int .i64 c, .string s, .string f]] w _
  have hs' : s.size ≤ 1099511627776 := hs
  obtain ⟨W, hW⟩ : ∃ W, w.alloc (.cells #[.int .i64 a, .int .i64 c, .string s, .string f] 33) = W := ⟨_, rfl⟩
  have k0 : W.cell? ⟨w.heap.size, 0, none⟩ = some (.int .i64 a) := by rw [← hW, cell_of_row _ w.heap.size 0 _ _ _ (heap_alloc_new w _)]; rfl
  have k1 : W.cell? ⟨w.heap.size, 1, none⟩ = some (.int .i64 c) := by rw [← hW, cell_of_row _ w.heap.size 1 _ _ _ (heap_alloc_new w _)]; rfl
  have k2 : W.cell? ⟨w.heap.size, 2, none⟩ = some (.string s) := by rw [← hW, cell_of_row _ w.heap.size 2 _ _ _ (heap_alloc_new w _)]; rfl
  have k3 : W.cell? ⟨w.heap.size, 3, none⟩ = some (.string f) := by rw [← hW, cell_of_row _ w.heap.size 3 _ _ _ (heap_alloc_new w _)]; rfl
  have hlt : w.heap.size < W.heap.size := by rw [← hW]; simp
  have HB := Lib.hid (show Below w.heap.size w W by rw [← hW]; exact (Below.refl _ _).alloc (Nat.le_refl _) _)
  have HW := Lib.hid hW
  clear hW
  go_enter Try.func51, Try.ntmps51
  go_wp2_with fail
  rw [HW.out]
  go_wp2_with fail
  refine (l6yTwo_any a c _).mono ?_
  rintro e w1 ⟨rfl, rfl⟩
  rcases h2 : twoB a c with _ | _
  · have HM := Lib.hid (show matchB ⟨a, c, s, f⟩ = false by simp [matchB, h2])
    clear h2
    go_wp2
    go_ret
    exact ⟨ret_bool HM.out.symm, HB.out⟩
  · have H2 := Lib.hid h2
    clear h2
    go_wp2_with fail
    refine (specNotchesValid_any s _ hs').mono ?_
    rintro e w2 ⟨rfl, hb2⟩
    have k21 := (hb2.cell (p := ⟨w.heap.size, 2, none⟩) hlt).trans k2
    have k31 := (hb2.cell (p := ⟨w.heap.size, 3, none⟩) hlt).trans k3
    have HB2 := Lib.hid (HB.out.trans (hb2.mono HB.out.size))
    clear hb2 k0 k1 k2 k3
    rcases hv : validB s with _ | _
    · have HM := Lib.hid (show matchB ⟨a, c, s, f⟩ = false by simp [matchB, hv])
      clear hv
      go_wp2
      go_ret
      exact ⟨ret_bool HM.out.symm, HB2.out⟩
    · have HM := Lib.hid (show matchB ⟨a, c, s, f⟩ = decide (s = f) by simp [matchB, H2.out, hv])
      clear hv
      go_wp2
      go_ret
      exact ⟨ret_bool ((str_eq s f).trans HM.out.symm), HB2.out⟩
theorem okB_iff {t : Tl} : okB t = true ↔ matchB t = true ∧ t.s ≠ ⟨#[]⟩ := by
  unfold okB
  simp only [Bool.and_eq_true, decide_eq_true_eq]
  constructor
  · rintro ⟨h1, h2⟩
    refine ⟨h1, fun e => ?_⟩
    rw [e] at h2
    exact absurd h2 (by decide)
  · rintro ⟨h1, h2⟩
    refine ⟨h1, ?_⟩
    have hv : validB t.s = true := by
      unfold matchB at h1
      simp only [Bool.and_eq_true] at h1
      exact h1.2.1
    have hw := worth_of hv
    obtain ⟨_, b1, b2, b3⟩ := Ta.worth_bd hw
    by_cases h0 : worthB t.s = 0
    · exact absurd (by have := b3 h0; rw [← txt_eta t.s, this]; rfl) h2
    · omega
end Go.Proofs.Ytogplbnabffcfaa
