/-
  The program's different, TallyMatches, tally.
-/
import Derived.Test.YtogplbnabffcfaaTaNotch2
import Derived.Test.YtogplbnabffcfaaTaBlk
import Derived.Laws.StructEq
namespace Go.Proofs.Ytogplbnabffcfaa
open Go.RowKit
set_option linter.unusedSimpArgs false

/-- two different people -/
def Two (a c : Int) : Prop := 0 ≤ a ∧ a < 5 ∧ 0 ≤ c ∧ c < 5 ∧ ¬ a = c
instance (a c : Int) : Decidable (Two a c) := by unfold Two; exact inferInstance
def twoB (a c : Int) : Bool := decide (Two a c)
theorem twoB_yes {a c : Int} (h : Two a c) : twoB a c = true := decide_eq_true h
theorem twoB_no {a c : Int} (h : ¬ Two a c) : twoB a c = false := decide_eq_false h
set_option maxHeartbeats 1000000 in
theorem different_any (a c : Int) (w : World) : Calls Try.prog 38 #[.agg #[.int .i64 a, .int .i64 c]] w fun e w' => e = .returned (.bool (twoB a c)) ∧ Below w.heap.size w w' := by
  by_cases h0 : 0 ≤ a
  rotate_left
  · have h0' : ¬ (0 ≤ a) := h0
    have HT := Lib.hid (twoB_no (a := a) (c := c) (by unfold Two; omega))
    go_enter Try.func38, Try.ntmps38
    go_wp2
    go_ret
    exact ⟨ret_bool (by rw [HT.out]), (Below.refl _ _).alloc (Nat.le_refl _) _⟩
  by_cases h1 : a < 5
  rotate_left
  · have h1' : ¬ (a < 5) := h1
    have HT := Lib.hid (twoB_no (a := a) (c := c) (by unfold Two; omega))
    go_enter Try.func38, Try.ntmps38
    go_wp2
    go_ret
    exact ⟨ret_bool (by rw [HT.out]), (Below.refl _ _).alloc (Nat.le_refl _) _⟩
  by_cases h2 : 0 ≤ c
  rotate_left
  · have h2' : ¬ (0 ≤ c) := h2
    have HT := Lib.hid (twoB_no (a := a) (c := c) (by unfold Two; omega))
    go_enter Try.func38, Try.ntmps38
    go_wp2
    go_ret
    exact ⟨ret_bool (by rw [HT.out]), (Below.refl _ _).alloc (Nat.le_refl _) _⟩
  by_cases h3 : c < 5
  rotate_left
  · have h3' : ¬ (c < 5) := h3
    have HT := Lib.hid (twoB_no (a := a) (c := c) (by unfold Two; omega))
    go_enter Try.func38, Try.ntmps38
    go_wp2
    go_ret
    exact ⟨ret_bool (by rw [HT.out]), (Below.refl _ _).alloc (Nat.le_refl _) _⟩
  by_cases h4 : a = c
  · have h5 : (a == c) = true := by simpa using h4
    have h6 : (a != c) = false := by simpa using h4
    have HT := Lib.hid (twoB_no (a := a) (c := c) (by unfold Two; omega))
    go_enter Try.func38, Try.ntmps38
    go_wp2
    go_ret
    exact ⟨ret_bool (by rw [HT.out]), (Below.refl _ _).alloc (Nat.le_refl _) _⟩
  · have h5 : (a == c) = false := by simpa using h4
    have h6 : (a != c) = true := by simpa using h4
    have HT := Lib.hid (twoB_yes ⟨h0, h1, h2, h3, h4⟩)
    go_enter Try.func38, Try.ntmps38
    go_wp2
    go_ret
    exact ⟨ret_bool (by rw [HT.out]), (Below.refl _ _).alloc (Nat.le_refl _) _⟩

theorem str_eq (a b : ByteArray) : (a.toList == b.toList) = decide (a = b) := by
  rw [ByteArray.toList_eq, ByteArray.toList_eq]
  by_cases h : a = b
  · subst h; simp
  · have h2 : ¬ a.data.toList = b.data.toList := fun e => h (by cases a; cases b; simp_all)
    rw [decide_eq_false h]
    simpa using h2
/-- whether a tally matches -/
def matchB (t : Tl) : Bool := twoB t.a t.c && (validB t.s && decide (t.s = t.f))
set_option maxHeartbeats 2000000 in
theorem TallyMatches_any (t : Tl) (w : World) (hs : t.s.size ≤ 1099511627776) : Calls Try.prog 35 #[t.val] w fun e w' => e = .returned (.bool (matchB t)) ∧ Below w.heap.size w w' := by
  obtain ⟨a, c, s, f⟩ := t
  show Calls Try.prog 35 #[.agg #[.int .i64 a, .int .i64 c, .string s, .string f]] w _
  have hs' : s.size ≤ 1099511627776 := hs
  obtain ⟨W, hW⟩ : ∃ W, w.alloc (.cells #[.int .i64 a, .int .i64 c, .string s, .string f] 33) = W := ⟨_, rfl⟩
  have k0 : W.cell? ⟨w.heap.size, 0, none⟩ = some (.int .i64 a) := by rw [← hW, cell_of_row _ w.heap.size 0 _ _ _ (heap_alloc_new w _)]; rfl
  have k1 : W.cell? ⟨w.heap.size, 1, none⟩ = some (.int .i64 c) := by rw [← hW, cell_of_row _ w.heap.size 1 _ _ _ (heap_alloc_new w _)]; rfl
  have k2 : W.cell? ⟨w.heap.size, 2, none⟩ = some (.string s) := by rw [← hW, cell_of_row _ w.heap.size 2 _ _ _ (heap_alloc_new w _)]; rfl
  have k3 : W.cell? ⟨w.heap.size, 3, none⟩ = some (.string f) := by rw [← hW, cell_of_row _ w.heap.size 3 _ _ _ (heap_alloc_new w _)]; rfl
  have hlt : w.heap.size < W.heap.size := by rw [← hW]; simp
  have HB := Lib.hid (show Below w.heap.size w W by rw [← hW]; exact (Below.refl _ _).alloc (Nat.le_refl _) _)
  have HW := Lib.hid hW
  clear hW
  go_enter Try.func35, Try.ntmps35
  go_wp2_with fail
  rw [HW.out]
  go_wp2_with fail
  refine (different_any a c W).mono ?_
  rintro e w1 ⟨rfl, hb1⟩
  have k20 := (hb1.cell (p := ⟨w.heap.size, 2, none⟩) hlt).trans k2
  have k30 := (hb1.cell (p := ⟨w.heap.size, 3, none⟩) hlt).trans k3
  have hlt1 : w.heap.size < w1.heap.size := Nat.lt_of_lt_of_le hlt hb1.size
  have HB1 := Lib.hid (HB.out.trans (hb1.mono HB.out.size))
  clear hb1 k0 k1 k2 k3
  rcases h2 : twoB a c with _ | _
  · have HM := Lib.hid (show matchB ⟨a, c, s, f⟩ = false by simp [matchB, h2])
    clear h2
    go_wp2
    go_ret
    exact ⟨ret_bool HM.out.symm, HB1.out⟩
  · have H2 := Lib.hid h2
    clear h2
    go_wp2_with fail
    refine (NotchesValid_any s w1 hs').mono ?_
    rintro e w2 ⟨rfl, hb2⟩
    have k21 := (hb2.cell (p := ⟨w.heap.size, 2, none⟩) hlt1).trans k20
    have k31 := (hb2.cell (p := ⟨w.heap.size, 3, none⟩) hlt1).trans k30
    have hlt2 : w.heap.size < w2.heap.size := Nat.lt_of_lt_of_le hlt1 hb2.size
    have HB2 := Lib.hid (HB1.out.trans (hb2.mono HB1.out.size))
    clear hb2 k20 k30
    rcases hv : validB s with _ | _
    · have HM := Lib.hid (show matchB ⟨a, c, s, f⟩ = false by simp [matchB, hv])
      clear hv
      go_wp2
      go_ret
      exact ⟨ret_bool HM.out.symm, HB2.out⟩
    · have HM := Lib.hid (show matchB ⟨a, c, s, f⟩ = decide (s = f) by simp [matchB, H2.out, hv])
      clear hv
      go_wp2
      go_ret
      exact ⟨ret_bool ((str_eq s f).trans HM.out.symm), HB2.out⟩

/-- the tally of a debt, and whether there is one -/
def DebtOk (a c v : Int) : Prop := Two a c ∧ 1 ≤ v ∧ v ≤ 9999
def tallyOf (a c v : Int) : Tl := ⟨a, c, txt (Ta.ntext v.toNat), txt (Ta.ntext v.toNat)⟩
def noTl : Value := .agg #[.int .i64 0, .int .i64 0, .string ⟨#[]⟩, .string ⟨#[]⟩]
/-- four stores into a block of four cells -/
theorem Blk.set4 {w : World} {b : Nat} {ty : TypeId} {a0 a1 a2 a3 : Value} (h : Blk w b #[a0, a1, a2, a3] ty) (x0 x1 x2 x3 : Value) :
    Blk ((((w.setCell ⟨b, 0, none⟩ x0).setCell ⟨b, 1, none⟩ x1).setCell ⟨b, 2, none⟩ x2).setCell ⟨b, 3, none⟩ x3) b #[x0, x1, x2, x3] ty := by
  have := (((h.set 0 x0).set 1 x1).set 2 x2).set 3 x3
  simpa using this
theorem below_set4 {w0 w : World} {b B : Nat} (h : Below B w0 w) (hb : B ≤ b) (x0 x1 x2 x3 : Value) : Below B w0 ((((w.setCell ⟨b, 0, none⟩ x0).setCell ⟨b, 1, none⟩ x1).setCell ⟨b, 2, none⟩ x2).setCell ⟨b, 3, none⟩ x3) :=
  (((h.setCell (p := ⟨b, 0, none⟩) hb x0).setCell (p := ⟨b, 1, none⟩) hb x1).setCell (p := ⟨b, 2, none⟩) hb x2).setCell (p := ⟨b, 3, none⟩) hb x3
set_option maxRecDepth 100000 in
set_option maxHeartbeats 4000000 in
theorem tally_walk (a c v : Int) (w : World) : Calls Try.prog 25 #[.agg #[.int .i64 a, .int .i64 c, .int .i64 v]] w fun e w' =>
    ((DebtOk a c v ∧ e = .returned (.tuple #[(tallyOf a c v).val, .bool true])) ∨ (¬ DebtOk a c v ∧ e = .returned (.tuple #[noTl, .bool false]))) ∧ Below w.heap.size w w' := by
  obtain ⟨W, hW⟩ : ∃ W, (w.alloc (.cells #[.int .i64 a, .int .i64 c, .int .i64 v] 54)).alloc (.cells #[.int .i64 0, .int .i64 0, .string ⟨#[]⟩, .string ⟨#[]⟩] 33) = W := ⟨_, rfl⟩
  have hbd : Blk W w.heap.size #[.int .i64 a, .int .i64 c, .int .i64 v] 54 := by rw [← hW]; exact (Blk.new _ _ _).alloc _
  have hbt : Blk W (w.heap.size + 1) #[.int .i64 0, .int .i64 0, .string ⟨#[]⟩, .string ⟨#[]⟩] 33 := by
    rw [← hW]
    have := Blk.new (w.alloc (.cells #[.int .i64 a, .int .i64 c, .int .i64 v] 54)) #[.int .i64 0, .int .i64 0, .string ⟨#[]⟩, .string ⟨#[]⟩] 33
    simpa using this
  have HB := Lib.hid (show Below w.heap.size w W by rw [← hW]; exact ((Below.refl _ _).alloc (Nat.le_refl _) _).alloc (by simp) _)
  have k0 : W.cell? ⟨w.heap.size, 0, none⟩ = some (.int .i64 a) := hbd.cell rfl
  have k1 : W.cell? ⟨w.heap.size, 1, none⟩ = some (.int .i64 c) := hbd.cell rfl
  have hlt := hbd.lt
  have HD := Lib.hid hbd
  have HT := Lib.hid hbt
  have HW := Lib.hid hW
  clear hW hbd hbt
  go_enter Try.func25, Try.ntmps25
  go_wp2_with fail
  rw [HW.out]
  go_wp2_with fail
  refine (different_any a c W).mono ?_
  rintro e w1 ⟨rfl, hb1⟩
  have HB1 := Lib.hid (HB.out.trans (hb1.mono HB.out.size))
  have hD1 := HD.out.next hb1
  have hT1 := HT.out.next hb1
  have k20 : w1.cell? ⟨w.heap.size, 0, none⟩ = some (.int .i64 a) := hD1.cell rfl
  have k21 : w1.cell? ⟨w.heap.size, 1, none⟩ = some (.int .i64 c) := hD1.cell rfl
  have k22 : w1.cell? ⟨w.heap.size, 2, none⟩ = some (.int .i64 v) := hD1.cell rfl
  have t0 : w1.cell? ⟨w.heap.size + 1, 0, none⟩ = some (.int .i64 0) := hT1.cell rfl
  have t1 : w1.cell? ⟨w.heap.size + 1, 1, none⟩ = some (.int .i64 0) := hT1.cell rfl
  have t2 : w1.cell? ⟨w.heap.size + 1, 2, none⟩ = some (.string ⟨#[]⟩) := hT1.cell rfl
  have t3 : w1.cell? ⟨w.heap.size + 1, 3, none⟩ = some (.string ⟨#[]⟩) := hT1.cell rfl
  have f0 := hT1.free 0
  have f1 := hT1.free 1
  have f2 := hT1.free 2
  have f3 := hT1.free 3
  have HD1 := Lib.hid hD1
  have HT1 := Lib.hid hT1
  clear hb1 hD1 hT1 k0 k1
  by_cases h2 : Two a c
  · rw [twoB_yes h2]
    by_cases h1 : v < 1
    · have HN := Lib.hid (show ¬ DebtOk a c v by unfold DebtOk; omega)
      clear h2
      go_wp2_with fail
      have hf := HT1.out.set4 (.int .i64 0) (.int .i64 0) (.string ⟨#[]⟩) (.string ⟨#[]⟩)
      have g0 := hf.cell (j := 0) rfl
      have g1 := hf.cell (j := 1) rfl
      have g2 := hf.cell (j := 2) rfl
      have g3 := hf.cell (j := 3) rfl
      exact bodyPost_ret (v := .tuple #[noTl, .bool false]) (by simp [results, Try.results25, go_sem, noTl, tallyOf, Tl.val, g0, g1, g2, g3]) rfl ⟨.inr ⟨HN.out, rfl⟩, below_set4 HB1.out (by omega) _ _ _ _⟩
    · by_cases h9 : v ≤ 9999
      · have HN := Lib.hid (show DebtOk a c v from ⟨h2, by omega, h9⟩)
        obtain ⟨n, rfl⟩ := Int.eq_ofNat_of_zero_le (show 0 ≤ v by omega)
        clear h2
        go_wp2_with fail
        refine (NotchesOf_yes n (by omega) w1).mono ?_
        rintro e w2 ⟨rfl, hb2⟩
        have HB2 := Lib.hid (HB1.out.trans (hb2.mono HB1.out.size))
        have hD2 := HD1.out.next hb2
        have hT2 := HT1.out.next hb2
        clear k20 k21 k22 t0 t1 t2 t3 f0 f1 f2 f3
        have k20 : w2.cell? ⟨w.heap.size, 0, none⟩ = some (.int .i64 a) := hD2.cell rfl
        have k21 : w2.cell? ⟨w.heap.size, 1, none⟩ = some (.int .i64 c) := hD2.cell rfl
        have t0 : w2.cell? ⟨w.heap.size + 1, 0, none⟩ = some (.int .i64 0) := hT2.cell rfl
        have t1 : w2.cell? ⟨w.heap.size + 1, 1, none⟩ = some (.int .i64 0) := hT2.cell rfl
        have t2 : w2.cell? ⟨w.heap.size + 1, 2, none⟩ = some (.string ⟨#[]⟩) := hT2.cell rfl
        have t3 : w2.cell? ⟨w.heap.size + 1, 3, none⟩ = some (.string ⟨#[]⟩) := hT2.cell rfl
        have f0 := hT2.free 0
        have f1 := hT2.free 1
        have f2 := hT2.free 2
        have f3 := hT2.free 3
        have HT2 := Lib.hid hT2
        clear hb2 hD2 hT2
        obtain ⟨u, hu⟩ : ∃ u, txt (Ta.ntext n) = u := ⟨_, rfl⟩
        have HU := Lib.hid hu
        rw [hu]
        clear hu
        go_wp2_with fail
        have hf := HT2.out.set4 (.int .i64 a) (.int .i64 c) (.string u) (.string u)
        have g0 := hf.cell (j := 0) rfl
        have g1 := hf.cell (j := 1) rfl
        have g2 := hf.cell (j := 2) rfl
        have g3 := hf.cell (j := 3) rfl
        exact bodyPost_ret (v := .tuple #[(tallyOf a c n).val, .bool true]) (by simp [results, Try.results25, go_sem, tallyOf, Tl.val, HU.out, g0, g1, g2, g3]) rfl ⟨.inl ⟨HN.out, rfl⟩, below_set4 HB2.out (by omega) _ _ _ _⟩
      · have HN := Lib.hid (show ¬ DebtOk a c v by unfold DebtOk; omega)
        clear h2
        go_wp2_with fail
        refine (NotchesOf_no v (by omega) w1).mono ?_
        rintro e w2 ⟨rfl, rfl⟩
        go_wp2_with fail
        have hf := HT1.out.set4 (.int .i64 0) (.int .i64 0) (.string ⟨#[]⟩) (.string ⟨#[]⟩)
        have g0 := hf.cell (j := 0) rfl
        have g1 := hf.cell (j := 1) rfl
        have g2 := hf.cell (j := 2) rfl
        have g3 := hf.cell (j := 3) rfl
        exact bodyPost_ret (v := .tuple #[noTl, .bool false]) (by simp [results, Try.results25, go_sem, noTl, tallyOf, Tl.val, g0, g1, g2, g3]) rfl ⟨.inr ⟨HN.out, rfl⟩, below_set4 HB1.out (by omega) _ _ _ _⟩
  · rw [twoB_no h2]
    have HN := Lib.hid (show ¬ DebtOk a c v by unfold DebtOk; exact fun h => h2 h.1)
    clear h2
    go_wp2_with fail
    have hf := HT1.out.set4 (.int .i64 0) (.int .i64 0) (.string ⟨#[]⟩) (.string ⟨#[]⟩)
    have g0 := hf.cell (j := 0) rfl
    have g1 := hf.cell (j := 1) rfl
    have g2 := hf.cell (j := 2) rfl
    have g3 := hf.cell (j := 3) rfl
    exact bodyPost_ret (v := .tuple #[noTl, .bool false]) (by simp [results, Try.results25, go_sem, noTl, tallyOf, Tl.val, g0, g1, g2, g3]) rfl ⟨.inr ⟨HN.out, rfl⟩, below_set4 HB1.out (by omega) _ _ _ _⟩
end Go.Proofs.Ytogplbnabffcfaa
