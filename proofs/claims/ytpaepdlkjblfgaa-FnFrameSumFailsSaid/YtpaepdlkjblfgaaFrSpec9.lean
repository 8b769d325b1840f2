/-
  FrameOf of the reference.
-/
import Derived.Test.YtpaepdlkjblfgaaFrDraw
import Derived.Test.YtpaepdlkjblfgaaFrSpec8
namespace Go.Proofs.Ytpaepdlkjblfgaa
open Go.RowKit

theorem quo_next (v : Int) (k : Nat) : quoK v (k + 1) = quoK v k / 10 := rfl
theorem HiL_next {n k : Nat} (v : Int) (h : k < n) : HiL ((digitsOf n v).take (k + 1)) = HiL ((digitsOf n v).take k) ++ [quoK v k % 10 / 5] := by
  rw [take_next (digitsOf_get v h)]; simp [HiL]
theorem LoL_next {n k : Nat} (v : Int) (h : k < n) : LoL ((digitsOf n v).take (k + 1)) = LoL ((digitsOf n v).take k) ++ [quoK v k % 5] := by
  rw [take_next (digitsOf_get v h)]; simp [LoL]
theorem below_of_grown {w w' : World} (h : w.grownBy w' none) : Below w.heap.size w w' := ⟨h.os, h.tape, h.output, h.size, fun k hk => h.block k hk (by simp)⟩
set_option maxRecDepth 100000 in
set_option maxHeartbeats 4000000 in
theorem specFrameOf_yes (n : Nat) (v : Int) (w : World) (h1 : 1 ≤ n) (h6 : n ≤ 6) (v0 : 0 ≤ v) (v1 : v < Fr.ten n) :
    Calls Try.prog 22 #[.int .i64 (n : Int), .int .i64 v] w (FrPair w true (digitsOf n v)) := by
  obtain ⟨W, hW⟩ : ∃ W, (((w.alloc (.cells #[.slice none 0 0, .slice none 0 0] 25)).alloc (.cells #[] 3)).alloc (.cells #[] 3)).alloc (.cells #[.slice (some ⟨w.heap.size + 1, 0, none⟩) 0 0, .slice (some ⟨w.heap.size + 1 + 1, 0, none⟩) 0 0] 25) = W := ⟨_, rfl⟩
  have hsz : W.heap.size = w.heap.size + 1 + 1 + 1 + 1 := by rw [← hW]; simp
  have hz0 : Box W w.heap.size (.slice none 0 0) (.slice none 0 0) := by
    unfold Box; rw [← hW, heap_alloc_if, if_neg (by simp; omega), heap_alloc_if, if_neg (by simp; omega), heap_alloc_if, if_neg (by simp), heap_alloc_if, if_pos rfl]
  have hx0 : Box W (w.heap.size + 1 + 1 + 1) (.slice (some ⟨w.heap.size + 1, 0, none⟩) 0 0) (.slice (some ⟨w.heap.size + 1 + 1, 0, none⟩) 0 0) := by
    unfold Box; rw [← hW, heap_alloc_if, if_pos (by simp)]
  have ho1 : Own W (w.heap.size + 1) (some ⟨w.heap.size + 1, 0, none⟩) 0 0 [] := by
    refine own_lit_at W [] _ 0 _ rfl (by omega) (Nat.le_refl _) ?_
    rw [← hW, heap_alloc_if, if_neg (by simp), heap_alloc_if, if_neg (by simp), heap_alloc_if, if_pos (by simp)]; rfl
  have ho2 : Own W (w.heap.size + 1) (some ⟨w.heap.size + 1 + 1, 0, none⟩) 0 0 [] := by
    refine own_lit_at W [] _ 0 _ rfl (by omega) (by omega) ?_
    rw [← hW, heap_alloc_if, if_neg (by simp), heap_alloc_if, if_pos (by simp)]; rfl
  have hg0 : w.grownBy W none := by
    rw [← hW]; exact (((World.grownBy_alloc _ _ _).trans (World.grownBy_alloc _ _ _)).trans (World.grownBy_alloc _ _ _)).trans (World.grownBy_alloc _ _ _)
  have HW := Lib.hid hW
  have HZ := Lib.hid hz0
  have HX := Lib.hid hx0
  have HO1 := Lib.hid ho1
  have HO2 := Lib.hid ho2
  have HG := Lib.hid hg0
  obtain ⟨T, hT⟩ : ∃ T, Fr.ten n = T := ⟨_, rfl⟩
  obtain ⟨T0, T1⟩ := ten_bd n h6
  rw [hT] at v1 T0 T1
  have HT := Lib.hid hT
  clear hW hz0 hx0 ho1 ho2 hg0 hT
  go_enter Try.func22, Try.ntmps22
  go_wp2_with fail
  refine (l6In_yes (by omega) (by omega) _).mono ?_
  rintro e w' ⟨rfl, rfl⟩
  go_wp2_with fail
  refine (l5Ten_any n _ h6).mono ?_
  rw [HT.out]
  rintro e w' ⟨rfl, rfl⟩
  go_wp2_with fail
  refine (l6In_yes (by omega) (by omega) _).mono ?_
  rintro e w' ⟨rfl, rfl⟩
  go_wp2_with fail
  rw [HW.out]
  go_loopw [1, 7] (fun uv kv wr => ∃ (k : Nat) (A A' : Option Addr) (c c' : Nat) (u : Int), kv = .int .i64 (k : Int) ∧ uv = .int .i64 u ∧ u = quoK v k ∧ k ≤ n ∧ Box wr (w.heap.size + 1 + 1 + 1) (.slice A k c) (.slice A' k c') ∧ Box wr w.heap.size (.slice none 0 0) (.slice none 0 0) ∧
    Own wr (w.heap.size + 1) A k c (HiL ((digitsOf n v).take k)) ∧ Own wr (w.heap.size + 1) A' k c' (LoL ((digitsOf n v).take k)) ∧ Apart (.slice A k c) (.slice A' k c') ∧ Apart (.slice A' k c') (.slice A k c) ∧ (∀ j, (Value.slice A k c).ownBlock = some j → j ≠ w.heap.size + 1 + 1 + 1) ∧ (∀ j, (Value.slice A' k c').ownBlock = some j → j ≠ w.heap.size + 1 + 1 + 1) ∧ w.grownBy wr none ∧ W.heap.size ≤ wr.heap.size) (fun _ kv _ => n - (intOf kv).toNat)
  case atStart => exact ⟨0, _, _, _, _, _, rfl, rfl, rfl, by omega, HX.out, HZ.out, HO1.out, HO2.out, apart_of (by omega), apart_of (by omega), by rintro j e; have := blk_eq e; omega, by rintro j e; have := blk_eq e; omega, HG.out, Nat.le_refl _⟩
  case round =>
    clear HX HZ HO1 HO2 HG
    obtain ⟨k, A, A', c, c', u, rfl, rfl, hu, hk, hbx, hbz, hown1, hown2, hap, hap', hne1, hne2, hg, hsr⟩ := hrel
    obtain ⟨u0, u1⟩ := quoK_in v0 k
    rw [← hu] at u0 u1
    have HU := Lib.hid hu
    have HX := Lib.hid hbx
    have HZ := Lib.hid hbz
    have HO1 := Lib.hid hown1
    have HO2 := Lib.hid hown2
    have HA1 := Lib.hid hap
    have HA2 := Lib.hid hap'
    have HN1 := Lib.hid hne1
    have HN2 := Lib.hid hne2
    have HG := Lib.hid hg
    clear hbx hbz hown1 hown2 hap hap' hne1 hne2 hg hu
    by_cases hlk : k < n
    · have hx0 := HX.out.fst
      have hx1 := HX.out.snd
      have hfx0 := HX.out.free 0
      have hfx1 := HX.out.free 1
      have hxl := HX.out.lt
      go_wp2_with (first | (at_builtin; refine wpList_app2 rfl (.tmp 29) (.tmp 33) rfl rfl HO1.out [u % 10 / 5] 1 rfl _ _ rfl rfl _ rfl (by omega) (by omega) ?_; intro A5 c5 w5 ho5 hg5 hk5; have hz5 := hg5.size; have HX5 := Lib.hid (HX.out.grown hg5 (fun e => HN1.out _ e.symm rfl)); have x50 := HX5.out.fst; have x51 := HX5.out.snd; have g50 := HX5.out.free 0; have g51 := HX5.out.free 1; have HO5 := Lib.hid ho5; have HG5 := Lib.hid hg5; have HK5 := Lib.hid hk5; have HO25 := Lib.hid ((HO2.out.kept hg5 HA1.out).kept (grown_set (w.heap.size + 1 + 1 + 1) 0 (.slice A5 (k + 1) c5)) (fun j hj e => HN2.out j hj (by injection e with e; exact e.symm))); have hz5' : (w5.setCell ⟨w.heap.size + 1 + 1 + 1, 0, none⟩ (.slice A5 (k + 1) c5)).heap.size = w5.heap.size := size_setCell_ _ _ _; have HZ5 := Lib.hid hz5'; clear ho5 hg5 hk5 hz5') | (at_builtin; refine wpList_app2 rfl (.tmp 37) (.tmp 40) rfl rfl HO25.out [u % 5] 1 rfl _ _ rfl HZ5.out.symm _ rfl (by omega) (by rw [HZ5.out]; omega) ?_; intro A6 c6 w6 ho6 hg6 hk6; rw [HZ5.out] at hk6; have hz6 := hg6.size; rw [HZ5.out] at hz6; have HX6 := Lib.hid ((show Box (w5.setCell ⟨w.heap.size + 1 + 1 + 1, 0, none⟩ (.slice A5 (k + 1) c5)) (w.heap.size + 1 + 1 + 1) (.slice A5 (k + 1) c5) (.slice A' k c') by have := heap_setCell_same w5 (w.heap.size + 1 + 1 + 1) 0 _ _ (.slice A5 (k + 1) c5) HX5.out; simpa [Box] using this).grown hg6 (fun e => HN2.out _ e.symm rfl)); have x60 := HX6.out.fst; have x61 := HX6.out.snd; have g60 := HX6.out.free 0; have g61 := HX6.out.free 1; have HO6 := Lib.hid ho6; have HG6 := Lib.hid hg6; have HK6 := Lib.hid hk6; clear ho6 hg6 hk6))
      go_roundw
      case rel =>
        have b1 := HO1.out.blk
        have b2 := HO2.out.blk
        have b5 := HO5.out.blk
        have ap5 := apart_new HK5.out HA1.out HA2.out (fun j hj => (b2 j hj).2)
        have ap6 := apart_new HK6.out ap5.2 ap5.1 (fun j hj => (b5 j hj).2)
        have n5 : ∀ j, (Value.slice A5 (k + 1) c5).ownBlock = some j → j ≠ w.heap.size + 1 + 1 + 1 := fun j hj => (HK5.out j hj).elim (fun h => HN1.out j h) (fun h => by omega)
        have n6 : ∀ j, (Value.slice A6 (k + 1) c6).ownBlock = some j → j ≠ w.heap.size + 1 + 1 + 1 := fun j hj => (HK6.out j hj).elim (fun h => HN2.out j h) (fun h => by omega)
        have o5 := ((HO5.out.kept (grown_set (w.heap.size + 1 + 1 + 1) 0 (.slice A5 (k + 1) c5)) (fun j hj e => n5 j hj (by injection e with e; exact e.symm))).kept HG6.out ap5.2).kept (grown_set (w.heap.size + 1 + 1 + 1) 1 (.slice A6 (k + 1) c6)) (fun j hj e => n5 j hj (by injection e with e; exact e.symm))
        have o6 := HO6.out.kept (grown_set (w.heap.size + 1 + 1 + 1) 1 (.slice A6 (k + 1) c6)) (fun j hj e => n6 j hj (by injection e with e; exact e.symm))
        have bx6 : Box (w6.setCell ⟨w.heap.size + 1 + 1 + 1, 1, none⟩ (.slice A6 (k + 1) c6)) (w.heap.size + 1 + 1 + 1) (.slice A5 (k + 1) c5) (.slice A6 (k + 1) c6) := by have := heap_setCell_same w6 (w.heap.size + 1 + 1 + 1) 1 _ _ (.slice A6 (k + 1) c6) HX6.out; simpa [Box] using this
        have gall := ((HG5.out.row_in (N := w.heap.size) (fun j hj => by have := (b1 j hj).1; omega)).trans ((grown_set (w.heap.size + 1 + 1 + 1) 0 (.slice A5 (k + 1) c5)).row_in' (N := w.heap.size) (by omega))).trans ((HG6.out.row_in (N := w.heap.size) (fun j hj => by have := (b2 j hj).1; omega)).trans ((grown_set (w.heap.size + 1 + 1 + 1) 1 (.slice A6 (k + 1) c6)).row_in' (N := w.heap.size) (by omega)))
        exact ⟨k + 1, A5, A6, c5, c6, _, by go_num, rfl, by rw [quo_next, ← HU.out], by omega, bx6, gall.box_ HZ.out, by rw [HiL_next v hlk, ← HU.out]; exact o5, by rw [LoL_next v hlk, ← HU.out]; exact o6, ap6.2, ap6.1, n5, n6, gall.on_ HG.out, by have := gall.2.2.2.1; omega⟩
      case measure => simp [intOf]; omega
    · obtain rfl : n = k := by omega
      have hx0 := HX.out.fst
      have hx1 := HX.out.snd
      have hxl := HX.out.lt
      have hz0 := HZ.out.fst
      have hz1 := HZ.out.snd
      have hf0 := HZ.out.free 0
      have hf1 := HZ.out.free 1
      have hzl := HZ.out.lt
      have hb3 := HZ.out.over (.slice A n c) (.slice A' n c')
      have HC3 := Lib.hid hb3.fst
      have HD3 := Lib.hid hb3.snd
      clear hb3
      go_wp2
      have hall : (digitsOf n v).take n = digitsOf n v := List.take_of_length_le (by rw [digitsOf_length]; omega)
      have o1 := HO1.out
      have o2 := HO2.out
      rw [hall] at o1 o2
      refine bodyPost_ret (v := .tuple #[.agg #[.slice A n c, .slice A' n c'], .bool true]) (by simp [results, Try.results22, go_sem, HC3.out, HD3.out]) rfl ⟨⟨_, rfl, ?_⟩, below_over (below_of_grown HG.out) (Nat.le_refl _) _ _⟩
      rw [if_pos rfl]
      refine (FrOwn.over (B := w.heap.size + 1) ⟨A, c, A', c', by rw [digitsOf_length], ?_, ?_, ?_, ?_⟩ (by omega) _ _).mono (by omega)
      · rw [digitsOf_length]; exact o1
      · rw [digitsOf_length]; exact o2
      · rw [digitsOf_length]; exact HA1.out
      · rw [digitsOf_length]; exact HA2.out
set_option maxRecDepth 100000 in
set_option maxHeartbeats 1000000 in
theorem specFrameOf_no (n v : Int) (w : World) (h : okOf n v = false) : Calls Try.prog 22 #[.int .i64 n, .int .i64 v] w (FrPair w false []) := by
  have HZ := Lib.hid (Box.new w (.slice none 0 0) (.slice none 0 0))
  have hz := HZ.out.over (.slice none 0 0) (.slice none 0 0)
  have HC3 := Lib.hid hz.fst
  have HD3 := Lib.hid hz.snd
  have HB := Lib.hid ((Below.refl w.heap.size w).alloc (Nat.le_refl _) (.cells #[.slice none 0 0, .slice none 0 0] 25))
  clear hz
  by_cases hn : 1 ≤ n ∧ n ≤ 6
  · obtain ⟨n1, n6⟩ := hn
    obtain ⟨m, rfl⟩ := Int.eq_ofNat_of_zero_le (show 0 ≤ n by omega)
    have hv : v < 0 ∨ Fr.ten m ≤ v := by
      unfold okOf at h
      rw [Int.toNat_natCast, decide_eq_true n1, decide_eq_true n6] at h
      simp only [Bool.true_and, Bool.and_eq_false_iff, decide_eq_false_iff_not] at h
      omega
    obtain ⟨T, hT⟩ : ∃ T, Fr.ten m = T := ⟨_, rfl⟩
    obtain ⟨T0, T1⟩ := ten_bd m (by omega)
    rw [hT] at hv T0 T1
    have HT := Lib.hid hT
    clear hT h
    go_enter Try.func22, Try.ntmps22
    go_wp2_with fail
    refine (l6In_yes (by omega) (by omega) _).mono ?_
    rintro e w' ⟨rfl, rfl⟩
    go_wp2_with fail
    refine (l5Ten_any m _ (by omega)).mono ?_
    rw [HT.out]
    rintro e w' ⟨rfl, rfl⟩
    go_wp2_with fail
    refine (l6In_no (by omega) _).mono ?_
    rintro e w' ⟨rfl, rfl⟩
    go_wp2
    exact bodyPost_ret (v := .tuple #[.agg #[.slice none 0 0, .slice none 0 0], .bool false]) (by simp [results, Try.results22, go_sem]) rfl (FrPair.no HB.out)
  · clear h
    go_enter Try.func22, Try.ntmps22
    go_wp2_with fail
    refine (l6In_no (by omega) _).mono ?_
    rintro e w' ⟨rfl, rfl⟩
    go_wp2
    exact bodyPost_ret (v := .tuple #[.agg #[.slice none 0 0, .slice none 0 0], .bool false]) (by simp [results, Try.results22, go_sem]) rfl (FrPair.no HB.out)
end Go.Proofs.Ytpaepdlkjblfgaa
