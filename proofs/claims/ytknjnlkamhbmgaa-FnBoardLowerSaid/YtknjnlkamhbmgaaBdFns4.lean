/-
  Taking and doubling boards: what the program's functions give back, for all lists.
-/
import Derived.Test.YtknjnlkamhbmgaaBdFns3
namespace Go.Proofs.Ytknjnlkamhbmgaa
open Go.RowKit

theorem BoardLay_any (A B : Option Addr) (n c m d : Nat) (xs ys : List Int) (w : World) (hx : Ints w w.heap.size A n xs) (hy : Ints w w.heap.size B m ys) :
    Calls Try.prog 44 #[.slice A n c, .slice B m d] w (BoardPost w (layOK xs ys) (Bd.addL xs ys)) := by
  rcases hokx : Bd.okB xs with _ | _
  · have hv : layOK xs ys = false := by simp [layOK, hokx]
    rw [hv]
    exact BoardLay_no A B n c m d xs ys w hx hy (.inl hokx)
  · rcases hoky : Bd.okB ys with _ | _
    · have hv : layOK xs ys = false := by simp [layOK, hoky]
      rw [hv]
      exact BoardLay_no A B n c m d xs ys w hx hy (.inr hoky)
    · have hv : layOK xs ys = fitB (Bd.addL xs ys) := by simp [layOK, hokx, hoky]
      rw [hv]
      exact BoardLay_yes A B n c m d xs ys w hx hy hokx hoky

set_option maxHeartbeats 400000 in
theorem BoardDouble_any (A : Option Addr) (n c : Nat) (xs : List Int) (w : World) (hx : Ints w w.heap.size A n xs) :
    Calls Try.prog 42 #[.slice A n c] w (BoardPost w (layOK xs xs) (Bd.addL xs xs)) := by
  have hx' := Lib.hid hx
  clear hx
  go_enter Try.func42, Try.ntmps42
  go_wp2_with (go_at_call 44; refine (BoardLay_any A A n c n c xs xs _ hx'.out hx'.out).mono ?_; rintro e w2 ⟨⟨A2, n2, c2, rfl, hown⟩, hb2⟩)
  go_ret2
  exact ⟨⟨_, _, _, rfl, hown⟩, hb2⟩


set_option maxRecDepth 100000 in
set_option maxHeartbeats 1000000 in
theorem BoardTake_no (A B : Option Addr) (n c m d : Nat) (xs ys : List Int) (w : World) (hx : Ints w w.heap.size A n xs) (hy : Ints w w.heap.size B m ys) (h : Bd.okB xs = false ∨ Bd.okB ys = false) :
    Calls Try.prog 29 #[.slice A n c, .slice B m d] w (BoardPost w false []) := by
  have hx' := Lib.hid hx
  have hy' := Lib.hid hy
  rcases hokx : Bd.okB xs with _ | _
  · have HX := Lib.hid hokx
    rcases hoky : Bd.okB ys with _ | _
    · have HY := Lib.hid hoky
      clear hokx hoky hx hy h
      go_enter Try.func29, Try.ntmps29
      go_wp2_with fail
      refine (layOut_no hx'.out HX.out).mono ?_
      rintro e w1 ⟨rfl, hb1⟩
      have hy2 := Lib.hid ((hy'.out.next hb1).alloc (Nat.le_refl _) (.cells (AV z10) 43))
      go_wp2_with (refine wpList_store_ten rfl rfl _ _ rfl w1.heap.size rfl 43 (AV z10) z10 rfl (heap_alloc_new w1 _) rfl rfl _ (setRow_alloc w1 _ _ _) ?_)
      refine (layOut_no (hy2.out.mono (by simp)) HY.out).mono ?_
      rintro e w2 ⟨rfl, hb2⟩
      go_wp2_with (refine wpList_store_ten rfl rfl _ _ rfl w2.heap.size rfl 43 (AV z10) z10 rfl (heap_alloc_new w2 _) rfl rfl _ (setRow_alloc w2 _ _ _) ?_)
      go_ret2
      have hs2 := hb2.size
      exact ⟨⟨_, _, _, rfl, Own.nil _ _⟩, (((hb1.alloc hb1.size _).trans (hb2.mono (by have := hb1.size; simp; omega))).alloc (by have := hb1.size; simp at hs2; omega) _)⟩
    · have HY := Lib.hid hoky
      have HLY := Lib.hid ((Bd.okB_iff ys).1 hoky)
      clear hokx hoky hx hy h
      go_enter Try.func29, Try.ntmps29
      go_wp2_with fail
      refine (layOut_no hx'.out HX.out).mono ?_
      rintro e w1 ⟨rfl, hb1⟩
      have hy2 := Lib.hid ((hy'.out.next hb1).alloc (Nat.le_refl _) (.cells (AV z10) 43))
      go_wp2_with (refine wpList_store_ten rfl rfl _ _ rfl w1.heap.size rfl 43 (AV z10) z10 rfl (heap_alloc_new w1 _) rfl rfl _ (setRow_alloc w1 _ _ _) ?_)
      refine (layOut_yes (hy2.out.mono (by simp)) HY.out).mono ?_
      rintro e w2 ⟨rfl, hb2⟩
      go_wp2_with (refine wpList_store_ten rfl rfl _ _ rfl w2.heap.size rfl 43 (AV z10) ys rfl (heap_alloc_new w2 _) rfl HLY.out.1 _ (setRow_alloc w2 _ _ _) ?_)
      go_ret2
      have hs2 := hb2.size
      exact ⟨⟨_, _, _, rfl, Own.nil _ _⟩, (((hb1.alloc hb1.size _).trans (hb2.mono (by have := hb1.size; simp; omega))).alloc (by have := hb1.size; simp at hs2; omega) _)⟩
  · have HX := Lib.hid hokx
    have HLX := Lib.hid ((Bd.okB_iff xs).1 hokx)
    rcases hoky : Bd.okB ys with _ | _
    · have HY := Lib.hid hoky
      clear hokx hoky hx hy h
      go_enter Try.func29, Try.ntmps29
      go_wp2_with fail
      refine (layOut_yes hx'.out HX.out).mono ?_
      rintro e w1 ⟨rfl, hb1⟩
      have hy2 := Lib.hid ((hy'.out.next hb1).alloc (Nat.le_refl _) (.cells (AV xs) 43))
      go_wp2_with (refine wpList_store_ten rfl rfl _ _ rfl w1.heap.size rfl 43 (AV z10) xs rfl (heap_alloc_new w1 _) rfl HLX.out.1 _ (setRow_alloc w1 _ _ _) ?_)
      refine (layOut_no (hy2.out.mono (by simp)) HY.out).mono ?_
      rintro e w2 ⟨rfl, hb2⟩
      go_wp2_with (refine wpList_store_ten rfl rfl _ _ rfl w2.heap.size rfl 43 (AV z10) z10 rfl (heap_alloc_new w2 _) rfl rfl _ (setRow_alloc w2 _ _ _) ?_)
      go_ret2
      have hs2 := hb2.size
      exact ⟨⟨_, _, _, rfl, Own.nil _ _⟩, (((hb1.alloc hb1.size _).trans (hb2.mono (by have := hb1.size; simp; omega))).alloc (by have := hb1.size; simp at hs2; omega) _)⟩
    · rw [hokx, hoky] at h
      simp at h

theorem ten_list {xs : List Int} (h : xs.length = 10) : ∃ x0 x1 x2 x3 x4 x5 x6 x7 x8 x9, xs = [x0, x1, x2, x3, x4, x5, x6, x7, x8, x9] := by
  match xs, h with
  | [x0, x1, x2, x3, x4, x5, x6, x7, x8, x9], _ => exact ⟨x0, x1, x2, x3, x4, x5, x6, x7, x8, x9, rfl⟩
theorem value_ten (x0 x1 x2 x3 x4 x5 x6 x7 x8 x9 : Int) (hx : ∀ x ∈ ([x0, x1, x2, x3, x4, x5, x6, x7, x8, x9] : List Int), 0 ≤ x ∧ x ≤ 20) (w : World) :
    Calls Try.prog 58 #[.agg #[.int .i64 x0, .int .i64 x1, .int .i64 x2, .int .i64 x3, .int .i64 x4, .int .i64 x5, .int .i64 x6, .int .i64 x7, .int .i64 x8, .int .i64 x9]] w fun e w' => e = .returned (.int .i64 (Bd.V true [x0, x1, x2, x3, x4, x5, x6, x7, x8, x9])) ∧ w.alloc (.cells #[.int .i64 x0, .int .i64 x1, .int .i64 x2, .int .i64 x3, .int .i64 x4, .int .i64 x5, .int .i64 x6, .int .i64 x7, .int .i64 x8, .int .i64 x9] 43) = w' := value_any [x0, x1, x2, x3, x4, x5, x6, x7, x8, x9] rfl hx w

set_option maxRecDepth 100000 in
set_option maxHeartbeats 2000000 in
theorem BoardTake_yes (A B : Option Addr) (n c m d : Nat) (xs ys : List Int) (w : World) (hx : Ints w w.heap.size A n xs) (hy : Ints w w.heap.size B m ys) (hokx : Bd.okB xs = true) (hoky : Bd.okB ys = true) :
    Calls Try.prog 29 #[.slice A n c, .slice B m d] w (BoardPost w (okV (Bd.V true xs - Bd.V true ys)) (takeL xs ys)) := by
  have hlx := (Bd.okB_iff xs).1 hokx
  have hly := (Bd.okB_iff ys).1 hoky
  obtain ⟨x0, x1, x2, x3, x4, x5, x6, x7, x8, x9, rfl⟩ := ten_list hlx.1
  obtain ⟨y0, y1, y2, y3, y4, y5, y6, y7, y8, y9, rfl⟩ := ten_list hly.1
  have hx' := Lib.hid hx
  have hy' := Lib.hid hy
  have HX := Lib.hid hokx
  have HY := Lib.hid hoky
  have HLX := Lib.hid hlx.2
  have HLY := Lib.hid hly.2
  have vx := Bd.V_take_range hlx.2 10 (by omega) (by simp)
  have vy := Bd.V_take_range hly.2 10 (by omega) (by simp)
  rw [List.take_of_length_le (by simp)] at vx vy
  have s1 : IntKind.i64.wrap (Bd.V true [x0, x1, x2, x3, x4, x5, x6, x7, x8, x9] - Bd.V true [y0, y1, y2, y3, y4, y5, y6, y7, y8, y9]) = Bd.V true [x0, x1, x2, x3, x4, x5, x6, x7, x8, x9] - Bd.V true [y0, y1, y2, y3, y4, y5, y6, y7, y8, y9] := IntWalk.i64_in _ (by omega)
  have S1 := Lib.hid s1
  clear hokx hoky hx hy hlx hly vx vy s1
  go_enter Try.func29, Try.ntmps29
  go_wp2_with fail
  refine (layOut_yes hx'.out HX.out).mono ?_
  rintro e w1 ⟨rfl, hb1⟩
  have hy2 := Lib.hid ((hy'.out.next hb1).alloc (Nat.le_refl _) (.cells #[.int .i64 x0, .int .i64 x1, .int .i64 x2, .int .i64 x3, .int .i64 x4, .int .i64 x5, .int .i64 x6, .int .i64 x7, .int .i64 x8, .int .i64 x9] 43))
  go_wp2_with (refine wpList_store_ten rfl rfl _ _ rfl w1.heap.size rfl 43 (AV z10) [x0, x1, x2, x3, x4, x5, x6, x7, x8, x9] rfl (heap_alloc_new w1 _) rfl rfl (w1.alloc (.cells #[.int .i64 x0, .int .i64 x1, .int .i64 x2, .int .i64 x3, .int .i64 x4, .int .i64 x5, .int .i64 x6, .int .i64 x7, .int .i64 x8, .int .i64 x9] 43)) (setRow_alloc w1 _ _ _) ?_)
  refine (layOut_yes (hy2.out.mono (by simp)) HY.out).mono ?_
  rintro e w2 ⟨rfl, hb2⟩
  go_wp2_with (refine wpList_store_ten rfl rfl _ _ rfl w2.heap.size rfl 43 (AV z10) [y0, y1, y2, y3, y4, y5, y6, y7, y8, y9] rfl (heap_alloc_new w2 _) rfl rfl (w2.alloc (.cells #[.int .i64 y0, .int .i64 y1, .int .i64 y2, .int .i64 y3, .int .i64 y4, .int .i64 y5, .int .i64 y6, .int .i64 y7, .int .i64 y8, .int .i64 y9] 43)) (setRow_alloc w2 _ _ _) ?_)
  have hs2 := hb2.size
  have hlt : w1.heap.size < w2.heap.size := by simp at hs2; omega
  have hblk : w2.heap[w1.heap.size]? = some (.cells #[.int .i64 x0, .int .i64 x1, .int .i64 x2, .int .i64 x3, .int .i64 x4, .int .i64 x5, .int .i64 x6, .int .i64 x7, .int .i64 x8, .int .i64 x9] 43 (0, 0)) := (hb2.block _ (by simp)).trans (heap_alloc_new w1 _)
  have a0 : w2.cell? ⟨w1.heap.size, 0, none⟩ = some (.int .i64 x0) := (cell_of_row w2 _ 0 _ _ _ hblk).trans rfl
  have a1 : w2.cell? ⟨w1.heap.size, 1, none⟩ = some (.int .i64 x1) := (cell_of_row w2 _ 1 _ _ _ hblk).trans rfl
  have a2 : w2.cell? ⟨w1.heap.size, 2, none⟩ = some (.int .i64 x2) := (cell_of_row w2 _ 2 _ _ _ hblk).trans rfl
  have a3 : w2.cell? ⟨w1.heap.size, 3, none⟩ = some (.int .i64 x3) := (cell_of_row w2 _ 3 _ _ _ hblk).trans rfl
  have a4 : w2.cell? ⟨w1.heap.size, 4, none⟩ = some (.int .i64 x4) := (cell_of_row w2 _ 4 _ _ _ hblk).trans rfl
  have a5 : w2.cell? ⟨w1.heap.size, 5, none⟩ = some (.int .i64 x5) := (cell_of_row w2 _ 5 _ _ _ hblk).trans rfl
  have a6 : w2.cell? ⟨w1.heap.size, 6, none⟩ = some (.int .i64 x6) := (cell_of_row w2 _ 6 _ _ _ hblk).trans rfl
  have a7 : w2.cell? ⟨w1.heap.size, 7, none⟩ = some (.int .i64 x7) := (cell_of_row w2 _ 7 _ _ _ hblk).trans rfl
  have a8 : w2.cell? ⟨w1.heap.size, 8, none⟩ = some (.int .i64 x8) := (cell_of_row w2 _ 8 _ _ _ hblk).trans rfl
  have a9 : w2.cell? ⟨w1.heap.size, 9, none⟩ = some (.int .i64 x9) := (cell_of_row w2 _ 9 _ _ _ hblk).trans rfl
  have HB := Lib.hid (((hb1.alloc hb1.size (.cells #[.int .i64 x0, .int .i64 x1, .int .i64 x2, .int .i64 x3, .int .i64 x4, .int .i64 x5, .int .i64 x6, .int .i64 x7, .int .i64 x8, .int .i64 x9] 43)).trans (hb2.mono (by have := hb1.size; simp; omega))))
  have HSZ := Lib.hid hb1.size
  clear hblk hs2
  have s1 := S1.out
  go_region_with (first | (go_at_call 58; refine (value_ten _ _ _ _ _ _ _ _ _ _ (by first | exact HLX.out | exact HLY.out) _).mono ?_; rintro e w' ⟨rfl, rfl⟩) | (go_at_call 31; refine (BoardOf_any _ _).mono ?_; rintro e w3 ⟨⟨A2, n2, c2, rfl, hown⟩, hb3⟩))
  all_goals
    go_wp2
    go_ret2
    have hs1 := HB.out.size
    refine ⟨⟨_, _, _, rfl, hown.mono (by simp; omega)⟩, Below.trans ?_ (hb3.mono (by simp; omega))⟩
    repeat' (first | exact HB.out | refine Below.drew ?_ | refine Below.alloc ?_ (by first | omega | (simp; omega)) _)

theorem BoardTake_any (A B : Option Addr) (n c m d : Nat) (xs ys : List Int) (w : World) (hx : Ints w w.heap.size A n xs) (hy : Ints w w.heap.size B m ys) :
    Calls Try.prog 29 #[.slice A n c, .slice B m d] w (BoardPost w (takeOK xs ys) (takeL xs ys)) := by
  rcases hokx : Bd.okB xs with _ | _
  · have hv : takeOK xs ys = false := by simp [takeOK, hokx]
    rw [hv]
    exact BoardTake_no A B n c m d xs ys w hx hy (.inl hokx)
  · rcases hoky : Bd.okB ys with _ | _
    · have hv : takeOK xs ys = false := by simp [takeOK, hoky]
      rw [hv]
      exact BoardTake_no A B n c m d xs ys w hx hy (.inr hoky)
    · have hv : takeOK xs ys = okV (Bd.V true xs - Bd.V true ys) := by simp [takeOK, hokx, hoky]
      rw [hv]
      exact BoardTake_yes A B n c m d xs ys w hx hy hokx hoky
end Go.Proofs.Ytknjnlkamhbmgaa
