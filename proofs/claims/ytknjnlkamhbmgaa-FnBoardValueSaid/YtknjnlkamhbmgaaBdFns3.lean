/-
  Lowering, laying together, taking: what the program's functions give back, for all lists and places.
-/
import Derived.Test.YtknjnlkamhbmgaaBdFns2
namespace Go.Proofs.Ytknjnlkamhbmgaa
open Go.RowKit

set_option maxRecDepth 100000 in
set_option maxHeartbeats 1000000 in
theorem BoardLower_any (A : Option Addr) (n c : Nat) (xs : List Int) (q : Int) (w : World) (hx : Ints w w.heap.size A n xs) :
    Calls Try.prog 38 #[.slice A n c, .int .i64 q] w (BoardPost w (lowerOK xs q) (Bd.lowerL xs q.toNat)) := by
  have hx' := Lib.hid hx
  rcases hok : Bd.okB xs with _ | _
  · have hv : lowerOK xs q = false := by simp [lowerOK, hok]
    rw [hv]
    have HOK := Lib.hid hok
    clear hv hok hx
    go_enter Try.func38, Try.ntmps38
    go_wp2_with (first
      | (go_at_call 57; refine (layOut_no hx'.out HOK.out).mono ?_; rintro e w1 ⟨rfl, hb1⟩)
      | (refine wpList_store_ten rfl rfl _ _ rfl w1.heap.size rfl 43 (AV z10) z10 rfl (heap_alloc_new w1 _) rfl rfl _ (setRow_alloc w1 _ _ _) ?_))
    go_ret2
    exact ⟨⟨_, _, _, rfl, Own.nil _ _⟩, hb1.alloc hb1.size _⟩
  · have hl := ((Bd.okB_iff xs).1 hok)
    have HL := Lib.hid hl
    by_cases hq : q < 1 ∨ 10 ≤ q
    · have hv : lowerOK xs q = false := by simp [lowerOK]; omega
      rw [hv]
      have HOK := Lib.hid hok
      clear hv hok hx hl
      rcases hq with hq | hq
      all_goals
        go_enter Try.func38, Try.ntmps38
        go_wp2_with (first
          | (go_at_call 57; refine (layOut_yes hx'.out HOK.out).mono ?_; rintro e w1 ⟨rfl, hb1⟩)
          | (refine wpList_store_ten rfl rfl _ _ rfl w1.heap.size rfl 43 (AV z10) xs rfl (heap_alloc_new w1 _) rfl HL.out.1 _ (setRow_alloc w1 _ _ _) ?_))
        go_ret2
        exact ⟨⟨_, _, _, rfl, Own.nil _ _⟩, hb1.alloc hb1.size _⟩
    · obtain ⟨p, hp1⟩ := Int.eq_ofNat_of_zero_le (by omega : 0 ≤ q - 1)
      obtain rfl : q = (p : Int) + 1 := by omega
      have hp : p < 9 := by omega
      have et : ((p : Int) + 1).toNat = p + 1 := by omega
      have hv : lowerOK xs ((p : Int) + 1) = fitB (Bd.lowerL xs (p + 1)) := by simp only [lowerOK, hok, et]; simp; omega
      rw [hv, et]
      obtain ⟨u, hu⟩ : ∃ u, xs[p]? = some u := ⟨_, List.getElem?_eq_getElem (by omega)⟩
      obtain ⟨v, hv'⟩ : ∃ v, xs[p + 1]? = some v := ⟨_, List.getElem?_eq_getElem (by omega)⟩
      have HE := Lib.hid (Bd.lowerL_eq hu hv')
      have HR := Lib.hid ((Bd.lowerL_length xs (p + 1)).trans hl.1)
      have hu2 := hl.2 u (List.mem_of_getElem? hu)
      have hv2 := hl.2 v (List.mem_of_getElem? hv')
      obtain ⟨u0, u1⟩ := hu2
      obtain ⟨v0, v1⟩ := hv2
      have au := AV_get hu
      have av := AV_get hv'
      have HOK := Lib.hid hok
      have hg := Bd.grp_cases p
      have g2 : 2 ≤ Bd.grp p ∧ Bd.grp p ≤ 5 := by rcases hg with h | h <;> omega
      obtain ⟨g2, g5⟩ := g2
      have i0 : (0 : Int) ≤ (p : Int) := by omega
      have i1 : (p : Int) < 9 := by omega
      have i2 : (p : Int) < 10 := by omega
      have s1 : IntKind.i64.wrap (p : Int) = (p : Int) := IntWalk.i64_in _ (by omega)
      have s2 : IntKind.i64.wrap (u + Bd.grp p) = u + Bd.grp p := IntWalk.i64_in _ (by omega)
      clear hv hok hx hl hu hv' hg hq et hp1
      go_enter Try.func38, Try.ntmps38
      go_wp2_with (first
        | (go_at_call 57; refine (layOut_yes hx'.out HOK.out).mono ?_; rintro e w1 ⟨rfl, hb1⟩)
        | (refine wpList_store_ten rfl rfl _ _ rfl w1.heap.size rfl 43 (AV z10) xs rfl (heap_alloc_new w1 _) rfl HL.out.1 _ (setRow_alloc w1 _ _ _) ?_))
      go_region_with (go_at_call 70; refine (fullAt_any _ (by omega) _).mono ?_; rintro e w' ⟨rfl, rfl⟩)
      all_goals
        go_wp2_with (first
          | (refine wpList_load_ten rfl _ rfl w1.heap.size rfl 43 (Bd.lowerL xs (p + 1)) (0, 0) ((heap_alloc_new w1 _).trans (by rw [AV_set, AV_set, ← HE.out])) HR.out ?_)
          | (go_at_call 71; refine (board_any (Bd.lowerL xs (p + 1)) HR.out _).mono ?_; rintro e w2 ⟨⟨A2, n2, c2, rfl, hown⟩, hb2⟩))
        go_ret2
        have hs := hb1.size
        exact ⟨⟨_, _, _, rfl, hown.mono (by simp; omega)⟩, ((hb1.alloc hb1.size _).drew).trans (hb2.mono (by simp; omega))⟩


set_option maxRecDepth 100000 in
set_option maxHeartbeats 1000000 in
theorem BoardLay_no (A B : Option Addr) (n c m d : Nat) (xs ys : List Int) (w : World) (hx : Ints w w.heap.size A n xs) (hy : Ints w w.heap.size B m ys) (h : Bd.okB xs = false ∨ Bd.okB ys = false) :
    Calls Try.prog 44 #[.slice A n c, .slice B m d] w (BoardPost w false []) := by
  have hx' := Lib.hid hx
  have hy' := Lib.hid hy
  rcases hokx : Bd.okB xs with _ | _
  · have HX := Lib.hid hokx
    rcases hoky : Bd.okB ys with _ | _
    · have HY := Lib.hid hoky
      clear hokx hoky hx hy h
      go_enter Try.func44, Try.ntmps44
      go_wp2_with fail
      refine (layOut_no hx'.out HX.out).mono ?_
      rintro e w1 ⟨rfl, hb1⟩
      have hy2 := Lib.hid ((hy'.out.next hb1).alloc (Nat.le_refl _) (.cells (AV z10) 43))
      go_wp2_with (refine wpList_store_ten rfl rfl _ _ rfl w1.heap.size rfl 43 (AV z10) z10 rfl (heap_alloc_new w1 _) rfl rfl _ (setRow_alloc w1 _ _ _) ?_)
      refine (layOut_no (hy2.out.mono (by simp)) HY.out).mono ?_
      rintro e w2 ⟨rfl, hb2⟩
      go_wp2_with (refine wpList_store_ten rfl rfl _ _ rfl w2.heap.size rfl 43 (AV z10) z10 rfl (heap_alloc_new w2 _) rfl rfl _ (setRow_alloc w2 _ _ _) ?_)
      go_ret2
      have hs2 := hb2.size
      exact ⟨⟨_, _, _, rfl, Own.nil _ _⟩, (((hb1.alloc hb1.size _).trans (hb2.mono (by have := hb1.size; simp; omega))).alloc (by have := hb1.size; simp at hs2; omega) _)⟩
    · have HY := Lib.hid hoky
      have HLY := Lib.hid ((Bd.okB_iff ys).1 hoky)
      clear hokx hoky hx hy h
      go_enter Try.func44, Try.ntmps44
      go_wp2_with fail
      refine (layOut_no hx'.out HX.out).mono ?_
      rintro e w1 ⟨rfl, hb1⟩
      have hy2 := Lib.hid ((hy'.out.next hb1).alloc (Nat.le_refl _) (.cells (AV z10) 43))
      go_wp2_with (refine wpList_store_ten rfl rfl _ _ rfl w1.heap.size rfl 43 (AV z10) z10 rfl (heap_alloc_new w1 _) rfl rfl _ (setRow_alloc w1 _ _ _) ?_)
      refine (layOut_yes (hy2.out.mono (by simp)) HY.out).mono ?_
      rintro e w2 ⟨rfl, hb2⟩
      go_wp2_with (refine wpList_store_ten rfl rfl _ _ rfl w2.heap.size rfl 43 (AV z10) ys rfl (heap_alloc_new w2 _) rfl HLY.out.1 _ (setRow_alloc w2 _ _ _) ?_)
      go_ret2
      have hs2 := hb2.size
      exact ⟨⟨_, _, _, rfl, Own.nil _ _⟩, (((hb1.alloc hb1.size _).trans (hb2.mono (by have := hb1.size; simp; omega))).alloc (by have := hb1.size; simp at hs2; omega) _)⟩
  · have HX := Lib.hid hokx
    have HLX := Lib.hid ((Bd.okB_iff xs).1 hokx)
    rcases hoky : Bd.okB ys with _ | _
    · have HY := Lib.hid hoky
      clear hokx hoky hx hy h
      go_enter Try.func44, Try.ntmps44
      go_wp2_with fail
      refine (layOut_yes hx'.out HX.out).mono ?_
      rintro e w1 ⟨rfl, hb1⟩
      have hy2 := Lib.hid ((hy'.out.next hb1).alloc (Nat.le_refl _) (.cells (AV xs) 43))
      go_wp2_with (refine wpList_store_ten rfl rfl _ _ rfl w1.heap.size rfl 43 (AV z10) xs rfl (heap_alloc_new w1 _) rfl HLX.out.1 _ (setRow_alloc w1 _ _ _) ?_)
      refine (layOut_no (hy2.out.mono (by simp)) HY.out).mono ?_
      rintro e w2 ⟨rfl, hb2⟩
      go_wp2_with (refine wpList_store_ten rfl rfl _ _ rfl w2.heap.size rfl 43 (AV z10) z10 rfl (heap_alloc_new w2 _) rfl rfl _ (setRow_alloc w2 _ _ _) ?_)
      go_ret2
      have hs2 := hb2.size
      exact ⟨⟨_, _, _, rfl, Own.nil _ _⟩, (((hb1.alloc hb1.size _).trans (hb2.mono (by have := hb1.size; simp; omega))).alloc (by have := hb1.size; simp at hs2; omega) _)⟩
    · rw [hokx, hoky] at h
      simp at h

set_option maxRecDepth 100000 in
set_option maxHeartbeats 1000000 in
theorem BoardLay_yes (A B : Option Addr) (n c m d : Nat) (xs ys : List Int) (w : World) (hx : Ints w w.heap.size A n xs) (hy : Ints w w.heap.size B m ys) (hokx : Bd.okB xs = true) (hoky : Bd.okB ys = true) :
    Calls Try.prog 44 #[.slice A n c, .slice B m d] w (BoardPost w (fitB (Bd.addL xs ys)) (Bd.addL xs ys)) := by
  have hx' := Lib.hid hx
  have hy' := Lib.hid hy
  have HX := Lib.hid hokx
  have HY := Lib.hid hoky
  have HLX := Lib.hid ((Bd.okB_iff xs).1 hokx)
  have HLY := Lib.hid ((Bd.okB_iff ys).1 hoky)
  have HLL := Lib.hid (HLX.out.1.trans HLY.out.1.symm)
  have HLA := Lib.hid ((Bd.addL_length xs ys HLL.out).trans HLX.out.1)
  have idx := fun (k : Nat) (u : Int) (h : ys[k]? = some u) => run_index_ten ys k u HLY.out.1 h
  have IDX := Lib.hid idx
  clear hokx hoky hx hy idx
  go_enter Try.func44, Try.ntmps44
  go_wp2_with fail
  refine (layOut_yes hx'.out HX.out).mono ?_
  rintro e w1 ⟨rfl, hb1⟩
  have hy2 := Lib.hid ((hy'.out.next hb1).alloc (Nat.le_refl _) (.cells (AV xs) 43))
  go_wp2_with (refine wpList_store_ten rfl rfl _ _ rfl w1.heap.size rfl 43 (AV z10) xs rfl (heap_alloc_new w1 _) rfl HLX.out.1 _ (setRow_alloc w1 _ _ _) ?_)
  refine (layOut_yes (hy2.out.mono (by simp)) HY.out).mono ?_
  rintro e w2 ⟨rfl, hb2⟩
  have hs2 := hb2.size
  have hblk : (w2.alloc (.cells (AV ys) 43)).heap[w1.heap.size]? = some (.cells (AV xs) 43 (0, 0)) :=
    (Below.heap_alloc w2 _ _ (by simp at hs2; omega)).trans ((hb2.block _ (by simp)).trans (heap_alloc_new w1 _))
  have HBLK := Lib.hid hblk
  have HBEL := Lib.hid (((hb1.alloc hb1.size (.cells (AV xs) 43)).trans (hb2.mono (by have := hb1.size; simp; omega))).alloc (by have := hb1.size; simp at hs2; omega) (.cells (AV ys) 43))
  have HSZ := Lib.hid hb1.size
  clear hblk
  go_wp2_with (first
    | (refine wpList_store_ten rfl rfl _ _ rfl w2.heap.size rfl 43 (AV z10) ys rfl (heap_alloc_new w2 _) rfl HLY.out.1 _ (setRow_alloc w2 _ _ _) ?_)
    | (refine wpList_load_ten rfl (.tmp 8) rfl w2.heap.size rfl _ ys _ (heap_alloc_new w2 _) HLY.out.1 ?_))
  go_loopw [10, 11, 29] (fun _ _ i wr => ∃ k : Nat, k ≤ 10 ∧ i = .int .i64 k ∧ wr.heap[w1.heap.size]? = some (.cells (AV ((Bd.addL xs ys).take k ++ xs.drop k)) 43 (0, 0)) ∧ (w2.alloc (.cells (AV ys) 43)).grownBy wr (some w1.heap.size)) (fun _ _ i _ => 10 - (intOf i).toNat)
  case atStart => exact ⟨0, by omega, rfl, by simpa using HBLK.out, World.grownBy.refl _ _⟩
  case round =>
    obtain ⟨k, hk, rfl, hblk, hg⟩ := hrel
    have HG := Lib.hid hg
    by_cases hlt : k < 10
    · obtain ⟨u, hu⟩ : ∃ u, xs[k]? = some u := ⟨_, List.getElem?_eq_getElem (by have := HLX.out.1; omega)⟩
      obtain ⟨v, hv⟩ : ∃ v, ys[k]? = some v := ⟨_, List.getElem?_eq_getElem (by have := HLY.out.1; omega)⟩
      obtain ⟨u0, u1⟩ := HLX.out.2 u (List.mem_of_getElem? hu)
      obtain ⟨v0, v1⟩ := HLY.out.2 v (List.mem_of_getElem? hv)
      have HN := Lib.hid (Bd.lay_next HLL.out hu hv)
      have cu := (cell_of_row wr _ k _ _ _ hblk).trans (AV_get (Bd.lay_at HLL.out hu))
      have fu := frozen_of_row wr _ k _ _ hblk
      have hi := IDX.out k v hv
      have HS := Lib.hid (heap_setCell_same wr w1.heap.size k _ 43 (.int .i64 (u + v)) hblk)
      clear hblk hg hu hv
      go_wp2
      go_roundw
      case rel =>
        refine ⟨k + 1, by omega, by go_num, ?_, ?_⟩
        · have := HS.out
          rwa [AV_set, HN.out] at this
        · have := HG.out
          exact ⟨this.os, this.tape, this.output, by simpa [World.setCell] using this.size, fun b hb hne => (heap_setCell_other wr _ b _ (fun e => hne (by rw [e]))).trans (this.block b hb hne)⟩
      case measure => simp [intOf]; omega
    · have e10 : (Bd.addL xs ys).take k ++ xs.drop k = Bd.addL xs ys := by
        rw [List.take_of_length_le (by have := HLA.out; omega), List.drop_eq_nil_of_le (by have := HLX.out.1; omega), List.append_nil]
      rw [e10] at hblk
      have HB2 := Lib.hid hblk
      have HBR := Lib.hid (HBEL.out.grown hg (by simp at hs2 ⊢; have := HSZ.out; omega) (by intro b hb; cases hb; exact HSZ.out))
      clear hblk hg e10
      go_wp2_with (first
        | (refine wpList_load_ten rfl (.tmp 6) rfl w1.heap.size rfl _ (Bd.addL xs ys) _ HB2.out HLA.out ?_)
        | (go_at_call 71; refine (board_any (Bd.addL xs ys) HLA.out _).mono ?_; rintro e w3 ⟨⟨A2, n2, c2, rfl, hown⟩, hb3⟩))
      go_ret2
      have hs3 := HBR.out.size
      exact ⟨⟨_, _, _, rfl, hown.mono (by omega)⟩, HBR.out.trans (hb3.mono (by omega))⟩
end Go.Proofs.Ytknjnlkamhbmgaa
