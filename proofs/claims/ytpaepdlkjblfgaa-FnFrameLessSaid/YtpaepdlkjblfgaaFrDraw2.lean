/-
  The draws of frames: a frame of some rods, and the laws' draws.
-/
import Derived.Test.YtpaepdlkjblfgaaFrDraw
namespace Go.Proofs.Ytpaepdlkjblfgaa
open Go.RowKit

set_option maxHeartbeats 1000000 in
theorem l91At_any (w : World) (B g p : Nat) (n : Nat) (h : Rd w B g p) (hp : p ≤ 900000) (hn : n ≤ 100) :
    Calls Try.prog 47 #[.pointer (some ⟨g, 0, none⟩), .int .i64 (n : Int)] w (DInt (-1) 100 w B g p) := by
  have hlt := h.lt
  have hbs := h.base
  have HR := Lib.hid h
  have HG := Lib.hid (World.grownBy.refl w (some g))
  clear h
  by_cases hz : n = 0
  · subst hz
    go_enter Try.func47, Try.ntmps47
    go_wp2_with fail
    refine (pick_any _ _ _ _ _ (HR.out.alloc _) (by omega)).mono ?_
    rintro e w3 ⟨v3, rfl, hv3, hrd3, hg3⟩
    obtain ⟨hva3, hvb3⟩ := hv3 (by omega)
    obtain ⟨j3, u3, rfl, hj3, hu3, hc3⟩ := lit_after (n := 2) (us := [-1, 0]) hg3 (by omega) rfl (by omega) hva3 hvb3
    obtain ⟨hua3, hub3⟩ : -1 ≤ u3 ∧ u3 ≤ 100 := by simp at hu3; omega
    clear hv3 hu3
    replace HG := Lib.hid ((HG.out.trans (World.grownBy_alloc _ _ _)).trans hg3)
    replace HR := Lib.hid hrd3
    clear hrd3 hg3
    go_wp2
    go_ret
    exact ⟨_, _, rfl, by omega, by omega, HR.out, by omega, HG.out⟩
  · have hne : ((n : Int) == 0) = false := by simpa using hz
    go_enter Try.func47, Try.ntmps47
    go_wp2_with fail
    refine (pick_any _ _ _ _ _ HR.out (by omega)).mono ?_
    rintro e w1 ⟨v1, rfl, hv1, hrd1, hg1⟩
    obtain ⟨hva1, hvb1⟩ := hv1 (by omega)
    clear hv1
    have hsz1 := hg1.size
    replace HG := Lib.hid (HG.out.trans hg1)
    replace HR := Lib.hid hrd1
    clear hrd1 hg1
    by_cases h0 : v1 = 0
    · subst h0
      go_wp2_with fail
      refine (pick_any _ _ _ _ _ (HR.out.alloc _) (by omega)).mono ?_
      rintro e w3 ⟨v3, rfl, hv3, hrd3, hg3⟩
      obtain ⟨hva3, hvb3⟩ := hv3 (by omega)
      obtain ⟨j3, u3, rfl, hj3, hu3, hc3⟩ := lit_after (n := 2) (us := [-1, (n : Int)]) hg3 (by omega) rfl (by omega) hva3 hvb3
      obtain ⟨hua3, hub3⟩ : -1 ≤ u3 ∧ u3 ≤ 100 := by simp at hu3; omega
      clear hv3 hu3
      replace HG := Lib.hid ((HG.out.trans (World.grownBy_alloc _ _ _)).trans hg3)
      replace HR := Lib.hid hrd3
      clear hrd3 hg3
      go_wp2
      go_ret
      exact ⟨_, _, rfl, by omega, by omega, HR.out, by omega, HG.out⟩
    · have h0' : (v1 == 0) = false := by simpa using h0
      go_wp2_with fail
      refine (pick_any _ _ _ _ _ HR.out (by omega)).mono ?_
      rintro e w3 ⟨v3, rfl, hv3, hrd3, hg3⟩
      obtain ⟨hva3, hvb3⟩ := hv3 (by omega)
      clear hv3
      replace HG := Lib.hid (HG.out.trans hg3)
      replace HR := Lib.hid hrd3
      clear hrd3 hg3
      go_wp2
      go_ret
      exact ⟨_, _, rfl, by omega, by omega, HR.out, by omega, HG.out⟩

/-- a drawn row stays when the result's cell is filled: it does not lie there -/
theorem pers_set {w2 : World} {g r n : Nat} {A : Option Addr} {hs : List Int} {X Y : Value} (h : ∀ v, w2.grownBy v (some g) → Ints v v.heap.size A n hs) (hb : Box w2 r (.slice none 0 0) (.slice none 0 0)) :
    ∀ v, ((w2.setCell ⟨r, 0, none⟩ X).setCell ⟨r, 1, none⟩ Y).grownBy v (some g) → Ints v v.heap.size A n hs := by
  intro v hv
  have g1 := grown_set (w := w2) r 0 X
  have g2 := grown_set (w := w2.setCell ⟨r, 0, none⟩ X) r 1 Y
  have hsz : r < v.heap.size := by have := hb.lt; have := g1.size; have := g2.size; have := hv.size; omega
  obtain ⟨o, ho⟩ : ∃ o, o = Obj.cells #[.slice none 0 0, .slice none 0 0] 25 (0, 0) := ⟨_, rfl⟩
  have hself : (v.heap.setIfInBounds r o)[r]? = some o := by simp [hsz]
  have hother : ∀ j, j ≠ r → (v.heap.setIfInBounds r o)[j]? = v.heap[j]? := fun j hj => Array.getElem?_setIfInBounds_ne (by omega)
  have hg : w2.grownBy { v with heap := v.heap.setIfInBounds r o } (some g) := by
    refine ⟨hv.os.trans (g2.os.trans g1.os), hv.tape.trans (g2.tape.trans g1.tape), hv.output.trans (g2.output.trans g1.output), ?_, fun j hj hne => ?_⟩
    · have := g1.size; have := g2.size; have := hv.size
      simp only [Array.size_setIfInBounds]; omega
    · by_cases hjr : j = r
      · subst hjr
        show (v.heap.setIfInBounds j o)[j]? = _
        rw [hself, ho]; exact hb.symm
      · show (v.heap.setIfInBounds r o)[j]? = _
        rw [hother j hjr, hv.block j (by have := g1.size; have := g2.size; omega) hne, g2.block j (by have := g1.size; omega) (by intro e; injection e; omega), g1.block j hj (by intro e; injection e; omega)]
  have hi := h _ hg
  refine ⟨hi.len, hi.bound, fun h0 => ?_⟩
  obtain ⟨b, off, e, hlt, hc⟩ := hi.addr h0
  have hlt' : b < v.heap.size := by simpa only [Array.size_setIfInBounds] using hlt
  have hne : b ≠ r := by
    rintro rfl
    have hl := hi.len
    have h1 := hc 0 _ (List.getElem?_eq_getElem (by omega))
    rw [cell_of_row _ b (off + 0) _ _ _ (by show (v.heap.setIfInBounds b o)[b]? = _; rw [hself, ho])] at h1
    rcases off with _ | _ | off <;> simp at h1
  refine ⟨b, off, e, hlt', fun j u hu => ?_⟩
  rw [← hc j u hu]
  exact World.cell?_of_block (hother b hne).symm
theorem dframe_out {w w2 : World} {B g p q n c m c' : Nat} {A A' : Option Addr} {hs ls : List Int} (hx : ∀ v, w2.grownBy v (some g) → Ints v v.heap.size A n hs ∧ Ints v v.heap.size A' m ls) (hb : Box w2 w.heap.size (.slice none 0 0) (.slice none 0 0))
    (hn : n ≤ 6) (hn1 : 1 ≤ n ∧ n ≤ c ∧ m ≤ c') (hm : m ≤ 6) (hr : Rd w2 B g q) (hlt : g < w.heap.size) (hg : w.grownBy w2 (some g)) (hq : q ≤ p + 20) :
    DFrame w B g p (.returned (.agg #[.slice A n c, .slice A' m c'])) ((w2.setCell ⟨w.heap.size, 0, none⟩ (.slice A n c)).setCell ⟨w.heap.size, 1, none⟩ (.slice A' m c')) := by
  have hB := hr.base
  refine ⟨A, n, c, A', m, c', hs, ls, q, rfl, fun v hv => ⟨pers_set (fun v h => (hx v h).1) hb v hv, pers_set (fun v h => (hx v h).2) hb v hv⟩, hn, hn1, hm, ?_, hq, ?_⟩
  · exact (hr.far (a := ⟨w.heap.size, 0, none⟩) (by show B ≤ w.heap.size; omega) (by show w.heap.size ≠ g; omega) _).far (a := ⟨w.heap.size, 1, none⟩) (by show B ≤ w.heap.size; omega) (by show w.heap.size ≠ g; omega) _
  · exact (((grown_set w.heap.size 0 _).row_in' (N := w.heap.size - 1) (by omega)).trans ((grown_set w.heap.size 1 _).row_in' (N := w.heap.size - 1) (by omega))).on_ hg

set_option maxRecDepth 100000 in
set_option maxHeartbeats 1000000 in
theorem l92Some_any (w : World) (B g p : Nat) (h : Rd w B g p) (hp : p ≤ 800000) :
    Calls Try.prog 46 #[.pointer (some ⟨g, 0, none⟩)] w (DFrame w B g (p + 1)) := by
  have hlt := h.lt
  have hbs := h.base
  have HR := Lib.hid h
  have hz := Box.new w (.slice none 0 0) (.slice none 0 0)
  have HZ := Lib.hid hz
  clear h hz
  go_enter Try.func46, Try.ntmps46
  go_wp2_with fail
  refine (pick_any _ _ _ _ _ (HR.out.alloc _) (by omega)).mono ?_
  rintro e w1 ⟨v1, rfl, hv1, hrd1, hg1⟩
  obtain ⟨hva1, hvb1⟩ := hv1 (by omega)
  clear hv1
  obtain ⟨j1, rfl⟩ := Int.eq_ofNat_of_zero_le hva1
  have hsz1 := hg1.size
  simp only [World.size_alloc] at hsz1
  have hz1 := HZ.out.grown hg1 (by intro e; injection e; omega)
  have HZ1 := Lib.hid hz1
  have HG := Lib.hid ((World.grownBy_alloc w _ _).trans hg1)
  replace HR := Lib.hid hrd1
  clear hrd1 hg1 hz1 HZ
  go_wp2_with fail
  rw [show (1 : Int) + (j1 : Int) = ((1 + j1 : Nat) : Int) from by omega]
  refine (l92Frame_any _ _ _ _ (1 + j1) HR.out (by omega) (by omega) (by omega)).mono ?_
  rintro e w2 ⟨A, n, c, A', m, c', hs, ls, q2, rfl, hx2, hn, hn1, hm, hrd2, hq2, hg2⟩
  have hsz2 := hg2.size
  have hz2 := HZ1.out.grown hg2 (by intro e; injection e; omega)
  have hc0 := hz2.fst
  have hc1 := hz2.snd
  have hf0 := hz2.free 0
  have hf1 := hz2.free 1
  have hzl := hz2.lt
  have hb3 := hz2.over (.slice A n c) (.slice A' m c')
  have hc3 := hb3.fst
  have hd3 := hb3.snd
  have hfin := dframe_out (p := p + 1) (c := c) (c' := c') hx2 hz2 hn hn1 hm hrd2 (by omega) (HG.out.trans hg2) (by omega)
  have HF := Lib.hid hfin
  have HC3 := Lib.hid hc3
  have HD3 := Lib.hid hd3
  clear hfin hx2 hrd2 hg2 hz2 hb3 hc3 hd3
  go_wp2
  exact bodyPost_ret (v := .agg #[.slice A n c, .slice A' m c']) (by simp [results, Try.results46, go_sem, HC3.out, HD3.out]) rfl HF.out
/-- a law's drawn frame: what the law holds behind the draw -/
def DrewF (w : World) (v : Value) (w' : World) : Prop :=
  ∃ A n c A' m c' hs ls, v = .agg #[.slice A n c, .slice A' m c'] ∧ Ints w' w'.heap.size A n hs ∧ Ints w' w'.heap.size A' m ls ∧ n ≤ 6 ∧ (1 ≤ n ∧ n ≤ c ∧ m ≤ c') ∧ m ≤ 6 ∧ Below w.heap.size w w'
theorem below_al1 (w : World) (o : Obj) : Below w.heap.size w (w.alloc o) := (Below.refl _ _).alloc (Nat.le_refl _) o
theorem drewF_of {w w2 : World} {r g n c m c' : Nat} {A A' : Option Addr} {hs ls : List Int} (hx : ∀ v, w2.grownBy v (some g) → Ints v v.heap.size A n hs ∧ Ints v v.heap.size A' m ls) (hb : Box w2 r (.slice none 0 0) (.slice none 0 0))
    (hn : n ≤ 6) (hn1 : 1 ≤ n ∧ n ≤ c ∧ m ≤ c') (hm : m ≤ 6) (hB : Below w.heap.size w w2) (hr : w.heap.size ≤ r) :
    DrewF w (.agg #[.slice A n c, .slice A' m c']) ((w2.setCell ⟨r, 0, none⟩ (.slice A n c)).setCell ⟨r, 1, none⟩ (.slice A' m c')) :=
  ⟨A, n, c, A', m, c', hs, ls, rfl, pers_set (fun v h => (hx v h).1) hb _ (World.grownBy.refl _ _), pers_set (fun v h => (hx v h).2) hb _ (World.grownBy.refl _ _), hn, hn1, hm, below_over hB hr _ _⟩

set_option maxRecDepth 100000 in
set_option maxHeartbeats 1000000 in
theorem DrawFrameShift_any (A : Option Addr) (n c : Nat) (w : World) (h : Bytes w w.heap.size A n c) (hn : n ≤ 1048576) :
    Calls Try.prog 26 #[.slice A n c] w (fun e w' => ∃ v, e = .returned v ∧ DrewF w v w') := by
  have H := Lib.hid (h.next (below_al1 w (.cells #[.slice none 0 0, .slice none 0 0] 25)))
  have HZ := Lib.hid (Box.new w (.slice none 0 0) (.slice none 0 0))
  clear h
  go_enter Try.func26, Try.ntmps26
  go_wp2_with fail
  refine (l6Open_any _ _ _ _ H.out hn).mono ?_
  rintro e w0 ⟨rfl, hrd, hb⟩
  simp only [World.size_alloc] at hrd
  have hlt := hrd.lt
  have hsz0 := hb.size
  simp only [World.size_alloc] at hsz0
  have HB := Lib.hid ((below_al1 w (.cells #[.slice none 0 0, .slice none 0 0] 25)).trans (hb.mono (by simp)))
  replace HZ := Lib.hid (HZ.out.next hb)
  have HR := Lib.hid hrd
  clear hrd hb
  go_wp2_with fail
  refine (l92Some_any _ _ _ _ HR.out (by omega)).mono ?_
  rintro e w2 ⟨A, n, c, A', m, c', hs, ls, q2, rfl, hx2, hn, hn1, hm, hrd2, hq2, hg2⟩
  have hz2 := HZ.out.grown hg2 (by intro e; injection e; omega)
  have hc0 := hz2.fst
  have hc1 := hz2.snd
  have hf0 := hz2.free 0
  have hf1 := hz2.free 1
  have hzl := hz2.lt
  have hb3 := hz2.over (.slice A n c) (.slice A' m c')
  have hfin := drewF_of (w := w) (c := c) (c' := c') hx2 hz2 hn hn1 hm (HB.out.trans (base_in hg2 (by omega) (by omega))) (Nat.le_refl _)
  have HF := Lib.hid hfin
  have HC3 := Lib.hid hb3.fst
  have HD3 := Lib.hid hb3.snd
  clear hfin hx2 hrd2 hg2 hz2 hb3
  go_wp2
  exact bodyPost_ret (v := .agg #[.slice A n c, .slice A' m c']) (by simp [results, Try.results26, go_sem, HC3.out, HD3.out]) rfl ⟨_, rfl, HF.out⟩
set_option maxRecDepth 100000 in
set_option maxHeartbeats 2000000 in
theorem DrawFrameDigit_any (A : Option Addr) (n c : Nat) (w : World) (h : Bytes w w.heap.size A n c) (hn : n ≤ 1048576) :
    Calls Try.prog 14 #[.slice A n c] w (fun e w' => ∃ v k, e = .returned (.tuple #[v, .int .i64 k]) ∧ -1 ≤ k ∧ k ≤ 100 ∧ DrewF w v w') := by
  have H := Lib.hid (h.next (below_al1 w (.cells #[.slice none 0 0, .slice none 0 0] 25)))
  have HZ := Lib.hid (Box.new w (.slice none 0 0) (.slice none 0 0))
  clear h
  go_enter Try.func14, Try.ntmps14
  go_wp2_with fail
  refine (l6Open_any _ _ _ _ H.out hn).mono ?_
  rintro e w0 ⟨rfl, hrd, hb⟩
  simp only [World.size_alloc] at hrd
  have hlt := hrd.lt
  have hsz0 := hb.size
  simp only [World.size_alloc] at hsz0
  have HB := Lib.hid ((below_al1 w (.cells #[.slice none 0 0, .slice none 0 0] 25)).trans (hb.mono (by simp)))
  replace HZ := Lib.hid (HZ.out.next hb)
  have HR := Lib.hid hrd
  clear hrd hb
  go_wp2_with fail
  refine (l92Some_any _ _ _ _ HR.out (by omega)).mono ?_
  rintro e w2 ⟨A, n, c, A', m, c', hs, ls, q2, rfl, hx2, hn, hn1, hm, hrd2, hq2, hg2⟩
  have hsz2 := hg2.size
  have hz2 := (HZ.out.grown hg2 (by intro e; injection e; omega)).alloc (.cells #[.slice A n c, .slice A' m c'] 25)
  have hx5 := Box.new w2 (.slice A n c) (.slice A' m c')
  have hx50 := hx5.fst
  have hx51 := hx5.snd
  have HZ2 := Lib.hid hz2
  have HX5 := Lib.hid hx5
  have HR5 := Lib.hid (hrd2.alloc (.cells #[.slice A n c, .slice A' m c'] 25))
  have HP := Lib.hid hx2
  replace HB := Lib.hid ((HB.out.trans (base_in hg2 (by omega) (by omega))).trans (((Below.refl w2.heap.size w2).alloc (Nat.le_refl _) (.cells #[.slice A n c, .slice A' m c'] 25)).mono (by omega)))
  clear hx2 hrd2 hg2 hz2 hx5
  go_wp2_with fail
  go_region_with (go_at_call 47; refine (l91At_any _ _ _ _ n HR5.out.drew (by omega) (by omega)).mono ?_; rintro e w3 ⟨v3, q3, rfl, hva, hvb, hrd3, hq3, hg3'⟩; have hg3 : (w2.alloc (.cells #[.slice A n c, .slice A' m c'] 25)).grownBy w3 (some (w.heap.size + 1)) := grown_undrew hg3'; have hx3 := HX5.out.grown hg3 (by intro e; injection e; omega); have x30 := hx3.fst; have x31 := hx3.snd; have hz3 := HZ2.out.grown hg3 (by intro e; injection e; omega); have z30 := hz3.fst; have z31 := hz3.snd; have y30 := hz3.free 0; have y31 := hz3.free 1; have zl := hz3.lt; have xl := hx3.lt; have HZ3 := Lib.hid hz3; have HG3 := Lib.hid hg3; clear hg3 hg3' hrd3 hx3 hz3)
  all_goals go_wp2
  all_goals
    have hb3 := HZ3.out.over (.slice A n c) (.slice A' m c')
    have hc3 := hb3.fst
    have hd3 := hb3.snd
    have hfin := drewF_of (w := w) (c := c) (c' := c') (fun v h => HP.out v (((World.grownBy_alloc w2 _ _).trans HG3.out).trans h)) HZ3.out hn hn1 hm (HB.out.trans (base_in HG3.out (by omega) (by simp; omega))) (Nat.le_refl _)
    exact bodyPost_ret (v := .tuple #[.agg #[.slice A n c, .slice A' m c'], .int .i64 v3]) (by simp [results, Try.results14, go_sem, hc3, hd3]) rfl ⟨_, _, rfl, hva, hvb, hfin⟩
set_option maxHeartbeats 1000000 in
theorem l91Digit_any (w : World) (B g p : Nat) (h : Rd w B g p) (hp : p ≤ 900000) :
    Calls Try.prog 78 #[.pointer (some ⟨g, 0, none⟩)] w (DInt (-1) 10 w B g p) := by
  have hlt := h.lt
  have hbs := h.base
  have HR := Lib.hid h
  have HG := Lib.hid (World.grownBy.refl w (some g))
  clear h
  go_enter Try.func78, Try.ntmps78
  go_wp2_with fail
  refine (pick_any _ _ _ _ _ HR.out (by omega)).mono ?_
  rintro e w1 ⟨v1, rfl, hv1, hrd1, hg1⟩
  obtain ⟨hva1, hvb1⟩ := hv1 (by omega)
  clear hv1
  have hsz1 := hg1.size
  replace HG := Lib.hid (HG.out.trans hg1)
  replace HR := Lib.hid hrd1
  clear hrd1 hg1
  by_cases h0 : v1 = 0
  · subst h0
    go_wp2_with fail
    refine (pick_any _ _ _ _ _ (HR.out.alloc _) (by omega)).mono ?_
    rintro e w3 ⟨v3, rfl, hv3, hrd3, hg3⟩
    obtain ⟨hva3, hvb3⟩ := hv3 (by omega)
    obtain ⟨j3, u3, rfl, hj3, hu3, hc3⟩ := lit_after (n := 2) (us := [-1, 10]) hg3 (by omega) rfl (by omega) hva3 hvb3
    obtain ⟨hua3, hub3⟩ : -1 ≤ u3 ∧ u3 ≤ 10 := by simp at hu3; omega
    clear hv3 hu3
    replace HG := Lib.hid ((HG.out.trans (World.grownBy_alloc _ _ _)).trans hg3)
    replace HR := Lib.hid hrd3
    clear hrd3 hg3
    go_wp2
    go_ret
    exact ⟨_, _, rfl, by omega, by omega, HR.out, by omega, HG.out⟩
  · have h0' : (v1 == 0) = false := by simpa using h0
    go_wp2_with fail
    refine (pick_any _ _ _ _ _ HR.out (by omega)).mono ?_
    rintro e w3 ⟨v3, rfl, hv3, hrd3, hg3⟩
    obtain ⟨hva3, hvb3⟩ := hv3 (by omega)
    clear hv3
    replace HG := Lib.hid (HG.out.trans hg3)
    replace HR := Lib.hid hrd3
    clear hrd3 hg3
    go_wp2
    go_ret
    exact ⟨_, _, rfl, by omega, by omega, HR.out, by omega, HG.out⟩

/-- a drawn frame, a rod and a digit -/
def DChange (w : World) (g : Nat) (e : Ending) (w' : World) : Prop :=
  ∃ A n c A' m c' hs ls k t, e = .returned (.tuple #[.agg #[.slice A n c, .slice A' m c'], .int .i64 k, .int .i64 t]) ∧ (∀ v, w'.grownBy v (some g) → Ints v v.heap.size A n hs ∧ Ints v v.heap.size A' m ls) ∧ n ≤ 6 ∧ (1 ≤ n ∧ n ≤ c ∧ m ≤ c') ∧ m ≤ 6 ∧ -1 ≤ k ∧ k ≤ 100 ∧ -1 ≤ t ∧ t ≤ 10 ∧ w.grownBy w' (some g)

set_option maxRecDepth 100000 in
set_option maxHeartbeats 2000000 in
theorem l92Change_any (w : World) (B g p : Nat) (h : Rd w B g p) (hp : p ≤ 800000) :
    Calls Try.prog 69 #[.pointer (some ⟨g, 0, none⟩)] w (DChange w g) := by
  have hlt := h.lt
  have hbs := h.base
  have HR := Lib.hid (h.alloc (.cells #[.slice none 0 0, .slice none 0 0] 25))
  have HZ := Lib.hid (Box.new w (.slice none 0 0) (.slice none 0 0))
  have HB := Lib.hid (World.grownBy_alloc w (.cells #[.slice none 0 0, .slice none 0 0] 25) (some g))
  clear h
  go_enter Try.func69, Try.ntmps69
  go_wp2_with fail
  refine (l92Some_any _ _ _ _ HR.out (by omega)).mono ?_
  rintro e w2 ⟨A, n, c, A', m, c', hs, ls, q2, rfl, hx2, hn, hn1, hm, hrd2, hq2, hg2⟩
  have hsz2 := hg2.size
  simp only [World.size_alloc] at hsz2
  have hz2 := (HZ.out.grown hg2 (by intro e; injection e; omega)).alloc (.cells #[.slice A n c, .slice A' m c'] 25)
  have hx5 := Box.new w2 (.slice A n c) (.slice A' m c')
  have hx50 := hx5.fst
  have hx51 := hx5.snd
  have HZ2 := Lib.hid hz2
  have HX5 := Lib.hid hx5
  have HR5 := Lib.hid (hrd2.alloc (.cells #[.slice A n c, .slice A' m c'] 25))
  have HP := Lib.hid hx2
  replace HB := Lib.hid ((HB.out.trans hg2).trans (World.grownBy_alloc w2 (.cells #[.slice A n c, .slice A' m c'] 25) (some g)))
  clear hx2 hrd2 hg2 hz2 hx5
  go_wp2_with fail
  go_region_with (first
    | (go_at_call 47; refine (l91At_any _ _ _ _ n HR5.out.drew (by omega) (by omega)).mono ?_; rintro e w3 ⟨v3, q3, rfl, hva, hvb, hrd3, hq3, hg3'⟩; have hg3 : (w2.alloc (.cells #[.slice A n c, .slice A' m c'] 25)).grownBy w3 (some g) := grown_undrew hg3'; have hx3 := HX5.out.grown hg3 (by intro e; injection e; omega); have x30 := hx3.fst; have x31 := hx3.snd; have hz3 := HZ2.out.grown hg3 (by intro e; injection e; omega); have z30 := hz3.fst; have z31 := hz3.snd; have y30 := hz3.free 0; have y31 := hz3.free 1; have zl := hz3.lt; have xl := hx3.lt; have HX3 := Lib.hid hx3; have HZ3 := Lib.hid hz3; have HG3 := Lib.hid hg3; have HR3 := Lib.hid hrd3; clear hg3 hg3' hrd3 hx3 hz3)
    | (go_at_call 78; refine (l91Digit_any _ _ _ _ HR3.out (by omega)).mono ?_; rintro e w4 ⟨v4, q4, rfl, hva4, hvb4, hrd4, hq4, hg4⟩; have hx4 := HX3.out.grown hg4 (by intro e; injection e; omega); have x40 := hx4.fst; have x41 := hx4.snd; have hz4 := HZ3.out.grown hg4 (by intro e; injection e; omega); have z40 := hz4.fst; have z41 := hz4.snd; have y40 := hz4.free 0; have y41 := hz4.free 1; have zl4 := hz4.lt; have xl4 := hx4.lt; have HZ4 := Lib.hid hz4; have HG4 := Lib.hid hg4; clear hg4 hrd4 hx4 hz4))
  all_goals go_wp2
  all_goals
    have hb3 := HZ4.out.over (.slice A n c) (.slice A' m c')
    have hc3 := hb3.fst
    have hd3 := hb3.snd
    have hg9 := (((grown_set w.heap.size 0 (.slice A n c)).row_in' (w := w4) (N := w.heap.size - 1) (by omega)).trans ((grown_set w.heap.size 1 (.slice A' m c')).row_in' (N := w.heap.size - 1) (by omega))).on_ ((HB.out.trans HG3.out).trans HG4.out)
    have hp := fun v h => HP.out v ((((World.grownBy_alloc w2 _ _).trans HG3.out).trans HG4.out).trans h)
    exact bodyPost_ret (v := .tuple #[.agg #[.slice A n c, .slice A' m c'], .int .i64 v3, .int .i64 v4]) (by simp [results, Try.results69, go_sem, hc3, hd3]) rfl ⟨_, _, _, _, _, _, hs, ls, _, _, rfl, fun v hv => ⟨pers_set (fun v h => (hp v h).1) HZ4.out v hv, pers_set (fun v h => (hp v h).2) HZ4.out v hv⟩, hn, hn1, hm, hva, hvb, hva4, hvb4, hg9⟩
end Go.Proofs.Ytpaepdlkjblfgaa
