/-
  The draw of a frame for its text; a frame's rows behind a store in a box.
-/
import Derived.Test.YtpaepdlkjblfgaaDoorFrDraw2
import Derived.Test.YtpaepdlkjblfgaaDoorFrLaw2
namespace Go.Proofs.YtpaepdlkjblfgaaDoor
open Go.RowKit

set_option maxRecDepth 100000 in
set_option maxHeartbeats 1000000 in
theorem DrawFrameText_any (A : Option Addr) (n c : Nat) (w : World) (h : Bytes w w.heap.size A n c) (hn : n ≤ 1048576) :
    Calls Tryd.prog 4 #[.slice A n c] w (fun e w' => ∃ v, e = .returned v ∧ DrewF w v w') := by
  have H := Lib.hid (h.next (below_al1 w (.cells #[.slice none 0 0, .slice none 0 0] 25)))
  have HZ := Lib.hid (Box.new w (.slice none 0 0) (.slice none 0 0))
  clear h
  go_enter Tryd.func4, Tryd.ntmps4
  go_wp2_with fail
  refine (l6Open_any _ _ _ _ H.out hn).mono ?_
  rintro e w0 ⟨rfl, hrd, hb⟩
  simp only [World.size_alloc] at hrd
  have hlt := hrd.lt
  have hsz0 := hb.size
  simp only [World.size_alloc] at hsz0
  have HB := Lib.hid ((below_al1 w (.cells #[.slice none 0 0, .slice none 0 0] 25)).trans (hb.mono (by simp)))
  replace HZ := Lib.hid (HZ.out.next hb)
  have HR := Lib.hid hrd
  clear hrd hb
  go_wp2_with fail
  refine (l92Some_any _ _ _ _ HR.out (by omega)).mono ?_
  rintro e w2 ⟨A, n, c, A', m, c', hs, ls, q2, rfl, hx2, hn, hn1, hm, hrd2, hq2, hg2⟩
  have hz2 := HZ.out.grown hg2 (by intro e; injection e; omega)
  have hc0 := hz2.fst
  have hc1 := hz2.snd
  have hf0 := hz2.free 0
  have hf1 := hz2.free 1
  have hzl := hz2.lt
  have hb3 := hz2.over (.slice A n c) (.slice A' m c')
  have hfin := drewF_of (w := w) (c := c) (c' := c') hx2 hz2 hn hn1 hm (HB.out.trans (base_in hg2 (by omega) (by omega))) (Nat.le_refl _)
  have HF := Lib.hid hfin
  have HC3 := Lib.hid hb3.fst
  have HD3 := Lib.hid hb3.snd
  clear hfin hx2 hrd2 hg2 hz2 hb3
  go_wp2
  exact bodyPost_ret (v := .agg #[.slice A n c, .slice A' m c']) (by simp [results, Tryd.results4, go_sem, HC3.out, HD3.out]) rfl ⟨_, rfl, HF.out⟩

/-- a row of numbers does not lie in a box -/
theorem ints_over {w : World} {r n : Nat} {A : Option Addr} {hs : List Int} {X Y : Value} (h : Ints w w.heap.size A n hs) (hb : Box w r (.slice none 0 0) (.slice none 0 0)) :
    Ints ((w.setCell ⟨r, 0, none⟩ X).setCell ⟨r, 1, none⟩ Y) ((w.setCell ⟨r, 0, none⟩ X).setCell ⟨r, 1, none⟩ Y).heap.size A n hs := by
  have hl := h.len
  have hbd := h.bound
  refine ⟨hl, hbd, fun hn => ?_⟩
  obtain ⟨b, off, rfl, hlt, hc⟩ := h.addr hn
  have hne : b ≠ r := by
    rintro rfl
    have h0 := hc 0 _ (List.getElem?_eq_getElem (by omega))
    have hcell : w.cell? ⟨b, off + 0, none⟩ = (#[Value.slice none 0 0, Value.slice none 0 0] : Array Value)[off + 0]? := cell_of_row w b (off + 0) _ _ _ hb
    rw [hcell] at h0
    rcases off with _ | _ | off
    · simp at h0
    · simp at h0
    · simp at h0
  refine ⟨b, off, rfl, by simpa [size_setCell_] using hlt, fun j u hu => ?_⟩
  have e : ((w.setCell ⟨r, 0, none⟩ X).setCell ⟨r, 1, none⟩ Y).heap[b]? = w.heap[b]? := (heap_setCell_other _ ⟨r, 1, none⟩ b _ hne).trans (heap_setCell_other _ ⟨r, 0, none⟩ b _ hne)
  exact (World.cell?_of_block e).trans (hc j u hu)
theorem FrG.over {w : World} {r n : Nat} {v : Value} {ds : List Int} {X Y : Value} (h : FrG w v n ds) (hb : Box w r (.slice none 0 0) (.slice none 0 0)) : FrG ((w.setCell ⟨r, 0, none⟩ X).setCell ⟨r, 1, none⟩ Y) v n ds := by
  obtain ⟨⟨A, n1, c, A', m1, c', rfl, h1, h2⟩, h3⟩ := h
  exact ⟨⟨A, n1, c, A', m1, c', rfl, ints_over h1 hb, ints_over h2 hb⟩, h3⟩
end Go.Proofs.YtpaepdlkjblfgaaDoor
