/-
  The draws of frames: a frame of some rods, and the laws' draws.
-/
import Derived.Test.YtpaepdlkjblfgaaDoorFrDraw
namespace Go.Proofs.YtpaepdlkjblfgaaDoor
open Go.RowKit

/-- a drawn row stays when the result's cell is filled: it does not lie there -/
theorem pers_set {w2 : World} {g r n : Nat} {A : Option Addr} {hs : List Int} {X Y : Value} (h : ∀ v, w2.grownBy v (some g) → Ints v v.heap.size A n hs) (hb : Box w2 r (.slice none 0 0) (.slice none 0 0)) :
    ∀ v, ((w2.setCell ⟨r, 0, none⟩ X).setCell ⟨r, 1, none⟩ Y).grownBy v (some g) → Ints v v.heap.size A n hs := by
  intro v hv
  have g1 := grown_set (w := w2) r 0 X
  have g2 := grown_set (w := w2.setCell ⟨r, 0, none⟩ X) r 1 Y
  have hsz : r < v.heap.size := by have := hb.lt; have := g1.size; have := g2.size; have := hv.size; omega
  obtain ⟨o, ho⟩ : ∃ o, o = Obj.cells #[.slice none 0 0, .slice none 0 0] 25 (0, 0) := ⟨_, rfl⟩
  have hself : (v.heap.setIfInBounds r o)[r]? = some o := by simp [hsz]
  have hother : ∀ j, j ≠ r → (v.heap.setIfInBounds r o)[j]? = v.heap[j]? := fun j hj => Array.getElem?_setIfInBounds_ne (by omega)
  have hg : w2.grownBy { v with heap := v.heap.setIfInBounds r o } (some g) := by
    refine ⟨hv.os.trans (g2.os.trans g1.os), hv.tape.trans (g2.tape.trans g1.tape), hv.output.trans (g2.output.trans g1.output), ?_, fun j hj hne => ?_⟩
    · have := g1.size; have := g2.size; have := hv.size
      simp only [Array.size_setIfInBounds]; omega
    · by_cases hjr : j = r
      · subst hjr
        show (v.heap.setIfInBounds j o)[j]? = _
        rw [hself, ho]; exact hb.symm
      · show (v.heap.setIfInBounds r o)[j]? = _
        rw [hother j hjr, hv.block j (by have := g1.size; have := g2.size; omega) hne, g2.block j (by have := g1.size; omega) (by intro e; injection e; omega), g1.block j hj (by intro e; injection e; omega)]
  have hi := h _ hg
  refine ⟨hi.len, hi.bound, fun h0 => ?_⟩
  obtain ⟨b, off, e, hlt, hc⟩ := hi.addr h0
  have hlt' : b < v.heap.size := by simpa only [Array.size_setIfInBounds] using hlt
  have hne : b ≠ r := by
    rintro rfl
    have hl := hi.len
    have h1 := hc 0 _ (List.getElem?_eq_getElem (by omega))
    rw [cell_of_row _ b (off + 0) _ _ _ (by show (v.heap.setIfInBounds b o)[b]? = _; rw [hself, ho])] at h1
    rcases off with _ | _ | off <;> simp at h1
  refine ⟨b, off, e, hlt', fun j u hu => ?_⟩
  rw [← hc j u hu]
  exact World.cell?_of_block (hother b hne).symm
theorem dframe_out {w w2 : World} {B g p q n c m c' : Nat} {A A' : Option Addr} {hs ls : List Int} (hx : ∀ v, w2.grownBy v (some g) → Ints v v.heap.size A n hs ∧ Ints v v.heap.size A' m ls) (hb : Box w2 w.heap.size (.slice none 0 0) (.slice none 0 0))
    (hn : n ≤ 6) (hn1 : 1 ≤ n ∧ n ≤ c ∧ m ≤ c') (hm : m ≤ 6) (hr : Rd w2 B g q) (hlt : g < w.heap.size) (hg : w.grownBy w2 (some g)) (hq : q ≤ p + 20) :
    DFrame w B g p (.returned (.agg #[.slice A n c, .slice A' m c'])) ((w2.setCell ⟨w.heap.size, 0, none⟩ (.slice A n c)).setCell ⟨w.heap.size, 1, none⟩ (.slice A' m c')) := by
  have hB := hr.base
  refine ⟨A, n, c, A', m, c', hs, ls, q, rfl, fun v hv => ⟨pers_set (fun v h => (hx v h).1) hb v hv, pers_set (fun v h => (hx v h).2) hb v hv⟩, hn, hn1, hm, ?_, hq, ?_⟩
  · exact (hr.far (a := ⟨w.heap.size, 0, none⟩) (by show B ≤ w.heap.size; omega) (by show w.heap.size ≠ g; omega) _).far (a := ⟨w.heap.size, 1, none⟩) (by show B ≤ w.heap.size; omega) (by show w.heap.size ≠ g; omega) _
  · exact (((grown_set w.heap.size 0 _).row_in' (N := w.heap.size - 1) (by omega)).trans ((grown_set w.heap.size 1 _).row_in' (N := w.heap.size - 1) (by omega))).on_ hg

set_option maxRecDepth 100000 in
set_option maxHeartbeats 1000000 in
theorem l92Some_any (w : World) (B g p : Nat) (h : Rd w B g p) (hp : p ≤ 800000) :
    Calls Tryd.prog 8 #[.pointer (some ⟨g, 0, none⟩)] w (DFrame w B g (p + 1)) := by
  have hlt := h.lt
  have hbs := h.base
  have HR := Lib.hid h
  have hz := Box.new w (.slice none 0 0) (.slice none 0 0)
  have HZ := Lib.hid hz
  clear h hz
  go_enter Tryd.func8, Tryd.ntmps8
  go_wp2_with fail
  refine (pick_any _ _ _ _ _ (HR.out.alloc _) (by omega)).mono ?_
  rintro e w1 ⟨v1, rfl, hv1, hrd1, hg1⟩
  obtain ⟨hva1, hvb1⟩ := hv1 (by omega)
  clear hv1
  obtain ⟨j1, rfl⟩ := Int.eq_ofNat_of_zero_le hva1
  have hsz1 := hg1.size
  simp only [World.size_alloc] at hsz1
  have hz1 := HZ.out.grown hg1 (by intro e; injection e; omega)
  have HZ1 := Lib.hid hz1
  have HG := Lib.hid ((World.grownBy_alloc w _ _).trans hg1)
  replace HR := Lib.hid hrd1
  clear hrd1 hg1 hz1 HZ
  go_wp2_with fail
  rw [show (1 : Int) + (j1 : Int) = ((1 + j1 : Nat) : Int) from by omega]
  refine (l92Frame_any _ _ _ _ (1 + j1) HR.out (by omega) (by omega) (by omega)).mono ?_
  rintro e w2 ⟨A, n, c, A', m, c', hs, ls, q2, rfl, hx2, hn, hn1, hm, hrd2, hq2, hg2⟩
  have hsz2 := hg2.size
  have hz2 := HZ1.out.grown hg2 (by intro e; injection e; omega)
  have hc0 := hz2.fst
  have hc1 := hz2.snd
  have hf0 := hz2.free 0
  have hf1 := hz2.free 1
  have hzl := hz2.lt
  have hb3 := hz2.over (.slice A n c) (.slice A' m c')
  have hc3 := hb3.fst
  have hd3 := hb3.snd
  have hfin := dframe_out (p := p + 1) (c := c) (c' := c') hx2 hz2 hn hn1 hm hrd2 (by omega) (HG.out.trans hg2) (by omega)
  have HF := Lib.hid hfin
  have HC3 := Lib.hid hc3
  have HD3 := Lib.hid hd3
  clear hfin hx2 hrd2 hg2 hz2 hb3 hc3 hd3
  go_wp2
  exact bodyPost_ret (v := .agg #[.slice A n c, .slice A' m c']) (by simp [results, Tryd.results8, go_sem, HC3.out, HD3.out]) rfl HF.out
/-- a law's drawn frame: what the law holds behind the draw -/
def DrewF (w : World) (v : Value) (w' : World) : Prop :=
  ∃ A n c A' m c' hs ls, v = .agg #[.slice A n c, .slice A' m c'] ∧ Ints w' w'.heap.size A n hs ∧ Ints w' w'.heap.size A' m ls ∧ n ≤ 6 ∧ (1 ≤ n ∧ n ≤ c ∧ m ≤ c') ∧ m ≤ 6 ∧ Below w.heap.size w w'
theorem below_al1 (w : World) (o : Obj) : Below w.heap.size w (w.alloc o) := (Below.refl _ _).alloc (Nat.le_refl _) o
theorem drewF_of {w w2 : World} {r g n c m c' : Nat} {A A' : Option Addr} {hs ls : List Int} (hx : ∀ v, w2.grownBy v (some g) → Ints v v.heap.size A n hs ∧ Ints v v.heap.size A' m ls) (hb : Box w2 r (.slice none 0 0) (.slice none 0 0))
    (hn : n ≤ 6) (hn1 : 1 ≤ n ∧ n ≤ c ∧ m ≤ c') (hm : m ≤ 6) (hB : Below w.heap.size w w2) (hr : w.heap.size ≤ r) :
    DrewF w (.agg #[.slice A n c, .slice A' m c']) ((w2.setCell ⟨r, 0, none⟩ (.slice A n c)).setCell ⟨r, 1, none⟩ (.slice A' m c')) :=
  ⟨A, n, c, A', m, c', hs, ls, rfl, pers_set (fun v h => (hx v h).1) hb _ (World.grownBy.refl _ _), pers_set (fun v h => (hx v h).2) hb _ (World.grownBy.refl _ _), hn, hn1, hm, below_over hB hr _ _⟩

/-- a drawn frame, a rod and a digit -/
def DChange (w : World) (g : Nat) (e : Ending) (w' : World) : Prop :=
  ∃ A n c A' m c' hs ls k t, e = .returned (.tuple #[.agg #[.slice A n c, .slice A' m c'], .int .i64 k, .int .i64 t]) ∧ (∀ v, w'.grownBy v (some g) → Ints v v.heap.size A n hs ∧ Ints v v.heap.size A' m ls) ∧ n ≤ 6 ∧ (1 ≤ n ∧ n ≤ c ∧ m ≤ c') ∧ m ≤ 6 ∧ -1 ≤ k ∧ k ≤ 100 ∧ -1 ≤ t ∧ t ≤ 10 ∧ w.grownBy w' (some g)

end Go.Proofs.YtpaepdlkjblfgaaDoor
