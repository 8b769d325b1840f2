/-
  l5All of the reference: a number is added to a frame.
-/
import Derived.Test.YtpaepdlkjblfgaaDoorFrSpec3
namespace Go.Proofs.YtpaepdlkjblfgaaDoor
open Go.RowKit

theorem FrOwn.parts {w : World} {B n : Nat} {v : Value} {ds : List Int} (h : FrOwn w B v ds) (hl : ds.length = n) (hn : 0 < n) :
    ∃ hi lo ch cl, v = .agg #[.slice (some ⟨hi, 0, none⟩) n ch, .slice (some ⟨lo, 0, none⟩) n cl] ∧ Own w B (some ⟨hi, 0, none⟩) n ch (HiL ds) ∧ Own w B (some ⟨lo, 0, none⟩) n cl (LoL ds) ∧ hi ≠ lo ∧ B ≤ hi ∧ B ≤ lo ∧ hi < w.heap.size ∧ lo < w.heap.size := by
  subst hl
  obtain ⟨A, c, A', c', rfl, h1, h2, h3, h4⟩ := h
  obtain ⟨hi, rfl, b1, b2, _⟩ := h1.at_ hn
  obtain ⟨lo, rfl, b3, b4, _⟩ := h2.at_ hn
  exact ⟨hi, lo, c, c', rfl, h1, h2, fun e => h3 lo rfl (by rw [← e]; rfl), b1, b3, b2, b4⟩
theorem FrOwn.of_parts {w : World} {B n hi lo ch cl : Nat} {ds : List Int} (h1 : Own w B (some ⟨hi, 0, none⟩) n ch (HiL ds)) (h2 : Own w B (some ⟨lo, 0, none⟩) n cl (LoL ds)) (hne : hi ≠ lo) (hl : ds.length = n) : FrOwn w B (.agg #[.slice (some ⟨hi, 0, none⟩) n ch, .slice (some ⟨lo, 0, none⟩) n cl]) ds := by
  subst hl
  exact ⟨_, _, _, _, rfl, h1, h2, apart_of hne, apart_of (Ne.symm hne)⟩
theorem ten_in {N T : Int} {r : Bool} (h : (decide (0 ≤ N) && decide (N ≤ T - 1)) = r) (w : World) : Calls Tryd.prog 21 #[.int .i64 N, .int .i64 0, .int .i64 (T - 1)] w fun e w' => e = .returned (.bool r) ∧ w = w' := l6In_is h w

theorem Own.over2 {w : World} {B b g n c : Nat} {xs : List Int} (h : Own w B (some ⟨g, 0, none⟩) n c xs) (hne : g ≠ b) (x y : Value) : Own ((w.setCell ⟨b, 0, none⟩ x).setCell ⟨b, 1, none⟩ y) B (some ⟨g, 0, none⟩) n c xs :=
  h.block ((heap_setCell_other _ ⟨b, 1, none⟩ g _ hne).trans (heap_setCell_other _ ⟨b, 0, none⟩ g _ hne))
theorem chgAt_digs {s : Int} (hs : Fr.Sgn s) {ds es : List Int} {k : Nat} {g n : Int} (hd : Fr.Digs ds) (h0 : 0 ≤ g) (h9 : g ≤ 9) (h : chgAt s ds k g = some (es, n)) : Fr.Digs es ∧ es.length = ds.length ∧ True := by
  unfold chgAt at h
  rw [Option.map_eq_some_iff] at h
  obtain ⟨⟨r, n'⟩, hr, h'⟩ := h
  simp only [Prod.mk.injEq] at h'
  obtain ⟨rfl, rfl⟩ := h'
  obtain ⟨c1, c2, _⟩ := Fr.chg_some s hs _ _ _ _ (digs_drop hd k) h0 h9 hr
  rw [List.length_drop] at c2
  refine ⟨?_, ?_, trivial⟩
  · intro d hd'
    rcases List.mem_append.1 hd' with h | h
    · exact hd d (List.mem_of_mem_take h)
    · exact c1 d h
  · simp; omega

end Go.Proofs.YtpaepdlkjblfgaaDoor
