/-
  l5Change of the reference: a digit is added on a rod or taken from it.
-/
import Derived.Test.YtpaepdlkjblfgaaDoorFrSpec2
import Derived.Test.YtpaepdlkjblfgaaDoorFrBy
namespace Go.Proofs.YtpaepdlkjblfgaaDoor
open Go.RowKit

theorem frAt_next {s : Int} {es : List Int} {k : Nat} (hk : k ≤ es.length) : frAt s es (k : Int) 1 = chgAt s es k 1 := by
  by_cases h : k < es.length
  · exact frAt_in s es k 1 h (by omega) (by omega)
  · rw [frAt_out _ _ _ _ (by omega)]
    have := chgP_out s es k 1 0 (by omega) (by omega)
    rw [chgP_zero] at this
    exact this.symm
theorem chgP_map {s : Int} {ds : List Int} {k : Nat} {g p : Int} {R : Option (List Int × Int)} (h : chgAt s ds k g = R) : chgP s ds k g p = R.map fun q => (q.1, p + q.2) := by rw [chgP, h]
/-- what was there at W is there, but block r, which was written -/
def SG (W : World) (r : Nat) (w : World) : Prop := W.grownBy w (some r)
theorem SG.refl (W : World) (r : Nat) : SG W r W := World.grownBy.refl W _
theorem SG.drew {W w : World} {r : Nat} (h : SG W r w) : SG W r w.drew := grown_drew h
theorem SG.below {W w w' : World} {r : Nat} (h : SG W r w) (hb : Below w.heap.size w w') : SG W r w' := World.grownBy.trans h (grown_of_below hb _)
theorem SG.set2 {W w : World} {r : Nat} (h : SG W r w) (u v : Value) : SG W r ((w.setCell ⟨r, 0, none⟩ u).setCell ⟨r, 1, none⟩ v) := (World.grownBy.trans h (grown_set r 0 u)).trans (grown_set r 1 v)
theorem SG.base {w0 W w : World} {r : Nat} (hb : Below w0.heap.size w0 W) (h : SG W r w) (hr : w0.heap.size ≤ r) : Below w0.heap.size w0 w := hb.grown h hb.size (by rintro q ⟨⟩; exact hr)
theorem SB.below {W w w' : World} (h : SB W w) (hb : Below w.heap.size w w') : SB W w' := below_chain h hb
theorem _root_.Go.RowKit.Below.drew_ {w w' : World} (h : Below w.drew.heap.size w.drew w') : Below w.heap.size w w' := ⟨h.os, h.tape, h.output, h.size, h.block⟩
theorem frAt_upper {s : Int} {ds : List Int} {k x : Int} {R : List Int × Int} (h : frAt s ds k x = some R) : 0 ≤ R.2 ∧ R.2 ≤ 2 * ds.length := by
  unfold frAt at h
  split at h
  · exact chgAt_upper h
  · cases h
theorem cell_of_new {X : World} {b j : Nat} {cs : Array Value} {t : TypeId} {v : Value} (hb : X.heap.size = b) (hv : cs[j]? = some v) : (X.alloc (.cells cs t)).drew.cell? ⟨b, j, none⟩ = some v := by
  subst hb
  show (X.alloc (.cells cs t)).cell? _ = _
  rw [cell_of_row _ X.heap.size j _ _ _ (heap_alloc_new X _)]
  exact hv
theorem FrRes.out_ {w w' : World} {R : Option (List Int × Int)} {e : Ending} (h : FrRes w R e w') : ∃ A c A' c', e = .returned (.tuple #[.agg #[.slice A (resL R).length c, .slice A' (resL R).length c'], .int .i64 (resN R), .bool R.isSome]) ∧ FrOwn w' w.heap.size (.agg #[.slice A (resL R).length c, .slice A' (resL R).length c']) (resL R) ∧ Below w.heap.size w w' := by
  obtain ⟨⟨v, rfl, ho⟩, hb⟩ := h
  have ho' := ho
  obtain ⟨A, c, A', c', rfl, -⟩ := ho'
  exact ⟨A, c, A', c', rfl, ho, hb⟩
theorem FrOwn.ints {w : World} {B n m c c' : Nat} {A A' : Option Addr} {ds : List Int} (h : FrOwn w B (.agg #[.slice A n c, .slice A' m c']) ds) : n = ds.length ∧ m = ds.length ∧ Ints w w.heap.size A n (HiL ds) ∧ Ints w w.heap.size A' m (LoL ds) := by
  obtain ⟨A2, c2, A3, c3, he, h1, h2, _⟩ := h
  injection he with he
  have e1 := congrArg (fun a => a.toList) he
  simp only [List.cons.injEq, Value.slice.injEq, and_true] at e1
  obtain ⟨⟨rfl, rfl, rfl⟩, rfl, rfl, rfl⟩ := e1
  exact ⟨rfl, rfl, h1.ints, h2.ints⟩

end Go.Proofs.YtpaepdlkjblfgaaDoor
