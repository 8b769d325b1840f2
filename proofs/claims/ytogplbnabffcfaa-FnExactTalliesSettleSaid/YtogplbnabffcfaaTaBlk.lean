/-
  A block of memory by its cells: what is read there, what stays, what a store leaves.
-/
import Derived.Test.YtogplbnabffcfaaCommon
import Derived.Laws.Rows
namespace Go.Proofs.Ytogplbnabffcfaa
open Go.RowKit

/-- block b holds the cells cs -/
def Blk (w : World) (b : Nat) (cs : Array Value) (ty : TypeId) : Prop := w.heap[b]? = some (.cells cs ty (0, 0))
section
variable {w w' : World} {b : Nat} {cs : Array Value} {ty : TypeId}
theorem Blk.lt (h : Blk w b cs ty) : b < w.heap.size := (Array.getElem?_eq_some_iff.1 h).1
theorem Blk.keep (h : Blk w b cs ty) (hb : w'.heap[b]? = w.heap[b]?) : Blk w' b cs ty := hb.trans h
theorem Blk.cell (h : Blk w b cs ty) {j : Nat} {v : Value} (hv : cs[j]? = some v) : w.cell? ⟨b, j, none⟩ = some v := by rw [cell_of_row w b j _ _ _ h]; exact hv
theorem Blk.free (h : Blk w b cs ty) (j : Nat) : w.frozen? ⟨b, j, none⟩ = false := by
  unfold Blk at h
  simp [World.frozen?, h]
theorem Blk.new (w : World) (cs : Array Value) (ty : TypeId) : Blk (w.alloc (.cells cs ty)) w.heap.size cs ty := heap_alloc_new w _
theorem Blk.alloc (h : Blk w b cs ty) (o : Obj) : Blk (w.alloc o) b cs ty := h.keep (Below.heap_alloc w o b h.lt)
theorem Blk.drewN (h : Blk w b cs ty) (k : Nat) : Blk (w.drewN k) b cs ty := h
theorem Blk.drew (h : Blk w b cs ty) : Blk w.drew b cs ty := h
theorem Blk.next (h : Blk w b cs ty) (hb : Below w.heap.size w w') : Blk w' b cs ty := h.keep (hb.block b h.lt)
theorem Blk.below {B : Nat} (h : Blk w b cs ty) (hb : Below B w w') (hlt : b < B) : Blk w' b cs ty := h.keep (hb.block b hlt)
theorem Blk.grown (h : Blk w b cs ty) {row : Option Nat} (hg : w.grownBy w' row) (hne : some b ≠ row) : Blk w' b cs ty := h.keep (hg.block b h.lt hne)
theorem Blk.set (h : Blk w b cs ty) (j : Nat) (v : Value) : Blk (w.setCell ⟨b, j, none⟩ v) b (cs.setIfInBounds j v) ty := heap_setCell_same w b j _ _ v h
theorem Blk.other (h : Blk w b cs ty) {p : Addr} (hne : b ≠ p.block) (v : Value) : Blk (w.setCell p v) b cs ty := h.keep (heap_setCell_other w p b v hne)
theorem Blk.grows (_h : Blk w b cs ty) (j : Nat) (v : Value) : w.grownBy (w.setCell ⟨b, j, none⟩ v) (some b) :=
  ⟨rfl, rfl, rfl, by simp [World.setCell], fun k _ hne => heap_setCell_other w _ k _ (fun e => hne (by rw [e]))⟩
end
theorem Blk.set3 {w : World} {b : Nat} {ty : TypeId} {a0 a1 a2 : Value} (h : Blk w b #[a0, a1, a2] ty) (x0 x1 x2 : Value) :
    Blk (((w.setCell ⟨b, 0, none⟩ x0).setCell ⟨b, 1, none⟩ x1).setCell ⟨b, 2, none⟩ x2) b #[x0, x1, x2] ty := by
  have := ((h.set 0 x0).set 1 x1).set 2 x2
  simpa using this
theorem size_set (w : World) (p : Addr) (v : Value) : (w.setCell p v).heap.size = w.heap.size := by simp [World.setCell]
end Go.Proofs.Ytogplbnabffcfaa
