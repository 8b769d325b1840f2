/-
  Digit, value and powers of ten of the program.
-/
import Derived.Test.YtpaepdlkjblfgaaDoorFrChange
namespace Go.Proofs.YtpaepdlkjblfgaaDoor
open Go.RowKit

theorem ten_bd (n : Nat) (h : n ≤ 6) : 1 ≤ Fr.ten n ∧ Fr.ten n ≤ 1000000 := by
  have hn : n = 0 ∨ n = 1 ∨ n = 2 ∨ n = 3 ∨ n = 4 ∨ n = 5 ∨ n = 6 := by omega
  rcases hn with rfl | rfl | rfl | rfl | rfl | rfl | rfl <;> decide
/-- of a frame that is valid, or of another one -/
def frIs {α : Type} (hs ls : List Int) (f : List Int → α) (z R : α) : Prop :=
  (¬ FrOk hs ls ∧ R = z) ∨ ∃ ds, Fr.Digs ds ∧ hs = HiL ds ∧ ls = LoL ds ∧ 1 ≤ ds.length ∧ ds.length ≤ 6 ∧ R = f ds
def digAt (ds : List Int) (k : Int) : Int := if 0 ≤ k ∧ k < ds.length then ds.getD k.toNat 0 else -1
theorem digAt_out {ds : List Int} {k : Int} (h : ¬ (0 ≤ k ∧ k < ds.length)) : digAt ds k = -1 := if_neg h
theorem digAt_in {ds : List Int} {j : Nat} {d : Int} (h : ds[j]? = some d) : digAt ds (j : Int) = d := by
  have := (List.getElem?_eq_some_iff.1 h).1
  rw [digAt, if_pos ⟨by omega, by omega⟩, Int.toNat_natCast, List.getD_eq_getElem?_getD, h]; rfl

theorem val_le6 {ds : List Int} (h : Fr.Digs ds) (h6 : ds.length ≤ 6) : 0 ≤ Fr.val ds ∧ Fr.val ds ≤ 999999 := by
  have := Fr.val_range ds h
  have := ten_bd ds.length h6
  omega
theorem digs_drop {ds : List Int} (h : Fr.Digs ds) (k : Nat) : Fr.Digs (ds.drop k) := fun d hd => h d (List.mem_of_mem_drop hd)
end Go.Proofs.YtpaepdlkjblfgaaDoor
