/-
  Rows that lie apart: for the laws that mark what a call gave back.
-/
import Derived.Test.YtpaepdlkjblfgaaDoorOwn
namespace Go.Proofs.YtpaepdlkjblfgaaDoor
open Go.RowKit

/-- a step on the row s leaves the row t alone -/
def Apart (s t : Value) : Prop := ∀ k, t.ownBlock = some k → s.ownBlock ≠ some k
theorem Own.apart {w1 w2 : World} {B n n2 c c2 : Nat} {A A2 : Option Addr} {xs ys : List Int} (h1 : Own w1 B A n c xs) (h2 : Own w2 w1.heap.size A2 n2 c2 ys) : Apart (.slice A n c) (.slice A2 n2 c2) := by
  intro k hk e
  have := (h1.blk k e).2
  have := (h2.blk k hk).1
  omega
theorem Own.apart' {w1 w2 : World} {B n n2 c c2 : Nat} {A A2 : Option Addr} {xs ys : List Int} (h1 : Own w1 B A n c xs) (h2 : Own w2 w1.heap.size A2 n2 c2 ys) : Apart (.slice A2 n2 c2) (.slice A n c) := by
  intro k hk e
  have := (h1.blk k hk).2
  have := (h2.blk k e).1
  omega
end Go.Proofs.YtpaepdlkjblfgaaDoor
