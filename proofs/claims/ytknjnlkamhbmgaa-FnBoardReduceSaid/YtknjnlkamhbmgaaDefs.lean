/-
  What both the program and the reference are said to give back on boards: the words of the contracts.
-/
import Derived.Test.YtknjnlkamhbmgaaOwn
import Derived.Test.YtknjnlkamhbmgaaBdPlain2
namespace Go.Proofs.Ytknjnlkamhbmgaa
open Go.RowKit

def fitB (xs : List Int) : Bool := xs.all fun x => decide (0 ≤ x) && decide (x ≤ 20)
def BoardPost (w : World) (ok : Bool) (xs : List Int) (e : Ending) (w' : World) : Prop :=
  (∃ A n c, e = .returned (.tuple #[.slice A n c, .bool ok]) ∧ Own w' w.heap.size A n c (if ok then xs else [])) ∧ Below w.heap.size w w'
def okV (v : Int) : Bool := decide (0 ≤ v) && decide (v ≤ 99999)
def bVal (xs : List Int) : Int := if Bd.okB xs then Bd.V true xs else -1
def bCnt (xs : List Int) : Int := if Bd.okB xs then Bd.sum xs else -1
def bFew (v : Int) : Int := if okV v then Bd.sum (Bd.D true 10 v) else -1
def bRais (xs : List Int) : Int := if Bd.okB xs && decide (Bd.V true xs ≤ 99999) then Bd.R true 0 xs else -1
/-- the reduced board of a board's value -/
def redOK (xs : List Int) : Bool := Bd.okB xs && okV (Bd.V true xs)
def redL (xs : List Int) : List Int := Bd.D true 10 (Bd.V true xs)
def raiseOK (xs : List Int) (p : Int) : Bool := Bd.okB xs && decide (0 ≤ p) && decide (p < 9) && fitB (Bd.raiseL xs p.toNat)
def lowerOK (xs : List Int) (p : Int) : Bool := Bd.okB xs && decide (1 ≤ p) && decide (p < 10) && fitB (Bd.lowerL xs p.toNat)
def layOK (xs ys : List Int) : Bool := Bd.okB xs && Bd.okB ys && fitB (Bd.addL xs ys)
def takeOK (xs ys : List Int) : Bool := Bd.okB xs && Bd.okB ys && okV (Bd.V true xs - Bd.V true ys)
def takeL (xs ys : List Int) : List Int := Bd.D true 10 (Bd.V true xs - Bd.V true ys)

theorem quiet_same {P : Program} {f : FuncId} {args : Array Value} {w : World} {n : Nat} {v : Value}
    (h : Calls P f args (w.drewN n) fun e w' => e = .returned v ∧ w.drewN n = w') : Calls P f args (w.drewN n) fun e w'' => e = .returned v ∧ ∃ m, w'' = w.drewN m :=
  h.mono fun _ _ ⟨he, hm⟩ => ⟨he, n, hm.symm⟩
end Go.Proofs.Ytknjnlkamhbmgaa
