/-
  The laws' own small helpers: lists of integers that are compared and copied; whatever the lists.
-/
import Derived.Test.YtpaepdlkjblfgaaDoorChecked
import Derived.Test.YtpaepdlkjblfgaaDoorMem
import Derived.Deep.QuietTactic
import Derived.BigQuiet
import Derived.Handy
import Derived.WalkLawsBesides
namespace Go.Proofs.YtpaepdlkjblfgaaDoor
open Go.RowKit

def sameB (xs ys : List Int) : Bool := decide (xs = ys)
theorem sameB_iff (xs ys : List Int) : sameB xs ys = true ↔ xs = ys := by simp [sameB]
theorem sameB_self (xs : List Int) : sameB xs xs = true := by simp [sameB]
theorem sameB_ne {xs ys : List Int} (h : xs ≠ ys) : sameB xs ys = false := by simpa [sameB] using h
theorem take_next {α : Type} {xs : List α} {k : Nat} {u : α} (h : xs[k]? = some u) : xs.take (k + 1) = xs.take k ++ [u] := by rw [List.take_add_one, h]; rfl
theorem at_ne {xs ys : List Int} {k : Nat} {u v : Int} (h1 : xs[k]? = some u) (h2 : ys[k]? = some v) (h : (u != v) = true) : sameB xs ys = false := by
  refine sameB_ne fun e => ?_
  rw [e, h2] at h1
  simp at h1
  simp [h1] at h
theorem take_all {xs ys : List Int} {n : Nat} (hx : xs.length = n) (hy : ys.length = n) (h : xs.take n = ys.take n) : sameB xs ys = true := by
  rw [List.take_of_length_le (by omega), List.take_of_length_le (by omega)] at h
  exact (sameB_iff _ _).2 h

set_option maxHeartbeats 400000 in
theorem l6In_any (n a b : Int) (w : World) : Calls Tryd.prog 21 #[.int .i64 n, .int .i64 a, .int .i64 b] w fun e w' => e = .returned (.bool (decide (a ≤ n) && decide (n ≤ b))) ∧ w = w' := by
  by_cases h1 : a ≤ n <;> by_cases h2 : n ≤ b
  all_goals
    go_enter Tryd.func21, Tryd.ntmps21
    go_wp2
    go_ret
    exact ⟨ret_bool (by simp [h1, h2]), rfl⟩
end Go.Proofs.YtpaepdlkjblfgaaDoor
