/-
  The laws' own small helpers: lists of integers that are compared and copied; whatever the lists.
-/
import Derived.Test.YtogplbnabffcfaaChecked
import Derived.Test.YtogplbnabffcfaaMem
import Derived.Deep.QuietTactic
import Derived.BigQuiet
import Derived.Handy
import Derived.WalkLawsBesides
namespace Go.Proofs.Ytogplbnabffcfaa
open Go.RowKit

def sameB (xs ys : List Int) : Bool := decide (xs = ys)
theorem sameB_iff (xs ys : List Int) : sameB xs ys = true ↔ xs = ys := by simp [sameB]
theorem sameB_self (xs : List Int) : sameB xs xs = true := by simp [sameB]
theorem sameB_ne {xs ys : List Int} (h : xs ≠ ys) : sameB xs ys = false := by simpa [sameB] using h
theorem take_next {α : Type} {xs : List α} {k : Nat} {u : α} (h : xs[k]? = some u) : xs.take (k + 1) = xs.take k ++ [u] := by rw [List.take_add_one, h]; rfl
theorem at_ne {xs ys : List Int} {k : Nat} {u v : Int} (h1 : xs[k]? = some u) (h2 : ys[k]? = some v) (h : (u != v) = true) : sameB xs ys = false := by
  refine sameB_ne fun e => ?_
  rw [e, h2] at h1
  simp at h1
  simp [h1] at h
theorem take_all {xs ys : List Int} {n : Nat} (hx : xs.length = n) (hy : ys.length = n) (h : xs.take n = ys.take n) : sameB xs ys = true := by
  rw [List.take_of_length_le (by omega), List.take_of_length_le (by omega)] at h
  exact (sameB_iff _ _).2 h

set_option maxHeartbeats 400000 in
theorem sameInts_any (A B : Option Addr) (n m ca cb : Nat) (xs ys : List Int) (w : World) (B1 B2 : Nat) (hx : Ints w B1 A n xs) (hy : Ints w B2 B m ys) :
    Calls Try.prog 12 #[.slice A n ca, .slice B m cb] w fun e w' => e = .returned (.bool (sameB xs ys)) ∧ ∃ k, w' = w.drewN k := by
  have hlx := hx.len
  have hly := hy.len
  have hbx := hx.bound
  by_cases hnm : n = m
  · subst hnm
    have HX := Lib.hid hlx
    have HY := Lib.hid hly
    clear hlx hly
    go_enter Try.func12, Try.ntmps12
    go_wp2
    go_loopw [5] (fun i wr => ∃ k q : Nat, k ≤ n ∧ i = .int .i64 k ∧ wr = w.drewN q ∧ xs.take k = ys.take k) (fun i _ => n - (intOf i).toNat)
    case atStart => exact ⟨0, 0, Nat.zero_le _, rfl, rfl, rfl⟩
    case round =>
      obtain ⟨k, q, hk, rfl, rfl, heq⟩ := hrel
      have HEQ := Lib.hid heq
      clear heq
      by_cases hlt : k < n
      · obtain ⟨b1, o1, u, rfl, hb1, hu, hc1⟩ := hx.at_ hlt
        obtain ⟨b2, o2, v, rfl, hb2, hv, hc2⟩ := hy.at_ hlt
        have HU := Lib.hid hu
        have HV := Lib.hid hv
        clear hu hv
        rcases hne : (u != v) with _ | _
        · go_wp2_with fail
          go_quiet (fail)
          go_wp2
          go_roundw
          case rel =>
            have e : u = v := by simpa using hne
            subst e
            exact ⟨k + 1, _, by omega, by go_num, rfl, by rw [take_next HU.out, take_next HV.out, HEQ.out]⟩
          case measure => simp [intOf]; omega
        · go_wp2_with fail
          go_quiet (fail)
          go_wp2
          go_ret
          exact ⟨ret_bool (at_ne HU.out HV.out hne).symm, _, World.drewN_drewN _ _ _⟩
      · go_wp2
        go_ret
        obtain rfl : k = n := by omega
        exact ⟨ret_bool (take_all HX.out HY.out HEQ.out).symm, _, rfl⟩
  · go_enter Try.func12, Try.ntmps12
    go_wp2
    go_ret
    exact ⟨ret_bool (by simp [sameB]; intro h; rw [h] at hlx; omega), 0, rfl⟩

set_option maxHeartbeats 400000 in
theorem l6In_any (n a b : Int) (w : World) : Calls Try.prog 53 #[.int .i64 n, .int .i64 a, .int .i64 b] w fun e w' => e = .returned (.bool (decide (a ≤ n) && decide (n ≤ b))) ∧ w = w' := by
  by_cases h1 : a ≤ n <;> by_cases h2 : n ≤ b
  all_goals
    go_enter Try.func53, Try.ntmps53
    go_wp2
    go_ret
    exact ⟨ret_bool (by simp [h1, h2]), rfl⟩
end Go.Proofs.Ytogplbnabffcfaa
