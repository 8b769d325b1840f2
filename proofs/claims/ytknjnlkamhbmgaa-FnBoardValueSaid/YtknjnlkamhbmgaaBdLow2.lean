/-
  A board with one counter more at a place: its value.
-/
import Derived.Test.YtknjnlkamhbmgaaBdLow
namespace Go.Proofs.Ytknjnlkamhbmgaa
open Go.RowKit

theorem bVal_no {xs : List Int} (h : Bd.okB xs = false) : bVal xs = -1 := by simp [bVal, h]
theorem value_more {xs : List Int} (hok : Bd.okB xs = true) {k : Nat} {u : Int} (hk : k < 10) (hu : xs[k]? = some u) :
    bVal (xs.set k (u + 1)) = if u < 20 then Bd.V true xs + Bd.worth k else -1 := by
  have hl := (Bd.okB_iff xs).1 hok
  have hkl : k < xs.length := by omega
  have hg : xs.getD k 0 = u := by rw [List.getD_eq_getElem?_getD, hu]; rfl
  have hur := hl.2 u (List.mem_of_getElem? hu)
  split
  · next h20 =>
    have hok2 : Bd.okB (xs.set k (u + 1)) = true := by
      rw [Bd.okB_iff]
      refine ⟨by simp [hl.1], fun x hx => ?_⟩
      rcases List.mem_or_eq_of_mem_set hx with h | h
      · exact hl.2 x h
      · omega
    rw [bVal_yes hok2]
    have := Bd.V_set xs true k 1 hkl
    rw [hg, Bd.W_worth] at this
    omega
  · next h20 =>
    refine bVal_no (okB_out (k := k) (u := u + 1) ?_ (.inr (by omega)))
    rw [List.getElem?_set_self hkl]
theorem worth_mul {k : Nat} {m : Int} {b : Bool} (h : ((k : Int) % 2 == 0) = b) : Value.int .i64 (if b then 5 * m else 2 * m) = .int .i64 (m * Bd.grp k) := by
  congr 1
  unfold Bd.grp
  cases b
  · have : ¬ k % 2 = 0 := by simp at h; omega
    rw [if_neg this]; simp; omega
  · have : k % 2 = 0 := by simp at h; omega
    rw [if_pos this]; simp; omega
end Go.Proofs.Ytknjnlkamhbmgaa
