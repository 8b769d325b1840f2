/-
  What the boards' laws read: facts on lists that are moved along; the words of the contracts at reduced boards.
-/
import Derived.Test.YtknjnlkamhbmgaaBdDraw2
import Derived.Test.YtknjnlkamhbmgaaBdFns4
import Derived.Test.YtknjnlkamhbmgaaBdSpec3
namespace Go.Proofs.Ytknjnlkamhbmgaa
open Go.RowKit

theorem ints_same {w v : World} {n q : Nat} {A : Option Addr} {xs : List Int} (h : Ints w w.heap.size A n xs) (hv : v = w.drewN q) : Ints v v.heap.size A n xs := by
  subst hv
  exact h
theorem below_same {B q : Nat} {a w v : World} (h : Below B a w) (hv : v = w.drewN q) : Below B a v := by
  subst hv
  exact below_drewN h q

theorem okV_iff (v : Int) : okV v = true ↔ 0 ≤ v ∧ v ≤ 99999 := by simp [okV]
theorem V_DD {v : Int} (h : okV v = true) : Bd.V true (Bd.D true 10 v) = v := by
  have := (okV_iff v).1 h
  exact Bd.V_D 10 true v this.1 (by rw [Bd.P10]; omega)
theorem redOK_D {v : Int} (h : okV v = true) : redOK (Bd.D true 10 v) = true := by simp [redOK, Bd.okB_D, V_DD h, h]
theorem redL_D {v : Int} (h : okV v = true) : redL (Bd.D true 10 v) = Bd.D true 10 v := by simp [redL, V_DD h]
theorem bVal_D {v : Int} (h : okV v = true) : bVal (Bd.D true 10 v) = v := by simp [bVal, Bd.okB_D, V_DD h]
theorem bCnt_D (v : Int) : bCnt (Bd.D true 10 v) = Bd.sum (Bd.D true 10 v) := by simp [bCnt, Bd.okB_D]
theorem bFew_yes {v : Int} (h : okV v = true) : bFew v = Bd.sum (Bd.D true 10 v) := by simp [bFew, h]
theorem isRed_D (v : Int) : (Bd.okB (Bd.D true 10 v) && Bd.isRed true (Bd.D true 10 v)) = true := by rw [Bd.okB_D, Bd.red_D]; rfl

theorem V_range {xs : List Int} (h : Bd.okB xs = true) : 0 ≤ Bd.V true xs ∧ Bd.V true xs ≤ 20000000 := by
  have h' := (Bd.okB_iff xs).1 h
  have := Bd.V_take_range h'.2 10 (Nat.le_refl _) (by omega)
  rw [List.take_of_length_le (by omega)] at this
  exact ⟨this.1, by omega⟩
theorem sum_range {xs : List Int} (h : Bd.okB xs = true) : 0 ≤ Bd.sum xs ∧ Bd.sum xs ≤ 200 := by
  have h' := (Bd.okB_iff xs).1 h
  have := Bd.sum_take_range h'.2 10 (by omega)
  rw [List.take_of_length_le (by omega)] at this
  exact ⟨this.1, by omega⟩
theorem bVal_yes {xs : List Int} (h : Bd.okB xs = true) : bVal xs = Bd.V true xs := by simp [bVal, h]
theorem bCnt_yes {xs : List Int} (h : Bd.okB xs = true) : bCnt xs = Bd.sum xs := by simp [bCnt, h]
theorem take_parts {xs ys : List Int} (h : takeOK xs ys = true) : Bd.okB xs = true ∧ Bd.okB ys = true ∧ okV (Bd.V true xs - Bd.V true ys) = true := by
  simp [takeOK] at h
  exact ⟨h.1.1, h.1.2, h.2⟩
theorem okB_of_fit {xs : List Int} (h : xs.length = 10) (hf : fitB xs = true) : Bd.okB xs = true := by rw [okB_fit h, hf]
theorem lay_parts {xs ys : List Int} (h : layOK xs ys = true) : Bd.okB xs = true ∧ Bd.okB ys = true ∧ Bd.okB (Bd.addL xs ys) = true ∧ xs.length = ys.length := by
  simp [layOK] at h
  have hx := ((Bd.okB_iff xs).1 h.1.1).1
  have hy := ((Bd.okB_iff ys).1 h.1.2).1
  exact ⟨h.1.1, h.1.2, okB_of_fit (by rw [Bd.addL_length _ _ (by omega)]; exact hx) h.2, by omega⟩
theorem V_lay {xs ys : List Int} (h : layOK xs ys = true) : bVal (Bd.addL xs ys) = Bd.V true xs + Bd.V true ys := by
  obtain ⟨_, _, h3, h4⟩ := lay_parts h
  rw [bVal_yes h3, Bd.V_addL _ _ _ h4]
end Go.Proofs.Ytknjnlkamhbmgaa
