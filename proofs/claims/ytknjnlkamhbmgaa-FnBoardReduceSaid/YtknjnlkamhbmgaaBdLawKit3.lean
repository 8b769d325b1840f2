/-
  Raises and lowerings: what is read off the board behind one.
-/
import Derived.Test.YtknjnlkamhbmgaaBdLawKit
namespace Go.Proofs.Ytknjnlkamhbmgaa
open Go.RowKit

theorem raise_parts {xs : List Int} {p : Int} (h : raiseOK xs p = true) : Bd.okB xs = true ∧ 0 ≤ p ∧ p < 9 ∧ Bd.okB (Bd.raiseL xs p.toNat) = true := by
  simp [raiseOK] at h
  exact ⟨h.1.1.1, h.1.1.2, h.1.2, okB_of_fit (by rw [Bd.raiseL_length]; exact ((Bd.okB_iff xs).1 h.1.1.1).1) h.2⟩
theorem lower_parts {xs : List Int} {p : Int} (h : lowerOK xs p = true) : Bd.okB xs = true ∧ 1 ≤ p ∧ p < 10 ∧ Bd.okB (Bd.lowerL xs p.toNat) = true := by
  simp [lowerOK] at h
  exact ⟨h.1.1.1, h.1.1.2, h.1.2, okB_of_fit (by rw [Bd.lowerL_length]; exact ((Bd.okB_iff xs).1 h.1.1.1).1) h.2⟩
theorem fit_of_okB {xs : List Int} (h : Bd.okB xs = true) : fitB xs = true := by rw [← okB_fit ((Bd.okB_iff xs).1 h).1]; exact h
theorem lower_raise {xs : List Int} {p : Nat} (h : p + 1 < xs.length) : Bd.lowerL (Bd.raiseL xs p) (p + 1) = xs := by
  have := Bd.move_back xs p (0 - Bd.grp p) 1 h
  simpa [Bd.lowerL, Bd.raiseL] using this
theorem raise_lower {xs : List Int} {p : Nat} (h : p + 1 < xs.length) : Bd.raiseL (Bd.lowerL xs (p + 1)) p = xs := by
  have := Bd.move_back xs p (Bd.grp p) (-1) h
  simpa [Bd.lowerL, Bd.raiseL] using this
theorem V_raise {xs : List Int} {p : Nat} (h : p + 1 < xs.length) : Bd.V true (Bd.raiseL xs p) = Bd.V true xs := by
  have := Bd.V_move xs true p 1 h
  simpa [Bd.raiseL, Bd.nthG_grp] using this
theorem V_lower {xs : List Int} {p : Nat} (h : p + 1 < xs.length) : Bd.V true (Bd.lowerL xs (p + 1)) = Bd.V true xs := by
  have := Bd.V_move xs true p (-1) h
  simpa [Bd.lowerL, Bd.nthG_grp] using this
theorem sum_raise {xs : List Int} {p : Nat} (h : p + 1 < xs.length) : Bd.sum (Bd.raiseL xs p) = Bd.sum xs - Bd.grp p + 1 := by
  have := Bd.sum_move xs p (0 - Bd.grp p) 1 h
  rw [Bd.raiseL, this]; omega
theorem sum_lower {xs : List Int} {p : Nat} (h : p + 1 < xs.length) : Bd.sum (Bd.lowerL xs (p + 1)) = Bd.sum xs + Bd.grp p - 1 := by
  have := Bd.sum_move xs p (Bd.grp p) (-1) h
  rw [Bd.lowerL, show p + 1 - 1 = p from rfl, this]; omega
theorem R_raise {xs : List Int} {p : Nat} (h : p + 1 < xs.length) : Bd.R true 0 (Bd.raiseL xs p) = Bd.R true 0 xs - 1 := by
  have := Bd.R_move p true 0 xs h
  simpa [Bd.raiseL, Bd.nthG_grp] using this
/-- a raise, taken back -/
theorem raise_back {xs : List Int} {p : Int} (h : raiseOK xs p = true) : lowerOK (Bd.raiseL xs p.toNat) (p + 1) = true ∧ Bd.lowerL (Bd.raiseL xs p.toNat) (p + 1).toNat = xs := by
  obtain ⟨h1, h2, h3, h4⟩ := raise_parts h
  have hl := ((Bd.okB_iff xs).1 h1).1
  have e : (p + 1).toNat = p.toNat + 1 := by omega
  have e2 : Bd.lowerL (Bd.raiseL xs p.toNat) (p + 1).toNat = xs := by rw [e]; exact lower_raise (by omega)
  refine ⟨?_, e2⟩
  simp only [lowerOK, e2, h4, fit_of_okB h1]
  simp; omega
theorem lower_back {xs : List Int} {p : Int} (h : lowerOK xs p = true) : raiseOK (Bd.lowerL xs p.toNat) (p - 1) = true ∧ Bd.raiseL (Bd.lowerL xs p.toNat) (p - 1).toNat = xs := by
  obtain ⟨h1, h2, h3, h4⟩ := lower_parts h
  have hl := ((Bd.okB_iff xs).1 h1).1
  have e : p.toNat = (p - 1).toNat + 1 := by omega
  have e2 : Bd.raiseL (Bd.lowerL xs p.toNat) (p - 1).toNat = xs := by rw [e]; exact raise_lower (by omega)
  refine ⟨?_, e2⟩
  simp only [raiseOK, e2, h4, fit_of_okB h1]
  simp; omega
/-- the numbers a raise turns -/
theorem raise_nums {xs : List Int} {p : Int} (h : raiseOK xs p = true) : bVal (Bd.raiseL xs p.toNat) = Bd.V true xs ∧ ∃ g, (g = 5 ∨ g = 2) ∧ bCnt (Bd.raiseL xs p.toNat) = Bd.sum xs - g + 1 := by
  obtain ⟨h1, h2, h3, h4⟩ := raise_parts h
  have hl := ((Bd.okB_iff xs).1 h1).1
  exact ⟨by rw [bVal_yes h4, V_raise (by omega)], _, Bd.grp_cases _, by rw [bCnt_yes h4, sum_raise (by omega)]⟩
theorem lower_nums {xs : List Int} {p : Int} (h : lowerOK xs p = true) : bVal (Bd.lowerL xs p.toNat) = Bd.V true xs ∧ ∃ g, (g = 5 ∨ g = 2) ∧ bCnt (Bd.lowerL xs p.toNat) = Bd.sum xs + g - 1 := by
  obtain ⟨h1, h2, h3, h4⟩ := lower_parts h
  have hl := ((Bd.okB_iff xs).1 h1).1
  obtain ⟨q, hq⟩ : ∃ q : Nat, p.toNat = q + 1 := ⟨p.toNat - 1, by omega⟩
  rw [hq] at h4 ⊢
  exact ⟨by rw [bVal_yes h4, V_lower (by omega)], _, Bd.grp_cases q, by rw [bCnt_yes h4, sum_lower (by omega)]⟩
theorem raise_rais {xs : List Int} {p : Int} (h : raiseOK xs p = true) : (bRais xs = -1) ∨ (bRais (Bd.raiseL xs p.toNat) = bRais xs - 1 ∧ 0 ≤ bRais xs ∧ bRais xs ≤ 1000) := by
  obtain ⟨h1, h2, h3, h4⟩ := raise_parts h
  have hl := ((Bd.okB_iff xs).1 h1)
  by_cases hv : Bd.V true xs ≤ 99999
  · right
    have hs := sum_range h1
    have e1 : bRais xs = Bd.R true 0 xs := by simp [bRais, h1, hv]
    have e2 : bRais (Bd.raiseL xs p.toNat) = Bd.R true 0 (Bd.raiseL xs p.toNat) := by
      have : Bd.V true (Bd.raiseL xs p.toNat) ≤ 99999 := by rw [V_raise (by omega)]; exact hv
      simp [bRais, h4, this]
    have h0 := Bd.R_nonneg xs true 0 (by omega) (fun x hx => (hl.2 x hx).1)
    have hR := Bd.R_sum xs true 0 (by omega) (fun x hx => (hl.2 x hx).1)
    rw [e1, e2, R_raise (by omega)]
    refine ⟨rfl, h0, ?_⟩
    have hC := Bd.C_nonneg xs true 0 (by omega) (fun x hx => (hl.2 x hx).1)
    have hN := Bd.D_eq_N xs true 0
    have hD := sum_range (Bd.okB_D (Bd.V true xs + 0))
    rw [hl.1] at hN
    rw [hN] at hD
    omega
  · left
    simp [bRais, hv]
end Go.Proofs.Ytknjnlkamhbmgaa
