/-
  Two boards laid together: what is read off their sum.
-/
import Derived.Test.YtknjnlkamhbmgaaBdLawKit
namespace Go.Proofs.Ytknjnlkamhbmgaa
open Go.RowKit

theorem lay_comm {xs ys : List Int} (h : layOK xs ys = true) : layOK ys xs = true := by
  simp [layOK] at h ⊢
  rw [Bd.addL_comm]
  exact ⟨⟨h.1.2, h.1.1⟩, h.2⟩
theorem take_lay {xs ys : List Int} (h : layOK xs ys = true) : takeOK (Bd.addL xs ys) ys = redOK xs ∧ takeL (Bd.addL xs ys) ys = redL xs := by
  obtain ⟨h1, h2, h3, h4⟩ := lay_parts h
  have e : Bd.V true (Bd.addL xs ys) - Bd.V true ys = Bd.V true xs := by rw [Bd.V_addL _ _ _ h4]; omega
  exact ⟨by simp [takeOK, redOK, h1, h2, h3, e], by unfold takeL redL; rw [e]⟩
theorem sum_lay {xs ys : List Int} (h : layOK xs ys = true) : bCnt (Bd.addL xs ys) = Bd.sum xs + Bd.sum ys := by
  obtain ⟨_, _, h3, h4⟩ := lay_parts h
  rw [bCnt_yes h3, Bd.sum_addL _ _ h4]
end Go.Proofs.Ytknjnlkamhbmgaa
