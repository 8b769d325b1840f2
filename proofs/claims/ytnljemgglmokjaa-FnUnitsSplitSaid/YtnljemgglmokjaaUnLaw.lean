/-
  What the laws of units say, in plain words.
-/
import Derived.Test.YtnljemgglmokjaaUnSpec4
import Derived.Test.YtnljemgglmokjaaUnDraw
namespace Go.Proofs.Ytnljemgglmokjaa
open Go.RowKit

theorem ins_back {d : Int} : ∀ (l : List Int) (a : Int) (j : Nat), Un.asc a l = true → l[j]? = some d → Un.ins d (l.eraseIdx j) = l := by
  intro l
  induction l with
  | nil => intro a j _ h; simp at h
  | cons x xs ih =>
    intro a j h hu
    simp only [Un.asc, Bool.and_eq_true, decide_eq_true_eq] at h
    cases j with
    | zero =>
      simp at hu
      subst hu
      rw [List.eraseIdx_cons_zero]
      cases xs with
      | nil => rfl
      | cons y ys =>
        have := h.2
        simp only [Un.asc, Bool.and_eq_true, decide_eq_true_eq] at this
        rw [Un.ins, if_neg (by omega)]
    | succ j =>
      have hu' : xs[j]? = some d := by simpa using hu
      have := Un.asc_mem xs x h.2 d (List.mem_of_getElem? hu')
      rw [List.eraseIdx_cons_succ, Un.ins, if_pos (by omega), ih x j h.2 hu']
theorem okU_erase {xs : List Int} (h : Un.okU xs = true) (j : Nat) : Un.okU (xs.eraseIdx j) = true := by
  simp only [Un.okU, Bool.and_eq_true, decide_eq_true_eq] at h ⊢
  exact ⟨Nat.le_trans (List.length_eraseIdx_le xs j) h.1, asc_erase 1 j h.2⟩
theorem drop_join {xs : List Int} {j : Nat} {d : Int} (h : Un.okU xs = true) (hu : xs[j]? = some d) : okJ (xs.eraseIdx j) [d] = true ∧ Un.insAll (xs.eraseIdx j) [d] = xs := by
  have e : Un.insAll (xs.eraseIdx j) [d] = xs := by
    have hasc : Un.asc 1 xs = true := by simp only [Un.okU, Bool.and_eq_true] at h; exact h.2
    exact ins_back xs 1 j hasc hu
  refine ⟨?_, e⟩
  obtain ⟨d2, d9⟩ := Un.okU_mem h d (List.mem_of_getElem? hu)
  have h1 : Un.okU [d] = true := by simp [Un.okU, Un.asc]; omega
  rw [okJ, okU_erase h j, h1, e, h]
  rfl
theorem one_at {xs : List Int} {j : Nat} {d : Int} (hu : xs[j]? = some d) : (xs.drop j).take 1 = [d] := by rw [drop_at hu]; rfl
end Go.Proofs.Ytnljemgglmokjaa
