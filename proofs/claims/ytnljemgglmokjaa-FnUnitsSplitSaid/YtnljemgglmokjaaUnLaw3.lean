/-
  A split unit is as much, in plain words.
-/
import Derived.Test.YtnljemgglmokjaaUnLaw2
namespace Go.Proofs.Ytnljemgglmokjaa
open Go.RowKit

theorem contains_next {l : List Int} {k : Nat} {u z : Int} (h : l[k]? = some u) : (l.take (k + 1)).contains z = ((l.take k).contains z || (u == z)) := by
  rw [take_next h, List.contains_append]
  have e : [u].contains z = (u == z) := by
    by_cases h : u = z
    · subst h; simp
    · have h' : z ≠ u := fun e => h e.symm
      simp [h, h']
  rw [e]
theorem not_mem_erase {l : List Int} : ∀ (a : Int) (j : Nat) (d : Int), Un.asc a l = true → l[j]? = some d → d ∉ l.eraseIdx j := by
  induction l with
  | nil => intro a j d _ h; simp at h
  | cons x xs ih =>
    intro a j d h hu
    simp only [Un.asc, Bool.and_eq_true, decide_eq_true_eq] at h
    cases j with
    | zero =>
      simp at hu
      subst hu
      rw [List.eraseIdx_cons_zero]
      exact fun hm => by have := Un.asc_mem xs x h.2 x hm; omega
    | succ j =>
      have hu' : xs[j]? = some d := by simpa using hu
      have := Un.asc_mem xs x h.2 d (List.mem_of_getElem? hu')
      rw [List.eraseIdx_cons_succ]
      intro hm
      rcases List.mem_cons.1 hm with rfl | hm
      · omega
      · exact ih x j d h.2 hu' hm
theorem split_law {xs : List Int} {k : Int} (hok : okSp xs k = true) : ∃ (j : Nat) (d : Int), k = (j : Int) ∧ xs[j]? = some d ∧ 2 ≤ d ∧ d ≤ 1000000000 ∧ (splitL xs k).length = xs.length + 1 ∧
    d ∉ splitL xs k ∧ d + 1 ∈ splitL xs k ∧ d * (d + 1) ∈ splitL xs k ∧ (∀ a b c e : Nat, Low a b xs → Low c e (splitL xs k) → a = c ∧ b = e) := by
  have hok' := hok
  rw [okSp, Bool.and_eq_true] at hok'
  obtain ⟨hd, hs⟩ := hok'
  obtain ⟨hoku, k0, k1⟩ := (okD_iff xs k).1 hd
  obtain ⟨j, rfl⟩ := Int.eq_ofNat_of_zero_le k0
  have hj : j < xs.length := by omega
  obtain ⟨d, hu⟩ : ∃ d, xs[j]? = some d := ⟨_, List.getElem?_eq_getElem hj⟩
  obtain ⟨d2, d9⟩ := Un.okU_mem hoku d (List.mem_of_getElem? hu)
  have hsp := splitL_is hu
  have h2 : 2 * (d + 1) ≤ d * (d + 1) := Int.mul_le_mul_of_nonneg_right d2 (by omega)
  refine ⟨j, d, rfl, hu, d2, d9, ?_, ?_, ?_, ?_, fun a b c e ha hc => ?_⟩
  · rw [hsp, Un.ins_length, Un.ins_length, List.length_eraseIdx_of_lt hj]; omega
  · rw [hsp, Un.mem_ins, Un.mem_ins]
    rintro (h | h | h)
    · omega
    · omega
    · exact not_mem_erase 1 j d (okU_parts hoku) hu h
  · rw [hsp, Un.mem_ins, Un.mem_ins]; exact .inr (.inl rfl)
  · rw [hsp, Un.mem_ins]; exact .inl rfl
  · have pa := Un.den_pos xs (Un.okU_mem hoku)
    have pb := Un.den_pos (splitL xs (j : Int)) (Un.okU_mem hs)
    have hcr := Un.tells_cross ha.1 hc.1 pa pb (by rw [hsp]; exact Un.split_cross xs j d hu)
    obtain ⟨h1, h3⟩ := Un.lowest_unique (a : Int) (b : Int) (c : Int) (e : Int) (by omega) (by omega) (by have := ha.2.1; omega) (by have := hc.2.1; omega) (by simpa [Int.gcd] using ha.2.2.2.2) (by simpa [Int.gcd] using hc.2.2.2.2) hcr
    exact ⟨by omega, by omega⟩
end Go.Proofs.Ytnljemgglmokjaa
