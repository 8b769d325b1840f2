/-
  A heap of at most five debts as a list, and who pays whom; no program in sight.
-/
namespace Go.Proofs.Ytogplbnabffcfaa.Ta

/-- whether one debt is taken ahead of another one: (person, worth) -/
def less (a b : Nat × Int) : Bool := if a.2 = b.2 then decide (a.1 < b.1) else decide (b.2 < a.2)
def le (a b : Nat × Int) : Prop := less b a = false
theorem le_iff (a b : Nat × Int) : le a b ↔ b.2 < a.2 ∨ (a.2 = b.2 ∧ a.1 ≤ b.1) := by
  unfold le less
  by_cases h : b.2 = a.2
  · rw [if_pos h, decide_eq_false_iff_not]; omega
  · rw [if_neg h, decide_eq_false_iff_not]; omega
theorem less_iff (a b : Nat × Int) : less a b = true ↔ b.2 < a.2 ∨ (a.2 = b.2 ∧ a.1 < b.1) := by
  unfold less
  by_cases h : a.2 = b.2
  · rw [if_pos h, decide_eq_true_iff]; omega
  · rw [if_neg h, decide_eq_true_iff]; omega
theorem le_of_less {a b : Nat × Int} (h : less a b = true) : le a b := by rw [less_iff] at h; rw [le_iff]; omega
theorem le_trans {a b c : Nat × Int} (h : le a b) (k : le b c) : le a c := by rw [le_iff] at *; omega
theorem le_refl (a : Nat × Int) : le a a := by rw [le_iff]; omega
theorem le_antisymm {a b : Nat × Int} (h : le a b) (k : le b a) : a = b := by
  rw [le_iff] at *
  exact Prod.ext (by omega) (by omega)
abbrev d0 : Nat × Int := (0, 0)
def swapL (xs : List (Nat × Int)) (i j : Nat) : List (Nat × Int) := (xs.set i (xs.getD j d0)).set j (xs.getD i d0)
def upL : Nat → List (Nat × Int) → Nat → List (Nat × Int)
  | 0, xs, _ => xs
  | f + 1, xs, j => if (j - 1) / 2 = j ∨ less (xs.getD j d0) (xs.getD ((j - 1) / 2) d0) = false then xs else upL f (swapL xs ((j - 1) / 2) j) ((j - 1) / 2)
/-- the child that goes down -/
def child (xs : List (Nat × Int)) (i n : Nat) : Nat := if 2 * i + 2 < n ∧ less (xs.getD (2 * i + 2) d0) (xs.getD (2 * i + 1) d0) = true then 2 * i + 2 else 2 * i + 1
def downL : Nat → List (Nat × Int) → Nat → Nat → List (Nat × Int)
  | 0, xs, _, _ => xs
  | f + 1, xs, i, n => if n ≤ 2 * i + 1 then xs else if less (xs.getD (child xs i n) d0) (xs.getD i d0) = false then xs else downL f (swapL xs i (child xs i n)) (child xs i n) n
def Heap : List (Nat × Int) → Prop
  | [] => True
  | [_] => True
  | [a, b] => le a b
  | [a, b, c] => le a b ∧ le a c
  | [a, b, c, d] => le a b ∧ le a c ∧ le b d
  | [a, b, c, d, e] => le a b ∧ le a c ∧ le b d ∧ le b e
  | _ => False
theorem swapL_length (xs : List (Nat × Int)) (i j : Nat) : (swapL xs i j).length = xs.length := by simp [swapL]
theorem upL_length (f : Nat) : ∀ xs j, (upL f xs j).length = xs.length := by
  induction f with
  | zero => intro xs j; rfl
  | succ f ih => intro xs j; unfold upL; split <;> simp [ih, swapL_length]
theorem downL_length (f : Nat) : ∀ xs i n, (downL f xs i n).length = xs.length := by
  induction f with
  | zero => intro xs i n; rfl
  | succ f ih =>
    intro xs i n; unfold downL
    split
    · rfl
    · split
      · rfl
      · rw [ih, swapL_length]
theorem nl {a b : Nat × Int} (h : ¬ less a b = false) : le a b := le_of_less (by simpa using h)
theorem up_ok (xs : List (Nat × Int)) (x : Nat × Int) (h : Heap xs) (hl : xs.length ≤ 4) : Heap (upL 3 (xs ++ [x]) xs.length) ∧ (upL 3 (xs ++ [x]) xs.length).Perm (x :: xs) := by
  match xs, h, hl with
  | [], _, _ => exact ⟨by simp [upL, Heap], by simp [upL]⟩
  | [a], h, _ =>
    by_cases h1 : less x a = false
    · exact ⟨by simp [upL, Heap, h1]; exact h1, by simp [upL, h1]; exact List.Perm.swap _ _ _⟩
    · exact ⟨by simp [upL, swapL, Heap, h1]; exact nl h1, by simp [upL, swapL, h1]⟩
  | [a, b], h, _ =>
    by_cases h1 : less x a = false
    · exact ⟨by simp [upL, Heap, h1]; exact ⟨h, h1⟩, by simp [upL, h1]; exact (List.perm_append_comm (l₁ := [a, b]) (l₂ := [x]))⟩
    · exact ⟨by simp [upL, swapL, Heap, h1]; exact ⟨le_trans (nl h1) h, nl h1⟩, by simp [upL, swapL, h1]; exact (List.Perm.swap _ _ _)⟩
  | [a, b, c], h, _ =>
    obtain ⟨hab, hac⟩ := h
    by_cases h1 : less x b = false
    · exact ⟨by simp [upL, Heap, h1]; exact ⟨hab, hac, h1⟩, by simp [upL, h1]; exact (List.perm_append_comm (l₁ := [a, b, c]) (l₂ := [x]))⟩
    · by_cases h2 : less x a = false
      · refine ⟨by simp [upL, swapL, Heap, h1, h2]; exact ⟨h2, hac, nl h1⟩, ?_⟩
        simp [upL, swapL, h1, h2]
        exact ((List.Perm.cons a ((List.Perm.cons x (List.Perm.swap b c [])))).trans (List.Perm.swap x a _))
      · refine ⟨by simp [upL, swapL, Heap, h1, h2]; exact ⟨nl h2, le_trans (nl h2) hac, hab⟩, ?_⟩
        simp [upL, swapL, h1, h2]
        exact (List.Perm.swap b c [])
  | [a, b, c, d], h, _ =>
    obtain ⟨hab, hac, hbd⟩ := h
    by_cases h1 : less x b = false
    · exact ⟨by simp [upL, Heap, h1]; exact ⟨hab, hac, hbd, h1⟩, by simp [upL, h1]; exact (List.perm_append_comm (l₁ := [a, b, c, d]) (l₂ := [x]))⟩
    · by_cases h2 : less x a = false
      · refine ⟨by simp [upL, swapL, Heap, h1, h2]; exact ⟨h2, hac, le_trans (nl h1) hbd, nl h1⟩, ?_⟩
        simp [upL, swapL, h1, h2]
        exact (List.Perm.cons a (List.Perm.cons x (List.perm_append_comm (l₁ := [c, d]) (l₂ := [b])))).trans (List.Perm.swap x a _)
      · refine ⟨by simp [upL, swapL, Heap, h1, h2]; exact ⟨nl h2, le_trans (nl h2) hac, le_trans hab hbd, hab⟩, ?_⟩
        simp [upL, swapL, h1, h2]
        exact (List.perm_append_comm (l₁ := [c, d]) (l₂ := [b]))
/-- the first one is ahead of all -/
theorem heap_root {a : Nat × Int} {xs : List (Nat × Int)} (h : Heap (a :: xs)) : ∀ y ∈ a :: xs, le a y := by
  match xs, h with
  | [], _ => intro y hy; simp at hy; subst hy; exact le_refl _
  | [b], h => intro y hy; simp at hy; rcases hy with rfl | rfl; exact le_refl _; exact h
  | [b, c], h => intro y hy; simp at hy; rcases hy with rfl | rfl | rfl; exact le_refl _; exact h.1; exact h.2
  | [b, c, d], h => intro y hy; simp at hy; rcases hy with rfl | rfl | rfl | rfl; exact le_refl _; exact h.1; exact h.2.1; exact le_trans h.1 h.2.2
  | [b, c, d, e], h => intro y hy; simp at hy; rcases hy with rfl | rfl | rfl | rfl | rfl; exact le_refl _; exact h.1; exact h.2.1; exact le_trans h.1 h.2.2.1; exact le_trans h.1 h.2.2.2
/-- the first one taken: what is left is a heap -/
theorem down_ok (a : Nat × Int) (xs : List (Nat × Int)) (h : Heap (a :: xs)) : ∃ ys, downL 3 (swapL (a :: xs) 0 xs.length) 0 xs.length = ys ++ [a] ∧ Heap ys ∧ ys.Perm xs ∧ ys.length = xs.length := by
  match xs, h with
  | [], _ => exact ⟨[], by simp [downL, swapL], trivial, List.Perm.refl _, rfl⟩
  | [b], h => exact ⟨[b], by simp [downL, swapL], trivial, List.Perm.refl _, rfl⟩
  | [b, c], h =>
    by_cases h1 : less b c = false
    · exact ⟨[c, b], by simp [downL, swapL, child, h1], h1, List.Perm.swap _ _ _, rfl⟩
    · exact ⟨[b, c], by simp [downL, swapL, child, h1], nl h1, List.Perm.refl _, rfl⟩
  | [b, c, d], h =>
    obtain ⟨hab, hac, hbd⟩ := h
    by_cases hcb : less c b = true
    · by_cases h1 : less c d = false
      · exact absurd hcb (by have h3 : le d c := h1; have := le_trans hbd h3; unfold le at this; simp [this])
      · exact ⟨[c, b, d], by simp [downL, swapL, child, hcb, h1], ⟨le_of_less hcb, nl h1⟩, List.Perm.swap _ _ _, rfl⟩
    · by_cases h1 : less b d = false
      · have e : b = d := le_antisymm hbd h1
        subst e
        exact ⟨[b, b, c], by simp [downL, swapL, child, hcb, h1], ⟨le_refl _, by simpa [le] using hcb⟩, List.Perm.cons _ (List.Perm.swap _ _ _), rfl⟩
      · exact ⟨[b, d, c], by simp [downL, swapL, child, hcb, h1], ⟨hbd, by simpa [le] using hcb⟩, List.Perm.cons _ (List.Perm.swap _ _ _), rfl⟩
  | [b, c, d, e], h =>
    obtain ⟨hab, hac, hbd, hbe⟩ := h
    by_cases hcb : less c b = true
    · have hcb' := le_of_less hcb
      by_cases h1 : less c e = false
      · exact absurd hcb (by have h3 : le e c := h1; have := le_trans hbe h3; unfold le at this; simp [this])
      · exact ⟨[c, b, e, d], by simp [downL, swapL, child, hcb, h1], ⟨hcb', nl h1, hbd⟩, by exact (List.Perm.swap b c _).trans (List.Perm.cons b (List.Perm.cons c (List.Perm.swap d e []))), rfl⟩
    · have hbc : le b c := by simpa [le] using hcb
      by_cases h1 : less b e = false
      · have e2 : b = e := le_antisymm hbe h1
        subst e2
        exact ⟨[b, b, c, d], by simp [downL, swapL, child, hcb, h1], ⟨le_refl _, hbc, hbd⟩, by exact (List.Perm.cons b (List.perm_append_comm (l₁ := [b]) (l₂ := [c, d]))), rfl⟩
      · by_cases h2 : less d e = false
        · exact ⟨[b, e, c, d], by simp [downL, swapL, child, hcb, h1, h2], ⟨hbe, hbc, h2⟩, by exact (List.Perm.cons b (List.perm_append_comm (l₁ := [e]) (l₂ := [c, d]))), rfl⟩
        · exact ⟨[b, d, c, e], by simp [downL, swapL, child, hcb, h1, h2], ⟨hbd, hbc, nl h2⟩, by exact (List.Perm.cons b (List.Perm.swap c d [e])), rfl⟩
end Go.Proofs.Ytogplbnabffcfaa.Ta
