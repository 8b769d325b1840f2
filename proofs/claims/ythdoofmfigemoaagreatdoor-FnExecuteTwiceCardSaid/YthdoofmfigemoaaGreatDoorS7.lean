/-
  Joined texts.
-/
import Derived.Test.YthdoofmfigemoaaGreatDoorS1
import Derived.Test.YthdoofmfigemoaaGreatDoorS2
import Derived.Test.YthdoofmfigemoaaGreatDoorS4
import Derived.Laws.IdiomStrings
import Derived.RangeFuncNested
import Derived.RangeFuncBound
import Derived.RangeFuncCalls
import Derived.RangeFuncLeaves
import Derived.Shelf.Abstract
import Derived.Shelf.RegionOpen
import Derived.WalkKit
import Derived.OwnWalkIn
import Derived.TacticsInMore
import Derived.LoopNIn
import Derived.LoopIn
import Derived.Test.YthdoofmfigemoaaGreatDoorSShelf
import Derived.Shelf.Strings.BuilderK
import Derived.Maps.AppendAt
import Derived.Deep.RegionHeld3
set_option linter.unusedSimpArgs false
set_option linter.unusedVariables false
set_option maxRecDepth 100000
set_option maxHeartbeats 4000000
section
namespace Go.Proofs.YthdoofmfigemoaaGreatDoor.Gl
def horner (n : Int) (l : List Int) : Int := l.foldl (fun n x => 10 * n + x) n
theorem horner_snoc (xs : List Int) (x n : Int) : horner n (xs ++ [x]) = 10 * horner n xs + x := by simp [horner]
theorem horner_nonneg (xs : List Int) : ∀ n, 0 ≤ n → (∀ x ∈ xs, 0 ≤ x) → 0 ≤ horner n xs := by
 induction xs with
 | nil => intro n h _; exact h
 | cons x xs ih => intro n h hx; exact ih _ (by have := hx x (by simp); show 0 ≤ 10 * n + x; omega) (fun y hy => hx y (by simp [hy]))
theorem horner_lt (xs : List Int) : ∀ n, 0 ≤ n → (∀ x ∈ xs, 0 ≤ x ∧ x ≤ 9) → horner n xs < (n + 1) * 10 ^ xs.length := by
 induction xs with
 | nil => intro n _ _; simp [horner]; omega
 | cons x xs ih =>
  intro n h hx
  have hx0 := hx x (by simp)
  have := ih (10 * n + x) (by omega) (fun y hy => hx y (by simp [hy]))
  simp only [horner, List.foldl_cons, List.length_cons, Int.pow_succ] at this ⊢
  have h2 : (10 * n + x + 1) * 10 ^ xs.length ≤ (10 * (n + 1)) * 10 ^ xs.length := Int.mul_le_mul_of_nonneg_right (by omega) (Int.pow_nonneg (by omega))
  rw [show (n + 1) * (10 ^ xs.length * 10) = (10 * (n + 1)) * 10 ^ xs.length from by rw [Int.mul_comm (10 ^ xs.length) 10, ← Int.mul_assoc, Int.mul_comm (n + 1) 10]]
  omega
def IsRoot (m r s : Int) : Prop := 0 ≤ r ∧ r * r + s = m ∧ 0 ≤ s ∧ s ≤ 2 * r
theorem sq_le_of (a b : Int) (h0 : 0 ≤ a) (h : a ≤ b) : a * a ≤ b * b := Int.mul_le_mul h h h0 (by omega)
theorem root_unique {m r s r' s' : Int} (h : IsRoot m r s) (h' : IsRoot m r' s') : r = r' ∧ s = s' := by
 obtain ⟨a1, a2, a3, a4⟩ := h
 obtain ⟨b1, b2, b3, b4⟩ := h'
 have e : r = r' := by
  rcases Int.lt_trichotomy r r' with hlt | heq | hgt
  ·have h1 := sq_le_of (r + 1) r' (by omega) (by omega)
   rw [Int.add_mul, Int.mul_add] at h1; omega
  ·exact heq
  ·have h1 := sq_le_of (r' + 1) r (by omega) (by omega)
   rw [Int.add_mul, Int.mul_add] at h1; omega
 subst e
 exact ⟨rfl, by omega⟩
theorem isRoot_of_sq {m r : Int} (h0 : 0 ≤ r) (h1 : r * r ≤ m) (h2 : m < (r + 1) * (r + 1)) : IsRoot m r (m - r * r) := by
 rw [Int.add_mul, Int.mul_add] at h2
 exact ⟨h0, by omega, by omega, by omega⟩
theorem dig_next {m r s p g : Int} (h : IsRoot m r s) (hp0 : 0 ≤ p) (hp : p ≤ 99) (h0 : 0 ≤ g) (h9 : g ≤ 9)
  (hfit : (20 * r + g) * g ≤ 100 * s + p) (hnot : g = 9 ∨ 100 * s + p < (20 * r + (g + 1)) * (g + 1)) :
  IsRoot (100 * m + p) (10 * r + g) (100 * s + p - (20 * r + g) * g) := by
 obtain ⟨a1, a2, a3, a4⟩ := h
 have e1 : (20 * r + g) * g = 20 * (r * g) + g * g := by rw [Int.add_mul, Int.mul_assoc]
 have e2 : (10 * r + g) * (10 * r + g) = 100 * (r * r) + 20 * (r * g) + g * g := by
  rw [Int.add_mul, Int.mul_add, Int.mul_add, Int.mul_comm g (10 * r)]
  have : 10 * r * (10 * r) = 100 * (r * r) := by rw [Int.mul_assoc, Int.mul_left_comm r 10 r, ← Int.mul_assoc]; rfl
  have : 10 * r * g = 10 * (r * g) := by rw [Int.mul_assoc]
  omega
 refine ⟨by omega, by omega, by omega, ?_⟩
 rcases hnot with rfl | hn
 ·omega
 ·have e3 : (20 * r + (g + 1)) * (g + 1) = 20 * (r * g) + 20 * r + g * g + 2 * g + 1 := by
   rw [Int.mul_add, Int.add_mul, Int.mul_one, Int.add_mul, Int.mul_assoc]
   omega
  omega
end Go.Proofs.YthdoofmfigemoaaGreatDoor.Gl
end
section
namespace Go.Proofs.YthdoofmfigemoaaGreatDoor.Gl
theorem take_next {α : Type} {xs : List α} {k : Nat} {u : α} (h : xs[k]? = some u) : xs.take (k + 1) = xs.take k ++ [u] := by rw [List.take_add_one, h]; rfl
def dgF (r p : Int) : Nat → Nat
 | 0 => 0
 | k + 1 => if p < (20 * r + ((k + 1 : Nat) : Int)) * ((k + 1 : Nat) : Int) then dgF r p k else k + 1
def dg (r p : Int) : Nat := dgF r p 9
theorem dgF_down {r p : Int} {k : Nat} (h : p < (20 * r + ((k + 1 : Nat) : Int)) * ((k + 1 : Nat) : Int)) : dgF r p (k + 1) = dgF r p k := by rw [dgF, if_pos h]
theorem dgF_here {r p : Int} {k : Nat} (h : ¬ p < (20 * r + (k : Int)) * (k : Int)) : dgF r p k = k := by
 cases k with
 | zero => rfl
 | succ k => rw [dgF, if_neg h]
theorem dgF_le (r p : Int) : ∀ k, dgF r p k ≤ k := by
 intro k
 induction k with
 | zero => exact Nat.le_refl _
 | succ k ih => rw [dgF]; split <;> omega
theorem dgF_fit (r p : Int) (h0 : 0 ≤ p) : ∀ k, (20 * r + (dgF r p k : Int)) * (dgF r p k : Int) ≤ p := by
 intro k
 induction k with
 | zero => simp [dgF]; exact h0
 | succ k ih =>
  rw [dgF]
  split
  ·exact ih
  ·omega
theorem dgF_not (r p : Int) : ∀ k, dgF r p k = k ∨ p < (20 * r + ((dgF r p k : Int) + 1)) * ((dgF r p k : Int) + 1) := by
 intro k
 induction k with
 | zero => exact .inl rfl
 | succ k ih =>
  rw [dgF]
  split
  ·next h =>
   refine .inr ?_
   rcases ih with e | e
   ·rw [e]; push_cast at h; exact h
   ·exact e
  ·exact .inl rfl
theorem dg_spec {r p : Int} (h0 : 0 ≤ p) : dg r p ≤ 9 ∧ (20 * r + (dg r p : Int)) * (dg r p : Int) ≤ p ∧ ((dg r p : Int) = 9 ∨ p < (20 * r + ((dg r p : Int) + 1)) * ((dg r p : Int) + 1)) :=
 ⟨dgF_le r p 9, dgF_fit r p h0 9, by rcases dgF_not r p 9 with e | e; left; unfold dg; rw [e]; rfl; exact .inr e⟩
def rStep (t : List Int × Int × Int) (x : Int) : List Int × Int × Int :=
 (t.1 ++ [(dg t.2.1 (t.2.2 * 100 + x) : Int)], t.2.1 * 10 + (dg t.2.1 (t.2.2 * 100 + x) : Int), t.2.2 * 100 + x - (20 * t.2.1 + (dg t.2.1 (t.2.2 * 100 + x) : Int)) * (dg t.2.1 (t.2.2 * 100 + x) : Int))
def rAll (xs : List Int) : List Int × Int × Int := xs.foldl rStep ([], 0, 0)
def hund (xs : List Int) : Int := xs.foldl (fun n x => 100 * n + x) 0
theorem rAll_snoc (xs : List Int) (x : Int) : rAll (xs ++ [x]) = rStep (rAll xs) x := by simp [rAll]
theorem hund_snoc (xs : List Int) (x : Int) : hund (xs ++ [x]) = 100 * hund xs + x := by simp [hund]
structure RInv (xs : List Int) : Prop where
 root : IsRoot (hund xs) (rAll xs).2.1 (rAll xs).2.2
 val : horner 0 (rAll xs).1 = (rAll xs).2.1
 len : (rAll xs).1.length = xs.length
 digs : ∀ d ∈ (rAll xs).1, 0 ≤ d ∧ d ≤ 9
theorem rInv_nil : RInv [] := ⟨⟨by decide, by decide, by decide, by decide⟩, rfl, rfl, by simp [rAll]⟩
theorem rInv_snoc {xs : List Int} {x : Int} (h : RInv xs) (h0 : 0 ≤ x) (h1 : x ≤ 99) : RInv (xs ++ [x]) := by
 obtain ⟨hr, hv, hl, hd⟩ := h
 have hs0 := hr.2.2.1
 obtain ⟨g9, gf, gn⟩ := dg_spec (r := (rAll xs).2.1) (p := (rAll xs).2.2 * 100 + x) (by omega)
 rw [show (rAll xs).2.2 * 100 + x = 100 * (rAll xs).2.2 + x from by omega] at g9 gf gn
 have hn := dig_next (g := (dg (rAll xs).2.1 (100 * (rAll xs).2.2 + x) : Int)) hr h0 h1 (by omega) (by omega) gf gn
 refine ⟨?_, ?_, ?_, ?_⟩
 ·rw [rAll_snoc, hund_snoc]
  simp only [rStep]
  rw [show (rAll xs).2.2 * 100 + x = 100 * (rAll xs).2.2 + x from by omega, show (rAll xs).2.1 * 10 + (dg (rAll xs).2.1 (100 * (rAll xs).2.2 + x) : Int) = 10 * (rAll xs).2.1 + (dg (rAll xs).2.1 (100 * (rAll xs).2.2 + x) : Int) from by omega]
  exact hn
 ·rw [rAll_snoc]
  simp only [rStep]
  rw [horner_snoc, hv]
  omega
 ·rw [rAll_snoc]; simp [rStep, hl]
 ·rw [rAll_snoc]
  simp only [rStep]
  intro d hdm
  rcases List.mem_append.1 hdm with hm | hm
  ·exact hd d hm
  ·simp at hm
   rw [show (rAll xs).2.2 * 100 + x = 100 * (rAll xs).2.2 + x from by omega] at hm
   omega
theorem rInv_all (xs : List Int) (h : ∀ x ∈ xs, 0 ≤ x ∧ x ≤ 99) : ∀ k, RInv (xs.take k) := by
 intro k
 induction k with
 | zero => exact rInv_nil
 | succ k ih =>
  by_cases hk : k < xs.length
  ·rw [take_next (List.getElem?_eq_getElem hk)]
   have := h _ (List.getElem_mem hk)
   exact rInv_snoc ih this.1 this.2
  ·rw [List.take_of_length_le (by omega)] at ih ⊢
   exact ih
def pr (m : Nat) : List Int := if _h : m = 0 then [] else pr (m / 100) ++ [((m % 100 : Nat) : Int)]
termination_by m
decreasing_by omega
def prs (n : Nat) : List Int := pr (n / 100) ++ [((n % 100 : Nat) : Int)]
theorem pr_zero : pr 0 = [] := by rw [pr]; simp
theorem pr_pos {m : Nat} (h : m ≠ 0) : pr m = pr (m / 100) ++ [((m % 100 : Nat) : Int)] := by rw [pr]; simp [h]
theorem pr_range (m : Nat) : ∀ x ∈ pr m, 0 ≤ x ∧ x ≤ 99 := by
 induction m using Nat.strongRecOn with
 | ind m ih =>
  by_cases h : m = 0
  ·subst h; rw [pr_zero]; simp
  ·rw [pr_pos h]
   intro x hx
   rcases List.mem_append.1 hx with hx | hx
   ·exact ih (m / 100) (by omega) x hx
   ·simp at hx; omega
theorem prs_range (n : Nat) : ∀ x ∈ prs n, 0 ≤ x ∧ x ≤ 99 := by
 intro x hx
 rcases List.mem_append.1 hx with hx | hx
 ·exact pr_range _ x hx
 ·simp at hx; omega
theorem hund_pr (m : Nat) : hund (pr m) = m := by
 induction m using Nat.strongRecOn with
 | ind m ih =>
  by_cases h : m = 0
  ·subst h; rw [pr_zero]; rfl
  ·rw [pr_pos h, hund_snoc, ih (m / 100) (by omega)]; omega
theorem hund_prs (n : Nat) : hund (prs n) = n := by rw [prs, hund_snoc, hund_pr]; omega
theorem pr_length (k : Nat) : ∀ m, m < 100 ^ k → (pr m).length ≤ k := by
  induction k with
  | zero => intro m h; have : m = 0 := by simpa using h
            subst this; rw [pr_zero]; simp
  | succ k ih =>
    intro m h
    by_cases h0 : m = 0
    · subst h0; rw [pr_zero]; simp
    · rw [pr_pos h0, List.length_append, List.length_singleton]
      have := ih (m / 100) (by rw [Nat.pow_succ] at h; omega)
      omega
theorem prs_length {n : Nat} (h : n ≤ 1000000000) : 1 ≤ (prs n).length ∧ (prs n).length ≤ 5 := by
 have h2 := pr_length 4 (n / 100) (by omega)
 rw [prs, List.length_append, List.length_singleton]
 omega
theorem hund_take (xs : List Int) (h : ∀ x ∈ xs, 0 ≤ x ∧ x ≤ 99) : ∀ k, 0 ≤ hund (xs.take k) ∧ hund (xs.take k) ≤ hund xs := by
 have key : ∀ (ys : List Int) (n : Int), 0 ≤ n → (∀ x ∈ ys, 0 ≤ x ∧ x ≤ 99) → n ≤ ys.foldl (fun n x => 100 * n + x) n := by
  intro ys
  induction ys with
  | nil => intro n _ _; exact Int.le_refl _
  | cons y ys ih =>
   intro n hn hy
   have := hy y (by simp)
   have := ih (100 * n + y) (by omega) (fun x hx => hy x (by simp [hx]))
   simp only [List.foldl_cons]
   omega
 intro k
 have h0 : 0 ≤ hund (xs.take k) := key _ 0 (by omega) (fun x hx => h x (List.mem_of_mem_take hx))
 refine ⟨h0, ?_⟩
 have := key (xs.drop k) (hund (xs.take k)) h0 (fun x hx => h x (List.mem_of_mem_drop hx))
 have e : (xs.drop k).foldl (fun n x => 100 * n + x) (hund (xs.take k)) = hund xs := by
  unfold hund
  rw [← List.foldl_append, List.take_append_drop]
 omega
theorem root_bound {m r s : Int} (h : IsRoot m r s) (hm : m ≤ 1000000000) : 0 ≤ r ∧ r ≤ 40000 ∧ 0 ≤ s ∧ s ≤ 80000 := by
 obtain ⟨a1, a2, a3, a4⟩ := h
 have : r ≤ 40000 := by
  rcases Int.lt_or_le 40000 r with hlt | hle
  ·have := sq_le_of 40001 r (by omega) (by omega)
   omega
  ·exact hle
 omega
theorem rAll_bound {n : Nat} (hn : n ≤ 1000000000) (k : Nat) : 0 ≤ (rAll ((prs n).take k)).2.1 ∧ (rAll ((prs n).take k)).2.1 ≤ 40000 ∧ 0 ≤ (rAll ((prs n).take k)).2.2 ∧ (rAll ((prs n).take k)).2.2 ≤ 80000 := by
 have h := rInv_all (prs n) (prs_range n) k
 have h2 := hund_take (prs n) (prs_range n) k
 rw [hund_prs] at h2
 exact root_bound h.root (by omega)
def rtD (n : Nat) : List Int := (rAll (prs n)).1
def rtR (n : Nat) : Int := (rAll (prs n)).2.1
def rtS (n : Nat) : Int := (rAll (prs n)).2.2
theorem rt_inv (n : Nat) : IsRoot n (rtR n) (rtS n) ∧ horner 0 (rtD n) = rtR n ∧ (rtD n).length = (prs n).length ∧ ∀ d ∈ rtD n, 0 ≤ d ∧ d ≤ 9 := by
 have h := rInv_all (prs n) (prs_range n) (prs n).length
 rw [List.take_length] at h
 refine ⟨?_, h.val, h.len, h.digs⟩
 have := h.root
 rw [hund_prs] at this
 exact this
theorem horner_take {ds : List Int} (h : ∀ d ∈ ds, 0 ≤ d ∧ d ≤ 9) (hl : ds.length ≤ 6) (k : Nat) : 0 ≤ horner 0 (ds.take k) ∧ horner 0 (ds.take k) ≤ 999999 := by
 have hm : ∀ d ∈ ds.take k, 0 ≤ d ∧ d ≤ 9 := fun d hd => h d (List.mem_of_mem_take hd)
 have h1 := horner_nonneg (ds.take k) 0 (by omega) (fun d hd => (hm d hd).1)
 have h2 := horner_lt (ds.take k) 0 (by omega) hm
 have hk : (ds.take k).length ≤ 6 := by rw [List.length_take]; omega
 have h3 : (10 : Int) ^ (ds.take k).length ≤ 10 ^ 6 := by
  have := Nat.pow_le_pow_right (show 0 < 10 by omega) hk
  exact_mod_cast this
 refine ⟨h1, ?_⟩
 have h4 : (10 : Int) ^ 6 = 1000000 := by decide
 omega
theorem horner_next {ds : List Int} {k : Nat} {u : Int} (h : ds[k]? = some u) : horner 0 (ds.take (k + 1)) = 10 * horner 0 (ds.take k) + u := by rw [take_next h, horner_snoc]
theorem horner_all {ds : List Int} {n : Nat} (h : ds.length = n) : horner 0 (ds.take n) = horner 0 ds := by rw [List.take_of_length_le (by omega)]
end Go.Proofs.YthdoofmfigemoaaGreatDoor.Gl
end
namespace Go.Proofs.YthdoofmfigemoaaGreatDoor
open Go.RowKit
def isD (d : Int) : Bool := decide (0 ≤ d) && decide (d ≤ 9)
theorem isD_iff (d : Int) : isD d = true ↔ 0 ≤ d ∧ d ≤ 9 := by simp [isD]
theorem isD_no (d : Int) : isD d = false ↔ d < 0 ∨ 9 < d := by
 rw [Bool.eq_false_iff, ne_eq, isD_iff]; omega
def okN (xs : List Int) : Bool := decide (1 ≤ xs.length) && decide (xs.length ≤ 6) && xs.all isD
theorem okN_iff (xs : List Int) : okN xs = true ↔ 1 ≤ xs.length ∧ xs.length ≤ 6 ∧ ∀ d ∈ xs, 0 ≤ d ∧ d ≤ 9 := by
 simp [okN, isD, and_assoc]
theorem okN_out {xs : List Int} {k : Nat} {u : Int} (h : xs[k]? = some u) (hu : u < 0 ∨ 9 < u) : okN xs = false := by
 cases hb : okN xs with
 | false => rfl
 | true => have := ((okN_iff xs).1 hb).2.2 u (List.mem_of_getElem? h); omega
theorem digs_next {xs : List Int} {k : Nat} {u : Int} (h : xs[k]? = some u) (ht : ∀ d ∈ xs.take k, 0 ≤ d ∧ d ≤ 9) (h0 : 0 ≤ u) (h9 : u ≤ 9) : ∀ d ∈ xs.take (k + 1), 0 ≤ d ∧ d ≤ 9 := by
 rw [take_next h]
 intro d hd
 rcases List.mem_append.1 hd with hd | hd
 ·exact ht d hd
 ·simp at hd; omega
theorem okN_all {xs : List Int} {n : Nat} (hl : xs.length = n) (ht : ∀ d ∈ xs.take n, 0 ≤ d ∧ d ≤ 9) : okN xs = (decide ((1 : Int) ≤ (n : Int)) && decide ((n : Int) ≤ 6)) := by
 rw [List.take_of_length_le (by omega)] at ht
 rw [Bool.eq_iff_iff, okN_iff]
 simp
 constructor
 ·rintro ⟨a, b, -⟩; omega
 ·rintro ⟨a, b⟩; exact ⟨by omega, by omega, ht⟩
theorem isFactor_any (n : Int) (w : World) : Calls Tryz.prog 75 #[.int .i64 n] w fun e w' => e = .returned (.bool (decide (1 ≤ n) && decide (n ≤ 100000))) ∧ w = w' := by
 by_cases h1 : 1 ≤ n <;> by_cases h2 : n ≤ 100000
 all_goals
  go_enter Tryz.func75, Tryz.ntmps75
  go_wp2
  go_ret
  exact ⟨ret_bool (by simp [h1, h2]), rfl⟩
theorem isFactor_is {n : Int} {r : Bool} (h : (decide (1 ≤ n) && decide (n ≤ 100000)) = r) (w : World) : Calls Tryz.prog 75 #[.int .i64 n] w fun e w' => e = .returned (.bool r) ∧ w = w' := by
 rw [← h]; exact isFactor_any n w
theorem isDigit_any (n : Int) (w : World) : Calls Tryz.prog 238 #[.int .i64 n] w fun e w' => e = .returned (.bool (isD n)) ∧ w = w' := by
 by_cases h1 : 0 ≤ n <;> by_cases h2 : n ≤ 9
 all_goals
  go_enter Tryz.func238, Tryz.ntmps238
  go_wp2
  go_ret
  exact ⟨ret_bool (by simp [isD, h1, h2]), rfl⟩
theorem isDigit_is {n : Int} {r : Bool} (h : isD n = r) (w : World) : Calls Tryz.prog 238 #[.int .i64 n] w fun e w' => e = .returned (.bool r) ∧ w = w' := by
 rw [← h]; exact isDigit_any n w
theorem l3Digit_any (n : Int) (w : World) : Calls Tryz.prog 228 #[.int .i64 n] w fun e w' => e = .returned (.bool (isD n)) ∧ w = w' := by
 go_enter Tryz.func228, Tryz.ntmps228
 go_wp2_with fail
 refine (l6In_any _ _ _ _).mono ?_
 rintro e w' ⟨rfl, rfl⟩
 go_wp2
 go_ret
 exact ⟨rfl, rfl⟩
theorem l3Digit_is {n : Int} {r : Bool} (h : isD n = r) (w : World) : Calls Tryz.prog 228 #[.int .i64 n] w fun e w' => e = .returned (.bool r) ∧ w = w' := by
 rw [← h]; exact l3Digit_any n w
theorem specNumeralValid_any (A : Option Addr) (n c : Nat) (xs : List Int) (w : World) (B : Nat) (hx : Ints w B A n xs) :
  Calls Tryz.prog 234 #[.slice A n c] w fun e w' => e = .returned (.bool (okN xs)) ∧ w = w' := by
 have hb := hx.bound
 have HX := Hd hx
 clear hx
 go_enter Tryz.func234, Tryz.ntmps234
 go_wp2_with fail
 go_loop [3] (fun i => ∃ k : Nat, k ≤ n ∧ i = .int .i64 (k : Int) ∧ ∀ d ∈ xs.take k, 0 ≤ d ∧ d ≤ 9) (fun i => n - (intOf i).toNat)
 case atStart => exact ⟨0, by omega, rfl, by simp⟩
 case round =>
  obtain ⟨k, hk, rfl, hds⟩ := hrel
  have HDS := Hd hds
  clear hds
  by_cases hlt : k < n
  ·obtain ⟨b, off, u, rfl, hub, hu, hcu⟩ := HX.out.at_ hlt
   have HU := Hd hu
   clear hu
   rcases hd : isD u with _ | _
   ·have HD := Hd hd
    clear hd
    go_wp2_with fail
    refine (l3Digit_is HD.out _).mono ?_
    rintro e w' ⟨rfl, rfl⟩
    go_wp2
    go_ret
    exact ⟨ret_bool (okN_out HU.out ((isD_no u).1 HD.out)).symm, rfl⟩
   ·have HD := Hd hd
    clear hd
    go_wp2_with fail
    refine (l3Digit_is HD.out _).mono ?_
    rintro e w' ⟨rfl, rfl⟩
    go_wp2
    go_round
    case rel => exact ⟨k + 1, by omega, by go_num, digs_next HU.out HDS.out ((isD_iff u).1 HD.out).1 ((isD_iff u).1 HD.out).2⟩
    case measure => simp [intOf]; omega
  ·obtain rfl : k = n := by omega
   go_wp2_with fail
   refine (l6In_is (okN_all HX.out.len HDS.out).symm _).mono ?_
   rintro e w' ⟨rfl, rfl⟩
   go_wp2
   go_ret
   exact ⟨rfl, rfl⟩
theorem specNumeralValid_is {A : Option Addr} {n c : Nat} {xs : List Int} {w : World} {B : Nat} {r : Bool} (hx : Ints w B A n xs) (h : okN xs = r) :
  Calls Tryz.prog 234 #[.slice A n c] w fun e w' => e = .returned (.bool r) ∧ w = w' := by
 rw [← h]; exact specNumeralValid_any A n c xs w B hx
def dbyte (d : Int) : UInt8 := UInt8.ofNat (48 + d.toNat)
def dstr (xs : List Int) : ByteArray := ⟨(xs.map dbyte).toArray⟩
theorem dbyte_nat {d : Int} (h0 : 0 ≤ d) (h9 : d ≤ 9) : ((dbyte d).toNat : Int) = 48 + d := by
 unfold dbyte
 rw [UInt8.toNat_ofNat']
 omega
def OwnB (w : World) (B : Nat) (A : Option Addr) (n c : Nat) (us : List Int) : Prop := w.ownsRow B 5 1 (.slice A n c) n (us.map (Value.int .u8)) ∧ n ≤ 1000
theorem byte_info : (Tryz.prog.info? 5).map (fun i => (i.zero, i.size, i.bytes)) = some (some (.int .u8 0), 1, 1) := by kernel_rfl
theorem OwnB.len {w : World} {B n c : Nat} {A : Option Addr} {us : List Int} (h : OwnB w B A n c us) : us.length = n := by have := h.1.1; simpa using this
theorem OwnB.blk {w : World} {B n c : Nat} {A : Option Addr} {us : List Int} (h : OwnB w B A n c us) : ∀ k, (Value.slice A n c).ownBlock = some k → B ≤ k ∧ k < w.heap.size := h.1.lt
theorem wpList_makeB {ops : Array Oper} {rest : List Oper} {o : Oper} {a : Act} {w : World} {Q : Exit → Act → World → Prop} (hgd : o.guard = none) (l c : Operand)
  (ho : o.op = .makeSlice 22 l c) {B n : Nat} (hl : a.eval l = .int .i64 0) (hc : a.eval c = .int .i64 (n : Int)) (hn : n ≤ 1000) (hB : B ≤ w.heap.size)
  (h : ∀ w', OwnB w' B (some ⟨w.heap.size, 0, none⟩) 0 n [] → w.grownBy w' none → wpList Tryz.prog ops Q rest (a.put o.dst (.slice (some ⟨w.heap.size, 0, none⟩) 0 n)) w') :
  wpList Tryz.prog ops Q (o :: rest) a w := by
 obtain ⟨i0, hi, hz0, hz1, hz2⟩ := info_parts byte_info
 refine wpList_make_own w hgd l c 22 ho B 5 i0 (.int .u8 0) 1 Tryz.underlying22 hi hz0 hz1 .i64 .i64 n n hl hc rfl (by rw [hz2]; omega) (by unfold maxLen; omega) hB ?_
 intro w' hown hg
 exact h w' ⟨hown, by omega⟩ hg
theorem wpList_appB {ops : Array Oper} {rest : List Oper} {o : Oper} {a : Act} {w : World} {Q : Exit → Act → World → Prop} (hgd : o.guard = none) (s x : Operand)
  (ho : o.op = .call { callee := .builtin .append, args := #[s, x], argTypes := #[22, 22] })
  {B : Nat} {A : Option Addr} {n c : Nat} {us : List Int} (hs : a.eval s = .slice A n c) (hown : OwnB w B A n c us) (u : Int) (c0 : Nat)
  (hx : a.eval x = .slice (some ⟨w.heap.size, 0, none⟩) 1 c0) (v : Value) (hv : v = .int .u8 u) (hn : n + 1 ≤ 1000) (hB : B ≤ w.heap.size)
  (h : ∀ A' c' w', OwnB w' B A' (n + 1) c' (us ++ [u]) → w.grownBy w' (Value.slice A n c).ownBlock → wpList Tryz.prog ops Q rest (a.put o.dst (.slice A' (n + 1) c')) w') :
  wpList Tryz.prog ops Q (o :: rest) a (w.alloc (.cells #[v] 5)) := by
 obtain ⟨i0, hi, hz0, hz1, hz2⟩ := info_parts byte_info
 subst hv
 refine wpList_append_own _ hgd s x 22 ho B 5 i0 (.int .u8 0) 1 1 Tryz.underlying22 hi hz0 hz1 hz2 rfl (by decide) _ n _ hs (hown.1.alloc _)
  ⟨w.heap.size, 0, none⟩ 1 c0 [.int .u8 u] hx rfl (news_one w _ _) (by intro x hx; simp at hx; subst hx; rfl) (by unfold maxLen; omega) (by omega) (by simp; omega) ?_
 intro v' w' hown' hg _
 have hg1 : w.grownBy w' (Value.slice A n c).ownBlock := ⟨hg.os, hg.tape, hg.output, by have := hg.size; simp at this; omega, fun k hk hne => (hg.block k (by simp; omega) hne).trans (Below.heap_alloc w _ k hk)⟩
 rw [show us.map (Value.int .u8) ++ [.int .u8 u] = (us ++ [u]).map (Value.int .u8) from by simp] at hown'
 rcases hown'.2 with ⟨rfl, h0⟩ | ⟨g, cap, cur, rfl, _⟩
 ·omega
 ·exact h _ _ w' ⟨hown', hn⟩ hg1
def cbytes (xs : List Int) : List Int := xs.map fun d => 48 + d
theorem cbytes_next {xs : List Int} {k : Nat} {u : Int} (h : xs[k]? = some u) : cbytes (xs.take (k + 1)) = cbytes (xs.take k) ++ [48 + u] := by rw [take_next h]; simp [cbytes]
theorem cbytes_all {xs : List Int} {n : Nat} (h : xs.length = n) : cbytes (xs.take n) = cbytes xs := by rw [List.take_of_length_le (by omega)]
theorem run_dstr {w : World} {B n c : Nat} {A : Option Addr} {xs : List Int} (h : OwnB w B A n c (cbytes xs)) (hn : 1 ≤ n) (hd : ∀ d ∈ xs, 0 ≤ d ∧ d ≤ 9) :
  (convert 22 9 (.slice A n c)).run Tryz.prog w = .ok (.string (dstr xs)) w := by
 obtain ⟨g, cap, hv, _, hlt⟩ := h.1.form hn
 have hA : A = some ⟨g, 0, none⟩ := by injection hv
 subst hA
 have hl := h.len
 have e : n = (xs.map dbyte).length := by simpa [cbytes] using hl.symm
 subst e
 refine run_convert_bytes_back w _ _ 5 ⟨g, 0, none⟩ c (xs.map dbyte) Tryz.underlying22 Tryz.underlying5 Tryz.underlying9 ?_
 intro j hj
 have hj' : j < xs.length := by simpa using hj
 have hc := h.1.cells (g := g) rfl j (.int .u8 (48 + xs[j])) (by simp [cbytes, hj'])
 have hdj := hd _ (List.getElem_mem hj')
 rw [hc]
 simp only [List.getElem_map]
 rw [dbyte_nat hdj.1 hdj.2]
theorem digitsOf_yes (A : Option Addr) (n c : Nat) (xs : List Int) (w : World) (hx : Ints w w.heap.size A n xs) (hok : okN xs = true) :
  Calls Tryz.prog 236 #[.slice A n c] w fun e w' => e = .returned (.tuple #[.string (dstr xs), .bool true]) ∧ Below w.heap.size w w' := by
 obtain ⟨hn1, hn6, hd⟩ := (okN_iff xs).1 hok
 rw [hx.len] at hn1 hn6
 have HX := Hd hx
 have HD := Hd hd
 clear hx hok hd
 go_enter Tryz.func236, Tryz.ntmps236
 go_wp2_with (at_make; refine wpList_makeB (B := w.heap.size) rfl _ _ rfl (n := 6) rfl rfl (by omega) (Nat.le_refl _) ?_; intro w1 hown1 hg1)
 have HO1 := Hd hown1
 have HB1 := Hd (grown_below hg1 (Nat.le_refl _) (by simp))
 clear hown1 hg1
 go_loopw [4, 18] (fun v i wr => ∃ (k : Nat) (T : Option Addr) (c : Nat), k ≤ n ∧ i = .int .i64 (k : Int) ∧ v = .slice T k c ∧ OwnB wr w.heap.size T k c (cbytes (xs.take k)) ∧ Below w.heap.size w wr) (fun _ i _ => n - (intOf i).toNat)
 case atStart => exact ⟨0, _, _, by omega, by go_num, rfl, HO1.out, HB1.out⟩
 case round =>
  clear HO1 HB1
  obtain ⟨k, T, c2, hk, rfl, rfl, hown, hbel⟩ := hrel
  have hsz := hbel.size
  have HO := Hd hown
  have HB := Hd hbel
  clear hown hbel
  by_cases hlt : k < n
  ·obtain ⟨b, off, u, rfl, hub, hu, hcu⟩ := (HX.out.below HB.out).at_ hlt
   obtain ⟨u0, u9⟩ := HD.out u (List.mem_of_getElem? hu)
   have HU := Hd hu
   clear hu
   go_wp2_with fail
   refine (isDigit_is ((isD_iff u).2 ⟨u0, u9⟩) _).mono ?_
   rintro e w' ⟨rfl, rfl⟩
   go_wp2_with (at_builtin; refine wpList_appB rfl _ _ rfl rfl HO.out (48 + u) _ rfl _ rfl (by omega) hsz ?_; intro A' c' w3 hown3 hg3)
   have HB3 := Hd (HB.out.grown hg3 hsz fun k hk => (HO.out.blk k hk).1)
   go_roundw
   case rel => exact ⟨k + 1, _, _, by omega, by go_num, rfl, by rw [cbytes_next HU.out]; exact hown3, HB3.out⟩
   case measure => simp [intOf]; omega
  ·obtain rfl : k = n := by omega
   have hrun := run_dstr (by rw [← cbytes_all HX.out.len]; exact HO.out) hn1 HD.out
   go_wp2
   go_ret2
   exact ⟨rfl, HB.out⟩
theorem dstr_size (xs : List Int) : (dstr xs).size = xs.length := by simp [dstr, ByteArray.size]
theorem dstr_at {xs : List Int} {k : Nat} {u : Int} (h : xs[k]? = some u) (hk : k < (dstr xs).size) : (dstr xs)[k] = dbyte u := by
 obtain ⟨hlt, he⟩ := List.getElem?_eq_some_iff.1 h
 show (dstr xs).data[k]'hk = _
 simp [dstr, he]
theorem digitAt_any (xs : List Int) (k : Nat) (u : Int) (w : World) (hu : xs[k]? = some u) (h0 : 0 ≤ u) (h9 : u ≤ 9) (hl : xs.length ≤ 6) :
  Calls Tryz.prog 239 #[.string (dstr xs), .int .i64 (k : Int)] w fun e w' => e = .returned (.int .i64 u) ∧ w = w' := by
 have hk : k < xs.length := (List.getElem?_eq_some_iff.1 hu).1
 have hs : (dstr xs).size ≤ 6 := by rw [dstr_size]; exact hl
 have hlt : k < (dstr xs).size := by rw [dstr_size]; exact hk
 have hat := dstr_at hu hlt
 have hb := dbyte_nat h0 h9
 rw [← hat] at hb
 have HB := Hd hb
 have hb1 : 48 ≤ ((dstr xs)[k].toNat : Int) := by omega
 have hb2 : ((dstr xs)[k].toNat : Int) ≤ 57 := by omega
 clear hat hb hu
 generalize dstr xs = s at *
 go_enter Tryz.func239, Tryz.ntmps239
 go_wp2
 go_ret
 exact ⟨ret_int (by have := HB.out; omega), rfl⟩
end Go.Proofs.YthdoofmfigemoaaGreatDoor
section
namespace Go.Proofs.YthdoofmfigemoaaGreatDoor
open Go.RowKit Go.Shelf
set_option linter.unusedSimpArgs false
set_option maxRecDepth 100000
attribute [local go_sem] Oper.semAt_some
def rowsL : Nat → Nat → Nat → Nat → List (Nat × Nat × Nat)
 | 0, _, _, _ => []
 | f + 1, i, l, r => if l = 0 then [] else (i, l, r) :: rowsL f (i + 1) (l / 2) (r * 2)
def keepS : List (Nat × Nat × Nat) → Nat
 | [] => 0
 | x :: xs => (if x.2.1 % 2 = 1 then x.2.2 else 0) + keepS xs
theorem keepS_rows : ∀ (f i l r : Nat), l < 2 ^ f → keepS (rowsL f i l r) = l * r
 | 0, i, l, r, h => by
  have : l = 0 := by simpa using h
  subst this
  simp [rowsL, keepS]
 | f + 1, i, l, r, h => by
  unfold rowsL
  split
  ·rename_i h0
   subst h0
   simp [keepS]
  ·rw [Nat.pow_succ] at h
   rw [keepS, keepS_rows f (i + 1) (l / 2) (r * 2) (by omega)]
   simp only
   have e : l = 2 * (l / 2) + l % 2 := by omega
   have e2 : l * r = l / 2 * (r * 2) + l % 2 * r := by
    conv => lhs; rw [e]
    rw [Nat.add_mul, Nat.mul_comm 2 (l / 2), Nat.mul_assoc, Nat.mul_comm 2 r]
   rcases Nat.mod_two_eq_zero_or_one l with h2 | h2
   ·rw [h2] at e2 ⊢; simp at e2 ⊢; omega
   ·rw [h2] at e2 ⊢; simp at e2 ⊢; omega
theorem keepS_snoc (xs : List (Nat × Nat × Nat)) (x : Nat × Nat × Nat) : keepS (xs ++ [x]) = keepS xs + (if x.2.1 % 2 = 1 then x.2.2 else 0) := by
 induction xs with
 | nil => simp [keepS]
 | cons y ys ih => simp only [List.cons_append, keepS, ih]; omega
abbrev dupEnc (x : Nat × Nat × Nat) : Array Value := #[.int .i64 (x.1 : Int), .agg #[.int .i64 (x.2.1 : Int), .int .i64 (x.2.2 : Int)]]
def KpS (s : Nat) (A B : World) : Prop := A.heap.size ≤ B.heap.size ∧ ∀ (k : Nat) cs T z, A.heap[k]? = some (.cells cs T z) → k ≠ s → B.heap[k]? = A.heap[k]?
theorem KpS.t {s : Nat} {A B C : World} (h : KpS s A B) (k : KpS s B C) : KpS s A C := ⟨Nat.le_trans h.1 k.1, fun i cs T z hi hn => by
 have h1 := h.2 i cs T z hi hn
 exact (k.2 i cs T z (h1.trans hi) hn).trans h1⟩
theorem KpS.of_grown {s : Nat} {A B : World} (h : A.grownBy B (some s)) : KpS s A B := ⟨h.size, fun k cs T z hk hn => h.block k (Array.getElem?_eq_some_iff.1 hk).1 (fun e => hn (by injection e))⟩
theorem KpS.of_none {s : Nat} {A B : World} (h : A.grownBy B none) : KpS s A B := ⟨h.size, fun k cs T z hk hn => h.block k (Array.getElem?_eq_some_iff.1 hk).1 (by simp)⟩
theorem KpS.blk {s b : Nat} {A B : World} {cs : Array Value} {T : TypeId} (h : Blk A b cs T) (k : KpS s A B) (hn : b ≠ s) : Blk B b cs T := (k.2 b cs T (0, 0) h hn).trans h
set_option maxHeartbeats 4000000 in
theorem dupIter_stops (n : Nat) (hn : 3 ≤ n) (s a b ba bb : Nat) (w : World) (ha1 : 1 ≤ a) (ha2 : a ≤ 100000) (hb1 : 1 ≤ b) (hb2 : b ≤ 100000) (hA : Blk w ba #[.int .i64 (a : Int)] 3) (hB : Blk w bb #[.int .i64 (b : Int)] 3) (hs : s < w.heap.size) :
  SeqStopsK Fence.wide n Tryz.prog 111 #[.pointer (some ⟨ba, 0, none⟩), .pointer (some ⟨bb, 0, none⟩)] dupEnc (KpS s) (fun xs => xs = rowsL 17 0 a b) (fun _ => True) 17 w := fun l J Jx W hW hJ hJx hY h0 => by
 have hA' := hA.next hW
 have hB' := hB.next hW
 have cA := hA'.cell (j := 0) (v := .int .i64 (a : Int)) rfl
 have cB := hB'.cell (j := 0) (v := .int .i64 (b : Int)) rfl
 have hf1 : (decide (1 ≤ (a : Int)) && decide ((a : Int) ≤ 100000)) = true := by simp; omega
 have hf2 : (decide (1 ≤ (b : Int)) && decide ((b : Int) ≤ 100000)) = true := by simp; omega
 have h1 : 1 ≤ n - 1 := by omega
 refine callsIn_of_wp Tryz.func111 rfl trivial ?_ rfl
 simp only [Tryz.ntmps111, List.size_toArray, List.length_cons, List.length_nil, Nat.reduceAdd, Nat.reduceSub, Array.replicate_succ, Array.replicate_zero, List.push_toArray, List.append_toArray, List.nil_append, List.cons_append]
 gi_wp2_with fail
 refine ⟨trivial, fun h => (by cases h), ?_⟩
 refine (callsIn_wide.2 (isFactor_is hf1 _)).mono ?_
 rintro e w' ⟨rfl, rfl⟩
 gi_wp2_with fail
 refine ⟨trivial, fun h => (by cases h), ?_⟩
 refine (callsIn_wide.2 (isFactor_is hf2 _)).mono ?_
 rintro e w' ⟨rfl, rfl⟩
 gi_wp2_with fail
 have hla := hA'.lt
 have hlb := hB'.lt
 gi_region
 gi_wp2_with fail
 gi_loopw [4, 5] (fun iv pv wr => ∃ (pre : List (Nat × Nat × Nat)) (k c lf rt bx : Nat), iv = .int .i64 (k : Int) ∧ pv = .pointer (some ⟨bx, 0, none⟩) ∧ k + c = 17 ∧ lf < 2 ^ c ∧ rt ≤ 100000 * 2 ^ k ∧ pre.length = k ∧ pre ++ rowsL c k lf rt = rowsL 17 0 a b ∧ Blk wr bx #[.int .i64 (lf : Int), .int .i64 (rt : Int)] 108 ∧ s < bx ∧ J pre wr) (fun iv _ _ => 17 - (intOf iv).toNat)
 case atStart =>
  refine ⟨[], 0, 17, a, b, W.heap.size, rfl, rfl, rfl, by omega, by omega, rfl, rfl, (Blk.new _ _ _).drew, by have := hW.size; omega, ?_⟩
  exact hJ _ W _ none h0 ((World.grownBy_alloc W (.cells #[.int .i64 (a : Int), .int .i64 (b : Int)] 108) none).trans ⟨rfl, rfl, rfl, Nat.le_refl _, fun _ _ _ => rfl⟩) (by simp)
 case round =>
  obtain ⟨pre, k, c, lf, rt, bx, rfl, rfl, hkc, hlf, hrt, hpre, hrows, hbx, hne, hJs⟩ := hrel
  have hxl := hbx.lt
  have c0 := hbx.cell (j := 0) (v := .int .i64 (lf : Int)) rfl
  have c1 := hbx.cell (j := 1) (v := .int .i64 (rt : Int)) rfl
  cases c with
  | zero =>
   have hl0 : lf = 0 := by simpa using hlf
   subst hl0
   gi_wp2_with fail
   go_end0
   exact ⟨⟨_, rfl⟩, .inl ⟨pre, by simpa [rowsL] using hrows, hJs⟩⟩
  | succ c =>
   by_cases hl0 : lf = 0
   ·subst hl0
    gi_wp2_with fail
    go_end0
    exact ⟨⟨_, rfl⟩, .inl ⟨pre, by simpa [rowsL] using hrows, hJs⟩⟩
   ·obtain ⟨fn, tmps, assign, body, hy, hR⟩ := hY pre (k, lf, rt) wr hJs (by omega)
    dsimp only [dupEnc] at hy
    have hl1 : (1 : Int) ≤ (lf : Int) := by omega
    gi_wp2_with fail
    refine ⟨fun _ => by omega, ?_⟩
    refine hR.mono ?_
    rintro e W3 (⟨rfl, hJ3, hk3⟩ | ⟨rfl, hJx3⟩)
    ·have hb3 := KpS.blk hbx hk3 (by omega)
     have hl3 := hb3.lt
     have d0 := hb3.cell (j := 0) (v := .int .i64 (lf : Int)) rfl
     have d1 := hb3.cell (j := 1) (v := .int .i64 (rt : Int)) rfl
     dsimp only
     have hp : (2 : Nat) ^ k ≤ 2 ^ 16 := Nat.pow_le_pow_right (by omega) (by omega)
     have hr2 : (rt : Int) ≤ 6553600000 := by omega
     have hr0 : (0 : Int) ≤ (rt : Int) := by omega
     have hk2 : (k : Int) ≤ 17 := by omega
     have hlf2 : (lf : Int) ≤ 131072 := by
      have : (2 : Nat) ^ (c + 1) ≤ 2 ^ 17 := Nat.pow_le_pow_right (by omega) (by omega)
      omega
     gi_wp2_with fail
     gi_region
     refine (show Exit.then _ _ Exit.normal _ _ from ?_)
     dsimp only [Exit.then]
     go_roundw
     case rel =>
      refine ⟨pre ++ [(k, lf, rt)], k + 1, c, lf / 2, rt * 2, W3.heap.size, ?_, rfl, by omega, ?_, ?_, by simp [hpre], ?_, ?_, by omega, ?_⟩
      ·congr 1
      ·rw [Nat.pow_succ] at hlf; omega
      ·rw [Nat.pow_succ]; omega
      ·rw [← hrows, rowsL, if_neg hl0]; simp
      ·have e1 : ((lf / 2 : Nat) : Int) = (lf : Int) / 2 := by omega
       have e2 : ((rt * 2 : Nat) : Int) = (rt : Int) * 2 := by omega
       rw [e1, e2]
       exact (Blk.new _ _ _).drew
      ·exact hJ _ W3 _ none hJ3 ((World.grownBy_alloc W3 (.cells #[.int .i64 ((lf : Int) / 2), .int .i64 ((rt : Int) * 2)] 108) none).trans ⟨rfl, rfl, rfl, Nat.le_refl _, fun _ _ _ => rfl⟩) (by simp)
     case measure =>
      simp [intOf]
      omega
    ·dsimp only
     gi_wp2_with fail
     refine bodyPost_ret (results_none rfl _ _ _) rfl ?_
     exact ⟨⟨_, rfl⟩, .inr ⟨pre ++ [(k, lf, rt)], trivial, hJx3⟩⟩
end Go.Proofs.YthdoofmfigemoaaGreatDoor
end
section
namespace Go.Proofs.YthdoofmfigemoaaGreatDoor
open Go.RowKit Go.Shelf
set_option linter.unusedSimpArgs false
set_option maxRecDepth 100000
attribute [local go_sem] Oper.semAt_some
theorem blk_own (B : Nat) (cs : Array Value) (t : TypeId) : Go.Own (fun (_ : Unit) W => Blk W B cs t) := fun _ X _ row hs hg hrow =>
 hs.grown hg (fun e => by obtain ⟨o, ho, hc⟩ := hrow B e.symm; rw [show X.heap[B]? = _ from hs] at ho; cases ho; cases hc)
theorem dupRows_is (a b : Int) (w : World) : Calls Tryz.prog 76 #[.int .i64 a, .int .i64 b] w fun e w' => e = .returned (.func (.func 111) #[] #[.pointer (some ⟨w.heap.size, 0, none⟩), .pointer (some ⟨w.heap.size + 1, 0, none⟩)]) ∧ w' = (w.alloc (.cells #[.int .i64 a] 3)).alloc (.cells #[.int .i64 b] 3) := by
 go_enter Tryz.func76, Tryz.ntmps76
 go_wp2
 go_ret
 exact ⟨rfl, rfl⟩
theorem wrap_snoc (a b : Int) : wrap64 (wrap64 a + b) = wrap64 (a + b) := by unfold wrap64; omega
theorem wrap_small (a : Int) (h0 : 0 ≤ a) (h : a ≤ 10000000000) : wrap64 a = a := by unfold wrap64; omega
set_option maxHeartbeats 4000000 in
theorem DupTimes_yes (a b : Nat) (w : World) (ha1 : 1 ≤ a) (ha2 : a ≤ 100000) (hb1 : 1 ≤ b) (hb2 : b ≤ 100000) :
  Calls Tryz.prog 33 #[.int .i64 (a : Int), .int .i64 (b : Int)] w fun e w' => e = .returned (.int .i64 ((a * b : Nat) : Int)) ∧ Below w.heap.size w w' := by
 have hf1 : (decide (1 ≤ (a : Int)) && decide ((a : Int) ≤ 100000)) = true := by simp; omega
 have hf2 : (decide (1 ≤ (b : Int)) && decide ((b : Int) ≤ 100000)) = true := by simp; omega
 refine (callsIn_wide (n := 9)).1 ?_
 refine callsIn_of_wp_marks Tryz.func33 rfl trivial ?_ rfl
 simp only [Tryz.ntmps33, List.size_toArray, List.length_cons, List.length_nil, Nat.reduceAdd, Nat.reduceSub, Array.replicate_succ, Array.replicate_zero, List.push_toArray, List.append_toArray, List.nil_append, List.cons_append]
 gi_wp2_with fail
 refine ⟨trivial, ?_⟩
 refine (callsIn_wide.2 (isFactor_is hf1 _)).mono ?_
 rintro e w' ⟨rfl, rfl⟩
 gi_wp2_with fail
 refine ⟨trivial, ?_⟩
 refine (callsIn_wide.2 (isFactor_is hf2 _)).mono ?_
 rintro e w' ⟨rfl, rfl⟩
 gi_wp2_with fail
 refine ⟨trivial, ?_⟩
 refine (callsIn_wide.2 (dupRows_is _ _ _)).mono ?_
 rintro e w' ⟨rfl, rfl⟩
 gi_wp2_with fail
 have bS := (Boxed.new w 3 (.int .i64 0)).alloc (.cells #[.int .i64 (a : Int)] 3) |>.alloc (.cells #[.int .i64 (b : Int)] 3)
 have bA : Blk _ _ _ _ := (Blk.new (w.alloc (.cells #[.int .i64 0] 3)) #[.int .i64 (a : Int)] 3).alloc (.cells #[.int .i64 (b : Int)] 3)
 have bB : Blk _ _ _ _ := Blk.new ((w.alloc (.cells #[.int .i64 0] 3)).alloc (.cells #[.int .i64 (a : Int)] 3)) #[.int .i64 (b : Int)] 3
 simp only [World.size_alloc] at bA bB
 have hB0 : Below w.heap.size w (((w.alloc (.cells #[.int .i64 0] 3)).alloc (.cells #[.int .i64 (a : Int)] 3)).alloc (.cells #[.int .i64 (b : Int)] 3)) := (((Below.refl _ w).alloc (Nat.le_refl _) _).alloc (by simp) _).alloc (by simp; omega) _
 have hsz : (((w.alloc (.cells #[.int .i64 0] 3)).alloc (.cells #[.int .i64 (a : Int)] 3)).alloc (.cells #[.int .i64 (b : Int)] 3)).heap.size = w.heap.size + 3 := by simp
 obtain ⟨W0, hW0⟩ : ∃ W0, ((w.alloc (.cells #[.int .i64 0] 3)).alloc (.cells #[.int .i64 (a : Int)] 3)).alloc (.cells #[.int .i64 (b : Int)] 3) = W0 := ⟨_, rfl⟩
 rw [hW0] at bA bB bS hB0 hsz ⊢
 clear hW0
 have hss : w.heap.size < W0.heap.size := by omega
 refine wpIn_rangeFunc_ownH (α := Nat × Nat × Nat) (n := 9) rfl (by omega) (gf := 111) (lb := #[.pointer (some ⟨w.heap.size + 1, 0, none⟩), .pointer (some ⟨w.heap.size + 1 + 1, 0, none⟩)]) rfl trivial (enters_of Tryz.func111 (by kernel_rfl) rfl)
  (dupIter_stops 8 (by omega) w.heap.size a b (w.heap.size + 1) (w.heap.size + 1 + 1) W0 ha1 ha2 hb1 hb2 bA bB hss) KpS.t
  (fun W l o o' hl ho hc _ => ⟨by simp, fun k cs T z hk hn => World.putObj_heap_other (fun e => by subst e; rw [hk] at ho; cases ho; cases hc)⟩) (Below.refl _ _) (fun _ => rfl)
  (fun pre W => Boxed W w.heap.size 3 (.int .i64 (wrap64 (keepS pre : Nat))) ∧ Below w.heap.size w W)
  (fun _ _ _ => False)
  (OwnFrom.and (Own.from (boxed_own _ _ _) _) (ownFrom_below (Nat.le_refl _) (by omega)))
  (fun _ _ _ _ _ hs _ _ => hs)
  ⟨by simpa [keepS, wrap64] using bS, hB0⟩
  (fun x a' W => ∃ Bx, w.heap.size < Bx ∧ Blk W Bx #[.int .i64 (x.2.1 : Int), .int .i64 (x.2.2 : Int)] 108 ∧ a' = { tmps := #[.int .i64 (a : Int), .int .i64 (b : Int), undef, undef, .int .i64 0, .pointer (some ⟨w.heap.size, 0, none⟩), undef, .pointer (some ⟨Bx, 0, none⟩), .int .i64 (a : Int), .bool true, .bool false, .bool false, .int .i64 (b : Int), .bool true, .bool false, .bool false, .int .i64 (a : Int), .int .i64 (b : Int), .func (.func 111) #[] #[.pointer (some ⟨w.heap.size + 1, 0, none⟩), .pointer (some ⟨w.heap.size + 1 + 1, 0, none⟩)], .int .i64 (x.1 : Int), .agg #[.int .i64 (x.2.1 : Int), .int .i64 (x.2.2 : Int)], undef, undef, undef, undef, undef, undef, undef, undef, undef], defers := [] })
  (fun x a' _ X Y row hs hg hr => by obtain ⟨Bx, h1, h2, h3⟩ := hs; exact ⟨Bx, h1, blk_own Bx _ _ () X Y row h2 hg (fun r e => (hr r e).2), h3⟩)
  ?assign ?body ?done ?stop
 case assign =>
  rintro l pre x W K ⟨bS1, hB1⟩ hK
  gi_wp2_with fail
  exact hK _ _ ((KeepsOthers.alloc _ _).from _) (KpS.of_none (World.grownBy_alloc _ _ _)) ⟨bS1.alloc _, hB1.alloc hB1.size _⟩ ⟨W.heap.size, bS1.lt, Blk.new W _ _, rfl⟩
 case body =>
  rintro l pre x a' W hl ⟨r, hr⟩ ⟨bS1, hB1⟩ ⟨Bx, hBx, bX, rfl⟩ hlt
  have cS := bS1.cell
  have fS := bS1.frozen
  have c0 := bX.cell (j := 0) (v := .int .i64 (x.2.1 : Int)) rfl
  have c1 := bX.cell (j := 1) (v := .int .i64 (x.2.2 : Int)) rfl
  have hx0 : (0 : Int) ≤ (x.2.1 : Int) := by omega
  by_cases hk : x.2.1 % 2 = 1
  ·have hkI : (x.2.1 : Int) % 2 = 1 := by omega
   gi_wp2_with fail
   have e : wrap64 (wrap64 (keepS pre : Nat) + (x.2.2 : Int)) = wrap64 (keepS (pre ++ [x]) : Nat) := by
    rw [wrap_snoc, keepS_snoc, if_pos hk, Int.natCast_add]
   refine ⟨(KeepsOthers.setCell _ _ _).from _, KpS.of_grown (grownBy_setCell' W w.heap.size _), ⟨by rw [e]; exact bS1.set _, hB1.setCell (p := ⟨w.heap.size, 0, none⟩) (Nat.le_refl _) _⟩⟩
  ·have hkI : (x.2.1 : Int) % 2 ≠ 1 := by omega
   gi_wp2_with fail
   refine ⟨(KeepsOthers.refl _).from _, KpS.of_none (World.grownBy.refl _ _), ⟨by rw [keepS_snoc, if_neg hk, Nat.add_zero]; exact bS1, hB1⟩⟩
 case done =>
  rintro D zs W hD rfl ⟨bS1, hB1⟩ hK
  have cS := bS1.cell
  gi_wp2_with fail
  refine ⟨by simp, .inl ⟨_, _, rfl, run_takeDeferred hK, ?_⟩⟩
  refine ⟨_, results_tmp rfl _ _ _, ?_, hB1.trans (belowK_b (w := w) (Nat.le_refl _) W D _ _ (by omega) hK rfl rfl)⟩
  have e : wrap64 (keepS (rowsL 17 0 a b) : Nat) = ((a * b : Nat) : Int) := by
   rw [keepS_rows 17 0 a b (by omega)]
   have h1 : a * b ≤ 100000 * 100000 := Nat.mul_le_mul ha2 hb2
   exact wrap_small _ (by omega) (by omega)
  rw [e]
  rfl
 case stop =>
  rintro D c pre W _ _ h _
  exact h.elim
end Go.Proofs.YthdoofmfigemoaaGreatDoor
end
section
namespace Go.Proofs.YthdoofmfigemoaaGreatDoor.Ta
def lowK (b : List Int) : Nat → Nat
 | 0 => 0
 | k + 1 => if b.getD k 0 < b.getD (lowK b k) 0 then k else lowK b k
def highK (b : List Int) : Nat → Nat
 | 0 => 0
 | k + 1 => if b.getD (highK b k) 0 < b.getD k 0 then k else highK b k
theorem lowK_spec (b : List Int) : ∀ k, (∀ i, i < k → b.getD (lowK b k) 0 ≤ b.getD i 0) ∧ (∀ i, i < lowK b k → b.getD (lowK b k) 0 < b.getD i 0) ∧ (0 < k → lowK b k < k) ∧ lowK b k ≤ k
 | 0 => ⟨fun i hi => by omega, fun i hi => by simp [lowK] at hi, fun h => by omega, Nat.le_refl _⟩
 | k + 1 => by
  obtain ⟨h1, h2, h3, h4⟩ := lowK_spec b k
  unfold lowK
  by_cases hc : b.getD k 0 < b.getD (lowK b k) 0
  ·rw [if_pos hc]
   refine ⟨fun i hi => ?_, fun i hi => ?_, fun _ => by omega, by omega⟩
   ·by_cases e : i = k
    ·subst e; omega
    ·have := h1 i (by omega); omega
   ·have := h1 i hi; omega
  ·rw [if_neg hc]
   refine ⟨fun i hi => ?_, h2, fun _ => by omega, by omega⟩
   by_cases e : i = k
   ·subst e; omega
   ·exact h1 i (by omega)
theorem highK_spec (b : List Int) : ∀ k, (∀ i, i < k → b.getD i 0 ≤ b.getD (highK b k) 0) ∧ (∀ i, i < highK b k → b.getD i 0 < b.getD (highK b k) 0) ∧ (0 < k → highK b k < k) ∧ highK b k ≤ k
 | 0 => ⟨fun i hi => by omega, fun i hi => by simp [highK] at hi, fun h => by omega, Nat.le_refl _⟩
 | k + 1 => by
  obtain ⟨h1, h2, h3, h4⟩ := highK_spec b k
  unfold highK
  by_cases hc : b.getD (highK b k) 0 < b.getD k 0
  ·rw [if_pos hc]
   refine ⟨fun i hi => ?_, fun i hi => ?_, fun _ => by omega, by omega⟩
   ·by_cases e : i = k
    ·subst e; omega
    ·have := h1 i (by omega); omega
   ·have := h1 i hi; omega
  ·rw [if_neg hc]
   refine ⟨fun i hi => ?_, h2, fun _ => by omega, by omega⟩
   by_cases e : i = k
   ·subst e; omega
   ·exact h1 i (by omega)
def low (b : List Int) : Nat := lowK b 5
def high (b : List Int) : Nat := highK b 5
def due (b : List Int) : Int := min (b.getD (high b) 0) (0 - b.getD (low b) 0)
def pay (b : List Int) (l h : Nat) (n : Int) : List Int := (b.set l (b.getD l 0 + n)).set h (b.getD h 0 - n)
def settle : Nat → List Int → Option (List (Nat × Nat × Int))
 | 0, _ => some []
 | f + 1, b => if due b = 0 then some [] else if due b < 1 ∨ 9999 < due b then none else (settle f (pay b (low b) (high b) (due b))).map fun r => (low b, high b, due b) :: r
def tot (f : Int → Int) : List Int → Int
 | [] => 0
 | x :: xs => f x + tot f xs
theorem tot_set (f : Int → Int) : ∀ (b : List Int) (l : Nat) (v : Int), l < b.length → tot f (b.set l v) = tot f b - f (b.getD l 0) + f v
 | [], _, _, h => by simp at h
 | x :: xs, 0, v, _ => by simp [tot]; omega
 | x :: xs, l + 1, v, h => by
  have := tot_set f xs l v (by simpa using h)
  simp only [List.set_cons_succ, tot, List.getD_cons_succ]
  omega
def one (x : Int) : Int := if x = 0 then 0 else 1
def sum (b : List Int) : Int := tot id b
def nz (b : List Int) : Int := tot one b
def pos (b : List Int) : Int := tot (fun x => max 0 x) b
theorem getD_set (b : List Int) (l i : Nat) (v : Int) (hl : l < b.length) : (b.set l v).getD i 0 = if i = l then v else b.getD i 0 := by
 rw [List.getD_eq_getElem?_getD, List.getD_eq_getElem?_getD, List.getElem?_set]
 by_cases h : l = i
 ·subst h; simp [hl]
 ·rw [if_neg h, if_neg (Ne.symm h)]
def Bal (b : List Int) : Prop := b.length = 5 ∧ sum b = 0
theorem five {b : List Int} (h : b.length = 5) : ∃ a0 a1 a2 a3 a4, b = [a0, a1, a2, a3, a4] := by
 match b, h with
 | [a0, a1, a2, a3, a4], _ => exact ⟨a0, a1, a2, a3, a4, rfl⟩
theorem low_lt (b : List Int) : low b < 5 := (lowK_spec b 5).2.2.1 (by omega)
theorem high_lt (b : List Int) : high b < 5 := (highK_spec b 5).2.2.1 (by omega)
theorem due_spec {b : List Int} (h : Bal b) : 0 ≤ due b ∧ (due b = 0 → ∀ i, i < 5 → b.getD i 0 = 0) ∧ (due b ≠ 0 → b.getD (low b) 0 < 0 ∧ 0 < b.getD (high b) 0 ∧ low b ≠ high b) := by
 obtain ⟨hl, hs⟩ := h
 obtain ⟨a0, a1, a2, a3, a4, rfl⟩ := five hl
 have l0 := (lowK_spec [a0, a1, a2, a3, a4] 5).1
 have h0 := (highK_spec [a0, a1, a2, a3, a4] 5).1
 have e1 : ∀ x, x = ([a0, a1, a2, a3, a4] : List Int).getD (low [a0, a1, a2, a3, a4]) 0 → x ≤ a0 ∧ x ≤ a1 ∧ x ≤ a2 ∧ x ≤ a3 ∧ x ≤ a4 := fun x hx => by
  subst hx
  exact ⟨l0 0 (by omega), l0 1 (by omega), l0 2 (by omega), l0 3 (by omega), l0 4 (by omega)⟩
 have e2 : ∀ x, x = ([a0, a1, a2, a3, a4] : List Int).getD (high [a0, a1, a2, a3, a4]) 0 → a0 ≤ x ∧ a1 ≤ x ∧ a2 ≤ x ∧ a3 ≤ x ∧ a4 ≤ x := fun x hx => by
  subst hx
  exact ⟨h0 0 (by omega), h0 1 (by omega), h0 2 (by omega), h0 3 (by omega), h0 4 (by omega)⟩
 simp only [sum, tot, id] at hs
 unfold due
 generalize hx : ([a0, a1, a2, a3, a4] : List Int).getD (low [a0, a1, a2, a3, a4]) 0 = x at *
 generalize hy : ([a0, a1, a2, a3, a4] : List Int).getD (high [a0, a1, a2, a3, a4]) 0 = y at *
 obtain ⟨p0, p1, p2, p3, p4⟩ := e1 x rfl
 obtain ⟨q0, q1, q2, q3, q4⟩ := e2 y rfl
 refine ⟨by omega, fun hd i hi => ?_, fun hd => ⟨by omega, by omega, fun e => ?_⟩⟩
 ·have : a0 = 0 ∧ a1 = 0 ∧ a2 = 0 ∧ a3 = 0 ∧ a4 = 0 := by omega
  obtain ⟨rfl, rfl, rfl, rfl, rfl⟩ := this
  match i, hi with
  | 0, _ => rfl
  | 1, _ => rfl
  | 2, _ => rfl
  | 3, _ => rfl
  | 4, _ => rfl
 ·rw [e] at hx
  rw [hx] at hy
  omega
theorem pay_length (b : List Int) (l h : Nat) (n : Int) : (pay b l h n).length = b.length := by simp [pay]
theorem pay_getD {b : List Int} {l h : Nat} (n : Int) (hl : l < b.length) (hh : h < b.length) (hne : l ≠ h) (i : Nat) : (pay b l h n).getD i 0 = b.getD i 0 + (if i = l then n else 0) - (if i = h then n else 0) := by
 unfold pay
 rw [getD_set _ _ _ _ (by simpa using hh), getD_set _ _ _ _ hl]
 by_cases e1 : i = h
 ·subst e1; rw [if_pos rfl, if_pos rfl, if_neg (Ne.symm hne)]; omega
 ·rw [if_neg e1, if_neg e1]
  by_cases e2 : i = l
  ·subst e2; simp
  ·rw [if_neg e2, if_neg e2]; omega
theorem tot_pay (f : Int → Int) {b : List Int} {l h : Nat} (n : Int) (hl : l < b.length) (hh : h < b.length) (hne : l ≠ h) : tot f (pay b l h n) = tot f b - f (b.getD l 0) + f (b.getD l 0 + n) - f (b.getD h 0) + f (b.getD h 0 - n) := by
 unfold pay
 rw [tot_set f _ h _ (by simpa using hh), tot_set f _ l _ hl, getD_set _ _ _ _ hl, if_neg (Ne.symm hne)]
theorem pay_bal {b : List Int} (h : Bal b) (hd : due b ≠ 0) : Bal (pay b (low b) (high b) (due b)) := by
 obtain ⟨_, _, hne⟩ := (due_spec h).2.2 hd
 have hl := h.1
 refine ⟨by rw [pay_length, hl], ?_⟩
 have := h.2
 unfold sum at *
 rw [tot_pay id _ (by rw [hl]; exact low_lt b) (by rw [hl]; exact high_lt b) hne, this]
 simp only [id]
 omega
theorem pay_nz {b : List Int} (h : Bal b) (hd : due b ≠ 0) : nz (pay b (low b) (high b) (due b)) ≤ nz b - 1 := by
 obtain ⟨h1, h2, hne⟩ := (due_spec h).2.2 hd
 have hl := h.1
 unfold nz
 rw [tot_pay one _ (by rw [hl]; exact low_lt b) (by rw [hl]; exact high_lt b) hne]
 have e : due b = min (b.getD (high b) 0) (0 - b.getD (low b) 0) := rfl
 generalize b.getD (low b) 0 = x at *
 generalize b.getD (high b) 0 = y at *
 generalize due b = n at *
 have a1 : one x = 1 := by unfold one; rw [if_neg (by omega)]
 have a2 : one y = 1 := by unfold one; rw [if_neg (by omega)]
 have a3 : one (x + n) + one (y - n) ≤ 1 := by
  unfold one
  by_cases hx : x + n = 0
  ·rw [if_pos hx]; split <;> omega
  ·rw [if_neg hx, if_pos (by omega)]; omega
 omega
theorem nz_nonneg (b : List Int) : 0 ≤ nz b := by
 unfold nz
 induction b with
 | nil => simp [tot]
 | cons x xs ih => simp only [tot]; unfold one at *; split <;> omega
theorem nz_le : ∀ (b : List Int), nz b ≤ b.length
 | [] => by simp [nz, tot]
 | x :: xs => by
  have := nz_le xs
  unfold nz at *
  simp only [tot, List.length_cons]
  have : one x ≤ 1 := by unfold one; split <;> omega
  omega
theorem nz_pos {b : List Int} (h : Bal b) (hd : due b ≠ 0) : 1 ≤ nz b := by
 have := pay_nz h hd
 have := nz_nonneg (pay b (low b) (high b) (due b))
 omega
theorem settle_more : ∀ (f : Nat) (b : List Int), Bal b → nz b ≤ f → settle (f + 1) b = settle f b
 | 0, b, h, hn => by
  have hd : due b = 0 := by
   by_cases hd : due b = 0
   ·exact hd
   ·have := nz_pos h hd; omega
  unfold settle
  rw [if_pos hd]
 | f + 1, b, h, hn => by
  unfold settle
  by_cases hd : due b = 0
  ·rw [if_pos hd, if_pos hd]
  ·rw [if_neg hd, if_neg hd, settle_more f _ (pay_bal h hd) (by have := pay_nz h hd; omega)]
def eff : List (Nat × Nat × Int) → Nat → Int
 | [], _ => 0
 | (l, h, n) :: r, p => (if p = h then n else 0) - (if p = l then n else 0) + eff r p
def all : List (Nat × Nat × Int) → Int
 | [] => 0
 | (_, _, n) :: r => n + all r
theorem settle_spec : ∀ (f : Nat) (b : List Int), Bal b → nz b ≤ f → ∀ out, settle f b = some out →
  (∀ t ∈ out, t.1 < 5 ∧ t.2.1 < 5 ∧ t.1 ≠ t.2.1 ∧ 1 ≤ t.2.2 ∧ t.2.2 ≤ 9999 ∧ b.getD t.1 0 < 0 ∧ 0 < b.getD t.2.1 0) ∧ (∀ p, p < 5 → eff out p = b.getD p 0) ∧ all out = pos b ∧ ((out.length : Int) ≤ nz b - 1 ∨ out = [])
 | 0, b, h, hn, out, ho => by
  have hd : due b = 0 := by
   by_cases hd : due b = 0
   ·exact hd
   ·have := nz_pos h hd; omega
  have hz := (due_spec h).2.1 hd
  obtain rfl : [] = out := by simpa [settle] using ho
  refine ⟨fun t ht => by simp at ht, fun p hp => by rw [hz p hp]; rfl, ?_, .inr rfl⟩
  obtain ⟨a0, a1, a2, a3, a4, rfl⟩ := five h.1
  have z0 := hz 0 (by omega); have z1 := hz 1 (by omega); have z2 := hz 2 (by omega); have z3 := hz 3 (by omega); have z4 := hz 4 (by omega)
  simp at z0 z1 z2 z3 z4
  subst z0 z1 z2 z3 z4
  simp [all, pos, tot]
 | f + 1, b, h, hn, out, ho => by
  unfold settle at ho
  by_cases hd : due b = 0
  ·rw [if_pos hd] at ho
   have hz := (due_spec h).2.1 hd
   obtain rfl : [] = out := by simpa using ho
   refine ⟨fun t ht => by simp at ht, fun p hp => by rw [hz p hp]; rfl, ?_, .inr rfl⟩
   obtain ⟨a0, a1, a2, a3, a4, rfl⟩ := five h.1
   have z0 := hz 0 (by omega); have z1 := hz 1 (by omega); have z2 := hz 2 (by omega); have z3 := hz 3 (by omega); have z4 := hz 4 (by omega)
   simp at z0 z1 z2 z3 z4
   subst z0 z1 z2 z3 z4
   simp [all, pos, tot]
  ·rw [if_neg hd] at ho
   by_cases hb : due b < 1 ∨ 9999 < due b
   ·rw [if_pos hb] at ho; cases ho
   ·rw [if_neg hb] at ho
    obtain ⟨h1, h2, hne⟩ := (due_spec h).2.2 hd
    have hl := h.1
    have ll : low b < b.length := by rw [hl]; exact low_lt b
    have lh : high b < b.length := by rw [hl]; exact high_lt b
    have hp := pay_bal h hd
    have hpn := pay_nz h hd
    cases hr : settle f (pay b (low b) (high b) (due b)) with
    | none => rw [hr] at ho; cases ho
    | some r =>
     rw [hr] at ho
     obtain rfl : (low b, high b, due b) :: r = out := by simpa using ho
     obtain ⟨i1, i2, i3, i4⟩ := settle_spec f _ hp (by omega) r hr
     have e : due b = min (b.getD (high b) 0) (0 - b.getD (low b) 0) := rfl
     refine ⟨fun t ht => ?_, fun p hp5 => ?_, ?_, ?_⟩
     ·rcases List.mem_cons.1 ht with rfl | ht
      ·exact ⟨low_lt b, high_lt b, hne, by show 1 ≤ due b; omega, by show due b ≤ 9999; omega, h1, h2⟩
      ·obtain ⟨j1, j2, j3, j4, j5, j6, j7⟩ := i1 t ht
       rw [pay_getD _ ll lh hne] at j6 j7
       refine ⟨j1, j2, j3, j4, j5, ?_, ?_⟩
       ·by_cases k1 : t.1 = high b
        ·rw [k1, if_neg (Ne.symm hne), if_pos rfl] at j6; omega
        ·rw [if_neg k1] at j6
         by_cases k2 : t.1 = low b
         ·rw [k2]; exact h1
         ·rw [if_neg k2] at j6; omega
       ·by_cases k1 : t.2.1 = low b
        ·rw [k1, if_pos rfl, if_neg hne] at j7; omega
        ·rw [if_neg k1] at j7
         by_cases k2 : t.2.1 = high b
         ·rw [k2]; exact h2
         ·rw [if_neg k2] at j7; omega
     ·have := i2 p hp5
      rw [pay_getD _ ll lh hne] at this
      show (if p = high b then due b else 0) - (if p = low b then due b else 0) + eff r p = b.getD p 0
      rw [this]
      omega
     ·show due b + all r = pos b
      rw [i3]
      unfold pos
      rw [tot_pay _ _ ll lh hne]
      generalize b.getD (low b) 0 = x at *
      generalize b.getD (high b) 0 = y at *
      omega
     ·refine .inl ?_
      show ((r.length + 1 : Nat) : Int) ≤ nz b - 1
      rcases i4 with i4 | rfl
      ·omega
      ·have : 2 ≤ nz b := by
        have hq : one (b.getD (low b) 0) = 1 ∧ one (b.getD (high b) 0) = 1 := ⟨by unfold one; rw [if_neg (by omega)], by unfold one; rw [if_neg (by omega)]⟩
        have hw := tot_set one b (low b) 0 ll
        have hw2 := tot_set one (b.set (low b) 0) (high b) 0 (by simpa using lh)
        rw [getD_set _ _ _ _ ll, if_neg (Ne.symm hne)] at hw2
        have h0 : one 0 = 0 := rfl
        have := nz_nonneg ((b.set (low b) 0).set (high b) 0)
        unfold nz at *
        omega
       simp
       omega
end Go.Proofs.YthdoofmfigemoaaGreatDoor.Ta
end
section
namespace Go.Proofs.YthdoofmfigemoaaGreatDoor.Ta
def Holds (f : Nat → Int) (m : Nat) (xs : List (Nat × Int)) : Prop := xs.Nodup ∧ ∀ x : Nat × Int, x ∈ xs ↔ x.1 < m ∧ 0 < f x.1 ∧ x.2 = f x.1
section
variable {f g : Nat → Int} {m : Nat} {xs ys : List (Nat × Int)}
theorem Holds.perm (h : Holds f m xs) (p : ys.Perm xs) : Holds f m ys := ⟨p.nodup_iff.2 h.1, fun x => (p.mem_iff).trans (h.2 x)⟩
theorem Holds.zero (f : Nat → Int) : Holds f 0 [] := ⟨List.nodup_nil, fun x => by simp⟩
theorem nodup_le : ∀ (xs ys : List (Nat × Int)), xs.Nodup → (∀ x ∈ xs, x ∈ ys) → xs.length ≤ ys.length
 | [], ys, _, _ => by simp
 | x :: xs, ys, h, k => by
  have hx := k x List.mem_cons_self
  have h2 := nodup_le xs (ys.erase x) (List.nodup_cons.1 h).2 (fun y hy => (List.mem_erase_of_ne (fun e => (List.nodup_cons.1 h).1 (by rw [← e]; exact hy))).2 (k y (List.mem_cons_of_mem _ hy)))
  rw [List.length_erase_of_mem hx] at h2
  have h3 := List.length_pos_of_mem hx
  simp only [List.length_cons]
  omega
theorem Holds.len (h : Holds f m xs) : xs.length ≤ m := by
 have := nodup_le xs ((List.range m).map (fun i => (i, f i))) h.1 (fun x hx => by
  obtain ⟨h1, _, h2⟩ := (h.2 x).1 hx
  exact List.mem_map.2 ⟨x.1, List.mem_range.2 h1, by rw [← h2]⟩)
 simpa using this
def putL (xs : List (Nat × Int)) (x : Nat × Int) : List (Nat × Int) := if 0 < x.2 then upL 3 (xs ++ [x]) xs.length else xs
theorem putL_ok {xs : List (Nat × Int)} {x : Nat × Int} (h : Heap xs) (hl : xs.length ≤ 4) : Heap (putL xs x) ∧ (putL xs x).Perm (if 0 < x.2 then x :: xs else xs) := by
 unfold putL
 by_cases hx : 0 < x.2
 ·rw [if_pos hx, if_pos hx]; exact up_ok xs x h hl
 ·rw [if_neg hx, if_neg hx]; exact ⟨h, .refl _⟩
theorem Holds.put (h : Holds f m xs) : Holds f (m + 1) (if 0 < f m then (m, f m) :: xs else xs) := by
 by_cases hx : 0 < f m
 ·rw [if_pos hx]
  refine ⟨List.nodup_cons.2 ⟨fun hm => by have := ((h.2 _).1 hm).1; simp at this, h.1⟩, fun x => ?_⟩
  rw [List.mem_cons, h.2 x]
  constructor
  ·rintro (rfl | ⟨a, b, c⟩)
   ·exact ⟨by simp, hx, rfl⟩
   ·exact ⟨by omega, b, c⟩
  ·rintro ⟨a, b, c⟩
   by_cases e : x.1 = m
   ·exact .inl (Prod.ext e (by rw [c, e]))
   ·exact .inr ⟨by omega, b, c⟩
 ·rw [if_neg hx]
  refine ⟨h.1, fun x => ?_⟩
  rw [h.2 x]
  constructor
  ·rintro ⟨a, b, c⟩
   exact ⟨by omega, b, c⟩
  ·rintro ⟨a, b, c⟩
   by_cases e : x.1 = m
   ·rw [e] at b; exact absurd b hx
   ·exact ⟨by omega, b, c⟩
theorem Holds.putL (h : Holds f m xs) (hh : Heap xs) (hm : m ≤ 4) : Holds f (m + 1) (putL xs (m, f m)) ∧ Heap (putL xs (m, f m)) := by
 obtain ⟨h1, h2⟩ := putL_ok (x := (m, f m)) hh (by have := h.len; omega)
 exact ⟨h.put.perm h2, h1⟩
theorem Holds.again {a : Nat × Int} (h : Holds f m (a :: xs)) (hg : ∀ i, i < m → i ≠ a.1 → (0 < g i ↔ 0 < f i) ∧ (0 < g i → g i = f i)) : Holds g m (if 0 < g a.1 then (a.1, g a.1) :: xs else xs) := by
 obtain ⟨a0, a1, a2⟩ := (h.2 a).1 List.mem_cons_self
 obtain ⟨n1, n2⟩ := List.nodup_cons.1 h.1
 have no : ∀ x ∈ xs, x.1 ≠ a.1 := fun x hx e => by
  obtain ⟨_, _, b2⟩ := (h.2 x).1 (List.mem_cons_of_mem _ hx)
  exact n1 ((show x = a from Prod.ext e (by rw [b2, a2, e])) ▸ hx)
 have key : ∀ x : Nat × Int, x ∈ xs ↔ x.1 < m ∧ x.1 ≠ a.1 ∧ 0 < g x.1 ∧ x.2 = g x.1 := fun x => by
  constructor
  ·intro hx
   obtain ⟨b0, b1, b2⟩ := (h.2 x).1 (List.mem_cons_of_mem _ hx)
   obtain ⟨q1, q2⟩ := hg x.1 b0 (no x hx)
   have b3 := q1.2 b1
   exact ⟨b0, no x hx, b3, by rw [q2 b3]; exact b2⟩
  ·rintro ⟨b0, b1, b2, b3⟩
   obtain ⟨q1, q2⟩ := hg x.1 b0 b1
   rcases List.mem_cons.1 ((h.2 x).2 ⟨b0, q1.1 b2, by rw [b3, q2 b2]⟩) with e | e
   ·exact absurd (by rw [e]) b1
   ·exact e
 by_cases hx : 0 < g a.1
 ·rw [if_pos hx]
  refine ⟨List.nodup_cons.2 ⟨fun hm => no _ hm rfl, n2⟩, fun x => ?_⟩
  rw [List.mem_cons, key x]
  constructor
  ·rintro (rfl | ⟨b0, _, b2, b3⟩)
   ·exact ⟨a0, hx, rfl⟩
   ·exact ⟨b0, b2, b3⟩
  ·rintro ⟨b0, b2, b3⟩
   by_cases e : x.1 = a.1
   ·exact .inl (Prod.ext e (by rw [b3, e]))
   ·exact .inr ⟨b0, e, b2, b3⟩
 ·rw [if_neg hx]
  refine ⟨n2, fun x => ?_⟩
  rw [key x]
  constructor
  ·rintro ⟨b0, _, b2, b3⟩; exact ⟨b0, b2, b3⟩
  ·rintro ⟨b0, b2, b3⟩
   refine ⟨b0, fun e => ?_, b2, b3⟩
   rw [e] at b2; exact hx b2
end
def owe (b : List Int) (i : Nat) : Int := - b.getD i 0
def claim (b : List Int) (i : Nat) : Int := b.getD i 0
def St (b : List Int) (xs ys : List (Nat × Int)) : Prop := Bal b ∧ Heap xs ∧ Heap ys ∧ Holds (owe b) 5 xs ∧ Holds (claim b) 5 ys
theorem root_owe {b : List Int} {a : Nat × Int} {xs : List (Nat × Int)} (hh : Heap (a :: xs)) (h : Holds (owe b) 5 (a :: xs)) : a = (low b, owe b (low b)) := by
 obtain ⟨a0, a1, a2⟩ := (h.2 a).1 List.mem_cons_self
 obtain ⟨l1, l2, l3, _⟩ := lowK_spec b 5
 have l0 : low b < 5 := low_lt b
 have e1 := l1 a.1 a0
 unfold owe at *
 have hm := heap_root hh _ ((h.2 (low b, -b.getD (low b) 0)).2 ⟨l0, by show 0 < -b.getD (low b) 0; unfold low; omega, rfl⟩)
 rw [le_iff] at hm
 have e2 := l2 a.1
 have : a.1 = low b := by unfold low at *; simp only at hm; omega
 exact Prod.ext this (by rw [a2, this])
theorem root_claim {b : List Int} {a : Nat × Int} {xs : List (Nat × Int)} (hh : Heap (a :: xs)) (h : Holds (claim b) 5 (a :: xs)) : a = (high b, claim b (high b)) := by
 obtain ⟨a0, a1, a2⟩ := (h.2 a).1 List.mem_cons_self
 obtain ⟨l1, l2, l3, _⟩ := highK_spec b 5
 have l0 : high b < 5 := high_lt b
 have e1 := l1 a.1 a0
 unfold claim at *
 have hm := heap_root hh _ ((h.2 (high b, b.getD (high b) 0)).2 ⟨l0, by show 0 < b.getD (high b) 0; unfold high; omega, rfl⟩)
 rw [le_iff] at hm
 have e2 := l2 a.1
 have : a.1 = high b := by unfold high at *; simp only at hm; omega
 exact Prod.ext this (by rw [a2, this])
theorem St.done {b : List Int} {xs ys : List (Nat × Int)} (h : St b xs ys) (he : xs = [] ∨ ys = []) : due b = 0 := by
 obtain ⟨hb, _, _, hx, hy⟩ := h
 by_cases hd : due b = 0
 ·exact hd
 ·obtain ⟨h1, h2, _⟩ := (due_spec hb).2.2 hd
  rcases he with rfl | rfl
  ·have := (hx.2 (low b, owe b (low b))).2 ⟨low_lt b, by show 0 < -b.getD (low b) 0; omega, rfl⟩
   simp at this
  ·have := (hy.2 (high b, claim b (high b))).2 ⟨high_lt b, by show 0 < b.getD (high b) 0; omega, rfl⟩
   simp at this
theorem St.step {b : List Int} {x y : Nat × Int} {xs ys : List (Nat × Int)} (h : St b (x :: xs) (y :: ys)) :
  x = (low b, owe b (low b)) ∧ y = (high b, claim b (high b)) ∧ due b ≠ 0 ∧ due b = min (owe b (low b)) (claim b (high b)) ∧ 0 < due b ∧
  ∀ xs' ys', xs'.Perm xs → ys'.Perm ys → Heap xs' → Heap ys' →
   St (pay b (low b) (high b) (due b)) (putL xs' (low b, owe b (low b) - due b)) (putL ys' (high b, claim b (high b) - due b)) := by
 obtain ⟨hb, hx, hy, hX, hY⟩ := h
 have ex := root_owe hx hX
 have ey := root_claim hy hY
 subst ex
 subst ey
 obtain ⟨_, p1, _⟩ := (hX.2 _).1 List.mem_cons_self
 obtain ⟨_, q1, _⟩ := (hY.2 _).1 List.mem_cons_self
 have e : due b = min (owe b (low b)) (claim b (high b)) := by unfold due owe claim; omega
 have e0 : 0 < due b := by simp only at p1 q1; omega
 have hd : due b ≠ 0 := by omega
 obtain ⟨_, _, hne⟩ := (due_spec hb).2.2 hd
 have ll : low b < b.length := by rw [hb.1]; exact low_lt b
 have lh : high b < b.length := by rw [hb.1]; exact high_lt b
 have gd := fun i => pay_getD (b := b) (due b) ll lh hne i
 refine ⟨rfl, rfl, hd, e, e0, fun xs' ys' px py hx' hy' => ⟨pay_bal hb hd, ?_⟩⟩
 have lx : xs'.length ≤ 4 := by have := hX.len; rw [px.length_eq]; simp at this; omega
 have ly : ys'.length ≤ 4 := by have := hY.len; rw [py.length_eq]; simp at this; omega
 have ax := hX.again (g := owe (pay b (low b) (high b) (due b))) (fun i hi hne2 => by
  unfold owe at *
  rw [gd i, if_neg hne2]
  by_cases e1 : i = high b
  ·rw [if_pos e1]; subst e1; unfold claim at *; simp only at q1 p1; omega
  ·rw [if_neg e1]; omega)
 have ay := hY.again (g := claim (pay b (low b) (high b) (due b))) (fun i hi hne2 => by
  unfold claim at *
  rw [gd i, if_neg hne2]
  by_cases e1 : i = low b
  ·rw [if_pos e1]; subst e1; unfold owe at *; simp only at q1 p1; omega
  ·rw [if_neg e1]; omega)
 have vx : owe (pay b (low b) (high b) (due b)) (low b) = owe b (low b) - due b := by unfold owe; rw [gd, if_pos rfl, if_neg hne]; omega
 have vy : claim (pay b (low b) (high b) (due b)) (high b) = claim b (high b) - due b := by unfold claim; rw [gd, if_pos rfl, if_neg (Ne.symm hne)]; omega
 simp only at ax ay
 rw [vx] at ax
 rw [vy] at ay
 obtain ⟨r1, r2⟩ := putL_ok (x := (low b, owe b (low b) - due b)) hx' lx
 obtain ⟨s1, s2⟩ := putL_ok (x := (high b, claim b (high b) - due b)) hy' ly
 refine ⟨r1, s1, ax.perm (r2.trans ?_), ay.perm (s2.trans ?_)⟩
 ·split
  ·exact px.cons _
  ·exact px
 ·split
  ·exact py.cons _
  ·exact py
def Bd (m : Int) (b : List Int) : Prop := ∀ i, -m ≤ b.getD i 0 ∧ b.getD i 0 ≤ m
theorem Bd.pay {m : Int} {b : List Int} (h : Bd m b) (hb : Bal b) (hd : due b ≠ 0) : Bd m (pay b (low b) (high b) (due b)) := by
 obtain ⟨h1, h2, hne⟩ := (due_spec hb).2.2 hd
 have ll : low b < b.length := by rw [hb.1]; exact low_lt b
 have lh : high b < b.length := by rw [hb.1]; exact high_lt b
 intro i
 have e : due b = min (b.getD (high b) 0) (0 - b.getD (low b) 0) := rfl
 have hi := h i
 have hl := h (low b)
 have hh := h (high b)
 rw [pay_getD _ ll lh hne]
 by_cases e1 : i = low b
 ·rw [if_pos e1, if_neg (by rw [e1]; exact hne)]; subst e1; omega
 ·rw [if_neg e1]
  by_cases e2 : i = high b
  ·rw [if_pos e2]; subst e2; omega
  ·rw [if_neg e2]; omega
def Todo (b0 : List Int) (f : Nat) (b : List Int) (out : List (Nat × Nat × Int)) : Prop := settle 5 b0 = (settle f b).map (out ++ ·) ∧ nz b ≤ f ∧ f + out.length = 5
theorem Todo.start {b : List Int} (h : b.length = 5) : Todo b 5 b [] := ⟨by simp, by have := nz_le b; omega, rfl⟩
theorem Todo.done {b0 b : List Int} {f : Nat} {out : List (Nat × Nat × Int)} (h : Todo b0 f b out) (hd : due b = 0) : settle 5 b0 = some out := by
 rw [h.1]
 cases f with
 | zero => simp [settle]
 | succ f => simp [settle, hd]
theorem Todo.pos {b0 b : List Int} {f : Nat} {out : List (Nat × Nat × Int)} (h : Todo b0 f b out) (hb : Bal b) (hd : due b ≠ 0) : ∃ g, f = g + 1 := by
 have := nz_pos hb hd
 have := h.2.1
 exact ⟨f - 1, by omega⟩
theorem Todo.no {b0 b : List Int} {f : Nat} {out : List (Nat × Nat × Int)} (h : Todo b0 f b out) (hb : Bal b) (hd : due b ≠ 0) (hv : due b < 1 ∨ 9999 < due b) : settle 5 b0 = none := by
 obtain ⟨g, rfl⟩ := h.pos hb hd
 rw [h.1, settle, if_neg hd, if_pos hv]; rfl
theorem Todo.next {b0 b : List Int} {f : Nat} {out : List (Nat × Nat × Int)} (h : Todo b0 (f + 1) b out) (hb : Bal b) (hd : due b ≠ 0) (h1 : 1 ≤ due b) (h9 : due b ≤ 9999) : Todo b0 f (pay b (low b) (high b) (due b)) (out ++ [(low b, high b, due b)]) := by
 refine ⟨?_, by have := pay_nz hb hd; have := h.2.1; omega, by have := h.2.2; simp; omega⟩
 rw [h.1, settle, if_neg hd, if_neg (by omega), Option.map_map]
 congr 1
 funext r
 simp
end Go.Proofs.YthdoofmfigemoaaGreatDoor.Ta
end
namespace Go.Proofs.YthdoofmfigemoaaGreatDoor
open Go.RowKit
theorem bld_byte_info : (Tryz.prog.info? 5).map (fun i => (i.zero, i.size, i.bytes)) = some (some (.int .u8 0), 1, 1) := by kernel_rfl
theorem bld_ne : (65 : TypeId) ≠ 5 := by decide
theorem size_set' (w : World) (p : Addr) (v : Value) : w.heap.size ≤ (w.setCell p v).heap.size := by simp [World.setCell]
theorem bld_size : (Tryz.prog.info? 65).map (·.size) = some 2 := by kernel_rfl
theorem bld_lies : liesAt Tryz.prog Tryz.prog.depth 65 (2 / Tryz.prog.cellsOf 65) 0 65 1 = true := by kernel_rfl
theorem copyCheck_any (B b : Nat) (bs : List Value) (w : World) (h : Lib.IsBuilder 65 5 B b bs w) :
  Calls Tryz.prog 91 #[.pointer (some ⟨b, 0, none⟩)] w fun e w' => (∃ v, e = .returned v) ∧ Lib.BuilderAt 65 5 B b (.pointer (some ⟨b, 0, none⟩)) bs w' ∧ w.grownBy w' (some b) := by
 obtain ⟨j, hj, hjs⟩ := Option.map_eq_some_iff.1 bld_size
 have hneq := fun w => Lib.run_neq_ptr_same (P := Tryz.prog) w ⟨b, 0, none⟩ Tryz.underlying63 hj
 rcases h with h | h
 ·have c0 := h.cell0
  have f0 := h.frozen0
  have HU := Hd (h.used (.pointer (some ⟨b, 0, none⟩)))
  have hsh := h.shape
  have hcv := Lib.run_to_unsafe w ⟨b, 0, none⟩ Tryz.underlying63 Tryz.underlying171 hj (by rw [hjs]; decide) hsh (Nat.zero_lt_succ 1)
  have hcb := Lib.run_from_unsafe w ⟨b, 0, none⟩ Tryz.underlying171 Tryz.underlying63 hj hsh bld_lies
  clear h
  go_enter Tryz.func91, Tryz.ntmps91
  go_wp2
  rw [run_callFunc_extern Tryz.func127 (by kernel_rfl) (by kernel_rfl) (by kernel_rfl) (e := Extern.AbiNoEscape.same) (by kernel_rfl)]
  rw [Lib.run_noEscape]
  simp only [Result.andThen]
  rw [Oper.upon_value]
  go_wp2
  refine bodyPost_end (results_none rfl _ _ _) rfl ⟨⟨_, rfl⟩, HU.out, ⟨rfl, rfl, rfl, size_set' _ _ _, fun k _ hne => heap_setCell_other w _ k _ (fun e => hne (by rw [e]))⟩⟩
 ·have c0 := h.cell0
  have H := Hd h
  clear h
  go_enter Tryz.func91, Tryz.ntmps91
  go_wp2
  refine bodyPost_end (results_none rfl _ _ _) rfl ⟨⟨_, rfl⟩, H.out, World.grownBy.refl w _⟩
def Bu (w : World) (B b : Nat) (l : List UInt8) : Prop := Lib.IsBuilder 65 5 B b (Lib.byteCells l) w
def Oth (b : Nat) (w w' : World) : Prop := ∀ k cs T, w.heap[k]? = some (.cells cs T (0, 0)) → k ≠ b → T ≠ 5 → w'.heap[k]? = w.heap[k]?
theorem WriteString_any (B b : Nat) (l : List UInt8) (s : ByteArray) (w : World) (h : Bu w B b l) (hlen : l.length + s.size ≤ 1000000000) (hBw : B ≤ w.heap.size) :
  Calls Tryz.prog 45 #[.pointer (some ⟨b, 0, none⟩), .string s] w fun e w' => (∃ v, e = .returned v) ∧ Bu w' B b (l ++ s.data.toList) ∧ Below B w w' ∧ Oth b w w' := by
 obtain ⟨i0, hi, hz0, hz1, hz2⟩ := info_parts bld_byte_info
 go_enter Tryz.func45, Tryz.ntmps45
 go_wp2_with fail
 refine (copyCheck_any B b _ w h).mono ?_
 rintro e w1 ⟨⟨v1, rfl⟩, h1, hg1⟩
 obtain ⟨hB, v, hbk, hown, hne⟩ := h1
 have hb1 : Below B w w1 := grown_below hg1 hBw (by rintro k ⟨⟩; exact hB)
 have c1 : w1.cell? ⟨b, 1, none⟩ = some v := by rw [Lib.cell_of_heap hbk]; rfl
 go_wp2_with (refine Lib.wpList_append_own_string _ rfl _ _ 22 9 rfl B 5 i0 Tryz.underlying22 Tryz.underlying9 hi hz0 hz1 hz2 _ _ _ rfl hown s rfl ?c3 ?c4 ?c5 ?_)
 case c3 => rw [Lib.byteCells_length]; unfold maxLen; omega
 case c4 => rw [Lib.byteCells_length]; omega
 case c5 => have := hb1.size; omega
 intro v' w2 hown' hgrow _
 have hlt : b < w1.heap.size := (Array.getElem?_eq_some_iff.1 hbk).1
 have hb2 : w2.heap[b]? = some (.cells #[.pointer (some ⟨b, 0, none⟩), v] 65 (0, 0)) := by
  rw [hgrow.block b hlt (fun e => hne e.symm)]
  exact hbk
 have d1 : w2.cell? ⟨b, 1, none⟩ = some v := by rw [Lib.cell_of_heap hb2]; rfl
 have f1 : w2.frozen? ⟨b, 1, none⟩ = false := Lib.frozen_of_heap hb2 1
 have HBu := Hd (show Bu (w2.setCell ⟨b, 1, none⟩ v') B b (l ++ s.data.toList) from by
  have := Lib.BuilderAt.put (T := 65) (e := 5) hB hb2 (bs' := Lib.byteCells l ++ Lib.strCells s) (by rw [List.length_append, Lib.strCells_length]; exact hown') bld_ne
  rw [Lib.strCells_eq, ← Lib.byteCells_append] at this
  exact .inr this)
 have HBl := Hd (show Below B w (w2.setCell ⟨b, 1, none⟩ v') from (hb1.grown hgrow (Nat.le_trans hBw hb1.size) (fun k hk => (hown.lt k hk).1)).setCell (p := ⟨b, 1, none⟩) hB _)
 have HO := Hd (show Oth b w (w2.setCell ⟨b, 1, none⟩ v') from fun k cs T hk hkb hT => by
  have hkl := (Array.getElem?_eq_some_iff.1 hk).1
  have hk1 : w1.heap[k]? = w.heap[k]? := hg1.block k hkl (by intro e; injection e with e; exact hkb e)
  have hk2 : w2.heap[k]? = w1.heap[k]? := hgrow.block k (Nat.lt_of_lt_of_le hkl hg1.size) (fun e => Lib.ownBlock_ne hown (hk1.trans hk) hT e.symm)
  exact (heap_setCell_other w2 _ k _ (fun e => hkb (by rw [e]))).trans (hk2.trans hk1))
 obtain ⟨ao, n', cap, rfl⟩ : ∃ ao n' cap, v' = .slice ao n' cap := by
  rcases hown'.2 with ⟨hv, _⟩ | ⟨g, cap, cur, hv, _⟩
  ·exact ⟨_, _, _, hv⟩
  ·exact ⟨_, _, _, hv⟩
 clear hown' hgrow hown hb1 hbk hb2 hg1 h
 go_wp2
 go_ret2
 exact ⟨⟨_, rfl⟩, HBu.out, HBl.out, HO.out⟩
theorem ownsRow_blk {w w' : World} {B k n : Nat} {e : TypeId} {v : Value} {vs : List Value} (h : w.ownsRow B e k v n vs) (hk : ∀ g cur, v.ownBlock = some g → w.heap[g]? = some (.cells cur e (0, 0)) → w'.heap[g]? = w.heap[g]?) : w'.ownsRow B e k v n vs := by
 refine ⟨h.1, ?_⟩
 rcases h.2 with h0 | ⟨g, cap, cur, hv, h1, hg, rest⟩
 ·exact .inl h0
 ·exact .inr ⟨g, cap, cur, hv, h1, (hk g cur (by rw [hv]; rfl) hg).trans hg, rest⟩
theorem KeptT.same {B0 : Nat} {w w' : World} (h : KeptT B0 w w') {k : Nat} {cs : Array Value} {T : TypeId} {z : Nat × Nat} (hb : w.heap[k]? = some (.cells cs T z)) (h1 : T ≠ 62) (h2 : T ≠ 52) : w'.heap[k]? = w.heap[k]? := by
 refine h.block k (Array.getElem?_eq_some_iff.1 hb).1 ?_
 rintro ⟨_, cs', z', T', e, ht⟩
 rw [hb] at e
 injection e with e
 injection e with _ e _
 subst e
 rcases ht with ht | ht
 ·exact h1 ht
 ·exact h2 ht
theorem Bu.keptT {B0 B b : Nat} {l : List UInt8} {w w' : World} (h : Bu w B b l) (hk : KeptT B0 w w') : Bu w' B b l := by
 have key : ∀ p, Lib.BuilderAt 65 5 B b p (Lib.byteCells l) w → Lib.BuilderAt 65 5 B b p (Lib.byteCells l) w' := by
  rintro p ⟨hB, v, hb, hown, hne⟩
  exact ⟨hB, v, (hk.same hb (by decide) (by decide)).trans hb, ownsRow_blk hown fun g cur _ hg => hk.same hg (by decide) (by decide), hne⟩
 rcases h with h | h
 ·exact .inl (key _ h)
 ·exact .inr (key _ h)
theorem Tab.oth {B0 tb b : Nat} {bs ds : List Int} {ts : List Tl} {w w' : World} (h : Tab B0 w tb bs ds ts) (ho : Oth b w w') {cs : Array Value} (hb : Blk w b cs 65) : Tab B0 w' tb bs ds ts := by
 obtain ⟨hB, Ab, nb, cb, A, c, A', c', At, nt, ct, h0, h1, h2, h3, h4⟩ := h
 have hb' : w.heap[b]? = some (.cells cs 65 (0, 0)) := hb
 have far : ∀ (k : Nat) (cur : Array Value) (T : TypeId), w.heap[k]? = some (.cells cur T (0, 0)) → T ≠ 65 → T ≠ 5 → w'.heap[k]? = w.heap[k]? := by
  intro k cur T hk hT hT2
  refine ho k cur T hk ?_ hT2
  rintro rfl
  rw [hk] at hb'
  injection hb' with e
  injection e with _ e _
  exact hT e
 have row : ∀ {e : TypeId} {k n c : Nat} {A : Option Addr} {vs : List Value}, e ≠ 65 → e ≠ 5 → OwnR w B0 e k A n c vs → OwnR w' B0 e k A n c vs := fun he he2 hr => ⟨ownsRow_blk hr.1 fun g cur _ hg => far g cur _ hg he he2, hr.2⟩
 exact ⟨hB, Ab, nb, cb, A, c, A', c', At, nt, ct, h0.keep (far tb _ _ h0 (by decide) (by decide)), row (by decide) (by decide) h1.r, row (by decide) (by decide) h2.r, row (by decide) (by decide) h3.r, row (by decide) (by decide) h4⟩
theorem Blk.oth {w w' : World} {b k : Nat} {cs cb : Array Value} {T : TypeId} (h : Blk w k cs T) (ho : Oth b w w') (hb : Blk w b cb 65) (h1 : T ≠ 65) (h2 : T ≠ 5) : Blk w' k cs T := by
 refine h.keep (ho k cs T h ?_ h2)
 rintro rfl
 have e1 : w.heap[k]? = some (.cells cs T (0, 0)) := h
 have e2 : w.heap[k]? = some (.cells cb 65 (0, 0)) := hb
 rw [e1] at e2
 injection e2 with e
 injection e with _ e _
 exact h1 e
theorem hasRoot_any (n : Int) (w : World) : Calls Tryz.prog 71 #[.int .i64 n] w fun e w' => e = .returned (.bool (decide (0 ≤ n) && decide (n ≤ 1000000000))) ∧ w = w' := by
 by_cases h1 : 0 ≤ n <;> by_cases h2 : n ≤ 1000000000
 all_goals
  go_enter Tryz.func71, Tryz.ntmps71
  go_wp2
  go_ret
  exact ⟨ret_bool (by simp [h1, h2]), rfl⟩
theorem hasRoot_is {n : Int} {r : Bool} (h : (decide (0 ≤ n) && decide (n ≤ 1000000000)) = r) (w : World) : Calls Tryz.prog 71 #[.int .i64 n] w fun e w' => e = .returned (.bool r) ∧ w = w' := by
 rw [← h]; exact hasRoot_any n w
theorem hasRoot_yes {n : Nat} (h : n ≤ 1000000000) (w : World) : Calls Tryz.prog 71 #[.int .i64 (n : Int)] w fun e w' => e = .returned (.bool true) ∧ w = w' :=
 hasRoot_is (by simp; omega) w
theorem pr_next {k : Nat} {ys zs : List Int} (hk : 0 < k) (h : Gl.pr k ++ ys = zs) : Gl.pr (k / 100) ++ ([(k : Int) % 100] ++ ys) = zs := by
 rw [← h, Gl.pr_pos (show k ≠ 0 by omega)]
 simp
theorem pr_len {k n j : Nat} {ys : List Int} (hn : n ≤ 1000000000) (h : Gl.pr k ++ ys = Gl.prs n) (hl : ys.length = j) : j ≤ 5 := by
 have := Gl.prs_length hn
 rw [← h, List.length_append] at this
 omega
theorem prs_start (n : Nat) : Gl.pr (n / 100) ++ [(n : Int) % 100] = Gl.prs n := by simp [Gl.prs]
theorem pairsOf_any (n : Nat) (w : World) (hn : n ≤ 1000000000) :
  Calls Tryz.prog 110 #[.int .i64 (n : Int)] w fun e w' => (∃ A c, e = .returned (.slice A (Gl.prs n).length c) ∧ Own w' w.heap.size A (Gl.prs n).length c (Gl.prs n)) ∧ Below w.heap.size w w' := by
 go_enter Tryz.func110, Tryz.ntmps110
 go_wp2
 go_loopw [0, 3] (fun m v wr => ∃ (k : Nat) (A : Option Addr) (j c : Nat) (ys : List Int), m = .int .i64 (k : Int) ∧ v = .slice A j c ∧ k ≤ 1000000000 ∧ Own wr w.heap.size A j c ys ∧ Gl.pr k ++ ys = Gl.prs n ∧ Below w.heap.size w wr) (fun m _ _ => (intOf m).toNat)
 case atStart => exact ⟨n / 100, _, 1, 1, [(n : Int) % 100], by go_num, rfl, by omega, own_lit w [(n : Int) % 100] w.heap.size 1 rfl (by omega) (Nat.le_refl _), prs_start n, (Below.refl _ _).alloc (Nat.le_refl _) _⟩
 case round =>
  obtain ⟨k, A, j, c, ys, rfl, rfl, hk, hown, heq, hb⟩ := hrel
  have hj := pr_len hn heq hown.len
  have hsz := hb.size
  have HO := Hd hown
  have HEQ := Hd heq
  have HB := Hd hb
  clear hown heq hb
  by_cases h0 : 0 < k
  ·have HLIT : Hid (Own (wr.alloc (.cells #[.int .i64 ((k : Int) % 100)] 3)) w.heap.size (some ⟨wr.heap.size, 0, none⟩) 1 1 [(k : Int) % 100]) := Hd (own_lit wr [(k : Int) % 100] w.heap.size 1 rfl (by omega) hsz)
   go_wp2_with (at_builtin; refine wpList_app_ints rfl _ _ rfl rfl HLIT.out rfl (HO.out.ints.alloc (Nat.le_refl _) _) (by omega) (by simp; omega) ?_; intro A1 c1 w1 hown1 hg1)
   have HB1 := Hd (below_step (HB.out.alloc hsz _) hg1 HLIT.out (by simp; omega))
   go_roundw
   case rel => exact ⟨k / 100, _, _, _, _, by go_num, rfl, by omega, hown1, pr_next h0 HEQ.out, HB1.out⟩
   case measure => simp [intOf]; omega
  ·obtain rfl : k = 0 := by omega
   obtain rfl : ys = Gl.prs n := by simpa [Gl.pr_zero] using HEQ.out
   obtain rfl : (Gl.prs n).length = j := HO.out.len
   go_wp2
   go_ret
   exact ⟨⟨_, _, rfl, HO.out⟩, HB.out⟩
theorem r_step {n k : Nat} {u : Int} (hn : n ≤ 1000000000) (hu : (Gl.prs n)[k]? = some u) : 0 ≤ u ∧ u ≤ 99 ∧
  (0 ≤ (Gl.rAll ((Gl.prs n).take k)).2.1 ∧ (Gl.rAll ((Gl.prs n).take k)).2.1 ≤ 40000 ∧ 0 ≤ (Gl.rAll ((Gl.prs n).take k)).2.2 ∧ (Gl.rAll ((Gl.prs n).take k)).2.2 ≤ 80000) ∧
  (Gl.rAll ((Gl.prs n).take (k + 1))) = Gl.rStep (Gl.rAll ((Gl.prs n).take k)) u := by
 have h1 := Gl.prs_range n u (List.mem_of_getElem? hu)
 exact ⟨h1.1, h1.2, Gl.rAll_bound hn k, by rw [Gl.take_next hu, Gl.rAll_snoc]⟩
theorem dg_in {r : Int} {j : Nat} (h0 : 0 ≤ r) (h1 : r ≤ 40000) (hj : j ≤ 9) : 0 ≤ (20 * r + (j : Int)) * (j : Int) ∧ (20 * r + (j : Int)) * (j : Int) ≤ 800009 * 9 := mul_in (by omega) (by omega) (by omega) (by omega)
structure AtPair (n k : Nat) (ds : List Int) (r s : Int) : Prop where
 eq : Gl.rAll ((Gl.prs n).take k) = (ds, r, s)
theorem AtPair.start (n : Nat) : AtPair n 0 [] 0 0 := ⟨rfl⟩
theorem AtPair.bound {n k : Nat} {ds : List Int} {r s : Int} (h : AtPair n k ds r s) (hn : n ≤ 1000000000) : 0 ≤ r ∧ r ≤ 40000 ∧ 0 ≤ s ∧ s ≤ 80000 := by
 have := Gl.rAll_bound hn k
 rw [h.eq] at this
 exact this
theorem AtPair.next {n k j : Nat} {ds : List Int} {r s u : Int} (h : AtPair n k ds r s) (hn : n ≤ 1000000000) (hu : (Gl.prs n)[k]? = some u) (hj : Gl.dgF r (s * 100 + u) j = Gl.dgF r (s * 100 + u) 9) (ht : ¬ s * 100 + u < (20 * r + (j : Int)) * (j : Int)) :
  AtPair n (k + 1) (ds ++ [(j : Int)]) (r * 10 + (j : Int)) (s * 100 + u - (20 * r + (j : Int)) * (j : Int)) := by
 have e : Gl.dg r (s * 100 + u) = j := by unfold Gl.dg; rw [← hj, Gl.dgF_here ht]
 refine ⟨?_⟩
 rw [(r_step hn hu).2.2.2, h.eq]
 simp [Gl.rStep, e]
theorem AtPair.done {n : Nat} {ds : List Int} {r s : Int} (h : AtPair n (Gl.prs n).length ds r s) : ds = Gl.rtD n ∧ r = Gl.rtR n ∧ s = Gl.rtS n := by
 have := h.eq
 rw [List.take_length] at this
 unfold Gl.rtD Gl.rtR Gl.rtS
 rw [this]
 exact ⟨rfl, rfl, rfl⟩
theorem rootDigits_any (n : Nat) (w : World) (hn : n ≤ 1000000000) :
  Calls Tryz.prog 72 #[.int .i64 (n : Int)] w fun e w' => (∃ A c, e = .returned (.tuple #[.slice A (Gl.prs n).length c, .int .i64 (Gl.rtS n)]) ∧ Own w' w.heap.size A (Gl.prs n).length c (Gl.rtD n)) ∧ Below w.heap.size w w' := by
 have hL := Gl.prs_length hn
 obtain ⟨hL1, hL5⟩ := hL
 generalize hlen : (Gl.prs n).length = L at hL1 hL5
 have HLEN := Hd hlen
 have HLN := Hd (lit_nil w)
 clear hlen
 go_enter Tryz.func72, Tryz.ntmps72
 go_wp2_with fail
 refine (pairsOf_any n _ hn).mono ?_
 rintro e w1 ⟨⟨A1, c1, rfl, ho1⟩, hb1⟩
 rw [HLEN.out] at ho1 ⊢
 have HP := Hd ho1.ints
 have hsz1 := hb1.size
 have HO := Hd (EOwn.of_nil (HLN.out.next hb1) w1.heap.size)
 have HB := Hd (((Below.refl w.heap.size w).alloc (Nat.le_refl _) _).trans (hb1.mono (by simp)))
 simp only [World.size_alloc] at hsz1
 clear ho1 hb1 HLN
 go_wp2_with fail
 go_loopw [4, 5, 6, 14] (fun dv rv sv i wr => ∃ (k : Nat) (A : Option Addr) (c : Nat) (ds : List Int) (r s : Int), k ≤ L ∧ i = .int .i64 (k : Int) ∧ dv = .slice A k c ∧ rv = .int .i64 r ∧ sv = .int .i64 s ∧ EOwn wr w.heap.size w1.heap.size A k c ds ∧ AtPair n k ds r s ∧
   Ints wr w1.heap.size A1 L (Gl.prs n) ∧ Below w.heap.size w wr ∧ w1.heap.size ≤ wr.heap.size) (fun _ _ _ i _ => L - (intOf i).toNat)
 case atStart => exact ⟨0, _, _, [], 0, 0, by omega, by go_num, rfl, rfl, rfl, HO.out, AtPair.start n, HP.out, HB.out, Nat.le_refl _⟩
 case round =>
  clear HO HP HB
  obtain ⟨k, A, c, ds, r, s, hk, rfl, rfl, rfl, rfl, hown, hat, hp, hb, hsz⟩ := hrel
  obtain ⟨r0, r1, s0, s1⟩ := hat.bound hn
  have HO := Hd hown
  have HAT := Hd hat
  have HP := Hd hp
  have HB := Hd hb
  clear hown hat hp hb
  by_cases hlt : k < L
  ·obtain ⟨b, off, u, rfl, hub, hu, hcu⟩ := HP.out.at_ hlt
   obtain ⟨u0, u1, -, -⟩ := r_step hn hu
   have HU := Hd hu
   clear hu
   obtain ⟨wo, rfl⟩ : ∃ wo : World, wo = wr := ⟨_, rfl⟩
   go_wp2_with fail
   go_loop [9] (fun d => ∃ j : Nat, j ≤ 9 ∧ d = .int .i64 (j : Int) ∧ Gl.dgF r (s * 100 + u) j = Gl.dgF r (s * 100 + u) 9) (fun d => (intOf d).toNat)
   case atStart => exact ⟨9, by omega, rfl, rfl⟩
   case round =>
    obtain ⟨j, hj, rfl, hdg⟩ := hrel
    obtain ⟨m0, m1⟩ := dg_in (j := j) r0 r1 hj
    have HDG := Hd hdg
    clear hdg
    by_cases ht : s * 100 + u < (20 * r + (j : Int)) * (j : Int)
    ·cases j with
     | zero => simp at ht; omega
     | succ j =>
      have HD := Hd (Gl.dgF_down ht)
      rw [show ((j + 1 : Nat) : Int) = (j : Int) + 1 from by omega] at ht m0 m1
      go_wp2
      go_round
      case rel => exact ⟨j, by omega, by go_num, by rw [← HD.out]; exact HDG.out⟩
      case measure => simp [intOf]
    ·have HT := Hd ht
     go_wp2_with (at_builtin; refine wpList_app0 rfl _ _ rfl rfl HO.out [(j : Int)] 1 rfl (by omega) _ rfl _ rfl (by omega) (by omega) hsz ?_; intro A' c' w3 row3 hown3 hg3 hr3)
     have HB3 := Hd (below_row HB.out hg3 hr3 (by omega) hsz)
     have HP3 := Hd (HP.out.grown hg3 hsz hr3)
     have hsz3 := hg3.size
     go_roundw
     case rel => exact ⟨k + 1, _, _, _, _, _, by omega, by go_num, rfl, rfl, rfl, hown3, HAT.out.next hn HU.out HDG.out HT.out, HP3.out, HB3.out, by omega⟩
     case measure => simp [intOf]; omega
  ·obtain rfl : k = L := by omega
   obtain ⟨rfl, rfl, rfl⟩ := (HLEN.out ▸ HAT.out : AtPair n (Gl.prs n).length ds r s).done
   go_wp2
   go_ret2
   exact ⟨⟨_, _, rfl, HO.out.own⟩, HB.out⟩
theorem RootOf_yes (n : Nat) (w : World) (hn : n ≤ 1000000000) :
  Calls Tryz.prog 30 #[.int .i64 (n : Int)] w fun e w' => e = .returned (.tuple #[.int .i64 (Gl.rtR n), .int .i64 (Gl.rtS n), .bool true]) ∧ Below w.heap.size w w' := by
 obtain ⟨_, hval, hlen, hdig⟩ := Gl.rt_inv n
 have hL5 := (Gl.prs_length hn).2
 have hh := Gl.horner_take hdig (by omega)
 have hall := Gl.horner_all hlen
 rw [hval] at hall
 generalize (Gl.prs n).length = L at hlen hL5 hall
 have HL := Hd (Gl.prs_length hn)
 have HH := Hd hh
 have HALL := Hd hall
 have HLEN := Hd hlen
 clear hval hlen hdig hh hall
 go_enter Tryz.func30, Tryz.ntmps30
 go_wp2_with fail
 refine (hasRoot_yes hn _).mono ?_
 rintro e w' ⟨rfl, rfl⟩
 go_wp2_with fail
 refine (rootDigits_any n _ hn).mono ?_
 rintro e w1 ⟨⟨A1, c1, rfl, ho1⟩, hb1⟩
 generalize (Gl.prs n).length = L2 at ho1 ⊢
 obtain rfl : L = L2 := by have := ho1.len; have := HLEN.out; omega
 have HI := Hd ho1.ints
 have HB := Hd hb1
 clear ho1 hb1
 go_wp2_with fail
 go_loop [5, 20] (fun rv i => ∃ k : Nat, k ≤ L ∧ i = .int .i64 (k : Int) ∧ rv = .int .i64 (Gl.horner 0 ((Gl.rtD n).take k))) (fun _ i => L - (intOf i).toNat)
 case atStart => exact ⟨0, by omega, by go_num, rfl⟩
 case round =>
  obtain ⟨k, hk, rfl, rfl⟩ := hrel
  obtain ⟨h0, h1⟩ := HH.out k
  by_cases hlt : k < L
  ·obtain ⟨b, off, u, rfl, hub, hu, hcu⟩ := HI.out.at_ hlt
   have HN := Hd (Gl.horner_next hu)
   have hu9 : 0 ≤ u ∧ u ≤ 9 := (Gl.rt_inv n).2.2.2 u (List.mem_of_getElem? hu)
   obtain ⟨u0, u1⟩ := hu9
   clear hu
   generalize Gl.horner 0 ((Gl.rtD n).take k) = r at *
   go_wp2
   go_round
   case rel => exact ⟨k + 1, by omega, by go_num, by rw [HN.out]; congr 1; omega⟩
   case measure => simp [intOf]; omega
  ·obtain rfl : k = L := by omega
   rw [HALL.out] at h0 h1 ⊢
   go_wp2
   refine bodyPost_ret (results_tmp3 rfl _ _ _) rfl ?_
   exact ⟨rfl, HB.out⟩
theorem half_in (a b : Nat) (h : a < b) : a < (a + b + 1) / 2 ∧ (a + b + 1) / 2 ≤ b := by omega
theorem l8Root_any (n : Nat) (w : World) (hn : n ≤ 1000000000) :
  Calls Tryz.prog 73 #[.int .i64 (n : Int)] w fun e w' => e = .returned (.int .i64 (Gl.rtR n)) ∧ w = w' := by
 go_enter Tryz.func73, Tryz.ntmps73
 go_wp2
 go_loop [3, 4] (fun lo hi => ∃ a b : Nat, a ≤ b ∧ b ≤ 100000 ∧ lo = .int .i64 (a : Int) ∧ hi = .int .i64 (b : Int) ∧ (a : Int) * (a : Int) ≤ (n : Int) ∧ (n : Int) < ((b : Int) + 1) * ((b : Int) + 1)) (fun lo hi => (intOf hi).toNat - (intOf lo).toNat)
 case atStart => exact ⟨0, 100000, by omega, by omega, rfl, rfl, by omega, by omega⟩
 case round =>
  obtain ⟨a, b, hab, hb, rfl, rfl, hlo, hhi⟩ := hrel
  have HLO := Hd hlo
  have HHI := Hd hhi
  clear hlo hhi
  by_cases hlt : a < b
  ·obtain ⟨h1, h2⟩ := half_in a b hlt
   have hm : ((a : Int) + (b : Int) + 1) / 2 = (((a + b + 1) / 2 : Nat) : Int) := by omega
   obtain ⟨m0, m1⟩ := sq_in (show (0 : Int) ≤ ((a : Int) + (b : Int) + 1) / 2 by omega) (show ((a : Int) + (b : Int) + 1) / 2 ≤ 100000 by omega)
   generalize (a + b + 1) / 2 = m at *
   have HM := Hd hm
   by_cases ht : (((a : Int) + (b : Int) + 1) / 2) * (((a : Int) + (b : Int) + 1) / 2) ≤ (n : Int)
   ·have HT := Hd ht
    clear hm
    go_wp2
    go_round
    case rel => exact ⟨m, b, by omega, by omega, by rw [HM.out], rfl, by have := HT.out; rwa [HM.out] at this, HHI.out⟩
    case measure => have := HM.out; simp [intOf]; omega
   ·have HT := Hd ht
    clear hm
    go_wp2
    go_round
    case rel => exact ⟨a, m - 1, by omega, by omega, rfl, by have := HM.out; congr 1; omega, HLO.out, by have := HT.out; rw [HM.out] at this; rw [show ((m - 1 : Nat) : Int) + 1 = (m : Int) from by omega]; omega⟩
    case measure => have := HM.out; simp [intOf]; omega
  ·obtain rfl : a = b := by omega
   go_wp2
   go_ret
   exact ⟨ret_int (Gl.root_unique (Gl.isRoot_of_sq (by omega) HLO.out HHI.out) (Gl.rt_inv n).1).1, rfl⟩
theorem rest_of (n : Nat) : (n : Int) - Gl.rtR n * Gl.rtR n = Gl.rtS n := by
 have := (Gl.rt_inv n).1.2.1
 omega
theorem specRootOf_yes (n : Nat) (w : World) (hn : n ≤ 1000000000) :
  Calls Tryz.prog 31 #[.int .i64 (n : Int)] w fun e w' => e = .returned (.tuple #[.int .i64 (Gl.rtR n), .int .i64 (Gl.rtS n), .bool true]) ∧ w = w' := by
 obtain ⟨r0, r1, s0, s1⟩ := Gl.root_bound (Gl.rt_inv n).1 (by omega)
 have hcall := fun w => l8Root_any n w hn
 have hrest := rest_of n
 generalize Gl.rtR n = r at *
 generalize Gl.rtS n = s at *
 obtain ⟨m0, m1⟩ := sq_in r0 r1
 have HC := Hd hcall
 have HR := Hd hrest
 clear hcall hrest
 go_enter Tryz.func31, Tryz.ntmps31
 go_wp2_with fail
 refine (l6In_yes (by omega) (by omega) _).mono ?_
 rintro e w' ⟨rfl, rfl⟩
 go_wp2_with fail
 refine (HC.out _).mono ?_
 rintro e w' ⟨rfl, rfl⟩
 go_wp2
 go_ret3
 exact ⟨by rw [HR.out]; rfl, rfl⟩
theorem wpList_app2 {ops : Array Oper} {rest : List Oper} {o : Oper} {a : Act} {w : World} {Q : Exit → Act → World → Prop} (hgd : o.guard = none) (s x : Operand)
  (ho : o.op = .call { callee := .builtin .append, args := #[s, x], argTypes := #[28, 28] })
  {B : Nat} {A : Option Addr} {n c : Nat} {xs : List Int} (hs : a.eval s = .slice A n c) (hown : Own w B A n c xs) (us : List Int) (m : Nat) (hm : us.length = m) (c0 nb : Nat)
  (hx : a.eval x = .slice (some ⟨nb, 0, none⟩) m c0) (hnb : nb = w.heap.size) (cs : Array Value) (hcs : cs = (IV us).toArray) (hn : n + m ≤ 1099511627776) (hB : B ≤ w.heap.size)
  (h : ∀ A' c' w', Own w' B A' (n + m) c' (xs ++ us) → w.grownBy w' (Value.slice A n c).ownBlock → (∀ k, (Value.slice A' (n + m) c').ownBlock = some k → (Value.slice A n c).ownBlock = some k ∨ w.heap.size ≤ k) → wpList Tryz.prog ops Q rest (a.put o.dst (.slice A' (n + m) c')) w') :
  wpList Tryz.prog ops Q (o :: rest) a (w.alloc (.cells cs 3)) := by
 obtain ⟨i0, hi, hz0, hz1, hz2⟩ := info_parts own_int_info
 subst hcs
 subst hm
 subst hnb
 refine wpList_append_own_at _ hgd s x 28 ho B 3 i0 (.int .i64 0) 1 8 Tryz.underlying28 hi hz0 hz1 hz2 rfl (by decide) _ n (IV xs) hs (hown.1.alloc _)
  ⟨w.heap.size, 0, none⟩ us.length c0 (IV us) hx (by simp [IV]) ?_ (IV_one us) (by unfold maxLen; omega) (by omega) (by simp; omega) ?_
 ·intro j u hj
  rw [add_row, cell_of_row _ w.heap.size j _ _ _ (heap_alloc_new w _)]
  simpa using hj
 ·intro v' w' hown' hg _ hat
  obtain ⟨A', c', rfl, h'⟩ := Own.of_app us rfl hown' hn
  refine h A' c' w' h' ⟨hg.os, hg.tape, hg.output, by have := hg.size; simp at this; omega, fun k hk hne => (hg.block k (by simp; omega) hne).trans (Below.heap_alloc w _ k hk)⟩ ?_
  intro k hk
  rcases hat with h1 | h1
  ·left; rw [← h1]; exact hk
  ·right; rw [hk] at h1; injection h1 with h1; simp at h1; omega
theorem blk_eq {a n c j : Nat} (h : (Value.slice (some ⟨a, 0, none⟩) n c).ownBlock = some j) : a = j := by injection h
theorem apart_new {s s' t : Value} {N : Nat} (hk : ∀ j, s'.ownBlock = some j → s.ownBlock = some j ∨ N ≤ j) (ha : Apart s t) (hb : Apart t s) (h2 : ∀ j, t.ownBlock = some j → j < N) : Apart s' t ∧ Apart t s' := by
 refine ⟨fun j hj e => ?_, fun j hj e => ?_⟩
 ·rcases hk j e with h | h
  ·exact ha j hj h
  ·have := h2 j hj; omega
 ·rcases hk j hj with h | h
  ·exact hb j h e
  ·have := h2 j e; omega
def Low (N : Nat) (w w' : World) : Prop := w'.os = w.os ∧ w'.tape = w.tape ∧ w'.output = w.output ∧ w.heap.size ≤ w'.heap.size ∧ ∀ j, j < w.heap.size → j ≤ N → w'.heap[j]? = w.heap[j]?
theorem _root_.Go.World.grownBy.row_in {w w' : World} {row : Option Nat} {N : Nat} (h : w.grownBy w' row) (hr : ∀ j, row = some j → N < j) : Low N w w' :=
 ⟨h.os, h.tape, h.output, h.size, fun j hj hN => h.block j hj (fun e => by have := hr j e.symm; omega)⟩
theorem _root_.Go.World.grownBy.row_in' {w w' : World} {r N : Nat} (h : w.grownBy w' (some r)) (hr : N < r) : Low N w w' := h.row_in (by rintro j ⟨⟩; exact hr)
theorem Low.trans {N : Nat} {a b c : World} (h : Low N a b) (k : Low N b c) : Low N a c :=
 ⟨k.1.trans h.1, k.2.1.trans h.2.1, k.2.2.1.trans h.2.2.1, Nat.le_trans h.2.2.2.1 k.2.2.2.1, fun j hj hN => (k.2.2.2.2 j (Nat.lt_of_lt_of_le hj h.2.2.2.1) hN).trans (h.2.2.2.2 j hj hN)⟩
theorem Low.box_ {N : Nat} {a b : World} {u v : Value} (h : Low N a b) (hx : FBox a N u v) : FBox b N u v := hx.keep (h.2.2.2.2 N hx.lt (Nat.le_refl _))
theorem Low.on_ {N : Nat} {w a b : World} {row : Option Nat} (h : Low N a b) (hg : w.grownBy a row) (hN : w.heap.size ≤ N + 1 := by omega) : w.grownBy b row :=
 ⟨h.1.trans hg.os, h.2.1.trans hg.tape, h.2.2.1.trans hg.output, Nat.le_trans hg.size h.2.2.2.1, fun j hj hne => (h.2.2.2.2 j (Nat.lt_of_lt_of_le hj hg.size) (by omega)).trans (hg.block j hj hne)⟩
theorem size_setCell_ (w : World) (p : Addr) (u : Value) : (w.setCell p u).heap.size = w.heap.size := by simp [World.setCell]
end Go.Proofs.YthdoofmfigemoaaGreatDoor
section
namespace Go.Proofs.YthdoofmfigemoaaGreatDoor.Un
def asc : Int → List Int → Bool
 | _, [] => true
 | a, x :: xs => decide (a < x) && decide (x ≤ 1000000000) && asc x xs
def okU (l : List Int) : Bool := decide (l.length ≤ 8) && asc 1 l
end Go.Proofs.YthdoofmfigemoaaGreatDoor.Un
end
