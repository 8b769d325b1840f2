/-
  Joined texts: GlPlain, GlPlain2, Num, ExDup, ExDup2, BdSpec, ExDup3, ExLat, ExLat2, Draw2, GlDraw, GlRoot, GlRoot2, ExRoot, ExDup5, ExTimes.
-/
import Derived.Test.YthdoofmfigemoaaGreatDoorBase4
import Derived.Laws.IdiomStrings
import Derived.RangeFuncNested
import Derived.RangeFuncBound
import Derived.RangeFuncCalls
import Derived.RangeFuncLeaves
import Derived.Shelf.Abstract
import Derived.Shelf.RegionOpen
import Derived.WalkKit
import Derived.OwnWalkIn
import Derived.TacticsInMore
import Derived.LoopNIn
import Derived.LoopIn
import Derived.StillTailTactics
import Derived.BigRegion
import Derived.Deep.RegionWith
import Derived.Maps.AppendAt

section
/-
  Plain long divisions, roots and chains of quotients, with no program in sight.
-/
namespace Go.Proofs.YthdoofmfigemoaaGreatDoor.Gl

/-! ### long division -/
/-- the digits and the rests of a long division -/
def steps (d : Int) : Int → List Int → List (Int × Int)
  | _, [] => []
  | r, x :: xs => ((10 * r + x) / d, (10 * r + x) % d) :: steps d ((10 * r + x) % d) xs
def lastRest (d : Int) : Int → List Int → Int
  | r, [] => r
  | r, x :: xs => lastRest d ((10 * r + x) % d) xs
def horner (n : Int) (l : List Int) : Int := l.foldl (fun n x => 10 * n + x) n

theorem steps_length (d : Int) (xs : List Int) : ∀ r, (steps d r xs).length = xs.length := by
  induction xs with
  | nil => intro r; rfl
  | cons x xs ih => intro r; simp [steps, ih]
theorem steps_append (d : Int) (xs ys : List Int) : ∀ r, steps d r (xs ++ ys) = steps d r xs ++ steps d (lastRest d r xs) ys := by
  induction xs with
  | nil => intro r; rfl
  | cons x xs ih => intro r; simp [steps, lastRest, ih]
theorem lastRest_append (d : Int) (xs ys : List Int) : ∀ r, lastRest d r (xs ++ ys) = lastRest d (lastRest d r xs) ys := by
  induction xs with
  | nil => intro r; rfl
  | cons x xs ih => intro r; simp [lastRest, ih]
theorem lastRest_range (d : Int) (hd : 0 < d) (xs : List Int) : ∀ r, 0 ≤ r → r < d → 0 ≤ lastRest d r xs ∧ lastRest d r xs < d := by
  induction xs with
  | nil => intro r h0 h1; exact ⟨h0, h1⟩
  | cons x xs ih => intro r _ _; exact ih _ (Int.emod_nonneg _ (by omega)) (Int.emod_lt_of_pos _ hd)
/-- a step's digit lies between 0 and 9 -/
theorem step_digit (d r x : Int) (hd : 0 < d) (h0 : 0 ≤ r) (h1 : r < d) (hx : 0 ≤ x) (hx9 : x ≤ 9) : 0 ≤ (10 * r + x) / d ∧ (10 * r + x) / d ≤ 9 := by
  refine ⟨Int.ediv_nonneg (by omega) (by omega), ?_⟩
  have : (10 * r + x) / d < 10 := Int.ediv_lt_of_lt_mul hd (by omega)
  omega
theorem horner_append (xs ys : List Int) (n : Int) : horner n (xs ++ ys) = horner (horner n xs) ys := by simp [horner]
theorem horner_snoc (xs : List Int) (x n : Int) : horner n (xs ++ [x]) = 10 * horner n xs + x := by simp [horner]
/-- the quotient and the last rest make the value -/
theorem div_law (d : Int) (xs : List Int) : ∀ r q, horner q ((steps d r xs).map (·.1)) * d + lastRest d r xs = horner (q * d + r) xs := by
  induction xs with
  | nil => intro r q; simp [steps, horner, lastRest]
  | cons x xs ih =>
    intro r q
    simp only [steps, List.map_cons, horner, List.foldl_cons, lastRest] at ih ⊢
    rw [ih]
    have e := Int.emod_add_mul_ediv (10 * r + x) d
    congr 1
    rw [Int.add_mul, Int.mul_comm ((10 * r + x) / d) d, Int.mul_assoc]
    omega
theorem horner_nonneg (xs : List Int) : ∀ n, 0 ≤ n → (∀ x ∈ xs, 0 ≤ x) → 0 ≤ horner n xs := by
  induction xs with
  | nil => intro n h _; exact h
  | cons x xs ih => intro n h hx; exact ih _ (by have := hx x (by simp); show 0 ≤ 10 * n + x; omega) (fun y hy => hx y (by simp [hy]))
theorem horner_lt (xs : List Int) : ∀ n, 0 ≤ n → (∀ x ∈ xs, 0 ≤ x ∧ x ≤ 9) → horner n xs < (n + 1) * 10 ^ xs.length := by
  induction xs with
  | nil => intro n _ _; simp [horner]; omega
  | cons x xs ih =>
    intro n h hx
    have hx0 := hx x (by simp)
    have := ih (10 * n + x) (by omega) (fun y hy => hx y (by simp [hy]))
    simp only [horner, List.foldl_cons, List.length_cons, Int.pow_succ] at this ⊢
    have h2 : (10 * n + x + 1) * 10 ^ xs.length ≤ (10 * (n + 1)) * 10 ^ xs.length := Int.mul_le_mul_of_nonneg_right (by omega) (Int.pow_nonneg (by omega))
    rw [show (n + 1) * (10 ^ xs.length * 10) = (10 * (n + 1)) * 10 ^ xs.length from by rw [Int.mul_comm (10 ^ xs.length) 10, ← Int.mul_assoc, Int.mul_comm (n + 1) 10]]
    omega
/-- a quotient and a rest below the divisor are one -/
theorem div_unique (v d q r : Int) (h0 : 0 ≤ r) (h1 : r < d) (h : q * d + r = v) : q = v / d ∧ r = v % d := by
  subst h
  have hd : d ≠ 0 := by omega
  rw [Int.add_comm, Int.mul_comm, Int.add_mul_ediv_left _ _ hd, Int.add_mul_emod_self_left, Int.ediv_eq_zero_of_lt h0 h1, Int.emod_eq_of_lt h0 h1]
  omega

/-! ### periods: the rests of 1 divided by d -/
def rest (d : Int) : Nat → Int
  | 0 => 1 % d
  | k + 1 => (10 * rest d k) % d
theorem rest_range (d : Int) (hd : 0 < d) : ∀ k, 0 ≤ rest d k ∧ rest d k < d := by
  intro k
  cases k with
  | zero => exact ⟨Int.emod_nonneg _ (by omega), Int.emod_lt_of_pos _ hd⟩
  | succ k => exact ⟨Int.emod_nonneg _ (by omega), Int.emod_lt_of_pos _ hd⟩
theorem rest_again (d : Int) (a b : Nat) (h : rest d a = rest d b) : ∀ k, rest d (a + k) = rest d (b + k) := by
  intro k
  induction k with
  | zero => exact h
  | succ k ih => rw [← Nat.add_assoc, ← Nat.add_assoc, rest, rest, ih]
theorem rest_zero (d : Int) (a : Nat) (h : rest d a = 0) : ∀ k, rest d (a + k) = 0 := by
  intro k
  induction k with
  | zero => exact h
  | succ k ih => rw [← Nat.add_assoc, rest, ih]; simp

/-! ### roots -/
/-- r is the root of m, and what is left -/
def IsRoot (m r s : Int) : Prop := 0 ≤ r ∧ r * r + s = m ∧ 0 ≤ s ∧ s ≤ 2 * r
theorem sq_le_of (a b : Int) (h0 : 0 ≤ a) (h : a ≤ b) : a * a ≤ b * b := Int.mul_le_mul h h h0 (by omega)
theorem root_unique {m r s r' s' : Int} (h : IsRoot m r s) (h' : IsRoot m r' s') : r = r' ∧ s = s' := by
  obtain ⟨a1, a2, a3, a4⟩ := h
  obtain ⟨b1, b2, b3, b4⟩ := h'
  have e : r = r' := by
    rcases Int.lt_trichotomy r r' with hlt | heq | hgt
    · have h1 := sq_le_of (r + 1) r' (by omega) (by omega)
      rw [Int.add_mul, Int.mul_add] at h1; omega
    · exact heq
    · have h1 := sq_le_of (r' + 1) r (by omega) (by omega)
      rw [Int.add_mul, Int.mul_add] at h1; omega
  subst e
  exact ⟨rfl, by omega⟩
theorem isRoot_of_sq {m r : Int} (h0 : 0 ≤ r) (h1 : r * r ≤ m) (h2 : m < (r + 1) * (r + 1)) : IsRoot m r (m - r * r) := by
  rw [Int.add_mul, Int.mul_add] at h2
  exact ⟨h0, by omega, by omega, by omega⟩
/-- the digit of a root: the greatest that fits, looked for downwards -/
theorem dig_next {m r s p g : Int} (h : IsRoot m r s) (hp0 : 0 ≤ p) (hp : p ≤ 99) (h0 : 0 ≤ g) (h9 : g ≤ 9)
    (hfit : (20 * r + g) * g ≤ 100 * s + p) (hnot : g = 9 ∨ 100 * s + p < (20 * r + (g + 1)) * (g + 1)) :
    IsRoot (100 * m + p) (10 * r + g) (100 * s + p - (20 * r + g) * g) := by
  obtain ⟨a1, a2, a3, a4⟩ := h
  have e1 : (20 * r + g) * g = 20 * (r * g) + g * g := by rw [Int.add_mul, Int.mul_assoc]
  have e2 : (10 * r + g) * (10 * r + g) = 100 * (r * r) + 20 * (r * g) + g * g := by
    rw [Int.add_mul, Int.mul_add, Int.mul_add, Int.mul_comm g (10 * r)]
    have : 10 * r * (10 * r) = 100 * (r * r) := by rw [Int.mul_assoc, Int.mul_left_comm r 10 r, ← Int.mul_assoc]; rfl
    have : 10 * r * g = 10 * (r * g) := by rw [Int.mul_assoc]
    omega
  refine ⟨by omega, by omega, by omega, ?_⟩
  rcases hnot with rfl | hn
  · omega
  · have e3 : (20 * r + (g + 1)) * (g + 1) = 20 * (r * g) + 20 * r + g * g + 2 * g + 1 := by
      rw [Int.mul_add, Int.add_mul, Int.mul_one, Int.add_mul, Int.mul_assoc]
      omega
    omega

/-! ### chains of quotients -/
/-- one quotient more ahead of a pair -/
def ahead (q : Int) (v : Int × Int) : Int × Int := (q * v.1 + v.2, v.1)
def contT : List Int → Int × Int → Int × Int
  | [], v => v
  | q :: qs, v => ahead q (contT qs v)
/-- the two integers of a list of quotients -/
def cont (l : List Int) : Int × Int := contT l (1, 0)
def cross (v w : Int × Int) : Int := v.1 * w.2 - v.2 * w.1
theorem cross_ahead (q : Int) (v w : Int × Int) : cross (ahead q v) (ahead q w) = 0 - cross v w := by
  obtain ⟨a, b⟩ := v
  obtain ⟨c, d⟩ := w
  simp only [cross, ahead, Int.add_mul, Int.mul_add]
  have e1 : q * a * c = a * (q * c) := by rw [Int.mul_comm q a, Int.mul_assoc]
  omega
theorem cross_contT (l : List Int) (v w : Int × Int) (h : cross v w = 1 ∨ cross v w = -1) : cross (contT l v) (contT l w) = 1 ∨ cross (contT l v) (contT l w) = -1 := by
  induction l with
  | nil => exact h
  | cons q qs ih => simp only [contT, cross_ahead]; omega
theorem contT_append (l m : List Int) (v : Int × Int) : contT (l ++ m) v = contT l (contT m v) := by
  induction l with
  | nil => rfl
  | cons q qs ih => simp [contT, ih]
theorem cross_next (l : List Int) (q : Int) : cross (cont l) (cont (l ++ [q])) = 1 ∨ cross (cont l) (cont (l ++ [q])) = -1 := by
  unfold cont
  rw [contT_append]
  exact cross_contT l _ _ (by simp [contT, ahead, cross])
theorem cont_short (l : List Int) (q : Int) : cont (l ++ [q, 1]) = cont (l ++ [q + 1]) := by
  unfold cont
  rw [contT_append, contT_append]
  simp [contT, ahead]

/-- the chain of two integers, and what divides both; the first number bounds the steps -/
def chF : Nat → Int → Int → List Int
  | 0, _, _ => []
  | n + 1, a, b => if b = 0 then [] else a / b :: chF n b (a % b)
def comF : Nat → Int → Int → Int
  | 0, a, _ => a
  | n + 1, a, b => if b = 0 then a else comF n b (a % b)
def ch (a b : Int) : List Int := chF (b.toNat + 1) a b
def com (a b : Int) : Int := comF (b.toNat + 1) a b
theorem mod_small (a b : Int) (h0 : 0 ≤ b) (hb : b ≠ 0) : 0 ≤ a % b ∧ a % b < b := ⟨Int.emod_nonneg _ hb, Int.emod_lt_of_pos _ (by omega)⟩
theorem chF_fuel (n : Nat) : ∀ m a b, 0 ≤ b → b.toNat < n → b.toNat < m → chF n a b = chF m a b := by
  induction n with
  | zero => intro m a b _ h _; omega
  | succ n ih =>
    intro m a b h0 h1 h2
    cases m with
    | zero => omega
    | succ m =>
      simp only [chF]
      split
      · rfl
      · next hb =>
        have := mod_small a b h0 hb
        rw [ih m b (a % b) this.1 (by omega) (by omega)]
theorem comF_fuel (n : Nat) : ∀ m a b, 0 ≤ b → b.toNat < n → b.toNat < m → comF n a b = comF m a b := by
  induction n with
  | zero => intro m a b _ h _; omega
  | succ n ih =>
    intro m a b h0 h1 h2
    cases m with
    | zero => omega
    | succ m =>
      simp only [comF]
      split
      · rfl
      · next hb =>
        have := mod_small a b h0 hb
        rw [ih m b (a % b) this.1 (by omega) (by omega)]
theorem ch_zero (a : Int) : ch a 0 = [] := by simp [ch, chF]
theorem com_zero (a : Int) : com a 0 = a := by simp [com, comF]
theorem ch_step (a b : Int) (h0 : 0 ≤ b) (hb : b ≠ 0) : ch a b = a / b :: ch b (a % b) := by
  have := mod_small a b h0 hb
  rw [ch, chF, if_neg hb, ch, chF_fuel b.toNat ((a % b).toNat + 1) b (a % b) this.1 (by omega) (by omega)]
theorem com_step (a b : Int) (h0 : 0 ≤ b) (hb : b ≠ 0) : com a b = com b (a % b) := by
  have := mod_small a b h0 hb
  rw [com, comF, if_neg hb, com, comF_fuel b.toNat ((a % b).toNat + 1) b (a % b) this.1 (by omega) (by omega)]
/-- induction along the steps of Euclid -/
theorem euclid {P : Int → Int → Prop} (hz : ∀ a, 0 ≤ a → P a 0) (hs : ∀ a b, 0 ≤ a → 0 < b → P b (a % b) → P a b) : ∀ a b, 0 ≤ a → 0 ≤ b → P a b := by
  have key : ∀ n : Nat, ∀ a b : Int, 0 ≤ a → 0 ≤ b → b.toNat < n → P a b := by
    intro n
    induction n with
    | zero => intro a b _ _ h; omega
    | succ n ih =>
      intro a b ha hb h
      by_cases hb0 : b = 0
      · subst hb0; exact hz a ha
      · have := mod_small a b hb hb0
        exact hs a b ha (by omega) (ih b (a % b) hb this.1 (by omega))
  intro a b ha hb
  exact key (b.toNat + 1) a b ha hb (by omega)
/-- the chain leads back to the two integers, divided by what divides both -/
theorem ch_back (a b : Int) (ha : 0 ≤ a) (hb : 0 ≤ b) : a = com a b * (cont (ch a b)).1 ∧ b = com a b * (cont (ch a b)).2 := by
  refine euclid (P := fun a b => a = com a b * (cont (ch a b)).1 ∧ b = com a b * (cont (ch a b)).2) ?_ ?_ a b ha hb
  · intro a _; simp [ch_zero, com_zero, cont, contT]
  · intro a b ha hb ih
    rw [ch_step a b (by omega) (by omega), com_step a b (by omega) (by omega)]
    obtain ⟨h1, h2⟩ := ih
    refine ⟨?_, h1⟩
    have e := Int.emod_add_mul_ediv a b
    show a = com b (a % b) * ((a / b) * (cont (ch b (a % b))).1 + (cont (ch b (a % b))).2)
    rw [Int.mul_add, ← h2, Int.mul_left_comm, ← h1, Int.mul_comm (a / b) b]
    omega
theorem com_pos (a b : Int) (ha : 0 ≤ a) (hb : 0 ≤ b) (h : a ≠ 0 ∨ b ≠ 0) : 0 < com a b := by
  refine euclid (P := fun a b => (a ≠ 0 ∨ b ≠ 0) → 0 < com a b) ?_ ?_ a b ha hb h
  · intro a ha h; rw [com_zero]; omega
  · intro a b _ hb ih _
    rw [com_step a b (by omega) (by omega)]
    exact ih (by omega)
/-- the chain has but few quotients -/
theorem ch_length (n : Nat) : ∀ a b : Int, 0 ≤ b → b < a → b < 2 ^ n → (ch a b).length ≤ 2 * n := by
  induction n with
  | zero =>
    intro a b h0 _ h1
    have : b = 0 := by simp at h1; omega
    subst this; simp [ch_zero]
  | succ n ih =>
    intro a b h0 hab h1
    by_cases hb : b = 0
    · subst hb; simp [ch_zero]
    · rw [ch_step a b h0 hb]
      have m1 := mod_small a b h0 hb
      by_cases hm : a % b = 0
      · rw [hm, ch_zero]; simp; omega
      · rw [ch_step b (a % b) m1.1 hm]
        have m2 := mod_small b (a % b) m1.1 hm
        have hlt : b % (a % b) < 2 ^ n := by
          have e := Int.emod_add_mul_ediv b (a % b)
          have hq : 1 ≤ b / (a % b) := Int.le_ediv_of_mul_le (by omega) (by omega)
          have hq2 : (a % b) * 1 ≤ (a % b) * (b / (a % b)) := Int.mul_le_mul_of_nonneg_left hq (by omega)
          rw [Int.pow_succ] at h1
          omega
        have := ih (a % b) (b % (a % b)) m2.1 m2.2 hlt
        simp only [List.length_cons]; omega
/-- what the chain's quotients are -/
theorem ch_pos (a b : Int) (ha : 0 ≤ a) (hb : 0 ≤ b) : (∀ q ∈ ch a b, 0 ≤ q ∧ q ≤ a ∨ 0 ≤ q ∧ q ≤ b) ∧ ∀ q ∈ (ch a b).drop 1, 1 ≤ q := by
  refine euclid (P := fun a b => (∀ q ∈ ch a b, 0 ≤ q ∧ q ≤ a ∨ 0 ≤ q ∧ q ≤ b) ∧ ∀ q ∈ (ch a b).drop 1, 1 ≤ q) ?_ ?_ a b ha hb
  · intro a _; simp [ch_zero]
  · intro a b ha hb ih
    rw [ch_step a b (by omega) (by omega)]
    have m1 := mod_small a b (by omega) (by omega)
    have d0 : 0 ≤ a / b := Int.ediv_nonneg ha (by omega)
    have d1 : a / b ≤ a := Int.ediv_le_self _ ha
    refine ⟨fun q hq => ?_, fun q hq => ?_⟩
    · rcases List.mem_cons.1 hq with rfl | hq
      · exact .inl ⟨d0, d1⟩
      · rcases ih.1 q hq with h | h <;> omega
    · simp only [List.drop_succ_cons, List.drop_zero] at hq
      by_cases hm : a % b = 0
      · rw [hm, ch_zero] at hq; simp at hq
      · rw [ch_step b (a % b) m1.1 hm] at hq ih
        rcases List.mem_cons.1 hq with rfl | hq
        · exact Int.le_ediv_of_mul_le (by omega) (by omega)
        · exact ih.2 q (by simpa using hq)

/-- a list of quotients that ChainBack takes: all but the first at least 1 -/
def Good : List Int → Prop
  | [] => True
  | q :: qs => 0 ≤ q ∧ ∀ x ∈ qs, 1 ≤ x
theorem good_tail {q : Int} {qs : List Int} (h : Good (q :: qs)) : Good qs := by
  cases qs with
  | nil => trivial
  | cons x xs => exact ⟨by have := h.2 x (by simp); omega, fun y hy => h.2 y (by simp [hy])⟩
theorem good_ch (a b : Int) (ha : 0 ≤ a) (hb : 0 ≤ b) : Good (ch a b) := by
  have := ch_pos a b ha hb
  cases h : ch a b with
  | nil => trivial
  | cons q qs =>
    rw [h] at this
    exact ⟨by rcases this.1 q (by simp) with h | h <;> omega, fun x hx => this.2 x (by simpa using hx)⟩
theorem good_take (l : List Int) (k : Nat) (h : Good l) : Good (l.take k) := by
  cases l with
  | nil => simpa using h
  | cons q qs =>
    cases k with
    | zero => trivial
    | succ k => exact ⟨h.1, fun x hx => h.2 x (List.mem_of_mem_take hx)⟩
/-- of a list without a first 0: both are at least 0, the first at least 1; the second is less, but for 1 alone -/
theorem cont_ge (l : List Int) (h : ∀ x ∈ l, 1 ≤ x) : 1 ≤ (cont l).1 ∧ 0 ≤ (cont l).2 ∧ (cont l).2 ≤ (cont l).1 ∧ (l ≠ [] → 1 ≤ (cont l).2) ∧ (l ≠ [1] → (cont l).2 < (cont l).1) := by
  induction l with
  | nil => simp [cont, contT]
  | cons q qs ih =>
    obtain ⟨i1, i2, i3, i4, i5⟩ := ih (fun x hx => h x (by simp [hx]))
    have hq := h q (by simp)
    have e1 : (cont (q :: qs)).1 = q * (cont qs).1 + (cont qs).2 := rfl
    have e2 : (cont (q :: qs)).2 = (cont qs).1 := rfl
    have m : 1 * (cont qs).1 ≤ q * (cont qs).1 := Int.mul_le_mul_of_nonneg_right hq (by omega)
    rw [e1, e2]
    refine ⟨by omega, by omega, by omega, fun _ => i1, fun hne => ?_⟩
    cases qs with
    | nil =>
      have : q ≠ 1 := fun e => hne (by rw [e])
      have m2 : 2 * (cont ([] : List Int)).1 ≤ q * (cont ([] : List Int)).1 := Int.mul_le_mul_of_nonneg_right (by omega) (by omega)
      omega
    | cons x xs => have := i4 (by simp); omega
theorem cont_range (l : List Int) (h : Good l) : 0 ≤ (cont l).1 ∧ 0 ≤ (cont l).2 ∧ ((cont l).1 ≠ 0 ∨ (cont l).2 ≠ 0) := by
  cases l with
  | nil => simp [cont, contT]
  | cons q qs =>
    obtain ⟨i1, i2, _⟩ := cont_ge qs h.2
    have e1 : (cont (q :: qs)).1 = q * (cont qs).1 + (cont qs).2 := rfl
    have e2 : (cont (q :: qs)).2 = (cont qs).1 := rfl
    have m : 0 ≤ q * (cont qs).1 := Int.mul_nonneg h.1 (by omega)
    rw [e1, e2]
    omega
theorem com_cont (l : List Int) (h : Good l) : com (cont l).1 (cont l).2 = 1 := by
  induction l with
  | nil => simp [cont, contT, com_zero]
  | cons q qs ih =>
    obtain ⟨i1, i2, i3, i4, i5⟩ := cont_ge qs h.2
    have e1 : (cont (q :: qs)).1 = q * (cont qs).1 + (cont qs).2 := rfl
    have e2 : (cont (q :: qs)).2 = (cont qs).1 := rfl
    rw [e1, e2, com_step _ _ (by omega) (by omega)]
    by_cases hq : qs = [1]
    · subst hq
      have : cont [1] = (1, 1) := by simp [cont, contT, ahead]
      rw [this]
      simp [com_zero]
    · have hlt := i5 hq
      rw [Int.add_comm (q * _), Int.mul_comm q, Int.add_mul_emod_self_left, Int.emod_eq_of_lt i2 hlt]
      exact ih (good_tail h)
/-- the chain of the two integers is the list, but where its last quotient is 1 -/
theorem ch_cont (l : List Int) (h : Good l) (hlast : l.length ≤ 1 ∨ l.getLast? ≠ some 1) : ch (cont l).1 (cont l).2 = l := by
  induction l with
  | nil => simp [cont, contT, ch_zero]
  | cons q qs ih =>
    obtain ⟨i1, i2, i3, i4, i5⟩ := cont_ge qs h.2
    have e1 : (cont (q :: qs)).1 = q * (cont qs).1 + (cont qs).2 := rfl
    have e2 : (cont (q :: qs)).2 = (cont qs).1 := rfl
    have hq : qs ≠ [1] := by
      rintro rfl
      simp at hlast
    have hlt := i5 hq
    rw [e1, e2, ch_step _ _ (by omega) (by omega)]
    rw [Int.add_comm (q * _), Int.mul_comm q, Int.add_mul_emod_self_left, Int.emod_eq_of_lt i2 hlt, Int.add_mul_ediv_left _ _ (by omega), Int.ediv_eq_zero_of_lt i2 hlt]
    rw [ih (good_tail h) ?_]
    · simp
    · cases qs with
      | nil => exact .inl (by simp)
      | cons x xs =>
        refine .inr ?_
        rcases hlast with h1 | h1
        · simp at h1
        · simpa using h1

end Go.Proofs.YthdoofmfigemoaaGreatDoor.Gl
end

section
/-
  Plain: the digits of a root pair by pair, periods and where they begin, lists of quotients that lead back; no program in sight.
-/
namespace Go.Proofs.YthdoofmfigemoaaGreatDoor.Gl

theorem take_next {α : Type} {xs : List α} {k : Nat} {u : α} (h : xs[k]? = some u) : xs.take (k + 1) = xs.take k ++ [u] := by rw [List.take_add_one, h]; rfl

/-! ### the digits of a root -/
/-- the greatest digit from k down that fits -/
def dgF (r p : Int) : Nat → Nat
  | 0 => 0
  | k + 1 => if p < (20 * r + ((k + 1 : Nat) : Int)) * ((k + 1 : Nat) : Int) then dgF r p k else k + 1
def dg (r p : Int) : Nat := dgF r p 9
theorem dgF_down {r p : Int} {k : Nat} (h : p < (20 * r + ((k + 1 : Nat) : Int)) * ((k + 1 : Nat) : Int)) : dgF r p (k + 1) = dgF r p k := by rw [dgF, if_pos h]
theorem dgF_here {r p : Int} {k : Nat} (h : ¬ p < (20 * r + (k : Int)) * (k : Int)) : dgF r p k = k := by
  cases k with
  | zero => rfl
  | succ k => rw [dgF, if_neg h]
theorem dgF_le (r p : Int) : ∀ k, dgF r p k ≤ k := by
  intro k
  induction k with
  | zero => exact Nat.le_refl _
  | succ k ih => rw [dgF]; split <;> omega
theorem dgF_fit (r p : Int) (h0 : 0 ≤ p) : ∀ k, (20 * r + (dgF r p k : Int)) * (dgF r p k : Int) ≤ p := by
  intro k
  induction k with
  | zero => simp [dgF]; exact h0
  | succ k ih =>
    rw [dgF]
    split
    · exact ih
    · omega
theorem dgF_not (r p : Int) : ∀ k, dgF r p k = k ∨ p < (20 * r + ((dgF r p k : Int) + 1)) * ((dgF r p k : Int) + 1) := by
  intro k
  induction k with
  | zero => exact .inl rfl
  | succ k ih =>
    rw [dgF]
    split
    · next h =>
      refine .inr ?_
      rcases ih with e | e
      · rw [e]; push_cast at h; exact h
      · exact e
    · exact .inl rfl
theorem dg_spec {r p : Int} (h0 : 0 ≤ p) : dg r p ≤ 9 ∧ (20 * r + (dg r p : Int)) * (dg r p : Int) ≤ p ∧ ((dg r p : Int) = 9 ∨ p < (20 * r + ((dg r p : Int) + 1)) * ((dg r p : Int) + 1)) :=
  ⟨dgF_le r p 9, dgF_fit r p h0 9, by rcases dgF_not r p 9 with e | e; left; unfold dg; rw [e]; rfl; exact .inr e⟩

/-- digits, root and rest behind one pair more -/
def rStep (t : List Int × Int × Int) (x : Int) : List Int × Int × Int :=
  (t.1 ++ [(dg t.2.1 (t.2.2 * 100 + x) : Int)], t.2.1 * 10 + (dg t.2.1 (t.2.2 * 100 + x) : Int), t.2.2 * 100 + x - (20 * t.2.1 + (dg t.2.1 (t.2.2 * 100 + x) : Int)) * (dg t.2.1 (t.2.2 * 100 + x) : Int))
def rAll (xs : List Int) : List Int × Int × Int := xs.foldl rStep ([], 0, 0)
def hund (xs : List Int) : Int := xs.foldl (fun n x => 100 * n + x) 0
theorem rAll_snoc (xs : List Int) (x : Int) : rAll (xs ++ [x]) = rStep (rAll xs) x := by simp [rAll]
theorem hund_snoc (xs : List Int) (x : Int) : hund (xs ++ [x]) = 100 * hund xs + x := by simp [hund]
structure RInv (xs : List Int) : Prop where
  root : IsRoot (hund xs) (rAll xs).2.1 (rAll xs).2.2
  val : horner 0 (rAll xs).1 = (rAll xs).2.1
  len : (rAll xs).1.length = xs.length
  digs : ∀ d ∈ (rAll xs).1, 0 ≤ d ∧ d ≤ 9
theorem rInv_nil : RInv [] := ⟨⟨by decide, by decide, by decide, by decide⟩, rfl, rfl, by simp [rAll]⟩
theorem rInv_snoc {xs : List Int} {x : Int} (h : RInv xs) (h0 : 0 ≤ x) (h1 : x ≤ 99) : RInv (xs ++ [x]) := by
  obtain ⟨hr, hv, hl, hd⟩ := h
  have hs0 := hr.2.2.1
  obtain ⟨g9, gf, gn⟩ := dg_spec (r := (rAll xs).2.1) (p := (rAll xs).2.2 * 100 + x) (by omega)
  rw [show (rAll xs).2.2 * 100 + x = 100 * (rAll xs).2.2 + x from by omega] at g9 gf gn
  have hn := dig_next (g := (dg (rAll xs).2.1 (100 * (rAll xs).2.2 + x) : Int)) hr h0 h1 (by omega) (by omega) gf gn
  refine ⟨?_, ?_, ?_, ?_⟩
  · rw [rAll_snoc, hund_snoc]
    simp only [rStep]
    rw [show (rAll xs).2.2 * 100 + x = 100 * (rAll xs).2.2 + x from by omega, show (rAll xs).2.1 * 10 + (dg (rAll xs).2.1 (100 * (rAll xs).2.2 + x) : Int) = 10 * (rAll xs).2.1 + (dg (rAll xs).2.1 (100 * (rAll xs).2.2 + x) : Int) from by omega]
    exact hn
  · rw [rAll_snoc]
    simp only [rStep]
    rw [horner_snoc, hv]
    omega
  · rw [rAll_snoc]; simp [rStep, hl]
  · rw [rAll_snoc]
    simp only [rStep]
    intro d hdm
    rcases List.mem_append.1 hdm with hm | hm
    · exact hd d hm
    · simp at hm
      rw [show (rAll xs).2.2 * 100 + x = 100 * (rAll xs).2.2 + x from by omega] at hm
      omega
theorem rInv_all (xs : List Int) (h : ∀ x ∈ xs, 0 ≤ x ∧ x ≤ 99) : ∀ k, RInv (xs.take k) := by
  intro k
  induction k with
  | zero => exact rInv_nil
  | succ k ih =>
    by_cases hk : k < xs.length
    · rw [take_next (List.getElem?_eq_getElem hk)]
      have := h _ (List.getElem_mem hk)
      exact rInv_snoc ih this.1 this.2
    · rw [List.take_of_length_le (by omega)] at ih ⊢
      exact ih

/-- the pairs of digits, none for 0 -/
def pr (m : Nat) : List Int := if _h : m = 0 then [] else pr (m / 100) ++ [((m % 100 : Nat) : Int)]
termination_by m
decreasing_by omega
def prs (n : Nat) : List Int := pr (n / 100) ++ [((n % 100 : Nat) : Int)]
theorem pr_zero : pr 0 = [] := by rw [pr]; simp
theorem pr_pos {m : Nat} (h : m ≠ 0) : pr m = pr (m / 100) ++ [((m % 100 : Nat) : Int)] := by rw [pr]; simp [h]
theorem prs_pos {n : Nat} (h : n ≠ 0) : prs n = pr n := (pr_pos h).symm
theorem prs_times {n : Nat} (h : n ≠ 0) : prs (100 * n) = prs n ++ [0] := by
  rw [prs_pos h, prs, show 100 * n / 100 = n from by omega, show 100 * n % 100 = 0 from by omega]; rfl
theorem pr_range (m : Nat) : ∀ x ∈ pr m, 0 ≤ x ∧ x ≤ 99 := by
  induction m using Nat.strongRecOn with
  | ind m ih =>
    by_cases h : m = 0
    · subst h; rw [pr_zero]; simp
    · rw [pr_pos h]
      intro x hx
      rcases List.mem_append.1 hx with hx | hx
      · exact ih (m / 100) (by omega) x hx
      · simp at hx; omega
theorem prs_range (n : Nat) : ∀ x ∈ prs n, 0 ≤ x ∧ x ≤ 99 := by
  intro x hx
  rcases List.mem_append.1 hx with hx | hx
  · exact pr_range _ x hx
  · simp at hx; omega
theorem hund_pr (m : Nat) : hund (pr m) = m := by
  induction m using Nat.strongRecOn with
  | ind m ih =>
    by_cases h : m = 0
    · subst h; rw [pr_zero]; rfl
    · rw [pr_pos h, hund_snoc, ih (m / 100) (by omega)]; omega
theorem hund_prs (n : Nat) : hund (prs n) = n := by rw [prs, hund_snoc, hund_pr]; omega
theorem pr_length (k : Nat) : ∀ m, m < 100 ^ k → (pr m).length ≤ k := by
  induction k with
  | zero => intro m h; have : m = 0 := by simpa using h
            subst this; rw [pr_zero]; simp
  | succ k ih =>
    intro m h
    by_cases h0 : m = 0
    · subst h0; rw [pr_zero]; simp
    · rw [pr_pos h0, List.length_append, List.length_singleton]
      have := ih (m / 100) (by rw [Nat.pow_succ] at h; omega)
      omega
theorem prs_length {n : Nat} (h : n ≤ 1000000000) : 1 ≤ (prs n).length ∧ (prs n).length ≤ 5 := by
  have h2 := pr_length 4 (n / 100) (by omega)
  rw [prs, List.length_append, List.length_singleton]
  omega
/-- a part of the pairs has a part of the value -/
theorem hund_take (xs : List Int) (h : ∀ x ∈ xs, 0 ≤ x ∧ x ≤ 99) : ∀ k, 0 ≤ hund (xs.take k) ∧ hund (xs.take k) ≤ hund xs := by
  have key : ∀ (ys : List Int) (n : Int), 0 ≤ n → (∀ x ∈ ys, 0 ≤ x ∧ x ≤ 99) → n ≤ ys.foldl (fun n x => 100 * n + x) n := by
    intro ys
    induction ys with
    | nil => intro n _ _; exact Int.le_refl _
    | cons y ys ih =>
      intro n hn hy
      have := hy y (by simp)
      have := ih (100 * n + y) (by omega) (fun x hx => hy x (by simp [hx]))
      simp only [List.foldl_cons]
      omega
  intro k
  have h0 : 0 ≤ hund (xs.take k) := key _ 0 (by omega) (fun x hx => h x (List.mem_of_mem_take hx))
  refine ⟨h0, ?_⟩
  have := key (xs.drop k) (hund (xs.take k)) h0 (fun x hx => h x (List.mem_of_mem_drop hx))
  have e : (xs.drop k).foldl (fun n x => 100 * n + x) (hund (xs.take k)) = hund xs := by
    unfold hund
    rw [← List.foldl_append, List.take_append_drop]
  omega
theorem root_bound {m r s : Int} (h : IsRoot m r s) (hm : m ≤ 1000000000) : 0 ≤ r ∧ r ≤ 40000 ∧ 0 ≤ s ∧ s ≤ 80000 := by
  obtain ⟨a1, a2, a3, a4⟩ := h
  have : r ≤ 40000 := by
    rcases Int.lt_or_le 40000 r with hlt | hle
    · have := sq_le_of 40001 r (by omega) (by omega)
      omega
    · exact hle
  omega
theorem rAll_bound {n : Nat} (hn : n ≤ 1000000000) (k : Nat) : 0 ≤ (rAll ((prs n).take k)).2.1 ∧ (rAll ((prs n).take k)).2.1 ≤ 40000 ∧ 0 ≤ (rAll ((prs n).take k)).2.2 ∧ (rAll ((prs n).take k)).2.2 ≤ 80000 := by
  have h := rInv_all (prs n) (prs_range n) k
  have h2 := hund_take (prs n) (prs_range n) k
  rw [hund_prs] at h2
  exact root_bound h.root (by omega)
/-- root, rest and digits of a number -/
def rtD (n : Nat) : List Int := (rAll (prs n)).1
def rtR (n : Nat) : Int := (rAll (prs n)).2.1
def rtS (n : Nat) : Int := (rAll (prs n)).2.2
theorem rt_inv (n : Nat) : IsRoot n (rtR n) (rtS n) ∧ horner 0 (rtD n) = rtR n ∧ (rtD n).length = (prs n).length ∧ ∀ d ∈ rtD n, 0 ≤ d ∧ d ≤ 9 := by
  have h := rInv_all (prs n) (prs_range n) (prs n).length
  rw [List.take_length] at h
  refine ⟨?_, h.val, h.len, h.digs⟩
  have := h.root
  rw [hund_prs] at this
  exact this
theorem rtD_times {n : Nat} (h : n ≠ 0) : ∃ d, rtD (100 * n) = rtD n ++ [d] := by
  unfold rtD
  rw [prs_times h, rAll_snoc]
  exact ⟨_, rfl⟩

/-! ### the nearest square -/
def near (r s : Int) : Int := if s > r then r + 1 else r
theorem near_law {n r s : Int} (h : IsRoot n r s) : ∃ d, 0 ≤ d ∧ d ≤ near r s ∧ max (n - near r s * near r s) (near r s * near r s - n) = d ∧
    ∀ k, near r s - 1 ≤ k → k ≤ near r s + 1 → 0 ≤ k → d ≤ max (n - k * k) (k * k - n) := by
  obtain ⟨a1, a2, a3, a4⟩ := h
  have e1 : (r + 1) * (r + 1) = r * r + 2 * r + 1 := by rw [Int.add_mul, Int.mul_add]; omega
  have e2 : (r + 1 + 1) * (r + 1 + 1) = r * r + 4 * r + 4 := by rw [Int.add_mul, Int.mul_add, Int.add_mul, Int.mul_add]; omega
  have e3 : (r - 1) * (r - 1) = r * r - 2 * r + 1 := by rw [Int.sub_mul, Int.mul_sub]; omega
  unfold near
  split
  · next hs =>
    refine ⟨2 * r + 1 - s, by omega, by omega, by rw [e1]; omega, fun k h1 h2 h3 => ?_⟩
    rcases (show k = r ∨ k = r + 1 ∨ k = r + 1 + 1 from by omega) with rfl | rfl | rfl
    · omega
    · rw [e1]; omega
    · rw [e2]; omega
  · next hs =>
    refine ⟨s, by omega, by omega, by omega, fun k h1 h2 h3 => ?_⟩
    rcases (show k = r - 1 ∨ k = r ∨ k = r + 1 from by omega) with rfl | rfl | rfl
    · rw [e3]; omega
    · omega
    · rw [e1]; omega

/-! ### periods -/
def IsPer (d : Int) (a p : Nat) : Prop :=
  (∀ i, i < a + p → rest d i ≠ 0 ∧ ∀ j, j < i → rest d j ≠ rest d i) ∧ ((p = 0 ∧ rest d a = 0) ∨ (0 < p ∧ rest d a ≠ 0 ∧ rest d a = rest d (a + p)))
theorem per_unique {d : Int} {a p a' p' : Nat} (h : IsPer d a p) (h' : IsPer d a' p') : a = a' ∧ p = p' := by
  obtain ⟨h1, h2⟩ := h
  obtain ⟨g1, g2⟩ := h'
  have e : a + p = a' + p' := by
    rcases Nat.lt_trichotomy (a + p) (a' + p') with hlt | he | hgt
    · have := g1 (a + p) hlt
      rcases h2 with ⟨rfl, hz⟩ | ⟨hp, _, he⟩
      · exact absurd hz (by simpa using this.1)
      · exact absurd he (this.2 a (by omega))
    · exact he
    · have := h1 (a' + p') hgt
      rcases g2 with ⟨rfl, hz⟩ | ⟨hp, _, he⟩
      · exact absurd hz (by simpa using this.1)
      · exact absurd he (this.2 a' (by omega))
  rcases h2 with ⟨rfl, hz⟩ | ⟨hp, hnz, he⟩
  · rcases g2 with ⟨rfl, _⟩ | ⟨hp', hnz', he'⟩
    · omega
    · rw [← e, Nat.add_zero, hz] at he'; exact absurd he' hnz'
  · rcases g2 with ⟨rfl, hz'⟩ | ⟨hp', hnz', he'⟩
    · rw [e, Nat.add_zero, hz'] at he; exact absurd he hnz
    · rcases Nat.lt_trichotomy a a' with hlt | hh | hgt
      · exact absurd (by rw [he, e, ← he']) ((g1 a' (by omega)).2 a hlt)
      · omega
      · exact absurd (by rw [he', ← e, ← he]) ((h1 a (by omega)).2 a' hgt)
/-- where each rest was first met, counted from 1 -/
def led (d : Int) : Nat → List Int
  | 0 => List.replicate d.toNat 0
  | k + 1 => (led d k).set (rest d k).toNat ((k + 1 : Nat) : Int)
theorem led_length (d : Int) : ∀ k, (led d k).length = d.toNat := by
  intro k
  induction k with
  | zero => simp [led]
  | succ k ih => simp [led, ih]
/-- k rests, each met once and none 0 -/
def New (d : Int) (k : Nat) : Prop := ∀ i, i < k → rest d i ≠ 0 ∧ ∀ j, j < i → rest d j ≠ rest d i
theorem led_at {d : Int} (hd : 0 < d) : ∀ k, New d k → (∀ i, i < k → (led d k)[(rest d i).toNat]? = some (((i + 1 : Nat) : Int))) ∧
    (∀ x : Nat, x < d.toNat → (∀ i, i < k → (rest d i).toNat ≠ x) → (led d k)[x]? = some 0) := by
  intro k
  induction k with
  | zero =>
    intro _
    refine ⟨fun i hi => by omega, fun x hx _ => ?_⟩
    simp [led, hx]
  | succ k ih =>
    intro hn
    obtain ⟨i1, i2⟩ := ih (fun i hi => hn i (by omega))
    have hr := rest_range d hd
    have hl := led_length d k
    refine ⟨fun i hi => ?_, fun x hx hne => ?_⟩
    · rw [led]
      by_cases e : i = k
      · subst e
        have := hr i
        rw [List.getElem?_set_self (by omega)]
      · have hne : (rest d k).toNat ≠ (rest d i).toNat := by
          have h1 := (hn k (by omega)).2 i (by omega)
          have := hr k; have := hr i
          omega
        rw [List.getElem?_set_ne hne]
        exact i1 i (by omega)
    · rw [led, List.getElem?_set_ne (hne k (by omega))]
      exact i2 x hx (fun i hi => hne i (by omega))
/-- the rest at hand was met before, or not -/
theorem led_find {d : Int} (hd : 0 < d) {k : Nat} (hn : New d k) : (∃ i, i < k ∧ rest d i = rest d k ∧ (led d k)[(rest d k).toNat]? = some (((i + 1 : Nat) : Int))) ∨
    ((∀ i, i < k → rest d i ≠ rest d k) ∧ (led d k)[(rest d k).toNat]? = some 0) := by
  obtain ⟨h1, h2⟩ := led_at hd k hn
  have hr := rest_range d hd
  by_cases h : ∃ i, i < k ∧ rest d i = rest d k
  · obtain ⟨i, hi, e⟩ := h
    exact .inl ⟨i, hi, e, by rw [← e]; exact h1 i hi⟩
  · have h' : ∀ i, i < k → rest d i ≠ rest d k := fun i hi e => h ⟨i, hi, e⟩
    refine .inr ⟨h', h2 _ (by have := hr k; omega) (fun i hi e => h' i hi ?_)⟩
    have := hr i; have := hr k
    omega
theorem new_succ {d : Int} {k : Nat} (hn : New d k) (h0 : rest d k ≠ 0) (h1 : ∀ i, i < k → rest d i ≠ rest d k) : New d (k + 1) := by
  intro i hi
  by_cases e : i = k
  · subst e; exact ⟨h0, h1⟩
  · exact hn i (by omega)
theorem per_zero {d : Int} {k : Nat} (hn : New d k) (h0 : rest d k = 0) : IsPer d k 0 := ⟨hn, .inl ⟨rfl, h0⟩⟩
theorem per_again {d : Int} {k i : Nat} (hn : New d k) (hi : i < k) (h0 : rest d k ≠ 0) (e : rest d i = rest d k) : IsPer d i (k - i) :=
  ⟨by rw [show i + (k - i) = k from by omega]; exact hn, .inr ⟨by omega, by rw [e]; exact h0, by rw [show i + (k - i) = k from by omega]; exact e⟩⟩
/-- so many different numbers from 1 to n are at most n -/
theorem pigeon (n : Nat) : ∀ (f : Nat → Nat) (k : Nat), (∀ i, i < k → 1 ≤ f i ∧ f i ≤ n) → (∀ i j, i < k → j < i → f j ≠ f i) → k ≤ n := by
  induction n with
  | zero =>
    intro f k h _
    cases k with
    | zero => exact Nat.le_refl _
    | succ k => have := h 0 (by omega); omega
  | succ n ih =>
    intro f k h hne
    by_cases hx : ∃ i, i < k ∧ f i = n + 1
    · obtain ⟨i0, hi0, e0⟩ := hx
      have := ih (fun i => if i < i0 then f i else f (i + 1)) (k - 1) (fun i hi => by
        split
        · next hlt =>
          have h1 := h i (by omega)
          have h2 := hne i0 i hi0 hlt
          omega
        · next hge =>
          have h1 := h (i + 1) (by omega)
          have h2 := hne (i + 1) i0 (by omega) (by omega)
          omega) (fun i j hi hj => by
        split <;> split
        · exact hne i j (by omega) hj
        · exact hne (i + 1) j (by omega) (by omega)
        · omega
        · exact hne (i + 1) (j + 1) (by omega) (by omega))
      omega
    · have := ih f k (fun i hi => by have := h i hi; have : f i ≠ n + 1 := fun e => hx ⟨i, hi, e⟩; omega) hne
      omega
theorem per_lt {d : Int} (hd : 0 < d) {a p : Nat} (h : IsPer d a p) : (p : Int) < d := by
  have hr := rest_range d hd
  have := pigeon (d.toNat - 1) (fun i => (rest d i).toNat) (a + p) (fun i hi => by
    have h1 := (h.1 i hi).1
    have := hr i
    omega) (fun i j hi hj => by
    have h1 := (h.1 i hi).2 j hj
    have := hr i; have := hr j
    omega)
  omega
theorem new_lt {d : Int} (hd : 0 < d) {k : Nat} (h : New d k) : (k : Int) < d := by
  have hr := rest_range d hd
  have := pigeon (d.toNat - 1) (fun i => (rest d i).toNat) k (fun i hi => by
    have h1 := (h i hi).1
    have := hr i
    omega) (fun i j hi hj => by
    have h1 := (h i hi).2 j hj
    have := hr i; have := hr j
    omega)
  omega
/-- the greatest of what was noted is the number of rests -/
theorem led_max {d : Int} (hd : 0 < d) {k : Nat} (hn : New d k) : (∀ (x : Nat) (u : Int), (led d k)[x]? = some u → 0 ≤ u ∧ u ≤ (k : Int)) ∧ (0 < k → ∃ x, x < d.toNat ∧ (led d k)[x]? = some (k : Int)) := by
  obtain ⟨h1, h2⟩ := led_at hd k hn
  have hr := rest_range d hd
  refine ⟨fun x u hu => ?_, fun hk => ?_⟩
  · by_cases h : ∃ i, i < k ∧ (rest d i).toNat = x
    · obtain ⟨i, hi, e⟩ := h
      have := h1 i hi
      rw [e, hu] at this
      injection this with this
      omega
    · have hx : x < d.toNat := by
        have := (List.getElem?_eq_some_iff.1 hu).1
        rwa [led_length] at this
      have := h2 x hx (fun i hi e => h ⟨i, hi, e⟩)
      rw [hu] at this
      injection this with this
      omega
  · refine ⟨(rest d (k - 1)).toNat, by have := hr (k - 1); omega, ?_⟩
    have := h1 (k - 1) (by omega)
    rw [this]
    congr 1
    omega
/-- the greatest number of a list, from k down -/
def maxL (l : List Int) : Int := l.foldl (fun m x => max m x) 0
theorem maxL_snoc (l : List Int) (x : Int) : maxL (l ++ [x]) = max (maxL l) x := by simp [maxL]
theorem maxL_is (l : List Int) (m : Int) (h0 : 0 ≤ m) (h : ∀ x ∈ l, x ≤ m) (hx : m = 0 ∨ m ∈ l) : maxL l = m := by
  have key : ∀ (l : List Int) (a : Int), a ≤ m → (∀ x ∈ l, x ≤ m) → l.foldl (fun m x => max m x) a ≤ m ∧ a ≤ l.foldl (fun m x => max m x) a ∧ ∀ x ∈ l, x ≤ l.foldl (fun m x => max m x) a := by
    intro l
    induction l with
    | nil => intro a ha _; exact ⟨ha, Int.le_refl _, by simp⟩
    | cons y ys ih =>
      intro a ha hy
      have hy0 := hy y (by simp)
      obtain ⟨i1, i2, i3⟩ := ih (max a y) (by omega) (fun x hx => hy x (by simp [hx]))
      simp only [List.foldl_cons]
      refine ⟨i1, by omega, fun x hx => ?_⟩
      rcases List.mem_cons.1 hx with rfl | hx
      · omega
      · exact i3 x hx
  obtain ⟨i1, i2, i3⟩ := key l 0 h0 h
  unfold maxL
  rcases hx with rfl | hx
  · omega
  · have := i3 m hx; omega

/-! ### quotients that lead back -/
/-- what a list of quotients, from an index on, leads back to -/
def back : Nat → List Int → Option (Int × Int)
  | _, [] => some (1, 0)
  | i, q :: qs => match back (i + 1) qs with
    | none => none
    | some v => if q < 0 ∨ 1000000000 < q ∨ (q = 0 ∧ 0 < i) then none else if 1000000000 < q * v.1 + v.2 then none else some (q * v.1 + v.2, v.1)
theorem back_range (l : List Int) : ∀ i v, back i l = some v → 0 ≤ v.1 ∧ v.1 ≤ 1000000000 ∧ 0 ≤ v.2 ∧ v.2 ≤ 1000000000 := by
  induction l with
  | nil => intro i v h; simp [back] at h; subst h; simp
  | cons q qs ih =>
    intro i v h
    simp only [back] at h
    cases hb : back (i + 1) qs with
    | none => rw [hb] at h; simp at h
    | some u =>
      rw [hb] at h
      simp only at h
      have := ih (i + 1) u hb
      split at h
      · simp at h
      · next h1 =>
        split at h
        · simp at h
        · next h2 =>
          simp at h
          subst h
          have : 0 ≤ q * u.1 := Int.mul_nonneg (by omega) (by omega)
          exact ⟨by simp only; omega, by simp only; omega, by simp only; omega, by simp only; omega⟩
theorem back_some (l : List Int) : ∀ i v, back i l = some v → v = cont l ∧ (∀ q ∈ l, 0 ≤ q ∧ q ≤ 1000000000) ∧ (∀ q ∈ l.drop (if i = 0 then 1 else 0), 1 ≤ q) := by
  induction l with
  | nil => intro i v h; simp [back] at h; subst h; simp [cont, contT]
  | cons q qs ih =>
    intro i v h
    simp only [back] at h
    cases hb : back (i + 1) qs with
    | none => rw [hb] at h; simp at h
    | some u =>
      rw [hb] at h
      simp only at h
      obtain ⟨i1, i2, i3⟩ := ih (i + 1) u hb
      rw [if_neg (by omega), List.drop_zero] at i3
      split at h
      · simp at h
      · next h1 =>
        split at h
        · simp at h
        · next h2 =>
          simp at h
          subst h
          refine ⟨?_, ?_, ?_⟩
          · rw [i1]; rfl
          · intro x hx
            rcases List.mem_cons.1 hx with rfl | hx
            · omega
            · exact i2 x hx
          · split
            · simpa using i3
            · intro x hx
              rcases List.mem_cons.1 (by simpa using hx) with rfl | hx
              · omega
              · exact i3 x hx
theorem good_back {l : List Int} {v : Int × Int} (h : back 0 l = some v) : Good l ∧ v = cont l := by
  obtain ⟨h1, h2, h3⟩ := back_some l 0 v h
  rw [if_pos rfl] at h3
  refine ⟨?_, h1⟩
  cases l with
  | nil => trivial
  | cons q qs => exact ⟨(h2 q (by simp)).1, by simpa using h3⟩
/-- one step of the loop from the last quotient on -/
theorem back_drop {l : List Int} {i : Nat} {q : Int} (h : l[i]? = some q) : back i (l.drop i) = match back (i + 1) (l.drop (i + 1)) with
    | none => none
    | some v => if q < 0 ∨ 1000000000 < q ∨ (q = 0 ∧ 0 < i) then none else if 1000000000 < q * v.1 + v.2 then none else some (q * v.1 + v.2, v.1) := by
  have hi := (List.getElem?_eq_some_iff.1 h).1
  have e : l[i] = q := (List.getElem?_eq_some_iff.1 h).2
  rw [List.drop_eq_getElem_cons hi, e]
  rfl
/-- none stays none -/
theorem back_none {l : List Int} {i : Nat} (h : back i (l.drop i) = none) : ∀ k, back (i - k) (l.drop (i - k)) = none := by
  intro k
  induction k with
  | zero => exact h
  | succ k ih =>
    by_cases hk : k < i
    · have hil : i ≤ l.length ∨ l.length < i := by omega
      rcases hil with hil | hil
      · have hlt : i - (k + 1) < l.length := by omega
        rw [back_drop (List.getElem?_eq_getElem hlt), show i - (k + 1) + 1 = i - k from by omega, ih]
      · rw [List.drop_eq_nil_of_le (by omega)] at h
        simp [back] at h
    · rw [show i - (k + 1) = i - k from by omega]; exact ih
theorem back_none0 {l : List Int} {i : Nat} (h : back i (l.drop i) = none) : back 0 l = none := by
  have := back_none h i
  rwa [Nat.sub_self, List.drop_zero] at this
/-- a last quotient 1 goes into the one ahead -/
theorem back_short (l : List Int) (q : Int) : ∀ i v, back i (l ++ [q, 1]) = some v → back i (l ++ [q + 1]) = some v := by
  induction l with
  | nil =>
    intro i v h
    simp only [List.nil_append, back] at h ⊢
    simp at h
    simp
    obtain ⟨⟨a, b, c⟩, d, e⟩ := h
    exact ⟨⟨by omega, by omega, by omega⟩, by omega, e⟩
  | cons x xs ih =>
    intro i v h
    simp only [List.cons_append, back] at h ⊢
    cases hb : back (i + 1) (xs ++ [q, 1]) with
    | none => rw [hb] at h; simp at h
    | some u => rw [hb] at h; rw [ih (i + 1) u hb]; exact h
/-- the value of some digits is small -/
theorem horner_take {ds : List Int} (h : ∀ d ∈ ds, 0 ≤ d ∧ d ≤ 9) (hl : ds.length ≤ 6) (k : Nat) : 0 ≤ horner 0 (ds.take k) ∧ horner 0 (ds.take k) ≤ 999999 := by
  have hm : ∀ d ∈ ds.take k, 0 ≤ d ∧ d ≤ 9 := fun d hd => h d (List.mem_of_mem_take hd)
  have h1 := horner_nonneg (ds.take k) 0 (by omega) (fun d hd => (hm d hd).1)
  have h2 := horner_lt (ds.take k) 0 (by omega) hm
  have hk : (ds.take k).length ≤ 6 := by rw [List.length_take]; omega
  have h3 : (10 : Int) ^ (ds.take k).length ≤ 10 ^ 6 := by
    have := Nat.pow_le_pow_right (show 0 < 10 by omega) hk
    exact_mod_cast this
  refine ⟨h1, ?_⟩
  have h4 : (10 : Int) ^ 6 = 1000000 := by decide
  omega
theorem horner_next {ds : List Int} {k : Nat} {u : Int} (h : ds[k]? = some u) : horner 0 (ds.take (k + 1)) = 10 * horner 0 (ds.take k) + u := by rw [take_next h, horner_snoc]
theorem horner_all {ds : List Int} {n : Nat} (h : ds.length = n) : horner 0 (ds.take n) = horner 0 ds := by rw [List.take_of_length_le (by omega)]

/-! ### long division, digit by digit -/
theorem steps_next {xs : List Int} {k : Nat} {u d r : Int} (h : xs[k]? = some u) : steps d r (xs.take (k + 1)) = steps d r (xs.take k) ++ [((10 * lastRest d r (xs.take k) + u) / d, (10 * lastRest d r (xs.take k) + u) % d)] := by
  rw [take_next h, steps_append]; rfl
theorem rest_next {xs : List Int} {k : Nat} {u d r : Int} (h : xs[k]? = some u) : lastRest d r (xs.take (k + 1)) = (10 * lastRest d r (xs.take k) + u) % d := by
  rw [take_next h, lastRest_append]; rfl
theorem steps_all {xs : List Int} {n : Nat} {d r : Int} (h : xs.length = n) : steps d r (xs.take n) = steps d r xs ∧ lastRest d r (xs.take n) = lastRest d r xs := by
  rw [List.take_of_length_le (by omega)]; exact ⟨rfl, rfl⟩
/-- the digits of the steps lie between 0 and 9, the rests below the divisor -/
theorem steps_range {d : Int} (hd : 0 < d) (xs : List Int) : ∀ r, 0 ≤ r → r < d → (∀ x ∈ xs, 0 ≤ x ∧ x ≤ 9) → ∀ s ∈ steps d r xs, 0 ≤ s.1 ∧ s.1 ≤ 9 ∧ 0 ≤ s.2 ∧ s.2 < d := by
  induction xs with
  | nil => intro r _ _ _ s hs; simp [steps] at hs
  | cons x xs ih =>
    intro r h0 h1 hx s hs
    have hx0 := hx x (by simp)
    have hm0 := Int.emod_nonneg (10 * r + x) (show d ≠ 0 by omega)
    have hm1 := Int.emod_lt_of_pos (10 * r + x) hd
    simp only [steps, List.mem_cons] at hs
    rcases hs with rfl | hs
    · have := step_digit d r x hd h0 h1 hx0.1 hx0.2
      exact ⟨this.1, this.2, hm0, hm1⟩
    · exact ih _ hm0 hm1 (fun y hy => hx y (by simp [hy])) s hs
theorem steps_get {d : Int} (xs : List Int) : ∀ r (k : Nat) u, xs[k]? = some u → (steps d r xs)[k]? = some ((10 * lastRest d r (xs.take k) + u) / d, (10 * lastRest d r (xs.take k) + u) % d) := by
  induction xs with
  | nil => intro r k u h; simp at h
  | cons x xs ih =>
    intro r k u h
    cases k with
    | zero => simp at h; subst h; simp [steps, lastRest]
    | succ k =>
      simp only [List.getElem?_cons_succ] at h
      simp only [steps, List.getElem?_cons_succ, List.take_succ_cons, lastRest]
      exact ih _ k u h
end Go.Proofs.YthdoofmfigemoaaGreatDoor.Gl
end

section
/-
  Numerals: lists of digits, as texts and as values, in the program and in the reference.
-/
namespace Go.Proofs.YthdoofmfigemoaaGreatDoor
open Go.RowKit

def isD (d : Int) : Bool := decide (0 ≤ d) && decide (d ≤ 9)
theorem isD_iff (d : Int) : isD d = true ↔ 0 ≤ d ∧ d ≤ 9 := by simp [isD]
theorem isD_no (d : Int) : isD d = false ↔ d < 0 ∨ 9 < d := by
  rw [Bool.eq_false_iff, ne_eq, isD_iff]; omega
def okN (xs : List Int) : Bool := decide (1 ≤ xs.length) && decide (xs.length ≤ 6) && xs.all isD
theorem okN_iff (xs : List Int) : okN xs = true ↔ 1 ≤ xs.length ∧ xs.length ≤ 6 ∧ ∀ d ∈ xs, 0 ≤ d ∧ d ≤ 9 := by
  simp [okN, isD, and_assoc]
theorem okN_out {xs : List Int} {k : Nat} {u : Int} (h : xs[k]? = some u) (hu : u < 0 ∨ 9 < u) : okN xs = false := by
  cases hb : okN xs with
  | false => rfl
  | true => have := ((okN_iff xs).1 hb).2.2 u (List.mem_of_getElem? h); omega
theorem okN_len {xs : List Int} (h : xs.length < 1 ∨ 6 < xs.length) : okN xs = false := by
  cases hb : okN xs with
  | false => rfl
  | true => have := (okN_iff xs).1 hb; omega
theorem digs_next {xs : List Int} {k : Nat} {u : Int} (h : xs[k]? = some u) (ht : ∀ d ∈ xs.take k, 0 ≤ d ∧ d ≤ 9) (h0 : 0 ≤ u) (h9 : u ≤ 9) : ∀ d ∈ xs.take (k + 1), 0 ≤ d ∧ d ≤ 9 := by
  rw [take_next h]
  intro d hd
  rcases List.mem_append.1 hd with hd | hd
  · exact ht d hd
  · simp at hd; omega
theorem okN_all {xs : List Int} {n : Nat} (hl : xs.length = n) (ht : ∀ d ∈ xs.take n, 0 ≤ d ∧ d ≤ 9) : okN xs = (decide ((1 : Int) ≤ (n : Int)) && decide ((n : Int) ≤ 6)) := by
  rw [List.take_of_length_le (by omega)] at ht
  rw [Bool.eq_iff_iff, okN_iff]
  simp
  constructor
  · rintro ⟨a, b, -⟩; omega
  · rintro ⟨a, b⟩; exact ⟨by omega, by omega, ht⟩

set_option maxHeartbeats 400000 in
theorem isFactor_any (n : Int) (w : World) : Calls Tryz.prog 75 #[.int .i64 n] w fun e w' => e = .returned (.bool (decide (1 ≤ n) && decide (n ≤ 100000))) ∧ w = w' := by
  by_cases h1 : 1 ≤ n <;> by_cases h2 : n ≤ 100000
  all_goals
    go_enter Tryz.func75, Tryz.ntmps75
    go_wp2
    go_ret
    exact ⟨ret_bool (by simp [h1, h2]), rfl⟩
theorem isFactor_is {n : Int} {r : Bool} (h : (decide (1 ≤ n) && decide (n ≤ 100000)) = r) (w : World) : Calls Tryz.prog 75 #[.int .i64 n] w fun e w' => e = .returned (.bool r) ∧ w = w' := by
  rw [← h]; exact isFactor_any n w
set_option maxHeartbeats 400000 in
theorem isDigit_any (n : Int) (w : World) : Calls Tryz.prog 238 #[.int .i64 n] w fun e w' => e = .returned (.bool (isD n)) ∧ w = w' := by
  by_cases h1 : 0 ≤ n <;> by_cases h2 : n ≤ 9
  all_goals
    go_enter Tryz.func238, Tryz.ntmps238
    go_wp2
    go_ret
    exact ⟨ret_bool (by simp [isD, h1, h2]), rfl⟩
theorem isDigit_is {n : Int} {r : Bool} (h : isD n = r) (w : World) : Calls Tryz.prog 238 #[.int .i64 n] w fun e w' => e = .returned (.bool r) ∧ w = w' := by
  rw [← h]; exact isDigit_any n w
theorem l3Digit_any (n : Int) (w : World) : Calls Tryz.prog 228 #[.int .i64 n] w fun e w' => e = .returned (.bool (isD n)) ∧ w = w' := by
  go_enter Tryz.func228, Tryz.ntmps228
  go_wp2_with fail
  refine (l6In_any _ _ _ _).mono ?_
  rintro e w' ⟨rfl, rfl⟩
  go_wp2
  go_ret
  exact ⟨rfl, rfl⟩
theorem l3Digit_is {n : Int} {r : Bool} (h : isD n = r) (w : World) : Calls Tryz.prog 228 #[.int .i64 n] w fun e w' => e = .returned (.bool r) ∧ w = w' := by
  rw [← h]; exact l3Digit_any n w

set_option maxHeartbeats 400000 in
theorem specNumeralValid_any (A : Option Addr) (n c : Nat) (xs : List Int) (w : World) (B : Nat) (hx : Ints w B A n xs) :
    Calls Tryz.prog 234 #[.slice A n c] w fun e w' => e = .returned (.bool (okN xs)) ∧ w = w' := by
  have hb := hx.bound
  have HX := Lib.hid hx
  clear hx
  go_enter Tryz.func234, Tryz.ntmps234
  go_wp2_with fail
  go_loop [3] (fun i => ∃ k : Nat, k ≤ n ∧ i = .int .i64 (k : Int) ∧ ∀ d ∈ xs.take k, 0 ≤ d ∧ d ≤ 9) (fun i => n - (intOf i).toNat)
  case atStart => exact ⟨0, by omega, rfl, by simp⟩
  case round =>
    obtain ⟨k, hk, rfl, hds⟩ := hrel
    have HDS := Lib.hid hds
    clear hds
    by_cases hlt : k < n
    · obtain ⟨b, off, u, rfl, hub, hu, hcu⟩ := HX.out.at_ hlt
      have HU := Lib.hid hu
      clear hu
      rcases hd : isD u with _ | _
      · have HD := Lib.hid hd
        clear hd
        go_wp2_with fail
        refine (l3Digit_is HD.out _).mono ?_
        rintro e w' ⟨rfl, rfl⟩
        go_wp2
        go_ret
        exact ⟨ret_bool (okN_out HU.out ((isD_no u).1 HD.out)).symm, rfl⟩
      · have HD := Lib.hid hd
        clear hd
        go_wp2_with fail
        refine (l3Digit_is HD.out _).mono ?_
        rintro e w' ⟨rfl, rfl⟩
        go_wp2
        go_round
        case rel => exact ⟨k + 1, by omega, by go_num, digs_next HU.out HDS.out ((isD_iff u).1 HD.out).1 ((isD_iff u).1 HD.out).2⟩
        case measure => simp [intOf]; omega
    · obtain rfl : k = n := by omega
      go_wp2_with fail
      refine (l6In_is (okN_all HX.out.len HDS.out).symm _).mono ?_
      rintro e w' ⟨rfl, rfl⟩
      go_wp2
      go_ret
      exact ⟨rfl, rfl⟩
theorem specNumeralValid_is {A : Option Addr} {n c : Nat} {xs : List Int} {w : World} {B : Nat} {r : Bool} (hx : Ints w B A n xs) (h : okN xs = r) :
    Calls Tryz.prog 234 #[.slice A n c] w fun e w' => e = .returned (.bool r) ∧ w = w' := by
  rw [← h]; exact specNumeralValid_any A n c xs w B hx

/-! digits as a text -/
def dbyte (d : Int) : UInt8 := UInt8.ofNat (48 + d.toNat)
def dstr (xs : List Int) : ByteArray := ⟨(xs.map dbyte).toArray⟩
theorem dbyte_nat {d : Int} (h0 : 0 ≤ d) (h9 : d ≤ 9) : ((dbyte d).toNat : Int) = 48 + d := by
  unfold dbyte
  rw [UInt8.toNat_ofNat']
  omega
/-- a slice of bytes of the call's own -/
def OwnB (w : World) (B : Nat) (A : Option Addr) (n c : Nat) (us : List Int) : Prop := w.ownsRow B 5 1 (.slice A n c) n (us.map (Value.int .u8)) ∧ n ≤ 1000
theorem byte_info : (Tryz.prog.info? 5).map (fun i => (i.zero, i.size, i.bytes)) = some (some (.int .u8 0), 1, 1) := by kernel_rfl
theorem OwnB.len {w : World} {B n c : Nat} {A : Option Addr} {us : List Int} (h : OwnB w B A n c us) : us.length = n := by have := h.1.1; simpa using this
theorem OwnB.blk {w : World} {B n c : Nat} {A : Option Addr} {us : List Int} (h : OwnB w B A n c us) : ∀ k, (Value.slice A n c).ownBlock = some k → B ≤ k ∧ k < w.heap.size := h.1.lt
theorem wpList_makeB {ops : Array Oper} {rest : List Oper} {o : Oper} {a : Act} {w : World} {Q : Exit → Act → World → Prop} (hgd : o.guard = none) (l c : Operand)
    (ho : o.op = .makeSlice 22 l c) {B n : Nat} (hl : a.eval l = .int .i64 0) (hc : a.eval c = .int .i64 (n : Int)) (hn : n ≤ 1000) (hB : B ≤ w.heap.size)
    (h : ∀ w', OwnB w' B (some ⟨w.heap.size, 0, none⟩) 0 n [] → w.grownBy w' none → wpList Tryz.prog ops Q rest (a.put o.dst (.slice (some ⟨w.heap.size, 0, none⟩) 0 n)) w') :
    wpList Tryz.prog ops Q (o :: rest) a w := by
  obtain ⟨i0, hi, hz0, hz1, hz2⟩ := info_parts byte_info
  refine wpList_make_own w hgd l c 22 ho B 5 i0 (.int .u8 0) 1 Tryz.underlying22 hi hz0 hz1 .i64 .i64 n n hl hc rfl (by rw [hz2]; omega) (by unfold maxLen; omega) hB ?_
  intro w' hown hg
  exact h w' ⟨hown, by omega⟩ hg
theorem wpList_appB {ops : Array Oper} {rest : List Oper} {o : Oper} {a : Act} {w : World} {Q : Exit → Act → World → Prop} (hgd : o.guard = none) (s x : Operand)
    (ho : o.op = .call { callee := .builtin .append, args := #[s, x], argTypes := #[22, 22] })
    {B : Nat} {A : Option Addr} {n c : Nat} {us : List Int} (hs : a.eval s = .slice A n c) (hown : OwnB w B A n c us) (u : Int) (c0 : Nat)
    (hx : a.eval x = .slice (some ⟨w.heap.size, 0, none⟩) 1 c0) (v : Value) (hv : v = .int .u8 u) (hn : n + 1 ≤ 1000) (hB : B ≤ w.heap.size)
    (h : ∀ A' c' w', OwnB w' B A' (n + 1) c' (us ++ [u]) → w.grownBy w' (Value.slice A n c).ownBlock → wpList Tryz.prog ops Q rest (a.put o.dst (.slice A' (n + 1) c')) w') :
    wpList Tryz.prog ops Q (o :: rest) a (w.alloc (.cells #[v] 5)) := by
  obtain ⟨i0, hi, hz0, hz1, hz2⟩ := info_parts byte_info
  subst hv
  refine wpList_append_own _ hgd s x 22 ho B 5 i0 (.int .u8 0) 1 1 Tryz.underlying22 hi hz0 hz1 hz2 rfl (by decide) _ n _ hs (hown.1.alloc _)
    ⟨w.heap.size, 0, none⟩ 1 c0 [.int .u8 u] hx rfl (news_one w _ _) (by intro x hx; simp at hx; subst hx; rfl) (by unfold maxLen; omega) (by omega) (by simp; omega) ?_
  intro v' w' hown' hg _
  have hg1 : w.grownBy w' (Value.slice A n c).ownBlock := ⟨hg.os, hg.tape, hg.output, by have := hg.size; simp at this; omega, fun k hk hne => (hg.block k (by simp; omega) hne).trans (Below.heap_alloc w _ k hk)⟩
  rw [show us.map (Value.int .u8) ++ [.int .u8 u] = (us ++ [u]).map (Value.int .u8) from by simp] at hown'
  rcases hown'.2 with ⟨rfl, h0⟩ | ⟨g, cap, cur, rfl, _⟩
  · omega
  · exact h _ _ w' ⟨hown', hn⟩ hg1

def cbytes (xs : List Int) : List Int := xs.map fun d => 48 + d
theorem cbytes_next {xs : List Int} {k : Nat} {u : Int} (h : xs[k]? = some u) : cbytes (xs.take (k + 1)) = cbytes (xs.take k) ++ [48 + u] := by rw [take_next h]; simp [cbytes]
theorem cbytes_all {xs : List Int} {n : Nat} (h : xs.length = n) : cbytes (xs.take n) = cbytes xs := by rw [List.take_of_length_le (by omega)]
/-- string(text) of such bytes -/
theorem run_dstr {w : World} {B n c : Nat} {A : Option Addr} {xs : List Int} (h : OwnB w B A n c (cbytes xs)) (hn : 1 ≤ n) (hd : ∀ d ∈ xs, 0 ≤ d ∧ d ≤ 9) :
    (convert 22 9 (.slice A n c)).run Tryz.prog w = .ok (.string (dstr xs)) w := by
  obtain ⟨g, cap, hv, _, hlt⟩ := h.1.form hn
  have hA : A = some ⟨g, 0, none⟩ := by injection hv
  subst hA
  have hl := h.len
  have e : n = (xs.map dbyte).length := by simpa [cbytes] using hl.symm
  subst e
  refine run_convert_bytes_back w _ _ 5 ⟨g, 0, none⟩ c (xs.map dbyte) Tryz.underlying22 Tryz.underlying5 Tryz.underlying9 ?_
  intro j hj
  have hj' : j < xs.length := by simpa using hj
  have hc := h.1.cells (g := g) rfl j (.int .u8 (48 + xs[j])) (by simp [cbytes, hj'])
  have hdj := hd _ (List.getElem_mem hj')
  rw [hc]
  simp only [List.getElem_map]
  rw [dbyte_nat hdj.1 hdj.2]

set_option maxHeartbeats 1000000 in
theorem digitsOf_yes (A : Option Addr) (n c : Nat) (xs : List Int) (w : World) (hx : Ints w w.heap.size A n xs) (hok : okN xs = true) :
    Calls Tryz.prog 236 #[.slice A n c] w fun e w' => e = .returned (.tuple #[.string (dstr xs), .bool true]) ∧ Below w.heap.size w w' := by
  obtain ⟨hn1, hn6, hd⟩ := (okN_iff xs).1 hok
  rw [hx.len] at hn1 hn6
  have HX := Lib.hid hx
  have HD := Lib.hid hd
  clear hx hok hd
  go_enter Tryz.func236, Tryz.ntmps236
  go_wp2_with (at_make; refine wpList_makeB (B := w.heap.size) rfl _ _ rfl (n := 6) rfl rfl (by omega) (Nat.le_refl _) ?_; intro w1 hown1 hg1)
  have HO1 := Lib.hid hown1
  have HB1 := Lib.hid (grown_below hg1 (Nat.le_refl _) (by simp))
  clear hown1 hg1
  go_loopw [4, 18] (fun v i wr => ∃ (k : Nat) (T : Option Addr) (c : Nat), k ≤ n ∧ i = .int .i64 (k : Int) ∧ v = .slice T k c ∧ OwnB wr w.heap.size T k c (cbytes (xs.take k)) ∧ Below w.heap.size w wr) (fun _ i _ => n - (intOf i).toNat)
  case atStart => exact ⟨0, _, _, by omega, by go_num, rfl, HO1.out, HB1.out⟩
  case round =>
    clear HO1 HB1
    obtain ⟨k, T, c2, hk, rfl, rfl, hown, hbel⟩ := hrel
    have hsz := hbel.size
    have HO := Lib.hid hown
    have HB := Lib.hid hbel
    clear hown hbel
    by_cases hlt : k < n
    · obtain ⟨b, off, u, rfl, hub, hu, hcu⟩ := (HX.out.below HB.out).at_ hlt
      obtain ⟨u0, u9⟩ := HD.out u (List.mem_of_getElem? hu)
      have HU := Lib.hid hu
      clear hu
      go_wp2_with fail
      refine (isDigit_is ((isD_iff u).2 ⟨u0, u9⟩) _).mono ?_
      rintro e w' ⟨rfl, rfl⟩
      go_wp2_with (at_builtin; refine wpList_appB rfl _ _ rfl rfl HO.out (48 + u) _ rfl _ rfl (by omega) hsz ?_; intro A' c' w3 hown3 hg3)
      have HB3 := Lib.hid (HB.out.grown hg3 hsz fun k hk => (HO.out.blk k hk).1)
      go_roundw
      case rel => exact ⟨k + 1, _, _, by omega, by go_num, rfl, by rw [cbytes_next HU.out]; exact hown3, HB3.out⟩
      case measure => simp [intOf]; omega
    · obtain rfl : k = n := by omega
      have hrun := run_dstr (by rw [← cbytes_all HX.out.len]; exact HO.out) hn1 HD.out
      go_wp2
      go_ret2
      exact ⟨rfl, HB.out⟩
set_option maxHeartbeats 1000000 in
theorem digitsOf_no (A : Option Addr) (n c : Nat) (xs : List Int) (w : World) (hx : Ints w w.heap.size A n xs) (hok : okN xs = false) :
    Calls Tryz.prog 236 #[.slice A n c] w fun e w' => e = .returned (.tuple #[.string ByteArray.empty, .bool false]) ∧ Below w.heap.size w w' := by
  have hb := hx.bound
  have HX := Lib.hid hx
  have HOK := Lib.hid hok
  clear hx hok
  by_cases hlen : n < 1 ∨ 6 < n
  · by_cases h1 : n < 1
    all_goals
      go_enter Tryz.func236, Tryz.ntmps236
      go_wp2
      go_ret2
      exact ⟨rfl, Below.refl _ _⟩
  · have hn1 : 1 ≤ n := by omega
    have hn6 : n ≤ 6 := by omega
    clear hlen
    go_enter Tryz.func236, Tryz.ntmps236
    go_wp2_with (at_make; refine wpList_makeB (B := w.heap.size) rfl _ _ rfl (n := 6) rfl rfl (by omega) (Nat.le_refl _) ?_; intro w1 hown1 hg1)
    have HO1 := Lib.hid hown1
    have HB1 := Lib.hid (grown_below hg1 (Nat.le_refl _) (by simp))
    clear hown1 hg1
    go_loopw [4, 18] (fun v i wr => ∃ (k : Nat) (T : Option Addr) (c : Nat), k ≤ n ∧ i = .int .i64 (k : Int) ∧ v = .slice T k c ∧ OwnB wr w.heap.size T k c (cbytes (xs.take k)) ∧ (∀ d ∈ xs.take k, 0 ≤ d ∧ d ≤ 9) ∧ Below w.heap.size w wr) (fun _ i _ => n - (intOf i).toNat)
    case atStart => exact ⟨0, _, _, by omega, by go_num, rfl, HO1.out, by simp, HB1.out⟩
    case round =>
      clear HO1 HB1
      obtain ⟨k, T, c2, hk, rfl, rfl, hown, hds, hbel⟩ := hrel
      have hsz := hbel.size
      have HO := Lib.hid hown
      have HDS := Lib.hid hds
      have HB := Lib.hid hbel
      clear hown hds hbel
      by_cases hlt : k < n
      · obtain ⟨b, off, u, rfl, hub, hu, hcu⟩ := (HX.out.below HB.out).at_ hlt
        have HU := Lib.hid hu
        clear hu
        rcases hd : isD u with _ | _
        · have HD := Lib.hid hd
          clear hd
          go_wp2_with fail
          refine (isDigit_is HD.out _).mono ?_
          rintro e w' ⟨rfl, rfl⟩
          go_wp2
          go_ret2
          exact ⟨rfl, HB.out⟩
        · obtain ⟨u0, u9⟩ := (isD_iff u).1 hd
          have HD := Lib.hid hd
          clear hd
          go_wp2_with fail
          refine (isDigit_is HD.out _).mono ?_
          rintro e w' ⟨rfl, rfl⟩
          go_wp2_with (at_builtin; refine wpList_appB rfl _ _ rfl rfl HO.out (48 + u) _ rfl _ rfl (by omega) hsz ?_; intro A' c' w3 hown3 hg3)
          have HB3 := Lib.hid (HB.out.grown hg3 hsz fun k hk => (HO.out.blk k hk).1)
          go_roundw
          case rel => exact ⟨k + 1, _, _, by omega, by go_num, rfl, by rw [cbytes_next HU.out]; exact hown3, digs_next HU.out HDS.out u0 u9, HB3.out⟩
          case measure => simp [intOf]; omega
      · obtain rfl : k = n := by omega
        have := okN_all HX.out.len HDS.out
        rw [HOK.out] at this
        simp at this
        omega

/-! the value of a text of digits -/
theorem dstr_size (xs : List Int) : (dstr xs).size = xs.length := by simp [dstr, ByteArray.size]
theorem dstr_at {xs : List Int} {k : Nat} {u : Int} (h : xs[k]? = some u) (hk : k < (dstr xs).size) : (dstr xs)[k] = dbyte u := by
  obtain ⟨hlt, he⟩ := List.getElem?_eq_some_iff.1 h
  show (dstr xs).data[k]'hk = _
  simp [dstr, he]
set_option maxHeartbeats 400000 in
theorem digitAt_any (xs : List Int) (k : Nat) (u : Int) (w : World) (hu : xs[k]? = some u) (h0 : 0 ≤ u) (h9 : u ≤ 9) (hl : xs.length ≤ 6) :
    Calls Tryz.prog 239 #[.string (dstr xs), .int .i64 (k : Int)] w fun e w' => e = .returned (.int .i64 u) ∧ w = w' := by
  have hk : k < xs.length := (List.getElem?_eq_some_iff.1 hu).1
  have hs : (dstr xs).size ≤ 6 := by rw [dstr_size]; exact hl
  have hlt : k < (dstr xs).size := by rw [dstr_size]; exact hk
  have hat := dstr_at hu hlt
  have hb := dbyte_nat h0 h9
  rw [← hat] at hb
  have HB := Lib.hid hb
  have hb1 : 48 ≤ ((dstr xs)[k].toNat : Int) := by omega
  have hb2 : ((dstr xs)[k].toNat : Int) ≤ 57 := by omega
  clear hat hb hu
  generalize dstr xs = s at *
  go_enter Tryz.func239, Tryz.ntmps239
  go_wp2
  go_ret
  exact ⟨ret_int (by have := HB.out; omega), rfl⟩
/-- the value of a numeral, or -1 -/
def valN (xs : List Int) : Int := if okN xs then Gl.horner 0 xs else -1
end Go.Proofs.YthdoofmfigemoaaGreatDoor
end

section
/-
  Duplation: the program's iterator over the rows, and what DupTimes adds up.
-/
namespace Go.Proofs.YthdoofmfigemoaaGreatDoor
open Go.RowKit Go.Shelf
set_option linter.unusedSimpArgs false
set_option maxRecDepth 100000
attribute [local go_sem] Oper.semAt_some

/-- the rows from row i on -/
def rowsL : Nat → Nat → Nat → Nat → List (Nat × Nat × Nat)
  | 0, _, _, _ => []
  | f + 1, i, l, r => if l = 0 then [] else (i, l, r) :: rowsL f (i + 1) (l / 2) (r * 2)
/-- what the rows add up to -/
def keepS : List (Nat × Nat × Nat) → Nat
  | [] => 0
  | x :: xs => (if x.2.1 % 2 = 1 then x.2.2 else 0) + keepS xs
theorem keepS_rows : ∀ (f i l r : Nat), l < 2 ^ f → keepS (rowsL f i l r) = l * r
  | 0, i, l, r, h => by
    have : l = 0 := by simpa using h
    subst this
    simp [rowsL, keepS]
  | f + 1, i, l, r, h => by
    unfold rowsL
    split
    · rename_i h0
      subst h0
      simp [keepS]
    · rw [Nat.pow_succ] at h
      rw [keepS, keepS_rows f (i + 1) (l / 2) (r * 2) (by omega)]
      simp only
      have e : l = 2 * (l / 2) + l % 2 := by omega
      have e2 : l * r = l / 2 * (r * 2) + l % 2 * r := by
        conv => lhs; rw [e]
        rw [Nat.add_mul, Nat.mul_comm 2 (l / 2), Nat.mul_assoc, Nat.mul_comm 2 r]
      rcases Nat.mod_two_eq_zero_or_one l with h2 | h2
      · rw [h2] at e2 ⊢; simp at e2 ⊢; omega
      · rw [h2] at e2 ⊢; simp at e2 ⊢; omega
theorem keepS_snoc (xs : List (Nat × Nat × Nat)) (x : Nat × Nat × Nat) : keepS (xs ++ [x]) = keepS xs + (if x.2.1 % 2 = 1 then x.2.2 else 0) := by
  induction xs with
  | nil => simp [keepS]
  | cons y ys ih => simp only [List.cons_append, keepS, ih]; omega
abbrev dupEnc (x : Nat × Nat × Nat) : Array Value := #[.int .i64 (x.1 : Int), .agg #[.int .i64 (x.2.1 : Int), .int .i64 (x.2.2 : Int)]]
/-- all cells stay but those of block s -/
def KpS (s : Nat) (A B : World) : Prop := A.heap.size ≤ B.heap.size ∧ ∀ (k : Nat) cs T z, A.heap[k]? = some (.cells cs T z) → k ≠ s → B.heap[k]? = A.heap[k]?
theorem KpS.t {s : Nat} {A B C : World} (h : KpS s A B) (k : KpS s B C) : KpS s A C := ⟨Nat.le_trans h.1 k.1, fun i cs T z hi hn => by
  have h1 := h.2 i cs T z hi hn
  exact (k.2 i cs T z (h1.trans hi) hn).trans h1⟩
theorem KpS.of_grown {s : Nat} {A B : World} (h : A.grownBy B (some s)) : KpS s A B := ⟨h.size, fun k cs T z hk hn => h.block k (Array.getElem?_eq_some_iff.1 hk).1 (fun e => hn (by injection e))⟩
theorem KpS.of_none {s : Nat} {A B : World} (h : A.grownBy B none) : KpS s A B := ⟨h.size, fun k cs T z hk hn => h.block k (Array.getElem?_eq_some_iff.1 hk).1 (by simp)⟩
theorem KpS.blk {s b : Nat} {A B : World} {cs : Array Value} {T : TypeId} (h : Blk A b cs T) (k : KpS s A B) (hn : b ≠ s) : Blk B b cs T := (k.2 b cs T (0, 0) h hn).trans h
set_option maxHeartbeats 4000000 in
theorem dupIter_stops (n : Nat) (hn : 3 ≤ n) (s a b ba bb : Nat) (w : World) (ha1 : 1 ≤ a) (ha2 : a ≤ 100000) (hb1 : 1 ≤ b) (hb2 : b ≤ 100000) (hA : Blk w ba #[.int .i64 (a : Int)] 3) (hB : Blk w bb #[.int .i64 (b : Int)] 3) (hs : s < w.heap.size) :
    SeqStopsK Fence.wide n Tryz.prog 111 #[.pointer (some ⟨ba, 0, none⟩), .pointer (some ⟨bb, 0, none⟩)] dupEnc (KpS s) (fun xs => xs = rowsL 17 0 a b) (fun _ => True) 17 w := fun l J Jx W hW hJ hJx hY h0 => by
  have hA' := hA.next hW
  have hB' := hB.next hW
  have cA := hA'.cell (j := 0) (v := .int .i64 (a : Int)) rfl
  have cB := hB'.cell (j := 0) (v := .int .i64 (b : Int)) rfl
  have hf1 : (decide (1 ≤ (a : Int)) && decide ((a : Int) ≤ 100000)) = true := by simp; omega
  have hf2 : (decide (1 ≤ (b : Int)) && decide ((b : Int) ≤ 100000)) = true := by simp; omega
  have h1 : 1 ≤ n - 1 := by omega
  refine callsIn_of_wp Tryz.func111 rfl trivial ?_ rfl
  simp only [Tryz.ntmps111, List.size_toArray, List.length_cons, List.length_nil, Nat.reduceAdd, Nat.reduceSub, Array.replicate_succ, Array.replicate_zero, List.push_toArray, List.append_toArray, List.nil_append, List.cons_append]
  gi_wp2_with fail
  refine ⟨trivial, fun h => (by cases h), ?_⟩
  refine (callsIn_wide.2 (isFactor_is hf1 _)).mono ?_
  rintro e w' ⟨rfl, rfl⟩
  gi_wp2_with fail
  refine ⟨trivial, fun h => (by cases h), ?_⟩
  refine (callsIn_wide.2 (isFactor_is hf2 _)).mono ?_
  rintro e w' ⟨rfl, rfl⟩
  gi_wp2_with fail
  have hla := hA'.lt
  have hlb := hB'.lt
  gi_region
  gi_wp2_with fail
  gi_loopw [4, 5] (fun iv pv wr => ∃ (pre : List (Nat × Nat × Nat)) (k c lf rt bx : Nat), iv = .int .i64 (k : Int) ∧ pv = .pointer (some ⟨bx, 0, none⟩) ∧ k + c = 17 ∧ lf < 2 ^ c ∧ rt ≤ 100000 * 2 ^ k ∧ pre.length = k ∧ pre ++ rowsL c k lf rt = rowsL 17 0 a b ∧ Blk wr bx #[.int .i64 (lf : Int), .int .i64 (rt : Int)] 108 ∧ s < bx ∧ J pre wr) (fun iv _ _ => 17 - (intOf iv).toNat)
  case atStart =>
    refine ⟨[], 0, 17, a, b, W.heap.size, rfl, rfl, rfl, by omega, by omega, rfl, rfl, (Blk.new _ _ _).drew, by have := hW.size; omega, ?_⟩
    exact hJ _ W _ none h0 ((World.grownBy_alloc W (.cells #[.int .i64 (a : Int), .int .i64 (b : Int)] 108) none).trans ⟨rfl, rfl, rfl, Nat.le_refl _, fun _ _ _ => rfl⟩) (by simp)
  case round =>
    obtain ⟨pre, k, c, lf, rt, bx, rfl, rfl, hkc, hlf, hrt, hpre, hrows, hbx, hne, hJs⟩ := hrel
    have hxl := hbx.lt
    have c0 := hbx.cell (j := 0) (v := .int .i64 (lf : Int)) rfl
    have c1 := hbx.cell (j := 1) (v := .int .i64 (rt : Int)) rfl
    cases c with
    | zero =>
      have hl0 : lf = 0 := by simpa using hlf
      subst hl0
      gi_wp2_with fail
      go_end0
      exact ⟨⟨_, rfl⟩, .inl ⟨pre, by simpa [rowsL] using hrows, hJs⟩⟩
    | succ c =>
      by_cases hl0 : lf = 0
      · subst hl0
        gi_wp2_with fail
        go_end0
        exact ⟨⟨_, rfl⟩, .inl ⟨pre, by simpa [rowsL] using hrows, hJs⟩⟩
      · obtain ⟨fn, tmps, assign, body, hy, hR⟩ := hY pre (k, lf, rt) wr hJs (by omega)
        dsimp only [dupEnc] at hy
        have hl1 : (1 : Int) ≤ (lf : Int) := by omega
        gi_wp2_with fail
        refine ⟨fun _ => by omega, ?_⟩
        refine hR.mono ?_
        rintro e W3 (⟨rfl, hJ3, hk3⟩ | ⟨rfl, hJx3⟩)
        · have hb3 := KpS.blk hbx hk3 (by omega)
          have hl3 := hb3.lt
          have d0 := hb3.cell (j := 0) (v := .int .i64 (lf : Int)) rfl
          have d1 := hb3.cell (j := 1) (v := .int .i64 (rt : Int)) rfl
          dsimp only
          have hp : (2 : Nat) ^ k ≤ 2 ^ 16 := Nat.pow_le_pow_right (by omega) (by omega)
          have hr2 : (rt : Int) ≤ 6553600000 := by omega
          have hr0 : (0 : Int) ≤ (rt : Int) := by omega
          have hk2 : (k : Int) ≤ 17 := by omega
          have hlf2 : (lf : Int) ≤ 131072 := by
            have : (2 : Nat) ^ (c + 1) ≤ 2 ^ 17 := Nat.pow_le_pow_right (by omega) (by omega)
            omega
          gi_wp2_with fail
          gi_region
          refine (show Exit.then _ _ Exit.normal _ _ from ?_)
          dsimp only [Exit.then]
          go_roundw
          case rel =>
            refine ⟨pre ++ [(k, lf, rt)], k + 1, c, lf / 2, rt * 2, W3.heap.size, ?_, rfl, by omega, ?_, ?_, by simp [hpre], ?_, ?_, by omega, ?_⟩
            · congr 1
            · rw [Nat.pow_succ] at hlf; omega
            · rw [Nat.pow_succ]; omega
            · rw [← hrows, rowsL, if_neg hl0]; simp
            · have e1 : ((lf / 2 : Nat) : Int) = (lf : Int) / 2 := by omega
              have e2 : ((rt * 2 : Nat) : Int) = (rt : Int) * 2 := by omega
              rw [e1, e2]
              exact (Blk.new _ _ _).drew
            · exact hJ _ W3 _ none hJ3 ((World.grownBy_alloc W3 (.cells #[.int .i64 ((lf : Int) / 2), .int .i64 ((rt : Int) * 2)] 108) none).trans ⟨rfl, rfl, rfl, Nat.le_refl _, fun _ _ _ => rfl⟩) (by simp)
          case measure =>
            simp [intOf]
            omega
        · dsimp only
          gi_wp2_with fail
          refine bodyPost_ret (results_none rfl _ _ _) rfl ?_
          exact ⟨⟨_, rfl⟩, .inr ⟨pre ++ [(k, lf, rt)], trivial, hJx3⟩⟩
end Go.Proofs.YthdoofmfigemoaaGreatDoor
end

section
/-
  Duplation: DupTimes adds up the kept rows: the product.
-/
namespace Go.Proofs.YthdoofmfigemoaaGreatDoor
open Go.RowKit Go.Shelf
set_option linter.unusedSimpArgs false
set_option maxRecDepth 100000
attribute [local go_sem] Oper.semAt_some

theorem blk_own (B : Nat) (cs : Array Value) (t : TypeId) : Go.Own (fun (_ : Unit) W => Blk W B cs t) := fun _ X _ row hs hg hrow =>
  hs.grown hg (fun e => by obtain ⟨o, ho, hc⟩ := hrow B e.symm; rw [show X.heap[B]? = _ from hs] at ho; cases ho; cases hc)
theorem dupRows_is (a b : Int) (w : World) : Calls Tryz.prog 76 #[.int .i64 a, .int .i64 b] w fun e w' => e = .returned (.func (.func 111) #[] #[.pointer (some ⟨w.heap.size, 0, none⟩), .pointer (some ⟨w.heap.size + 1, 0, none⟩)]) ∧ w' = (w.alloc (.cells #[.int .i64 a] 3)).alloc (.cells #[.int .i64 b] 3) := by
  go_enter Tryz.func76, Tryz.ntmps76
  go_wp2
  go_ret
  exact ⟨rfl, rfl⟩
theorem wrap_snoc (a b : Int) : wrap64 (wrap64 a + b) = wrap64 (a + b) := by unfold wrap64; omega
theorem wrap_small (a : Int) (h0 : 0 ≤ a) (h : a ≤ 10000000000) : wrap64 a = a := by unfold wrap64; omega
set_option maxHeartbeats 4000000 in
theorem DupTimes_yes (a b : Nat) (w : World) (ha1 : 1 ≤ a) (ha2 : a ≤ 100000) (hb1 : 1 ≤ b) (hb2 : b ≤ 100000) :
    Calls Tryz.prog 33 #[.int .i64 (a : Int), .int .i64 (b : Int)] w fun e w' => e = .returned (.int .i64 ((a * b : Nat) : Int)) ∧ Below w.heap.size w w' := by
  have hf1 : (decide (1 ≤ (a : Int)) && decide ((a : Int) ≤ 100000)) = true := by simp; omega
  have hf2 : (decide (1 ≤ (b : Int)) && decide ((b : Int) ≤ 100000)) = true := by simp; omega
  refine (callsIn_wide (n := 9)).1 ?_
  refine callsIn_of_wp_marks Tryz.func33 rfl trivial ?_ rfl
  simp only [Tryz.ntmps33, List.size_toArray, List.length_cons, List.length_nil, Nat.reduceAdd, Nat.reduceSub, Array.replicate_succ, Array.replicate_zero, List.push_toArray, List.append_toArray, List.nil_append, List.cons_append]
  gi_wp2_with fail
  refine ⟨trivial, ?_⟩
  refine (callsIn_wide.2 (isFactor_is hf1 _)).mono ?_
  rintro e w' ⟨rfl, rfl⟩
  gi_wp2_with fail
  refine ⟨trivial, ?_⟩
  refine (callsIn_wide.2 (isFactor_is hf2 _)).mono ?_
  rintro e w' ⟨rfl, rfl⟩
  gi_wp2_with fail
  refine ⟨trivial, ?_⟩
  refine (callsIn_wide.2 (dupRows_is _ _ _)).mono ?_
  rintro e w' ⟨rfl, rfl⟩
  gi_wp2_with fail
  have bS := (Boxed.new w 3 (.int .i64 0)).alloc (.cells #[.int .i64 (a : Int)] 3) |>.alloc (.cells #[.int .i64 (b : Int)] 3)
  have bA : Blk _ _ _ _ := (Blk.new (w.alloc (.cells #[.int .i64 0] 3)) #[.int .i64 (a : Int)] 3).alloc (.cells #[.int .i64 (b : Int)] 3)
  have bB : Blk _ _ _ _ := Blk.new ((w.alloc (.cells #[.int .i64 0] 3)).alloc (.cells #[.int .i64 (a : Int)] 3)) #[.int .i64 (b : Int)] 3
  simp only [World.size_alloc] at bA bB
  have hB0 : Below w.heap.size w (((w.alloc (.cells #[.int .i64 0] 3)).alloc (.cells #[.int .i64 (a : Int)] 3)).alloc (.cells #[.int .i64 (b : Int)] 3)) := (((Below.refl _ w).alloc (Nat.le_refl _) _).alloc (by simp) _).alloc (by simp; omega) _
  have hsz : (((w.alloc (.cells #[.int .i64 0] 3)).alloc (.cells #[.int .i64 (a : Int)] 3)).alloc (.cells #[.int .i64 (b : Int)] 3)).heap.size = w.heap.size + 3 := by simp
  obtain ⟨W0, hW0⟩ : ∃ W0, ((w.alloc (.cells #[.int .i64 0] 3)).alloc (.cells #[.int .i64 (a : Int)] 3)).alloc (.cells #[.int .i64 (b : Int)] 3) = W0 := ⟨_, rfl⟩
  rw [hW0] at bA bB bS hB0 hsz ⊢
  clear hW0
  have hss : w.heap.size < W0.heap.size := by omega
  refine wpIn_rangeFunc_ownH (α := Nat × Nat × Nat) (n := 9) rfl (by omega) (gf := 111) (lb := #[.pointer (some ⟨w.heap.size + 1, 0, none⟩), .pointer (some ⟨w.heap.size + 1 + 1, 0, none⟩)]) rfl trivial (enters_of Tryz.func111 (by kernel_rfl) rfl)
    (dupIter_stops 8 (by omega) w.heap.size a b (w.heap.size + 1) (w.heap.size + 1 + 1) W0 ha1 ha2 hb1 hb2 bA bB hss) KpS.t
    (fun W l o o' hl ho hc _ => ⟨by simp, fun k cs T z hk hn => World.putObj_heap_other (fun e => by subst e; rw [hk] at ho; cases ho; cases hc)⟩) (Below.refl _ _) (fun _ => rfl)
    (fun pre W => Boxed W w.heap.size 3 (.int .i64 (wrap64 (keepS pre : Nat))) ∧ Below w.heap.size w W)
    (fun _ _ _ => False)
    (OwnFrom.and (Own.from (boxed_own _ _ _) _) (ownFrom_below (Nat.le_refl _) (by omega)))
    (fun _ _ _ _ _ hs _ _ => hs)
    ⟨by simpa [keepS, wrap64] using bS, hB0⟩
    (fun x a' W => ∃ Bx, w.heap.size < Bx ∧ Blk W Bx #[.int .i64 (x.2.1 : Int), .int .i64 (x.2.2 : Int)] 108 ∧ a' = { tmps := #[.int .i64 (a : Int), .int .i64 (b : Int), undef, undef, .int .i64 0, .pointer (some ⟨w.heap.size, 0, none⟩), undef, .pointer (some ⟨Bx, 0, none⟩), .int .i64 (a : Int), .bool true, .bool false, .bool false, .int .i64 (b : Int), .bool true, .bool false, .bool false, .int .i64 (a : Int), .int .i64 (b : Int), .func (.func 111) #[] #[.pointer (some ⟨w.heap.size + 1, 0, none⟩), .pointer (some ⟨w.heap.size + 1 + 1, 0, none⟩)], .int .i64 (x.1 : Int), .agg #[.int .i64 (x.2.1 : Int), .int .i64 (x.2.2 : Int)], undef, undef, undef, undef, undef, undef, undef, undef, undef], defers := [] })
    (fun x a' _ X Y row hs hg hr => by obtain ⟨Bx, h1, h2, h3⟩ := hs; exact ⟨Bx, h1, blk_own Bx _ _ () X Y row h2 hg (fun r e => (hr r e).2), h3⟩)
    ?assign ?body ?done ?stop
  case assign =>
    rintro l pre x W K ⟨bS1, hB1⟩ hK
    gi_wp2_with fail
    exact hK _ _ ((KeepsOthers.alloc _ _).from _) (KpS.of_none (World.grownBy_alloc _ _ _)) ⟨bS1.alloc _, hB1.alloc hB1.size _⟩ ⟨W.heap.size, bS1.lt, Blk.new W _ _, rfl⟩
  case body =>
    rintro l pre x a' W hl ⟨r, hr⟩ ⟨bS1, hB1⟩ ⟨Bx, hBx, bX, rfl⟩ hlt
    have cS := bS1.cell
    have fS := bS1.frozen
    have c0 := bX.cell (j := 0) (v := .int .i64 (x.2.1 : Int)) rfl
    have c1 := bX.cell (j := 1) (v := .int .i64 (x.2.2 : Int)) rfl
    have hx0 : (0 : Int) ≤ (x.2.1 : Int) := by omega
    by_cases hk : x.2.1 % 2 = 1
    · have hkI : (x.2.1 : Int) % 2 = 1 := by omega
      gi_wp2_with fail
      have e : wrap64 (wrap64 (keepS pre : Nat) + (x.2.2 : Int)) = wrap64 (keepS (pre ++ [x]) : Nat) := by
        rw [wrap_snoc, keepS_snoc, if_pos hk, Int.natCast_add]
      refine ⟨(KeepsOthers.setCell _ _ _).from _, KpS.of_grown (grownBy_setCell' W w.heap.size _), ⟨by rw [e]; exact bS1.set _, hB1.setCell (p := ⟨w.heap.size, 0, none⟩) (Nat.le_refl _) _⟩⟩
    · have hkI : (x.2.1 : Int) % 2 ≠ 1 := by omega
      gi_wp2_with fail
      refine ⟨(KeepsOthers.refl _).from _, KpS.of_none (World.grownBy.refl _ _), ⟨by rw [keepS_snoc, if_neg hk, Nat.add_zero]; exact bS1, hB1⟩⟩
  case done =>
    rintro D zs W hD rfl ⟨bS1, hB1⟩ hK
    have cS := bS1.cell
    gi_wp2_with fail
    refine ⟨by simp, .inl ⟨_, _, rfl, run_takeDeferred hK, ?_⟩⟩
    refine ⟨_, results_tmp rfl _ _ _, ?_, hB1.trans (belowK_b (w := w) (Nat.le_refl _) W D _ _ (by omega) hK rfl rfl)⟩
    have e : wrap64 (keepS (rowsL 17 0 a b) : Nat) = ((a * b : Nat) : Int) := by
      rw [keepS_rows 17 0 a b (by omega)]
      have h1 : a * b ≤ 100000 * 100000 := Nat.mul_le_mul ha2 hb2
      exact wrap_small _ (by omega) (by omega)
    rw [e]
    rfl
  case stop =>
    rintro D c pre W _ _ h _
    exact h.elim
end Go.Proofs.YthdoofmfigemoaaGreatDoor
end

section
/-
  What the reference's functions on boards give back, for every list.
-/
namespace Go.Proofs.YthdoofmfigemoaaGreatDoor
open Go.RowKit

theorem l1Group_any (k : Nat) (hk : k ≤ 1000) (w : World) : Calls Tryz.prog 134 #[.int .i64 (k : Int)] w fun e w' => e = .returned (.int .i64 (Bd.grp k)) ∧ w = w' := by
  rcases Nat.mod_two_eq_zero_or_one k with h | h
  · have h1 : ((k : Int) % 2 == 0) = true := by simp; omega
    go_enter Tryz.func134, Tryz.ntmps134
    go_wp2
    go_ret
    exact ⟨ret_int (by simp [Bd.grp, h]), rfl⟩
  · have h1 : ((k : Int) % 2 == 0) = false := by simp; omega
    go_enter Tryz.func134, Tryz.ntmps134
    go_wp2
    go_ret
    exact ⟨ret_int (by simp [Bd.grp, h]), rfl⟩

set_option maxHeartbeats 400000 in
theorem l1Worth_any (k : Nat) (hk : k ≤ 10) (w : World) : Calls Tryz.prog 142 #[.int .i64 (k : Int)] w fun e w' => e = .returned (.int .i64 (Bd.worth k)) ∧ w = w' := by
  go_enter Tryz.func142, Tryz.ntmps142
  go_wp2
  go_loop [3, 4] (fun t i => ∃ p : Nat, p ≤ k ∧ i = .int .i64 p ∧ t = .int .i64 (Bd.worth p)) (fun _ i => k - (intOf i).toNat)
  case atStart => exact ⟨0, by omega, rfl, rfl⟩
  case round =>
    obtain ⟨p, hp, rfl, rfl⟩ := hrel
    by_cases hlt : p < k
    · obtain ⟨w0, w1⟩ := Bd.worth_range p (by omega)
      have hs := Bd.worth_succ p
      have HS := Lib.hid hs
      clear hs
      rcases Nat.mod_two_eq_zero_or_one p with h | h
      · have h1 : ((p : Int) % 2 == 0) = true := by simp; omega
        have hg : Bd.grp p = 5 := by simp [Bd.grp, h]
        have HG := Lib.hid hg
        clear hg h
        go_wp2
        go_round
        case rel => exact ⟨p + 1, by omega, by go_num, by rw [HS.out, HG.out, Int.mul_comm]⟩
        case measure => simp [intOf]; omega
      · have h1 : ((p : Int) % 2 == 0) = false := by simp; omega
        have hg : Bd.grp p = 2 := by simp [Bd.grp, h]
        have HG := Lib.hid hg
        clear hg h
        go_wp2
        go_round
        case rel => exact ⟨p + 1, by omega, by go_num, by rw [HS.out, HG.out, Int.mul_comm]⟩
        case measure => simp [intOf]; omega
    · go_wp2
      go_ret
      obtain rfl : p = k := by omega
      exact ⟨rfl, rfl⟩

theorem okB_out {xs : List Int} {k : Nat} {u : Int} (h : xs[k]? = some u) (hu : u < 0 ∨ 20 < u) : Bd.okB xs = false := by
  cases hb : Bd.okB xs with
  | false => rfl
  | true => have := ((Bd.okB_iff xs).1 hb).2 u (List.mem_of_getElem? h); omega
theorem okB_len {xs : List Int} (h : xs.length ≠ 10) : Bd.okB xs = false := by
  cases hb : Bd.okB xs with
  | false => rfl
  | true => exact absurd ((Bd.okB_iff xs).1 hb).1 h

set_option maxHeartbeats 400000 in
theorem specBoardValid_any (A : Option Addr) (n c : Nat) (xs : List Int) (w : World) (B : Nat) (hx : Ints w B A n xs) :
    Calls Tryz.prog 104 #[.slice A n c] w fun e w' => e = .returned (.bool (Bd.okB xs)) ∧ w = w' := by
  have hb := hx.bound
  have HX := Lib.hid hx.len
  rcases h10 : ((n : Int) == 10) with _ | _
  all_goals
    go_enter Tryz.func104, Tryz.ntmps104
    go_wp2
    go_loop [3] (fun i => ∃ k : Nat, k ≤ n ∧ i = .int .i64 k ∧ ∀ x ∈ xs.take k, 0 ≤ x ∧ x ≤ 20) (fun i => n - (intOf i).toNat)
    case atStart => exact ⟨0, by omega, rfl, by simp⟩
    case round =>
      obtain ⟨k, hk, rfl, hin⟩ := hrel
      have HIN := Lib.hid hin
      clear hin
      by_cases hlt : k < n
      · obtain ⟨b, off, u, rfl, hlb, hu, hcell⟩ := hx.at_ hlt
        have HU := Lib.hid hu
        clear hu
        by_cases hr : u < 0 ∨ 20 < u
        · have HR := Lib.hid hr
          clear hr
          go_wp2_with (go_at_call 67; refine (l6In_no HR.out _).mono ?_; rintro e w' ⟨rfl, rfl⟩)
          go_ret
          exact ⟨ret_bool (okB_out HU.out HR.out).symm, rfl⟩
        · have r0 : 0 ≤ u := by omega
          have r1 : u ≤ 20 := by omega
          clear hr
          go_wp2_with (go_at_call 67; refine (l6In_yes (by omega) (by omega) _).mono ?_; rintro e w' ⟨rfl, rfl⟩)
          go_round
          case rel => exact ⟨k + 1, by omega, by go_num, by rw [take_next HU.out]; intro x hx; rcases List.mem_append.1 hx with h | h; exact HIN.out x h; simp at h; omega⟩
          case measure => simp [intOf]; omega
      · go_wp2
        go_ret
        obtain rfl : k = n := by omega
        refine ⟨ret_bool ?_, rfl⟩
        have hin := HIN.out
        rw [List.take_of_length_le (by have := HX.out; omega)] at hin
        first
          | (symm; exact okB_len (by have := HX.out; simp at h10; omega))
          | (symm; exact (Bd.okB_iff xs).2 ⟨by have := HX.out; simp at h10; omega, hin⟩)

set_option maxRecDepth 100000 in
set_option maxHeartbeats 1000000 in
theorem l1Value_any (A : Option Addr) (n c : Nat) (xs : List Int) (w : World) (B : Nat) (hx : Ints w B A n xs) (hok : Bd.okB xs = true) :
    Calls Tryz.prog 105 #[.slice A n c] w fun e w' => e = .returned (.int .i64 (Bd.V true xs)) ∧ ∃ q, w' = w.drewN q := by
  have hl := (Bd.okB_iff xs).1 hok
  have hn : n = 10 := by have := hx.len; omega
  subst hn
  have HL := Lib.hid hl
  clear hl hok
  go_enter Tryz.func105, Tryz.ntmps105
  go_wp2
  go_loopw [3, 4] (fun s i wr => ∃ k q : Nat, k ≤ 10 ∧ i = .int .i64 k ∧ s = .int .i64 (Bd.V true (xs.take k)) ∧ wr = w.drewN q) (fun _ i _ => 10 - (intOf i).toNat)
  case atStart => exact ⟨0, 0, by omega, rfl, rfl, rfl⟩
  case round =>
    obtain ⟨k, q, hk, rfl, rfl, hwr⟩ := hrel
    have hxr : Ints wr B A 10 xs := by rw [hwr]; exact hx.drewN q
    have HWR := Lib.hid hwr
    clear hwr
    by_cases hlt : k < 10
    · obtain ⟨b, off, u, rfl, hlb, hu, hcell⟩ := hxr.at_ hlt
      obtain ⟨m0, m1⟩ := HL.out.2 u (List.mem_of_getElem? hu)
      have HV := Lib.hid (Bd.V_take hu)
      obtain ⟨t0, t1⟩ := Bd.term_range m0 m1 hk
      obtain ⟨v0, v1⟩ := Bd.V_take_range HL.out.2 k hk (by have := HL.out.1; omega)
      clear hu
      generalize Bd.V true (xs.take k) = v at *
      have s1 : IntKind.i64.wrap (u * Bd.worth k) = u * Bd.worth k := IntWalk.i64_in _ (by omega)
      have s2 : IntKind.i64.wrap (v + u * Bd.worth k) = v + u * Bd.worth k := IntWalk.i64_in _ (by omega)
      go_wp2_with fail
      go_quiet ((go_at_call 142; exact quiet_same (l1Worth_any _ (by omega) _)))
      clear s1 s2
      go_wp2
      go_roundw
      case rel => exact ⟨k + 1, _, by omega, by go_num, by rw [HV.out], by rw [HWR.out, World.drewN_drewN]⟩
      case measure => simp [intOf]; omega
    · go_wp2
      go_ret
      obtain rfl : k = 10 := by omega
      exact ⟨ret_int (by rw [List.take_of_length_le (by have := HL.out.1; omega)]), _, HWR.out⟩

set_option maxHeartbeats 400000 in
theorem specBoardValue_any (A : Option Addr) (n c : Nat) (xs : List Int) (w : World) (B : Nat) (hx : Ints w B A n xs) :
    Calls Tryz.prog 54 #[.slice A n c] w fun e w' => e = .returned (.int .i64 (bVal xs)) ∧ Below w.heap.size w w' := by
  have hx' := Lib.hid hx
  rcases hok : Bd.okB xs with _ | _
  · have HOK := Lib.hid hok
    have HV := Lib.hid (show bVal xs = -1 by simp [bVal, hok])
    clear hx hok
    go_enter Tryz.func54, Tryz.ntmps54
    go_wp2_with (go_at_call 104; refine (specBoardValid_any _ _ _ xs _ B hx'.out).mono ?_; rintro e w' ⟨rfl, rfl⟩; rw [HOK.out])
    go_ret
    exact ⟨ret_int HV.out.symm, Below.refl _ _⟩
  · have HOK := Lib.hid hok
    have HV := Lib.hid (show bVal xs = Bd.V true xs by simp [bVal, hok])
    clear hx hok
    go_enter Tryz.func54, Tryz.ntmps54
    go_wp2_with (first
      | (go_at_call 104; refine (specBoardValid_any _ _ _ xs _ B hx'.out).mono ?_; rintro e w' ⟨rfl, rfl⟩; rw [HOK.out])
      | (go_at_call 105; refine (l1Value_any _ _ _ xs _ B hx'.out HOK.out).mono ?_; rintro e w' ⟨rfl, q, rfl⟩))
    go_ret
    exact ⟨ret_int HV.out.symm, below_drewN (Below.refl _ _) _⟩

set_option maxRecDepth 100000 in
set_option maxHeartbeats 1000000 in
theorem specBoardOf_any (v : Int) (w : World) : Calls Tryz.prog 26 #[.int .i64 v] w (BoardPost w (okV v) (Bd.D true 10 v)) := by
  by_cases hr : v < 0 ∨ 99999 < v
  · have hok : okV v = false := by simp [okV]; omega
    rw [hok]
    have HR := Lib.hid hr
    clear hr hok
    go_enter Tryz.func26, Tryz.ntmps26
    go_wp2_with (go_at_call 67; refine (l6In_no HR.out _).mono ?_; rintro e w' ⟨rfl, rfl⟩)
    go_ret2
    exact ⟨⟨_, _, _, rfl, own_lit w [] w.heap.size 0 rfl (by omega) (Nat.le_refl _)⟩, (Below.refl _ _).alloc (Nat.le_refl _) _⟩
  · have hok : okV v = true := by simp [okV]; omega
    rw [hok]
    have r0 : 0 ≤ v := by omega
    have r1 : v ≤ 99999 := by omega
    have hown0 := own_lit w [] w.heap.size 0 rfl (by omega) (Nat.le_refl _)
    have HO := Lib.hid hown0
    clear hr hok hown0
    go_enter Tryz.func26, Tryz.ntmps26
    go_wp2_with (go_at_call 67; refine (l6In_yes (by omega) (by omega) _).mono ?_; rintro e w' ⟨rfl, rfl⟩)
    go_loopw [0, 4, 5] (fun val out i wr => ∃ (j : Nat) (A : Option Addr) (c : Nat) (pre : List Int) (z : Int), j ≤ 5 ∧ i = .int .i64 (2 * j : Nat) ∧ val = .int .i64 z ∧ 0 ≤ z ∧ z ≤ 99999 ∧ out = .slice A (2 * j) c ∧ Own wr w.heap.size A (2 * j) c pre ∧ pre ++ Bd.D true (10 - 2 * j) z = Bd.D true 10 v ∧ Below w.heap.size w wr) (fun _ _ i _ => 10 - (intOf i).toNat)
    case atStart => exact ⟨0, _, _, [], v, by omega, rfl, rfl, r0, r1, rfl, HO.out, rfl, (Below.refl _ _).alloc (Nat.le_refl _) _⟩
    case round =>
      obtain ⟨j, A, c, pre, z, hj, rfl, rfl, z0, z1, rfl, hown, heq, hbel⟩ := hrel
      have HEQ := Lib.hid heq
      clear heq r0 r1
      by_cases hlt : j < 5
      · have e2 : Bd.D true (10 - 2 * j) z = z % 5 :: (z / 5 % 2) :: Bd.D true (10 - 2 * (j + 1)) (z / 10) := by
          rw [show 10 - 2 * j = (10 - 2 * (j + 1)) + 2 from by omega]
          simp only [Bd.D, Bd.full]
          simp
          rw [Int.ediv_ediv_of_nonneg (by omega)]
          rfl
        have HE2 := Lib.hid e2
        have hB := hbel.size
        clear e2
        go_wp2_with (at_builtin; refine wpList_app rfl _ _ rfl rfl hown [z % 5, z / 5 % 2] 2 rfl _ rfl _ rfl (by omega) hB ?_; intro A1 c1 w2 hown2 hg2)
        have hbel2 := below_step hbel hg2 hown hB
        go_roundw
        case rel =>
          refine ⟨j + 1, A1, c1, pre ++ [z % 5, z / 5 % 2], z / 10, by omega, by go_num, rfl, by omega, by omega, by rw [show 2 * (j + 1) = 2 * j + 2 from by omega], by rw [show 2 * (j + 1) = 2 * j + 2 from by omega]; exact hown2, ?_, hbel2⟩
          have := HEQ.out
          rw [HE2.out] at this
          rw [← this]
          simp
        case measure => simp [intOf]; omega
      · go_wp2
        go_ret2
        obtain rfl : j = 5 := by omega
        refine ⟨⟨_, _, _, rfl, ?_⟩, hbel⟩
        have := HEQ.out
        simp only [Nat.reduceMul, Nat.sub_self, Bd.D, List.append_nil] at this
        rw [if_pos rfl, ← show pre = Bd.D true 10 v from by simpa [Bd.D] using this]
        exact hown
end Go.Proofs.YthdoofmfigemoaaGreatDoor
end

section
/-
  The reference's duplation: rows, kept rows, and the sum.
-/
namespace Go.Proofs.YthdoofmfigemoaaGreatDoor
open Go.RowKit
set_option linter.unusedSimpArgs false
set_option maxRecDepth 100000

def ApartV (v v' : Value) : Prop := ∀ j, v.ownBlock = some j → v'.ownBlock ≠ some j
theorem wpList_app_loc {ops : Array Oper} {rest : List Oper} {o : Oper} {a : Act} {w : World} {Q : Exit → Act → World → Prop} (hgd : o.guard = none) (s x : Operand)
    (ho : o.op = .call { callee := .builtin .append, args := #[s, x], argTypes := #[28, 28] })
    {B : Nat} {A : Option Addr} {n c : Nat} {xs : List Int} (hs : a.eval s = .slice A n c) (hown : Own w B A n c xs) (us : List Int) (m : Nat) (hm : us.length = m) (c0 : Nat)
    (hx : a.eval x = .slice (some ⟨w.heap.size, 0, none⟩) m c0) (cs : Array Value) (hcs : cs = (IV us).toArray) (hn : n + m ≤ 1099511627776) (hB : B ≤ w.heap.size)
    (h : ∀ A' c' w', Own w' B A' (n + m) c' (xs ++ us) → w.grownBy w' (Value.slice A n c).ownBlock → (∀ j, (Value.slice A' (n + m) c').ownBlock = some j → (Value.slice A n c).ownBlock = some j ∨ w.heap.size ≤ j) → wpList Tryz.prog ops Q rest (a.put o.dst (.slice A' (n + m) c')) w') :
    wpList Tryz.prog ops Q (o :: rest) a (w.alloc (.cells cs 3)) := by
  obtain ⟨i0, hi, hz0, hz1, hz2⟩ := info_parts own_int_info
  subst hcs
  subst hm
  refine wpList_append_own_at _ hgd s x 28 ho B 3 i0 (.int .i64 0) 1 8 Tryz.underlying28 hi hz0 hz1 hz2 rfl (by decide) _ n (IV xs) hs (hown.1.alloc _)
    ⟨w.heap.size, 0, none⟩ us.length c0 (IV us) hx (by simp [IV]) ?_ (IV_one us) (by unfold maxLen; omega) (by omega) (by simp; omega) ?_
  · intro j u hj
    rw [add_row, cell_of_row _ w.heap.size j _ _ _ (heap_alloc_new w _)]
    simpa using hj
  · intro v' w' hown' hg _ hat
    obtain ⟨A', c', rfl, h'⟩ := Own.of_app us rfl hown' hn
    refine h A' c' w' h' ⟨hg.os, hg.tape, hg.output, by have := hg.size; simp at this; omega, fun k hk hne => (hg.block k (by simp; omega) hne).trans (Below.heap_alloc w _ k hk)⟩ fun j hj => ?_
    rcases hat with e | e
    · exact .inl (e.symm.trans hj)
    · rw [e] at hj
      injection hj with hj
      simp at hj
      exact .inr (by omega)

def lefts (rs : List (Nat × Nat × Nat)) : List Int := rs.map fun x => (x.2.1 : Int)
def rights (rs : List (Nat × Nat × Nat)) : List Int := rs.map fun x => (x.2.2 : Int)
def odds (rs : List (Nat × Nat × Nat)) : List (Nat × Nat × Nat) := rs.filter fun x => x.2.1 % 2 == 1
def kepts (rs : List (Nat × Nat × Nat)) : List Int := (odds rs).map fun x => (x.1 : Int)
theorem lefts_snoc (rs : List (Nat × Nat × Nat)) (k l r : Nat) : lefts (rs ++ [(k, l, r)]) = lefts rs ++ [(l : Int)] := by simp [lefts]
theorem rights_snoc (rs : List (Nat × Nat × Nat)) (k l r : Nat) : rights (rs ++ [(k, l, r)]) = rights rs ++ [(r : Int)] := by simp [rights]
theorem rowsL_length : ∀ f i l r, (rowsL f i l r).length ≤ f
  | 0, _, _, _ => by simp [rowsL]
  | f + 1, i, l, r => by
    unfold rowsL
    split
    · simp
    · have := rowsL_length f (i + 1) (l / 2) (r * 2)
      simp; omega
theorem rowsL_get : ∀ (f i l r k : Nat) (x : Nat × Nat × Nat), (rowsL f i l r)[k]? = some x → x.1 = i + k
  | 0, _, _, _, _, _, h => by simp [rowsL] at h
  | f + 1, i, l, r, k, x, h => by
    unfold rowsL at h
    split at h
    · simp at h
    · cases k with
      | zero => simp at h; subst h; simp
      | succ k =>
        have := rowsL_get f (i + 1) (l / 2) (r * 2) k x (by simpa using h)
        omega
theorem rowsL_mem {f l r : Nat} {x : Nat × Nat × Nat} (h : x ∈ rowsL f 0 l r) : (rowsL f 0 l r)[x.1]? = some x := by
  obtain ⟨k, hk, e⟩ := List.mem_iff_getElem.1 h
  have e2 : (rowsL f 0 l r)[k]? = some x := by rw [List.getElem?_eq_getElem hk, e]
  have := rowsL_get f 0 l r k x e2
  rw [this, Nat.zero_add]
  exact e2
theorem kepts_snoc (rs : List (Nat × Nat × Nat)) (x : Nat × Nat × Nat) : kepts (rs ++ [x]) = if x.2.1 % 2 = 1 then kepts rs ++ [(x.1 : Int)] else kepts rs := by
  by_cases h : x.2.1 % 2 = 1 <;> simp [kepts, odds, h]
def sumR (rs : List (Nat × Nat × Nat)) : Nat := (rs.map fun x => x.2.2).sum
theorem sumR_odds : ∀ rs : List (Nat × Nat × Nat), sumR (odds rs) = keepS rs
  | [] => rfl
  | x :: rs => by
    have ih := sumR_odds rs
    by_cases h : x.2.1 % 2 = 1 <;> simp [odds, sumR, keepS, h] at ih ⊢ <;> exact ih
theorem sumR_take (rs : List (Nat × Nat × Nat)) (k : Nat) : sumR (rs.take k) ≤ sumR rs := by
  have e : sumR rs = sumR (rs.take k) + sumR (rs.drop k) := by
    show (rs.map fun x => x.2.2).sum = ((rs.take k).map fun x => x.2.2).sum + ((rs.drop k).map fun x => x.2.2).sum
    first
      | rw [← List.sum_append, ← List.map_append, List.take_append_drop]
      | rw [← List.sum_append_nat, ← List.map_append, List.take_append_drop]
  omega
theorem sumR_next {rs : List (Nat × Nat × Nat)} {k : Nat} {x : Nat × Nat × Nat} (h : rs[k]? = some x) : sumR (rs.take (k + 1)) = sumR (rs.take k) + x.2.2 := by
  rw [List.take_add_one, h]
  simp [sumR]

theorem l2Factors_yes (a b : Nat) (w : World) (ha1 : 1 ≤ a) (ha2 : a ≤ 100000) (hb1 : 1 ≤ b) (hb2 : b ≤ 100000) :
    Calls Tryz.prog 112 #[.int .i64 (a : Int), .int .i64 (b : Int)] w fun e w' => e = .returned (.bool true) ∧ w = w' := by
  go_enter Tryz.func112, Tryz.ntmps112
  go_wp2_with fail
  refine (l6In_yes (by omega) (by omega) _).mono ?_
  rintro e w' ⟨rfl, rfl⟩
  go_wp2_with fail
  refine (l6In_yes (by omega) (by omega) _).mono ?_
  rintro e w' ⟨rfl, rfl⟩
  go_wp2_with fail
  go_ret
  exact ⟨rfl, rfl⟩
theorem l2Factors_no (a b : Int) (w : World) (h : ¬ ((1 ≤ a ∧ a ≤ 100000) ∧ 1 ≤ b ∧ b ≤ 100000)) :
    Calls Tryz.prog 112 #[.int .i64 a, .int .i64 b] w fun e w' => e = .returned (.bool false) ∧ w = w' := by
  by_cases ha : 1 ≤ a ∧ a ≤ 100000
  · have hb : b < 1 ∨ 100000 < b := by omega
    go_enter Tryz.func112, Tryz.ntmps112
    go_wp2_with fail
    refine (l6In_yes ha.1 ha.2 _).mono ?_
    rintro e w' ⟨rfl, rfl⟩
    go_wp2_with fail
    refine (l6In_no hb _).mono ?_
    rintro e w' ⟨rfl, rfl⟩
    go_wp2_with fail
    go_ret
    exact ⟨rfl, rfl⟩
  · go_enter Tryz.func112, Tryz.ntmps112
    go_wp2_with fail
    have ha' : a < 1 ∨ 100000 < a := by omega
    clear ha h
    refine (l6In_no ha' _).mono ?_
    rintro e w' ⟨rfl, rfl⟩
    go_wp2_with fail
    go_ret
    exact ⟨rfl, rfl⟩
def RowsPost (rs : List (Nat × Nat × Nat)) (w : World) (e : Ending) (w' : World) : Prop :=
  ∃ A n c A' n' c', e = .returned (.tuple #[.slice A n c, .slice A' n' c', .bool true]) ∧ Own w' w.heap.size A n c (lefts rs) ∧ Own w' w.heap.size A' n' c' (rights rs) ∧ Below w.heap.size w w'
set_option maxHeartbeats 4000000 in
theorem specDupRows_yes (a b : Nat) (w : World) (ha1 : 1 ≤ a) (ha2 : a ≤ 100000) (hb1 : 1 ≤ b) (hb2 : b ≤ 100000) :
    Calls Tryz.prog 77 #[.int .i64 (a : Int), .int .i64 (b : Int)] w (RowsPost (rowsL 17 0 a b) w) := by
  go_enter Tryz.func77, Tryz.ntmps77
  go_wp2_with fail
  refine (l2Factors_yes a b _ ha1 ha2 hb1 hb2).mono ?_
  rintro e w' ⟨rfl, rfl⟩
  have HL := Lib.hid ((lit_nil w).alloc (.cells #[] 3))
  have HR := Lib.hid ((lit_nil (w.alloc (.cells #[] 3))).mono (B' := w.heap.size) (by simp))
  have HB := Lib.hid (((Below.refl w.heap.size w).alloc (Nat.le_refl _) (.cells #[] 3)).alloc (by simp) (.cells #[] 3))
  go_wp2_with fail
  go_loopw [0, 1, 7, 8] (fun av bv lv rv wr => ∃ (pre : List (Nat × Nat × Nat)) (k c lf rt : Nat) (AL AR : Option Addr) (cL cR : Nat), av = .int .i64 (lf : Int) ∧ bv = .int .i64 (rt : Int) ∧ lv = .slice AL k cL ∧ rv = .slice AR k cR ∧ k + c = 17 ∧ lf < 2 ^ c ∧ rt ≤ 100000 * 2 ^ k ∧ pre.length = k ∧ pre ++ rowsL c k lf rt = rowsL 17 0 a b ∧ Own wr w.heap.size AL k cL (lefts pre) ∧ Own wr w.heap.size AR k cR (rights pre) ∧ ApartV (.slice AL k cL) (.slice AR k cR) ∧ Below w.heap.size w wr) (fun av _ _ _ _ => (intOf av).toNat)
  case atStart =>
    refine ⟨[], 0, 17, a, b, _, _, _, _, rfl, rfl, rfl, rfl, rfl, by omega, by omega, rfl, rfl, HL.out, ?_, ?_, HB.out⟩
    · simpa [rights] using HR.out
    · intro j hj e
      simp [Value.ownBlock] at hj e
      omega
  case round =>
    clear HL HR HB
    obtain ⟨pre, k, c, lf, rt, AL, AR, cL, cR, rfl, rfl, rfl, rfl, hkc, hlf, hrt, hpre, hrows, hL, hR, hap, hb⟩ := hrel
    have HL := Lib.hid hL
    have HR := Lib.hid hR
    have HAP := Lib.hid hap
    have HB := Lib.hid hb
    have hsz := hb.size
    clear hL hR hap hb
    by_cases hl0 : lf = 0
    · subst hl0
      go_wp2_with fail
      refine bodyPost_ret (results_tmp3 rfl _ _ _) rfl ?_
      have e : pre = rowsL 17 0 a b := by cases c <;> simpa [rowsL] using hrows
      rw [← e]
      exact ⟨_, _, _, _, _, _, rfl, HL.out, HR.out, HB.out⟩
    · obtain ⟨c, rfl⟩ : ∃ c', c = c' + 1 := by
        cases c with
        | zero => simp at hlf; omega
        | succ c => exact ⟨c, rfl⟩
      have hp : (2 : Nat) ^ k ≤ 2 ^ 16 := Nat.pow_le_pow_right (by omega) (by omega)
      have hr2 : (rt : Int) ≤ 6553600000 := by omega
      have hr0 : (0 : Int) ≤ (rt : Int) := by omega
      have hl1 : (0 : Int) < (lf : Int) := by omega
      have hlf2 : (lf : Int) ≤ 131072 := by
        have : (2 : Nat) ^ (c + 1) ≤ 2 ^ 17 := Nat.pow_le_pow_right (by omega) (by omega)
        omega
      go_wp2_with (first
        | (at_builtin; refine wpList_app_loc rfl _ _ rfl rfl HL.out [(lf : Int)] 1 rfl _ rfl _ rfl (by omega) (by omega) ?_; intro A1 c1 w1 own1 hg1 hat1
           have HR1 := Lib.hid (HR.out.kept hg1 fun j hj e => HAP.out j e hj)
           have HB1 := Lib.hid (HB.out.grown hg1 hsz fun j hj => (HL.out.blk j hj).1)
           have hsz1 := HB1.out.size
           have HL1 := Lib.hid own1
           have HAP1 := Lib.hid (show ApartV (.slice A1 (k + 1) c1) (.slice AR k cR) from fun j hj e => by
             rcases hat1 j hj with h | h
             · exact HAP.out j h e
             · have := (HR.out.blk j e).2; omega)
           clear own1 hat1 hg1 HL HR HB HAP)
        | (at_builtin; refine wpList_app_loc rfl _ _ rfl rfl HR1.out [(rt : Int)] 1 rfl _ rfl _ rfl (by omega) (by omega) ?_; intro A2 c2 w2 own2 hg2 hat2))
      go_roundw
      case rel =>
        refine ⟨pre ++ [(k, lf, rt)], k + 1, c, lf / 2, rt * 2, _, _, _, _, ?_, ?_, rfl, rfl, by omega, ?_, ?_, by simp [hpre], ?_, ?_, ?_, ?_, ?_⟩
        · congr 1
        · congr 1; omega
        · rw [Nat.pow_succ] at hlf; omega
        · rw [Nat.pow_succ]; omega
        · rw [← hrows, rowsL, if_neg hl0]; simp
        · rw [lefts_snoc]; exact HL1.out.kept hg2 fun j hj e => HAP1.out j hj e
        · rw [rights_snoc]; exact own2
        · intro j hj e
          rcases hat2 j e with h | h
          · exact HAP1.out j hj h
          · have := (HL1.out.blk j hj).2; omega
        · exact HB1.out.grown hg2 hsz1 fun j hj => (HR1.out.blk j hj).1
      case measure => simp [intOf]; omega
theorem lefts_get {rs : List (Nat × Nat × Nat)} {k : Nat} {u : Int} (h : (lefts rs)[k]? = some u) : ∃ x, rs[k]? = some x ∧ u = (x.2.1 : Int) := by
  unfold lefts at h
  rw [List.getElem?_map] at h
  cases hx : rs[k]? with
  | none => rw [hx] at h; cases h
  | some x => rw [hx] at h; injection h with h; exact ⟨x, rfl, h.symm⟩
theorem kepts_get {rs : List (Nat × Nat × Nat)} {k : Nat} {u : Int} (h : (kepts rs)[k]? = some u) : ∃ x, (odds rs)[k]? = some x ∧ u = (x.1 : Int) := by
  unfold kepts at h
  rw [List.getElem?_map] at h
  cases hx : (odds rs)[k]? with
  | none => rw [hx] at h; cases h
  | some x => rw [hx] at h; injection h with h; exact ⟨x, rfl, h.symm⟩
set_option maxHeartbeats 4000000 in
theorem specDupKept_yes (a b : Nat) (w : World) (ha1 : 1 ≤ a) (ha2 : a ≤ 100000) (hb1 : 1 ≤ b) (hb2 : b ≤ 100000) :
    Calls Tryz.prog 78 #[.int .i64 (a : Int), .int .i64 (b : Int)] w fun e w' => ∃ A n c, e = .returned (.slice A n c) ∧ Ints w' w'.heap.size A n (kepts (rowsL 17 0 a b)) ∧ Below w.heap.size w w' := by
  have hrl := rowsL_length 17 0 a b
  go_enter Tryz.func78, Tryz.ntmps78
  go_wp2_with fail
  have HK := Lib.hid (lit_nil w)
  refine (specDupRows_yes a b _ ha1 ha2 hb1 hb2).mono ?_
  rintro e w1 ⟨A, n, c, A', n', c', rfl, hl, -, hb1⟩
  have HAP := Lib.hid (show ApartV (.slice (some ⟨w.heap.size, 0, none⟩) 0 0) (.slice A n c) from fun j hj e => by
    have h1 := (hl.blk j e).1
    simp [Value.ownBlock] at hj h1
    omega)
  replace HK := Lib.hid (HK.out.next hb1)
  have HB := Lib.hid (((Below.refl w.heap.size w).alloc (Nat.le_refl _) (.cells #[] 3)).trans (hb1.mono (by simp)))
  have HX := Lib.hid (hl.mono (B' := w.heap.size) (by simp))
  have hn : n = (rowsL 17 0 a b).length := by have := hl.len; simpa [lefts] using this.symm
  have hn17 : (n : Int) ≤ 17 := by omega
  clear hb1 hl
  go_wp2_with fail
  go_loopw [5, 9] (fun ov iv wr => ∃ (k m : Nat) (Ao : Option Addr) (co : Nat), iv = .int .i64 (k : Int) ∧ k ≤ n ∧ m ≤ k ∧ ov = .slice Ao m co ∧ Own wr w.heap.size Ao m co (kepts ((rowsL 17 0 a b).take k)) ∧ Own wr w.heap.size A n c (lefts (rowsL 17 0 a b)) ∧ ApartV (.slice Ao m co) (.slice A n c) ∧ Below w.heap.size w wr) (fun _ iv _ => n - (intOf iv).toNat)
  case atStart => exact ⟨0, 0, _, _, rfl, by omega, by omega, rfl, HK.out, HX.out, HAP.out, HB.out⟩
  case round =>
    clear HK HX HB HAP
    obtain ⟨k, m, Ao, co, rfl, hk, hm, rfl, hL, hR, hap, hb⟩ := hrel
    have HL := Lib.hid hL
    have HR := Lib.hid hR
    have HAP := Lib.hid hap
    have HB := Lib.hid hb
    have hsz := hb.size
    have hi := hR.ints
    clear hL hR hap hb
    by_cases hlt : k < n
    · obtain ⟨bl, off, u, rfl, hlb, hu, hcell⟩ := hi.at_ hlt
      obtain ⟨x, hx, rfl⟩ := lefts_get hu
      have hxk := rowsL_get 17 0 a b k x hx
      have hx0 : (0 : Int) ≤ (x.2.1 : Int) := by omega
      have HN := Lib.hid (kepts_snoc ((rowsL 17 0 a b).take k) x)
      rw [← take_next hx] at HN
      have HXK := Lib.hid hxk
      clear hu hx hxk hi
      by_cases hodd : x.2.1 % 2 = 1
      · have hkI : (x.2.1 : Int) % 2 = 1 := by omega
        rw [if_pos hodd] at HN
        clear hodd
        go_wp2_with (at_builtin; refine wpList_app_loc rfl _ _ rfl rfl HL.out [(k : Int)] 1 rfl _ rfl _ rfl (by omega) (by omega) ?_; intro A1 c1 w1 own1 hg1 hat1)
        go_roundw
        case rel =>
          refine ⟨k + 1, m + 1, _, _, by go_num, by omega, by omega, rfl, ?_, HR.out.kept hg1 fun j hj e => HAP.out j e hj, ?_, HB.out.grown hg1 hsz fun j hj => (HL.out.blk j hj).1⟩
          · rw [HN.out, HXK.out, Nat.zero_add]; exact own1
          · intro j hj e
            rcases hat1 j hj with h | h
            · exact HAP.out j h e
            · have := (HR.out.blk j e).2; omega
        case measure => simp [intOf]; omega
      · have hkI : (x.2.1 : Int) % 2 ≠ 1 := by omega
        rw [if_neg hodd] at HN
        clear hodd
        go_wp2_with fail
        go_roundw
        case rel => exact ⟨k + 1, m, _, _, by go_num, by omega, by omega, rfl, by rw [HN.out]; exact HL.out, HR.out, HAP.out, HB.out⟩
        case measure => simp [intOf]; omega
    · obtain rfl : k = n := by omega
      clear hi
      go_wp2_with fail
      go_ret
      have h := HL.out.ints
      rw [List.take_of_length_le (by omega)] at h
      exact ⟨_, _, _, rfl, h, HB.out⟩
/-- the sum over rows with odd left numbers, told by their indexes -/
theorem specDupTimes_yes (a b : Nat) (w : World) (ha1 : 1 ≤ a) (ha2 : a ≤ 100000) (hb1 : 1 ≤ b) (hb2 : b ≤ 100000) :
    Calls Tryz.prog 34 #[.int .i64 (a : Int), .int .i64 (b : Int)] w fun e w' => e = .returned (.int .i64 ((a * b : Nat) : Int)) ∧ Below w.heap.size w w' := by
  have htot : sumR (odds (rowsL 17 0 a b)) = a * b := by rw [sumR_odds, keepS_rows 17 0 a b (by omega)]
  have hmax : a * b ≤ 100000 * 100000 := Nat.mul_le_mul ha2 hb2
  go_enter Tryz.func34, Tryz.ntmps34
  go_wp2_with fail
  refine (specDupRows_yes a b _ ha1 ha2 hb1 hb2).mono ?_
  rintro e w1 ⟨A, n, c, A', n', c', rfl, -, hr, hb1'⟩
  have HB1 := Lib.hid hb1'
  have HR1 := Lib.hid hr.ints
  clear hb1' hr
  go_wp2_with fail
  refine (specDupKept_yes a b _ ha1 ha2 hb1 hb2).mono ?_
  rintro e w2 ⟨K, m, ck, rfl, hk, hb2'⟩
  have hr2 := HR1.out.next hb2'
  have HB := Lib.hid (below_chain HB1.out hb2')
  have hm : m = (odds (rowsL 17 0 a b)).length := by have := hk.len; simpa [kepts] using this.symm
  have hn : n' = (rowsL 17 0 a b).length := by have := hr2.len; simpa [rights] using this.symm
  have hm17 : (m : Int) ≤ 17 := by
    have h1 := rowsL_length 17 0 a b
    have h2 : (odds (rowsL 17 0 a b)).length ≤ (rowsL 17 0 a b).length := List.length_filter_le _ _
    omega
  clear HB1 HR1 hb2'
  go_wp2_with fail
  go_loopw [9, 10] (fun nv iv wr => ∃ (k s : Nat), wr = w2 ∧ iv = .int .i64 (k : Int) ∧ nv = .int .i64 (s : Int) ∧ k ≤ m ∧ s = sumR ((odds (rowsL 17 0 a b)).take k)) (fun _ iv _ => m - (intOf iv).toNat)
  case atStart => exact ⟨0, 0, rfl, rfl, rfl, by omega, rfl⟩
  case round =>
    obtain ⟨k, s, hwr, rfl, rfl, hkm, hs⟩ := hrel
    subst hwr
    by_cases hlt : k < m
    · obtain ⟨bl, off, u, rfl, hlb, hu, hcell⟩ := hk.at_ hlt
      obtain ⟨x, hx, rfl⟩ := kepts_get hu
      have hxm : x ∈ rowsL 17 0 a b := (List.mem_filter.1 (List.mem_of_getElem? hx)).1
      have hxr := rowsL_mem hxm
      have hxn : x.1 < n' := by have := (List.getElem?_eq_some_iff.1 hxr).1; omega
      obtain ⟨bl2, off2, u2, rfl, hlb2, hu2, hcell2⟩ := hr2.at_ hxn
      have e2 : u2 = (x.2.2 : Int) := by
        have : (rights (rowsL 17 0 a b))[x.1]? = some (x.2.2 : Int) := by simp [rights, hxr]
        rw [this] at hu2
        injection hu2 with hu2
        exact hu2.symm
      subst e2
      have hnx := sumR_next hx
      have hle := sumR_take (odds (rowsL 17 0 a b)) (k + 1)
      have hsI : (s : Int) + (x.2.2 : Int) ≤ 10000000000 := by omega
      have hs0 : (0 : Int) ≤ (s : Int) := by omega
      have hx0 : (0 : Int) ≤ (x.2.2 : Int) := by omega
      have hx1n : (x.1 : Int) < (n' : Int) := by omega
      have hx10 : (0 : Int) ≤ (x.1 : Int) := by omega
      have HS := Lib.hid hs
      have HNX := Lib.hid hnx
      clear hu hu2 hx hxm hxr hnx hle hs htot
      go_wp2_with fail
      go_roundw
      case rel => exact ⟨k + 1, s + x.2.2, trivial, by go_num, by go_num, by omega, by rw [HNX.out, HS.out]⟩
      case measure => simp [intOf]; omega
    · obtain rfl : k = m := by omega
      go_wp2_with fail
      go_ret
      have e : s = a * b := by rw [hs, List.take_of_length_le (by omega), htot]
      subst e
      exact ⟨rfl, HB.out⟩
end Go.Proofs.YthdoofmfigemoaaGreatDoor
end

section
/-
  Numerals, and their products by a lattice.
-/
namespace Go.Proofs.YthdoofmfigemoaaGreatDoor
open Go.RowKit
set_option linter.unusedSimpArgs false
set_option maxRecDepth 100000

theorem horner_rev : ∀ l : List Int, Gl.horner 0 l.reverse = Fr.val l
  | [] => rfl
  | d :: l => by
    have ih := horner_rev l
    unfold Gl.horner at ih ⊢
    rw [List.reverse_cons, List.foldl_append, ih]
    simp only [List.foldl_cons, List.foldl_nil, Fr.val]
    omega
theorem set_mid (m : Nat) (t : List Int) (d : Int) : (List.replicate (m + 1) 0 ++ t).set m d = List.replicate m 0 ++ d :: t := by
  rw [List.replicate_succ', List.append_assoc, List.set_append_right _ _ (by simp)]
  simp
/-- a list of digits, the lowest first, and its value -/
def LowD (L : List Int) (k : Nat) (v : Int) : Prop := L.length = k ∧ Fr.Digs L ∧ Fr.val L = v
theorem LowD.next {L : List Int} {k v : Nat} (h : LowD L k ((v % 10 ^ k : Nat) : Int)) : LowD (L ++ [((v / 10 ^ k % 10 : Nat) : Int)]) (k + 1) ((v % 10 ^ (k + 1) : Nat) : Int) := by
  obtain ⟨h1, h2, h3⟩ := h
  refine ⟨by simp [h1], fun d hd => ?_, ?_⟩
  · rcases List.mem_append.1 hd with hd | hd
    · exact h2 d hd
    · have := List.mem_singleton.1 hd
      subst this
      omega
  · rw [val_append, h3, h1]
    have e : v % 10 ^ (k + 1) = v % 10 ^ k + 10 ^ k * (v / 10 ^ k % 10) := by rw [Nat.pow_succ, Nat.mod_mul]
    rw [e]
    simp only [Fr.val, Fr.ten, Int.mul_zero, Int.add_zero]
    push_cast
    rfl
/-- a numeral: its digits, the first one first -/
def Numl (ds : List Int) (v : Int) : Prop := okN ds = true ∧ Fr.val ds.reverse = v
def NumPost (w : World) (v : Int) (e : Ending) (w' : World) : Prop := ∃ A n c ds, e = .returned (.tuple #[.slice A n c, .bool true]) ∧ Numl ds v ∧ Own w' w.heap.size A n c ds ∧ Below w.heap.size w w'
set_option maxHeartbeats 4000000 in
theorem NumeralOf_yes (v : Nat) (hv : v < 1000000) (w : World) : Calls Tryz.prog 199 #[.int .i64 (v : Int)] w (NumPost w v) := by
  have hlt0 : ¬ (v : Int) < 0 := by omega
  have hge0 : ¬ (v : Int) ≥ 1000000 := by omega
  have hq0 : Int.tdiv (v : Int) 10 = ((v / 10 : Nat) : Int) := rfl
  have hw0 : IntKind.i64.wrap ((v / 10 : Nat) : Int) = ((v / 10 : Nat) : Int) := IntWalk.i64_in _ (by omega)
  go_enter Tryz.func199, Tryz.ntmps199
  go_wp2_with fail
  go_loopw [4, 5] (fun sv nv wr => ∃ (s N : Nat), 1 ≤ s ∧ s ≤ 6 ∧ sv = .int .i64 (s : Int) ∧ nv = .int .i64 (N : Int) ∧ N = v / 10 ^ s ∧ w = wr) (fun _ nv _ => (intOf nv).toNat)
  case atStart => exact ⟨1, v / 10, by omega, by omega, rfl, rfl, rfl, rfl⟩
  case round =>
    obtain ⟨s, N, hs1, hs6, rfl, rfl, hN, rfl⟩ := hrel
    have hNb : N < 1000000 := by rw [hN]; exact Nat.lt_of_le_of_lt (Nat.div_le_self _ _) hv
    by_cases h0 : 0 < N
    · have hs5 : s ≤ 5 := by
        rcases Nat.lt_or_ge s 6 with h | h
        · omega
        · exfalso
          obtain rfl : s = 6 := by omega
          rw [hN, Nat.div_eq_of_lt hv] at h0
          omega
      have hq : Int.tdiv (N : Int) 10 = ((N / 10 : Nat) : Int) := rfl
      have hw1 : IntKind.i64.wrap ((N / 10 : Nat) : Int) = ((N / 10 : Nat) : Int) := IntWalk.i64_in _ (by omega)
      have hpos : (N : Int) > 0 := by omega
      have HN := Lib.hid hN
      clear hN
      go_wp2_with fail
      exact ⟨⟨s + 1, N / 10, by omega, by omega, by go_num, rfl, by rw [HN.out, Nat.div_div_eq_div_mul, Nat.pow_succ], trivial⟩, by simp [intOf]; omega⟩
    · obtain rfl : N = 0 := by omega
      have hvs : v < 10 ^ s := by
        rcases Nat.lt_or_ge v (10 ^ s) with h | h
        · exact h
        · have := Nat.div_pos h (Nat.pow_pos (by omega))
          omega
      have HV := Lib.hid hvs
      have hsI : (s : Int) ≤ 6 := by omega
      have hsJ : (1 : Int) ≤ (s : Int) := by omega
      clear hN hvs hNb
      go_wp2_with (first
        | (refine wpList_make_ints rfl _ _ rfl (B := w.heap.size) (n := s) rfl rfl (by omega) (Nat.le_refl _) ?_; intro w2 hown hg))
      have hbl := Below.grown (Below.refl w.heap.size w) hg (Nat.le_refl _) (by simp)
      have HO := Lib.hid (And.intro hown hbl)
      clear hown hg hbl
      go_loopw [0, 7] (fun vv iv wr => ∃ (j k V : Nat) (L : List Int), j + k = s ∧ iv = .int .i64 ((j : Int) - 1) ∧ vv = .int .i64 (V : Int) ∧ V = v / 10 ^ k ∧ LowD L k ((v % 10 ^ k : Nat) : Int) ∧ Own wr w.heap.size (some ⟨w.heap.size, 0, none⟩) s s (List.replicate j 0 ++ L.reverse) ∧ Below w.heap.size w wr) (fun _ iv _ => ((intOf iv) + 1).toNat)
      case atStart =>
        refine ⟨s, 0, v, [], by omega, ?_, rfl, by simp, ⟨rfl, (fun d h => (by cases h)), (by simp [Fr.val, Nat.mod_one])⟩, by simpa using HO.out.1, HO.out.2⟩
        first | rfl | go_num
      case round =>
        obtain ⟨j, k, V, L, hjk, rfl, rfl, hV, hL, ho, hb⟩ := hrel
        have hVb : V < 1000000 := by rw [hV]; exact Nat.lt_of_le_of_lt (Nat.div_le_self _ _) hv
        rcases j with _ | m
        · have hpv : ((0 : Nat) : Int) - 1 = -1 := by omega
          rw [hpv]
          obtain rfl : k = s := by omega
          rw [Nat.mod_eq_of_lt HV.out] at hL
          rw [List.replicate_zero, List.nil_append] at ho
          have HR := Lib.hid (And.intro hL (And.intro ho hb))
          clear hL ho hb hV
          go_wp2_with fail
          go_ret2
          refine ⟨_, _, _, L.reverse, rfl, ⟨(okN_iff _).2 ⟨by rw [List.length_reverse, HR.out.1.1]; omega, by rw [List.length_reverse, HR.out.1.1]; omega, fun d hd => HR.out.1.2.1 d (List.mem_reverse.1 hd)⟩, by rw [List.reverse_reverse]; exact HR.out.1.2.2⟩, HR.out.2.1, HR.out.2.2⟩
        · have hpv : ((m + 1 : Nat) : Int) - 1 = (m : Int) := by omega
          rw [hpv]
          have hm0 : (0 : Int) ≤ (m : Int) := by omega
          have hms : (m : Int) < (s : Int) := by omega
          have hq : Int.tdiv (V : Int) 10 = ((V / 10 : Nat) : Int) := rfl
          have hr : Int.tmod (V : Int) 10 = ((V % 10 : Nat) : Int) := rfl
          have hw1 : IntKind.i64.wrap ((V / 10 : Nat) : Int) = ((V / 10 : Nat) : Int) := IntWalk.i64_in _ (by omega)
          have hw2 : IntKind.i64.wrap ((V % 10 : Nat) : Int) = ((V % 10 : Nat) : Int) := IntWalk.i64_in _ (by omega)
          obtain ⟨hst, hgr⟩ := ho.store m ((V % 10 : Nat) : Int)
          have hcm : wr.cell? ⟨w.heap.size, m, none⟩ = some (.int .i64 0) := by
            obtain ⟨g, e, _, _, hc, _⟩ := ho.at_ (by omega)
            obtain rfl : w.heap.size = g := by simpa using e
            exact hc m 0 (by rw [List.getElem?_append_left (by simp)]; simp)
          have hfm : wr.frozen? ⟨w.heap.size, m, none⟩ = false := by
            obtain ⟨g, e, _, _, _, hf⟩ := ho.at_ (by omega)
            obtain rfl : w.heap.size = g := by simpa using e
            exact hf m
          rw [set_mid] at hst
          have HR := Lib.hid (And.intro hL (And.intro hst (hb.setCell (p := ⟨w.heap.size, m, none⟩) (Nat.le_refl _) (.int .i64 ((V % 10 : Nat) : Int)))))
          have HVV := Lib.hid hV
          clear hL ho hb hV hst hgr
          go_wp2_with fail
          refine ⟨⟨m, k + 1, V / 10, L ++ [((v / 10 ^ k % 10 : Nat) : Int)], by omega, by go_num, rfl, by rw [HVV.out, Nat.div_div_eq_div_mul, Nat.pow_succ], HR.out.1.next, ?_, HR.out.2.2⟩, by simp [intOf]⟩
          rw [List.reverse_append, ← HVV.out]
          exact HR.out.2.1
theorem val_set : ∀ (S : List Int) (k : Nat) (u d : Int), S[k]? = some u → Fr.val (S.set k (u + d)) = Fr.val S + d * Fr.ten k
  | [], k, u, d, h => by simp at h
  | x :: S, 0, u, d, h => by
    have : x = u := by simpa using h
    subst this
    simp only [List.set_cons_zero, Fr.val, Fr.ten, Int.pow_zero, Int.mul_one]
    omega
  | x :: S, k + 1, u, d, h => by
    have ih := val_set S k u d (by simpa using h)
    simp only [List.set_cons_succ, Fr.val, ih, Fr.ten_succ]
    rw [Int.mul_add, Int.add_assoc, Int.mul_left_comm 10 d]
/-- the value of the first i digits at their places -/
def av (xs : List Int) (i : Nat) : Int := Fr.ten (xs.length - i) * Fr.val (xs.take i).reverse
theorem av_zero (xs : List Int) : av xs 0 = 0 := by simp [av, Fr.val]
theorem av_all {xs : List Int} {n : Nat} (h : xs.length = n) : av xs n = Fr.val xs.reverse := by
  subst h
  simp [av, Fr.ten]
theorem av_next {xs : List Int} {i : Nat} {x : Int} (h : xs[i]? = some x) : av xs (i + 1) = av xs i + x * Fr.ten (xs.length - 1 - i) := by
  have hlt := (List.getElem?_eq_some_iff.1 h).1
  unfold av
  rw [take_next h, List.reverse_append, List.reverse_singleton, List.singleton_append, Fr.val]
  have e1 : xs.length - (i + 1) = xs.length - 1 - i := by omega
  have e2 : xs.length - i = (xs.length - 1 - i) + 1 := by omega
  rw [e1, e2, Fr.ten_succ, Int.mul_add, Int.mul_comm (Fr.ten (xs.length - 1 - i)) x, Int.add_comm, ← Int.mul_assoc, Int.mul_comm (Fr.ten (xs.length - 1 - i)) 10]
/-- the sums of diagonals in the midst of the lattice -/
structure Diag (xs ys S : List Int) (i j : Nat) (x : Int) : Prop where
  len : S.length = xs.length + ys.length
  bd : ∀ u ∈ S, 0 ≤ u ∧ u ≤ 9 * ((i * 6 + j : Nat) : Int)
  val : Fr.val S = av xs i * Fr.val ys.reverse + x * Fr.ten (xs.length - 1 - i) * av ys j
theorem Diag.step {xs ys S : List Int} {i j k : Nat} {x y u u' : Int} (h : Diag xs ys S i j x) (hk : k = xs.length - 1 - i + (ys.length - 1 - j)) (hy : ys[j]? = some y) (x0 : 0 ≤ x) (x9 : x ≤ 9) (y0 : 0 ≤ y) (y9 : y ≤ 9)
    (hu : S[k]? = some u) (hu' : (S.set k (u + x * y % 10))[k + 1]? = some u') : Diag xs ys ((S.set k (u + x * y % 10)).set (k + 1) (u' + x * y / 10)) i (j + 1) x := by
  have hj := (List.getElem?_eq_some_iff.1 hy).1
  have hxy : 0 ≤ x * y ∧ x * y ≤ 81 := ⟨Int.mul_nonneg x0 y0, by have := Int.mul_le_mul x9 y9 y0 (by omega); omega⟩
  have hb := h.bd u (List.mem_of_getElem? hu)
  have hb1 : ∀ z ∈ S.set k (u + x * y % 10), 0 ≤ z ∧ z ≤ 9 * ((i * 6 + (j + 1) : Nat) : Int) := fun z hz => by
    rcases List.mem_or_eq_of_mem_set hz with hz | rfl
    · have := h.bd z hz; omega
    · omega
  have hu2 : 0 ≤ u' ∧ u' ≤ 9 * ((i * 6 + j : Nat) : Int) := by
    rw [List.getElem?_set_ne (by omega)] at hu'
    exact h.bd u' (List.mem_of_getElem? hu')
  refine ⟨by simp [h.len], fun z hz => ?_, ?_⟩
  · rcases List.mem_or_eq_of_mem_set hz with hz | rfl
    · exact hb1 z hz
    · omega
  · rw [val_set _ _ _ _ hu', val_set _ _ _ _ hu, h.val, av_next hy, hk, Fr.ten_succ]
    have e : Fr.ten (xs.length - 1 - i + (ys.length - 1 - j)) = Fr.ten (xs.length - 1 - i) * Fr.ten (ys.length - 1 - j) := by unfold Fr.ten; rw [Int.pow_add]
    rw [e]
    generalize Fr.ten (xs.length - 1 - i) = p
    generalize Fr.ten (ys.length - 1 - j) = q
    generalize av ys j = r
    have hd : x * y = 10 * (x * y / 10) + x * y % 10 := by omega
    have e2 : x * p * (r + y * q) = x * p * r + x * y * (p * q) := by
      rw [Int.mul_add]
      congr 1
      rw [Int.mul_assoc x p, Int.mul_assoc x y, ← Int.mul_assoc p y, Int.mul_comm p y, Int.mul_assoc y p]
    rw [e2]
    have e3 : x * y * (p * q) = 10 * (x * y / 10) * (p * q) + x * y % 10 * (p * q) := by rw [← Int.add_mul, ← hd]
    rw [e3]
    have e4 : x * y / 10 * (10 * (p * q)) = 10 * (x * y / 10) * (p * q) := by rw [← Int.mul_assoc, Int.mul_comm (x * y / 10) 10]
    rw [e4]
    omega
theorem Diag.row {xs ys S : List Int} {i : Nat} {x : Int} (h : Diag xs ys S i ys.length x) (hx : xs[i]? = some x) (hl : ys.length ≤ 6) (x' : Int) : Diag xs ys S (i + 1) 0 x' := by
  refine ⟨h.len, fun u hu => by have := h.bd u hu; omega, ?_⟩
  rw [h.val, av_all rfl, av_next hx, av_zero, Int.mul_zero, Int.add_zero, Int.add_mul]
set_option maxHeartbeats 4000000 in
theorem diagonals_any (xs ys : List Int) (hx : okN xs = true) (hy : okN ys = true) (w : World) :
    Calls Tryz.prog 237 #[.string (dstr xs), .string (dstr ys)] w fun e w' => ∃ A c S, e = .returned (.slice A (xs.length + ys.length) c) ∧ Own w' w.heap.size A (xs.length + ys.length) c S ∧ (∀ u ∈ S, 0 ≤ u ∧ u ≤ 9 * (36 : Int)) ∧ Fr.val S = Fr.val xs.reverse * Fr.val ys.reverse ∧ Below w.heap.size w w' := by
  obtain ⟨x1, x6, xd⟩ := (okN_iff xs).1 hx
  obtain ⟨y1, y6, yd⟩ := (okN_iff ys).1 hy
  obtain ⟨la, hla⟩ : ∃ n, xs.length = n := ⟨_, rfl⟩
  obtain ⟨lb, hlb⟩ : ∃ n, ys.length = n := ⟨_, rfl⟩
  have sx : (dstr xs).size = la := by rw [dstr_size, hla]
  have sy : (dstr ys).size = lb := by rw [dstr_size, hlb]
  have HDX := Lib.hid (show ∀ (k : Nat) (u : Int) (w : World), xs[k]? = some u → Calls Tryz.prog 239 #[.string (dstr xs), .int .i64 (k : Int)] w fun e w' => e = .returned (.int .i64 u) ∧ w = w' from fun k u w hu => digitAt_any xs k u w hu (xd u (List.mem_of_getElem? hu)).1 (xd u (List.mem_of_getElem? hu)).2 x6)
  have HDY := Lib.hid (show ∀ (k : Nat) (u : Int) (w : World), ys[k]? = some u → Calls Tryz.prog 239 #[.string (dstr ys), .int .i64 (k : Int)] w fun e w' => e = .returned (.int .i64 u) ∧ w = w' from fun k u w hu => digitAt_any ys k u w hu (yd u (List.mem_of_getElem? hu)).1 (yd u (List.mem_of_getElem? hu)).2 y6)
  rw [hla] at x1 x6 ⊢
  rw [hlb] at y1 y6 ⊢
  have HXD := Lib.hid (And.intro xd (And.intro yd (And.intro hla hlb)))
  generalize dstr xs = s at *
  generalize dstr ys = t at *
  have a1 : (1 : Int) ≤ (la : Int) := by omega
  have a6 : (la : Int) ≤ 6 := by omega
  have b1 : (1 : Int) ≤ (lb : Int) := by omega
  have b6 : (lb : Int) ≤ 6 := by omega
  have hsum : IntKind.i64.wrap ((la : Int) + (lb : Int)) = ((la + lb : Nat) : Int) := by rw [IntWalk.i64_in _ (by omega)]; push_cast; rfl
  clear hx hy xd yd hla hlb
  go_enter Tryz.func237, Tryz.ntmps237
  go_wp2_with (first
    | (refine wpList_make_ints rfl _ _ rfl (B := w.heap.size) (n := la + lb) rfl rfl (by omega) (Nat.le_refl _) ?_; intro w2 hown hg))
  have hbl := Below.grown (Below.refl w.heap.size w) hg (Nat.le_refl _) (by simp)
  have HO := Lib.hid (And.intro hown hbl)
  clear hown hg hbl
  go_loopw [6] (fun iv wr => ∃ (i : Nat) (S : List Int), i ≤ la ∧ iv = .int .i64 (i : Int) ∧ Diag xs ys S i 0 0 ∧ Own wr w.heap.size (some ⟨w.heap.size, 0, none⟩) (la + lb) (la + lb) S ∧ Below w.heap.size w wr) (fun iv _ => la - (intOf iv).toNat)
  case atStart =>
    refine ⟨0, List.replicate (la + lb) 0, by omega, rfl, ⟨by simp [HXD.out.2.2.1, HXD.out.2.2.2], fun u hu => ?_, ?_⟩, HO.out.1, HO.out.2⟩
    · have := List.eq_of_mem_replicate hu; omega
    · rw [av_zero, av_zero]
      have : ∀ n : Nat, Fr.val (List.replicate n 0) = 0 := fun n => by
        induction n with
        | zero => rfl
        | succ n ih => rw [List.replicate_succ, Fr.val, ih]; rfl
      rw [this]
      omega
  case round =>
    obtain ⟨i, S, hi, rfl, hd, ho, hb⟩ := hrel
    by_cases hlt : i < la
    · obtain ⟨x, hx⟩ : ∃ x, xs[i]? = some x := ⟨_, List.getElem?_eq_getElem (by rw [HXD.out.2.2.1]; exact hlt)⟩
      have hxb := HXD.out.1 x (List.mem_of_getElem? hx)
      have HX := Lib.hid hx
      have i0 : (0 : Int) ≤ (i : Int) := by omega
      have i1 : (i : Int) < (la : Int) := by omega
      have hd0 : Diag xs ys S i 0 x := ⟨hd.len, hd.bd, by rw [hd.val, av_zero]; omega⟩
      have HS := Lib.hid (And.intro hd0 (And.intro ho hb))
      clear hd hd0 ho hb hx
      go_wp2_with fail
      obtain ⟨wq, rfl⟩ : ∃ V, V = wr := ⟨_, rfl⟩
      go_loopw [7] (fun jv wr => ∃ (j : Nat) (S : List Int), j ≤ lb ∧ jv = .int .i64 (j : Int) ∧ Diag xs ys S i j x ∧ Own wr w.heap.size (some ⟨w.heap.size, 0, none⟩) (la + lb) (la + lb) S ∧ Below w.heap.size w wr) (fun jv _ => lb - (intOf jv).toNat)
      case atStart => exact ⟨0, S, by omega, rfl, HS.out.1, HS.out.2.1, HS.out.2.2⟩
      case round =>
        obtain ⟨j, S, hj, rfl, hd, ho, hb⟩ := hrel
        by_cases hjt : j < lb
        · obtain ⟨y, hy⟩ : ∃ y, ys[j]? = some y := ⟨_, List.getElem?_eq_getElem (by rw [HXD.out.2.2.2]; exact hjt)⟩
          have hyb := HXD.out.2.1 y (List.mem_of_getElem? hy)
          have hxy : 0 ≤ x * y ∧ x * y ≤ 81 := ⟨Int.mul_nonneg hxb.1 hyb.1, by have := Int.mul_le_mul hxb.2 hyb.2 hyb.1 (by omega); omega⟩
          obtain ⟨k, hk⟩ : ∃ k, k = la - 1 - i + (lb - 1 - j) := ⟨_, rfl⟩
          have hkI : (la : Int) - 1 - (i : Int) + (lb : Int) - 1 - (j : Int) = (k : Int) := by omega
          have hSl : S.length = la + lb := by rw [hd.len, HXD.out.2.2.1, HXD.out.2.2.2]
          obtain ⟨u, hu⟩ : ∃ u, S[k]? = some u := ⟨_, List.getElem?_eq_getElem (by omega)⟩
          obtain ⟨u', hu'⟩ : ∃ u', (S.set k (u + x * y % 10))[k + 1]? = some u' := ⟨_, List.getElem?_eq_getElem (by simp; omega)⟩
          have hub := hd.bd u (List.mem_of_getElem? hu)
          have hub' : 0 ≤ u' ∧ u' ≤ 9 * ((i * 6 + j : Nat) : Int) := by
            have h2 := hu'
            rw [List.getElem?_set_ne (by omega)] at h2
            exact hd.bd u' (List.mem_of_getElem? h2)
          have j0 : (0 : Int) ≤ (j : Int) := by omega
          have j1 : (j : Int) < (lb : Int) := by omega
          have hkl : k + 1 < la + lb := by omega
          have hklI : (k : Int) + 1 < ((la + lb : Nat) : Int) := by omega
          obtain ⟨ck, ck1, fk, fk1⟩ : wr.cell? ⟨w.heap.size, k, none⟩ = some (.int .i64 u) ∧ wr.cell? ⟨w.heap.size, k + 1, none⟩ = some (.int .i64 u') ∧ wr.frozen? ⟨w.heap.size, k, none⟩ = false ∧ wr.frozen? ⟨w.heap.size, k + 1, none⟩ = false := by
            obtain ⟨g, e, _, _, hc, hf⟩ := ho.at_ (by omega)
            obtain rfl : w.heap.size = g := by simpa using e
            have h2 := hu'
            rw [List.getElem?_set_ne (by omega)] at h2
            exact ⟨hc k u hu, hc (k + 1) u' h2, hf k, hf (k + 1)⟩
          obtain ⟨hs1, _⟩ := ho.store k (u + x * y % 10)
          obtain ⟨hs2, _⟩ := hs1.store (k + 1) (u' + x * y / 10)
          have hbf := (hb.setCell (p := ⟨w.heap.size, k, none⟩) (Nat.le_refl _) (.int .i64 (u + x * y % 10))).setCell (p := ⟨w.heap.size, k + 1, none⟩) (Nat.le_refl _) (.int .i64 (u' + x * y / 10))
          have hdn := hd.step (by rw [HXD.out.2.2.1, HXD.out.2.2.2]; exact hk) hy hxb.1 hxb.2 hyb.1 hyb.2 hu hu'
          have hr : Int.tmod (x * y) 10 = x * y % 10 := Int.tmod_eq_emod_of_nonneg hxy.1
          have hq : Int.tdiv (x * y) 10 = x * y / 10 := Int.tdiv_eq_ediv_of_nonneg hxy.1
          have r0 : 0 ≤ x * y % 10 ∧ x * y % 10 ≤ 9 := by omega
          have q0 : 0 ≤ x * y / 10 ∧ x * y / 10 ≤ 9 := by omega
          generalize x * y % 10 = r at *
          generalize x * y / 10 = q at *
          obtain ⟨c, hxyc⟩ : ∃ c, x * y = c := ⟨_, rfl⟩
          rw [hxyc] at hr hq hxy
          obtain ⟨c0, c9⟩ := hxy
          obtain ⟨r0, r9⟩ := r0
          obtain ⟨q0, q9⟩ := q0
          have v1 : IntKind.i64.wrap r = r := IntWalk.i64_in _ (by omega)
          have v2 : IntKind.i64.wrap q = q := IntWalk.i64_in _ (by omega)
          have v3 : IntKind.i64.wrap (u + r) = u + r := IntWalk.i64_in _ (by omega)
          have v4 : IntKind.i64.wrap (u' + q) = u' + q := IntWalk.i64_in _ (by omega)
          have v5 : IntKind.i64.wrap c = c := IntWalk.i64_in _ (by omega)
          have HY := Lib.hid hy
          have HFIN := Lib.hid (And.intro hdn (And.intro hs2 hbf))
          clear hd ho hb hy hu hu' hSl hk hs1 hs2 hbf hdn
          go_wp2_with (first
            | (go_at_call 239; refine (HDX.out i x _ HX.out).mono ?_; rintro e w5 ⟨rfl, rfl⟩)
            | (go_at_call 239; refine (HDY.out j y _ HY.out).mono ?_; rintro e w6 ⟨rfl, rfl⟩))
          exact ⟨⟨j + 1, _, by omega, by go_num, HFIN.out.1, HFIN.out.2.1, HFIN.out.2.2⟩, by simp [intOf]; omega⟩
        · obtain rfl : j = lb := by omega
          have HS2 := Lib.hid (And.intro hd (And.intro ho hb))
          clear hd ho hb
          go_wp2_with fail
          refine ⟨⟨i + 1, S, by omega, by go_num, ?_, HS2.out.2.1, HS2.out.2.2⟩, by simp [intOf]; omega⟩
          have h1 := HS2.out.1
          rw [← HXD.out.2.2.2] at h1
          exact h1.row HX.out (by rw [HXD.out.2.2.2]; exact y6) 0
    · obtain rfl : i = la := by omega
      have hval := hd.val
      rw [av_zero, av_all HXD.out.2.2.1, Int.mul_zero, Int.add_zero] at hval
      have hbd : ∀ u ∈ S, 0 ≤ u ∧ u ≤ 9 * (36 : Int) := fun u hu => by have := hd.bd u hu; omega
      have HR := Lib.hid (And.intro hbd (And.intro hval (And.intro ho hb)))
      clear hd ho hb hval hbd
      go_wp2_with fail
      go_ret
      exact ⟨_, _, S, rfl, HR.out.2.2.1, HR.out.1, HR.out.2.1, HR.out.2.2.2⟩
end Go.Proofs.YthdoofmfigemoaaGreatDoor
end

section
/-
  The digits that sums of places tell, and the product by a lattice.
-/
namespace Go.Proofs.YthdoofmfigemoaaGreatDoor
open Go.RowKit
set_option linter.unusedSimpArgs false
set_option maxRecDepth 100000

theorem val_snoc (L : List Int) (d : Int) : Fr.val (L ++ [d]) = Fr.val L + Fr.ten L.length * d := by
  rw [val_append]
  simp [Fr.val]
set_option maxHeartbeats 4000000 in
theorem carried_any (A : Option Addr) (n c : Nat) (S : List Int) (w : World) (hx : Ints w w.heap.size A n S) (h0 : ∀ u ∈ S, 0 ≤ u ∧ u ≤ 9 * (36 : Int)) (hn : n ≤ 12) (hv : Fr.val S < Fr.ten n) :
    Calls Tryz.prog 232 #[.slice A n c] w fun e w' => ∃ A' c' L, e = .returned (.slice A' n c') ∧ Own w' w.heap.size A' n c' L.reverse ∧ Fr.Digs L ∧ L.length = n ∧ Fr.val L = Fr.val S ∧ Below w.heap.size w w' := by
  have hl := hx.len
  have HX := Lib.hid hx
  have HS := Lib.hid (And.intro h0 (And.intro hl hv))
  have hnI : (n : Int) ≤ 12 := by omega
  have hn0 : (0 : Int) ≤ (n : Int) := by omega
  clear hx h0 hl hv
  go_enter Tryz.func232, Tryz.ntmps232
  go_wp2_with (first
    | (refine wpList_make_ints rfl _ _ rfl (B := w.heap.size) (n := n) rfl rfl (by omega) (Nat.le_refl _) ?_; intro w2 hown hg))
  have hbl := Below.grown (Below.refl w.heap.size w) hg (Nat.le_refl _) (by simp)
  have HO := Lib.hid (And.intro hown hbl)
  clear hown hg hbl
  go_loopw [4, 5, 6, 12] (fun cv _ _ kv wr => ∃ (k m : Nat) (r : Int) (L : List Int), k + m = n ∧ kv = .int .i64 (k : Int) ∧ cv = .int .i64 r ∧ 0 ≤ r ∧ r ≤ 1000 ∧ L.length = k ∧ Fr.Digs L ∧ Fr.val L + Fr.ten k * r = Fr.val (S.take k) ∧ Own wr w.heap.size (some ⟨w.heap.size, 0, none⟩) n n (List.replicate m 0 ++ L.reverse) ∧ Below w.heap.size w wr) (fun _ _ _ kv _ => n - (intOf kv).toNat)
  case atStart => exact ⟨0, n, 0, [], by omega, rfl, rfl, by omega, by omega, rfl, (fun d h => (by cases h)), (by simp [Fr.val, Fr.ten]), by simpa using HO.out.1, HO.out.2⟩
  case round =>
    obtain ⟨k, m, r, L, hkm, rfl, rfl, r0, r9, hL, hd, hval, ho, hb⟩ := hrel
    by_cases hlt : k < n
    · obtain ⟨m, rfl⟩ : ∃ q, m = q + 1 := ⟨m - 1, by omega⟩
      obtain ⟨b, off, u, rfl, hbk, hu, hcell⟩ := HX.out.at_ hlt
      have hub := HS.out.1 u (List.mem_of_getElem? hu)
      have c0 := (hb.cell (p := ⟨b, off + k, none⟩) hbk).trans hcell
      have k0 : (0 : Int) ≤ (k : Int) := by omega
      have k1 : (k : Int) < (n : Int) := by omega
      have hm : (n : Int) - 1 - (k : Int) = (m : Int) := by omega
      have m0 : (0 : Int) ≤ (m : Int) := by omega
      have m1 : (m : Int) < (n : Int) := by omega
      obtain ⟨t, ht⟩ : ∃ t, u + r = t := ⟨_, rfl⟩
      have t0 : 0 ≤ t := by omega
      have t9 : t ≤ 1324 := by omega
      have hr1 : Int.tmod t 10 = t % 10 := Int.tmod_eq_emod_of_nonneg t0
      have hq1 : Int.tdiv t 10 = t / 10 := Int.tdiv_eq_ediv_of_nonneg t0
      have p0 : 0 ≤ t % 10 := by omega
      have p9 : t % 10 ≤ 9 := by omega
      have q0 : 0 ≤ t / 10 := by omega
      have q9 : t / 10 ≤ 1000 := by omega
      obtain ⟨hs1, _⟩ := ho.store m (t % 10)
      rw [set_mid] at hs1
      obtain ⟨cm, fm⟩ : wr.cell? ⟨w.heap.size, m, none⟩ = some (.int .i64 0) ∧ wr.frozen? ⟨w.heap.size, m, none⟩ = false := by
        obtain ⟨g, e, _, _, hc, hf⟩ := ho.at_ (by omega)
        obtain rfl : w.heap.size = g := by simpa using e
        exact ⟨hc m 0 (by rw [List.getElem?_append_left (by simp)]; simp), hf m⟩
      have hbf := hb.setCell (p := ⟨w.heap.size, m, none⟩) (Nat.le_refl _) (.int .i64 (t % 10))
      have hvn : Fr.val (L ++ [t % 10]) + Fr.ten (k + 1) * (t / 10) = Fr.val (S.take (k + 1)) := by
        rw [val_snoc, take_next hu, val_snoc, List.length_take, hL, Fr.ten_succ, show min k S.length = k by rw [HS.out.2.1]; omega, ← hval]
        have e : t = t % 10 + 10 * (t / 10) := by omega
        have e2 : Fr.ten k * u = Fr.ten k * (t % 10) + 10 * Fr.ten k * (t / 10) - Fr.ten k * r := by
          rw [show u = t % 10 + 10 * (t / 10) - r by omega, Int.mul_sub, Int.mul_add, ← Int.mul_assoc, Int.mul_comm (Fr.ten k) 10]
        rw [e2]
        omega
      have hdn : Fr.Digs (L ++ [t % 10]) := fun d hd' => by
        rcases List.mem_append.1 hd' with hd' | hd'
        · exact hd d hd'
        · have := List.mem_singleton.1 hd'
          omega
      generalize t % 10 = p at *
      generalize t / 10 = q at *
      have v1 : IntKind.i64.wrap p = p := IntWalk.i64_in _ (by omega)
      have v2 : IntKind.i64.wrap q = q := IntWalk.i64_in _ (by omega)
      have v3 : IntKind.i64.wrap (u + r) = t := by rw [ht]; exact IntWalk.i64_in _ (by omega)
      have HFIN := Lib.hid (And.intro hs1 (And.intro hbf (And.intro hvn (And.intro hdn hL))))
      have HKM := Lib.hid hkm
      clear hkm hL hd hval ho hb hu hcell hs1 hbf hvn hdn
      go_wp2_with fail
      exact ⟨⟨k + 1, m, q, L ++ [p], by have := HKM.out; omega, by go_num, rfl, by omega, by omega, by simp [HFIN.out.2.2.2.2], HFIN.out.2.2.2.1, HFIN.out.2.2.1, by rw [List.reverse_append]; exact HFIN.out.1, HFIN.out.2.1⟩, by simp [intOf]; omega⟩
    · obtain rfl : k = n := by omega
      obtain rfl : m = 0 := by omega
      rw [List.take_of_length_le (by rw [HS.out.2.1]; omega)] at hval
      have hr : r = 0 := by
        have h1 := HS.out.2.2
        have h2 := (Fr.val_range L hd).1
        have h3 := Fr.ten_pos k
        rcases Int.lt_or_le r 1 with h | h
        · omega
        · have := Int.mul_le_mul_of_nonneg_left h (by omega : 0 ≤ Fr.ten k)
          omega
      subst hr
      rw [Int.mul_zero, Int.add_zero] at hval
      rw [List.replicate_zero, List.nil_append] at ho
      have HR := Lib.hid (And.intro hL (And.intro hd (And.intro hval (And.intro ho hb))))
      clear hL hd hval ho hb
      go_wp2_with fail
      go_ret
      exact ⟨_, _, L, rfl, HR.out.2.2.2.1, HR.out.2.1, HR.out.1, HR.out.2.2.1, HR.out.2.2.2.2⟩
theorem val_lt {xs : List Int} (h : okN xs = true) : 0 ≤ Fr.val xs.reverse ∧ Fr.val xs.reverse < Fr.ten xs.length := by
  have hd := ((okN_iff xs).1 h).2.2
  have := Fr.val_range xs.reverse (fun d hd' => hd d (List.mem_reverse.1 hd'))
  rwa [List.length_reverse] at this
theorem prod_lt {a b p q : Int} (a0 : 0 ≤ a) (ap : a < p) (b0 : 0 ≤ b) (bq : b < q) : a * b < p * q := by
  have h1 : a * b ≤ a * (q - 1) := Int.mul_le_mul_of_nonneg_left (by omega) a0
  have h2 : a * (q - 1) ≤ (p - 1) * (q - 1) := Int.mul_le_mul_of_nonneg_right (by omega) (by omega)
  have h3 : (p - 1) * (q - 1) = p * q - p - q + 1 := by
    rw [Int.sub_mul, Int.mul_sub, Int.one_mul, Int.mul_one]
    omega
  omega
set_option maxHeartbeats 4000000 in
theorem LatticeSums_yes (A A' : Option Addr) (n c n' c' : Nat) (xs ys : List Int) (w : World) (hx : Ints w w.heap.size A n xs) (hy : Ints w w.heap.size A' n' ys) (h1 : okN xs = true) (h2 : okN ys = true) :
    Calls Tryz.prog 231 #[.slice A n c, .slice A' n' c'] w fun e w' => ∃ B cc S, e = .returned (.tuple #[.slice B (xs.length + ys.length) cc, .bool true]) ∧ Own w' w.heap.size B (xs.length + ys.length) cc S ∧ (∀ u ∈ S, 0 ≤ u ∧ u ≤ 9 * (36 : Int)) ∧ Fr.val S = Fr.val xs.reverse * Fr.val ys.reverse ∧ Below w.heap.size w w' := by
  have HX := Lib.hid (And.intro hx (And.intro hy (And.intro h1 h2)))
  clear hx hy h1 h2
  go_enter Tryz.func231, Tryz.ntmps231
  go_wp2_with fail
  refine (digitsOf_yes A n c xs w HX.out.1 HX.out.2.2.1).mono ?_
  rintro e w1 ⟨rfl, hb1⟩
  have HB1 := Lib.hid hb1
  clear hb1
  go_wp2_with fail
  refine (digitsOf_yes A' n' c' ys w1 (HX.out.2.1.next HB1.out) HX.out.2.2.2).mono ?_
  rintro e w2 ⟨rfl, hb2⟩
  have HB2 := Lib.hid (HB1.out.trans (hb2.mono HB1.out.size))
  clear hb2
  go_wp2_with fail
  refine (diagonals_any xs ys HX.out.2.2.1 HX.out.2.2.2 w2).mono ?_
  rintro e w3 ⟨B, cc, S, rfl, ho, hbd, hval, hb3⟩
  have HR := Lib.hid (And.intro (ho.mono HB2.out.size) (And.intro hbd (And.intro hval (HB2.out.trans (hb3.mono HB2.out.size)))))
  clear ho hbd hval hb3
  go_wp2_with fail
  go_ret2
  exact ⟨_, _, S, rfl, HR.out.1, HR.out.2.1, HR.out.2.2.1, HR.out.2.2.2⟩
set_option maxHeartbeats 4000000 in
theorem LatticeDigits_yes (A A' : Option Addr) (n c n' c' : Nat) (xs ys : List Int) (w : World) (hx : Ints w w.heap.size A n xs) (hy : Ints w w.heap.size A' n' ys) (h1 : okN xs = true) (h2 : okN ys = true) :
    Calls Tryz.prog 222 #[.slice A n c, .slice A' n' c'] w fun e w' => ∃ B cc L, e = .returned (.tuple #[.slice B (xs.length + ys.length) cc, .bool true]) ∧ Own w' w.heap.size B (xs.length + ys.length) cc L.reverse ∧ Fr.Digs L ∧ L.length = xs.length + ys.length ∧ Fr.val L = Fr.val xs.reverse * Fr.val ys.reverse ∧ Below w.heap.size w w' := by
  have hl1 := (okN_iff xs).1 h1
  have hl2 := (okN_iff ys).1 h2
  have hlt : Fr.val xs.reverse * Fr.val ys.reverse < Fr.ten (xs.length + ys.length) := by
    have e : Fr.ten (xs.length + ys.length) = Fr.ten xs.length * Fr.ten ys.length := by unfold Fr.ten; rw [Int.pow_add]
    rw [e]
    exact prod_lt (val_lt h1).1 (val_lt h1).2 (val_lt h2).1 (val_lt h2).2
  have HX := Lib.hid (And.intro hx (And.intro hy (And.intro h1 h2)))
  have HLT := Lib.hid (And.intro hlt (And.intro hl1 hl2))
  clear hx hy h1 h2 hlt hl1 hl2
  go_enter Tryz.func222, Tryz.ntmps222
  go_wp2_with fail
  refine (LatticeSums_yes A A' n c n' c' xs ys w HX.out.1 HX.out.2.1 HX.out.2.2.1 HX.out.2.2.2).mono ?_
  rintro e w1 ⟨B, cc, S, rfl, ho, hbd, hval, hb1⟩
  have HI := Lib.hid ho.ints
  have HV := Lib.hid (And.intro hbd hval)
  have HB1 := Lib.hid hb1
  clear ho hbd hval hb1
  go_wp2_with fail
  refine (carried_any B (xs.length + ys.length) cc S w1 HI.out HV.out.1 (by have := HLT.out.2; omega) (by rw [HV.out.2]; exact HLT.out.1)).mono ?_
  rintro e w2 ⟨B2, c2, L, rfl, ho, hd, hl, hval, hb2⟩
  have HR := Lib.hid (And.intro (ho.mono HB1.out.size) (And.intro hd (And.intro hl (And.intro (hval.trans HV.out.2) (HB1.out.trans (hb2.mono HB1.out.size))))))
  clear ho hd hl hval hb2
  go_wp2_with fail
  go_ret2
  exact ⟨_, _, L, rfl, HR.out.1, HR.out.2.1, HR.out.2.2.1, HR.out.2.2.2.1, HR.out.2.2.2.2⟩
theorem horner_snoc (l : List Int) (d : Int) : Gl.horner 0 (l ++ [d]) = 10 * Gl.horner 0 l + d := by simp [Gl.horner, List.foldl_append]
theorem horner_bd : ∀ (l : List Int), (∀ d ∈ l, 0 ≤ d ∧ d ≤ 9) → 0 ≤ Gl.horner 0 l ∧ Gl.horner 0 l < Fr.ten l.length := fun l h => by
  have e := horner_rev l.reverse
  rw [List.reverse_reverse] at e
  rw [e]
  have := Fr.val_range l.reverse (fun d hd => h d (List.mem_reverse.1 hd))
  rwa [List.length_reverse] at this
theorem ten_mono {a b : Nat} (h : a ≤ b) : Fr.ten a ≤ Fr.ten b := by
  obtain ⟨k, rfl⟩ := Nat.exists_eq_add_of_le h
  have e : Fr.ten (a + k) = Fr.ten a * Fr.ten k := by unfold Fr.ten; rw [Int.pow_add]
  have h1 := Fr.ten_pos a
  have h2 := Fr.ten_pos k
  have := Int.mul_le_mul_of_nonneg_left (show (1 : Int) ≤ Fr.ten k by omega) (show 0 ≤ Fr.ten a by omega)
  omega
set_option maxHeartbeats 4000000 in
theorem LatticeTimes_yes (A A' : Option Addr) (n c n' c' : Nat) (xs ys : List Int) (w : World) (hx : Ints w w.heap.size A n xs) (hy : Ints w w.heap.size A' n' ys) (h1 : okN xs = true) (h2 : okN ys = true) :
    Calls Tryz.prog 200 #[.slice A n c, .slice A' n' c'] w fun e w' => e = .returned (.int .i64 (Fr.val xs.reverse * Fr.val ys.reverse)) ∧ Below w.heap.size w w' := by
  have hl1 := (okN_iff xs).1 h1
  have hl2 := (okN_iff ys).1 h2
  have HX := Lib.hid (And.intro hx (And.intro hy (And.intro h1 h2)))
  have hn12 : xs.length + ys.length ≤ 12 := by omega
  clear hx hy h1 h2 hl1 hl2
  go_enter Tryz.func200, Tryz.ntmps200
  go_wp2_with fail
  refine (LatticeDigits_yes A A' n c n' c' xs ys w HX.out.1 HX.out.2.1 HX.out.2.2.1 HX.out.2.2.2).mono ?_
  rintro e w1 ⟨B, cc, L, rfl, ho, hd, hl, hval, hb1⟩
  obtain ⟨q, hq⟩ : ∃ q, xs.length + ys.length = q := ⟨_, rfl⟩
  rw [hq] at ho hl hn12 ⊢
  have HI := Lib.hid ho.ints
  have HB1 := Lib.hid hb1
  have HV := Lib.hid (And.intro hd (And.intro hl hval))
  clear ho hd hl hval hb1 hq
  have q12 : (q : Int) ≤ 12 := by omega
  have q0 : (0 : Int) ≤ (q : Int) := by omega
  go_wp2_with fail
  go_loopw [7, 9, 20] (fun vv _ kv wr => ∃ (k : Nat), k ≤ q ∧ kv = .int .i64 (k : Int) ∧ vv = .int .i64 (Gl.horner 0 (L.reverse.take k)) ∧ w1 = wr) (fun _ _ kv _ => q - (intOf kv).toNat)
  case atStart => exact ⟨0, by omega, rfl, rfl, rfl⟩
  case round =>
    obtain ⟨k, hk, rfl, rfl, rfl⟩ := hrel
    have hdr : ∀ d ∈ L.reverse, 0 ≤ d ∧ d ≤ 9 := fun d h => HV.out.1 d (List.mem_reverse.1 h)
    by_cases hlt : k < q
    · obtain ⟨b, off, u, rfl, hbk, hu, c0⟩ := HI.out.at_ hlt
      have hub := hdr u (List.mem_of_getElem? hu)
      have hh := horner_bd (L.reverse.take k) (fun d h => hdr d (List.mem_of_mem_take h))
      have ht := ten_mono (show (L.reverse.take k).length ≤ 12 by rw [List.length_take]; omega)
      have e12 : Fr.ten 12 = 1000000000000 := by decide
      rw [e12] at ht
      have k0 : (0 : Int) ≤ (k : Int) := by omega
      have k1 : (k : Int) < (q : Int) := by omega
      have hn := horner_snoc (L.reverse.take k) u
      rw [← take_next hu] at hn
      obtain ⟨H, hH⟩ : ∃ H, Gl.horner 0 (L.reverse.take k) = H := ⟨_, rfl⟩
      rw [hH] at hh hn ⊢
      have H0 : 0 ≤ H := hh.1
      have H9 : H ≤ 1000000000000 := by omega
      have v1 : IntKind.i64.wrap (H * 10) = H * 10 := IntWalk.i64_in _ (by omega)
      have v2 : IntKind.i64.wrap (H * 10 + u) = H * 10 + u := IntWalk.i64_in _ (by omega)
      have HN := Lib.hid hn
      clear hh ht hn hH hdr hu
      go_wp2_with fail
      exact ⟨⟨k + 1, by omega, by go_num, by rw [HN.out]; congr 1; omega, trivial⟩, by simp [intOf]; omega⟩
    · obtain rfl : k = q := by omega
      have e : Gl.horner 0 (L.reverse.take k) = Fr.val xs.reverse * Fr.val ys.reverse := by
        rw [List.take_of_length_le (by rw [List.length_reverse, HV.out.2.1]; omega), horner_rev, HV.out.2.2]
      rw [e]
      clear e hdr
      go_wp2_with fail
      go_ret
      exact ⟨rfl, HB1.out⟩
end Go.Proofs.YthdoofmfigemoaaGreatDoor
end

section
/-
  A code is opened: a reader in a new block.
-/
namespace Go.Proofs.YthdoofmfigemoaaGreatDoor
open Go.RowKit

/-- a slice of bytes that can be read; its cells lie below block B -/
def Bytes (w : World) (B : Nat) (A : Option Addr) (n c : Nat) : Prop :=
  n ≤ c ∧ (0 < n → ∃ b off, A = some ⟨b, off, none⟩ ∧ b < B ∧ ∀ j, j < n → ∃ u : Int, 0 ≤ u ∧ u ≤ 255 ∧ w.cell? ⟨b, off + j, none⟩ = some (.int .u8 u))
theorem Bytes.of_row {w : World} {a : Option Addr} {len cap : Nat} {zs : List Int} (h : IsRow .u8 w a len cap zs) : Bytes w w.heap.size a len cap := by
  rcases h with ⟨rfl, rfl, rfl, rfl⟩ | ⟨x, rfl, h1, h2, h3, h4, h5⟩
  · exact ⟨by omega, fun h => absurd h (by omega)⟩
  · refine ⟨h1, fun hn => ?_⟩
    obtain ⟨b, off, spot⟩ := x
    have h0 := h4 0 (by omega)
    have hs : spot = none := by simpa [Addr.add] using World.cell?_spot h0
    subst hs
    refine ⟨b, off, rfl, by simpa [Addr.add] using World.block_lt_of_cell? w _ h0, fun j hj => ?_⟩
    have := h4 j (by omega)
    rw [show (⟨b, off, none⟩ : Addr).add j = ⟨b, off + j, none⟩ from by unfold Addr.add; split <;> simp_all] at this
    have hm := h5 (zs.getD j 0) (by rw [List.getD_eq_getElem?_getD, List.getElem?_eq_getElem (by omega)]; exact List.getElem_mem _)
    generalize zs.getD j 0 = u at hm this
    have m0 : IntKind.u8.min = 0 := rfl
    have m1 : IntKind.u8.max = 255 := rfl
    simp [Lit.wf, m0, m1] at hm
    exact ⟨u, by omega, by omega, this⟩
theorem Bytes.next {w w' : World} {A : Option Addr} {n c : Nat} (h : Bytes w w.heap.size A n c) (hb : Below w.heap.size w w') : Bytes w' w'.heap.size A n c := by
  refine ⟨h.1, fun hn => ?_⟩
  obtain ⟨b, off, e, hlt, hc⟩ := h.2 hn
  have := hb.size
  refine ⟨b, off, e, by omega, fun j hj => ?_⟩
  obtain ⟨u, h0, h1, hu⟩ := hc j hj
  exact ⟨u, h0, h1, (hb.cell (p := ⟨b, off + j, none⟩) hlt).trans hu⟩

set_option maxHeartbeats 1000000 in
theorem l6Open_any (A : Option Addr) (n c : Nat) (w : World) (h : Bytes w w.heap.size A n c) (hn : n ≤ 1048576) :
    Calls Tryz.prog 40 #[.slice A n c] w fun e w' => e = .returned (.pointer (some ⟨w.heap.size, 0, none⟩)) ∧ Rd w' w.heap.size w.heap.size 0 ∧ Below w.heap.size w w' := by
  have hc := h.1
  have H := Lib.hid h
  clear h
  have fin : ∀ (m : Nat) (A' : Option Addr) (c' : Nat), m ≤ 2000 → m ≤ n → A' = A → Rd (w.alloc (.cells #[.slice A' m c', .int .i64 0] 133)) w.heap.size w.heap.size 0 ∧ Below w.heap.size w (w.alloc (.cells #[.slice A' m c', .int .i64 0] 133)) := by
    intro m A' c' hm hmn hA
    subst hA
    refine ⟨⟨_, m, c', heap_alloc_new w _, hm, Nat.le_refl _, fun h0 => ?_⟩, (Below.refl _ _).alloc (Nat.le_refl _) _⟩
    obtain ⟨b, off, e, hlt, hc⟩ := H.out.2 (by omega)
    refine ⟨b, off, e, hlt, fun j hj => ?_⟩
    obtain ⟨u, h0, h1, hu⟩ := hc j (by omega)
    exact ⟨u, h0, h1, (World.cell?_alloc_lt w _ _ hlt).trans hu⟩
  have FIN := Lib.hid fin
  clear fin
  by_cases hbig : 2000 < n
  · obtain ⟨b, off, rfl, hlt, hcc⟩ := H.out.2 (by omega)
    clear hcc
    go_enter Tryz.func40, Tryz.ntmps40
    go_wp2
    go_ret
    exact ⟨rfl, FIN.out _ _ _ (by omega) (by omega) rfl⟩
  · go_enter Tryz.func40, Tryz.ntmps40
    go_wp2
    go_ret
    exact ⟨rfl, FIN.out _ _ _ (by omega) (by omega) rfl⟩
end Go.Proofs.YthdoofmfigemoaaGreatDoor
end

section
/-
  The draws of roots, long divisions and chains: whatever the code, they come back with numbers in their ranges and lists that can be read.
-/
namespace Go.Proofs.YthdoofmfigemoaaGreatDoor
open Go.RowKit

set_option maxRecDepth 100000 in
set_option maxHeartbeats 1000000 in
theorem l92Root_any (w : World) (B g p : Nat) (h : Rd w B g p) (hp : p ≤ 900000) :
    Calls Tryz.prog 70 #[.pointer (some ⟨g, 0, none⟩)] w (DInt (-1) 1000000001 w B g p) := by
  have hlt := h.lt
  have hbs := h.base
  have HR := Lib.hid h
  have HG := Lib.hid (World.grownBy.refl w (some g))
  have hsz0 : w.heap.size ≤ w.heap.size := Nat.le_refl _
  clear h
  go_enter Tryz.func70, Tryz.ntmps70
  go_wp2_with fail
  refine (pick_any _ _ _ _ _ HR.out (by omega)).mono ?_
  rintro e w1 ⟨v1, rfl, hv1, hrd1, hg1⟩
  obtain ⟨hva1, hvb1⟩ := hv1 (by omega)
  clear hv1
  have hsz1 := hg1.size
  replace HG := Lib.hid (HG.out.trans hg1)
  replace HR := Lib.hid hrd1
  clear hrd1 hg1
  by_cases e0 : v1 = 0
  · subst e0
    go_wp2_with fail
    refine (pick_any _ _ _ _ _ (HR.out.alloc _) (by omega)).mono ?_
    rintro e w2 ⟨v2, rfl, hv2, hrd2, hg2⟩
    obtain ⟨hva2, hvb2⟩ := hv2 (by omega)
    obtain ⟨j2, u2, rfl, hj2, hu2, hc2⟩ := lit_after (n := 4) (us := [-1, 0, 1000000000, 1000000001]) hg2 (by omega) rfl (by omega) hva2 hvb2
    obtain ⟨hua2, hub2⟩ : -1 ≤ u2 ∧ u2 ≤ 1000000001 := by simp at hu2; omega
    clear hv2 hu2
    have hsz2 := hg2.size
    simp only [World.size_alloc] at hsz2
    replace HG := Lib.hid ((HG.out.trans (World.grownBy_alloc _ _ _)).trans hg2)
    replace HR := Lib.hid hrd2
    clear hrd2 hg2
    go_wp2
    go_ret
    exact ⟨_, _, rfl, by omega, by omega, HR.out, by omega, HG.out⟩
  · have f0 : (v1 == 0) = false := by simpa using e0
    by_cases e1 : v1 = 1
    · subst e1
      go_wp2_with fail
      refine (pick_any _ _ _ _ _ HR.out (by omega)).mono ?_
      rintro e w2 ⟨v2, rfl, hv2, hrd2, hg2⟩
      obtain ⟨hva2, hvb2⟩ := hv2 (by omega)
      clear hv2
      have hsz2 := hg2.size
      replace HG := Lib.hid (HG.out.trans hg2)
      replace HR := Lib.hid hrd2
      clear hrd2 hg2
      obtain ⟨hm0, hm1⟩ := sq_in hva2 (by omega : v2 ≤ 2999)
      go_wp2_with fail
      refine (pick_any _ _ _ _ _ HR.out (by omega)).mono ?_
      rintro e w3 ⟨v3, rfl, hv3, hrd3, hg3⟩
      obtain ⟨hva3, hvb3⟩ := hv3 (by omega)
      clear hv3
      have hsz3 := hg3.size
      replace HG := Lib.hid (HG.out.trans hg3)
      replace HR := Lib.hid hrd3
      clear hrd3 hg3
      go_wp2
      go_ret
      exact ⟨_, _, rfl, by omega, by omega, HR.out, by omega, HG.out⟩
    · have f1 : (v1 == 1) = false := by simpa using e1
      by_cases e2 : v1 = 2
      · subst e2
        go_wp2_with fail
        refine (pick_any _ _ _ _ _ HR.out (by omega)).mono ?_
        rintro e w2 ⟨v2, rfl, hv2, hrd2, hg2⟩
        obtain ⟨hva2, hvb2⟩ := hv2 (by omega)
        clear hv2
        have hsz2 := hg2.size
        replace HG := Lib.hid (HG.out.trans hg2)
        replace HR := Lib.hid hrd2
        clear hrd2 hg2
        obtain ⟨hm0, hm1⟩ := sq_in hva2 (by omega : v2 ≤ 2999)
        go_wp2_with fail
        refine (pick_any _ _ _ _ _ HR.out (by omega)).mono ?_
        rintro e w3 ⟨v3, rfl, hv3, hrd3, hg3⟩
        obtain ⟨hva3, hvb3⟩ := hv3 (by omega)
        clear hv3
        have hsz3 := hg3.size
        replace HG := Lib.hid (HG.out.trans hg3)
        replace HR := Lib.hid hrd3
        clear hrd3 hg3
        go_wp2
        go_ret
        exact ⟨_, _, rfl, by omega, by omega, HR.out, by omega, HG.out⟩
      · have f2 : (v1 == 2) = false := by simpa using e2
        go_wp2_with fail
        refine (pick_any _ _ _ _ _ HR.out (by omega)).mono ?_
        rintro e w2 ⟨v2, rfl, hv2, hrd2, hg2⟩
        obtain ⟨hva2, hvb2⟩ := hv2 (by omega)
        clear hv2
        have hsz2 := hg2.size
        replace HG := Lib.hid (HG.out.trans hg2)
        replace HR := Lib.hid hrd2
        clear hrd2 hg2
        go_wp2_with fail
        refine (pick_any _ _ _ _ _ HR.out (by omega)).mono ?_
        rintro e w3 ⟨v3, rfl, hv3, hrd3, hg3⟩
        obtain ⟨hva3, hvb3⟩ := hv3 (by omega)
        clear hv3
        have hsz3 := hg3.size
        replace HG := Lib.hid (HG.out.trans hg3)
        replace HR := Lib.hid hrd3
        clear hrd3 hg3
        obtain ⟨hm0, hm1⟩ := mul_in hva2 (by omega : v2 ≤ 999) (by omega : 0 ≤ 1 + v3) (by omega : 1 + v3 ≤ 200)
        go_wp2
        go_ret
        exact ⟨_, _, rfl, by omega, by omega, HR.out, by omega, HG.out⟩

end Go.Proofs.YthdoofmfigemoaaGreatDoor
end

section
/-
  Roots: the pairs of digits, the digits of the root, the root by halving: what the program's and the reference's functions give back.
-/
namespace Go.Proofs.YthdoofmfigemoaaGreatDoor
open Go.RowKit

set_option maxHeartbeats 400000 in
theorem hasRoot_any (n : Int) (w : World) : Calls Tryz.prog 71 #[.int .i64 n] w fun e w' => e = .returned (.bool (decide (0 ≤ n) && decide (n ≤ 1000000000))) ∧ w = w' := by
  by_cases h1 : 0 ≤ n <;> by_cases h2 : n ≤ 1000000000
  all_goals
    go_enter Tryz.func71, Tryz.ntmps71
    go_wp2
    go_ret
    exact ⟨ret_bool (by simp [h1, h2]), rfl⟩
theorem hasRoot_is {n : Int} {r : Bool} (h : (decide (0 ≤ n) && decide (n ≤ 1000000000)) = r) (w : World) : Calls Tryz.prog 71 #[.int .i64 n] w fun e w' => e = .returned (.bool r) ∧ w = w' := by
  rw [← h]; exact hasRoot_any n w
theorem hasRoot_yes {n : Nat} (h : n ≤ 1000000000) (w : World) : Calls Tryz.prog 71 #[.int .i64 (n : Int)] w fun e w' => e = .returned (.bool true) ∧ w = w' :=
  hasRoot_is (by simp; omega) w
theorem hasRoot_no {n : Int} (h : n < 0 ∨ 1000000000 < n) (w : World) : Calls Tryz.prog 71 #[.int .i64 n] w fun e w' => e = .returned (.bool false) ∧ w = w' :=
  hasRoot_is (by rcases h with h | h <;> simp <;> omega) w

theorem pr_next {k : Nat} {ys zs : List Int} (hk : 0 < k) (h : Gl.pr k ++ ys = zs) : Gl.pr (k / 100) ++ ([(k : Int) % 100] ++ ys) = zs := by
  rw [← h, Gl.pr_pos (show k ≠ 0 by omega)]
  simp
theorem pr_len {k n j : Nat} {ys : List Int} (hn : n ≤ 1000000000) (h : Gl.pr k ++ ys = Gl.prs n) (hl : ys.length = j) : j ≤ 5 := by
  have := Gl.prs_length hn
  rw [← h, List.length_append] at this
  omega
theorem prs_start (n : Nat) : Gl.pr (n / 100) ++ [(n : Int) % 100] = Gl.prs n := by simp [Gl.prs]

set_option maxHeartbeats 1000000 in
theorem pairsOf_any (n : Nat) (w : World) (hn : n ≤ 1000000000) :
    Calls Tryz.prog 110 #[.int .i64 (n : Int)] w fun e w' => (∃ A c, e = .returned (.slice A (Gl.prs n).length c) ∧ Own w' w.heap.size A (Gl.prs n).length c (Gl.prs n)) ∧ Below w.heap.size w w' := by
  go_enter Tryz.func110, Tryz.ntmps110
  go_wp2
  go_loopw [0, 3] (fun m v wr => ∃ (k : Nat) (A : Option Addr) (j c : Nat) (ys : List Int), m = .int .i64 (k : Int) ∧ v = .slice A j c ∧ k ≤ 1000000000 ∧ Own wr w.heap.size A j c ys ∧ Gl.pr k ++ ys = Gl.prs n ∧ Below w.heap.size w wr) (fun m _ _ => (intOf m).toNat)
  case atStart => exact ⟨n / 100, _, 1, 1, [(n : Int) % 100], by go_num, rfl, by omega, own_lit w [(n : Int) % 100] w.heap.size 1 rfl (by omega) (Nat.le_refl _), prs_start n, (Below.refl _ _).alloc (Nat.le_refl _) _⟩
  case round =>
    obtain ⟨k, A, j, c, ys, rfl, rfl, hk, hown, heq, hb⟩ := hrel
    have hj := pr_len hn heq hown.len
    have hsz := hb.size
    have HO := Lib.hid hown
    have HEQ := Lib.hid heq
    have HB := Lib.hid hb
    clear hown heq hb
    by_cases h0 : 0 < k
    · have HLIT : Hid (Own (wr.alloc (.cells #[.int .i64 ((k : Int) % 100)] 3)) w.heap.size (some ⟨wr.heap.size, 0, none⟩) 1 1 [(k : Int) % 100]) := Lib.hid (own_lit wr [(k : Int) % 100] w.heap.size 1 rfl (by omega) hsz)
      go_wp2_with (at_builtin; refine wpList_app_ints rfl _ _ rfl rfl HLIT.out rfl (HO.out.ints.alloc (Nat.le_refl _) _) (by omega) (by simp; omega) ?_; intro A1 c1 w1 hown1 hg1)
      have HB1 := Lib.hid (below_step (HB.out.alloc hsz _) hg1 HLIT.out (by simp; omega))
      go_roundw
      case rel => exact ⟨k / 100, _, _, _, _, by go_num, rfl, by omega, hown1, pr_next h0 HEQ.out, HB1.out⟩
      case measure => simp [intOf]; omega
    · obtain rfl : k = 0 := by omega
      obtain rfl : ys = Gl.prs n := by simpa [Gl.pr_zero] using HEQ.out
      obtain rfl : (Gl.prs n).length = j := HO.out.len
      go_wp2
      go_ret
      exact ⟨⟨_, _, rfl, HO.out⟩, HB.out⟩

/-- the state behind k pairs, and one pair more -/
theorem r_step {n k : Nat} {u : Int} (hn : n ≤ 1000000000) (hu : (Gl.prs n)[k]? = some u) : 0 ≤ u ∧ u ≤ 99 ∧
    (0 ≤ (Gl.rAll ((Gl.prs n).take k)).2.1 ∧ (Gl.rAll ((Gl.prs n).take k)).2.1 ≤ 40000 ∧ 0 ≤ (Gl.rAll ((Gl.prs n).take k)).2.2 ∧ (Gl.rAll ((Gl.prs n).take k)).2.2 ≤ 80000) ∧
    (Gl.rAll ((Gl.prs n).take (k + 1))) = Gl.rStep (Gl.rAll ((Gl.prs n).take k)) u := by
  have h1 := Gl.prs_range n u (List.mem_of_getElem? hu)
  exact ⟨h1.1, h1.2, Gl.rAll_bound hn k, by rw [Gl.take_next hu, Gl.rAll_snoc]⟩
theorem dg_in {r : Int} {j : Nat} (h0 : 0 ≤ r) (h1 : r ≤ 40000) (hj : j ≤ 9) : 0 ≤ (20 * r + (j : Int)) * (j : Int) ∧ (20 * r + (j : Int)) * (j : Int) ≤ 800009 * 9 := mul_in (by omega) (by omega) (by omega) (by omega)
theorem st_len {n k : Nat} (h : k ≤ (Gl.prs n).length) : (Gl.rAll ((Gl.prs n).take k)).1.length = k := by
  have := (Gl.rInv_all (Gl.prs n) (Gl.prs_range n) k).len
  rw [this, List.length_take]; omega

/-- what holds at the head of the rounds: k pairs are done -/
structure AtPair (n k : Nat) (ds : List Int) (r s : Int) : Prop where
  eq : Gl.rAll ((Gl.prs n).take k) = (ds, r, s)
theorem AtPair.start (n : Nat) : AtPair n 0 [] 0 0 := ⟨rfl⟩
theorem AtPair.bound {n k : Nat} {ds : List Int} {r s : Int} (h : AtPair n k ds r s) (hn : n ≤ 1000000000) : 0 ≤ r ∧ r ≤ 40000 ∧ 0 ≤ s ∧ s ≤ 80000 := by
  have := Gl.rAll_bound hn k
  rw [h.eq] at this
  exact this
theorem AtPair.next {n k j : Nat} {ds : List Int} {r s u : Int} (h : AtPair n k ds r s) (hn : n ≤ 1000000000) (hu : (Gl.prs n)[k]? = some u) (hj : Gl.dgF r (s * 100 + u) j = Gl.dgF r (s * 100 + u) 9) (ht : ¬ s * 100 + u < (20 * r + (j : Int)) * (j : Int)) :
    AtPair n (k + 1) (ds ++ [(j : Int)]) (r * 10 + (j : Int)) (s * 100 + u - (20 * r + (j : Int)) * (j : Int)) := by
  have e : Gl.dg r (s * 100 + u) = j := by unfold Gl.dg; rw [← hj, Gl.dgF_here ht]
  refine ⟨?_⟩
  rw [(r_step hn hu).2.2.2, h.eq]
  simp [Gl.rStep, e]
theorem AtPair.done {n : Nat} {ds : List Int} {r s : Int} (h : AtPair n (Gl.prs n).length ds r s) : ds = Gl.rtD n ∧ r = Gl.rtR n ∧ s = Gl.rtS n := by
  have := h.eq
  rw [List.take_length] at this
  unfold Gl.rtD Gl.rtR Gl.rtS
  rw [this]
  exact ⟨rfl, rfl, rfl⟩

set_option maxRecDepth 100000 in
set_option maxHeartbeats 2000000 in
theorem rootDigits_any (n : Nat) (w : World) (hn : n ≤ 1000000000) :
    Calls Tryz.prog 72 #[.int .i64 (n : Int)] w fun e w' => (∃ A c, e = .returned (.tuple #[.slice A (Gl.prs n).length c, .int .i64 (Gl.rtS n)]) ∧ Own w' w.heap.size A (Gl.prs n).length c (Gl.rtD n)) ∧ Below w.heap.size w w' := by
  have hL := Gl.prs_length hn
  obtain ⟨hL1, hL5⟩ := hL
  generalize hlen : (Gl.prs n).length = L at hL1 hL5
  have HLEN := Lib.hid hlen
  have HLN := Lib.hid (lit_nil w)
  clear hlen
  go_enter Tryz.func72, Tryz.ntmps72
  go_wp2_with fail
  refine (pairsOf_any n _ hn).mono ?_
  rintro e w1 ⟨⟨A1, c1, rfl, ho1⟩, hb1⟩
  rw [HLEN.out] at ho1 ⊢
  have HP := Lib.hid ho1.ints
  have hsz1 := hb1.size
  have HO := Lib.hid (EOwn.of_nil (HLN.out.next hb1) w1.heap.size)
  have HB := Lib.hid (((Below.refl w.heap.size w).alloc (Nat.le_refl _) _).trans (hb1.mono (by simp)))
  simp only [World.size_alloc] at hsz1
  clear ho1 hb1 HLN
  go_wp2_with fail
  go_loopw [4, 5, 6, 14] (fun dv rv sv i wr => ∃ (k : Nat) (A : Option Addr) (c : Nat) (ds : List Int) (r s : Int), k ≤ L ∧ i = .int .i64 (k : Int) ∧ dv = .slice A k c ∧ rv = .int .i64 r ∧ sv = .int .i64 s ∧ EOwn wr w.heap.size w1.heap.size A k c ds ∧ AtPair n k ds r s ∧
      Ints wr w1.heap.size A1 L (Gl.prs n) ∧ Below w.heap.size w wr ∧ w1.heap.size ≤ wr.heap.size) (fun _ _ _ i _ => L - (intOf i).toNat)
  case atStart => exact ⟨0, _, _, [], 0, 0, by omega, by go_num, rfl, rfl, rfl, HO.out, AtPair.start n, HP.out, HB.out, Nat.le_refl _⟩
  case round =>
    clear HO HP HB
    obtain ⟨k, A, c, ds, r, s, hk, rfl, rfl, rfl, rfl, hown, hat, hp, hb, hsz⟩ := hrel
    obtain ⟨r0, r1, s0, s1⟩ := hat.bound hn
    have HO := Lib.hid hown
    have HAT := Lib.hid hat
    have HP := Lib.hid hp
    have HB := Lib.hid hb
    clear hown hat hp hb
    by_cases hlt : k < L
    · obtain ⟨b, off, u, rfl, hub, hu, hcu⟩ := HP.out.at_ hlt
      obtain ⟨u0, u1, -, -⟩ := r_step hn hu
      have HU := Lib.hid hu
      clear hu
      obtain ⟨wo, rfl⟩ : ∃ wo : World, wo = wr := ⟨_, rfl⟩
      go_wp2_with fail
      go_loop [9] (fun d => ∃ j : Nat, j ≤ 9 ∧ d = .int .i64 (j : Int) ∧ Gl.dgF r (s * 100 + u) j = Gl.dgF r (s * 100 + u) 9) (fun d => (intOf d).toNat)
      case atStart => exact ⟨9, by omega, rfl, rfl⟩
      case round =>
        obtain ⟨j, hj, rfl, hdg⟩ := hrel
        obtain ⟨m0, m1⟩ := dg_in (j := j) r0 r1 hj
        have HDG := Lib.hid hdg
        clear hdg
        by_cases ht : s * 100 + u < (20 * r + (j : Int)) * (j : Int)
        · cases j with
          | zero => simp at ht; omega
          | succ j =>
            have HD := Lib.hid (Gl.dgF_down ht)
            rw [show ((j + 1 : Nat) : Int) = (j : Int) + 1 from by omega] at ht m0 m1
            go_wp2
            go_round
            case rel => exact ⟨j, by omega, by go_num, by rw [← HD.out]; exact HDG.out⟩
            case measure => simp [intOf]
        · have HT := Lib.hid ht
          go_wp2_with (at_builtin; refine wpList_app0 rfl _ _ rfl rfl HO.out [(j : Int)] 1 rfl (by omega) _ rfl _ rfl (by omega) (by omega) hsz ?_; intro A' c' w3 row3 hown3 hg3 hr3)
          have HB3 := Lib.hid (below_row HB.out hg3 hr3 (by omega) hsz)
          have HP3 := Lib.hid (HP.out.grown hg3 hsz hr3)
          have hsz3 := hg3.size
          go_roundw
          case rel => exact ⟨k + 1, _, _, _, _, _, by omega, by go_num, rfl, rfl, rfl, hown3, HAT.out.next hn HU.out HDG.out HT.out, HP3.out, HB3.out, by omega⟩
          case measure => simp [intOf]; omega
    · obtain rfl : k = L := by omega
      obtain ⟨rfl, rfl, rfl⟩ := (HLEN.out ▸ HAT.out : AtPair n (Gl.prs n).length ds r s).done
      go_wp2
      go_ret2
      exact ⟨⟨_, _, rfl, HO.out.own⟩, HB.out⟩
end Go.Proofs.YthdoofmfigemoaaGreatDoor
end

section
/-
  Roots: RootOf, RootPairs and RootNear of the program and of the reference.
-/
namespace Go.Proofs.YthdoofmfigemoaaGreatDoor
open Go.RowKit

set_option maxHeartbeats 1000000 in
theorem RootOf_yes (n : Nat) (w : World) (hn : n ≤ 1000000000) :
    Calls Tryz.prog 30 #[.int .i64 (n : Int)] w fun e w' => e = .returned (.tuple #[.int .i64 (Gl.rtR n), .int .i64 (Gl.rtS n), .bool true]) ∧ Below w.heap.size w w' := by
  obtain ⟨_, hval, hlen, hdig⟩ := Gl.rt_inv n
  have hL5 := (Gl.prs_length hn).2
  have hh := Gl.horner_take hdig (by omega)
  have hall := Gl.horner_all hlen
  rw [hval] at hall
  generalize (Gl.prs n).length = L at hlen hL5 hall
  have HL := Lib.hid (Gl.prs_length hn)
  have HH := Lib.hid hh
  have HALL := Lib.hid hall
  have HLEN := Lib.hid hlen
  clear hval hlen hdig hh hall
  go_enter Tryz.func30, Tryz.ntmps30
  go_wp2_with fail
  refine (hasRoot_yes hn _).mono ?_
  rintro e w' ⟨rfl, rfl⟩
  go_wp2_with fail
  refine (rootDigits_any n _ hn).mono ?_
  rintro e w1 ⟨⟨A1, c1, rfl, ho1⟩, hb1⟩
  generalize (Gl.prs n).length = L2 at ho1 ⊢
  obtain rfl : L = L2 := by have := ho1.len; have := HLEN.out; omega
  have HI := Lib.hid ho1.ints
  have HB := Lib.hid hb1
  clear ho1 hb1
  go_wp2_with fail
  go_loop [5, 20] (fun rv i => ∃ k : Nat, k ≤ L ∧ i = .int .i64 (k : Int) ∧ rv = .int .i64 (Gl.horner 0 ((Gl.rtD n).take k))) (fun _ i => L - (intOf i).toNat)
  case atStart => exact ⟨0, by omega, by go_num, rfl⟩
  case round =>
    obtain ⟨k, hk, rfl, rfl⟩ := hrel
    obtain ⟨h0, h1⟩ := HH.out k
    by_cases hlt : k < L
    · obtain ⟨b, off, u, rfl, hub, hu, hcu⟩ := HI.out.at_ hlt
      have HN := Lib.hid (Gl.horner_next hu)
      have hu9 : 0 ≤ u ∧ u ≤ 9 := (Gl.rt_inv n).2.2.2 u (List.mem_of_getElem? hu)
      obtain ⟨u0, u1⟩ := hu9
      clear hu
      generalize Gl.horner 0 ((Gl.rtD n).take k) = r at *
      go_wp2
      go_round
      case rel => exact ⟨k + 1, by omega, by go_num, by rw [HN.out]; congr 1; omega⟩
      case measure => simp [intOf]; omega
    · obtain rfl : k = L := by omega
      rw [HALL.out] at h0 h1 ⊢
      go_wp2
      refine bodyPost_ret (results_tmp3 rfl _ _ _) rfl ?_
      exact ⟨rfl, HB.out⟩
theorem RootOf_no (n : Int) (w : World) (hn : n < 0 ∨ 1000000000 < n) :
    Calls Tryz.prog 30 #[.int .i64 n] w fun e w' => e = .returned (.tuple #[.int .i64 0, .int .i64 0, .bool false]) ∧ w = w' := by
  go_enter Tryz.func30, Tryz.ntmps30
  go_wp2_with fail
  refine (hasRoot_no hn _).mono ?_
  rintro e w' ⟨rfl, rfl⟩
  go_wp2
  go_ret3
  exact ⟨rfl, rfl⟩

/-- the integer whose square is nearest -/
def nearOf (n : Nat) : Int := Gl.near (Gl.rtR n) (Gl.rtS n)
/-! the reference -/
theorem half_in (a b : Nat) (h : a < b) : a < (a + b + 1) / 2 ∧ (a + b + 1) / 2 ≤ b := by omega
set_option maxHeartbeats 1000000 in
theorem l8Root_any (n : Nat) (w : World) (hn : n ≤ 1000000000) :
    Calls Tryz.prog 73 #[.int .i64 (n : Int)] w fun e w' => e = .returned (.int .i64 (Gl.rtR n)) ∧ w = w' := by
  go_enter Tryz.func73, Tryz.ntmps73
  go_wp2
  go_loop [3, 4] (fun lo hi => ∃ a b : Nat, a ≤ b ∧ b ≤ 100000 ∧ lo = .int .i64 (a : Int) ∧ hi = .int .i64 (b : Int) ∧ (a : Int) * (a : Int) ≤ (n : Int) ∧ (n : Int) < ((b : Int) + 1) * ((b : Int) + 1)) (fun lo hi => (intOf hi).toNat - (intOf lo).toNat)
  case atStart => exact ⟨0, 100000, by omega, by omega, rfl, rfl, by omega, by omega⟩
  case round =>
    obtain ⟨a, b, hab, hb, rfl, rfl, hlo, hhi⟩ := hrel
    have HLO := Lib.hid hlo
    have HHI := Lib.hid hhi
    clear hlo hhi
    by_cases hlt : a < b
    · obtain ⟨h1, h2⟩ := half_in a b hlt
      have hm : ((a : Int) + (b : Int) + 1) / 2 = (((a + b + 1) / 2 : Nat) : Int) := by omega
      obtain ⟨m0, m1⟩ := sq_in (show (0 : Int) ≤ ((a : Int) + (b : Int) + 1) / 2 by omega) (show ((a : Int) + (b : Int) + 1) / 2 ≤ 100000 by omega)
      generalize (a + b + 1) / 2 = m at *
      have HM := Lib.hid hm
      by_cases ht : (((a : Int) + (b : Int) + 1) / 2) * (((a : Int) + (b : Int) + 1) / 2) ≤ (n : Int)
      · have HT := Lib.hid ht
        clear hm
        go_wp2
        go_round
        case rel => exact ⟨m, b, by omega, by omega, by rw [HM.out], rfl, by have := HT.out; rwa [HM.out] at this, HHI.out⟩
        case measure => have := HM.out; simp [intOf]; omega
      · have HT := Lib.hid ht
        clear hm
        go_wp2
        go_round
        case rel => exact ⟨a, m - 1, by omega, by omega, rfl, by have := HM.out; congr 1; omega, HLO.out, by have := HT.out; rw [HM.out] at this; rw [show ((m - 1 : Nat) : Int) + 1 = (m : Int) from by omega]; omega⟩
        case measure => have := HM.out; simp [intOf]; omega
    · obtain rfl : a = b := by omega
      go_wp2
      go_ret
      exact ⟨ret_int (Gl.root_unique (Gl.isRoot_of_sq (by omega) HLO.out HHI.out) (Gl.rt_inv n).1).1, rfl⟩
theorem rest_of (n : Nat) : (n : Int) - Gl.rtR n * Gl.rtR n = Gl.rtS n := by
  have := (Gl.rt_inv n).1.2.1
  omega
set_option maxHeartbeats 400000 in
theorem specRootOf_yes (n : Nat) (w : World) (hn : n ≤ 1000000000) :
    Calls Tryz.prog 31 #[.int .i64 (n : Int)] w fun e w' => e = .returned (.tuple #[.int .i64 (Gl.rtR n), .int .i64 (Gl.rtS n), .bool true]) ∧ w = w' := by
  obtain ⟨r0, r1, s0, s1⟩ := Gl.root_bound (Gl.rt_inv n).1 (by omega)
  have hcall := fun w => l8Root_any n w hn
  have hrest := rest_of n
  generalize Gl.rtR n = r at *
  generalize Gl.rtS n = s at *
  obtain ⟨m0, m1⟩ := sq_in r0 r1
  have HC := Lib.hid hcall
  have HR := Lib.hid hrest
  clear hcall hrest
  go_enter Tryz.func31, Tryz.ntmps31
  go_wp2_with fail
  refine (l6In_yes (by omega) (by omega) _).mono ?_
  rintro e w' ⟨rfl, rfl⟩
  go_wp2_with fail
  refine (HC.out _).mono ?_
  rintro e w' ⟨rfl, rfl⟩
  go_wp2
  go_ret3
  exact ⟨by rw [HR.out]; rfl, rfl⟩
theorem specRootOf_no (n : Int) (w : World) (hn : n < 0 ∨ 1000000000 < n) :
    Calls Tryz.prog 31 #[.int .i64 n] w fun e w' => e = .returned (.tuple #[.int .i64 0, .int .i64 0, .bool false]) ∧ w = w' := by
  go_enter Tryz.func31, Tryz.ntmps31
  go_wp2_with fail
  refine (l6In_no hn _).mono ?_
  rintro e w' ⟨rfl, rfl⟩
  go_wp2
  go_ret3
  exact ⟨rfl, rfl⟩
theorem near_facts {m : Nat} (hm : m ≤ 1000000000) : ∃ d, 0 ≤ nearOf m ∧ nearOf m ≤ 40001 ∧ 0 ≤ d ∧ d ≤ nearOf m ∧ max ((m : Int) - nearOf m * nearOf m) (nearOf m * nearOf m - (m : Int)) = d ∧
    ∀ k, nearOf m - 1 ≤ k → k ≤ nearOf m + 1 → 0 ≤ k → d ≤ max ((m : Int) - k * k) (k * k - (m : Int)) := by
  obtain ⟨r0, r1, s0, s1⟩ := Gl.root_bound (Gl.rt_inv m).1 (by omega)
  obtain ⟨d, h0, h1, h2, h3⟩ := Gl.near_law (Gl.rt_inv m).1
  exact ⟨d, by unfold nearOf Gl.near; split <;> omega, by unfold nearOf Gl.near; split <;> omega, h0, h1, h2, h3⟩
end Go.Proofs.YthdoofmfigemoaaGreatDoor
end

section
/-
  The command root, and the draw of its number.
-/
namespace Go.Proofs.YthdoofmfigemoaaGreatDoor
open Go.RowKit
set_option linter.unusedSimpArgs false

set_option maxRecDepth 100000 in
set_option maxHeartbeats 1000000 in
theorem DrawRootOf_any (A : Option Addr) (n c : Nat) (w : World) (h : Bytes w w.heap.size A n c) (hn : n ≤ 1048576) :
    Calls Tryz.prog 29 #[.slice A n c] w (DrewI (-1) 1000000001 w) := by
  have H := Lib.hid h
  clear h
  go_enter Tryz.func29, Tryz.ntmps29
  go_wp2_with fail
  refine (l6Open_any _ _ _ _ H.out hn).mono ?_
  rintro e w0 ⟨rfl, hrd, hb⟩
  have HB := Lib.hid hb
  have hlt := hrd.lt
  have HR := Lib.hid hrd
  clear hrd hb
  go_wp2_with fail
  refine (l92Root_any _ _ _ _ HR.out (by omega)).mono ?_
  rintro e w1 ⟨v1, q1, rfl, hva1, hvb1, hrd1, hq1, hg1⟩
  have hsz1 := hg1.size
  replace HB := Lib.hid (HB.out.trans (base_in hg1 (Nat.le_refl _) (by omega)))
  replace HR := Lib.hid hrd1
  clear hrd1 hg1
  go_wp2
  go_ret
  exact ⟨_, rfl, by omega, by omega, HB.out⟩

theorem root_bd {n : Nat} (hn : n ≤ 1000000000) : 0 ≤ Gl.rtR n ∧ Gl.rtR n ≤ 1000000000 ∧ 0 ≤ Gl.rtS n ∧ Gl.rtS n ≤ 1000000000 := by
  obtain ⟨⟨h0, h1, h2, h3⟩, _⟩ := Gl.rt_inv n
  have hq : Gl.rtR n ≤ Gl.rtR n * Gl.rtR n := by
    by_cases h : Gl.rtR n = 0
    · rw [h]; omega
    · have := Int.mul_le_mul_of_nonneg_left (show (1 : Int) ≤ Gl.rtR n by omega) h0
      omega
  omega
/-- what root tells -/
def rootT (n : Nat) : List UInt8 := Lib.itoa (Gl.rtR n) ++ 32 :: Lib.itoa (Gl.rtS n)
set_option maxRecDepth 100000 in
set_option maxHeartbeats 4000000 in
theorem root_cmd (B0 tb : Nat) (bds ds : List Int) (ts : List Tl) (n : Nat) (hn : n ≤ 1000000000) (A0 : Option Addr) (n0 : Nat) (w : World) (hnum : Own w B0 A0 1 n0 [(n : Int)]) (h : Tab B0 w tb bds ds ts) (hw : B0 ≤ w.heap.size) (hp : Pow B0 w) :
    Calls Tryz.prog 170 #[.pointer (some ⟨tb, 0, none⟩), .slice A0 1 n0] w (CmdPost B0 (Tell B0 tb bds ds ts (bs (rootT n))) w) := by
  obtain ⟨g, rfl, _, hg, hcell, _⟩ := hnum.at_ (by omega)
  have d0 := hcell 0 (n : Int) rfl
  obtain ⟨r0, r1, s0, s1⟩ := root_bd hn
  obtain ⟨R, hR⟩ : ∃ R, Gl.rtR n = R := ⟨_, rfl⟩
  obtain ⟨S, hS⟩ : ∃ S, Gl.rtS n = S := ⟨_, rfl⟩
  have hroot := fun w => RootOf_yes n w hn
  have hT : (dec R ++ ⟨#[32]⟩) ++ dec S = bs (rootT n) := by
    show (bs (Lib.itoa R) ++ bs [32]) ++ bs (Lib.itoa S) = _
    rw [bs_append, bs_append]
    simp [rootT, hR, hS]
  rw [hR, hS] at hroot
  rw [hR] at r0 r1
  rw [hS] at s0 s1
  have hz1 := dec_size R (by omega) (by omega)
  have hz2 := dec_size S (by omega) (by omega)
  have hl1 := no_long (n := (dec R).size) (by omega) 1 (by omega)
  have hl2 := no_long (n := (dec R).size + 1) (by omega) (dec S).size (by omega)
  have hl3 := no_long (n := (dec R).size + 1 + (dec S).size) (by omega) 1 (by omega)
  have HT := Lib.hid h
  have HR := Lib.hid hroot
  have HW := Lib.hid hw
  have HP := Lib.hid hp
  have HTT := Lib.hid hT
  clear h hroot hw hp hT hnum hcell hz1 hz2 hR hS
  go_enter Tryz.func170, Tryz.ntmps170
  go_wp2_with fail
  refine (HR.out _).mono ?_
  rintro e w1 ⟨rfl, hb1⟩
  have HB1 := Lib.hid hb1
  clear hb1
  go_wp2_with fail
  refine (Itoa_any (HP.out.below (HB1.out.mono HW.out)) R (by omega) (by omega)).mono ?_
  rintro e w2 ⟨rfl, hb2⟩
  have HB2 := Lib.hid (HB1.out.trans (hb2.mono HB1.out.size))
  clear hb2
  go_wp2_with fail
  refine (Itoa_any (HP.out.below (HB2.out.mono HW.out)) S (by omega) (by omega)).mono ?_
  rintro e w3 ⟨rfl, hb3⟩
  have HB3 := Lib.hid (HB2.out.trans (hb3.mono HB2.out.size))
  clear hb3
  go_wp2_with fail
  refine bodyPost_ret (v := .tuple #[.string (((dec R ++ ⟨#[32]⟩) ++ dec S) ++ ⟨#[10]⟩), .bool true]) (by simp [results, Tryz.results170, go_sem]) rfl ?_
  rw [HTT.out]
  exact ⟨_, _, rfl, ⟨rfl, rfl, HT.out.next HB3.out⟩, KeptT.of_below HB3.out⟩
theorem does_root (s : St) (n : Nat) (hn : n ≤ 1000000000) : CmdDoes 170 [(n : Int)] s (bs (rootT n) ++ ⟨#[10]⟩) s := by
  refine ⟨fun args w => by simp [go_sem], fun B0 tb w A n0 hnum ht hw hp => ?_⟩
  refine (root_cmd B0 tb s.bs s.ds s.ts n hn A n0 w hnum ht hw hp).mono fun e w' h => ?_
  obtain ⟨t, ok, rfl, ⟨rfl, rfl, h⟩, hk⟩ := h
  exact ⟨_, _, rfl, ⟨rfl, h⟩, hk⟩
theorem dec_short : ∀ (k u : Nat), (Lib.decDigits u).length ≤ k → u < 10 ^ k
  | 0, u, h => by have := dec_pos u; omega
  | k + 1, u, h => by
    have hp : 0 < 10 ^ k := Nat.pow_pos (by omega)
    by_cases hu : u < 10
    · rw [Nat.pow_succ]; omega
    · have := dec_short k (u / 10) (by rw [Lib.decDigits, dif_neg hu] at h; simp at h; omega)
      rw [Nat.pow_succ]; omega
theorem wnum_long (v : Int) (h : 1000000 ≤ v) : wnum (Lib.itoa v) = 9999999 := by
  have h6 : ¬ (Lib.decDigits v.toNat).length ≤ 6 := fun h6 => by have := dec_short 6 v.toNat h6; omega
  unfold wnum Lib.itoa
  rw [if_neg (show ¬ v < 0 by omega), if_pos (.inr (by omega))]
/-- the number that a line hands over -/
def numOf (n : Nat) : Nat := if n ≤ 999999 then n else 9999999
theorem numOf_le (n : Nat) : numOf n ≤ 1000000000 := by unfold numOf; split <;> omega
theorem wnum_numOf (n : Nat) : wnum (Lib.itoa (n : Int)) = (numOf n : Int) := by
  unfold numOf
  split
  · exact wnum_itoa _ (by omega) (by omega)
  · rw [wnum_long _ (by omega)]; rfl
theorem good1n {k : List UInt8} {f : Nat} (n : Nat) (hk : (32 : UInt8) ∉ k) (hc : cmdOf (bs k) = some (1, f)) : Good (k ++ 32 :: Lib.itoa (n : Int)) (1, f) [(numOf n : Int)] :=
  ⟨k, [Lib.itoa (n : Int)], by rw [cut_at 32 k _ hk, cut_none 32 _ (itoa_free (by decide) (by omega))], hc, rfl, by simp [wnum_numOf n]⟩
def wRoot : List UInt8 := [114, 111, 111, 116]
def scriptRoot (n : Nat) : List UInt8 := wRoot ++ 32 :: (Lib.itoa (n : Int) ++ [10])
theorem scriptRoot_cut (n : Nat) : cut 10 (scriptRoot n) = [wRoot ++ 32 :: Lib.itoa (n : Int)] ++ [[]] := by
  have e : scriptRoot n = (wRoot ++ 32 :: Lib.itoa (n : Int)) ++ 10 :: [] := by simp [scriptRoot]
  rw [e, cut_at 10 _ _ (nl_word (by decide) (by omega))]
  rfl
theorem rootT_size (n : Nat) (hn : n ≤ 1000000000) : (rootT n).length ≤ 50 := by
  obtain ⟨r0, r1, s0, s1⟩ := root_bd hn
  have e1 := dec_size (Gl.rtR n) (by omega) (by omega)
  have e2 := dec_size (Gl.rtS n) (by omega) (by omega)
  have f1 : (dec (Gl.rtR n)).size = (Lib.itoa (Gl.rtR n)).length := by show (Lib.itoa (Gl.rtR n)).toArray.size = _; simp
  have f2 : (dec (Gl.rtS n)).size = (Lib.itoa (Gl.rtS n)).length := by show (Lib.itoa (Gl.rtS n)).toArray.size = _; simp
  simp [rootT]
  omega
theorem Execute_root (n : Nat) (hn : n ≤ 1000000000) (w : World) (hm : Max w) (hpw : Pow w.heap.size w) {s : ByteArray} (hs : s = bs (scriptRoot n)) :
    Calls Tryz.prog 13 #[.string s] w fun e w' => e = .returned (.string (bs ((rootT (numOf n) ++ [10]) ++ endL 0 0))) ∧ Below w.heap.size w w' := by
  subst hs
  have d1 := dec_size (n : Int) (by omega) (by omega)
  have f1 : (dec (n : Int)).size = (Lib.itoa (n : Int)).length := by show (Lib.itoa (n : Int)).toArray.size = _; simp
  have hsz : (bs (scriptRoot n)).size ≤ 400 := by
    have e : (bs (scriptRoot n)).size = (scriptRoot n).length := by show (scriptRoot n).toArray.size = _; simp
    rw [e]
    simp [scriptRoot, wRoot]
    omega
  have l1 : LineDoes (wRoot ++ 32 :: Lib.itoa (n : Int)) St.start (bs (rootT (numOf n)) ++ ⟨#[10]⟩) St.start :=
    line_does (by simp [wRoot]; omega) (good1n (k := wRoot) n (by decide) (by rfl)) (by decide) (does_root St.start (numOf n) (numOf_le n))
  have r := Runs.cons l1 (Runs.nil _)
  have e1 : (bs (rootT (numOf n)) ++ ⟨#[10]⟩).data.toList = rootT (numOf n) ++ [10] := bs_line _
  rw [e1, List.append_nil] at r
  have hol : (rootT (numOf n) ++ [10]).length ≤ 100000 := by have := rootT_size (numOf n) (numOf_le n); simp; omega
  exact Execute_any (bs (scriptRoot n)) _ St.start _ w hsz (by rw [bs_list]; exact scriptRoot_cut n) r hm hpw hol (by decide)
end Go.Proofs.YthdoofmfigemoaaGreatDoor
end

section
/-
  The commands times and double; DupTimes out of its range.
-/
namespace Go.Proofs.YthdoofmfigemoaaGreatDoor
open Go.RowKit
set_option linter.unusedSimpArgs false
set_option maxRecDepth 100000

def fac (n : Int) : Bool := decide (1 ≤ n) && decide (n ≤ 100000)
theorem DupTimes_no (a b : Int) (w : World) (h : (fac a && fac b) = false) : Calls Tryz.prog 33 #[.int .i64 a, .int .i64 b] w fun e w' => e = .returned (.int .i64 (-1)) ∧ Below w.heap.size w w' := by
  refine (callsIn_wide (n := 9)).1 ?_
  refine callsIn_of_wp Tryz.func33 rfl trivial ?_ rfl
  simp only [Tryz.ntmps33, List.size_toArray, List.length_cons, List.length_nil, Nat.reduceAdd, Nat.reduceSub, Array.replicate_succ, Array.replicate_zero, List.push_toArray, List.append_toArray, List.nil_append, List.cons_append]
  by_cases ha : fac a = true
  · have hb : fac b = false := by rw [ha] at h; simpa using h
    gi_wp2_with fail
    refine ⟨trivial, ?_⟩
    refine (callsIn_wide.2 (isFactor_is ha _)).mono ?_
    rintro e w' ⟨rfl, rfl⟩
    gi_wp2_with fail
    refine ⟨trivial, ?_⟩
    refine (callsIn_wide.2 (isFactor_is hb _)).mono ?_
    rintro e w' ⟨rfl, rfl⟩
    gi_wp2_with fail
    refine bodyPost_ret (results_tmp rfl _ _ _) rfl ?_
    exact ⟨rfl, Below.refl _ _⟩
  · have ha : fac a = false := by simpa using ha
    gi_wp2_with fail
    refine ⟨trivial, ?_⟩
    refine (callsIn_wide.2 (isFactor_is ha _)).mono ?_
    rintro e w' ⟨rfl, rfl⟩
    gi_wp2_with fail
    refine ⟨trivial, ?_⟩
    gi_wp2_with fail
    refine bodyPost_ret (results_tmp rfl _ _ _) rfl ?_
    exact ⟨rfl, Below.refl _ _⟩
theorem specDupRows_no (a b : Int) (w : World) (h : ¬ ((1 ≤ a ∧ a ≤ 100000) ∧ 1 ≤ b ∧ b ≤ 100000)) :
    Calls Tryz.prog 77 #[.int .i64 a, .int .i64 b] w fun e w' => ∃ A n c A' n' c', e = .returned (.tuple #[.slice A n c, .slice A' n' c', .bool false]) ∧ Below w.heap.size w w' := by
  go_enter Tryz.func77, Tryz.ntmps77
  go_wp2_with fail
  refine (l2Factors_no a b _ h).mono ?_
  rintro e w' ⟨rfl, rfl⟩
  have HB := Lib.hid (((Below.refl w.heap.size w).alloc (Nat.le_refl _) (.cells #[] 3)).alloc (by simp) (.cells #[] 3))
  go_wp2_with fail
  refine bodyPost_ret (results_tmp3 rfl _ _ _) rfl ?_
  exact ⟨_, _, _, _, _, _, rfl, HB.out⟩
theorem specDupTimes_no (a b : Int) (w : World) (h : ¬ ((1 ≤ a ∧ a ≤ 100000) ∧ 1 ≤ b ∧ b ≤ 100000)) :
    Calls Tryz.prog 34 #[.int .i64 a, .int .i64 b] w fun e w' => e = .returned (.int .i64 (-1)) ∧ Below w.heap.size w w' := by
  go_enter Tryz.func34, Tryz.ntmps34
  go_wp2_with fail
  refine (specDupRows_no a b _ h).mono ?_
  rintro e w1 ⟨A, n, c, A', n', c', rfl, hb1⟩
  have HB := Lib.hid hb1
  clear hb1
  go_wp2_with fail
  go_ret
  exact ⟨rfl, HB.out⟩
set_option maxHeartbeats 4000000 in
theorem times_cmd (B0 tb : Nat) (bds ds : List Int) (ts : List Tl) (a b : Nat) (ha : a ≤ 100000) (hb : b ≤ 100000) (A0 : Option Addr) (n0 : Nat) (w : World) (hnum : Own w B0 A0 2 n0 [(a : Int), (b : Int)]) (h : Tab B0 w tb bds ds ts) (hw : B0 ≤ w.heap.size) (hp : Pow B0 w) :
    Calls Tryz.prog 164 #[.pointer (some ⟨tb, 0, none⟩), .slice A0 2 n0] w (CmdPost B0 (Tell B0 tb bds ds ts (bs (Lib.itoa ((a * b : Nat) : Int)))) w) := by
  obtain ⟨g, rfl, _, hg, hcell, _⟩ := hnum.at_ (by omega)
  have d0 := hcell 0 (a : Int) rfl
  have d1 := hcell 1 (b : Int) rfl
  have hmul : a * b ≤ 100000 * 100000 := Nat.mul_le_mul ha hb
  have hz1 := dec_size ((a * b : Nat) : Int) (by omega) (by omega)
  have hl3 := no_long (n := (dec ((a * b : Nat) : Int)).size) (by omega) 1 (by omega)
  have HT := Lib.hid h
  have HW := Lib.hid hw
  have HP := Lib.hid hp
  obtain ⟨M, hM⟩ : ∃ M, a * b = M := ⟨_, rfl⟩
  have HM := Lib.hid (show (a : Int) * (b : Int) = (M : Int) by rw [← hM]; simp)
  rw [hM] at hmul hl3 ⊢
  clear h hw hp hnum hcell hz1 hM
  go_enter Tryz.func164, Tryz.ntmps164
  go_wp2_with fail
  refine (NumeralOf_yes a (by omega) _).mono ?_
  rintro e w1 ⟨A1, n1, c1, ds1, rfl, hn1, ho1, hb1⟩
  have HB1 := Lib.hid hb1
  have e1 := (HB1.out.cell (p := ⟨g, 1, none⟩) hg).trans d1
  have HO1 := Lib.hid ho1.ints
  have hsz1 := hb1.size
  clear hb1 ho1
  go_wp2_with fail
  refine (NumeralOf_yes b (by omega) _).mono ?_
  rintro e w2 ⟨A2, n2, c2, ds2, rfl, hn2, ho2, hb2⟩
  have HB2 := Lib.hid (below_chain HB1.out hb2)
  have HO2 := Lib.hid (And.intro (HO1.out.next hb2) ho2.ints)
  clear hb2 ho2
  go_wp2_with fail
  refine (LatticeTimes_yes _ _ _ _ _ _ ds1 ds2 _ HO2.out.1 HO2.out.2 hn1.1 hn2.1).mono ?_
  rw [hn1.2, hn2.2]
  rw [HM.out]
  rintro e w3 ⟨rfl, hb3⟩
  have HB3 := Lib.hid (below_chain HB2.out hb3)
  clear hb3 hn1 hn2
  go_wp2_with fail
  refine (Itoa_any (HP.out.below (HB3.out.mono HW.out)) (M : Int) (by omega) (by omega)).mono ?_
  rintro e w4 ⟨rfl, hb4⟩
  have HB4 := Lib.hid (HB3.out.trans (hb4.mono HB3.out.size))
  clear hb4
  go_wp2_with fail
  refine bodyPost_ret (v := .tuple #[.string (dec (M : Int) ++ ⟨#[10]⟩), .bool true]) (by simp [results, Tryz.results164, go_sem]) rfl ?_
  exact ⟨_, _, rfl, ⟨rfl, rfl, HT.out.next HB4.out⟩, KeptT.of_below HB4.out⟩
theorem does_times (s : St) (a b : Nat) (ha : a ≤ 100000) (hb : b ≤ 100000) : CmdDoes 164 [(a : Int), (b : Int)] s (bs (Lib.itoa ((a * b : Nat) : Int)) ++ ⟨#[10]⟩) s := by
  refine ⟨fun args w => by simp [go_sem], fun B0 tb w A n0 hnum ht hw hp => ?_⟩
  refine (times_cmd B0 tb s.bs s.ds s.ts a b ha hb A n0 w hnum ht hw hp).mono fun e w' h => ?_
  obtain ⟨t, ok, rfl, ⟨rfl, rfl, h⟩, hk⟩ := h
  exact ⟨_, _, rfl, ⟨rfl, h⟩, hk⟩
set_option maxHeartbeats 4000000 in
theorem double_cmd (B0 tb : Nat) (bds ds : List Int) (ts : List Tl) (a b : Nat) (ha1 : 1 ≤ a) (ha : a ≤ 100000) (hb1 : 1 ≤ b) (hb : b ≤ 100000) (A0 : Option Addr) (n0 : Nat) (w : World) (hnum : Own w B0 A0 2 n0 [(a : Int), (b : Int)]) (h : Tab B0 w tb bds ds ts) (hw : B0 ≤ w.heap.size) (hp : Pow B0 w) :
    Calls Tryz.prog 165 #[.pointer (some ⟨tb, 0, none⟩), .slice A0 2 n0] w (CmdPost B0 (Tell B0 tb bds ds ts (bs (Lib.itoa ((a * b : Nat) : Int)))) w) := by
  obtain ⟨g, rfl, _, hg, hcell, _⟩ := hnum.at_ (by omega)
  have d0 := hcell 0 (a : Int) rfl
  have d1 := hcell 1 (b : Int) rfl
  have hmul : a * b ≤ 100000 * 100000 := Nat.mul_le_mul ha hb
  have hz1 := dec_size ((a * b : Nat) : Int) (by omega) (by omega)
  have hl3 := no_long (n := (dec ((a * b : Nat) : Int)).size) (by omega) 1 (by omega)
  have HD := Lib.hid (DupTimes_yes a b w.drew ha1 ha hb1 hb)
  have hM1 : ¬ ((a * b : Nat) : Int) = -1 := by omega
  have hM2 : (0 : Int) ≤ ((a * b : Nat) : Int) := by omega
  obtain ⟨M, hM⟩ : ∃ M, a * b = M := ⟨_, rfl⟩
  rw [hM] at hmul hl3 HD hM1 hM2 ⊢
  have HT := Lib.hid h
  have HW := Lib.hid hw
  have HP := Lib.hid hp
  clear h hw hp hnum hcell hz1 hM
  go_enter Tryz.func165, Tryz.ntmps165
  go_wp2_with fail
  go_region_with (go_at_call 33; refine HD.out.mono ?_; rintro e w1 ⟨rfl, hb1'⟩; have HB1 := Lib.hid ((Below.refl w.heap.size w).drew.trans hb1'); clear hb1')
  all_goals
    go_wp2_with fail
    refine (Itoa_any (HP.out.below (HB1.out.mono HW.out)) (M : Int) (by omega) (by omega)).mono ?_
    rintro e w4 ⟨rfl, hb4⟩
    have HB4 := Lib.hid (HB1.out.trans (hb4.mono HB1.out.size))
    clear hb4
    go_wp2_with fail
    refine bodyPost_ret (v := .tuple #[.string (dec (M : Int) ++ ⟨#[10]⟩), .bool true]) (by simp [results, Tryz.results165, go_sem]) rfl ?_
    exact ⟨_, _, rfl, ⟨rfl, rfl, HT.out.next HB4.out⟩, KeptT.of_below HB4.out⟩
theorem does_double (s : St) (a b : Nat) (ha1 : 1 ≤ a) (ha : a ≤ 100000) (hb1 : 1 ≤ b) (hb : b ≤ 100000) : CmdDoes 165 [(a : Int), (b : Int)] s (bs (Lib.itoa ((a * b : Nat) : Int)) ++ ⟨#[10]⟩) s := by
  refine ⟨fun args w => by simp [go_sem], fun B0 tb w A n0 hnum ht hw hp => ?_⟩
  refine (double_cmd B0 tb s.bs s.ds s.ts a b ha1 ha hb1 hb A n0 w hnum ht hw hp).mono fun e w' h => ?_
  obtain ⟨t, ok, rfl, ⟨rfl, rfl, h⟩, hk⟩ := h
  exact ⟨_, _, rfl, ⟨rfl, h⟩, hk⟩
end Go.Proofs.YthdoofmfigemoaaGreatDoor
end

section
/-
  Two numbers, times and double: the script.
-/
namespace Go.Proofs.YthdoofmfigemoaaGreatDoor
open Go.RowKit
set_option linter.unusedSimpArgs false
set_option maxRecDepth 100000

def wTimes : List UInt8 := [116, 105, 109, 101, 115]
def wDouble : List UInt8 := [100, 111, 117, 98, 108, 101]
theorem nl_words {k : List UInt8} {u v : Int} (hk : (10 : UInt8) ∉ k) (h0 : 0 ≤ u) (h1 : 0 ≤ v) : (10 : UInt8) ∉ k ++ 32 :: (Lib.itoa u ++ 32 :: Lib.itoa v) := by
  intro h
  rcases List.mem_append.1 h with h | h
  · exact hk h
  · rcases List.mem_cons.1 h with h | h
    · cases h
    · rcases List.mem_append.1 h with h | h
      · exact itoa_free (by decide) h0 h
      · rcases List.mem_cons.1 h with h | h
        · cases h
        · exact itoa_free (by decide) h1 h
def lnTimes (a b : Nat) : List UInt8 := wTimes ++ 32 :: (Lib.itoa (a : Int) ++ 32 :: Lib.itoa (b : Int))
def lnDouble (a b : Nat) : List UInt8 := wDouble ++ 32 :: (Lib.itoa (a : Int) ++ 32 :: Lib.itoa (b : Int))
def scriptTimes (a b : Nat) : List UInt8 := lnTimes a b ++ 10 :: (lnDouble a b ++ [10])
theorem scriptTimes_cut (a b : Nat) : cut 10 (scriptTimes a b) = [lnTimes a b, lnDouble a b] ++ [[]] := by
  have e : scriptTimes a b = lnTimes a b ++ 10 :: (lnDouble a b ++ 10 :: []) := rfl
  have n1 : (10 : UInt8) ∉ lnTimes a b := nl_words (by decide) (by omega) (by omega)
  have n2 : (10 : UInt8) ∉ lnDouble a b := nl_words (by decide) (by omega) (by omega)
  rw [e, cut_at 10 _ _ n1, cut_at 10 _ _ n2]
  rfl
def outTimes (a b : Nat) : List UInt8 := Lib.itoa ((a * b : Nat) : Int) ++ 10 :: (Lib.itoa ((a * b : Nat) : Int) ++ [10])
theorem scriptTimes_runs (a b : Nat) (ha1 : 1 ≤ a) (ha : a ≤ 100000) (hb1 : 1 ≤ b) (hb : b ≤ 100000) :
    Runs [lnTimes a b, lnDouble a b] St.start (outTimes a b) St.start := by
  have hz1 := itoa_size (a : Int) (by omega) (by omega)
  have hz2 := itoa_size (b : Int) (by omega) (by omega)
  have l1 : LineDoes (lnTimes a b) St.start (bs (Lib.itoa ((a * b : Nat) : Int)) ++ ⟨#[10]⟩) St.start :=
    line_does (by simp [lnTimes, wTimes]; omega) (good2 (k := wTimes) (by decide) (by rfl) (by omega) (by omega) (by omega) (by omega)) (by decide) (does_times St.start a b ha hb)
  have l2 : LineDoes (lnDouble a b) St.start (bs (Lib.itoa ((a * b : Nat) : Int)) ++ ⟨#[10]⟩) St.start :=
    line_does (by simp [lnDouble, wDouble]; omega) (good2 (k := wDouble) (by decide) (by rfl) (by omega) (by omega) (by omega) (by omega)) (by decide) (does_double St.start a b ha1 ha hb1 hb)
  have r := Runs.cons l1 (Runs.cons l2 (Runs.nil _))
  rw [bs_line] at r
  have eo : outTimes a b = Lib.itoa ((a * b : Nat) : Int) ++ [10] ++ (Lib.itoa ((a * b : Nat) : Int) ++ [10] ++ []) := by simp [outTimes]
  rw [eo]
  exact r
theorem Execute_times (a b : Nat) (ha1 : 1 ≤ a) (ha : a ≤ 100000) (hb1 : 1 ≤ b) (hb : b ≤ 100000) (w : World) (hm : Max w) (hpw : Pow w.heap.size w) {s : ByteArray} (hs : s = bs (scriptTimes a b)) :
    Calls Tryz.prog 13 #[.string s] w fun e w' => e = .returned (.string (bs (outTimes a b ++ endL 0 0))) ∧ Below w.heap.size w w' := by
  subst hs
  have hz1 := itoa_size (a : Int) (by omega) (by omega)
  have hz2 := itoa_size (b : Int) (by omega) (by omega)
  have hsz : (bs (scriptTimes a b)).size ≤ 400 := by
    have e : (bs (scriptTimes a b)).size = (scriptTimes a b).length := by show (scriptTimes a b).toArray.size = _; simp
    rw [e]
    simp [scriptTimes, lnTimes, lnDouble, wTimes, wDouble]
    omega
  have hmul : a * b ≤ 100000 * 100000 := Nat.mul_le_mul ha hb
  have hz3 := dec_size ((a * b : Nat) : Int) (by omega) (by omega)
  have hz4 : (Lib.itoa ((a * b : Nat) : Int)).length = (dec ((a * b : Nat) : Int)).size := by show _ = (Lib.itoa ((a * b : Nat) : Int)).toArray.size; simp
  have hol : (outTimes a b).length ≤ 100000 := by simp only [outTimes, List.length_append, List.length_cons, List.length_nil]; omega
  exact Execute_any (bs (scriptTimes a b)) _ St.start (outTimes a b) w hsz (by rw [bs_list]; exact scriptTimes_cut a b) (scriptTimes_runs a b ha1 ha hb1 hb) hm hpw hol (by decide)
end Go.Proofs.YthdoofmfigemoaaGreatDoor
end
