/-
  Plain long divisions, roots and chains of quotients, with no program in sight.
-/
namespace Go.Proofs.Ytphokfdaimbaiaa.Gl

/-! ### long division -/
/-- the digits and the rests of a long division -/
def steps (d : Int) : Int → List Int → List (Int × Int)
  | _, [] => []
  | r, x :: xs => ((10 * r + x) / d, (10 * r + x) % d) :: steps d ((10 * r + x) % d) xs
def lastRest (d : Int) : Int → List Int → Int
  | r, [] => r
  | r, x :: xs => lastRest d ((10 * r + x) % d) xs
def horner (n : Int) (l : List Int) : Int := l.foldl (fun n x => 10 * n + x) n

theorem steps_length (d : Int) (xs : List Int) : ∀ r, (steps d r xs).length = xs.length := by
  induction xs with
  | nil => intro r; rfl
  | cons x xs ih => intro r; simp [steps, ih]
theorem steps_append (d : Int) (xs ys : List Int) : ∀ r, steps d r (xs ++ ys) = steps d r xs ++ steps d (lastRest d r xs) ys := by
  induction xs with
  | nil => intro r; rfl
  | cons x xs ih => intro r; simp [steps, lastRest, ih]
theorem lastRest_append (d : Int) (xs ys : List Int) : ∀ r, lastRest d r (xs ++ ys) = lastRest d (lastRest d r xs) ys := by
  induction xs with
  | nil => intro r; rfl
  | cons x xs ih => intro r; simp [lastRest, ih]
theorem lastRest_range (d : Int) (hd : 0 < d) (xs : List Int) : ∀ r, 0 ≤ r → r < d → 0 ≤ lastRest d r xs ∧ lastRest d r xs < d := by
  induction xs with
  | nil => intro r h0 h1; exact ⟨h0, h1⟩
  | cons x xs ih => intro r _ _; exact ih _ (Int.emod_nonneg _ (by omega)) (Int.emod_lt_of_pos _ hd)
/-- a step's digit lies between 0 and 9 -/
theorem step_digit (d r x : Int) (hd : 0 < d) (h0 : 0 ≤ r) (h1 : r < d) (hx : 0 ≤ x) (hx9 : x ≤ 9) : 0 ≤ (10 * r + x) / d ∧ (10 * r + x) / d ≤ 9 := by
  refine ⟨Int.ediv_nonneg (by omega) (by omega), ?_⟩
  have : (10 * r + x) / d < 10 := Int.ediv_lt_of_lt_mul hd (by omega)
  omega
theorem horner_append (xs ys : List Int) (n : Int) : horner n (xs ++ ys) = horner (horner n xs) ys := by simp [horner]
theorem horner_snoc (xs : List Int) (x n : Int) : horner n (xs ++ [x]) = 10 * horner n xs + x := by simp [horner]
/-- the quotient and the last rest make the value -/
theorem div_law (d : Int) (xs : List Int) : ∀ r q, horner q ((steps d r xs).map (·.1)) * d + lastRest d r xs = horner (q * d + r) xs := by
  induction xs with
  | nil => intro r q; simp [steps, horner, lastRest]
  | cons x xs ih =>
    intro r q
    simp only [steps, List.map_cons, horner, List.foldl_cons, lastRest] at ih ⊢
    rw [ih]
    have e := Int.emod_add_mul_ediv (10 * r + x) d
    congr 1
    rw [Int.add_mul, Int.mul_comm ((10 * r + x) / d) d, Int.mul_assoc]
    omega
theorem horner_nonneg (xs : List Int) : ∀ n, 0 ≤ n → (∀ x ∈ xs, 0 ≤ x) → 0 ≤ horner n xs := by
  induction xs with
  | nil => intro n h _; exact h
  | cons x xs ih => intro n h hx; exact ih _ (by have := hx x (by simp); show 0 ≤ 10 * n + x; omega) (fun y hy => hx y (by simp [hy]))
theorem horner_lt (xs : List Int) : ∀ n, 0 ≤ n → (∀ x ∈ xs, 0 ≤ x ∧ x ≤ 9) → horner n xs < (n + 1) * 10 ^ xs.length := by
  induction xs with
  | nil => intro n _ _; simp [horner]; omega
  | cons x xs ih =>
    intro n h hx
    have hx0 := hx x (by simp)
    have := ih (10 * n + x) (by omega) (fun y hy => hx y (by simp [hy]))
    simp only [horner, List.foldl_cons, List.length_cons, Int.pow_succ] at this ⊢
    have h2 : (10 * n + x + 1) * 10 ^ xs.length ≤ (10 * (n + 1)) * 10 ^ xs.length := Int.mul_le_mul_of_nonneg_right (by omega) (Int.pow_nonneg (by omega))
    rw [show (n + 1) * (10 ^ xs.length * 10) = (10 * (n + 1)) * 10 ^ xs.length from by rw [Int.mul_comm (10 ^ xs.length) 10, ← Int.mul_assoc, Int.mul_comm (n + 1) 10]]
    omega
/-- a quotient and a rest below the divisor are one -/
theorem div_unique (v d q r : Int) (h0 : 0 ≤ r) (h1 : r < d) (h : q * d + r = v) : q = v / d ∧ r = v % d := by
  subst h
  have hd : d ≠ 0 := by omega
  rw [Int.add_comm, Int.mul_comm, Int.add_mul_ediv_left _ _ hd, Int.add_mul_emod_self_left, Int.ediv_eq_zero_of_lt h0 h1, Int.emod_eq_of_lt h0 h1]
  omega

/-! ### periods: the rests of 1 divided by d -/
def rest (d : Int) : Nat → Int
  | 0 => 1 % d
  | k + 1 => (10 * rest d k) % d
theorem rest_range (d : Int) (hd : 0 < d) : ∀ k, 0 ≤ rest d k ∧ rest d k < d := by
  intro k
  cases k with
  | zero => exact ⟨Int.emod_nonneg _ (by omega), Int.emod_lt_of_pos _ hd⟩
  | succ k => exact ⟨Int.emod_nonneg _ (by omega), Int.emod_lt_of_pos _ hd⟩
theorem rest_again (d : Int) (a b : Nat) (h : rest d a = rest d b) : ∀ k, rest d (a + k) = rest d (b + k) := by
  intro k
  induction k with
  | zero => exact h
  | succ k ih => rw [← Nat.add_assoc, ← Nat.add_assoc, rest, rest, ih]
theorem rest_zero (d : Int) (a : Nat) (h : rest d a = 0) : ∀ k, rest d (a + k) = 0 := by
  intro k
  induction k with
  | zero => exact h
  | succ k ih => rw [← Nat.add_assoc, rest, ih]; simp

/-! ### roots -/
/-- r is the root of m, and what is left -/
def IsRoot (m r s : Int) : Prop := 0 ≤ r ∧ r * r + s = m ∧ 0 ≤ s ∧ s ≤ 2 * r
theorem sq_le_of (a b : Int) (h0 : 0 ≤ a) (h : a ≤ b) : a * a ≤ b * b := Int.mul_le_mul h h h0 (by omega)
theorem root_unique {m r s r' s' : Int} (h : IsRoot m r s) (h' : IsRoot m r' s') : r = r' ∧ s = s' := by
  obtain ⟨a1, a2, a3, a4⟩ := h
  obtain ⟨b1, b2, b3, b4⟩ := h'
  have e : r = r' := by
    rcases Int.lt_trichotomy r r' with hlt | heq | hgt
    · have h1 := sq_le_of (r + 1) r' (by omega) (by omega)
      rw [Int.add_mul, Int.mul_add] at h1; omega
    · exact heq
    · have h1 := sq_le_of (r' + 1) r (by omega) (by omega)
      rw [Int.add_mul, Int.mul_add] at h1; omega
  subst e
  exact ⟨rfl, by omega⟩
theorem isRoot_of_sq {m r : Int} (h0 : 0 ≤ r) (h1 : r * r ≤ m) (h2 : m < (r + 1) * (r + 1)) : IsRoot m r (m - r * r) := by
  rw [Int.add_mul, Int.mul_add] at h2
  exact ⟨h0, by omega, by omega, by omega⟩
/-- the digit of a root: the greatest that fits, looked for downwards -/
theorem dig_next {m r s p g : Int} (h : IsRoot m r s) (hp0 : 0 ≤ p) (hp : p ≤ 99) (h0 : 0 ≤ g) (h9 : g ≤ 9)
    (hfit : (20 * r + g) * g ≤ 100 * s + p) (hnot : g = 9 ∨ 100 * s + p < (20 * r + (g + 1)) * (g + 1)) :
    IsRoot (100 * m + p) (10 * r + g) (100 * s + p - (20 * r + g) * g) := by
  obtain ⟨a1, a2, a3, a4⟩ := h
  have e1 : (20 * r + g) * g = 20 * (r * g) + g * g := by rw [Int.add_mul, Int.mul_assoc]
  have e2 : (10 * r + g) * (10 * r + g) = 100 * (r * r) + 20 * (r * g) + g * g := by
    rw [Int.add_mul, Int.mul_add, Int.mul_add, Int.mul_comm g (10 * r)]
    have : 10 * r * (10 * r) = 100 * (r * r) := by rw [Int.mul_assoc, Int.mul_left_comm r 10 r, ← Int.mul_assoc]; rfl
    have : 10 * r * g = 10 * (r * g) := by rw [Int.mul_assoc]
    omega
  refine ⟨by omega, by omega, by omega, ?_⟩
  rcases hnot with rfl | hn
  · omega
  · have e3 : (20 * r + (g + 1)) * (g + 1) = 20 * (r * g) + 20 * r + g * g + 2 * g + 1 := by
      rw [Int.mul_add, Int.add_mul, Int.mul_one, Int.add_mul, Int.mul_assoc]
      omega
    omega

/-! ### chains of quotients -/
/-- one quotient more ahead of a pair -/
def ahead (q : Int) (v : Int × Int) : Int × Int := (q * v.1 + v.2, v.1)
def contT : List Int → Int × Int → Int × Int
  | [], v => v
  | q :: qs, v => ahead q (contT qs v)
/-- the two integers of a list of quotients -/
def cont (l : List Int) : Int × Int := contT l (1, 0)
def cross (v w : Int × Int) : Int := v.1 * w.2 - v.2 * w.1
theorem cross_ahead (q : Int) (v w : Int × Int) : cross (ahead q v) (ahead q w) = 0 - cross v w := by
  obtain ⟨a, b⟩ := v
  obtain ⟨c, d⟩ := w
  simp only [cross, ahead, Int.add_mul, Int.mul_add]
  have e1 : q * a * c = a * (q * c) := by rw [Int.mul_comm q a, Int.mul_assoc]
  omega
theorem cross_contT (l : List Int) (v w : Int × Int) (h : cross v w = 1 ∨ cross v w = -1) : cross (contT l v) (contT l w) = 1 ∨ cross (contT l v) (contT l w) = -1 := by
  induction l with
  | nil => exact h
  | cons q qs ih => simp only [contT, cross_ahead]; omega
theorem contT_append (l m : List Int) (v : Int × Int) : contT (l ++ m) v = contT l (contT m v) := by
  induction l with
  | nil => rfl
  | cons q qs ih => simp [contT, ih]
theorem cross_next (l : List Int) (q : Int) : cross (cont l) (cont (l ++ [q])) = 1 ∨ cross (cont l) (cont (l ++ [q])) = -1 := by
  unfold cont
  rw [contT_append]
  exact cross_contT l _ _ (by simp [contT, ahead, cross])
theorem cont_short (l : List Int) (q : Int) : cont (l ++ [q, 1]) = cont (l ++ [q + 1]) := by
  unfold cont
  rw [contT_append, contT_append]
  simp [contT, ahead]

/-- the chain of two integers, and what divides both; the first number bounds the steps -/
def chF : Nat → Int → Int → List Int
  | 0, _, _ => []
  | n + 1, a, b => if b = 0 then [] else a / b :: chF n b (a % b)
def comF : Nat → Int → Int → Int
  | 0, a, _ => a
  | n + 1, a, b => if b = 0 then a else comF n b (a % b)
def ch (a b : Int) : List Int := chF (b.toNat + 1) a b
def com (a b : Int) : Int := comF (b.toNat + 1) a b
theorem mod_small (a b : Int) (h0 : 0 ≤ b) (hb : b ≠ 0) : 0 ≤ a % b ∧ a % b < b := ⟨Int.emod_nonneg _ hb, Int.emod_lt_of_pos _ (by omega)⟩
theorem chF_fuel (n : Nat) : ∀ m a b, 0 ≤ b → b.toNat < n → b.toNat < m → chF n a b = chF m a b := by
  induction n with
  | zero => intro m a b _ h _; omega
  | succ n ih =>
    intro m a b h0 h1 h2
    cases m with
    | zero => omega
    | succ m =>
      simp only [chF]
      split
      · rfl
      · next hb =>
        have := mod_small a b h0 hb
        rw [ih m b (a % b) this.1 (by omega) (by omega)]
theorem comF_fuel (n : Nat) : ∀ m a b, 0 ≤ b → b.toNat < n → b.toNat < m → comF n a b = comF m a b := by
  induction n with
  | zero => intro m a b _ h _; omega
  | succ n ih =>
    intro m a b h0 h1 h2
    cases m with
    | zero => omega
    | succ m =>
      simp only [comF]
      split
      · rfl
      · next hb =>
        have := mod_small a b h0 hb
        rw [ih m b (a % b) this.1 (by omega) (by omega)]
theorem ch_zero (a : Int) : ch a 0 = [] := by simp [ch, chF]
theorem com_zero (a : Int) : com a 0 = a := by simp [com, comF]
theorem ch_step (a b : Int) (h0 : 0 ≤ b) (hb : b ≠ 0) : ch a b = a / b :: ch b (a % b) := by
  have := mod_small a b h0 hb
  rw [ch, chF, if_neg hb, ch, chF_fuel b.toNat ((a % b).toNat + 1) b (a % b) this.1 (by omega) (by omega)]
theorem com_step (a b : Int) (h0 : 0 ≤ b) (hb : b ≠ 0) : com a b = com b (a % b) := by
  have := mod_small a b h0 hb
  rw [com, comF, if_neg hb, com, comF_fuel b.toNat ((a % b).toNat + 1) b (a % b) this.1 (by omega) (by omega)]
/-- induction along the steps of Euclid -/
theorem euclid {P : Int → Int → Prop} (hz : ∀ a, 0 ≤ a → P a 0) (hs : ∀ a b, 0 ≤ a → 0 < b → P b (a % b) → P a b) : ∀ a b, 0 ≤ a → 0 ≤ b → P a b := by
  have key : ∀ n : Nat, ∀ a b : Int, 0 ≤ a → 0 ≤ b → b.toNat < n → P a b := by
    intro n
    induction n with
    | zero => intro a b _ _ h; omega
    | succ n ih =>
      intro a b ha hb h
      by_cases hb0 : b = 0
      · subst hb0; exact hz a ha
      · have := mod_small a b hb hb0
        exact hs a b ha (by omega) (ih b (a % b) hb this.1 (by omega))
  intro a b ha hb
  exact key (b.toNat + 1) a b ha hb (by omega)
/-- the chain leads back to the two integers, divided by what divides both -/
theorem ch_back (a b : Int) (ha : 0 ≤ a) (hb : 0 ≤ b) : a = com a b * (cont (ch a b)).1 ∧ b = com a b * (cont (ch a b)).2 := by
  refine euclid (P := fun a b => a = com a b * (cont (ch a b)).1 ∧ b = com a b * (cont (ch a b)).2) ?_ ?_ a b ha hb
  · intro a _; simp [ch_zero, com_zero, cont, contT]
  · intro a b ha hb ih
    rw [ch_step a b (by omega) (by omega), com_step a b (by omega) (by omega)]
    obtain ⟨h1, h2⟩ := ih
    refine ⟨?_, h1⟩
    have e := Int.emod_add_mul_ediv a b
    show a = com b (a % b) * ((a / b) * (cont (ch b (a % b))).1 + (cont (ch b (a % b))).2)
    rw [Int.mul_add, ← h2, Int.mul_left_comm, ← h1, Int.mul_comm (a / b) b]
    omega
theorem com_pos (a b : Int) (ha : 0 ≤ a) (hb : 0 ≤ b) (h : a ≠ 0 ∨ b ≠ 0) : 0 < com a b := by
  refine euclid (P := fun a b => (a ≠ 0 ∨ b ≠ 0) → 0 < com a b) ?_ ?_ a b ha hb h
  · intro a ha h; rw [com_zero]; omega
  · intro a b _ hb ih _
    rw [com_step a b (by omega) (by omega)]
    exact ih (by omega)
/-- the chain has but few quotients -/
theorem ch_length (n : Nat) : ∀ a b : Int, 0 ≤ b → b < a → b < 2 ^ n → (ch a b).length ≤ 2 * n := by
  induction n with
  | zero =>
    intro a b h0 _ h1
    have : b = 0 := by simp at h1; omega
    subst this; simp [ch_zero]
  | succ n ih =>
    intro a b h0 hab h1
    by_cases hb : b = 0
    · subst hb; simp [ch_zero]
    · rw [ch_step a b h0 hb]
      have m1 := mod_small a b h0 hb
      by_cases hm : a % b = 0
      · rw [hm, ch_zero]; simp; omega
      · rw [ch_step b (a % b) m1.1 hm]
        have m2 := mod_small b (a % b) m1.1 hm
        have hlt : b % (a % b) < 2 ^ n := by
          have e := Int.emod_add_mul_ediv b (a % b)
          have hq : 1 ≤ b / (a % b) := Int.le_ediv_of_mul_le (by omega) (by omega)
          have hq2 : (a % b) * 1 ≤ (a % b) * (b / (a % b)) := Int.mul_le_mul_of_nonneg_left hq (by omega)
          rw [Int.pow_succ] at h1
          omega
        have := ih (a % b) (b % (a % b)) m2.1 m2.2 hlt
        simp only [List.length_cons]; omega
/-- what the chain's quotients are -/
theorem ch_pos (a b : Int) (ha : 0 ≤ a) (hb : 0 ≤ b) : (∀ q ∈ ch a b, 0 ≤ q ∧ q ≤ a ∨ 0 ≤ q ∧ q ≤ b) ∧ ∀ q ∈ (ch a b).drop 1, 1 ≤ q := by
  refine euclid (P := fun a b => (∀ q ∈ ch a b, 0 ≤ q ∧ q ≤ a ∨ 0 ≤ q ∧ q ≤ b) ∧ ∀ q ∈ (ch a b).drop 1, 1 ≤ q) ?_ ?_ a b ha hb
  · intro a _; simp [ch_zero]
  · intro a b ha hb ih
    rw [ch_step a b (by omega) (by omega)]
    have m1 := mod_small a b (by omega) (by omega)
    have d0 : 0 ≤ a / b := Int.ediv_nonneg ha (by omega)
    have d1 : a / b ≤ a := Int.ediv_le_self _ ha
    refine ⟨fun q hq => ?_, fun q hq => ?_⟩
    · rcases List.mem_cons.1 hq with rfl | hq
      · exact .inl ⟨d0, d1⟩
      · rcases ih.1 q hq with h | h <;> omega
    · simp only [List.drop_succ_cons, List.drop_zero] at hq
      by_cases hm : a % b = 0
      · rw [hm, ch_zero] at hq; simp at hq
      · rw [ch_step b (a % b) m1.1 hm] at hq ih
        rcases List.mem_cons.1 hq with rfl | hq
        · exact Int.le_ediv_of_mul_le (by omega) (by omega)
        · exact ih.2 q (by simpa using hq)

/-- a list of quotients that ChainBack takes: all but the first at least 1 -/
def Good : List Int → Prop
  | [] => True
  | q :: qs => 0 ≤ q ∧ ∀ x ∈ qs, 1 ≤ x
theorem good_tail {q : Int} {qs : List Int} (h : Good (q :: qs)) : Good qs := by
  cases qs with
  | nil => trivial
  | cons x xs => exact ⟨by have := h.2 x (by simp); omega, fun y hy => h.2 y (by simp [hy])⟩
theorem good_ch (a b : Int) (ha : 0 ≤ a) (hb : 0 ≤ b) : Good (ch a b) := by
  have := ch_pos a b ha hb
  cases h : ch a b with
  | nil => trivial
  | cons q qs =>
    rw [h] at this
    exact ⟨by rcases this.1 q (by simp) with h | h <;> omega, fun x hx => this.2 x (by simpa using hx)⟩
theorem good_take (l : List Int) (k : Nat) (h : Good l) : Good (l.take k) := by
  cases l with
  | nil => simpa using h
  | cons q qs =>
    cases k with
    | zero => trivial
    | succ k => exact ⟨h.1, fun x hx => h.2 x (List.mem_of_mem_take hx)⟩
/-- of a list without a first 0: both are at least 0, the first at least 1; the second is less, but for 1 alone -/
theorem cont_ge (l : List Int) (h : ∀ x ∈ l, 1 ≤ x) : 1 ≤ (cont l).1 ∧ 0 ≤ (cont l).2 ∧ (cont l).2 ≤ (cont l).1 ∧ (l ≠ [] → 1 ≤ (cont l).2) ∧ (l ≠ [1] → (cont l).2 < (cont l).1) := by
  induction l with
  | nil => simp [cont, contT]
  | cons q qs ih =>
    obtain ⟨i1, i2, i3, i4, i5⟩ := ih (fun x hx => h x (by simp [hx]))
    have hq := h q (by simp)
    have e1 : (cont (q :: qs)).1 = q * (cont qs).1 + (cont qs).2 := rfl
    have e2 : (cont (q :: qs)).2 = (cont qs).1 := rfl
    have m : 1 * (cont qs).1 ≤ q * (cont qs).1 := Int.mul_le_mul_of_nonneg_right hq (by omega)
    rw [e1, e2]
    refine ⟨by omega, by omega, by omega, fun _ => i1, fun hne => ?_⟩
    cases qs with
    | nil =>
      have : q ≠ 1 := fun e => hne (by rw [e])
      have m2 : 2 * (cont ([] : List Int)).1 ≤ q * (cont ([] : List Int)).1 := Int.mul_le_mul_of_nonneg_right (by omega) (by omega)
      omega
    | cons x xs => have := i4 (by simp); omega
theorem cont_range (l : List Int) (h : Good l) : 0 ≤ (cont l).1 ∧ 0 ≤ (cont l).2 ∧ ((cont l).1 ≠ 0 ∨ (cont l).2 ≠ 0) := by
  cases l with
  | nil => simp [cont, contT]
  | cons q qs =>
    obtain ⟨i1, i2, _⟩ := cont_ge qs h.2
    have e1 : (cont (q :: qs)).1 = q * (cont qs).1 + (cont qs).2 := rfl
    have e2 : (cont (q :: qs)).2 = (cont qs).1 := rfl
    have m : 0 ≤ q * (cont qs).1 := Int.mul_nonneg h.1 (by omega)
    rw [e1, e2]
    omega
theorem com_cont (l : List Int) (h : Good l) : com (cont l).1 (cont l).2 = 1 := by
  induction l with
  | nil => simp [cont, contT, com_zero]
  | cons q qs ih =>
    obtain ⟨i1, i2, i3, i4, i5⟩ := cont_ge qs h.2
    have e1 : (cont (q :: qs)).1 = q * (cont qs).1 + (cont qs).2 := rfl
    have e2 : (cont (q :: qs)).2 = (cont qs).1 := rfl
    rw [e1, e2, com_step _ _ (by omega) (by omega)]
    by_cases hq : qs = [1]
    · subst hq
      have : cont [1] = (1, 1) := by simp [cont, contT, ahead]
      rw [this]
      simp [com_zero]
    · have hlt := i5 hq
      rw [Int.add_comm (q * _), Int.mul_comm q, Int.add_mul_emod_self_left, Int.emod_eq_of_lt i2 hlt]
      exact ih (good_tail h)
/-- the chain of the two integers is the list, but where its last quotient is 1 -/
theorem ch_cont (l : List Int) (h : Good l) (hlast : l.length ≤ 1 ∨ l.getLast? ≠ some 1) : ch (cont l).1 (cont l).2 = l := by
  induction l with
  | nil => simp [cont, contT, ch_zero]
  | cons q qs ih =>
    obtain ⟨i1, i2, i3, i4, i5⟩ := cont_ge qs h.2
    have e1 : (cont (q :: qs)).1 = q * (cont qs).1 + (cont qs).2 := rfl
    have e2 : (cont (q :: qs)).2 = (cont qs).1 := rfl
    have hq : qs ≠ [1] := by
      rintro rfl
      simp at hlast
    have hlt := i5 hq
    rw [e1, e2, ch_step _ _ (by omega) (by omega)]
    rw [Int.add_comm (q * _), Int.mul_comm q, Int.add_mul_emod_self_left, Int.emod_eq_of_lt i2 hlt, Int.add_mul_ediv_left _ _ (by omega), Int.ediv_eq_zero_of_lt i2 hlt]
    rw [ih (good_tail h) ?_]
    · simp
    · cases qs with
      | nil => exact .inl (by simp)
      | cons x xs =>
        refine .inr ?_
        rcases hlast with h1 | h1
        · simp at h1
        · simpa using h1

end Go.Proofs.Ytphokfdaimbaiaa.Gl
