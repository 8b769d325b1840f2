/-
  Plain lists of counters: values, digits, carries, with no program in sight.
-/
namespace Go.Proofs.Ytknjnlkamhbmgaa.Bd

/-- how many counters of a place make one of the next: 5 at a line (true), 2 in a space (false) -/
def full (b : Bool) : Int := if b then 5 else 2
def V : Bool → List Int → Int
  | _, [] => 0
  | b, x :: xs => x + full b * V (!b) xs
def isRed : Bool → List Int → Bool
  | _, [] => true
  | b, x :: xs => decide (x < full b) && isRed (!b) xs
def D : Bool → Nat → Int → List Int
  | _, 0, _ => []
  | b, n + 1, v => v % full b :: D (!b) n (v / full b)
/-- the sum of all carries -/
def R : Bool → Int → List Int → Int
  | _, _, [] => 0
  | b, c, x :: xs => (x + c) / full b + R (!b) ((x + c) / full b) xs
/-- the last carry -/
def C : Bool → Int → List Int → Int
  | _, c, [] => c
  | b, c, x :: xs => C (!b) ((x + c) / full b) xs
def sum : List Int → Int
  | [] => 0
  | x :: xs => x + sum xs
def allIn (xs : List Int) : Bool := xs.all fun x => decide (0 ≤ x) && decide (x ≤ 20)
def okB (xs : List Int) : Bool := (xs.length == 10) && allIn xs
def P : Bool → Nat → Int
  | _, 0 => 1
  | b, n + 1 => full b * P (!b) n

theorem full_cases (b : Bool) : full b = 5 ∨ full b = 2 := by cases b <;> simp [full]
theorem full_pos (b : Bool) : 0 < full b := by rcases full_cases b with h | h <;> omega

theorem allIn_iff (xs : List Int) : allIn xs = true ↔ ∀ x ∈ xs, 0 ≤ x ∧ x ≤ 20 := by simp [allIn]
theorem allIn_cons (x : Int) (xs : List Int) : allIn (x :: xs) = true ↔ (0 ≤ x ∧ x ≤ 20) ∧ allIn xs = true := by simp [allIn]
theorem okB_iff (xs : List Int) : okB xs = true ↔ xs.length = 10 ∧ ∀ x ∈ xs, 0 ≤ x ∧ x ≤ 20 := by simp [okB, allIn]

theorem D_length (n : Nat) : ∀ b v, (D b n v).length = n := by
  induction n with
  | zero => intro b v; rfl
  | succ n ih => intro b v; simp [D, ih]

theorem P_pos (n : Nat) : ∀ b, 0 < P b n := by
  induction n with
  | zero => intro b; simp [P]
  | succ n ih => intro b; simp only [P]; exact Int.mul_pos (full_pos b) (ih _)

/-- digits have their value back -/
theorem V_D (n : Nat) : ∀ b v, 0 ≤ v → v < P b n → V b (D b n v) = v := by
  induction n with
  | zero => intro b v h0 h1; simp [P] at h1; simp [D, V]; omega
  | succ n ih =>
    intro b v h0 h1
    have hf := full_pos b
    have h2 : v / full b < P (!b) n := Int.ediv_lt_of_lt_mul hf (by rw [Int.mul_comm]; simpa [P] using h1)
    have h3 : 0 ≤ v / full b := Int.ediv_nonneg h0 (by omega)
    simp only [D, V, ih _ _ h3 h2]
    exact Int.emod_add_mul_ediv v (full b)

theorem red_D (n : Nat) : ∀ b v, isRed b (D b n v) = true := by
  induction n with
  | zero => intro b v; rfl
  | succ n ih =>
    intro b v
    have := Int.emod_lt_of_pos v (full_pos b)
    simp [D, isRed, ih, this]

theorem D_range (n : Nat) : ∀ b v, ∀ x ∈ D b n v, 0 ≤ x ∧ x ≤ 20 := by
  induction n with
  | zero => intro b v x hx; simp [D] at hx
  | succ n ih =>
    intro b v x hx
    rcases List.mem_cons.1 hx with rfl | h
    · have h1 : 0 ≤ v % full b := Int.emod_nonneg v (by have := full_pos b; omega)
      have h2 := Int.emod_lt_of_pos v (full_pos b)
      rcases full_cases b with h | h <;> rw [h] at h1 h2 ⊢ <;> omega
    · exact ih _ _ x h

theorem okB_D (v : Int) : okB (D true 10 v) = true := (okB_iff _).2 ⟨D_length _ _ _, D_range _ _ _⟩

/-- carrying is taking the digits of the value -/
def N : Bool → Int → List Int → List Int
  | _, _, [] => []
  | b, c, x :: xs => (x + c) % full b :: N (!b) ((x + c) / full b) xs

theorem D_eq_N (xs : List Int) : ∀ b c, D b xs.length (V b xs + c) = N b c xs := by
  induction xs with
  | nil => intro b c; rfl
  | cons x xs ih =>
    intro b c
    have hf := full_pos b
    have e : V b (x :: xs) + c = (x + c) + full b * V (!b) xs := by simp only [V]; omega
    simp only [List.length_cons, D, N, e]
    rw [Int.add_mul_emod_self_left, Int.add_mul_ediv_left _ _ (by omega)]
    rw [show (x + c) / full b + V (!b) xs = V (!b) xs + (x + c) / full b from Int.add_comm _ _, ih]

theorem N_length (xs : List Int) : ∀ b c, (N b c xs).length = xs.length := by
  induction xs with
  | nil => intro b c; rfl
  | cons x xs ih => intro b c; simp [N, ih]

theorem V_N (xs : List Int) : ∀ b c, V b xs + c = V b (N b c xs) + P b xs.length * C b c xs := by
  induction xs with
  | nil => intro b c; simp [V, N, P, C]
  | cons x xs ih =>
    intro b c
    have h := ih (!b) ((x + c) / full b)
    have e := Int.emod_add_mul_ediv (x + c) (full b)
    simp only [V, N, List.length_cons, P, C]
    have h2 : full b * (V (!b) xs + (x + c) / full b) = full b * (V (!b) (N (!b) ((x + c) / full b) xs) + P (!b) xs.length * C (!b) ((x + c) / full b) xs) := by rw [h]
    rw [Int.mul_add, Int.mul_add] at h2
    rw [Int.mul_assoc]
    omega

theorem C_nonneg (xs : List Int) : ∀ b c, 0 ≤ c → (∀ x ∈ xs, 0 ≤ x) → 0 ≤ C b c xs := by
  induction xs with
  | nil => intro b c h _; exact h
  | cons x xs ih =>
    intro b c h hx
    exact ih _ _ (Int.ediv_nonneg (by have := hx x (by simp); omega) (by have := full_pos b; omega)) (fun y hy => hx y (by simp [hy]))

theorem R_nonneg (xs : List Int) : ∀ b c, 0 ≤ c → (∀ x ∈ xs, 0 ≤ x) → 0 ≤ R b c xs := by
  induction xs with
  | nil => intro b c h _; exact Int.le_refl _
  | cons x xs ih =>
    intro b c h hx
    have h1 : 0 ≤ (x + c) / full b := Int.ediv_nonneg (by have := hx x (by simp); omega) (by have := full_pos b; omega)
    have := ih (!b) _ h1 (fun y hy => hx y (by simp [hy]))
    simp only [R]; omega

/-- what carrying takes away lies between the carries and four times them -/
theorem R_sum (xs : List Int) : ∀ b c, 0 ≤ c → (∀ x ∈ xs, 0 ≤ x) →
    R b c xs + C b c xs ≤ sum xs + c - sum (N b c xs) ∧ sum xs + c - sum (N b c xs) ≤ 4 * R b c xs + C b c xs := by
  induction xs with
  | nil => intro b c h _; simp [sum, N, R, C]
  | cons x xs ih =>
    intro b c h hx
    have h1 : 0 ≤ (x + c) / full b := Int.ediv_nonneg (by have := hx x (by simp); omega) (by have := full_pos b; omega)
    have h2 := ih (!b) _ h1 (fun y hy => hx y (by simp [hy]))
    have e := Int.emod_add_mul_ediv (x + c) (full b)
    simp only [sum, N, R, C]
    generalize hq : (x + c) / full b = q at *
    generalize (x + c) % full b = r at *
    have e2 : full b * q = 5 * q ∨ full b * q = 2 * q := by rcases full_cases b with hb | hb <;> rw [hb] <;> simp
    generalize full b * q = s at *
    omega

theorem R_zero (xs : List Int) : ∀ b c, 0 ≤ c → (∀ x ∈ xs, 0 ≤ x) → (R b c xs = 0 ↔ R b c xs ≤ 0) := by
  intro b c h hx
  have := R_nonneg xs b c h hx
  omega

theorem R_red (xs : List Int) : ∀ b, (∀ x ∈ xs, 0 ≤ x) → (R b 0 xs = 0 ↔ isRed b xs = true) := by
  induction xs with
  | nil => intro b _; simp [R, isRed]
  | cons x xs ih =>
    intro b hx
    have hf := full_pos b
    have h0 := hx x (by simp)
    have hx' : ∀ y ∈ xs, 0 ≤ y := fun y hy => hx y (by simp [hy])
    have h1 : 0 ≤ x / full b := Int.ediv_nonneg h0 (by omega)
    simp only [R, isRed, Int.add_zero, Bool.and_eq_true, decide_eq_true_eq]
    have hR := R_nonneg xs (!b) _ h1 hx'
    constructor
    · intro h
      have hz : x / full b = 0 := by omega
      have hlt : x < full b := by
        rcases full_cases b with hb | hb <;> rw [hb] at hz ⊢ <;> omega
      refine ⟨hlt, (ih _ hx').1 ?_⟩
      rw [hz] at h
      simpa using h
    · rintro ⟨hlt, hr⟩
      have hz : x / full b = 0 := Int.ediv_eq_zero_of_lt h0 hlt
      rw [hz, (ih _ hx').2 hr]; rfl

theorem C_red (xs : List Int) : ∀ b, (∀ x ∈ xs, 0 ≤ x) → isRed b xs = true → C b 0 xs = 0 ∧ N b 0 xs = xs := by
  induction xs with
  | nil => intro b _ _; exact ⟨rfl, rfl⟩
  | cons x xs ih =>
    intro b hx hr
    simp only [isRed, Bool.and_eq_true, decide_eq_true_eq] at hr
    have h0 := hx x (by simp)
    have hz : x / full b = 0 := Int.ediv_eq_zero_of_lt h0 hr.1
    have hm : x % full b = x := Int.emod_eq_of_lt h0 hr.1
    have := ih (!b) (fun y hy => hx y (by simp [hy])) hr.2
    simp only [C, N, Int.add_zero, hz, hm]
    exact ⟨this.1, by rw [this.2]⟩

theorem V_nonneg (xs : List Int) : ∀ b, (∀ x ∈ xs, 0 ≤ x) → 0 ≤ V b xs := by
  induction xs with
  | nil => intro b _; exact Int.le_refl _
  | cons x xs ih =>
    intro b hx
    have h0 := hx x (by simp)
    have := ih (!b) (fun y hy => hx y (by simp [hy]))
    have := Int.mul_nonneg (Int.le_of_lt (full_pos b)) this
    simp only [V]; omega

theorem V_lt_of_red (xs : List Int) : ∀ b, isRed b xs = true → V b xs < P b xs.length := by
  induction xs with
  | nil => intro b _; simp [V, P]
  | cons x xs ih =>
    intro b hr
    simp only [isRed, Bool.and_eq_true, decide_eq_true_eq] at hr
    have h := ih (!b) hr.2
    have : full b * (V (!b) xs + 1) ≤ full b * P (!b) xs.length := Int.mul_le_mul_of_nonneg_left (by omega) (Int.le_of_lt (full_pos b))
    rw [Int.mul_add] at this
    simp only [V, List.length_cons, P]; omega

theorem P10 : P true 10 = 100000 := by decide

/-- a reduced board is the digits of its value -/
theorem red_eq_D (xs : List Int) (b : Bool) (hx : ∀ x ∈ xs, 0 ≤ x) (hr : isRed b xs = true) : xs = D b xs.length (V b xs) := by
  have := D_eq_N xs b 0
  rw [Int.add_zero] at this
  rw [this, (C_red xs b hx hr).2]

theorem C_zero_of_small (xs : List Int) (h : okB xs = true) (hv : V true xs ≤ 99999) : C true 0 xs = 0 := by
  obtain ⟨hl, hx⟩ := (okB_iff xs).1 h
  have h1 := V_N xs true 0
  rw [hl, P10] at h1
  have h2 := C_nonneg xs true 0 (Int.le_refl _) (fun x hx' => (hx x hx').1)
  have h3 : 0 ≤ V true (N true 0 xs) := by
    rw [← D_eq_N]
    exact V_nonneg _ _ fun x hx => (D_range _ _ _ x hx).1
  omega

/-! the lists behind a raise and a lowering -/
def worth : Nat → Int
  | 0 => 1
  | p + 1 => worth p * (if p % 2 = 0 then 5 else 2)
def grp (p : Nat) : Int := if p % 2 = 0 then 5 else 2
def nthG : Bool → Nat → Int
  | b, 0 => full b
  | b, p + 1 => nthG (!b) p
theorem nthG_par (p : Nat) : ∀ b, nthG b p = if (p % 2 = 0) = (b = true) then 5 else 2 := by
  induction p with
  | zero => intro b; cases b <;> simp [nthG, full]
  | succ p ih => intro b; rw [nthG, ih]; rcases Nat.mod_two_eq_zero_or_one p with h | h <;> cases b <;> simp [h, Nat.add_mod]
theorem nthG_grp (p : Nat) : nthG true p = grp p := by rw [nthG_par]; simp [grp]
def W : Bool → Nat → Int
  | _, 0 => 1
  | b, p + 1 => full b * W (!b) p
theorem W_succ (p : Nat) : ∀ b, W b (p + 1) = W b p * nthG b p := by
  induction p with
  | zero => intro b; simp [W, nthG]
  | succ p ih => intro b; rw [W, ih, W, nthG, Int.mul_assoc]
theorem W_worth (p : Nat) : W true p = worth p := by
  induction p with
  | zero => rfl
  | succ p ih => rw [W_succ, ih, nthG_grp]; rfl

theorem V_set (xs : List Int) : ∀ b (p : Nat) (d : Int), p < xs.length → V b (xs.set p (xs.getD p 0 + d)) = V b xs + d * W b p := by
  induction xs with
  | nil => intro b p d h; simp at h
  | cons x xs ih =>
    intro b p d h
    cases p with
    | zero => simp [V, W]; omega
    | succ p =>
      have := ih (!b) p d (by simpa using h)
      simp only [List.set_cons_succ, List.getD_cons_succ, V, W, this, Int.mul_add]
      rw [show full b * (d * W (!b) p) = d * (full b * W (!b) p) from by rw [← Int.mul_assoc, ← Int.mul_assoc, Int.mul_comm (full b) d]]
      omega

theorem sum_set (xs : List Int) : ∀ (p : Nat) (d : Int), p < xs.length → sum (xs.set p (xs.getD p 0 + d)) = sum xs + d := by
  induction xs with
  | nil => intro p d h; simp at h
  | cons x xs ih =>
    intro p d h
    cases p with
    | zero => simp [sum]; omega
    | succ p =>
      have := ih p d (by simpa using h)
      simp only [List.set_cons_succ, List.getD_cons_succ, sum, this]; omega

/-- n counters from one place to the next -/
def move (xs : List Int) (p : Nat) (n m : Int) : List Int := (xs.set p (xs.getD p 0 + n)).set (p + 1) ((xs.set p (xs.getD p 0 + n)).getD (p + 1) 0 + m)
theorem move_length (xs : List Int) (p : Nat) (n m : Int) : (move xs p n m).length = xs.length := by simp [move]
theorem V_move (xs : List Int) (b : Bool) (p : Nat) (m : Int) (h : p + 1 < xs.length) : V b (move xs p (0 - m * nthG b p) m) = V b xs := by
  unfold move
  rw [V_set _ _ _ _ (by simpa using h), V_set _ _ _ _ (by omega), W_succ, Int.sub_mul, Int.mul_assoc, Int.mul_comm (nthG b p)]
  omega
theorem sum_move (xs : List Int) (p : Nat) (n m : Int) (h : p + 1 < xs.length) : sum (move xs p n m) = sum xs + n + m := by
  unfold move
  rw [sum_set _ _ _ (by simpa using h), sum_set _ _ _ (by omega)]
theorem move_back (xs : List Int) (p : Nat) (n m : Int) (h : p + 1 < xs.length) : move (move xs p n m) p (0 - n) (0 - m) = xs := by
  apply List.ext_getElem (by simp [move])
  intro i h1 h2
  have hp : p < xs.length := by omega
  have hne : p ≠ p + 1 := by omega
  have hne' : p + 1 ≠ p := by omega
  simp only [move, List.getElem_set, List.getD_eq_getElem?_getD, List.getElem?_set, List.length_set]
  by_cases h3 : p + 1 = i
  · subst h3
    simp [h]; omega
  · by_cases h4 : p = i
    · subst h4
      simp [hp]; omega
    · simp [h3, h4]
theorem move_succ (x : Int) (xs : List Int) (p : Nat) (n m : Int) : move (x :: xs) (p + 1) n m = x :: move xs p n m := by simp [move]
theorem move_zero (x y : Int) (xs : List Int) (n m : Int) : move (x :: y :: xs) 0 n m = (x + n) :: (y + m) :: xs := by simp [move]
theorem R_move (p : Nat) : ∀ (b : Bool) (c : Int) (xs : List Int), p + 1 < xs.length → R b c (move xs p (0 - nthG b p) 1) = R b c xs - 1 := by
  induction p with
  | zero =>
    intro b c xs h
    match xs, h with
    | x :: y :: xs, _ =>
      have e : (x + (0 - full b) + c) / full b = (x + c) / full b - 1 := by
        rw [show x + (0 - full b) + c = (x + c) + full b * (-1) from by omega, Int.add_mul_ediv_left _ _ (by have := full_pos b; omega)]
        omega
      simp only [move_zero, nthG, R, e]
      rw [show y + 1 + ((x + c) / full b - 1) = y + (x + c) / full b from by omega]
      omega
  | succ p ih =>
    intro b c xs h
    match xs, h with
    | x :: xs, h =>
      simp only [move_succ, nthG, R]
      rw [ih _ _ _ (by simpa using h)]
      omega

/-! loops over the places -/
theorem worth_range : ∀ k, k ≤ 10 → 1 ≤ worth k ∧ worth k ≤ 100000 := by decide
theorem worth_succ (k : Nat) : worth (k + 1) = worth k * grp k := rfl
theorem grp_cases (k : Nat) : grp k = 5 ∨ grp k = 2 := by unfold grp; split <;> simp
theorem V_snoc (l : List Int) (x : Int) : ∀ b, V b (l ++ [x]) = V b l + x * W b l.length := by
  induction l with
  | nil => intro b; simp [V, W]
  | cons y ys ih =>
    intro b
    simp only [List.cons_append, V, ih, List.length_cons, W, Int.mul_add]
    rw [Int.mul_left_comm]
    omega
theorem take_next {xs : List Int} {k : Nat} {u : Int} (h : xs[k]? = some u) : xs.take (k + 1) = xs.take k ++ [u] := by rw [List.take_add_one, h]; rfl
theorem V_take {xs : List Int} {k : Nat} {u : Int} (h : xs[k]? = some u) : V true (xs.take (k + 1)) = V true (xs.take k) + u * worth k := by
  have hk := (List.getElem?_eq_some_iff.1 h).1
  rw [take_next h, V_snoc, List.length_take, show min k xs.length = k from by omega, W_worth]
theorem sum_snoc (l : List Int) (x : Int) : sum (l ++ [x]) = sum l + x := by
  induction l with
  | nil => simp [sum]
  | cons y ys ih => simp only [List.cons_append, sum, ih]; omega
theorem sum_take {xs : List Int} {k : Nat} {u : Int} (h : xs[k]? = some u) : sum (xs.take (k + 1)) = sum (xs.take k) + u := by rw [take_next h, sum_snoc]
theorem term_range {u : Int} {k : Nat} (h0 : 0 ≤ u) (h1 : u ≤ 20) (hk : k ≤ 10) : 0 ≤ u * worth k ∧ u * worth k ≤ 2000000 := by
  obtain ⟨w0, w1⟩ := worth_range k hk
  have a := Int.mul_nonneg h0 (by omega : 0 ≤ worth k)
  have b : u * worth k ≤ 20 * worth k := Int.mul_le_mul_of_nonneg_right h1 (by omega)
  omega
theorem V_take_range {xs : List Int} (hx : ∀ x ∈ xs, 0 ≤ x ∧ x ≤ 20) : ∀ k, k ≤ 10 → k ≤ xs.length → 0 ≤ V true (xs.take k) ∧ V true (xs.take k) ≤ 2000000 * k := by
  intro k
  induction k with
  | zero => intro _ _; simp [V]
  | succ k ih =>
    intro h1 h2
    have hu : xs[k]? = some xs[k] := List.getElem?_eq_getElem (by omega)
    have := ih (by omega) (by omega)
    have hm := hx xs[k] (List.getElem_mem _)
    have := term_range hm.1 hm.2 (by omega : k ≤ 10)
    rw [V_take hu]
    omega
theorem sum_take_range {xs : List Int} (hx : ∀ x ∈ xs, 0 ≤ x ∧ x ≤ 20) : ∀ k, k ≤ xs.length → 0 ≤ sum (xs.take k) ∧ sum (xs.take k) ≤ 20 * k := by
  intro k
  induction k with
  | zero => intro _; simp [sum]
  | succ k ih =>
    intro h2
    have hu : xs[k]? = some xs[k] := List.getElem?_eq_getElem (by omega)
    have := ih (by omega)
    have hm := hx xs[k] (List.getElem_mem _)
    rw [sum_take hu]
    omega
theorem isRed_iff (xs : List Int) : ∀ b, isRed b xs = true ↔ ∀ (k : Nat) u, xs[k]? = some u → u < nthG b k := by
  induction xs with
  | nil => intro b; simp [isRed]
  | cons x xs ih =>
    intro b
    simp only [isRed, Bool.and_eq_true, decide_eq_true_eq, ih]
    constructor
    · rintro ⟨h1, h2⟩ k u hu
      cases k with
      | zero => simp at hu; subst hu; exact h1
      | succ k => exact h2 k u (by simpa using hu)
    · intro h
      exact ⟨h 0 x rfl, fun k u hu => h (k + 1) u (by simpa using hu)⟩
theorem isRed_true (xs : List Int) : isRed true xs = true ↔ ∀ (k : Nat) u, xs[k]? = some u → u < grp k := by
  rw [isRed_iff]; simp only [nthG_grp]
theorem isRed_no {xs : List Int} {k : Nat} {u : Int} (h : xs[k]? = some u) (hu : grp k ≤ u) : isRed true xs = false := by
  cases hb : isRed true xs with
  | false => rfl
  | true => have := (isRed_true xs).1 hb k u h; omega
theorem isRed_yes {xs : List Int} {n : Nat} (hl : xs.length = n) (h : ∀ (k : Nat) u, k < n → xs[k]? = some u → u < grp k) : isRed true xs = true :=
  (isRed_true xs).2 fun k u hu => h k u (by have := (List.getElem?_eq_some_iff.1 hu).1; omega) hu

/-! the digits from the last place down, as the program takes them -/
theorem D_get (n : Nat) : ∀ b v (k : Nat), 0 ≤ v → k < n → (D b n v)[k]? = some (v / W b k % nthG b k) := by
  induction n with
  | zero => intro b v k _ h; omega
  | succ n ih =>
    intro b v k h0 h
    cases k with
    | zero => simp [D, W, nthG]
    | succ k =>
      rw [D, List.getElem?_cons_succ, ih _ _ k (Int.ediv_nonneg h0 (by have := full_pos b; omega)) (by omega), W, nthG, Int.ediv_ediv_of_nonneg (by have := full_pos b; omega)]
theorem W_pos (k : Nat) : ∀ b, 0 < W b k := by
  induction k with
  | zero => intro b; simp [W]
  | succ k ih => intro b; exact Int.mul_pos (full_pos b) (ih _)
/-- the digit at a place of what the greater places have left -/
theorem dig_down (v : Int) (k : Nat) (hk : k < 10) : (v % worth (k + 1)) / worth k = v / worth k % grp k ∧ (v % worth (k + 1)) % worth k = v % worth k := by
  have hw := worth_range k (by omega)
  rw [worth_succ]
  refine ⟨?_, ?_⟩
  · rw [Int.emod_def v (worth k * grp k), Int.mul_assoc, Int.sub_eq_add_neg, ← Int.mul_neg, Int.add_mul_ediv_left _ _ (by omega), ← Int.ediv_ediv_of_nonneg (by omega), Int.emod_def]
    omega
  · exact Int.emod_emod_of_dvd v (Int.dvd_mul_right _ _)
theorem D10_get (v : Int) (k : Nat) (h0 : 0 ≤ v) (hk : k < 10) : (D true 10 v)[k]? = some (v / worth k % grp k) := by
  rw [D_get 10 true v k h0 hk, W_worth, nthG_grp]

/-! raising from place to place -/
theorem R_moves (p : Nat) : ∀ (b : Bool) (c n : Int) (xs : List Int), p + 1 < xs.length → R b c (move xs p (0 - n * nthG b p) n) = R b c xs - n := by
  induction p with
  | zero =>
    intro b c n xs h
    match xs, h with
    | x :: y :: xs, _ =>
      have e : (x + (0 - n * full b) + c) / full b = (x + c) / full b - n := by
        rw [show x + (0 - n * full b) + c = (x + c) + full b * (0 - n) from by rw [Int.mul_sub, Int.mul_comm n]; omega, Int.add_mul_ediv_left _ _ (by have := full_pos b; omega)]
        omega
      simp only [move_zero, nthG, R, e]
      rw [show y + n + ((x + c) / full b - n) = y + (x + c) / full b from by omega]
      omega
  | succ p ih =>
    intro b c n xs h
    match xs, h with
    | x :: xs, h =>
      simp only [move_succ, nthG, R]
      rw [ih _ _ _ _ (by simpa using h)]
      omega
/-- what holds of the counters behind p places -/
structure Raised (xs : List Int) (p : Nat) (l : List Int) (r : Int) : Prop where
  len : l.length = xs.length
  all : ∀ (j : Nat) u, l[j]? = some u → 0 ≤ u ∧ u ≤ 40 ∧ (p < j → u ≤ 20) ∧ (j < p → u < grp j)
  val : V true l = V true xs
  sum : R true 0 l + r = R true 0 xs
  low : 0 ≤ r
  high : r ≤ 20 * p
theorem Raised.start {xs : List Int} (hx : ∀ x ∈ xs, 0 ≤ x ∧ x ≤ 20) : Raised xs 0 xs 0 :=
  ⟨rfl, fun j u hu => by have := hx u (List.mem_of_getElem? hu); exact ⟨by omega, by omega, fun _ => by omega, fun h => by omega⟩, rfl, by omega, by omega, by omega⟩
theorem Raised.next {xs l : List Int} {p : Nat} {r u v : Int} (h : Raised xs p l r) (hp : p + 1 < xs.length) (hu : l[p]? = some u) (hv : l[p + 1]? = some v) :
    Raised xs (p + 1) ((l.set p (u - u / grp p * grp p)).set (p + 1) (v + u / grp p)) (r + u / grp p) := by
  obtain ⟨hl, hall, hval, hsum, hlow, hhigh⟩ := h
  have hu' := hall p u hu
  have hv' := hall (p + 1) v hv
  have hm : (l.set p (u - u / grp p * grp p)).set (p + 1) (v + u / grp p) = move l p (0 - u / grp p * nthG true p) (u / grp p) := by
    unfold move
    have e1 : l.getD p 0 = u := by rw [List.getD_eq_getElem?_getD, hu]; rfl
    have e2 : (l.set p (u + (0 - u / grp p * nthG true p))).getD (p + 1) 0 = v := by
      rw [List.getD_eq_getElem?_getD, List.getElem?_set_ne (by omega), hv]; rfl
    rw [e1, e2, nthG_grp]
    congr 2
    omega
  have hn : 0 ≤ u / grp p ∧ u / grp p ≤ 20 ∧ 0 ≤ u - u / grp p * grp p ∧ u - u / grp p * grp p < grp p ∧ grp p ≤ 5 := by
    rcases grp_cases p with h | h <;> rw [h] <;> omega
  refine ⟨by simp [hl], fun j y hy => ?_, by rw [hm, V_move l true p _ (by omega), hval], ?_, by omega, by omega⟩
  · rw [List.getElem?_set, List.getElem?_set] at hy
    have := hv'.2.2.1 (by omega)
    split at hy
    · next hj =>
      subst hj
      split at hy
      · simp at hy; subst hy; exact ⟨by omega, by omega, fun h => by omega, fun h => by omega⟩
      · cases hy
    · next hj =>
      split at hy
      · next hj2 =>
        subst hj2
        split at hy
        · simp at hy; subst hy; exact ⟨by omega, by omega, fun h => by omega, fun _ => by omega⟩
        · cases hy
      · have := hall j y hy
        exact ⟨by omega, by omega, fun h => this.2.2.1 (by omega), fun h => this.2.2.2 (by omega)⟩
  · rw [hm, R_moves p true 0 _ _ (by omega)]
    omega
theorem Raised.done {xs l : List Int} {r : Int} (h : Raised xs 9 l r) (hl : xs.length = 10) (hv : V true xs ≤ 99999) : r = R true 0 xs := by
  obtain ⟨hl2, hall, hval, hsum, hlow, hhigh⟩ := h
  have hnn : ∀ x ∈ l, 0 ≤ x := fun x hx => by obtain ⟨j, hj⟩ := List.mem_iff_getElem?.1 hx; exact (hall j x hj).1
  have h9 : l[9]? = some l[9] := List.getElem?_eq_getElem (by omega)
  have hred : isRed true l = true := by
    refine (isRed_true l).2 fun k u hu => ?_
    have hk := (List.getElem?_eq_some_iff.1 hu).1
    by_cases hk9 : k < 9
    · exact (hall k u hu).2.2.2 hk9
    · obtain rfl : k = 9 := by omega
      have e := V_take hu
      rw [List.take_of_length_le (by omega)] at e
      have := V_nonneg (l.take 9) true (fun x hx => hnn x (List.mem_of_mem_take hx))
      have w9 : worth 9 = 50000 := rfl
      rw [w9] at e
      have : grp 9 = 2 := rfl
      omega
  have := (R_red l true hnn).2 hred
  omega

end Go.Proofs.Ytknjnlkamhbmgaa.Bd
