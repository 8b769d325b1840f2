/-
  Plain lists of denominators: their order, and the sum of their unit fractions; no program in sight.
-/
namespace Go.Proofs.Ytnljemgglmokjaa.Un

/-- each is greater than the one ahead and at most 1000000000 -/
def asc : Int → List Int → Bool
  | _, [] => true
  | a, x :: xs => decide (a < x) && decide (x ≤ 1000000000) && asc x xs
def okU (l : List Int) : Bool := decide (l.length ≤ 8) && asc 1 l
/-- at its place, behind an equal one -/
def ins (x : Int) : List Int → List Int
  | [] => [x]
  | y :: ys => if y ≤ x then y :: ins x ys else x :: y :: ys
def insAll (l : List Int) (b : List Int) : List Int := b.foldl (fun l x => ins x l) l
def num : List Int → Int
  | [] => 0
  | x :: xs => num xs * x + den xs
where den : List Int → Int
  | [] => 1
  | x :: xs => x * den xs
def den : List Int → Int := num.den

theorem den_nil : den [] = 1 := rfl
theorem den_cons (x : Int) (xs : List Int) : den (x :: xs) = x * den xs := rfl
theorem num_nil : num [] = 0 := rfl
theorem num_cons (x : Int) (xs : List Int) : num (x :: xs) = num xs * x + den xs := rfl

theorem ins_length (x : Int) (l : List Int) : (ins x l).length = l.length + 1 := by
  induction l with
  | nil => rfl
  | cons y ys ih => simp only [ins]; split <;> simp [ih]
theorem mem_ins (x z : Int) (l : List Int) : z ∈ ins x l ↔ z = x ∨ z ∈ l := by
  induction l with
  | nil => simp [ins]
  | cons y ys ih =>
    simp only [ins]
    split
    · rw [List.mem_cons, ih, List.mem_cons]
      constructor <;> (rintro (h | h | h) <;> simp [h])
    · rw [List.mem_cons]
theorem insAll_length (b : List Int) : ∀ l, (insAll l b).length = l.length + b.length := by
  induction b with
  | nil => intro l; rfl
  | cons x xs ih => intro l; simp only [insAll, List.foldl_cons] at ih ⊢; rw [ih, ins_length, List.length_cons]; omega
theorem mem_insAll (b : List Int) (z : Int) : ∀ l, z ∈ insAll l b ↔ z ∈ l ∨ z ∈ b := by
  induction b with
  | nil => intro l; simp [insAll]
  | cons x xs ih =>
    intro l
    simp only [insAll, List.foldl_cons] at ih ⊢
    rw [ih, mem_ins, List.mem_cons, or_assoc]
    exact or_left_comm

theorem den_ins (x : Int) (l : List Int) : den (ins x l) = x * den l := by
  induction l with
  | nil => rfl
  | cons y ys ih =>
    simp only [ins]
    split
    · rw [den_cons, ih, den_cons, Int.mul_left_comm]
    · rfl
theorem num_ins (x : Int) (l : List Int) : num (ins x l) = num l * x + den l := by
  induction l with
  | nil => rfl
  | cons y ys ih =>
    simp only [ins]
    split
    · rw [num_cons, ih, den_ins, num_cons, den_cons, Int.add_mul, Int.add_mul, Int.mul_right_comm, Int.mul_comm x, Int.mul_comm y]
      omega
    · rfl
theorem den_insAll (b : List Int) : ∀ l, den (insAll l b) = den l * den b := by
  induction b with
  | nil => intro l; simp [insAll, den_nil]
  | cons x xs ih =>
    intro l
    simp only [insAll, List.foldl_cons] at ih ⊢
    rw [ih, den_ins, den_cons, Int.mul_comm x, Int.mul_assoc]
theorem num_insAll (b : List Int) : ∀ l, num (insAll l b) = num l * den b + num b * den l := by
  induction b with
  | nil => intro l; simp [insAll, den_nil, num_nil]
  | cons x xs ih =>
    intro l
    simp only [insAll, List.foldl_cons] at ih ⊢
    rw [ih, num_ins, den_ins, den_cons, num_cons, Int.add_mul, Int.add_mul, Int.mul_assoc, Int.mul_comm (den l) (den xs), ← Int.mul_assoc (num xs) x]
    omega
theorem den_erase (l : List Int) : ∀ (k : Nat) (x : Int), l[k]? = some x → den l = x * den (l.eraseIdx k) := by
  induction l with
  | nil => intro k x h; simp at h
  | cons y ys ih =>
    intro k x h
    cases k with
    | zero => simp at h; subst h; rfl
    | succ k =>
      have := ih k x (by simpa using h)
      rw [List.eraseIdx_cons_succ, den_cons, den_cons, this, Int.mul_left_comm]
theorem num_erase (l : List Int) : ∀ (k : Nat) (x : Int), l[k]? = some x → num l = num (l.eraseIdx k) * x + den (l.eraseIdx k) := by
  induction l with
  | nil => intro k x h; simp at h
  | cons y ys ih =>
    intro k x h
    cases k with
    | zero => simp at h; subst h; rfl
    | succ k =>
      have h' : ys[k]? = some x := by simpa using h
      have e := den_erase ys k x h'
      rw [List.eraseIdx_cons_succ, num_cons, num_cons, den_cons, ih k x h', e, Int.add_mul, Int.add_mul, Int.mul_right_comm, Int.mul_comm x, Int.mul_comm y]
      omega

theorem asc_mem (l : List Int) : ∀ a, asc a l = true → ∀ z ∈ l, a < z ∧ z ≤ 1000000000 := by
  induction l with
  | nil => intro a _ z hz; simp at hz
  | cons x xs ih =>
    intro a h z hz
    simp only [asc, Bool.and_eq_true, decide_eq_true_eq] at h
    rcases List.mem_cons.1 hz with rfl | hz
    · exact h.1
    · have := ih x h.2 z hz; omega
theorem asc_mono (l : List Int) (a a' : Int) (h : asc a l = true) (ha : a' ≤ a) : asc a' l = true := by
  cases l with
  | nil => rfl
  | cons x xs => simp only [asc, Bool.and_eq_true, decide_eq_true_eq] at h ⊢; exact ⟨⟨by omega, h.1.2⟩, h.2⟩
theorem okU_mem {l : List Int} (h : okU l = true) : ∀ z ∈ l, 2 ≤ z ∧ z ≤ 1000000000 := by
  simp only [okU, Bool.and_eq_true] at h
  intro z hz
  have := asc_mem l 1 h.2 z hz
  omega
theorem okU_length {l : List Int} (h : okU l = true) : l.length ≤ 8 := by
  simp only [okU, Bool.and_eq_true, decide_eq_true_eq] at h
  exact h.1
theorem den_pos (l : List Int) (h : ∀ z ∈ l, 2 ≤ z ∧ z ≤ 1000000000) : 0 < den l := by
  induction l with
  | nil => decide
  | cons x xs ih => rw [den_cons]; exact Int.mul_pos (by have := h x (by simp); omega) (ih fun z hz => h z (by simp [hz]))

/-- a list in order, with nothing twice, is known by what is in it -/
theorem asc_ext (l : List Int) : ∀ a m, asc a l = true → asc a m = true → (∀ z, z ∈ l ↔ z ∈ m) → l = m := by
  induction l with
  | nil =>
    intro a m _ _ h
    cases m with
    | nil => rfl
    | cons y ys => have := (h y).2 (by simp); simp at this
  | cons x xs ih =>
    intro a m hl hm h
    cases m with
    | nil => have := (h x).1 (by simp); simp at this
    | cons y ys =>
      simp only [asc, Bool.and_eq_true, decide_eq_true_eq] at hl hm
      have e : x = y := by
        rcases List.mem_cons.1 ((h x).1 (by simp)) with h1 | h1
        · exact h1
        · rcases List.mem_cons.1 ((h y).2 (by simp)) with h2 | h2
          · exact h2.symm
          · have := asc_mem ys y hm.2 x h1
            have := asc_mem xs x hl.2 y h2
            omega
      subst e
      rw [ih x ys hl.2 hm.2 fun z => ?_]
      constructor
      · intro hz
        rcases List.mem_cons.1 ((h z).1 (by simp [hz])) with rfl | h1
        · have := asc_mem xs z hl.2 z hz; omega
        · exact h1
      · intro hz
        rcases List.mem_cons.1 ((h z).2 (by simp [hz])) with rfl | h1
        · have := asc_mem ys z hm.2 z hz; omega
        · exact h1
/-- at its place a new one keeps the order -/
theorem asc_ins (x : Int) (hx : x ≤ 1000000000) (l : List Int) : ∀ a, a < x → asc a l = true → x ∉ l → asc a (ins x l) = true := by
  induction l with
  | nil => intro a ha _ _; simp [ins, asc, ha, hx]
  | cons y ys ih =>
    intro a ha h hn
    simp only [asc, Bool.and_eq_true, decide_eq_true_eq] at h
    simp only [ins]
    split
    · next hy =>
      have : y ≠ x := fun e => hn (by simp [e])
      simp only [asc, Bool.and_eq_true, decide_eq_true_eq]
      exact ⟨h.1, ih y (by omega) h.2 fun hm => hn (by simp [hm])⟩
    · next hy =>
      simp only [asc, Bool.and_eq_true, decide_eq_true_eq]
      exact ⟨⟨ha, hx⟩, ⟨by omega, h.1.2⟩, h.2⟩
/-- in order, an equal one next to another let in -/
def wasc : Int → List Int → Prop
  | _, [] => True
  | a, x :: xs => a ≤ x ∧ wasc x xs
theorem wasc_of_asc (l : List Int) : ∀ a, asc a l = true → wasc a l := by
  induction l with
  | nil => intro a _; trivial
  | cons x xs ih =>
    intro a h
    simp only [asc, Bool.and_eq_true, decide_eq_true_eq] at h
    exact ⟨by omega, ih x h.2⟩
theorem wasc_ins (x : Int) (l : List Int) : ∀ a, a ≤ x → wasc a l → wasc a (ins x l) := by
  induction l with
  | nil => intro a ha _; exact ⟨ha, trivial⟩
  | cons y ys ih =>
    intro a ha h
    simp only [ins]
    split
    · next hy => exact ⟨h.1, ih y hy h.2⟩
    · next hy => exact ⟨ha, by omega, h.2⟩
/-- a number twice in an ordered list: it is in no strict order -/
theorem asc_count (l : List Int) (x : Int) : ∀ a, asc a l = true → l.count x ≤ 1 := by
  induction l with
  | nil => intro a _; simp
  | cons y ys ih =>
    intro a h
    simp only [asc, Bool.and_eq_true, decide_eq_true_eq] at h
    rw [List.count_cons]
    by_cases e : y = x
    · subst e
      have : y ∉ ys := fun hm => by have := asc_mem ys y h.2 y hm; omega
      rw [List.count_eq_zero.2 this]; simp
    · have := ih y h.2
      have e' : (y == x) = false := by simpa using e
      rw [e']; simpa using this
theorem count_ins (x z : Int) (l : List Int) : (ins x l).count z = l.count z + (if x = z then 1 else 0) := by
  induction l with
  | nil => by_cases h : x = z <;> simp [ins, h]
  | cons y ys ih =>
    simp only [ins]
    split
    · rw [List.count_cons, ih, List.count_cons]; omega
    · rw [List.count_cons]; by_cases h : x = z <;> simp [h]
theorem count_insAll (b : List Int) (z : Int) : ∀ l, l.count z ≤ (insAll l b).count z := by
  induction b with
  | nil => intro l; exact Nat.le_refl _
  | cons x xs ih =>
    intro l
    simp only [insAll, List.foldl_cons] at ih ⊢
    have := ih (ins x l)
    rw [count_ins] at this
    omega
/-- what was put in twice can't be in strict order behind it -/
theorem dup_not_asc (l : List Int) (x : Int) (b : List Int) (h : x ∈ l) (a : Int) : asc a (insAll (ins x l) b) = false := by
  cases hc : asc a (insAll (ins x l) b) with
  | false => rfl
  | true =>
    have h1 := asc_count _ x a hc
    have h2 := count_insAll b x (ins x l)
    rw [count_ins] at h2
    have h3 := List.count_pos_iff.2 h
    simp at h2; omega

/-! ### lowest terms -/
theorem lowest_unique (u l u' l' : Int) (h0 : 0 ≤ u) (h0' : 0 ≤ u') (hl : 0 < l) (hl' : 0 < l') (hg : Int.gcd u l = 1) (hg' : Int.gcd u' l' = 1) (h : u * l' = u' * l) : u = u' ∧ l = l' := by
  obtain ⟨a, rfl⟩ := Int.eq_ofNat_of_zero_le h0
  obtain ⟨a', rfl⟩ := Int.eq_ofNat_of_zero_le h0'
  obtain ⟨b, rfl⟩ := Int.eq_ofNat_of_zero_le (Int.le_of_lt hl)
  obtain ⟨b', rfl⟩ := Int.eq_ofNat_of_zero_le (Int.le_of_lt hl')
  have c1 : Nat.Coprime b a := by rw [Nat.coprime_comm]; simpa [Int.gcd] using hg
  have c2 : Nat.Coprime b' a' := by rw [Nat.coprime_comm]; simpa [Int.gcd] using hg'
  have e : a * b' = a' * b := by exact_mod_cast h
  have d1 : b ∣ b' := c1.dvd_of_dvd_mul_left (e ▸ Nat.dvd_mul_left b a')
  have d2 : b' ∣ b := c2.dvd_of_dvd_mul_left (e ▸ Nat.dvd_mul_left b' a)
  have eb : b = b' := Nat.dvd_antisymm d1 d2
  subst eb
  have : a = a' := Nat.eq_of_mul_eq_mul_right (by omega) e
  subst this
  exact ⟨rfl, rfl⟩
/-- a fraction that tells the sum of a list: up * den = low * num -/
def Tells (u l : Int) (xs : List Int) : Prop := u * den xs = l * num xs
theorem tells_cross {u l u' l' : Int} {xs ys : List Int} (h : Tells u l xs) (h' : Tells u' l' ys) (hx : 0 < den xs) (hy : 0 < den ys) (hc : num ys * den xs = num xs * den ys) : u * l' = u' * l := by
  unfold Tells at h h'
  have key : (u * l') * (den xs * den ys) = (u' * l) * (den xs * den ys) := by
    calc (u * l') * (den xs * den ys) = (u * den xs) * (l' * den ys) := by simp only [Int.mul_assoc, Int.mul_left_comm]
      _ = (l * num xs) * (l' * den ys) := by rw [h]
      _ = (l * l') * (num xs * den ys) := by simp only [Int.mul_assoc, Int.mul_left_comm]
      _ = (l * l') * (num ys * den xs) := by rw [hc]
      _ = (l' * num ys) * (l * den xs) := by simp only [Int.mul_assoc, Int.mul_left_comm, Int.mul_comm]
      _ = (u' * den ys) * (l * den xs) := by rw [h']
      _ = (u' * l) * (den xs * den ys) := by simp only [Int.mul_assoc, Int.mul_left_comm, Int.mul_comm]
  exact Int.eq_of_mul_eq_mul_right (by have := Int.mul_pos hx hy; omega) key
/-- the split of a unit -/
theorem split_cross (l : List Int) (k : Nat) (d : Int) (h : l[k]? = some d) :
    num (ins (d * (d + 1)) (ins (d + 1) (l.eraseIdx k))) * den l = num l * den (ins (d * (d + 1)) (ins (d + 1) (l.eraseIdx k))) := by
  simp only [num_ins, den_ins]
  rw [den_erase l k d h, num_erase l k d h]
  generalize num (l.eraseIdx k) = n
  generalize den (l.eraseIdx k) = m
  generalize he : d + 1 = e
  have hd : d = e - 1 := by omega
  have h1 : (n * e + m) * (d * e) + e * m = e * (e * (n * d + m)) := by
    subst hd
    simp only [Int.mul_add, Int.mul_sub, Int.mul_one, Int.mul_left_comm, Int.mul_comm]
    omega
  rw [h1]
  simp only [Int.mul_left_comm, Int.mul_comm]
/-- one unit more -/
theorem tells_snoc (u l x g u' l' : Int) (xs : List Int) (h : Tells u l xs) (hg : 0 < g) (e1 : u * x + l = g * u') (e2 : l * x = g * l') : Tells u' l' (xs ++ [x]) := by
  have hden : den (xs ++ [x]) = den xs * x := by
    clear h
    induction xs with
    | nil => simp [den_nil, den_cons]
    | cons y ys ih => rw [List.cons_append, den_cons, ih, den_cons, Int.mul_assoc]
  have hnum : num (xs ++ [x]) = num xs * x + den xs := by
    clear h
    induction xs with
    | nil => rfl
    | cons y ys ih =>
      have hden' : den (ys ++ [x]) = den ys * x := by
        clear ih hden
        induction ys with
        | nil => simp [den_nil, den_cons]
        | cons z zs ih => rw [List.cons_append, den_cons, ih, den_cons, Int.mul_assoc]
      rw [List.cons_append, num_cons, ih hden', hden', num_cons, den_cons, Int.add_mul, Int.add_mul, Int.mul_right_comm, Int.mul_comm y]
      omega
  unfold Tells at h ⊢
  rw [hden, hnum]
  apply Int.eq_of_mul_eq_mul_left (a := g) (by omega)
  calc g * (u' * (den xs * x)) = (g * u') * (den xs * x) := by rw [Int.mul_assoc]
    _ = (u * x + l) * (den xs * x) := by rw [e1]
    _ = (u * den xs) * (x * x) + (l * x) * den xs := by rw [Int.add_mul]; simp only [Int.mul_assoc, Int.mul_left_comm, Int.mul_comm]
    _ = (l * num xs) * (x * x) + (l * x) * den xs := by rw [h]
    _ = (l * x) * (num xs * x + den xs) := by rw [Int.mul_add]; simp only [Int.mul_assoc, Int.mul_left_comm, Int.mul_comm]
    _ = (g * l') * (num xs * x + den xs) := by rw [e2]
    _ = g * (l' * (num xs * x + den xs)) := by rw [Int.mul_assoc]
/-- the sum of two lists together -/
theorem join_cross {c d e f g h : Int} {a b : List Int} (ha : Tells c d a) (hb : Tells e f b) (hj : Tells g h (insAll a b)) (pa : 0 < den a) (pb : 0 < den b) : (c * f + e * d) * h = g * d * f := by
  unfold Tells at ha hb hj
  rw [den_insAll, num_insAll] at hj
  have key : ((c * f + e * d) * h) * (den a * den b) = (g * d * f) * (den a * den b) := by
    calc ((c * f + e * d) * h) * (den a * den b) = (c * den a) * (f * h * den b) + (e * den b) * (d * h * den a) := by
          simp only [Int.add_mul]; simp only [Int.mul_assoc, Int.mul_left_comm, Int.mul_comm]
      _ = (d * num a) * (f * h * den b) + (f * num b) * (d * h * den a) := by rw [ha, hb]
      _ = (d * f) * (h * (num a * den b + num b * den a)) := by simp only [Int.mul_add]; simp only [Int.mul_assoc, Int.mul_left_comm, Int.mul_comm]
      _ = (d * f) * (g * (den a * den b)) := by rw [hj]
      _ = (g * d * f) * (den a * den b) := by simp only [Int.mul_assoc, Int.mul_left_comm, Int.mul_comm]
  exact Int.eq_of_mul_eq_mul_right (by have := Int.mul_pos pa pb; omega) key

end Go.Proofs.Ytnljemgglmokjaa.Un
