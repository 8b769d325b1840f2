/-
  Plain: the digits of a root pair by pair, periods and where they begin, lists of quotients that lead back; no program in sight.
-/
import Derived.Test.YtphokfdaimbaiaaGlPlain
namespace Go.Proofs.Ytphokfdaimbaiaa.Gl

theorem take_next {α : Type} {xs : List α} {k : Nat} {u : α} (h : xs[k]? = some u) : xs.take (k + 1) = xs.take k ++ [u] := by rw [List.take_add_one, h]; rfl

/-! ### the digits of a root -/
/-- the greatest digit from k down that fits -/
def dgF (r p : Int) : Nat → Nat
  | 0 => 0
  | k + 1 => if p < (20 * r + ((k + 1 : Nat) : Int)) * ((k + 1 : Nat) : Int) then dgF r p k else k + 1
def dg (r p : Int) : Nat := dgF r p 9
theorem dgF_down {r p : Int} {k : Nat} (h : p < (20 * r + ((k + 1 : Nat) : Int)) * ((k + 1 : Nat) : Int)) : dgF r p (k + 1) = dgF r p k := by rw [dgF, if_pos h]
theorem dgF_here {r p : Int} {k : Nat} (h : ¬ p < (20 * r + (k : Int)) * (k : Int)) : dgF r p k = k := by
  cases k with
  | zero => rfl
  | succ k => rw [dgF, if_neg h]
theorem dgF_le (r p : Int) : ∀ k, dgF r p k ≤ k := by
  intro k
  induction k with
  | zero => exact Nat.le_refl _
  | succ k ih => rw [dgF]; split <;> omega
theorem dgF_fit (r p : Int) (h0 : 0 ≤ p) : ∀ k, (20 * r + (dgF r p k : Int)) * (dgF r p k : Int) ≤ p := by
  intro k
  induction k with
  | zero => simp [dgF]; exact h0
  | succ k ih =>
    rw [dgF]
    split
    · exact ih
    · omega
theorem dgF_not (r p : Int) : ∀ k, dgF r p k = k ∨ p < (20 * r + ((dgF r p k : Int) + 1)) * ((dgF r p k : Int) + 1) := by
  intro k
  induction k with
  | zero => exact .inl rfl
  | succ k ih =>
    rw [dgF]
    split
    · next h =>
      refine .inr ?_
      rcases ih with e | e
      · rw [e]; push_cast at h; exact h
      · exact e
    · exact .inl rfl
theorem dg_spec {r p : Int} (h0 : 0 ≤ p) : dg r p ≤ 9 ∧ (20 * r + (dg r p : Int)) * (dg r p : Int) ≤ p ∧ ((dg r p : Int) = 9 ∨ p < (20 * r + ((dg r p : Int) + 1)) * ((dg r p : Int) + 1)) :=
  ⟨dgF_le r p 9, dgF_fit r p h0 9, by rcases dgF_not r p 9 with e | e; left; unfold dg; rw [e]; rfl; exact .inr e⟩

/-- digits, root and rest behind one pair more -/
def rStep (t : List Int × Int × Int) (x : Int) : List Int × Int × Int :=
  (t.1 ++ [(dg t.2.1 (t.2.2 * 100 + x) : Int)], t.2.1 * 10 + (dg t.2.1 (t.2.2 * 100 + x) : Int), t.2.2 * 100 + x - (20 * t.2.1 + (dg t.2.1 (t.2.2 * 100 + x) : Int)) * (dg t.2.1 (t.2.2 * 100 + x) : Int))
def rAll (xs : List Int) : List Int × Int × Int := xs.foldl rStep ([], 0, 0)
def hund (xs : List Int) : Int := xs.foldl (fun n x => 100 * n + x) 0
theorem rAll_snoc (xs : List Int) (x : Int) : rAll (xs ++ [x]) = rStep (rAll xs) x := by simp [rAll]
theorem hund_snoc (xs : List Int) (x : Int) : hund (xs ++ [x]) = 100 * hund xs + x := by simp [hund]
structure RInv (xs : List Int) : Prop where
  root : IsRoot (hund xs) (rAll xs).2.1 (rAll xs).2.2
  val : horner 0 (rAll xs).1 = (rAll xs).2.1
  len : (rAll xs).1.length = xs.length
  digs : ∀ d ∈ (rAll xs).1, 0 ≤ d ∧ d ≤ 9
theorem rInv_nil : RInv [] := ⟨⟨by decide, by decide, by decide, by decide⟩, rfl, rfl, by simp [rAll]⟩
theorem rInv_snoc {xs : List Int} {x : Int} (h : RInv xs) (h0 : 0 ≤ x) (h1 : x ≤ 99) : RInv (xs ++ [x]) := by
  obtain ⟨hr, hv, hl, hd⟩ := h
  have hs0 := hr.2.2.1
  obtain ⟨g9, gf, gn⟩ := dg_spec (r := (rAll xs).2.1) (p := (rAll xs).2.2 * 100 + x) (by omega)
  rw [show (rAll xs).2.2 * 100 + x = 100 * (rAll xs).2.2 + x from by omega] at g9 gf gn
  have hn := dig_next (g := (dg (rAll xs).2.1 (100 * (rAll xs).2.2 + x) : Int)) hr h0 h1 (by omega) (by omega) gf gn
  refine ⟨?_, ?_, ?_, ?_⟩
  · rw [rAll_snoc, hund_snoc]
    simp only [rStep]
    rw [show (rAll xs).2.2 * 100 + x = 100 * (rAll xs).2.2 + x from by omega, show (rAll xs).2.1 * 10 + (dg (rAll xs).2.1 (100 * (rAll xs).2.2 + x) : Int) = 10 * (rAll xs).2.1 + (dg (rAll xs).2.1 (100 * (rAll xs).2.2 + x) : Int) from by omega]
    exact hn
  · rw [rAll_snoc]
    simp only [rStep]
    rw [horner_snoc, hv]
    omega
  · rw [rAll_snoc]; simp [rStep, hl]
  · rw [rAll_snoc]
    simp only [rStep]
    intro d hdm
    rcases List.mem_append.1 hdm with hm | hm
    · exact hd d hm
    · simp at hm
      rw [show (rAll xs).2.2 * 100 + x = 100 * (rAll xs).2.2 + x from by omega] at hm
      omega
theorem rInv_all (xs : List Int) (h : ∀ x ∈ xs, 0 ≤ x ∧ x ≤ 99) : ∀ k, RInv (xs.take k) := by
  intro k
  induction k with
  | zero => exact rInv_nil
  | succ k ih =>
    by_cases hk : k < xs.length
    · rw [take_next (List.getElem?_eq_getElem hk)]
      have := h _ (List.getElem_mem hk)
      exact rInv_snoc ih this.1 this.2
    · rw [List.take_of_length_le (by omega)] at ih ⊢
      exact ih

/-- the pairs of digits, none for 0 -/
def pr (m : Nat) : List Int := if _h : m = 0 then [] else pr (m / 100) ++ [((m % 100 : Nat) : Int)]
termination_by m
decreasing_by omega
def prs (n : Nat) : List Int := pr (n / 100) ++ [((n % 100 : Nat) : Int)]
theorem pr_zero : pr 0 = [] := by rw [pr]; simp
theorem pr_pos {m : Nat} (h : m ≠ 0) : pr m = pr (m / 100) ++ [((m % 100 : Nat) : Int)] := by rw [pr]; simp [h]
theorem prs_pos {n : Nat} (h : n ≠ 0) : prs n = pr n := (pr_pos h).symm
theorem prs_times {n : Nat} (h : n ≠ 0) : prs (100 * n) = prs n ++ [0] := by
  rw [prs_pos h, prs, show 100 * n / 100 = n from by omega, show 100 * n % 100 = 0 from by omega]; rfl
theorem pr_range (m : Nat) : ∀ x ∈ pr m, 0 ≤ x ∧ x ≤ 99 := by
  induction m using Nat.strongRecOn with
  | ind m ih =>
    by_cases h : m = 0
    · subst h; rw [pr_zero]; simp
    · rw [pr_pos h]
      intro x hx
      rcases List.mem_append.1 hx with hx | hx
      · exact ih (m / 100) (by omega) x hx
      · simp at hx; omega
theorem prs_range (n : Nat) : ∀ x ∈ prs n, 0 ≤ x ∧ x ≤ 99 := by
  intro x hx
  rcases List.mem_append.1 hx with hx | hx
  · exact pr_range _ x hx
  · simp at hx; omega
theorem hund_pr (m : Nat) : hund (pr m) = m := by
  induction m using Nat.strongRecOn with
  | ind m ih =>
    by_cases h : m = 0
    · subst h; rw [pr_zero]; rfl
    · rw [pr_pos h, hund_snoc, ih (m / 100) (by omega)]; omega
theorem hund_prs (n : Nat) : hund (prs n) = n := by rw [prs, hund_snoc, hund_pr]; omega
theorem pr_length (k : Nat) : ∀ m, m < 100 ^ k → (pr m).length ≤ k := by
  induction k with
  | zero => intro m h; have : m = 0 := by simpa using h
            subst this; rw [pr_zero]; simp
  | succ k ih =>
    intro m h
    by_cases h0 : m = 0
    · subst h0; rw [pr_zero]; simp
    · rw [pr_pos h0, List.length_append, List.length_singleton]
      have := ih (m / 100) (by rw [Nat.pow_succ] at h; omega)
      omega
theorem prs_length {n : Nat} (h : n ≤ 1000000000) : 1 ≤ (prs n).length ∧ (prs n).length ≤ 5 := by
  have h2 := pr_length 4 (n / 100) (by omega)
  rw [prs, List.length_append, List.length_singleton]
  omega
/-- a part of the pairs has a part of the value -/
theorem hund_take (xs : List Int) (h : ∀ x ∈ xs, 0 ≤ x ∧ x ≤ 99) : ∀ k, 0 ≤ hund (xs.take k) ∧ hund (xs.take k) ≤ hund xs := by
  have key : ∀ (ys : List Int) (n : Int), 0 ≤ n → (∀ x ∈ ys, 0 ≤ x ∧ x ≤ 99) → n ≤ ys.foldl (fun n x => 100 * n + x) n := by
    intro ys
    induction ys with
    | nil => intro n _ _; exact Int.le_refl _
    | cons y ys ih =>
      intro n hn hy
      have := hy y (by simp)
      have := ih (100 * n + y) (by omega) (fun x hx => hy x (by simp [hx]))
      simp only [List.foldl_cons]
      omega
  intro k
  have h0 : 0 ≤ hund (xs.take k) := key _ 0 (by omega) (fun x hx => h x (List.mem_of_mem_take hx))
  refine ⟨h0, ?_⟩
  have := key (xs.drop k) (hund (xs.take k)) h0 (fun x hx => h x (List.mem_of_mem_drop hx))
  have e : (xs.drop k).foldl (fun n x => 100 * n + x) (hund (xs.take k)) = hund xs := by
    unfold hund
    rw [← List.foldl_append, List.take_append_drop]
  omega
theorem root_bound {m r s : Int} (h : IsRoot m r s) (hm : m ≤ 1000000000) : 0 ≤ r ∧ r ≤ 40000 ∧ 0 ≤ s ∧ s ≤ 80000 := by
  obtain ⟨a1, a2, a3, a4⟩ := h
  have : r ≤ 40000 := by
    rcases Int.lt_or_le 40000 r with hlt | hle
    · have := sq_le_of 40001 r (by omega) (by omega)
      omega
    · exact hle
  omega
theorem rAll_bound {n : Nat} (hn : n ≤ 1000000000) (k : Nat) : 0 ≤ (rAll ((prs n).take k)).2.1 ∧ (rAll ((prs n).take k)).2.1 ≤ 40000 ∧ 0 ≤ (rAll ((prs n).take k)).2.2 ∧ (rAll ((prs n).take k)).2.2 ≤ 80000 := by
  have h := rInv_all (prs n) (prs_range n) k
  have h2 := hund_take (prs n) (prs_range n) k
  rw [hund_prs] at h2
  exact root_bound h.root (by omega)
/-- root, rest and digits of a number -/
def rtD (n : Nat) : List Int := (rAll (prs n)).1
def rtR (n : Nat) : Int := (rAll (prs n)).2.1
def rtS (n : Nat) : Int := (rAll (prs n)).2.2
theorem rt_inv (n : Nat) : IsRoot n (rtR n) (rtS n) ∧ horner 0 (rtD n) = rtR n ∧ (rtD n).length = (prs n).length ∧ ∀ d ∈ rtD n, 0 ≤ d ∧ d ≤ 9 := by
  have h := rInv_all (prs n) (prs_range n) (prs n).length
  rw [List.take_length] at h
  refine ⟨?_, h.val, h.len, h.digs⟩
  have := h.root
  rw [hund_prs] at this
  exact this
theorem rtD_times {n : Nat} (h : n ≠ 0) : ∃ d, rtD (100 * n) = rtD n ++ [d] := by
  unfold rtD
  rw [prs_times h, rAll_snoc]
  exact ⟨_, rfl⟩

/-! ### the nearest square -/
def near (r s : Int) : Int := if s > r then r + 1 else r
theorem near_law {n r s : Int} (h : IsRoot n r s) : ∃ d, 0 ≤ d ∧ d ≤ near r s ∧ max (n - near r s * near r s) (near r s * near r s - n) = d ∧
    ∀ k, near r s - 1 ≤ k → k ≤ near r s + 1 → 0 ≤ k → d ≤ max (n - k * k) (k * k - n) := by
  obtain ⟨a1, a2, a3, a4⟩ := h
  have e1 : (r + 1) * (r + 1) = r * r + 2 * r + 1 := by rw [Int.add_mul, Int.mul_add]; omega
  have e2 : (r + 1 + 1) * (r + 1 + 1) = r * r + 4 * r + 4 := by rw [Int.add_mul, Int.mul_add, Int.add_mul, Int.mul_add]; omega
  have e3 : (r - 1) * (r - 1) = r * r - 2 * r + 1 := by rw [Int.sub_mul, Int.mul_sub]; omega
  unfold near
  split
  · next hs =>
    refine ⟨2 * r + 1 - s, by omega, by omega, by rw [e1]; omega, fun k h1 h2 h3 => ?_⟩
    rcases (show k = r ∨ k = r + 1 ∨ k = r + 1 + 1 from by omega) with rfl | rfl | rfl
    · omega
    · rw [e1]; omega
    · rw [e2]; omega
  · next hs =>
    refine ⟨s, by omega, by omega, by omega, fun k h1 h2 h3 => ?_⟩
    rcases (show k = r - 1 ∨ k = r ∨ k = r + 1 from by omega) with rfl | rfl | rfl
    · rw [e3]; omega
    · omega
    · rw [e1]; omega

/-! ### periods -/
def IsPer (d : Int) (a p : Nat) : Prop :=
  (∀ i, i < a + p → rest d i ≠ 0 ∧ ∀ j, j < i → rest d j ≠ rest d i) ∧ ((p = 0 ∧ rest d a = 0) ∨ (0 < p ∧ rest d a ≠ 0 ∧ rest d a = rest d (a + p)))
theorem per_unique {d : Int} {a p a' p' : Nat} (h : IsPer d a p) (h' : IsPer d a' p') : a = a' ∧ p = p' := by
  obtain ⟨h1, h2⟩ := h
  obtain ⟨g1, g2⟩ := h'
  have e : a + p = a' + p' := by
    rcases Nat.lt_trichotomy (a + p) (a' + p') with hlt | he | hgt
    · have := g1 (a + p) hlt
      rcases h2 with ⟨rfl, hz⟩ | ⟨hp, _, he⟩
      · exact absurd hz (by simpa using this.1)
      · exact absurd he (this.2 a (by omega))
    · exact he
    · have := h1 (a' + p') hgt
      rcases g2 with ⟨rfl, hz⟩ | ⟨hp, _, he⟩
      · exact absurd hz (by simpa using this.1)
      · exact absurd he (this.2 a' (by omega))
  rcases h2 with ⟨rfl, hz⟩ | ⟨hp, hnz, he⟩
  · rcases g2 with ⟨rfl, _⟩ | ⟨hp', hnz', he'⟩
    · omega
    · rw [← e, Nat.add_zero, hz] at he'; exact absurd he' hnz'
  · rcases g2 with ⟨rfl, hz'⟩ | ⟨hp', hnz', he'⟩
    · rw [e, Nat.add_zero, hz'] at he; exact absurd he hnz
    · rcases Nat.lt_trichotomy a a' with hlt | hh | hgt
      · exact absurd (by rw [he, e, ← he']) ((g1 a' (by omega)).2 a hlt)
      · omega
      · exact absurd (by rw [he', ← e, ← he]) ((h1 a (by omega)).2 a' hgt)
/-- where each rest was first met, counted from 1 -/
def led (d : Int) : Nat → List Int
  | 0 => List.replicate d.toNat 0
  | k + 1 => (led d k).set (rest d k).toNat ((k + 1 : Nat) : Int)
theorem led_length (d : Int) : ∀ k, (led d k).length = d.toNat := by
  intro k
  induction k with
  | zero => simp [led]
  | succ k ih => simp [led, ih]
/-- k rests, each met once and none 0 -/
def New (d : Int) (k : Nat) : Prop := ∀ i, i < k → rest d i ≠ 0 ∧ ∀ j, j < i → rest d j ≠ rest d i
theorem led_at {d : Int} (hd : 0 < d) : ∀ k, New d k → (∀ i, i < k → (led d k)[(rest d i).toNat]? = some (((i + 1 : Nat) : Int))) ∧
    (∀ x : Nat, x < d.toNat → (∀ i, i < k → (rest d i).toNat ≠ x) → (led d k)[x]? = some 0) := by
  intro k
  induction k with
  | zero =>
    intro _
    refine ⟨fun i hi => by omega, fun x hx _ => ?_⟩
    simp [led, hx]
  | succ k ih =>
    intro hn
    obtain ⟨i1, i2⟩ := ih (fun i hi => hn i (by omega))
    have hr := rest_range d hd
    have hl := led_length d k
    refine ⟨fun i hi => ?_, fun x hx hne => ?_⟩
    · rw [led]
      by_cases e : i = k
      · subst e
        have := hr i
        rw [List.getElem?_set_self (by omega)]
      · have hne : (rest d k).toNat ≠ (rest d i).toNat := by
          have h1 := (hn k (by omega)).2 i (by omega)
          have := hr k; have := hr i
          omega
        rw [List.getElem?_set_ne hne]
        exact i1 i (by omega)
    · rw [led, List.getElem?_set_ne (hne k (by omega))]
      exact i2 x hx (fun i hi => hne i (by omega))
/-- the rest at hand was met before, or not -/
theorem led_find {d : Int} (hd : 0 < d) {k : Nat} (hn : New d k) : (∃ i, i < k ∧ rest d i = rest d k ∧ (led d k)[(rest d k).toNat]? = some (((i + 1 : Nat) : Int))) ∨
    ((∀ i, i < k → rest d i ≠ rest d k) ∧ (led d k)[(rest d k).toNat]? = some 0) := by
  obtain ⟨h1, h2⟩ := led_at hd k hn
  have hr := rest_range d hd
  by_cases h : ∃ i, i < k ∧ rest d i = rest d k
  · obtain ⟨i, hi, e⟩ := h
    exact .inl ⟨i, hi, e, by rw [← e]; exact h1 i hi⟩
  · have h' : ∀ i, i < k → rest d i ≠ rest d k := fun i hi e => h ⟨i, hi, e⟩
    refine .inr ⟨h', h2 _ (by have := hr k; omega) (fun i hi e => h' i hi ?_)⟩
    have := hr i; have := hr k
    omega
theorem new_succ {d : Int} {k : Nat} (hn : New d k) (h0 : rest d k ≠ 0) (h1 : ∀ i, i < k → rest d i ≠ rest d k) : New d (k + 1) := by
  intro i hi
  by_cases e : i = k
  · subst e; exact ⟨h0, h1⟩
  · exact hn i (by omega)
theorem per_zero {d : Int} {k : Nat} (hn : New d k) (h0 : rest d k = 0) : IsPer d k 0 := ⟨hn, .inl ⟨rfl, h0⟩⟩
theorem per_again {d : Int} {k i : Nat} (hn : New d k) (hi : i < k) (h0 : rest d k ≠ 0) (e : rest d i = rest d k) : IsPer d i (k - i) :=
  ⟨by rw [show i + (k - i) = k from by omega]; exact hn, .inr ⟨by omega, by rw [e]; exact h0, by rw [show i + (k - i) = k from by omega]; exact e⟩⟩
/-- so many different numbers from 1 to n are at most n -/
theorem pigeon (n : Nat) : ∀ (f : Nat → Nat) (k : Nat), (∀ i, i < k → 1 ≤ f i ∧ f i ≤ n) → (∀ i j, i < k → j < i → f j ≠ f i) → k ≤ n := by
  induction n with
  | zero =>
    intro f k h _
    cases k with
    | zero => exact Nat.le_refl _
    | succ k => have := h 0 (by omega); omega
  | succ n ih =>
    intro f k h hne
    by_cases hx : ∃ i, i < k ∧ f i = n + 1
    · obtain ⟨i0, hi0, e0⟩ := hx
      have := ih (fun i => if i < i0 then f i else f (i + 1)) (k - 1) (fun i hi => by
        split
        · next hlt =>
          have h1 := h i (by omega)
          have h2 := hne i0 i hi0 hlt
          omega
        · next hge =>
          have h1 := h (i + 1) (by omega)
          have h2 := hne (i + 1) i0 (by omega) (by omega)
          omega) (fun i j hi hj => by
        split <;> split
        · exact hne i j (by omega) hj
        · exact hne (i + 1) j (by omega) (by omega)
        · omega
        · exact hne (i + 1) (j + 1) (by omega) (by omega))
      omega
    · have := ih f k (fun i hi => by have := h i hi; have : f i ≠ n + 1 := fun e => hx ⟨i, hi, e⟩; omega) hne
      omega
theorem per_lt {d : Int} (hd : 0 < d) {a p : Nat} (h : IsPer d a p) : (p : Int) < d := by
  have hr := rest_range d hd
  have := pigeon (d.toNat - 1) (fun i => (rest d i).toNat) (a + p) (fun i hi => by
    have h1 := (h.1 i hi).1
    have := hr i
    omega) (fun i j hi hj => by
    have h1 := (h.1 i hi).2 j hj
    have := hr i; have := hr j
    omega)
  omega
theorem new_lt {d : Int} (hd : 0 < d) {k : Nat} (h : New d k) : (k : Int) < d := by
  have hr := rest_range d hd
  have := pigeon (d.toNat - 1) (fun i => (rest d i).toNat) k (fun i hi => by
    have h1 := (h i hi).1
    have := hr i
    omega) (fun i j hi hj => by
    have h1 := (h i hi).2 j hj
    have := hr i; have := hr j
    omega)
  omega
/-- the greatest of what was noted is the number of rests -/
theorem led_max {d : Int} (hd : 0 < d) {k : Nat} (hn : New d k) : (∀ (x : Nat) (u : Int), (led d k)[x]? = some u → 0 ≤ u ∧ u ≤ (k : Int)) ∧ (0 < k → ∃ x, x < d.toNat ∧ (led d k)[x]? = some (k : Int)) := by
  obtain ⟨h1, h2⟩ := led_at hd k hn
  have hr := rest_range d hd
  refine ⟨fun x u hu => ?_, fun hk => ?_⟩
  · by_cases h : ∃ i, i < k ∧ (rest d i).toNat = x
    · obtain ⟨i, hi, e⟩ := h
      have := h1 i hi
      rw [e, hu] at this
      injection this with this
      omega
    · have hx : x < d.toNat := by
        have := (List.getElem?_eq_some_iff.1 hu).1
        rwa [led_length] at this
      have := h2 x hx (fun i hi e => h ⟨i, hi, e⟩)
      rw [hu] at this
      injection this with this
      omega
  · refine ⟨(rest d (k - 1)).toNat, by have := hr (k - 1); omega, ?_⟩
    have := h1 (k - 1) (by omega)
    rw [this]
    congr 1
    omega
/-- the greatest number of a list, from k down -/
def maxL (l : List Int) : Int := l.foldl (fun m x => max m x) 0
theorem maxL_snoc (l : List Int) (x : Int) : maxL (l ++ [x]) = max (maxL l) x := by simp [maxL]
theorem maxL_is (l : List Int) (m : Int) (h0 : 0 ≤ m) (h : ∀ x ∈ l, x ≤ m) (hx : m = 0 ∨ m ∈ l) : maxL l = m := by
  have key : ∀ (l : List Int) (a : Int), a ≤ m → (∀ x ∈ l, x ≤ m) → l.foldl (fun m x => max m x) a ≤ m ∧ a ≤ l.foldl (fun m x => max m x) a ∧ ∀ x ∈ l, x ≤ l.foldl (fun m x => max m x) a := by
    intro l
    induction l with
    | nil => intro a ha _; exact ⟨ha, Int.le_refl _, by simp⟩
    | cons y ys ih =>
      intro a ha hy
      have hy0 := hy y (by simp)
      obtain ⟨i1, i2, i3⟩ := ih (max a y) (by omega) (fun x hx => hy x (by simp [hx]))
      simp only [List.foldl_cons]
      refine ⟨i1, by omega, fun x hx => ?_⟩
      rcases List.mem_cons.1 hx with rfl | hx
      · omega
      · exact i3 x hx
  obtain ⟨i1, i2, i3⟩ := key l 0 h0 h
  unfold maxL
  rcases hx with rfl | hx
  · omega
  · have := i3 m hx; omega

/-! ### quotients that lead back -/
/-- what a list of quotients, from an index on, leads back to -/
def back : Nat → List Int → Option (Int × Int)
  | _, [] => some (1, 0)
  | i, q :: qs => match back (i + 1) qs with
    | none => none
    | some v => if q < 0 ∨ 1000000000 < q ∨ (q = 0 ∧ 0 < i) then none else if 1000000000 < q * v.1 + v.2 then none else some (q * v.1 + v.2, v.1)
theorem back_range (l : List Int) : ∀ i v, back i l = some v → 0 ≤ v.1 ∧ v.1 ≤ 1000000000 ∧ 0 ≤ v.2 ∧ v.2 ≤ 1000000000 := by
  induction l with
  | nil => intro i v h; simp [back] at h; subst h; simp
  | cons q qs ih =>
    intro i v h
    simp only [back] at h
    cases hb : back (i + 1) qs with
    | none => rw [hb] at h; simp at h
    | some u =>
      rw [hb] at h
      simp only at h
      have := ih (i + 1) u hb
      split at h
      · simp at h
      · next h1 =>
        split at h
        · simp at h
        · next h2 =>
          simp at h
          subst h
          have : 0 ≤ q * u.1 := Int.mul_nonneg (by omega) (by omega)
          exact ⟨by simp only; omega, by simp only; omega, by simp only; omega, by simp only; omega⟩
theorem back_some (l : List Int) : ∀ i v, back i l = some v → v = cont l ∧ (∀ q ∈ l, 0 ≤ q ∧ q ≤ 1000000000) ∧ (∀ q ∈ l.drop (if i = 0 then 1 else 0), 1 ≤ q) := by
  induction l with
  | nil => intro i v h; simp [back] at h; subst h; simp [cont, contT]
  | cons q qs ih =>
    intro i v h
    simp only [back] at h
    cases hb : back (i + 1) qs with
    | none => rw [hb] at h; simp at h
    | some u =>
      rw [hb] at h
      simp only at h
      obtain ⟨i1, i2, i3⟩ := ih (i + 1) u hb
      rw [if_neg (by omega), List.drop_zero] at i3
      split at h
      · simp at h
      · next h1 =>
        split at h
        · simp at h
        · next h2 =>
          simp at h
          subst h
          refine ⟨?_, ?_, ?_⟩
          · rw [i1]; rfl
          · intro x hx
            rcases List.mem_cons.1 hx with rfl | hx
            · omega
            · exact i2 x hx
          · split
            · simpa using i3
            · intro x hx
              rcases List.mem_cons.1 (by simpa using hx) with rfl | hx
              · omega
              · exact i3 x hx
theorem good_back {l : List Int} {v : Int × Int} (h : back 0 l = some v) : Good l ∧ v = cont l := by
  obtain ⟨h1, h2, h3⟩ := back_some l 0 v h
  rw [if_pos rfl] at h3
  refine ⟨?_, h1⟩
  cases l with
  | nil => trivial
  | cons q qs => exact ⟨(h2 q (by simp)).1, by simpa using h3⟩
/-- one step of the loop from the last quotient on -/
theorem back_drop {l : List Int} {i : Nat} {q : Int} (h : l[i]? = some q) : back i (l.drop i) = match back (i + 1) (l.drop (i + 1)) with
    | none => none
    | some v => if q < 0 ∨ 1000000000 < q ∨ (q = 0 ∧ 0 < i) then none else if 1000000000 < q * v.1 + v.2 then none else some (q * v.1 + v.2, v.1) := by
  have hi := (List.getElem?_eq_some_iff.1 h).1
  have e : l[i] = q := (List.getElem?_eq_some_iff.1 h).2
  rw [List.drop_eq_getElem_cons hi, e]
  rfl
/-- none stays none -/
theorem back_none {l : List Int} {i : Nat} (h : back i (l.drop i) = none) : ∀ k, back (i - k) (l.drop (i - k)) = none := by
  intro k
  induction k with
  | zero => exact h
  | succ k ih =>
    by_cases hk : k < i
    · have hil : i ≤ l.length ∨ l.length < i := by omega
      rcases hil with hil | hil
      · have hlt : i - (k + 1) < l.length := by omega
        rw [back_drop (List.getElem?_eq_getElem hlt), show i - (k + 1) + 1 = i - k from by omega, ih]
      · rw [List.drop_eq_nil_of_le (by omega)] at h
        simp [back] at h
    · rw [show i - (k + 1) = i - k from by omega]; exact ih
theorem back_none0 {l : List Int} {i : Nat} (h : back i (l.drop i) = none) : back 0 l = none := by
  have := back_none h i
  rwa [Nat.sub_self, List.drop_zero] at this
/-- a last quotient 1 goes into the one ahead -/
theorem back_short (l : List Int) (q : Int) : ∀ i v, back i (l ++ [q, 1]) = some v → back i (l ++ [q + 1]) = some v := by
  induction l with
  | nil =>
    intro i v h
    simp only [List.nil_append, back] at h ⊢
    simp at h
    simp
    obtain ⟨⟨a, b, c⟩, d, e⟩ := h
    exact ⟨⟨by omega, by omega, by omega⟩, by omega, e⟩
  | cons x xs ih =>
    intro i v h
    simp only [List.cons_append, back] at h ⊢
    cases hb : back (i + 1) (xs ++ [q, 1]) with
    | none => rw [hb] at h; simp at h
    | some u => rw [hb] at h; rw [ih (i + 1) u hb]; exact h
/-- the value of some digits is small -/
theorem horner_take {ds : List Int} (h : ∀ d ∈ ds, 0 ≤ d ∧ d ≤ 9) (hl : ds.length ≤ 6) (k : Nat) : 0 ≤ horner 0 (ds.take k) ∧ horner 0 (ds.take k) ≤ 999999 := by
  have hm : ∀ d ∈ ds.take k, 0 ≤ d ∧ d ≤ 9 := fun d hd => h d (List.mem_of_mem_take hd)
  have h1 := horner_nonneg (ds.take k) 0 (by omega) (fun d hd => (hm d hd).1)
  have h2 := horner_lt (ds.take k) 0 (by omega) hm
  have hk : (ds.take k).length ≤ 6 := by rw [List.length_take]; omega
  have h3 : (10 : Int) ^ (ds.take k).length ≤ 10 ^ 6 := by
    have := Nat.pow_le_pow_right (show 0 < 10 by omega) hk
    exact_mod_cast this
  refine ⟨h1, ?_⟩
  have h4 : (10 : Int) ^ 6 = 1000000 := by decide
  omega
theorem horner_next {ds : List Int} {k : Nat} {u : Int} (h : ds[k]? = some u) : horner 0 (ds.take (k + 1)) = 10 * horner 0 (ds.take k) + u := by rw [take_next h, horner_snoc]
theorem horner_all {ds : List Int} {n : Nat} (h : ds.length = n) : horner 0 (ds.take n) = horner 0 ds := by rw [List.take_of_length_le (by omega)]

/-! ### long division, digit by digit -/
theorem steps_next {xs : List Int} {k : Nat} {u d r : Int} (h : xs[k]? = some u) : steps d r (xs.take (k + 1)) = steps d r (xs.take k) ++ [((10 * lastRest d r (xs.take k) + u) / d, (10 * lastRest d r (xs.take k) + u) % d)] := by
  rw [take_next h, steps_append]; rfl
theorem rest_next {xs : List Int} {k : Nat} {u d r : Int} (h : xs[k]? = some u) : lastRest d r (xs.take (k + 1)) = (10 * lastRest d r (xs.take k) + u) % d := by
  rw [take_next h, lastRest_append]; rfl
theorem steps_all {xs : List Int} {n : Nat} {d r : Int} (h : xs.length = n) : steps d r (xs.take n) = steps d r xs ∧ lastRest d r (xs.take n) = lastRest d r xs := by
  rw [List.take_of_length_le (by omega)]; exact ⟨rfl, rfl⟩
/-- the digits of the steps lie between 0 and 9, the rests below the divisor -/
theorem steps_range {d : Int} (hd : 0 < d) (xs : List Int) : ∀ r, 0 ≤ r → r < d → (∀ x ∈ xs, 0 ≤ x ∧ x ≤ 9) → ∀ s ∈ steps d r xs, 0 ≤ s.1 ∧ s.1 ≤ 9 ∧ 0 ≤ s.2 ∧ s.2 < d := by
  induction xs with
  | nil => intro r _ _ _ s hs; simp [steps] at hs
  | cons x xs ih =>
    intro r h0 h1 hx s hs
    have hx0 := hx x (by simp)
    have hm0 := Int.emod_nonneg (10 * r + x) (show d ≠ 0 by omega)
    have hm1 := Int.emod_lt_of_pos (10 * r + x) hd
    simp only [steps, List.mem_cons] at hs
    rcases hs with rfl | hs
    · have := step_digit d r x hd h0 h1 hx0.1 hx0.2
      exact ⟨this.1, this.2, hm0, hm1⟩
    · exact ih _ hm0 hm1 (fun y hy => hx y (by simp [hy])) s hs
theorem steps_get {d : Int} (xs : List Int) : ∀ r (k : Nat) u, xs[k]? = some u → (steps d r xs)[k]? = some ((10 * lastRest d r (xs.take k) + u) / d, (10 * lastRest d r (xs.take k) + u) % d) := by
  induction xs with
  | nil => intro r k u h; simp at h
  | cons x xs ih =>
    intro r k u h
    cases k with
    | zero => simp at h; subst h; simp [steps, lastRest]
    | succ k =>
      simp only [List.getElem?_cons_succ] at h
      simp only [steps, List.getElem?_cons_succ, List.take_succ_cons, lastRest]
      exact ih _ k u h
end Go.Proofs.Ytphokfdaimbaiaa.Gl
