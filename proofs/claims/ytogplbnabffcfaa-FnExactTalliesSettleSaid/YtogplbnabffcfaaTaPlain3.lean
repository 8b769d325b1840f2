/-
  Notches as lists of letters: which are valid, and what they are worth. No program in sight.
-/
namespace Go.Proofs.Ytogplbnabffcfaa.Ta

/-- the place of a letter in MCXI -/
def rank (c : UInt8) : Option Nat := if c = 77 then some 0 else if c = 67 then some 1 else if c = 88 then some 2 else if c = 73 then some 3 else none
def weight (k : Nat) : Int := if k = 0 then 1000 else if k = 1 then 100 else if k = 2 then 10 else 1
/-- letter by letter: the last letter's place, how many of it, the worth so far -/
def scan : List UInt8 → Nat → Nat → Int → Option Int
  | [], _, _, t => some t
  | c :: cs, r, m, t =>
    match rank c with
    | none => none
    | some k => if k < r then none else if 9 < (if k = r then m + 1 else 1) then none else scan cs k (if k = r then m + 1 else 1) (t + weight k)
/-- what notches are worth -/
def worth (s : List UInt8) : Option Int := scan s 0 0 0
theorem rank_lt {c : UInt8} {k : Nat} (h : rank c = some k) : k < 4 := by
  unfold rank at h
  repeat' split at h
  all_goals first | (injection h with h; omega) | cases h
theorem weight_bd (k : Nat) : 1 ≤ weight k ∧ weight k ≤ 1000 := by unfold weight; repeat' split <;> omega
theorem scan_none {c : UInt8} {cs : List UInt8} {r m : Nat} {t : Int} (h : rank c = none) : scan (c :: cs) r m t = none := by simp [scan, h]
theorem scan_back {c : UInt8} {cs : List UInt8} {r m k : Nat} {t : Int} (h : rank c = some k) (hk : k < r) : scan (c :: cs) r m t = none := by simp [scan, h, hk]
theorem scan_many {c : UInt8} {cs : List UInt8} {r m k : Nat} {t : Int} (h : rank c = some k) (hk : ¬ k < r) (hm : 9 < (if k = r then m + 1 else 1)) : scan (c :: cs) r m t = none := by simp only [scan, h]; rw [if_neg hk, if_pos hm]
theorem scan_on {c : UInt8} {cs : List UInt8} {r m k : Nat} {t : Int} (h : rank c = some k) (hk : ¬ k < r) (hm : ¬ 9 < (if k = r then m + 1 else 1)) : scan (c :: cs) r m t = scan cs k (if k = r then m + 1 else 1) (t + weight k) := by simp only [scan, h]; rw [if_neg hk, if_neg hm]
/-- valid notches are no more than 36 letters, and worth at most 9999 -/
theorem scan_bd : ∀ (s : List UInt8) (r m : Nat) (t v : Int), r < 4 → m ≤ 9 → scan s r m t = some v → 9 * r + m + s.length ≤ 36 ∧ t ≤ v ∧ v ≤ t + 1000 * (s.length : Int) ∧ (v = t → s = [])
  | [], r, m, t, v, hr, hm, h => by
    simp [scan] at h
    subst h
    refine ⟨by simp; omega, by omega, by simp, fun _ => rfl⟩
  | c :: cs, r, m, t, v, hr, hm, h => by
    cases hk : rank c with
    | none => rw [scan_none hk] at h; cases h
    | some k =>
      by_cases h1 : k < r
      · rw [scan_back hk h1] at h; cases h
      · by_cases h2 : 9 < (if k = r then m + 1 else 1)
        · rw [scan_many hk h1 h2] at h; cases h
        · rw [scan_on hk h1 h2] at h
          have hw := weight_bd k
          obtain ⟨i1, i2, i3, i4⟩ := scan_bd cs k _ _ v (rank_lt hk) (by omega) h
          refine ⟨?_, by omega, by simp only [List.length_cons]; omega, fun e => by omega⟩
          simp only [List.length_cons]
          split at i1 <;> omega
def notes (a b c d : Nat) : List UInt8 := List.replicate a 77 ++ (List.replicate b 67 ++ (List.replicate c 88 ++ List.replicate d 73))
/-- the notches of a worth -/
def ntext (n : Nat) : List UInt8 := notes (n / 1000) (n / 100 % 10) (n / 10 % 10) (n % 10)
theorem scan_rep {c : UInt8} {q : Nat} (hc : rank c = some q) (rest : List UInt8) : ∀ (k r m : Nat) (t : Int), r ≤ q → (q = r → m + k ≤ 9) → (r ≠ q → k ≤ 9) →
    scan (List.replicate k c ++ rest) r m t = scan rest (if k = 0 then r else q) (if k = 0 then m else if q = r then m + k else k) (t + k * weight q)
  | 0, r, m, t, _, _, _ => by simp
  | k + 1, r, m, t, h1, h2, h3 => by
    rw [List.replicate_succ, List.cons_append, scan_on hc (by omega) (by split <;> omega)]
    by_cases e : q = r
    · subst e
      rw [if_pos rfl, scan_rep hc rest k q (m + 1) _ (Nat.le_refl _) (fun _ => by have := h2 rfl; omega) (fun h => absurd rfl h)]
      have e1 : (if k = 0 then q else q) = q := by split <;> rfl
      have e2 : (if k = 0 then m + 1 else if q = q then m + 1 + k else k) = m + (k + 1) := by rw [if_pos rfl]; split <;> omega
      rw [e1, e2, if_neg (by omega), if_neg (by omega), if_pos rfl]
      congr 1
      push_cast
      rw [Int.add_mul]; omega
    · rw [if_neg e, scan_rep hc rest k q 1 _ (Nat.le_refl _) (fun _ => by have := h3 (Ne.symm e); omega) (fun h => absurd rfl h)]
      have e1 : (if k = 0 then q else q) = q := by split <;> rfl
      have e2 : (if k = 0 then 1 else if q = q then 1 + k else k) = k + 1 := by rw [if_pos rfl]; split <;> omega
      rw [e1, e2, if_neg (by omega), if_neg (by omega), if_neg e]
      congr 1
      push_cast
      rw [Int.add_mul]; omega
theorem worth_notes {a b c d : Nat} (ha : a ≤ 9) (hb : b ≤ 9) (hc : c ≤ 9) (hd : d ≤ 9) : worth (notes a b c d) = some (1000 * a + 100 * b + 10 * c + d) := by
  unfold worth notes
  rw [scan_rep (q := 0) (by decide) _ a 0 0 0 (by omega) (by omega) (by omega)]
  rw [scan_rep (q := 1) (by decide) _ b _ _ _ (by split <;> omega) (by split <;> intro h <;> first | omega | (cases h)) (by omega)]
  have e1 : ∀ r1 m1 t1, r1 ≤ 1 → scan (List.replicate c 88 ++ List.replicate d 73) r1 m1 t1 = some (t1 + 10 * c + d) := by
    intro r1 m1 t1 h1
    rw [scan_rep (q := 2) (by decide) _ c _ _ _ (by omega) (by omega) (by omega)]
    have e2 : ∀ r2 m2 t2, r2 ≤ 2 → scan (List.replicate d 73) r2 m2 t2 = some (t2 + d) := by
      intro r2 m2 t2 h2
      have := scan_rep (c := 73) (q := 3) (by decide) [] d r2 m2 t2 (by omega) (by omega) (by omega)
      rw [List.append_nil] at this
      rw [this]
      simp [scan, weight]
    rw [e2 _ _ _ (by split <;> omega)]
    simp [weight]; omega
  rw [e1 _ _ _ (by split <;> (try split) <;> omega)]
  simp [weight]; omega
theorem worth_ntext {n : Nat} (h : n ≤ 9999) : worth (ntext n) = some (n : Int) := by
  unfold ntext
  rw [worth_notes (by omega) (by omega) (by omega) (by omega)]
  have e1 : n / 100 = n / 10 / 10 := by rw [Nat.div_div_eq_div_mul]
  have e2 : n / 1000 = n / 10 / 10 / 10 := by rw [Nat.div_div_eq_div_mul, Nat.div_div_eq_div_mul]
  rw [e1, e2]
  have h1 := Nat.div_add_mod n 10
  have h2 := Nat.div_add_mod (n / 10) 10
  have h3 := Nat.div_add_mod (n / 10 / 10) 10
  generalize n / 10 / 10 / 10 = x at *
  generalize n / 10 / 10 % 10 = y at *
  generalize n / 10 / 10 = z at *
  generalize n / 10 % 10 = u at *
  generalize n / 10 = q at *
  generalize n % 10 = r at *
  exact congrArg some (by omega)
theorem worth_bd {s : List UInt8} {v : Int} (h : worth s = some v) : s.length ≤ 36 ∧ 0 ≤ v ∧ v ≤ 36000 ∧ (v = 0 → s = []) := by
  obtain ⟨h1, h2, h3, h4⟩ := scan_bd s 0 0 0 v (by omega) (by omega) h
  refine ⟨by omega, h2, by omega, h4⟩
theorem worth_nil : worth [] = some 0 := rfl
theorem ntext_nil {n : Nat} (h : n ≤ 9999) : ntext n = [] ↔ n = 0 := by
  constructor
  · intro e
    have := worth_ntext h
    rw [e, worth_nil] at this
    injection this with this
    omega
  · rintro rfl; rfl
end Go.Proofs.Ytogplbnabffcfaa.Ta
