/-
  Who pays whom: the greatest debt to the greatest claim each time; what this comes to. No program in sight.
-/
import Derived.Test.YtogplbnabffcfaaTaPlain
namespace Go.Proofs.Ytogplbnabffcfaa.Ta

def lowK (b : List Int) : Nat → Nat
  | 0 => 0
  | k + 1 => if b.getD k 0 < b.getD (lowK b k) 0 then k else lowK b k
def highK (b : List Int) : Nat → Nat
  | 0 => 0
  | k + 1 => if b.getD (highK b k) 0 < b.getD k 0 then k else highK b k
theorem lowK_spec (b : List Int) : ∀ k, (∀ i, i < k → b.getD (lowK b k) 0 ≤ b.getD i 0) ∧ (∀ i, i < lowK b k → b.getD (lowK b k) 0 < b.getD i 0) ∧ (0 < k → lowK b k < k) ∧ lowK b k ≤ k
  | 0 => ⟨fun i hi => by omega, fun i hi => by simp [lowK] at hi, fun h => by omega, Nat.le_refl _⟩
  | k + 1 => by
    obtain ⟨h1, h2, h3, h4⟩ := lowK_spec b k
    unfold lowK
    by_cases hc : b.getD k 0 < b.getD (lowK b k) 0
    · rw [if_pos hc]
      refine ⟨fun i hi => ?_, fun i hi => ?_, fun _ => by omega, by omega⟩
      · by_cases e : i = k
        · subst e; omega
        · have := h1 i (by omega); omega
      · have := h1 i hi; omega
    · rw [if_neg hc]
      refine ⟨fun i hi => ?_, h2, fun _ => by omega, by omega⟩
      by_cases e : i = k
      · subst e; omega
      · exact h1 i (by omega)
theorem highK_spec (b : List Int) : ∀ k, (∀ i, i < k → b.getD i 0 ≤ b.getD (highK b k) 0) ∧ (∀ i, i < highK b k → b.getD i 0 < b.getD (highK b k) 0) ∧ (0 < k → highK b k < k) ∧ highK b k ≤ k
  | 0 => ⟨fun i hi => by omega, fun i hi => by simp [highK] at hi, fun h => by omega, Nat.le_refl _⟩
  | k + 1 => by
    obtain ⟨h1, h2, h3, h4⟩ := highK_spec b k
    unfold highK
    by_cases hc : b.getD (highK b k) 0 < b.getD k 0
    · rw [if_pos hc]
      refine ⟨fun i hi => ?_, fun i hi => ?_, fun _ => by omega, by omega⟩
      · by_cases e : i = k
        · subst e; omega
        · have := h1 i (by omega); omega
      · have := h1 i hi; omega
    · rw [if_neg hc]
      refine ⟨fun i hi => ?_, h2, fun _ => by omega, by omega⟩
      by_cases e : i = k
      · subst e; omega
      · exact h1 i (by omega)
def low (b : List Int) : Nat := lowK b 5
def high (b : List Int) : Nat := highK b 5
def due (b : List Int) : Int := min (b.getD (high b) 0) (0 - b.getD (low b) 0)
def pay (b : List Int) (l h : Nat) (n : Int) : List Int := (b.set l (b.getD l 0 + n)).set h (b.getD h 0 - n)
def settle : Nat → List Int → Option (List (Nat × Nat × Int))
  | 0, _ => some []
  | f + 1, b => if due b = 0 then some [] else if due b < 1 ∨ 9999 < due b then none else (settle f (pay b (low b) (high b) (due b))).map fun r => (low b, high b, due b) :: r

/-! sums over a list -/
def tot (f : Int → Int) : List Int → Int
  | [] => 0
  | x :: xs => f x + tot f xs
theorem tot_set (f : Int → Int) : ∀ (b : List Int) (l : Nat) (v : Int), l < b.length → tot f (b.set l v) = tot f b - f (b.getD l 0) + f v
  | [], _, _, h => by simp at h
  | x :: xs, 0, v, _ => by simp [tot]; omega
  | x :: xs, l + 1, v, h => by
    have := tot_set f xs l v (by simpa using h)
    simp only [List.set_cons_succ, tot, List.getD_cons_succ]
    omega
def one (x : Int) : Int := if x = 0 then 0 else 1
def sum (b : List Int) : Int := tot id b
def nz (b : List Int) : Int := tot one b
def pos (b : List Int) : Int := tot (fun x => max 0 x) b
theorem getD_set (b : List Int) (l i : Nat) (v : Int) (hl : l < b.length) : (b.set l v).getD i 0 = if i = l then v else b.getD i 0 := by
  rw [List.getD_eq_getElem?_getD, List.getD_eq_getElem?_getD, List.getElem?_set]
  by_cases h : l = i
  · subst h; simp [hl]
  · rw [if_neg h, if_neg (Ne.symm h)]
/-- balances that even out -/
def Bal (b : List Int) : Prop := b.length = 5 ∧ sum b = 0
theorem five {b : List Int} (h : b.length = 5) : ∃ a0 a1 a2 a3 a4, b = [a0, a1, a2, a3, a4] := by
  match b, h with
  | [a0, a1, a2, a3, a4], _ => exact ⟨a0, a1, a2, a3, a4, rfl⟩
theorem low_lt (b : List Int) : low b < 5 := (lowK_spec b 5).2.2.1 (by omega)
theorem high_lt (b : List Int) : high b < 5 := (highK_spec b 5).2.2.1 (by omega)
/-- what the greatest and the least come to -/
theorem due_spec {b : List Int} (h : Bal b) : 0 ≤ due b ∧ (due b = 0 → ∀ i, i < 5 → b.getD i 0 = 0) ∧ (due b ≠ 0 → b.getD (low b) 0 < 0 ∧ 0 < b.getD (high b) 0 ∧ low b ≠ high b) := by
  obtain ⟨hl, hs⟩ := h
  obtain ⟨a0, a1, a2, a3, a4, rfl⟩ := five hl
  have l0 := (lowK_spec [a0, a1, a2, a3, a4] 5).1
  have h0 := (highK_spec [a0, a1, a2, a3, a4] 5).1
  have e1 : ∀ x, x = ([a0, a1, a2, a3, a4] : List Int).getD (low [a0, a1, a2, a3, a4]) 0 → x ≤ a0 ∧ x ≤ a1 ∧ x ≤ a2 ∧ x ≤ a3 ∧ x ≤ a4 := fun x hx => by
    subst hx
    exact ⟨l0 0 (by omega), l0 1 (by omega), l0 2 (by omega), l0 3 (by omega), l0 4 (by omega)⟩
  have e2 : ∀ x, x = ([a0, a1, a2, a3, a4] : List Int).getD (high [a0, a1, a2, a3, a4]) 0 → a0 ≤ x ∧ a1 ≤ x ∧ a2 ≤ x ∧ a3 ≤ x ∧ a4 ≤ x := fun x hx => by
    subst hx
    exact ⟨h0 0 (by omega), h0 1 (by omega), h0 2 (by omega), h0 3 (by omega), h0 4 (by omega)⟩
  simp only [sum, tot, id] at hs
  unfold due
  generalize hx : ([a0, a1, a2, a3, a4] : List Int).getD (low [a0, a1, a2, a3, a4]) 0 = x at *
  generalize hy : ([a0, a1, a2, a3, a4] : List Int).getD (high [a0, a1, a2, a3, a4]) 0 = y at *
  obtain ⟨p0, p1, p2, p3, p4⟩ := e1 x rfl
  obtain ⟨q0, q1, q2, q3, q4⟩ := e2 y rfl
  refine ⟨by omega, fun hd i hi => ?_, fun hd => ⟨by omega, by omega, fun e => ?_⟩⟩
  · have : a0 = 0 ∧ a1 = 0 ∧ a2 = 0 ∧ a3 = 0 ∧ a4 = 0 := by omega
    obtain ⟨rfl, rfl, rfl, rfl, rfl⟩ := this
    match i, hi with
    | 0, _ => rfl
    | 1, _ => rfl
    | 2, _ => rfl
    | 3, _ => rfl
    | 4, _ => rfl
  · rw [e] at hx
    rw [hx] at hy
    omega
theorem pay_length (b : List Int) (l h : Nat) (n : Int) : (pay b l h n).length = b.length := by simp [pay]
theorem pay_getD {b : List Int} {l h : Nat} (n : Int) (hl : l < b.length) (hh : h < b.length) (hne : l ≠ h) (i : Nat) : (pay b l h n).getD i 0 = b.getD i 0 + (if i = l then n else 0) - (if i = h then n else 0) := by
  unfold pay
  rw [getD_set _ _ _ _ (by simpa using hh), getD_set _ _ _ _ hl]
  by_cases e1 : i = h
  · subst e1; rw [if_pos rfl, if_pos rfl, if_neg (Ne.symm hne)]; omega
  · rw [if_neg e1, if_neg e1]
    by_cases e2 : i = l
    · subst e2; simp
    · rw [if_neg e2, if_neg e2]; omega
theorem tot_pay (f : Int → Int) {b : List Int} {l h : Nat} (n : Int) (hl : l < b.length) (hh : h < b.length) (hne : l ≠ h) : tot f (pay b l h n) = tot f b - f (b.getD l 0) + f (b.getD l 0 + n) - f (b.getD h 0) + f (b.getD h 0 - n) := by
  unfold pay
  rw [tot_set f _ h _ (by simpa using hh), tot_set f _ l _ hl, getD_set _ _ _ _ hl, if_neg (Ne.symm hne)]
theorem pay_bal {b : List Int} (h : Bal b) (hd : due b ≠ 0) : Bal (pay b (low b) (high b) (due b)) := by
  obtain ⟨_, _, hne⟩ := (due_spec h).2.2 hd
  have hl := h.1
  refine ⟨by rw [pay_length, hl], ?_⟩
  have := h.2
  unfold sum at *
  rw [tot_pay id _ (by rw [hl]; exact low_lt b) (by rw [hl]; exact high_lt b) hne, this]
  simp only [id]
  omega
/-- each payment evens one person out -/
theorem pay_nz {b : List Int} (h : Bal b) (hd : due b ≠ 0) : nz (pay b (low b) (high b) (due b)) ≤ nz b - 1 := by
  obtain ⟨h1, h2, hne⟩ := (due_spec h).2.2 hd
  have hl := h.1
  unfold nz
  rw [tot_pay one _ (by rw [hl]; exact low_lt b) (by rw [hl]; exact high_lt b) hne]
  have e : due b = min (b.getD (high b) 0) (0 - b.getD (low b) 0) := rfl
  generalize b.getD (low b) 0 = x at *
  generalize b.getD (high b) 0 = y at *
  generalize due b = n at *
  have a1 : one x = 1 := by unfold one; rw [if_neg (by omega)]
  have a2 : one y = 1 := by unfold one; rw [if_neg (by omega)]
  have a3 : one (x + n) + one (y - n) ≤ 1 := by
    unfold one
    by_cases hx : x + n = 0
    · rw [if_pos hx]; split <;> omega
    · rw [if_neg hx, if_pos (by omega)]; omega
  omega
theorem nz_nonneg (b : List Int) : 0 ≤ nz b := by
  unfold nz
  induction b with
  | nil => simp [tot]
  | cons x xs ih => simp only [tot]; unfold one at *; split <;> omega
theorem nz_le : ∀ (b : List Int), nz b ≤ b.length
  | [] => by simp [nz, tot]
  | x :: xs => by
    have := nz_le xs
    unfold nz at *
    simp only [tot, List.length_cons]
    have : one x ≤ 1 := by unfold one; split <;> omega
    omega
theorem nz_pos {b : List Int} (h : Bal b) (hd : due b ≠ 0) : 1 ≤ nz b := by
  have := pay_nz h hd
  have := nz_nonneg (pay b (low b) (high b) (due b))
  omega
/-- more rounds change nothing -/
theorem settle_more : ∀ (f : Nat) (b : List Int), Bal b → nz b ≤ f → settle (f + 1) b = settle f b
  | 0, b, h, hn => by
    have hd : due b = 0 := by
      by_cases hd : due b = 0
      · exact hd
      · have := nz_pos h hd; omega
    unfold settle
    rw [if_pos hd]
  | f + 1, b, h, hn => by
    unfold settle
    by_cases hd : due b = 0
    · rw [if_pos hd, if_pos hd]
    · rw [if_neg hd, if_neg hd, settle_more f _ (pay_bal h hd) (by have := pay_nz h hd; omega)]
theorem settle_fuel {f : Nat} {b : List Int} (h : Bal b) (hn : nz b ≤ f) : ∀ g, settle (f + g) b = settle f b
  | 0 => rfl
  | g + 1 => by rw [← Nat.add_assoc, settle_more (f + g) b h (by omega), settle_fuel h hn g]
/-- what payments do to a person's balance -/
def eff : List (Nat × Nat × Int) → Nat → Int
  | [], _ => 0
  | (l, h, n) :: r, p => (if p = h then n else 0) - (if p = l then n else 0) + eff r p
def all : List (Nat × Nat × Int) → Int
  | [] => 0
  | (_, _, n) :: r => n + all r
theorem settle_spec : ∀ (f : Nat) (b : List Int), Bal b → nz b ≤ f → ∀ out, settle f b = some out →
    (∀ t ∈ out, t.1 < 5 ∧ t.2.1 < 5 ∧ t.1 ≠ t.2.1 ∧ 1 ≤ t.2.2 ∧ t.2.2 ≤ 9999 ∧ b.getD t.1 0 < 0 ∧ 0 < b.getD t.2.1 0) ∧ (∀ p, p < 5 → eff out p = b.getD p 0) ∧ all out = pos b ∧ ((out.length : Int) ≤ nz b - 1 ∨ out = [])
  | 0, b, h, hn, out, ho => by
    have hd : due b = 0 := by
      by_cases hd : due b = 0
      · exact hd
      · have := nz_pos h hd; omega
    have hz := (due_spec h).2.1 hd
    obtain rfl : [] = out := by simpa [settle] using ho
    refine ⟨fun t ht => by simp at ht, fun p hp => by rw [hz p hp]; rfl, ?_, .inr rfl⟩
    obtain ⟨a0, a1, a2, a3, a4, rfl⟩ := five h.1
    have z0 := hz 0 (by omega); have z1 := hz 1 (by omega); have z2 := hz 2 (by omega); have z3 := hz 3 (by omega); have z4 := hz 4 (by omega)
    simp at z0 z1 z2 z3 z4
    subst z0 z1 z2 z3 z4
    simp [all, pos, tot]
  | f + 1, b, h, hn, out, ho => by
    unfold settle at ho
    by_cases hd : due b = 0
    · rw [if_pos hd] at ho
      have hz := (due_spec h).2.1 hd
      obtain rfl : [] = out := by simpa using ho
      refine ⟨fun t ht => by simp at ht, fun p hp => by rw [hz p hp]; rfl, ?_, .inr rfl⟩
      obtain ⟨a0, a1, a2, a3, a4, rfl⟩ := five h.1
      have z0 := hz 0 (by omega); have z1 := hz 1 (by omega); have z2 := hz 2 (by omega); have z3 := hz 3 (by omega); have z4 := hz 4 (by omega)
      simp at z0 z1 z2 z3 z4
      subst z0 z1 z2 z3 z4
      simp [all, pos, tot]
    · rw [if_neg hd] at ho
      by_cases hb : due b < 1 ∨ 9999 < due b
      · rw [if_pos hb] at ho; cases ho
      · rw [if_neg hb] at ho
        obtain ⟨h1, h2, hne⟩ := (due_spec h).2.2 hd
        have hl := h.1
        have ll : low b < b.length := by rw [hl]; exact low_lt b
        have lh : high b < b.length := by rw [hl]; exact high_lt b
        have hp := pay_bal h hd
        have hpn := pay_nz h hd
        cases hr : settle f (pay b (low b) (high b) (due b)) with
        | none => rw [hr] at ho; cases ho
        | some r =>
          rw [hr] at ho
          obtain rfl : (low b, high b, due b) :: r = out := by simpa using ho
          obtain ⟨i1, i2, i3, i4⟩ := settle_spec f _ hp (by omega) r hr
          have e : due b = min (b.getD (high b) 0) (0 - b.getD (low b) 0) := rfl
          refine ⟨fun t ht => ?_, fun p hp5 => ?_, ?_, ?_⟩
          · rcases List.mem_cons.1 ht with rfl | ht
            · exact ⟨low_lt b, high_lt b, hne, by show 1 ≤ due b; omega, by show due b ≤ 9999; omega, h1, h2⟩
            · obtain ⟨j1, j2, j3, j4, j5, j6, j7⟩ := i1 t ht
              rw [pay_getD _ ll lh hne] at j6 j7
              refine ⟨j1, j2, j3, j4, j5, ?_, ?_⟩
              · by_cases k1 : t.1 = high b
                · rw [k1, if_neg (Ne.symm hne), if_pos rfl] at j6; omega
                · rw [if_neg k1] at j6
                  by_cases k2 : t.1 = low b
                  · rw [k2]; exact h1
                  · rw [if_neg k2] at j6; omega
              · by_cases k1 : t.2.1 = low b
                · rw [k1, if_pos rfl, if_neg hne] at j7; omega
                · rw [if_neg k1] at j7
                  by_cases k2 : t.2.1 = high b
                  · rw [k2]; exact h2
                  · rw [if_neg k2] at j7; omega
          · have := i2 p hp5
            rw [pay_getD _ ll lh hne] at this
            show (if p = high b then due b else 0) - (if p = low b then due b else 0) + eff r p = b.getD p 0
            rw [this]
            omega
          · show due b + all r = pos b
            rw [i3]
            unfold pos
            rw [tot_pay _ _ ll lh hne]
            generalize b.getD (low b) 0 = x at *
            generalize b.getD (high b) 0 = y at *
            omega
          · refine .inl ?_
            show ((r.length + 1 : Nat) : Int) ≤ nz b - 1
            rcases i4 with i4 | rfl
            · omega
            · have : 2 ≤ nz b := by
                have hq : one (b.getD (low b) 0) = 1 ∧ one (b.getD (high b) 0) = 1 := ⟨by unfold one; rw [if_neg (by omega)], by unfold one; rw [if_neg (by omega)]⟩
                have hw := tot_set one b (low b) 0 ll
                have hw2 := tot_set one (b.set (low b) 0) (high b) 0 (by simpa using lh)
                rw [getD_set _ _ _ _ ll, if_neg (Ne.symm hne)] at hw2
                have h0 : one 0 = 0 := rfl
                have := nz_nonneg ((b.set (low b) 0).set (high b) 0)
                unfold nz at *
                omega
              simp
              omega
end Go.Proofs.Ytogplbnabffcfaa.Ta
