/-
  Joined texts: Draw2, GlDraw, GlPlain, GlPlain2, GlRoot, GlRoot2, ExRoot, ExecuteRootWalk.
-/
import Derived.Test.YthdoofmfigemoaaGreatDoorBase4

section
/-
  A code is opened: a reader in a new block.
-/
namespace Go.Proofs.YthdoofmfigemoaaGreatDoor
open Go.RowKit

/-- a slice of bytes that can be read; its cells lie below block B -/
def Bytes (w : World) (B : Nat) (A : Option Addr) (n c : Nat) : Prop :=
  n ≤ c ∧ (0 < n → ∃ b off, A = some ⟨b, off, none⟩ ∧ b < B ∧ ∀ j, j < n → ∃ u : Int, 0 ≤ u ∧ u ≤ 255 ∧ w.cell? ⟨b, off + j, none⟩ = some (.int .u8 u))
theorem Bytes.of_row {w : World} {a : Option Addr} {len cap : Nat} {zs : List Int} (h : IsRow .u8 w a len cap zs) : Bytes w w.heap.size a len cap := by
  rcases h with ⟨rfl, rfl, rfl, rfl⟩ | ⟨x, rfl, h1, h2, h3, h4, h5⟩
  · exact ⟨by omega, fun h => absurd h (by omega)⟩
  · refine ⟨h1, fun hn => ?_⟩
    obtain ⟨b, off, spot⟩ := x
    have h0 := h4 0 (by omega)
    have hs : spot = none := by simpa [Addr.add] using World.cell?_spot h0
    subst hs
    refine ⟨b, off, rfl, by simpa [Addr.add] using World.block_lt_of_cell? w _ h0, fun j hj => ?_⟩
    have := h4 j (by omega)
    rw [show (⟨b, off, none⟩ : Addr).add j = ⟨b, off + j, none⟩ from by unfold Addr.add; split <;> simp_all] at this
    have hm := h5 (zs.getD j 0) (by rw [List.getD_eq_getElem?_getD, List.getElem?_eq_getElem (by omega)]; exact List.getElem_mem _)
    generalize zs.getD j 0 = u at hm this
    have m0 : IntKind.u8.min = 0 := rfl
    have m1 : IntKind.u8.max = 255 := rfl
    simp [Lit.wf, m0, m1] at hm
    exact ⟨u, by omega, by omega, this⟩
theorem Bytes.next {w w' : World} {A : Option Addr} {n c : Nat} (h : Bytes w w.heap.size A n c) (hb : Below w.heap.size w w') : Bytes w' w'.heap.size A n c := by
  refine ⟨h.1, fun hn => ?_⟩
  obtain ⟨b, off, e, hlt, hc⟩ := h.2 hn
  have := hb.size
  refine ⟨b, off, e, by omega, fun j hj => ?_⟩
  obtain ⟨u, h0, h1, hu⟩ := hc j hj
  exact ⟨u, h0, h1, (hb.cell (p := ⟨b, off + j, none⟩) hlt).trans hu⟩

set_option maxHeartbeats 1000000 in
theorem l6Open_any (A : Option Addr) (n c : Nat) (w : World) (h : Bytes w w.heap.size A n c) (hn : n ≤ 1048576) :
    Calls Tryz.prog 40 #[.slice A n c] w fun e w' => e = .returned (.pointer (some ⟨w.heap.size, 0, none⟩)) ∧ Rd w' w.heap.size w.heap.size 0 ∧ Below w.heap.size w w' := by
  have hc := h.1
  have H := Lib.hid h
  clear h
  have fin : ∀ (m : Nat) (A' : Option Addr) (c' : Nat), m ≤ 2000 → m ≤ n → A' = A → Rd (w.alloc (.cells #[.slice A' m c', .int .i64 0] 133)) w.heap.size w.heap.size 0 ∧ Below w.heap.size w (w.alloc (.cells #[.slice A' m c', .int .i64 0] 133)) := by
    intro m A' c' hm hmn hA
    subst hA
    refine ⟨⟨_, m, c', heap_alloc_new w _, hm, Nat.le_refl _, fun h0 => ?_⟩, (Below.refl _ _).alloc (Nat.le_refl _) _⟩
    obtain ⟨b, off, e, hlt, hc⟩ := H.out.2 (by omega)
    refine ⟨b, off, e, hlt, fun j hj => ?_⟩
    obtain ⟨u, h0, h1, hu⟩ := hc j (by omega)
    exact ⟨u, h0, h1, (World.cell?_alloc_lt w _ _ hlt).trans hu⟩
  have FIN := Lib.hid fin
  clear fin
  by_cases hbig : 2000 < n
  · obtain ⟨b, off, rfl, hlt, hcc⟩ := H.out.2 (by omega)
    clear hcc
    go_enter Tryz.func40, Tryz.ntmps40
    go_wp2
    go_ret
    exact ⟨rfl, FIN.out _ _ _ (by omega) (by omega) rfl⟩
  · go_enter Tryz.func40, Tryz.ntmps40
    go_wp2
    go_ret
    exact ⟨rfl, FIN.out _ _ _ (by omega) (by omega) rfl⟩
end Go.Proofs.YthdoofmfigemoaaGreatDoor
end

section
/-
  The draws of roots, long divisions and chains: whatever the code, they come back with numbers in their ranges and lists that can be read.
-/
namespace Go.Proofs.YthdoofmfigemoaaGreatDoor
open Go.RowKit

set_option maxRecDepth 100000 in
set_option maxHeartbeats 1000000 in
theorem l92Root_any (w : World) (B g p : Nat) (h : Rd w B g p) (hp : p ≤ 900000) :
    Calls Tryz.prog 70 #[.pointer (some ⟨g, 0, none⟩)] w (DInt (-1) 1000000001 w B g p) := by
  have hlt := h.lt
  have hbs := h.base
  have HR := Lib.hid h
  have HG := Lib.hid (World.grownBy.refl w (some g))
  have hsz0 : w.heap.size ≤ w.heap.size := Nat.le_refl _
  clear h
  go_enter Tryz.func70, Tryz.ntmps70
  go_wp2_with fail
  refine (pick_any _ _ _ _ _ HR.out (by omega)).mono ?_
  rintro e w1 ⟨v1, rfl, hv1, hrd1, hg1⟩
  obtain ⟨hva1, hvb1⟩ := hv1 (by omega)
  clear hv1
  have hsz1 := hg1.size
  replace HG := Lib.hid (HG.out.trans hg1)
  replace HR := Lib.hid hrd1
  clear hrd1 hg1
  by_cases e0 : v1 = 0
  · subst e0
    go_wp2_with fail
    refine (pick_any _ _ _ _ _ (HR.out.alloc _) (by omega)).mono ?_
    rintro e w2 ⟨v2, rfl, hv2, hrd2, hg2⟩
    obtain ⟨hva2, hvb2⟩ := hv2 (by omega)
    obtain ⟨j2, u2, rfl, hj2, hu2, hc2⟩ := lit_after (n := 4) (us := [-1, 0, 1000000000, 1000000001]) hg2 (by omega) rfl (by omega) hva2 hvb2
    obtain ⟨hua2, hub2⟩ : -1 ≤ u2 ∧ u2 ≤ 1000000001 := by simp at hu2; omega
    clear hv2 hu2
    have hsz2 := hg2.size
    simp only [World.size_alloc] at hsz2
    replace HG := Lib.hid ((HG.out.trans (World.grownBy_alloc _ _ _)).trans hg2)
    replace HR := Lib.hid hrd2
    clear hrd2 hg2
    go_wp2
    go_ret
    exact ⟨_, _, rfl, by omega, by omega, HR.out, by omega, HG.out⟩
  · have f0 : (v1 == 0) = false := by simpa using e0
    by_cases e1 : v1 = 1
    · subst e1
      go_wp2_with fail
      refine (pick_any _ _ _ _ _ HR.out (by omega)).mono ?_
      rintro e w2 ⟨v2, rfl, hv2, hrd2, hg2⟩
      obtain ⟨hva2, hvb2⟩ := hv2 (by omega)
      clear hv2
      have hsz2 := hg2.size
      replace HG := Lib.hid (HG.out.trans hg2)
      replace HR := Lib.hid hrd2
      clear hrd2 hg2
      obtain ⟨hm0, hm1⟩ := sq_in hva2 (by omega : v2 ≤ 2999)
      go_wp2_with fail
      refine (pick_any _ _ _ _ _ HR.out (by omega)).mono ?_
      rintro e w3 ⟨v3, rfl, hv3, hrd3, hg3⟩
      obtain ⟨hva3, hvb3⟩ := hv3 (by omega)
      clear hv3
      have hsz3 := hg3.size
      replace HG := Lib.hid (HG.out.trans hg3)
      replace HR := Lib.hid hrd3
      clear hrd3 hg3
      go_wp2
      go_ret
      exact ⟨_, _, rfl, by omega, by omega, HR.out, by omega, HG.out⟩
    · have f1 : (v1 == 1) = false := by simpa using e1
      by_cases e2 : v1 = 2
      · subst e2
        go_wp2_with fail
        refine (pick_any _ _ _ _ _ HR.out (by omega)).mono ?_
        rintro e w2 ⟨v2, rfl, hv2, hrd2, hg2⟩
        obtain ⟨hva2, hvb2⟩ := hv2 (by omega)
        clear hv2
        have hsz2 := hg2.size
        replace HG := Lib.hid (HG.out.trans hg2)
        replace HR := Lib.hid hrd2
        clear hrd2 hg2
        obtain ⟨hm0, hm1⟩ := sq_in hva2 (by omega : v2 ≤ 2999)
        go_wp2_with fail
        refine (pick_any _ _ _ _ _ HR.out (by omega)).mono ?_
        rintro e w3 ⟨v3, rfl, hv3, hrd3, hg3⟩
        obtain ⟨hva3, hvb3⟩ := hv3 (by omega)
        clear hv3
        have hsz3 := hg3.size
        replace HG := Lib.hid (HG.out.trans hg3)
        replace HR := Lib.hid hrd3
        clear hrd3 hg3
        go_wp2
        go_ret
        exact ⟨_, _, rfl, by omega, by omega, HR.out, by omega, HG.out⟩
      · have f2 : (v1 == 2) = false := by simpa using e2
        go_wp2_with fail
        refine (pick_any _ _ _ _ _ HR.out (by omega)).mono ?_
        rintro e w2 ⟨v2, rfl, hv2, hrd2, hg2⟩
        obtain ⟨hva2, hvb2⟩ := hv2 (by omega)
        clear hv2
        have hsz2 := hg2.size
        replace HG := Lib.hid (HG.out.trans hg2)
        replace HR := Lib.hid hrd2
        clear hrd2 hg2
        go_wp2_with fail
        refine (pick_any _ _ _ _ _ HR.out (by omega)).mono ?_
        rintro e w3 ⟨v3, rfl, hv3, hrd3, hg3⟩
        obtain ⟨hva3, hvb3⟩ := hv3 (by omega)
        clear hv3
        have hsz3 := hg3.size
        replace HG := Lib.hid (HG.out.trans hg3)
        replace HR := Lib.hid hrd3
        clear hrd3 hg3
        obtain ⟨hm0, hm1⟩ := mul_in hva2 (by omega : v2 ≤ 999) (by omega : 0 ≤ 1 + v3) (by omega : 1 + v3 ≤ 200)
        go_wp2
        go_ret
        exact ⟨_, _, rfl, by omega, by omega, HR.out, by omega, HG.out⟩

end Go.Proofs.YthdoofmfigemoaaGreatDoor
end

section
/-
  Plain long divisions, roots and chains of quotients, with no program in sight.
-/
namespace Go.Proofs.YthdoofmfigemoaaGreatDoor.Gl

/-! ### long division -/
/-- the digits and the rests of a long division -/
def steps (d : Int) : Int → List Int → List (Int × Int)
  | _, [] => []
  | r, x :: xs => ((10 * r + x) / d, (10 * r + x) % d) :: steps d ((10 * r + x) % d) xs
def lastRest (d : Int) : Int → List Int → Int
  | r, [] => r
  | r, x :: xs => lastRest d ((10 * r + x) % d) xs
def horner (n : Int) (l : List Int) : Int := l.foldl (fun n x => 10 * n + x) n

theorem steps_length (d : Int) (xs : List Int) : ∀ r, (steps d r xs).length = xs.length := by
  induction xs with
  | nil => intro r; rfl
  | cons x xs ih => intro r; simp [steps, ih]
theorem steps_append (d : Int) (xs ys : List Int) : ∀ r, steps d r (xs ++ ys) = steps d r xs ++ steps d (lastRest d r xs) ys := by
  induction xs with
  | nil => intro r; rfl
  | cons x xs ih => intro r; simp [steps, lastRest, ih]
theorem lastRest_append (d : Int) (xs ys : List Int) : ∀ r, lastRest d r (xs ++ ys) = lastRest d (lastRest d r xs) ys := by
  induction xs with
  | nil => intro r; rfl
  | cons x xs ih => intro r; simp [lastRest, ih]
theorem lastRest_range (d : Int) (hd : 0 < d) (xs : List Int) : ∀ r, 0 ≤ r → r < d → 0 ≤ lastRest d r xs ∧ lastRest d r xs < d := by
  induction xs with
  | nil => intro r h0 h1; exact ⟨h0, h1⟩
  | cons x xs ih => intro r _ _; exact ih _ (Int.emod_nonneg _ (by omega)) (Int.emod_lt_of_pos _ hd)
/-- a step's digit lies between 0 and 9 -/
theorem step_digit (d r x : Int) (hd : 0 < d) (h0 : 0 ≤ r) (h1 : r < d) (hx : 0 ≤ x) (hx9 : x ≤ 9) : 0 ≤ (10 * r + x) / d ∧ (10 * r + x) / d ≤ 9 := by
  refine ⟨Int.ediv_nonneg (by omega) (by omega), ?_⟩
  have : (10 * r + x) / d < 10 := Int.ediv_lt_of_lt_mul hd (by omega)
  omega
theorem horner_append (xs ys : List Int) (n : Int) : horner n (xs ++ ys) = horner (horner n xs) ys := by simp [horner]
theorem horner_snoc (xs : List Int) (x n : Int) : horner n (xs ++ [x]) = 10 * horner n xs + x := by simp [horner]
/-- the quotient and the last rest make the value -/
theorem div_law (d : Int) (xs : List Int) : ∀ r q, horner q ((steps d r xs).map (·.1)) * d + lastRest d r xs = horner (q * d + r) xs := by
  induction xs with
  | nil => intro r q; simp [steps, horner, lastRest]
  | cons x xs ih =>
    intro r q
    simp only [steps, List.map_cons, horner, List.foldl_cons, lastRest] at ih ⊢
    rw [ih]
    have e := Int.emod_add_mul_ediv (10 * r + x) d
    congr 1
    rw [Int.add_mul, Int.mul_comm ((10 * r + x) / d) d, Int.mul_assoc]
    omega
theorem horner_nonneg (xs : List Int) : ∀ n, 0 ≤ n → (∀ x ∈ xs, 0 ≤ x) → 0 ≤ horner n xs := by
  induction xs with
  | nil => intro n h _; exact h
  | cons x xs ih => intro n h hx; exact ih _ (by have := hx x (by simp); show 0 ≤ 10 * n + x; omega) (fun y hy => hx y (by simp [hy]))
theorem horner_lt (xs : List Int) : ∀ n, 0 ≤ n → (∀ x ∈ xs, 0 ≤ x ∧ x ≤ 9) → horner n xs < (n + 1) * 10 ^ xs.length := by
  induction xs with
  | nil => intro n _ _; simp [horner]; omega
  | cons x xs ih =>
    intro n h hx
    have hx0 := hx x (by simp)
    have := ih (10 * n + x) (by omega) (fun y hy => hx y (by simp [hy]))
    simp only [horner, List.foldl_cons, List.length_cons, Int.pow_succ] at this ⊢
    have h2 : (10 * n + x + 1) * 10 ^ xs.length ≤ (10 * (n + 1)) * 10 ^ xs.length := Int.mul_le_mul_of_nonneg_right (by omega) (Int.pow_nonneg (by omega))
    rw [show (n + 1) * (10 ^ xs.length * 10) = (10 * (n + 1)) * 10 ^ xs.length from by rw [Int.mul_comm (10 ^ xs.length) 10, ← Int.mul_assoc, Int.mul_comm (n + 1) 10]]
    omega
/-- a quotient and a rest below the divisor are one -/
theorem div_unique (v d q r : Int) (h0 : 0 ≤ r) (h1 : r < d) (h : q * d + r = v) : q = v / d ∧ r = v % d := by
  subst h
  have hd : d ≠ 0 := by omega
  rw [Int.add_comm, Int.mul_comm, Int.add_mul_ediv_left _ _ hd, Int.add_mul_emod_self_left, Int.ediv_eq_zero_of_lt h0 h1, Int.emod_eq_of_lt h0 h1]
  omega

/-! ### periods: the rests of 1 divided by d -/
def rest (d : Int) : Nat → Int
  | 0 => 1 % d
  | k + 1 => (10 * rest d k) % d
theorem rest_range (d : Int) (hd : 0 < d) : ∀ k, 0 ≤ rest d k ∧ rest d k < d := by
  intro k
  cases k with
  | zero => exact ⟨Int.emod_nonneg _ (by omega), Int.emod_lt_of_pos _ hd⟩
  | succ k => exact ⟨Int.emod_nonneg _ (by omega), Int.emod_lt_of_pos _ hd⟩
theorem rest_again (d : Int) (a b : Nat) (h : rest d a = rest d b) : ∀ k, rest d (a + k) = rest d (b + k) := by
  intro k
  induction k with
  | zero => exact h
  | succ k ih => rw [← Nat.add_assoc, ← Nat.add_assoc, rest, rest, ih]
theorem rest_zero (d : Int) (a : Nat) (h : rest d a = 0) : ∀ k, rest d (a + k) = 0 := by
  intro k
  induction k with
  | zero => exact h
  | succ k ih => rw [← Nat.add_assoc, rest, ih]; simp

/-! ### roots -/
/-- r is the root of m, and what is left -/
def IsRoot (m r s : Int) : Prop := 0 ≤ r ∧ r * r + s = m ∧ 0 ≤ s ∧ s ≤ 2 * r
theorem sq_le_of (a b : Int) (h0 : 0 ≤ a) (h : a ≤ b) : a * a ≤ b * b := Int.mul_le_mul h h h0 (by omega)
theorem root_unique {m r s r' s' : Int} (h : IsRoot m r s) (h' : IsRoot m r' s') : r = r' ∧ s = s' := by
  obtain ⟨a1, a2, a3, a4⟩ := h
  obtain ⟨b1, b2, b3, b4⟩ := h'
  have e : r = r' := by
    rcases Int.lt_trichotomy r r' with hlt | heq | hgt
    · have h1 := sq_le_of (r + 1) r' (by omega) (by omega)
      rw [Int.add_mul, Int.mul_add] at h1; omega
    · exact heq
    · have h1 := sq_le_of (r' + 1) r (by omega) (by omega)
      rw [Int.add_mul, Int.mul_add] at h1; omega
  subst e
  exact ⟨rfl, by omega⟩
theorem isRoot_of_sq {m r : Int} (h0 : 0 ≤ r) (h1 : r * r ≤ m) (h2 : m < (r + 1) * (r + 1)) : IsRoot m r (m - r * r) := by
  rw [Int.add_mul, Int.mul_add] at h2
  exact ⟨h0, by omega, by omega, by omega⟩
/-- the digit of a root: the greatest that fits, looked for downwards -/
theorem dig_next {m r s p g : Int} (h : IsRoot m r s) (hp0 : 0 ≤ p) (hp : p ≤ 99) (h0 : 0 ≤ g) (h9 : g ≤ 9)
    (hfit : (20 * r + g) * g ≤ 100 * s + p) (hnot : g = 9 ∨ 100 * s + p < (20 * r + (g + 1)) * (g + 1)) :
    IsRoot (100 * m + p) (10 * r + g) (100 * s + p - (20 * r + g) * g) := by
  obtain ⟨a1, a2, a3, a4⟩ := h
  have e1 : (20 * r + g) * g = 20 * (r * g) + g * g := by rw [Int.add_mul, Int.mul_assoc]
  have e2 : (10 * r + g) * (10 * r + g) = 100 * (r * r) + 20 * (r * g) + g * g := by
    rw [Int.add_mul, Int.mul_add, Int.mul_add, Int.mul_comm g (10 * r)]
    have : 10 * r * (10 * r) = 100 * (r * r) := by rw [Int.mul_assoc, Int.mul_left_comm r 10 r, ← Int.mul_assoc]; rfl
    have : 10 * r * g = 10 * (r * g) := by rw [Int.mul_assoc]
    omega
  refine ⟨by omega, by omega, by omega, ?_⟩
  rcases hnot with rfl | hn
  · omega
  · have e3 : (20 * r + (g + 1)) * (g + 1) = 20 * (r * g) + 20 * r + g * g + 2 * g + 1 := by
      rw [Int.mul_add, Int.add_mul, Int.mul_one, Int.add_mul, Int.mul_assoc]
      omega
    omega

/-! ### chains of quotients -/
/-- one quotient more ahead of a pair -/
def ahead (q : Int) (v : Int × Int) : Int × Int := (q * v.1 + v.2, v.1)
def contT : List Int → Int × Int → Int × Int
  | [], v => v
  | q :: qs, v => ahead q (contT qs v)
/-- the two integers of a list of quotients -/
def cont (l : List Int) : Int × Int := contT l (1, 0)
def cross (v w : Int × Int) : Int := v.1 * w.2 - v.2 * w.1
theorem cross_ahead (q : Int) (v w : Int × Int) : cross (ahead q v) (ahead q w) = 0 - cross v w := by
  obtain ⟨a, b⟩ := v
  obtain ⟨c, d⟩ := w
  simp only [cross, ahead, Int.add_mul, Int.mul_add]
  have e1 : q * a * c = a * (q * c) := by rw [Int.mul_comm q a, Int.mul_assoc]
  omega
theorem cross_contT (l : List Int) (v w : Int × Int) (h : cross v w = 1 ∨ cross v w = -1) : cross (contT l v) (contT l w) = 1 ∨ cross (contT l v) (contT l w) = -1 := by
  induction l with
  | nil => exact h
  | cons q qs ih => simp only [contT, cross_ahead]; omega
theorem contT_append (l m : List Int) (v : Int × Int) : contT (l ++ m) v = contT l (contT m v) := by
  induction l with
  | nil => rfl
  | cons q qs ih => simp [contT, ih]
theorem cross_next (l : List Int) (q : Int) : cross (cont l) (cont (l ++ [q])) = 1 ∨ cross (cont l) (cont (l ++ [q])) = -1 := by
  unfold cont
  rw [contT_append]
  exact cross_contT l _ _ (by simp [contT, ahead, cross])
theorem cont_short (l : List Int) (q : Int) : cont (l ++ [q, 1]) = cont (l ++ [q + 1]) := by
  unfold cont
  rw [contT_append, contT_append]
  simp [contT, ahead]

/-- the chain of two integers, and what divides both; the first number bounds the steps -/
def chF : Nat → Int → Int → List Int
  | 0, _, _ => []
  | n + 1, a, b => if b = 0 then [] else a / b :: chF n b (a % b)
def comF : Nat → Int → Int → Int
  | 0, a, _ => a
  | n + 1, a, b => if b = 0 then a else comF n b (a % b)
def ch (a b : Int) : List Int := chF (b.toNat + 1) a b
def com (a b : Int) : Int := comF (b.toNat + 1) a b
theorem mod_small (a b : Int) (h0 : 0 ≤ b) (hb : b ≠ 0) : 0 ≤ a % b ∧ a % b < b := ⟨Int.emod_nonneg _ hb, Int.emod_lt_of_pos _ (by omega)⟩
theorem chF_fuel (n : Nat) : ∀ m a b, 0 ≤ b → b.toNat < n → b.toNat < m → chF n a b = chF m a b := by
  induction n with
  | zero => intro m a b _ h _; omega
  | succ n ih =>
    intro m a b h0 h1 h2
    cases m with
    | zero => omega
    | succ m =>
      simp only [chF]
      split
      · rfl
      · next hb =>
        have := mod_small a b h0 hb
        rw [ih m b (a % b) this.1 (by omega) (by omega)]
theorem comF_fuel (n : Nat) : ∀ m a b, 0 ≤ b → b.toNat < n → b.toNat < m → comF n a b = comF m a b := by
  induction n with
  | zero => intro m a b _ h _; omega
  | succ n ih =>
    intro m a b h0 h1 h2
    cases m with
    | zero => omega
    | succ m =>
      simp only [comF]
      split
      · rfl
      · next hb =>
        have := mod_small a b h0 hb
        rw [ih m b (a % b) this.1 (by omega) (by omega)]
theorem ch_zero (a : Int) : ch a 0 = [] := by simp [ch, chF]
theorem com_zero (a : Int) : com a 0 = a := by simp [com, comF]
theorem ch_step (a b : Int) (h0 : 0 ≤ b) (hb : b ≠ 0) : ch a b = a / b :: ch b (a % b) := by
  have := mod_small a b h0 hb
  rw [ch, chF, if_neg hb, ch, chF_fuel b.toNat ((a % b).toNat + 1) b (a % b) this.1 (by omega) (by omega)]
theorem com_step (a b : Int) (h0 : 0 ≤ b) (hb : b ≠ 0) : com a b = com b (a % b) := by
  have := mod_small a b h0 hb
  rw [com, comF, if_neg hb, com, comF_fuel b.toNat ((a % b).toNat + 1) b (a % b) this.1 (by omega) (by omega)]
/-- induction along the steps of Euclid -/
theorem euclid {P : Int → Int → Prop} (hz : ∀ a, 0 ≤ a → P a 0) (hs : ∀ a b, 0 ≤ a → 0 < b → P b (a % b) → P a b) : ∀ a b, 0 ≤ a → 0 ≤ b → P a b := by
  have key : ∀ n : Nat, ∀ a b : Int, 0 ≤ a → 0 ≤ b → b.toNat < n → P a b := by
    intro n
    induction n with
    | zero => intro a b _ _ h; omega
    | succ n ih =>
      intro a b ha hb h
      by_cases hb0 : b = 0
      · subst hb0; exact hz a ha
      · have := mod_small a b hb hb0
        exact hs a b ha (by omega) (ih b (a % b) hb this.1 (by omega))
  intro a b ha hb
  exact key (b.toNat + 1) a b ha hb (by omega)
/-- the chain leads back to the two integers, divided by what divides both -/
theorem ch_back (a b : Int) (ha : 0 ≤ a) (hb : 0 ≤ b) : a = com a b * (cont (ch a b)).1 ∧ b = com a b * (cont (ch a b)).2 := by
  refine euclid (P := fun a b => a = com a b * (cont (ch a b)).1 ∧ b = com a b * (cont (ch a b)).2) ?_ ?_ a b ha hb
  · intro a _; simp [ch_zero, com_zero, cont, contT]
  · intro a b ha hb ih
    rw [ch_step a b (by omega) (by omega), com_step a b (by omega) (by omega)]
    obtain ⟨h1, h2⟩ := ih
    refine ⟨?_, h1⟩
    have e := Int.emod_add_mul_ediv a b
    show a = com b (a % b) * ((a / b) * (cont (ch b (a % b))).1 + (cont (ch b (a % b))).2)
    rw [Int.mul_add, ← h2, Int.mul_left_comm, ← h1, Int.mul_comm (a / b) b]
    omega
theorem com_pos (a b : Int) (ha : 0 ≤ a) (hb : 0 ≤ b) (h : a ≠ 0 ∨ b ≠ 0) : 0 < com a b := by
  refine euclid (P := fun a b => (a ≠ 0 ∨ b ≠ 0) → 0 < com a b) ?_ ?_ a b ha hb h
  · intro a ha h; rw [com_zero]; omega
  · intro a b _ hb ih _
    rw [com_step a b (by omega) (by omega)]
    exact ih (by omega)
/-- the chain has but few quotients -/
theorem ch_length (n : Nat) : ∀ a b : Int, 0 ≤ b → b < a → b < 2 ^ n → (ch a b).length ≤ 2 * n := by
  induction n with
  | zero =>
    intro a b h0 _ h1
    have : b = 0 := by simp at h1; omega
    subst this; simp [ch_zero]
  | succ n ih =>
    intro a b h0 hab h1
    by_cases hb : b = 0
    · subst hb; simp [ch_zero]
    · rw [ch_step a b h0 hb]
      have m1 := mod_small a b h0 hb
      by_cases hm : a % b = 0
      · rw [hm, ch_zero]; simp; omega
      · rw [ch_step b (a % b) m1.1 hm]
        have m2 := mod_small b (a % b) m1.1 hm
        have hlt : b % (a % b) < 2 ^ n := by
          have e := Int.emod_add_mul_ediv b (a % b)
          have hq : 1 ≤ b / (a % b) := Int.le_ediv_of_mul_le (by omega) (by omega)
          have hq2 : (a % b) * 1 ≤ (a % b) * (b / (a % b)) := Int.mul_le_mul_of_nonneg_left hq (by omega)
          rw [Int.pow_succ] at h1
          omega
        have := ih (a % b) (b % (a % b)) m2.1 m2.2 hlt
        simp only [List.length_cons]; omega
/-- what the chain's quotients are -/
theorem ch_pos (a b : Int) (ha : 0 ≤ a) (hb : 0 ≤ b) : (∀ q ∈ ch a b, 0 ≤ q ∧ q ≤ a ∨ 0 ≤ q ∧ q ≤ b) ∧ ∀ q ∈ (ch a b).drop 1, 1 ≤ q := by
  refine euclid (P := fun a b => (∀ q ∈ ch a b, 0 ≤ q ∧ q ≤ a ∨ 0 ≤ q ∧ q ≤ b) ∧ ∀ q ∈ (ch a b).drop 1, 1 ≤ q) ?_ ?_ a b ha hb
  · intro a _; simp [ch_zero]
  · intro a b ha hb ih
    rw [ch_step a b (by omega) (by omega)]
    have m1 := mod_small a b (by omega) (by omega)
    have d0 : 0 ≤ a / b := Int.ediv_nonneg ha (by omega)
    have d1 : a / b ≤ a := Int.ediv_le_self _ ha
    refine ⟨fun q hq => ?_, fun q hq => ?_⟩
    · rcases List.mem_cons.1 hq with rfl | hq
      · exact .inl ⟨d0, d1⟩
      · rcases ih.1 q hq with h | h <;> omega
    · simp only [List.drop_succ_cons, List.drop_zero] at hq
      by_cases hm : a % b = 0
      · rw [hm, ch_zero] at hq; simp at hq
      · rw [ch_step b (a % b) m1.1 hm] at hq ih
        rcases List.mem_cons.1 hq with rfl | hq
        · exact Int.le_ediv_of_mul_le (by omega) (by omega)
        · exact ih.2 q (by simpa using hq)

/-- a list of quotients that ChainBack takes: all but the first at least 1 -/
def Good : List Int → Prop
  | [] => True
  | q :: qs => 0 ≤ q ∧ ∀ x ∈ qs, 1 ≤ x
theorem good_tail {q : Int} {qs : List Int} (h : Good (q :: qs)) : Good qs := by
  cases qs with
  | nil => trivial
  | cons x xs => exact ⟨by have := h.2 x (by simp); omega, fun y hy => h.2 y (by simp [hy])⟩
theorem good_ch (a b : Int) (ha : 0 ≤ a) (hb : 0 ≤ b) : Good (ch a b) := by
  have := ch_pos a b ha hb
  cases h : ch a b with
  | nil => trivial
  | cons q qs =>
    rw [h] at this
    exact ⟨by rcases this.1 q (by simp) with h | h <;> omega, fun x hx => this.2 x (by simpa using hx)⟩
theorem good_take (l : List Int) (k : Nat) (h : Good l) : Good (l.take k) := by
  cases l with
  | nil => simpa using h
  | cons q qs =>
    cases k with
    | zero => trivial
    | succ k => exact ⟨h.1, fun x hx => h.2 x (List.mem_of_mem_take hx)⟩
/-- of a list without a first 0: both are at least 0, the first at least 1; the second is less, but for 1 alone -/
theorem cont_ge (l : List Int) (h : ∀ x ∈ l, 1 ≤ x) : 1 ≤ (cont l).1 ∧ 0 ≤ (cont l).2 ∧ (cont l).2 ≤ (cont l).1 ∧ (l ≠ [] → 1 ≤ (cont l).2) ∧ (l ≠ [1] → (cont l).2 < (cont l).1) := by
  induction l with
  | nil => simp [cont, contT]
  | cons q qs ih =>
    obtain ⟨i1, i2, i3, i4, i5⟩ := ih (fun x hx => h x (by simp [hx]))
    have hq := h q (by simp)
    have e1 : (cont (q :: qs)).1 = q * (cont qs).1 + (cont qs).2 := rfl
    have e2 : (cont (q :: qs)).2 = (cont qs).1 := rfl
    have m : 1 * (cont qs).1 ≤ q * (cont qs).1 := Int.mul_le_mul_of_nonneg_right hq (by omega)
    rw [e1, e2]
    refine ⟨by omega, by omega, by omega, fun _ => i1, fun hne => ?_⟩
    cases qs with
    | nil =>
      have : q ≠ 1 := fun e => hne (by rw [e])
      have m2 : 2 * (cont ([] : List Int)).1 ≤ q * (cont ([] : List Int)).1 := Int.mul_le_mul_of_nonneg_right (by omega) (by omega)
      omega
    | cons x xs => have := i4 (by simp); omega
theorem cont_range (l : List Int) (h : Good l) : 0 ≤ (cont l).1 ∧ 0 ≤ (cont l).2 ∧ ((cont l).1 ≠ 0 ∨ (cont l).2 ≠ 0) := by
  cases l with
  | nil => simp [cont, contT]
  | cons q qs =>
    obtain ⟨i1, i2, _⟩ := cont_ge qs h.2
    have e1 : (cont (q :: qs)).1 = q * (cont qs).1 + (cont qs).2 := rfl
    have e2 : (cont (q :: qs)).2 = (cont qs).1 := rfl
    have m : 0 ≤ q * (cont qs).1 := Int.mul_nonneg h.1 (by omega)
    rw [e1, e2]
    omega
theorem com_cont (l : List Int) (h : Good l) : com (cont l).1 (cont l).2 = 1 := by
  induction l with
  | nil => simp [cont, contT, com_zero]
  | cons q qs ih =>
    obtain ⟨i1, i2, i3, i4, i5⟩ := cont_ge qs h.2
    have e1 : (cont (q :: qs)).1 = q * (cont qs).1 + (cont qs).2 := rfl
    have e2 : (cont (q :: qs)).2 = (cont qs).1 := rfl
    rw [e1, e2, com_step _ _ (by omega) (by omega)]
    by_cases hq : qs = [1]
    · subst hq
      have : cont [1] = (1, 1) := by simp [cont, contT, ahead]
      rw [this]
      simp [com_zero]
    · have hlt := i5 hq
      rw [Int.add_comm (q * _), Int.mul_comm q, Int.add_mul_emod_self_left, Int.emod_eq_of_lt i2 hlt]
      exact ih (good_tail h)
/-- the chain of the two integers is the list, but where its last quotient is 1 -/
theorem ch_cont (l : List Int) (h : Good l) (hlast : l.length ≤ 1 ∨ l.getLast? ≠ some 1) : ch (cont l).1 (cont l).2 = l := by
  induction l with
  | nil => simp [cont, contT, ch_zero]
  | cons q qs ih =>
    obtain ⟨i1, i2, i3, i4, i5⟩ := cont_ge qs h.2
    have e1 : (cont (q :: qs)).1 = q * (cont qs).1 + (cont qs).2 := rfl
    have e2 : (cont (q :: qs)).2 = (cont qs).1 := rfl
    have hq : qs ≠ [1] := by
      rintro rfl
      simp at hlast
    have hlt := i5 hq
    rw [e1, e2, ch_step _ _ (by omega) (by omega)]
    rw [Int.add_comm (q * _), Int.mul_comm q, Int.add_mul_emod_self_left, Int.emod_eq_of_lt i2 hlt, Int.add_mul_ediv_left _ _ (by omega), Int.ediv_eq_zero_of_lt i2 hlt]
    rw [ih (good_tail h) ?_]
    · simp
    · cases qs with
      | nil => exact .inl (by simp)
      | cons x xs =>
        refine .inr ?_
        rcases hlast with h1 | h1
        · simp at h1
        · simpa using h1

end Go.Proofs.YthdoofmfigemoaaGreatDoor.Gl
end

section
/-
  Plain: the digits of a root pair by pair, periods and where they begin, lists of quotients that lead back; no program in sight.
-/
namespace Go.Proofs.YthdoofmfigemoaaGreatDoor.Gl

theorem take_next {α : Type} {xs : List α} {k : Nat} {u : α} (h : xs[k]? = some u) : xs.take (k + 1) = xs.take k ++ [u] := by rw [List.take_add_one, h]; rfl

/-! ### the digits of a root -/
/-- the greatest digit from k down that fits -/
def dgF (r p : Int) : Nat → Nat
  | 0 => 0
  | k + 1 => if p < (20 * r + ((k + 1 : Nat) : Int)) * ((k + 1 : Nat) : Int) then dgF r p k else k + 1
def dg (r p : Int) : Nat := dgF r p 9
theorem dgF_down {r p : Int} {k : Nat} (h : p < (20 * r + ((k + 1 : Nat) : Int)) * ((k + 1 : Nat) : Int)) : dgF r p (k + 1) = dgF r p k := by rw [dgF, if_pos h]
theorem dgF_here {r p : Int} {k : Nat} (h : ¬ p < (20 * r + (k : Int)) * (k : Int)) : dgF r p k = k := by
  cases k with
  | zero => rfl
  | succ k => rw [dgF, if_neg h]
theorem dgF_le (r p : Int) : ∀ k, dgF r p k ≤ k := by
  intro k
  induction k with
  | zero => exact Nat.le_refl _
  | succ k ih => rw [dgF]; split <;> omega
theorem dgF_fit (r p : Int) (h0 : 0 ≤ p) : ∀ k, (20 * r + (dgF r p k : Int)) * (dgF r p k : Int) ≤ p := by
  intro k
  induction k with
  | zero => simp [dgF]; exact h0
  | succ k ih =>
    rw [dgF]
    split
    · exact ih
    · omega
theorem dgF_not (r p : Int) : ∀ k, dgF r p k = k ∨ p < (20 * r + ((dgF r p k : Int) + 1)) * ((dgF r p k : Int) + 1) := by
  intro k
  induction k with
  | zero => exact .inl rfl
  | succ k ih =>
    rw [dgF]
    split
    · next h =>
      refine .inr ?_
      rcases ih with e | e
      · rw [e]; push_cast at h; exact h
      · exact e
    · exact .inl rfl
theorem dg_spec {r p : Int} (h0 : 0 ≤ p) : dg r p ≤ 9 ∧ (20 * r + (dg r p : Int)) * (dg r p : Int) ≤ p ∧ ((dg r p : Int) = 9 ∨ p < (20 * r + ((dg r p : Int) + 1)) * ((dg r p : Int) + 1)) :=
  ⟨dgF_le r p 9, dgF_fit r p h0 9, by rcases dgF_not r p 9 with e | e; left; unfold dg; rw [e]; rfl; exact .inr e⟩

/-- digits, root and rest behind one pair more -/
def rStep (t : List Int × Int × Int) (x : Int) : List Int × Int × Int :=
  (t.1 ++ [(dg t.2.1 (t.2.2 * 100 + x) : Int)], t.2.1 * 10 + (dg t.2.1 (t.2.2 * 100 + x) : Int), t.2.2 * 100 + x - (20 * t.2.1 + (dg t.2.1 (t.2.2 * 100 + x) : Int)) * (dg t.2.1 (t.2.2 * 100 + x) : Int))
def rAll (xs : List Int) : List Int × Int × Int := xs.foldl rStep ([], 0, 0)
def hund (xs : List Int) : Int := xs.foldl (fun n x => 100 * n + x) 0
theorem rAll_snoc (xs : List Int) (x : Int) : rAll (xs ++ [x]) = rStep (rAll xs) x := by simp [rAll]
theorem hund_snoc (xs : List Int) (x : Int) : hund (xs ++ [x]) = 100 * hund xs + x := by simp [hund]
structure RInv (xs : List Int) : Prop where
  root : IsRoot (hund xs) (rAll xs).2.1 (rAll xs).2.2
  val : horner 0 (rAll xs).1 = (rAll xs).2.1
  len : (rAll xs).1.length = xs.length
  digs : ∀ d ∈ (rAll xs).1, 0 ≤ d ∧ d ≤ 9
theorem rInv_nil : RInv [] := ⟨⟨by decide, by decide, by decide, by decide⟩, rfl, rfl, by simp [rAll]⟩
theorem rInv_snoc {xs : List Int} {x : Int} (h : RInv xs) (h0 : 0 ≤ x) (h1 : x ≤ 99) : RInv (xs ++ [x]) := by
  obtain ⟨hr, hv, hl, hd⟩ := h
  have hs0 := hr.2.2.1
  obtain ⟨g9, gf, gn⟩ := dg_spec (r := (rAll xs).2.1) (p := (rAll xs).2.2 * 100 + x) (by omega)
  rw [show (rAll xs).2.2 * 100 + x = 100 * (rAll xs).2.2 + x from by omega] at g9 gf gn
  have hn := dig_next (g := (dg (rAll xs).2.1 (100 * (rAll xs).2.2 + x) : Int)) hr h0 h1 (by omega) (by omega) gf gn
  refine ⟨?_, ?_, ?_, ?_⟩
  · rw [rAll_snoc, hund_snoc]
    simp only [rStep]
    rw [show (rAll xs).2.2 * 100 + x = 100 * (rAll xs).2.2 + x from by omega, show (rAll xs).2.1 * 10 + (dg (rAll xs).2.1 (100 * (rAll xs).2.2 + x) : Int) = 10 * (rAll xs).2.1 + (dg (rAll xs).2.1 (100 * (rAll xs).2.2 + x) : Int) from by omega]
    exact hn
  · rw [rAll_snoc]
    simp only [rStep]
    rw [horner_snoc, hv]
    omega
  · rw [rAll_snoc]; simp [rStep, hl]
  · rw [rAll_snoc]
    simp only [rStep]
    intro d hdm
    rcases List.mem_append.1 hdm with hm | hm
    · exact hd d hm
    · simp at hm
      rw [show (rAll xs).2.2 * 100 + x = 100 * (rAll xs).2.2 + x from by omega] at hm
      omega
theorem rInv_all (xs : List Int) (h : ∀ x ∈ xs, 0 ≤ x ∧ x ≤ 99) : ∀ k, RInv (xs.take k) := by
  intro k
  induction k with
  | zero => exact rInv_nil
  | succ k ih =>
    by_cases hk : k < xs.length
    · rw [take_next (List.getElem?_eq_getElem hk)]
      have := h _ (List.getElem_mem hk)
      exact rInv_snoc ih this.1 this.2
    · rw [List.take_of_length_le (by omega)] at ih ⊢
      exact ih

/-- the pairs of digits, none for 0 -/
def pr (m : Nat) : List Int := if _h : m = 0 then [] else pr (m / 100) ++ [((m % 100 : Nat) : Int)]
termination_by m
decreasing_by omega
def prs (n : Nat) : List Int := pr (n / 100) ++ [((n % 100 : Nat) : Int)]
theorem pr_zero : pr 0 = [] := by rw [pr]; simp
theorem pr_pos {m : Nat} (h : m ≠ 0) : pr m = pr (m / 100) ++ [((m % 100 : Nat) : Int)] := by rw [pr]; simp [h]
theorem prs_pos {n : Nat} (h : n ≠ 0) : prs n = pr n := (pr_pos h).symm
theorem prs_times {n : Nat} (h : n ≠ 0) : prs (100 * n) = prs n ++ [0] := by
  rw [prs_pos h, prs, show 100 * n / 100 = n from by omega, show 100 * n % 100 = 0 from by omega]; rfl
theorem pr_range (m : Nat) : ∀ x ∈ pr m, 0 ≤ x ∧ x ≤ 99 := by
  induction m using Nat.strongRecOn with
  | ind m ih =>
    by_cases h : m = 0
    · subst h; rw [pr_zero]; simp
    · rw [pr_pos h]
      intro x hx
      rcases List.mem_append.1 hx with hx | hx
      · exact ih (m / 100) (by omega) x hx
      · simp at hx; omega
theorem prs_range (n : Nat) : ∀ x ∈ prs n, 0 ≤ x ∧ x ≤ 99 := by
  intro x hx
  rcases List.mem_append.1 hx with hx | hx
  · exact pr_range _ x hx
  · simp at hx; omega
theorem hund_pr (m : Nat) : hund (pr m) = m := by
  induction m using Nat.strongRecOn with
  | ind m ih =>
    by_cases h : m = 0
    · subst h; rw [pr_zero]; rfl
    · rw [pr_pos h, hund_snoc, ih (m / 100) (by omega)]; omega
theorem hund_prs (n : Nat) : hund (prs n) = n := by rw [prs, hund_snoc, hund_pr]; omega
theorem pr_length (k : Nat) : ∀ m, m < 100 ^ k → (pr m).length ≤ k := by
  induction k with
  | zero => intro m h; have : m = 0 := by simpa using h
            subst this; rw [pr_zero]; simp
  | succ k ih =>
    intro m h
    by_cases h0 : m = 0
    · subst h0; rw [pr_zero]; simp
    · rw [pr_pos h0, List.length_append, List.length_singleton]
      have := ih (m / 100) (by rw [Nat.pow_succ] at h; omega)
      omega
theorem prs_length {n : Nat} (h : n ≤ 1000000000) : 1 ≤ (prs n).length ∧ (prs n).length ≤ 5 := by
  have h2 := pr_length 4 (n / 100) (by omega)
  rw [prs, List.length_append, List.length_singleton]
  omega
/-- a part of the pairs has a part of the value -/
theorem hund_take (xs : List Int) (h : ∀ x ∈ xs, 0 ≤ x ∧ x ≤ 99) : ∀ k, 0 ≤ hund (xs.take k) ∧ hund (xs.take k) ≤ hund xs := by
  have key : ∀ (ys : List Int) (n : Int), 0 ≤ n → (∀ x ∈ ys, 0 ≤ x ∧ x ≤ 99) → n ≤ ys.foldl (fun n x => 100 * n + x) n := by
    intro ys
    induction ys with
    | nil => intro n _ _; exact Int.le_refl _
    | cons y ys ih =>
      intro n hn hy
      have := hy y (by simp)
      have := ih (100 * n + y) (by omega) (fun x hx => hy x (by simp [hx]))
      simp only [List.foldl_cons]
      omega
  intro k
  have h0 : 0 ≤ hund (xs.take k) := key _ 0 (by omega) (fun x hx => h x (List.mem_of_mem_take hx))
  refine ⟨h0, ?_⟩
  have := key (xs.drop k) (hund (xs.take k)) h0 (fun x hx => h x (List.mem_of_mem_drop hx))
  have e : (xs.drop k).foldl (fun n x => 100 * n + x) (hund (xs.take k)) = hund xs := by
    unfold hund
    rw [← List.foldl_append, List.take_append_drop]
  omega
theorem root_bound {m r s : Int} (h : IsRoot m r s) (hm : m ≤ 1000000000) : 0 ≤ r ∧ r ≤ 40000 ∧ 0 ≤ s ∧ s ≤ 80000 := by
  obtain ⟨a1, a2, a3, a4⟩ := h
  have : r ≤ 40000 := by
    rcases Int.lt_or_le 40000 r with hlt | hle
    · have := sq_le_of 40001 r (by omega) (by omega)
      omega
    · exact hle
  omega
theorem rAll_bound {n : Nat} (hn : n ≤ 1000000000) (k : Nat) : 0 ≤ (rAll ((prs n).take k)).2.1 ∧ (rAll ((prs n).take k)).2.1 ≤ 40000 ∧ 0 ≤ (rAll ((prs n).take k)).2.2 ∧ (rAll ((prs n).take k)).2.2 ≤ 80000 := by
  have h := rInv_all (prs n) (prs_range n) k
  have h2 := hund_take (prs n) (prs_range n) k
  rw [hund_prs] at h2
  exact root_bound h.root (by omega)
/-- root, rest and digits of a number -/
def rtD (n : Nat) : List Int := (rAll (prs n)).1
def rtR (n : Nat) : Int := (rAll (prs n)).2.1
def rtS (n : Nat) : Int := (rAll (prs n)).2.2
theorem rt_inv (n : Nat) : IsRoot n (rtR n) (rtS n) ∧ horner 0 (rtD n) = rtR n ∧ (rtD n).length = (prs n).length ∧ ∀ d ∈ rtD n, 0 ≤ d ∧ d ≤ 9 := by
  have h := rInv_all (prs n) (prs_range n) (prs n).length
  rw [List.take_length] at h
  refine ⟨?_, h.val, h.len, h.digs⟩
  have := h.root
  rw [hund_prs] at this
  exact this
theorem rtD_times {n : Nat} (h : n ≠ 0) : ∃ d, rtD (100 * n) = rtD n ++ [d] := by
  unfold rtD
  rw [prs_times h, rAll_snoc]
  exact ⟨_, rfl⟩

/-! ### the nearest square -/
def near (r s : Int) : Int := if s > r then r + 1 else r
theorem near_law {n r s : Int} (h : IsRoot n r s) : ∃ d, 0 ≤ d ∧ d ≤ near r s ∧ max (n - near r s * near r s) (near r s * near r s - n) = d ∧
    ∀ k, near r s - 1 ≤ k → k ≤ near r s + 1 → 0 ≤ k → d ≤ max (n - k * k) (k * k - n) := by
  obtain ⟨a1, a2, a3, a4⟩ := h
  have e1 : (r + 1) * (r + 1) = r * r + 2 * r + 1 := by rw [Int.add_mul, Int.mul_add]; omega
  have e2 : (r + 1 + 1) * (r + 1 + 1) = r * r + 4 * r + 4 := by rw [Int.add_mul, Int.mul_add, Int.add_mul, Int.mul_add]; omega
  have e3 : (r - 1) * (r - 1) = r * r - 2 * r + 1 := by rw [Int.sub_mul, Int.mul_sub]; omega
  unfold near
  split
  · next hs =>
    refine ⟨2 * r + 1 - s, by omega, by omega, by rw [e1]; omega, fun k h1 h2 h3 => ?_⟩
    rcases (show k = r ∨ k = r + 1 ∨ k = r + 1 + 1 from by omega) with rfl | rfl | rfl
    · omega
    · rw [e1]; omega
    · rw [e2]; omega
  · next hs =>
    refine ⟨s, by omega, by omega, by omega, fun k h1 h2 h3 => ?_⟩
    rcases (show k = r - 1 ∨ k = r ∨ k = r + 1 from by omega) with rfl | rfl | rfl
    · rw [e3]; omega
    · omega
    · rw [e1]; omega

/-! ### periods -/
def IsPer (d : Int) (a p : Nat) : Prop :=
  (∀ i, i < a + p → rest d i ≠ 0 ∧ ∀ j, j < i → rest d j ≠ rest d i) ∧ ((p = 0 ∧ rest d a = 0) ∨ (0 < p ∧ rest d a ≠ 0 ∧ rest d a = rest d (a + p)))
theorem per_unique {d : Int} {a p a' p' : Nat} (h : IsPer d a p) (h' : IsPer d a' p') : a = a' ∧ p = p' := by
  obtain ⟨h1, h2⟩ := h
  obtain ⟨g1, g2⟩ := h'
  have e : a + p = a' + p' := by
    rcases Nat.lt_trichotomy (a + p) (a' + p') with hlt | he | hgt
    · have := g1 (a + p) hlt
      rcases h2 with ⟨rfl, hz⟩ | ⟨hp, _, he⟩
      · exact absurd hz (by simpa using this.1)
      · exact absurd he (this.2 a (by omega))
    · exact he
    · have := h1 (a' + p') hgt
      rcases g2 with ⟨rfl, hz⟩ | ⟨hp, _, he⟩
      · exact absurd hz (by simpa using this.1)
      · exact absurd he (this.2 a' (by omega))
  rcases h2 with ⟨rfl, hz⟩ | ⟨hp, hnz, he⟩
  · rcases g2 with ⟨rfl, _⟩ | ⟨hp', hnz', he'⟩
    · omega
    · rw [← e, Nat.add_zero, hz] at he'; exact absurd he' hnz'
  · rcases g2 with ⟨rfl, hz'⟩ | ⟨hp', hnz', he'⟩
    · rw [e, Nat.add_zero, hz'] at he; exact absurd he hnz
    · rcases Nat.lt_trichotomy a a' with hlt | hh | hgt
      · exact absurd (by rw [he, e, ← he']) ((g1 a' (by omega)).2 a hlt)
      · omega
      · exact absurd (by rw [he', ← e, ← he]) ((h1 a (by omega)).2 a' hgt)
/-- where each rest was first met, counted from 1 -/
def led (d : Int) : Nat → List Int
  | 0 => List.replicate d.toNat 0
  | k + 1 => (led d k).set (rest d k).toNat ((k + 1 : Nat) : Int)
theorem led_length (d : Int) : ∀ k, (led d k).length = d.toNat := by
  intro k
  induction k with
  | zero => simp [led]
  | succ k ih => simp [led, ih]
/-- k rests, each met once and none 0 -/
def New (d : Int) (k : Nat) : Prop := ∀ i, i < k → rest d i ≠ 0 ∧ ∀ j, j < i → rest d j ≠ rest d i
theorem led_at {d : Int} (hd : 0 < d) : ∀ k, New d k → (∀ i, i < k → (led d k)[(rest d i).toNat]? = some (((i + 1 : Nat) : Int))) ∧
    (∀ x : Nat, x < d.toNat → (∀ i, i < k → (rest d i).toNat ≠ x) → (led d k)[x]? = some 0) := by
  intro k
  induction k with
  | zero =>
    intro _
    refine ⟨fun i hi => by omega, fun x hx _ => ?_⟩
    simp [led, hx]
  | succ k ih =>
    intro hn
    obtain ⟨i1, i2⟩ := ih (fun i hi => hn i (by omega))
    have hr := rest_range d hd
    have hl := led_length d k
    refine ⟨fun i hi => ?_, fun x hx hne => ?_⟩
    · rw [led]
      by_cases e : i = k
      · subst e
        have := hr i
        rw [List.getElem?_set_self (by omega)]
      · have hne : (rest d k).toNat ≠ (rest d i).toNat := by
          have h1 := (hn k (by omega)).2 i (by omega)
          have := hr k; have := hr i
          omega
        rw [List.getElem?_set_ne hne]
        exact i1 i (by omega)
    · rw [led, List.getElem?_set_ne (hne k (by omega))]
      exact i2 x hx (fun i hi => hne i (by omega))
/-- the rest at hand was met before, or not -/
theorem led_find {d : Int} (hd : 0 < d) {k : Nat} (hn : New d k) : (∃ i, i < k ∧ rest d i = rest d k ∧ (led d k)[(rest d k).toNat]? = some (((i + 1 : Nat) : Int))) ∨
    ((∀ i, i < k → rest d i ≠ rest d k) ∧ (led d k)[(rest d k).toNat]? = some 0) := by
  obtain ⟨h1, h2⟩ := led_at hd k hn
  have hr := rest_range d hd
  by_cases h : ∃ i, i < k ∧ rest d i = rest d k
  · obtain ⟨i, hi, e⟩ := h
    exact .inl ⟨i, hi, e, by rw [← e]; exact h1 i hi⟩
  · have h' : ∀ i, i < k → rest d i ≠ rest d k := fun i hi e => h ⟨i, hi, e⟩
    refine .inr ⟨h', h2 _ (by have := hr k; omega) (fun i hi e => h' i hi ?_)⟩
    have := hr i; have := hr k
    omega
theorem new_succ {d : Int} {k : Nat} (hn : New d k) (h0 : rest d k ≠ 0) (h1 : ∀ i, i < k → rest d i ≠ rest d k) : New d (k + 1) := by
  intro i hi
  by_cases e : i = k
  · subst e; exact ⟨h0, h1⟩
  · exact hn i (by omega)
theorem per_zero {d : Int} {k : Nat} (hn : New d k) (h0 : rest d k = 0) : IsPer d k 0 := ⟨hn, .inl ⟨rfl, h0⟩⟩
theorem per_again {d : Int} {k i : Nat} (hn : New d k) (hi : i < k) (h0 : rest d k ≠ 0) (e : rest d i = rest d k) : IsPer d i (k - i) :=
  ⟨by rw [show i + (k - i) = k from by omega]; exact hn, .inr ⟨by omega, by rw [e]; exact h0, by rw [show i + (k - i) = k from by omega]; exact e⟩⟩
/-- so many different numbers from 1 to n are at most n -/
theorem pigeon (n : Nat) : ∀ (f : Nat → Nat) (k : Nat), (∀ i, i < k → 1 ≤ f i ∧ f i ≤ n) → (∀ i j, i < k → j < i → f j ≠ f i) → k ≤ n := by
  induction n with
  | zero =>
    intro f k h _
    cases k with
    | zero => exact Nat.le_refl _
    | succ k => have := h 0 (by omega); omega
  | succ n ih =>
    intro f k h hne
    by_cases hx : ∃ i, i < k ∧ f i = n + 1
    · obtain ⟨i0, hi0, e0⟩ := hx
      have := ih (fun i => if i < i0 then f i else f (i + 1)) (k - 1) (fun i hi => by
        split
        · next hlt =>
          have h1 := h i (by omega)
          have h2 := hne i0 i hi0 hlt
          omega
        · next hge =>
          have h1 := h (i + 1) (by omega)
          have h2 := hne (i + 1) i0 (by omega) (by omega)
          omega) (fun i j hi hj => by
        split <;> split
        · exact hne i j (by omega) hj
        · exact hne (i + 1) j (by omega) (by omega)
        · omega
        · exact hne (i + 1) (j + 1) (by omega) (by omega))
      omega
    · have := ih f k (fun i hi => by have := h i hi; have : f i ≠ n + 1 := fun e => hx ⟨i, hi, e⟩; omega) hne
      omega
theorem per_lt {d : Int} (hd : 0 < d) {a p : Nat} (h : IsPer d a p) : (p : Int) < d := by
  have hr := rest_range d hd
  have := pigeon (d.toNat - 1) (fun i => (rest d i).toNat) (a + p) (fun i hi => by
    have h1 := (h.1 i hi).1
    have := hr i
    omega) (fun i j hi hj => by
    have h1 := (h.1 i hi).2 j hj
    have := hr i; have := hr j
    omega)
  omega
theorem new_lt {d : Int} (hd : 0 < d) {k : Nat} (h : New d k) : (k : Int) < d := by
  have hr := rest_range d hd
  have := pigeon (d.toNat - 1) (fun i => (rest d i).toNat) k (fun i hi => by
    have h1 := (h i hi).1
    have := hr i
    omega) (fun i j hi hj => by
    have h1 := (h i hi).2 j hj
    have := hr i; have := hr j
    omega)
  omega
/-- the greatest of what was noted is the number of rests -/
theorem led_max {d : Int} (hd : 0 < d) {k : Nat} (hn : New d k) : (∀ (x : Nat) (u : Int), (led d k)[x]? = some u → 0 ≤ u ∧ u ≤ (k : Int)) ∧ (0 < k → ∃ x, x < d.toNat ∧ (led d k)[x]? = some (k : Int)) := by
  obtain ⟨h1, h2⟩ := led_at hd k hn
  have hr := rest_range d hd
  refine ⟨fun x u hu => ?_, fun hk => ?_⟩
  · by_cases h : ∃ i, i < k ∧ (rest d i).toNat = x
    · obtain ⟨i, hi, e⟩ := h
      have := h1 i hi
      rw [e, hu] at this
      injection this with this
      omega
    · have hx : x < d.toNat := by
        have := (List.getElem?_eq_some_iff.1 hu).1
        rwa [led_length] at this
      have := h2 x hx (fun i hi e => h ⟨i, hi, e⟩)
      rw [hu] at this
      injection this with this
      omega
  · refine ⟨(rest d (k - 1)).toNat, by have := hr (k - 1); omega, ?_⟩
    have := h1 (k - 1) (by omega)
    rw [this]
    congr 1
    omega
/-- the greatest number of a list, from k down -/
def maxL (l : List Int) : Int := l.foldl (fun m x => max m x) 0
theorem maxL_snoc (l : List Int) (x : Int) : maxL (l ++ [x]) = max (maxL l) x := by simp [maxL]
theorem maxL_is (l : List Int) (m : Int) (h0 : 0 ≤ m) (h : ∀ x ∈ l, x ≤ m) (hx : m = 0 ∨ m ∈ l) : maxL l = m := by
  have key : ∀ (l : List Int) (a : Int), a ≤ m → (∀ x ∈ l, x ≤ m) → l.foldl (fun m x => max m x) a ≤ m ∧ a ≤ l.foldl (fun m x => max m x) a ∧ ∀ x ∈ l, x ≤ l.foldl (fun m x => max m x) a := by
    intro l
    induction l with
    | nil => intro a ha _; exact ⟨ha, Int.le_refl _, by simp⟩
    | cons y ys ih =>
      intro a ha hy
      have hy0 := hy y (by simp)
      obtain ⟨i1, i2, i3⟩ := ih (max a y) (by omega) (fun x hx => hy x (by simp [hx]))
      simp only [List.foldl_cons]
      refine ⟨i1, by omega, fun x hx => ?_⟩
      rcases List.mem_cons.1 hx with rfl | hx
      · omega
      · exact i3 x hx
  obtain ⟨i1, i2, i3⟩ := key l 0 h0 h
  unfold maxL
  rcases hx with rfl | hx
  · omega
  · have := i3 m hx; omega

/-! ### quotients that lead back -/
/-- what a list of quotients, from an index on, leads back to -/
def back : Nat → List Int → Option (Int × Int)
  | _, [] => some (1, 0)
  | i, q :: qs => match back (i + 1) qs with
    | none => none
    | some v => if q < 0 ∨ 1000000000 < q ∨ (q = 0 ∧ 0 < i) then none else if 1000000000 < q * v.1 + v.2 then none else some (q * v.1 + v.2, v.1)
theorem back_range (l : List Int) : ∀ i v, back i l = some v → 0 ≤ v.1 ∧ v.1 ≤ 1000000000 ∧ 0 ≤ v.2 ∧ v.2 ≤ 1000000000 := by
  induction l with
  | nil => intro i v h; simp [back] at h; subst h; simp
  | cons q qs ih =>
    intro i v h
    simp only [back] at h
    cases hb : back (i + 1) qs with
    | none => rw [hb] at h; simp at h
    | some u =>
      rw [hb] at h
      simp only at h
      have := ih (i + 1) u hb
      split at h
      · simp at h
      · next h1 =>
        split at h
        · simp at h
        · next h2 =>
          simp at h
          subst h
          have : 0 ≤ q * u.1 := Int.mul_nonneg (by omega) (by omega)
          exact ⟨by simp only; omega, by simp only; omega, by simp only; omega, by simp only; omega⟩
theorem back_some (l : List Int) : ∀ i v, back i l = some v → v = cont l ∧ (∀ q ∈ l, 0 ≤ q ∧ q ≤ 1000000000) ∧ (∀ q ∈ l.drop (if i = 0 then 1 else 0), 1 ≤ q) := by
  induction l with
  | nil => intro i v h; simp [back] at h; subst h; simp [cont, contT]
  | cons q qs ih =>
    intro i v h
    simp only [back] at h
    cases hb : back (i + 1) qs with
    | none => rw [hb] at h; simp at h
    | some u =>
      rw [hb] at h
      simp only at h
      obtain ⟨i1, i2, i3⟩ := ih (i + 1) u hb
      rw [if_neg (by omega), List.drop_zero] at i3
      split at h
      · simp at h
      · next h1 =>
        split at h
        · simp at h
        · next h2 =>
          simp at h
          subst h
          refine ⟨?_, ?_, ?_⟩
          · rw [i1]; rfl
          · intro x hx
            rcases List.mem_cons.1 hx with rfl | hx
            · omega
            · exact i2 x hx
          · split
            · simpa using i3
            · intro x hx
              rcases List.mem_cons.1 (by simpa using hx) with rfl | hx
              · omega
              · exact i3 x hx
theorem good_back {l : List Int} {v : Int × Int} (h : back 0 l = some v) : Good l ∧ v = cont l := by
  obtain ⟨h1, h2, h3⟩ := back_some l 0 v h
  rw [if_pos rfl] at h3
  refine ⟨?_, h1⟩
  cases l with
  | nil => trivial
  | cons q qs => exact ⟨(h2 q (by simp)).1, by simpa using h3⟩
/-- one step of the loop from the last quotient on -/
theorem back_drop {l : List Int} {i : Nat} {q : Int} (h : l[i]? = some q) : back i (l.drop i) = match back (i + 1) (l.drop (i + 1)) with
    | none => none
    | some v => if q < 0 ∨ 1000000000 < q ∨ (q = 0 ∧ 0 < i) then none else if 1000000000 < q * v.1 + v.2 then none else some (q * v.1 + v.2, v.1) := by
  have hi := (List.getElem?_eq_some_iff.1 h).1
  have e : l[i] = q := (List.getElem?_eq_some_iff.1 h).2
  rw [List.drop_eq_getElem_cons hi, e]
  rfl
/-- none stays none -/
theorem back_none {l : List Int} {i : Nat} (h : back i (l.drop i) = none) : ∀ k, back (i - k) (l.drop (i - k)) = none := by
  intro k
  induction k with
  | zero => exact h
  | succ k ih =>
    by_cases hk : k < i
    · have hil : i ≤ l.length ∨ l.length < i := by omega
      rcases hil with hil | hil
      · have hlt : i - (k + 1) < l.length := by omega
        rw [back_drop (List.getElem?_eq_getElem hlt), show i - (k + 1) + 1 = i - k from by omega, ih]
      · rw [List.drop_eq_nil_of_le (by omega)] at h
        simp [back] at h
    · rw [show i - (k + 1) = i - k from by omega]; exact ih
theorem back_none0 {l : List Int} {i : Nat} (h : back i (l.drop i) = none) : back 0 l = none := by
  have := back_none h i
  rwa [Nat.sub_self, List.drop_zero] at this
/-- a last quotient 1 goes into the one ahead -/
theorem back_short (l : List Int) (q : Int) : ∀ i v, back i (l ++ [q, 1]) = some v → back i (l ++ [q + 1]) = some v := by
  induction l with
  | nil =>
    intro i v h
    simp only [List.nil_append, back] at h ⊢
    simp at h
    simp
    obtain ⟨⟨a, b, c⟩, d, e⟩ := h
    exact ⟨⟨by omega, by omega, by omega⟩, by omega, e⟩
  | cons x xs ih =>
    intro i v h
    simp only [List.cons_append, back] at h ⊢
    cases hb : back (i + 1) (xs ++ [q, 1]) with
    | none => rw [hb] at h; simp at h
    | some u => rw [hb] at h; rw [ih (i + 1) u hb]; exact h
/-- the value of some digits is small -/
theorem horner_take {ds : List Int} (h : ∀ d ∈ ds, 0 ≤ d ∧ d ≤ 9) (hl : ds.length ≤ 6) (k : Nat) : 0 ≤ horner 0 (ds.take k) ∧ horner 0 (ds.take k) ≤ 999999 := by
  have hm : ∀ d ∈ ds.take k, 0 ≤ d ∧ d ≤ 9 := fun d hd => h d (List.mem_of_mem_take hd)
  have h1 := horner_nonneg (ds.take k) 0 (by omega) (fun d hd => (hm d hd).1)
  have h2 := horner_lt (ds.take k) 0 (by omega) hm
  have hk : (ds.take k).length ≤ 6 := by rw [List.length_take]; omega
  have h3 : (10 : Int) ^ (ds.take k).length ≤ 10 ^ 6 := by
    have := Nat.pow_le_pow_right (show 0 < 10 by omega) hk
    exact_mod_cast this
  refine ⟨h1, ?_⟩
  have h4 : (10 : Int) ^ 6 = 1000000 := by decide
  omega
theorem horner_next {ds : List Int} {k : Nat} {u : Int} (h : ds[k]? = some u) : horner 0 (ds.take (k + 1)) = 10 * horner 0 (ds.take k) + u := by rw [take_next h, horner_snoc]
theorem horner_all {ds : List Int} {n : Nat} (h : ds.length = n) : horner 0 (ds.take n) = horner 0 ds := by rw [List.take_of_length_le (by omega)]

/-! ### long division, digit by digit -/
theorem steps_next {xs : List Int} {k : Nat} {u d r : Int} (h : xs[k]? = some u) : steps d r (xs.take (k + 1)) = steps d r (xs.take k) ++ [((10 * lastRest d r (xs.take k) + u) / d, (10 * lastRest d r (xs.take k) + u) % d)] := by
  rw [take_next h, steps_append]; rfl
theorem rest_next {xs : List Int} {k : Nat} {u d r : Int} (h : xs[k]? = some u) : lastRest d r (xs.take (k + 1)) = (10 * lastRest d r (xs.take k) + u) % d := by
  rw [take_next h, lastRest_append]; rfl
theorem steps_all {xs : List Int} {n : Nat} {d r : Int} (h : xs.length = n) : steps d r (xs.take n) = steps d r xs ∧ lastRest d r (xs.take n) = lastRest d r xs := by
  rw [List.take_of_length_le (by omega)]; exact ⟨rfl, rfl⟩
/-- the digits of the steps lie between 0 and 9, the rests below the divisor -/
theorem steps_range {d : Int} (hd : 0 < d) (xs : List Int) : ∀ r, 0 ≤ r → r < d → (∀ x ∈ xs, 0 ≤ x ∧ x ≤ 9) → ∀ s ∈ steps d r xs, 0 ≤ s.1 ∧ s.1 ≤ 9 ∧ 0 ≤ s.2 ∧ s.2 < d := by
  induction xs with
  | nil => intro r _ _ _ s hs; simp [steps] at hs
  | cons x xs ih =>
    intro r h0 h1 hx s hs
    have hx0 := hx x (by simp)
    have hm0 := Int.emod_nonneg (10 * r + x) (show d ≠ 0 by omega)
    have hm1 := Int.emod_lt_of_pos (10 * r + x) hd
    simp only [steps, List.mem_cons] at hs
    rcases hs with rfl | hs
    · have := step_digit d r x hd h0 h1 hx0.1 hx0.2
      exact ⟨this.1, this.2, hm0, hm1⟩
    · exact ih _ hm0 hm1 (fun y hy => hx y (by simp [hy])) s hs
theorem steps_get {d : Int} (xs : List Int) : ∀ r (k : Nat) u, xs[k]? = some u → (steps d r xs)[k]? = some ((10 * lastRest d r (xs.take k) + u) / d, (10 * lastRest d r (xs.take k) + u) % d) := by
  induction xs with
  | nil => intro r k u h; simp at h
  | cons x xs ih =>
    intro r k u h
    cases k with
    | zero => simp at h; subst h; simp [steps, lastRest]
    | succ k =>
      simp only [List.getElem?_cons_succ] at h
      simp only [steps, List.getElem?_cons_succ, List.take_succ_cons, lastRest]
      exact ih _ k u h
end Go.Proofs.YthdoofmfigemoaaGreatDoor.Gl
end

section
/-
  Roots: the pairs of digits, the digits of the root, the root by halving: what the program's and the reference's functions give back.
-/
namespace Go.Proofs.YthdoofmfigemoaaGreatDoor
open Go.RowKit

set_option maxHeartbeats 400000 in
theorem hasRoot_any (n : Int) (w : World) : Calls Tryz.prog 71 #[.int .i64 n] w fun e w' => e = .returned (.bool (decide (0 ≤ n) && decide (n ≤ 1000000000))) ∧ w = w' := by
  by_cases h1 : 0 ≤ n <;> by_cases h2 : n ≤ 1000000000
  all_goals
    go_enter Tryz.func71, Tryz.ntmps71
    go_wp2
    go_ret
    exact ⟨ret_bool (by simp [h1, h2]), rfl⟩
theorem hasRoot_is {n : Int} {r : Bool} (h : (decide (0 ≤ n) && decide (n ≤ 1000000000)) = r) (w : World) : Calls Tryz.prog 71 #[.int .i64 n] w fun e w' => e = .returned (.bool r) ∧ w = w' := by
  rw [← h]; exact hasRoot_any n w
theorem hasRoot_yes {n : Nat} (h : n ≤ 1000000000) (w : World) : Calls Tryz.prog 71 #[.int .i64 (n : Int)] w fun e w' => e = .returned (.bool true) ∧ w = w' :=
  hasRoot_is (by simp; omega) w
theorem hasRoot_no {n : Int} (h : n < 0 ∨ 1000000000 < n) (w : World) : Calls Tryz.prog 71 #[.int .i64 n] w fun e w' => e = .returned (.bool false) ∧ w = w' :=
  hasRoot_is (by rcases h with h | h <;> simp <;> omega) w

theorem pr_next {k : Nat} {ys zs : List Int} (hk : 0 < k) (h : Gl.pr k ++ ys = zs) : Gl.pr (k / 100) ++ ([(k : Int) % 100] ++ ys) = zs := by
  rw [← h, Gl.pr_pos (show k ≠ 0 by omega)]
  simp
theorem pr_len {k n j : Nat} {ys : List Int} (hn : n ≤ 1000000000) (h : Gl.pr k ++ ys = Gl.prs n) (hl : ys.length = j) : j ≤ 5 := by
  have := Gl.prs_length hn
  rw [← h, List.length_append] at this
  omega
theorem prs_start (n : Nat) : Gl.pr (n / 100) ++ [(n : Int) % 100] = Gl.prs n := by simp [Gl.prs]

set_option maxHeartbeats 1000000 in
theorem pairsOf_any (n : Nat) (w : World) (hn : n ≤ 1000000000) :
    Calls Tryz.prog 110 #[.int .i64 (n : Int)] w fun e w' => (∃ A c, e = .returned (.slice A (Gl.prs n).length c) ∧ Own w' w.heap.size A (Gl.prs n).length c (Gl.prs n)) ∧ Below w.heap.size w w' := by
  go_enter Tryz.func110, Tryz.ntmps110
  go_wp2
  go_loopw [0, 3] (fun m v wr => ∃ (k : Nat) (A : Option Addr) (j c : Nat) (ys : List Int), m = .int .i64 (k : Int) ∧ v = .slice A j c ∧ k ≤ 1000000000 ∧ Own wr w.heap.size A j c ys ∧ Gl.pr k ++ ys = Gl.prs n ∧ Below w.heap.size w wr) (fun m _ _ => (intOf m).toNat)
  case atStart => exact ⟨n / 100, _, 1, 1, [(n : Int) % 100], by go_num, rfl, by omega, own_lit w [(n : Int) % 100] w.heap.size 1 rfl (by omega) (Nat.le_refl _), prs_start n, (Below.refl _ _).alloc (Nat.le_refl _) _⟩
  case round =>
    obtain ⟨k, A, j, c, ys, rfl, rfl, hk, hown, heq, hb⟩ := hrel
    have hj := pr_len hn heq hown.len
    have hsz := hb.size
    have HO := Lib.hid hown
    have HEQ := Lib.hid heq
    have HB := Lib.hid hb
    clear hown heq hb
    by_cases h0 : 0 < k
    · have HLIT : Hid (Own (wr.alloc (.cells #[.int .i64 ((k : Int) % 100)] 3)) w.heap.size (some ⟨wr.heap.size, 0, none⟩) 1 1 [(k : Int) % 100]) := Lib.hid (own_lit wr [(k : Int) % 100] w.heap.size 1 rfl (by omega) hsz)
      go_wp2_with (at_builtin; refine wpList_app_ints rfl _ _ rfl rfl HLIT.out rfl (HO.out.ints.alloc (Nat.le_refl _) _) (by omega) (by simp; omega) ?_; intro A1 c1 w1 hown1 hg1)
      have HB1 := Lib.hid (below_step (HB.out.alloc hsz _) hg1 HLIT.out (by simp; omega))
      go_roundw
      case rel => exact ⟨k / 100, _, _, _, _, by go_num, rfl, by omega, hown1, pr_next h0 HEQ.out, HB1.out⟩
      case measure => simp [intOf]; omega
    · obtain rfl : k = 0 := by omega
      obtain rfl : ys = Gl.prs n := by simpa [Gl.pr_zero] using HEQ.out
      obtain rfl : (Gl.prs n).length = j := HO.out.len
      go_wp2
      go_ret
      exact ⟨⟨_, _, rfl, HO.out⟩, HB.out⟩

/-- the state behind k pairs, and one pair more -/
theorem r_step {n k : Nat} {u : Int} (hn : n ≤ 1000000000) (hu : (Gl.prs n)[k]? = some u) : 0 ≤ u ∧ u ≤ 99 ∧
    (0 ≤ (Gl.rAll ((Gl.prs n).take k)).2.1 ∧ (Gl.rAll ((Gl.prs n).take k)).2.1 ≤ 40000 ∧ 0 ≤ (Gl.rAll ((Gl.prs n).take k)).2.2 ∧ (Gl.rAll ((Gl.prs n).take k)).2.2 ≤ 80000) ∧
    (Gl.rAll ((Gl.prs n).take (k + 1))) = Gl.rStep (Gl.rAll ((Gl.prs n).take k)) u := by
  have h1 := Gl.prs_range n u (List.mem_of_getElem? hu)
  exact ⟨h1.1, h1.2, Gl.rAll_bound hn k, by rw [Gl.take_next hu, Gl.rAll_snoc]⟩
theorem dg_in {r : Int} {j : Nat} (h0 : 0 ≤ r) (h1 : r ≤ 40000) (hj : j ≤ 9) : 0 ≤ (20 * r + (j : Int)) * (j : Int) ∧ (20 * r + (j : Int)) * (j : Int) ≤ 800009 * 9 := mul_in (by omega) (by omega) (by omega) (by omega)
theorem st_len {n k : Nat} (h : k ≤ (Gl.prs n).length) : (Gl.rAll ((Gl.prs n).take k)).1.length = k := by
  have := (Gl.rInv_all (Gl.prs n) (Gl.prs_range n) k).len
  rw [this, List.length_take]; omega

/-- what holds at the head of the rounds: k pairs are done -/
structure AtPair (n k : Nat) (ds : List Int) (r s : Int) : Prop where
  eq : Gl.rAll ((Gl.prs n).take k) = (ds, r, s)
theorem AtPair.start (n : Nat) : AtPair n 0 [] 0 0 := ⟨rfl⟩
theorem AtPair.bound {n k : Nat} {ds : List Int} {r s : Int} (h : AtPair n k ds r s) (hn : n ≤ 1000000000) : 0 ≤ r ∧ r ≤ 40000 ∧ 0 ≤ s ∧ s ≤ 80000 := by
  have := Gl.rAll_bound hn k
  rw [h.eq] at this
  exact this
theorem AtPair.next {n k j : Nat} {ds : List Int} {r s u : Int} (h : AtPair n k ds r s) (hn : n ≤ 1000000000) (hu : (Gl.prs n)[k]? = some u) (hj : Gl.dgF r (s * 100 + u) j = Gl.dgF r (s * 100 + u) 9) (ht : ¬ s * 100 + u < (20 * r + (j : Int)) * (j : Int)) :
    AtPair n (k + 1) (ds ++ [(j : Int)]) (r * 10 + (j : Int)) (s * 100 + u - (20 * r + (j : Int)) * (j : Int)) := by
  have e : Gl.dg r (s * 100 + u) = j := by unfold Gl.dg; rw [← hj, Gl.dgF_here ht]
  refine ⟨?_⟩
  rw [(r_step hn hu).2.2.2, h.eq]
  simp [Gl.rStep, e]
theorem AtPair.done {n : Nat} {ds : List Int} {r s : Int} (h : AtPair n (Gl.prs n).length ds r s) : ds = Gl.rtD n ∧ r = Gl.rtR n ∧ s = Gl.rtS n := by
  have := h.eq
  rw [List.take_length] at this
  unfold Gl.rtD Gl.rtR Gl.rtS
  rw [this]
  exact ⟨rfl, rfl, rfl⟩

set_option maxRecDepth 100000 in
set_option maxHeartbeats 2000000 in
theorem rootDigits_any (n : Nat) (w : World) (hn : n ≤ 1000000000) :
    Calls Tryz.prog 72 #[.int .i64 (n : Int)] w fun e w' => (∃ A c, e = .returned (.tuple #[.slice A (Gl.prs n).length c, .int .i64 (Gl.rtS n)]) ∧ Own w' w.heap.size A (Gl.prs n).length c (Gl.rtD n)) ∧ Below w.heap.size w w' := by
  have hL := Gl.prs_length hn
  obtain ⟨hL1, hL5⟩ := hL
  generalize hlen : (Gl.prs n).length = L at hL1 hL5
  have HLEN := Lib.hid hlen
  have HLN := Lib.hid (lit_nil w)
  clear hlen
  go_enter Tryz.func72, Tryz.ntmps72
  go_wp2_with fail
  refine (pairsOf_any n _ hn).mono ?_
  rintro e w1 ⟨⟨A1, c1, rfl, ho1⟩, hb1⟩
  rw [HLEN.out] at ho1 ⊢
  have HP := Lib.hid ho1.ints
  have hsz1 := hb1.size
  have HO := Lib.hid (EOwn.of_nil (HLN.out.next hb1) w1.heap.size)
  have HB := Lib.hid (((Below.refl w.heap.size w).alloc (Nat.le_refl _) _).trans (hb1.mono (by simp)))
  simp only [World.size_alloc] at hsz1
  clear ho1 hb1 HLN
  go_wp2_with fail
  go_loopw [4, 5, 6, 14] (fun dv rv sv i wr => ∃ (k : Nat) (A : Option Addr) (c : Nat) (ds : List Int) (r s : Int), k ≤ L ∧ i = .int .i64 (k : Int) ∧ dv = .slice A k c ∧ rv = .int .i64 r ∧ sv = .int .i64 s ∧ EOwn wr w.heap.size w1.heap.size A k c ds ∧ AtPair n k ds r s ∧
      Ints wr w1.heap.size A1 L (Gl.prs n) ∧ Below w.heap.size w wr ∧ w1.heap.size ≤ wr.heap.size) (fun _ _ _ i _ => L - (intOf i).toNat)
  case atStart => exact ⟨0, _, _, [], 0, 0, by omega, by go_num, rfl, rfl, rfl, HO.out, AtPair.start n, HP.out, HB.out, Nat.le_refl _⟩
  case round =>
    clear HO HP HB
    obtain ⟨k, A, c, ds, r, s, hk, rfl, rfl, rfl, rfl, hown, hat, hp, hb, hsz⟩ := hrel
    obtain ⟨r0, r1, s0, s1⟩ := hat.bound hn
    have HO := Lib.hid hown
    have HAT := Lib.hid hat
    have HP := Lib.hid hp
    have HB := Lib.hid hb
    clear hown hat hp hb
    by_cases hlt : k < L
    · obtain ⟨b, off, u, rfl, hub, hu, hcu⟩ := HP.out.at_ hlt
      obtain ⟨u0, u1, -, -⟩ := r_step hn hu
      have HU := Lib.hid hu
      clear hu
      obtain ⟨wo, rfl⟩ : ∃ wo : World, wo = wr := ⟨_, rfl⟩
      go_wp2_with fail
      go_loop [9] (fun d => ∃ j : Nat, j ≤ 9 ∧ d = .int .i64 (j : Int) ∧ Gl.dgF r (s * 100 + u) j = Gl.dgF r (s * 100 + u) 9) (fun d => (intOf d).toNat)
      case atStart => exact ⟨9, by omega, rfl, rfl⟩
      case round =>
        obtain ⟨j, hj, rfl, hdg⟩ := hrel
        obtain ⟨m0, m1⟩ := dg_in (j := j) r0 r1 hj
        have HDG := Lib.hid hdg
        clear hdg
        by_cases ht : s * 100 + u < (20 * r + (j : Int)) * (j : Int)
        · cases j with
          | zero => simp at ht; omega
          | succ j =>
            have HD := Lib.hid (Gl.dgF_down ht)
            rw [show ((j + 1 : Nat) : Int) = (j : Int) + 1 from by omega] at ht m0 m1
            go_wp2
            go_round
            case rel => exact ⟨j, by omega, by go_num, by rw [← HD.out]; exact HDG.out⟩
            case measure => simp [intOf]
        · have HT := Lib.hid ht
          go_wp2_with (at_builtin; refine wpList_app0 rfl _ _ rfl rfl HO.out [(j : Int)] 1 rfl (by omega) _ rfl _ rfl (by omega) (by omega) hsz ?_; intro A' c' w3 row3 hown3 hg3 hr3)
          have HB3 := Lib.hid (below_row HB.out hg3 hr3 (by omega) hsz)
          have HP3 := Lib.hid (HP.out.grown hg3 hsz hr3)
          have hsz3 := hg3.size
          go_roundw
          case rel => exact ⟨k + 1, _, _, _, _, _, by omega, by go_num, rfl, rfl, rfl, hown3, HAT.out.next hn HU.out HDG.out HT.out, HP3.out, HB3.out, by omega⟩
          case measure => simp [intOf]; omega
    · obtain rfl : k = L := by omega
      obtain ⟨rfl, rfl, rfl⟩ := (HLEN.out ▸ HAT.out : AtPair n (Gl.prs n).length ds r s).done
      go_wp2
      go_ret2
      exact ⟨⟨_, _, rfl, HO.out.own⟩, HB.out⟩
end Go.Proofs.YthdoofmfigemoaaGreatDoor
end

section
/-
  Roots: RootOf, RootPairs and RootNear of the program and of the reference.
-/
namespace Go.Proofs.YthdoofmfigemoaaGreatDoor
open Go.RowKit

set_option maxHeartbeats 1000000 in
theorem RootOf_yes (n : Nat) (w : World) (hn : n ≤ 1000000000) :
    Calls Tryz.prog 30 #[.int .i64 (n : Int)] w fun e w' => e = .returned (.tuple #[.int .i64 (Gl.rtR n), .int .i64 (Gl.rtS n), .bool true]) ∧ Below w.heap.size w w' := by
  obtain ⟨_, hval, hlen, hdig⟩ := Gl.rt_inv n
  have hL5 := (Gl.prs_length hn).2
  have hh := Gl.horner_take hdig (by omega)
  have hall := Gl.horner_all hlen
  rw [hval] at hall
  generalize (Gl.prs n).length = L at hlen hL5 hall
  have HL := Lib.hid (Gl.prs_length hn)
  have HH := Lib.hid hh
  have HALL := Lib.hid hall
  have HLEN := Lib.hid hlen
  clear hval hlen hdig hh hall
  go_enter Tryz.func30, Tryz.ntmps30
  go_wp2_with fail
  refine (hasRoot_yes hn _).mono ?_
  rintro e w' ⟨rfl, rfl⟩
  go_wp2_with fail
  refine (rootDigits_any n _ hn).mono ?_
  rintro e w1 ⟨⟨A1, c1, rfl, ho1⟩, hb1⟩
  generalize (Gl.prs n).length = L2 at ho1 ⊢
  obtain rfl : L = L2 := by have := ho1.len; have := HLEN.out; omega
  have HI := Lib.hid ho1.ints
  have HB := Lib.hid hb1
  clear ho1 hb1
  go_wp2_with fail
  go_loop [5, 20] (fun rv i => ∃ k : Nat, k ≤ L ∧ i = .int .i64 (k : Int) ∧ rv = .int .i64 (Gl.horner 0 ((Gl.rtD n).take k))) (fun _ i => L - (intOf i).toNat)
  case atStart => exact ⟨0, by omega, by go_num, rfl⟩
  case round =>
    obtain ⟨k, hk, rfl, rfl⟩ := hrel
    obtain ⟨h0, h1⟩ := HH.out k
    by_cases hlt : k < L
    · obtain ⟨b, off, u, rfl, hub, hu, hcu⟩ := HI.out.at_ hlt
      have HN := Lib.hid (Gl.horner_next hu)
      have hu9 : 0 ≤ u ∧ u ≤ 9 := (Gl.rt_inv n).2.2.2 u (List.mem_of_getElem? hu)
      obtain ⟨u0, u1⟩ := hu9
      clear hu
      generalize Gl.horner 0 ((Gl.rtD n).take k) = r at *
      go_wp2
      go_round
      case rel => exact ⟨k + 1, by omega, by go_num, by rw [HN.out]; congr 1; omega⟩
      case measure => simp [intOf]; omega
    · obtain rfl : k = L := by omega
      rw [HALL.out] at h0 h1 ⊢
      go_wp2
      refine bodyPost_ret (results_tmp3 rfl _ _ _) rfl ?_
      exact ⟨rfl, HB.out⟩
theorem RootOf_no (n : Int) (w : World) (hn : n < 0 ∨ 1000000000 < n) :
    Calls Tryz.prog 30 #[.int .i64 n] w fun e w' => e = .returned (.tuple #[.int .i64 0, .int .i64 0, .bool false]) ∧ w = w' := by
  go_enter Tryz.func30, Tryz.ntmps30
  go_wp2_with fail
  refine (hasRoot_no hn _).mono ?_
  rintro e w' ⟨rfl, rfl⟩
  go_wp2
  go_ret3
  exact ⟨rfl, rfl⟩

/-- the integer whose square is nearest -/
def nearOf (n : Nat) : Int := Gl.near (Gl.rtR n) (Gl.rtS n)
/-! the reference -/
theorem half_in (a b : Nat) (h : a < b) : a < (a + b + 1) / 2 ∧ (a + b + 1) / 2 ≤ b := by omega
set_option maxHeartbeats 1000000 in
theorem l8Root_any (n : Nat) (w : World) (hn : n ≤ 1000000000) :
    Calls Tryz.prog 73 #[.int .i64 (n : Int)] w fun e w' => e = .returned (.int .i64 (Gl.rtR n)) ∧ w = w' := by
  go_enter Tryz.func73, Tryz.ntmps73
  go_wp2
  go_loop [3, 4] (fun lo hi => ∃ a b : Nat, a ≤ b ∧ b ≤ 100000 ∧ lo = .int .i64 (a : Int) ∧ hi = .int .i64 (b : Int) ∧ (a : Int) * (a : Int) ≤ (n : Int) ∧ (n : Int) < ((b : Int) + 1) * ((b : Int) + 1)) (fun lo hi => (intOf hi).toNat - (intOf lo).toNat)
  case atStart => exact ⟨0, 100000, by omega, by omega, rfl, rfl, by omega, by omega⟩
  case round =>
    obtain ⟨a, b, hab, hb, rfl, rfl, hlo, hhi⟩ := hrel
    have HLO := Lib.hid hlo
    have HHI := Lib.hid hhi
    clear hlo hhi
    by_cases hlt : a < b
    · obtain ⟨h1, h2⟩ := half_in a b hlt
      have hm : ((a : Int) + (b : Int) + 1) / 2 = (((a + b + 1) / 2 : Nat) : Int) := by omega
      obtain ⟨m0, m1⟩ := sq_in (show (0 : Int) ≤ ((a : Int) + (b : Int) + 1) / 2 by omega) (show ((a : Int) + (b : Int) + 1) / 2 ≤ 100000 by omega)
      generalize (a + b + 1) / 2 = m at *
      have HM := Lib.hid hm
      by_cases ht : (((a : Int) + (b : Int) + 1) / 2) * (((a : Int) + (b : Int) + 1) / 2) ≤ (n : Int)
      · have HT := Lib.hid ht
        clear hm
        go_wp2
        go_round
        case rel => exact ⟨m, b, by omega, by omega, by rw [HM.out], rfl, by have := HT.out; rwa [HM.out] at this, HHI.out⟩
        case measure => have := HM.out; simp [intOf]; omega
      · have HT := Lib.hid ht
        clear hm
        go_wp2
        go_round
        case rel => exact ⟨a, m - 1, by omega, by omega, rfl, by have := HM.out; congr 1; omega, HLO.out, by have := HT.out; rw [HM.out] at this; rw [show ((m - 1 : Nat) : Int) + 1 = (m : Int) from by omega]; omega⟩
        case measure => have := HM.out; simp [intOf]; omega
    · obtain rfl : a = b := by omega
      go_wp2
      go_ret
      exact ⟨ret_int (Gl.root_unique (Gl.isRoot_of_sq (by omega) HLO.out HHI.out) (Gl.rt_inv n).1).1, rfl⟩
theorem rest_of (n : Nat) : (n : Int) - Gl.rtR n * Gl.rtR n = Gl.rtS n := by
  have := (Gl.rt_inv n).1.2.1
  omega
set_option maxHeartbeats 400000 in
theorem specRootOf_yes (n : Nat) (w : World) (hn : n ≤ 1000000000) :
    Calls Tryz.prog 31 #[.int .i64 (n : Int)] w fun e w' => e = .returned (.tuple #[.int .i64 (Gl.rtR n), .int .i64 (Gl.rtS n), .bool true]) ∧ w = w' := by
  obtain ⟨r0, r1, s0, s1⟩ := Gl.root_bound (Gl.rt_inv n).1 (by omega)
  have hcall := fun w => l8Root_any n w hn
  have hrest := rest_of n
  generalize Gl.rtR n = r at *
  generalize Gl.rtS n = s at *
  obtain ⟨m0, m1⟩ := sq_in r0 r1
  have HC := Lib.hid hcall
  have HR := Lib.hid hrest
  clear hcall hrest
  go_enter Tryz.func31, Tryz.ntmps31
  go_wp2_with fail
  refine (l6In_yes (by omega) (by omega) _).mono ?_
  rintro e w' ⟨rfl, rfl⟩
  go_wp2_with fail
  refine (HC.out _).mono ?_
  rintro e w' ⟨rfl, rfl⟩
  go_wp2
  go_ret3
  exact ⟨by rw [HR.out]; rfl, rfl⟩
theorem specRootOf_no (n : Int) (w : World) (hn : n < 0 ∨ 1000000000 < n) :
    Calls Tryz.prog 31 #[.int .i64 n] w fun e w' => e = .returned (.tuple #[.int .i64 0, .int .i64 0, .bool false]) ∧ w = w' := by
  go_enter Tryz.func31, Tryz.ntmps31
  go_wp2_with fail
  refine (l6In_no hn _).mono ?_
  rintro e w' ⟨rfl, rfl⟩
  go_wp2
  go_ret3
  exact ⟨rfl, rfl⟩
theorem near_facts {m : Nat} (hm : m ≤ 1000000000) : ∃ d, 0 ≤ nearOf m ∧ nearOf m ≤ 40001 ∧ 0 ≤ d ∧ d ≤ nearOf m ∧ max ((m : Int) - nearOf m * nearOf m) (nearOf m * nearOf m - (m : Int)) = d ∧
    ∀ k, nearOf m - 1 ≤ k → k ≤ nearOf m + 1 → 0 ≤ k → d ≤ max ((m : Int) - k * k) (k * k - (m : Int)) := by
  obtain ⟨r0, r1, s0, s1⟩ := Gl.root_bound (Gl.rt_inv m).1 (by omega)
  obtain ⟨d, h0, h1, h2, h3⟩ := Gl.near_law (Gl.rt_inv m).1
  exact ⟨d, by unfold nearOf Gl.near; split <;> omega, by unfold nearOf Gl.near; split <;> omega, h0, h1, h2, h3⟩
end Go.Proofs.YthdoofmfigemoaaGreatDoor
end

section
/-
  The command root, and the draw of its number.
-/
namespace Go.Proofs.YthdoofmfigemoaaGreatDoor
open Go.RowKit
set_option linter.unusedSimpArgs false

set_option maxRecDepth 100000 in
set_option maxHeartbeats 1000000 in
theorem DrawRootOf_any (A : Option Addr) (n c : Nat) (w : World) (h : Bytes w w.heap.size A n c) (hn : n ≤ 1048576) :
    Calls Tryz.prog 29 #[.slice A n c] w (DrewI (-1) 1000000001 w) := by
  have H := Lib.hid h
  clear h
  go_enter Tryz.func29, Tryz.ntmps29
  go_wp2_with fail
  refine (l6Open_any _ _ _ _ H.out hn).mono ?_
  rintro e w0 ⟨rfl, hrd, hb⟩
  have HB := Lib.hid hb
  have hlt := hrd.lt
  have HR := Lib.hid hrd
  clear hrd hb
  go_wp2_with fail
  refine (l92Root_any _ _ _ _ HR.out (by omega)).mono ?_
  rintro e w1 ⟨v1, q1, rfl, hva1, hvb1, hrd1, hq1, hg1⟩
  have hsz1 := hg1.size
  replace HB := Lib.hid (HB.out.trans (base_in hg1 (Nat.le_refl _) (by omega)))
  replace HR := Lib.hid hrd1
  clear hrd1 hg1
  go_wp2
  go_ret
  exact ⟨_, rfl, by omega, by omega, HB.out⟩

theorem root_bd {n : Nat} (hn : n ≤ 1000000000) : 0 ≤ Gl.rtR n ∧ Gl.rtR n ≤ 1000000000 ∧ 0 ≤ Gl.rtS n ∧ Gl.rtS n ≤ 1000000000 := by
  obtain ⟨⟨h0, h1, h2, h3⟩, _⟩ := Gl.rt_inv n
  have hq : Gl.rtR n ≤ Gl.rtR n * Gl.rtR n := by
    by_cases h : Gl.rtR n = 0
    · rw [h]; omega
    · have := Int.mul_le_mul_of_nonneg_left (show (1 : Int) ≤ Gl.rtR n by omega) h0
      omega
  omega
/-- what root tells -/
def rootT (n : Nat) : List UInt8 := Lib.itoa (Gl.rtR n) ++ 32 :: Lib.itoa (Gl.rtS n)
set_option maxRecDepth 100000 in
set_option maxHeartbeats 4000000 in
theorem root_cmd (B0 tb : Nat) (bds ds : List Int) (ts : List Tl) (n : Nat) (hn : n ≤ 1000000000) (A0 : Option Addr) (n0 : Nat) (w : World) (hnum : Own w B0 A0 1 n0 [(n : Int)]) (h : Tab B0 w tb bds ds ts) (hw : B0 ≤ w.heap.size) (hp : Pow B0 w) :
    Calls Tryz.prog 170 #[.pointer (some ⟨tb, 0, none⟩), .slice A0 1 n0] w (CmdPost B0 (Tell B0 tb bds ds ts (bs (rootT n))) w) := by
  obtain ⟨g, rfl, _, hg, hcell, _⟩ := hnum.at_ (by omega)
  have d0 := hcell 0 (n : Int) rfl
  obtain ⟨r0, r1, s0, s1⟩ := root_bd hn
  obtain ⟨R, hR⟩ : ∃ R, Gl.rtR n = R := ⟨_, rfl⟩
  obtain ⟨S, hS⟩ : ∃ S, Gl.rtS n = S := ⟨_, rfl⟩
  have hroot := fun w => RootOf_yes n w hn
  have hT : (dec R ++ ⟨#[32]⟩) ++ dec S = bs (rootT n) := by
    show (bs (Lib.itoa R) ++ bs [32]) ++ bs (Lib.itoa S) = _
    rw [bs_append, bs_append]
    simp [rootT, hR, hS]
  rw [hR, hS] at hroot
  rw [hR] at r0 r1
  rw [hS] at s0 s1
  have hz1 := dec_size R (by omega) (by omega)
  have hz2 := dec_size S (by omega) (by omega)
  have hl1 := no_long (n := (dec R).size) (by omega) 1 (by omega)
  have hl2 := no_long (n := (dec R).size + 1) (by omega) (dec S).size (by omega)
  have hl3 := no_long (n := (dec R).size + 1 + (dec S).size) (by omega) 1 (by omega)
  have HT := Lib.hid h
  have HR := Lib.hid hroot
  have HW := Lib.hid hw
  have HP := Lib.hid hp
  have HTT := Lib.hid hT
  clear h hroot hw hp hT hnum hcell hz1 hz2 hR hS
  go_enter Tryz.func170, Tryz.ntmps170
  go_wp2_with fail
  refine (HR.out _).mono ?_
  rintro e w1 ⟨rfl, hb1⟩
  have HB1 := Lib.hid hb1
  clear hb1
  go_wp2_with fail
  refine (Itoa_any (HP.out.below (HB1.out.mono HW.out)) R (by omega) (by omega)).mono ?_
  rintro e w2 ⟨rfl, hb2⟩
  have HB2 := Lib.hid (HB1.out.trans (hb2.mono HB1.out.size))
  clear hb2
  go_wp2_with fail
  refine (Itoa_any (HP.out.below (HB2.out.mono HW.out)) S (by omega) (by omega)).mono ?_
  rintro e w3 ⟨rfl, hb3⟩
  have HB3 := Lib.hid (HB2.out.trans (hb3.mono HB2.out.size))
  clear hb3
  go_wp2_with fail
  refine bodyPost_ret (v := .tuple #[.string (((dec R ++ ⟨#[32]⟩) ++ dec S) ++ ⟨#[10]⟩), .bool true]) (by simp [results, Tryz.results170, go_sem]) rfl ?_
  rw [HTT.out]
  exact ⟨_, _, rfl, ⟨rfl, rfl, HT.out.next HB3.out⟩, KeptT.of_below HB3.out⟩
theorem does_root (s : St) (n : Nat) (hn : n ≤ 1000000000) : CmdDoes 170 [(n : Int)] s (bs (rootT n) ++ ⟨#[10]⟩) s := by
  refine ⟨fun args w => by simp [go_sem], fun B0 tb w A n0 hnum ht hw hp => ?_⟩
  refine (root_cmd B0 tb s.bs s.ds s.ts n hn A n0 w hnum ht hw hp).mono fun e w' h => ?_
  obtain ⟨t, ok, rfl, ⟨rfl, rfl, h⟩, hk⟩ := h
  exact ⟨_, _, rfl, ⟨rfl, h⟩, hk⟩
theorem dec_short : ∀ (k u : Nat), (Lib.decDigits u).length ≤ k → u < 10 ^ k
  | 0, u, h => by have := dec_pos u; omega
  | k + 1, u, h => by
    have hp : 0 < 10 ^ k := Nat.pow_pos (by omega)
    by_cases hu : u < 10
    · rw [Nat.pow_succ]; omega
    · have := dec_short k (u / 10) (by rw [Lib.decDigits, dif_neg hu] at h; simp at h; omega)
      rw [Nat.pow_succ]; omega
theorem wnum_long (v : Int) (h : 1000000 ≤ v) : wnum (Lib.itoa v) = 9999999 := by
  have h6 : ¬ (Lib.decDigits v.toNat).length ≤ 6 := fun h6 => by have := dec_short 6 v.toNat h6; omega
  unfold wnum Lib.itoa
  rw [if_neg (show ¬ v < 0 by omega), if_pos (.inr (by omega))]
/-- the number that a line hands over -/
def numOf (n : Nat) : Nat := if n ≤ 999999 then n else 9999999
theorem numOf_le (n : Nat) : numOf n ≤ 1000000000 := by unfold numOf; split <;> omega
theorem wnum_numOf (n : Nat) : wnum (Lib.itoa (n : Int)) = (numOf n : Int) := by
  unfold numOf
  split
  · exact wnum_itoa _ (by omega) (by omega)
  · rw [wnum_long _ (by omega)]; rfl
theorem good1n {k : List UInt8} {f : Nat} (n : Nat) (hk : (32 : UInt8) ∉ k) (hc : cmdOf (bs k) = some (1, f)) : Good (k ++ 32 :: Lib.itoa (n : Int)) (1, f) [(numOf n : Int)] :=
  ⟨k, [Lib.itoa (n : Int)], by rw [cut_at 32 k _ hk, cut_none 32 _ (itoa_free (by decide) (by omega))], hc, rfl, by simp [wnum_numOf n]⟩
def wRoot : List UInt8 := [114, 111, 111, 116]
def scriptRoot (n : Nat) : List UInt8 := wRoot ++ 32 :: (Lib.itoa (n : Int) ++ [10])
theorem scriptRoot_cut (n : Nat) : cut 10 (scriptRoot n) = [wRoot ++ 32 :: Lib.itoa (n : Int)] ++ [[]] := by
  have e : scriptRoot n = (wRoot ++ 32 :: Lib.itoa (n : Int)) ++ 10 :: [] := by simp [scriptRoot]
  rw [e, cut_at 10 _ _ (nl_word (by decide) (by omega))]
  rfl
theorem rootT_size (n : Nat) (hn : n ≤ 1000000000) : (rootT n).length ≤ 50 := by
  obtain ⟨r0, r1, s0, s1⟩ := root_bd hn
  have e1 := dec_size (Gl.rtR n) (by omega) (by omega)
  have e2 := dec_size (Gl.rtS n) (by omega) (by omega)
  have f1 : (dec (Gl.rtR n)).size = (Lib.itoa (Gl.rtR n)).length := by show (Lib.itoa (Gl.rtR n)).toArray.size = _; simp
  have f2 : (dec (Gl.rtS n)).size = (Lib.itoa (Gl.rtS n)).length := by show (Lib.itoa (Gl.rtS n)).toArray.size = _; simp
  simp [rootT]
  omega
theorem Execute_root (n : Nat) (hn : n ≤ 1000000000) (w : World) (hm : Max w) (hpw : Pow w.heap.size w) {s : ByteArray} (hs : s = bs (scriptRoot n)) :
    Calls Tryz.prog 13 #[.string s] w fun e w' => e = .returned (.string (bs ((rootT (numOf n) ++ [10]) ++ endL 0 0))) ∧ Below w.heap.size w w' := by
  subst hs
  have d1 := dec_size (n : Int) (by omega) (by omega)
  have f1 : (dec (n : Int)).size = (Lib.itoa (n : Int)).length := by show (Lib.itoa (n : Int)).toArray.size = _; simp
  have hsz : (bs (scriptRoot n)).size ≤ 400 := by
    have e : (bs (scriptRoot n)).size = (scriptRoot n).length := by show (scriptRoot n).toArray.size = _; simp
    rw [e]
    simp [scriptRoot, wRoot]
    omega
  have l1 : LineDoes (wRoot ++ 32 :: Lib.itoa (n : Int)) St.start (bs (rootT (numOf n)) ++ ⟨#[10]⟩) St.start :=
    line_does (by simp [wRoot]; omega) (good1n (k := wRoot) n (by decide) (by rfl)) (by decide) (does_root St.start (numOf n) (numOf_le n))
  have r := Runs.cons l1 (Runs.nil _)
  have e1 : (bs (rootT (numOf n)) ++ ⟨#[10]⟩).data.toList = rootT (numOf n) ++ [10] := bs_line _
  rw [e1, List.append_nil] at r
  have hol : (rootT (numOf n) ++ [10]).length ≤ 100000 := by have := rootT_size (numOf n) (numOf_le n); simp; omega
  exact Execute_any (bs (scriptRoot n)) _ St.start _ w hsz (by rw [bs_list]; exact scriptRoot_cut n) r hm hpw hol (by decide)
end Go.Proofs.YthdoofmfigemoaaGreatDoor
end

section
/-
  FnExecuteRoot returns true for every code: roots are told.
-/
namespace Go.Proofs.YthdoofmfigemoaaGreatDoor.fnExecuteRoot
open Go.RowKit
set_option linter.unusedSimpArgs false

theorem script_eq (n : Nat) : (⟨#[114, 111, 111, 116, 32]⟩ ++ dec (n : Int)) ++ ⟨#[10]⟩ = bs (scriptRoot n) := by
  show (bs [114, 111, 111, 116, 32] ++ bs (Lib.itoa (n : Int))) ++ bs [10] = _
  simp only [bs_append]
  rfl
theorem answer_eq (n : Nat) : ((((dec (Gl.rtR n) ++ ⟨#[32]⟩) ++ dec (Gl.rtS n)) ++ ⟨#[10]⟩) ++ bs (endL 0 0)) = bs ((rootT n ++ [10]) ++ endL 0 0) := by
  show (((bs (Lib.itoa (Gl.rtR n)) ++ bs [32]) ++ bs (Lib.itoa (Gl.rtS n))) ++ bs [10]) ++ bs (endL 0 0) = _
  simp only [bs_append]
  congr 1
  simp [rootT]
set_option maxRecDepth 100000 in
set_option maxHeartbeats 4000000 in
theorem walk (a0 : Option Addr) (len0 cap0 : Nat) (z0 : List Int) (w : World) (w0 : IsRow .u8 w a0 len0 cap0 z0) (hm : Max w) (hp : Pow w.heap.size w) :
    Calls Tryz.prog 8 #[.slice a0 len0 cap0] w fun e w' => e = .returned (.bool true) ∧ Below w.heap.size w w' := by
  by_cases hbig : 1048576 < len0
  · clear w0
    go_enter Tryz.func8, Tryz.ntmps8
    go_wp2
    go_ret
    exact ⟨rfl, Below.refl _ _⟩
  · have HC := Lib.hid (Bytes.of_row w0)
    have HM := Lib.hid hm
    have HP := Lib.hid hp
    have h0w : 0 < w.heap.size := by obtain ⟨m, hm0⟩ := hm; exact World.block_lt_of_cell? w _ hm0
    clear w0 hm hp
    go_enter Tryz.func8, Tryz.ntmps8
    go_wp2_with fail
    refine (DrawRootOf_any _ _ _ _ HC.out (by omega)).mono ?_
    rintro e w1 ⟨v, rfl, hv0, hv1, hb1⟩
    have HB1 := Lib.hid hb1
    clear hb1
    by_cases hr : v < 0 ∨ 1000000000 < v
    · have HR := Lib.hid hr
      clear hr
      go_wp2_with fail
      refine (RootOf_no v _ HR.out).mono ?_
      rintro e w' ⟨rfl, rfl⟩
      go_wp2_with fail
      refine (specRootOf_no v _ HR.out).mono ?_
      rintro e w' ⟨rfl, rfl⟩
      go_wp2
      go_ret
      exact ⟨rfl, HB1.out⟩
    · obtain ⟨n, rfl⟩ := Int.eq_ofNat_of_zero_le (show 0 ≤ v by omega)
      have hn : n ≤ 1000000000 := by omega
      obtain ⟨r0, r1, s0, s1⟩ := root_bd hn
      have HA := Lib.hid (answer_eq n)
      have HS := Lib.hid (script_eq n)
      have hc1 := fun w => RootOf_yes n w hn
      have hc2 := fun w => specRootOf_yes n w hn
      have HE := Lib.hid (show ∀ w : World, Max w → Pow w.heap.size w → ∀ s : ByteArray, s = bs (scriptRoot n) → Calls Tryz.prog 13 #[.string s] w fun e w' => e = .returned (.string (bs ((rootT (numOf n) ++ [10]) ++ endL 0 0))) ∧ Below w.heap.size w w' from fun w h1 h2 s h3 => Execute_root n hn w h1 h2 h3)
      obtain ⟨R, hR⟩ := Int.eq_ofNat_of_zero_le r0
      obtain ⟨S, hS⟩ := Int.eq_ofNat_of_zero_le s0
      rw [hR] at r0 r1 HA
      rw [hS] at s0 s1 HA
      rw [hR, hS] at hc1 hc2
      have d0 := dec_size (n : Int) (by omega) (by omega)
      have d1 := dec_size (R : Int) (by omega) (by omega)
      have d2 := dec_size (S : Int) (by omega) (by omega)
      have d3 := endL_size 0 0 (by omega) (by omega) (by omega) (by omega)
      obtain ⟨L, hL⟩ : ∃ L, bs (endL 0 0) = L := ⟨_, rfl⟩
      rw [hL] at d3 HA
      have m1 := no_long (n := 5) (by omega) (dec (n : Int)).size (by omega)
      have m2 := no_long (n := 5 + (dec (n : Int)).size) (by omega) 1 (by omega)
      have m5 := no_long (n := (dec (R : Int)).size) (by omega) 1 (by omega)
      have m6 := no_long (n := (dec (R : Int)).size + 1) (by omega) (dec (S : Int)).size (by omega)
      have m7 := no_long (n := (dec (R : Int)).size + 1 + (dec (S : Int)).size) (by omega) 1 (by omega)
      have m8 := no_long (n := (dec (R : Int)).size + 1 + (dec (S : Int)).size + 1) (by omega) L.size (by omega)
      have HDN := Lib.hid (show ∀ (n : Nat), n ≤ 1000000000 → ∀ w : World, Calls Tryz.prog 21 #[.int .i64 (n : Int)] w fun e w' => e = .returned (.string (dec n)) ∧ Below w.heap.size w w' from fun n hn w => digits_any n (by omega) w)
      have HDL := Lib.hid (show ∀ w : World, Calls Tryz.prog 23 #[.int .i64 0, .int .i64 0] w fun e w' => e = .returned (.string L) ∧ Below w.heap.size w w' from fun w => hL ▸ endLine_any 0 0 (by omega) (by omega) w)
      have hRn : R ≤ 1000000000 := by omega
      have hSn : S ≤ 1000000000 := by omega
      have HC1 := Lib.hid hc1
      have HC2 := Lib.hid hc2
      clear hc1 hc2 hR hS hL hr hv0 hv1
      go_wp2_with fail
      refine (HC1.out _).mono ?_
      rintro e w2 ⟨rfl, hb2⟩
      have HB2 := Lib.hid (below_chain HB1.out hb2)
      clear hb2
      go_wp2_with fail
      refine (HC2.out _).mono ?_
      rintro e w' ⟨rfl, rfl⟩
      go_wp2_with fail
      refine (HDN.out n hn _).mono ?_
      rintro e w3 ⟨rfl, hb3⟩
      have HB3 := Lib.hid (below_chain HB2.out hb3)
      clear hb3
      have hm3 : Max w3 := by obtain ⟨m, hm⟩ := HM.out; exact ⟨m, (HB3.out.cell (p := ⟨0, 0, none⟩) h0w).trans hm⟩
      have hp3 : Pow w3.heap.size w3 := fun w' hb => HP.out w' (HB3.out.trans (hb.mono HB3.out.size))
      have HM3 := Lib.hid hm3
      have HP3 := Lib.hid hp3
      clear hm3 hp3
      go_wp2_with fail
      rw [HS.out]
      refine (HE.out _ HM3.out HP3.out _ rfl).mono ?_
      rintro e w4 ⟨rfl, hb4⟩
      have HB4 := Lib.hid (below_chain HB3.out hb4)
      clear hb4
      by_cases hlong : (n : Int) > 999999
      · go_wp2_with fail
        go_ret
        exact ⟨rfl, HB4.out⟩
      · have hno : numOf n = n := by unfold numOf; rw [if_pos (by omega)]
        rw [hno]
        obtain ⟨X, hX⟩ : ∃ X, bs (rootT n ++ [10] ++ endL 0 0) = X := ⟨_, rfl⟩
        rw [hX] at HA ⊢
        go_wp2_with fail
        refine (HDN.out R hRn _).mono ?_
        rintro e w5 ⟨rfl, hb5⟩
        have HB5 := Lib.hid (below_chain HB4.out hb5)
        clear hb5
        go_wp2_with fail
        refine (HDN.out S hSn _).mono ?_
        rintro e w6 ⟨rfl, hb6⟩
        have HB6 := Lib.hid (below_chain HB5.out hb6)
        clear hb6
        go_wp2_with fail
        refine (HDL.out _).mono ?_
        rintro e w7 ⟨rfl, hb7⟩
        have HB7 := Lib.hid (below_chain HB6.out hb7)
        clear hb7
        go_wp2_with fail
        rw [HA.out]
        go_ret
        exact ⟨by simp, HB7.out⟩
end Go.Proofs.YthdoofmfigemoaaGreatDoor.fnExecuteRoot
end
