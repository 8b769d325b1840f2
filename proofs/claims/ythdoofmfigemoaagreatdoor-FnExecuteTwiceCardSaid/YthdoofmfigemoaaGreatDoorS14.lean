/-
  Joined texts.
-/
import Derived.Test.YthdoofmfigemoaaGreatDoorS11
import Derived.Test.YthdoofmfigemoaaGreatDoorS13
set_option linter.unusedSimpArgs false
set_option linter.unusedVariables false
set_option maxRecDepth 100000
set_option maxHeartbeats 4000000
namespace Go.Proofs.YthdoofmfigemoaaGreatDoor
open Go.RowKit
theorem specUnitsText_yes (A : Option Addr) (n c : Nat) (xs : List Int) (w : World) (hx : Ints w w.heap.size A n xs) (hok : Un.okU xs = true) (hb : ∀ x ∈ xs, 0 ≤ x ∧ x ≤ 1000000000) (hn : n ≤ 8) :
  Calls Tryz.prog 182 #[.slice A n c] w fun e w' => e = .returned (.string (bs (uText xs))) ∧ Below w.heap.size w w' := by
 have hl := hx.len
 have hz : ∀ x ∈ xs, (Lib.itoa x).length ≤ 20 := fun x h => by
  have h1 := hb x h
  have h2 := dec_size x (by omega) (by omega)
  have h3 : (dec x).size = (Lib.itoa x).length := by show (Lib.itoa x).toArray.size = _; simp
  omega
 have HX := Hd hx
 have HBD := Hd (And.intro hb hz)
 have HV := Hd (specUnitsValid_is (c := c) hx hok)
 have hn8 : (n : Int) ≤ 8 := by omega
 clear hx hb hz hok
 by_cases h0 : n = 0
 ·subst h0
  have hxs : xs = [] := List.eq_nil_of_length_eq_zero hl
  subst hxs
  go_enter Tryz.func182, Tryz.ntmps182
  go_wp2_with fail
  refine HV.out.mono ?_
  rintro e w' ⟨rfl, rfl⟩
  go_wp2_with fail
  go_ret
  exact ⟨rfl, Below.refl _ _⟩
 ·have hT : uText xs = uPre xs := by
   unfold uText
   rw [if_neg]
   intro e
   subst e
   exact h0 hl.symm
  rw [hT]
  have hn0 : ¬ (n : Int) = 0 := by omega
  have hnb : ((n : Int) == 0) = false := by simpa using h0
  have HLL := Hd hl
  clear hl
  go_enter Tryz.func182, Tryz.ntmps182
  go_wp2_with fail
  refine HV.out.mono ?_
  rintro e w' ⟨rfl, rfl⟩
  go_wp2_with fail
  go_loopw [3, 4] (fun ov iv wr => ∃ (k : Nat), k ≤ n ∧ iv = .int .i64 (k : Int) ∧ ov = .string (bs (uPre (xs.take k))) ∧ Below w.heap.size w wr) (fun _ iv _ => n - (intOf iv).toNat)
  case atStart => exact ⟨0, by omega, rfl, rfl, Below.refl _ _⟩
  case round =>
   obtain ⟨k, hk, rfl, rfl, hb⟩ := hrel
   have HB := Hd hb
   have hi := HX.out.next hb
   clear hb
   by_cases hlt : k < n
   ·obtain ⟨b, off, u, rfl, hlb, hu, hcell⟩ := hi.at_ hlt
    have hub := HBD.out.1 u (List.mem_of_getElem? hu)
    obtain ⟨v, rfl⟩ := Int.eq_ofNat_of_zero_le hub.1
    have hpl := uPre_len (xs.take k) fun y hy => HBD.out.2 y (List.mem_of_mem_take hy)
    have hpl2 : (xs.take k).length ≤ 8 := by have hl := HLL.out; rw [List.length_take]; omega
    have HT := Hd (uPre_take hu)
    obtain ⟨o, ho⟩ : ∃ o, uPre (xs.take k) = o := ⟨_, rfl⟩
    have ho3 : k = 0 → o = [] := fun e => by rw [← ho, e]; rfl
    rw [ho] at hpl HT ⊢
    have hos : (bs o).size = o.length := by show o.toArray.size = _; simp
    have hv9 : v ≤ 1000000000 := by have := hub.2; omega
    have hz := dec_size (v : Int) (by omega) (by omega)
    have hl1 := no_long (n := (bs o).size) (by omega) 3 (by omega)
    have hl2 := no_long (n := (bs o).size + 3) (by omega) 2 (by omega)
    have hl3 := no_long (n := (bs o).size + 3 + 2) (by omega) (dec (v : Int)).size (by omega)
    have hl4 := no_long (n := (bs o).size) (by omega) 2 (by omega)
    have hl5 := no_long (n := (bs o).size + 2) (by omega) (dec (v : Int)).size (by omega)
    have hkn : (k : Int) < (n : Int) := by omega
    clear hu hub hi hpl hpl2 hos hz ho
    by_cases hk0 : 0 < k
    ·have hkI : (k : Int) > 0 := by omega
     go_wp2_with fail
     refine (l6Dec_any v (by omega) _).mono ?_
     rintro e w6 ⟨rfl, hb6⟩
     have HB6 := Hd (below_chain HB.out hb6)
     clear hb6
     go_wp2_with fail
     go_roundw
     case rel =>
      refine ⟨k + 1, by omega, by go_num, ?_, HB6.out⟩
      rw [HT.out, if_neg (by omega)]
      show Value.string (((bs o ++ bs [32, 43, 32]) ++ bs [49, 47]) ++ bs (Lib.itoa (v : Int))) = _
      rw [bs_append, bs_append, bs_append]
     case measure => simp [intOf]; omega
    ·obtain rfl : k = 0 := by omega
     rw [Nat.add_zero] at hcell
     have ho2 : o = [] := by
      exact ho3 rfl
     subst ho2
     go_wp2_with fail
     refine (l6Dec_any v (by omega) _).mono ?_
     rintro e w6 ⟨rfl, hb6⟩
     have HB6 := Hd (below_chain HB.out hb6)
     clear hb6
     go_wp2_with fail
     go_roundw
     case rel =>
      refine ⟨1, by omega, by go_num, ?_, HB6.out⟩
      rw [HT.out, if_pos trivial]
      show Value.string ((bs [] ++ bs [49, 47]) ++ bs (Lib.itoa (v : Int))) = _
      rw [bs_append, bs_append]
     case measure => simp [intOf]; omega
   ·obtain rfl : k = n := by omega
    have hl := HLL.out
    rw [List.take_of_length_le (by omega)]
    clear hi hl
    go_wp2_with fail
    go_ret
    exact ⟨rfl, HB.out⟩
def unitsT (R : Option (List Int)) : ByteArray := match R with | some l => bs (uText l) ++ ⟨#[10]⟩ | none => noT
def UnitsGood (l : List Int) : Prop := Un.okU l = true ∧ (∀ x ∈ l, 0 ≤ x ∧ x ≤ 1000000000) ∧ l.length ≤ 8 ∧ (uText l).length ≤ 1000
theorem l9Units_of (up low : Int) (R : Option (List Int)) (w : World) (hc : ∀ w, Calls Tryz.prog 181 #[.int .i64 up, .int .i64 low] w (UnitsPost R w)) (hg : ∀ l, R = some l → UnitsGood l) :
  Calls Tryz.prog 140 #[.int .i64 up, .int .i64 low] w fun e w' => e = .returned (.string (unitsT R)) ∧ Below w.heap.size w w' := by
 have HC := Hd hc
 clear hc
 go_enter Tryz.func140, Tryz.ntmps140
 go_wp2_with fail
 refine (HC.out _).mono ?_
 rintro e w1 ⟨⟨l, A, n, c, hR, rfl, ho⟩ | ⟨hR, A, n, c, rfl, ho⟩, hb⟩
 ·obtain ⟨g1, g2, g3, g4⟩ := hg l hR
  have hl := ho.len
  have HT := Hd (fun w h => specUnitsText_yes A n c l w h g1 g2 (by omega))
  have HI := Hd ho.ints
  have HB := Hd hb
  have HS := Hd (show (bs (uText l)).size ≤ 100000 by
   have : (bs (uText l)).size = (uText l).length := by show (uText l).toArray.size = _; simp
   omega)
  have HR := Hd hR
  clear ho hb hR hl g1 g2 g3 g4 hg
  go_wp2_with fail
  refine (HT.out _ HI.out).mono ?_
  rintro e w2 ⟨rfl, hb2⟩
  have HB2 := Hd (below_chain HB.out hb2)
  clear hb2
  go_wp2_with fail
  refine (l9Said_yes _ _ HS.out).mono ?_
  rintro e w3 ⟨rfl, rfl⟩
  go_wp2_with fail
  go_ret
  exact ⟨by rw [HR.out]; rfl, HB2.out⟩
 ·have hl := ho.len
  have HT := Hd (fun w h => specUnitsText_yes A n c [] w h (by decide) (fun x hx => by cases hx) (by simp at hl; omega))
  have HI := Hd ho.ints
  have HB := Hd hb
  have HR := Hd hR
  clear ho hb hR hl hg
  go_wp2_with fail
  refine (HT.out _ HI.out).mono ?_
  rintro e w2 ⟨rfl, hb2⟩
  have HB2 := Hd (below_chain HB.out hb2)
  clear hb2
  go_wp2_with fail
  refine (l9Said_no _ _).mono ?_
  rintro e w3 ⟨rfl, rfl⟩
  go_wp2_with fail
  go_ret
  exact ⟨by rw [HR.out]; rfl, HB2.out⟩
def lastU : Int → List Int → Int
 | a, [] => a
 | _, x :: xs => lastU x xs
theorem lastU_snoc : ∀ (l : List Int) (a d : Int), lastU a (l ++ [d]) = d
 | [], _, _ => rfl
 | x :: l, _, d => by
  show lastU x (l ++ [d]) = d
  exact lastU_snoc l x d
theorem asc_snoc : ∀ (l : List Int) (a d : Int), Un.asc a l = true → lastU a l < d → d ≤ 1000000000 → Un.asc a (l ++ [d]) = true
 | [], a, d, _, h, hd => by
  have h' : a < d := h
  simp [Un.asc, h', hd]
 | x :: l, a, d, ha, h, hd => by
  simp only [Un.asc, Bool.and_eq_true, List.cons_append] at ha ⊢
  exact ⟨ha.1, asc_snoc l x d ha.2 h hd⟩
theorem asc_bd : ∀ (l : List Int) (a : Int), 0 ≤ a → Un.asc a l = true → ∀ x ∈ l, 0 ≤ x ∧ x ≤ 1000000000
 | [], _, _, _, x, hx => by cases hx
 | y :: l, a, h0, ha, x, hx => by
  simp only [Un.asc, Bool.and_eq_true, decide_eq_true_eq] at ha
  rcases List.mem_cons.1 hx with rfl | hx
  ·omega
  ·exact asc_bd l y (by omega) ha.2 x hx
theorem uD_two {x y : Nat} (h : 0 < x) (hxy : x < y) : 2 ≤ uD x y := by
 unfold uD
 refine (Nat.le_div_iff_mul_le h).2 ?_
 omega
theorem uD_gt {x y d : Nat} (h : 0 < x) (hd : d * x < y) : d < uD x y := by
 unfold uD
 refine (Nat.le_div_iff_mul_le h).2 ?_
 rw [Nat.succ_mul]
 omega
theorem uNext_more {x y : Nat} (h : 0 < x) (hxy : x < y) : uUp x y < uLow x y ∧ (0 < uUp x y → uD x y < uD (uUp x y) (uLow x y)) := by
 obtain ⟨h1, h2, h3, h4⟩ := uD_bd h (show 1 ≤ y by omega)
 obtain ⟨d, hd⟩ : ∃ d, uD x y = d := ⟨_, rfl⟩
 have eu : uUp x y = (x * d - y) / Nat.gcd (x * d - y) (y * d) := by rw [← hd]; rfl
 have el : uLow x y = y * d / Nat.gcd (x * d - y) (y * d) := by rw [← hd]; rfl
 rw [eu, el]
 rw [hd] at h1 h2 h3 h4 ⊢
 have hq : 0 < y * d := Nat.mul_pos (by omega) (by omega)
 obtain ⟨p, hp⟩ : ∃ p, x * d - y = p := ⟨_, rfl⟩
 obtain ⟨q, hqq⟩ : ∃ q, y * d = q := ⟨_, rfl⟩
 have hyq : y ≤ q := by rw [← hqq]; exact Nat.le_mul_of_pos_right _ (by omega)
 have hpx : p < x := by rw [← hp]; exact h4
 have hdp : d * p < q := by
  rw [← hqq, Nat.mul_comm y d]
  exact Nat.mul_lt_mul_of_pos_left (by omega) (by omega)
 have hq2 : 0 < q := by rw [← hqq]; exact hq
 rw [hp, hqq]
 have hg := Nat.gcd_pos_of_pos_right p hq2
 have e1 := Nat.div_mul_cancel (Nat.gcd_dvd_left p q)
 have e2 := Nat.div_mul_cancel (Nat.gcd_dvd_right p q)
 obtain ⟨g, hgg⟩ : ∃ g, Nat.gcd p q = g := ⟨_, rfl⟩
 rw [hgg] at hg e1 e2 ⊢
 obtain ⟨X, hX⟩ : ∃ X, p / g = X := ⟨_, rfl⟩
 obtain ⟨Y, hY⟩ : ∃ Y, q / g = Y := ⟨_, rfl⟩
 rw [hX] at e1 ⊢
 rw [hY] at e2 ⊢
 refine ⟨?_, fun hX0 => uD_gt hX0 ?_⟩
 ·refine Nat.lt_of_mul_lt_mul_right (a := g) ?_
  rw [e1, e2]
  omega
 ·refine Nat.lt_of_mul_lt_mul_right (a := g) ?_
  rw [Nat.mul_assoc, e1, e2]
  exact hdp
theorem uStep_good : ∀ (f : Nat) (out : List Int) (x y : Nat) (l : List Int), x < y → Un.asc 1 out = true → out.length ≤ 8 → (0 < x → lastU 1 out < (uD x y : Int)) → uStep f out x y = some l → Un.asc 1 l = true ∧ l.length ≤ 8
 | 0, _, _, _, _, _, _, _, _, h => by cases h
 | f + 1, out, x, y, l, hxy, ha, hl, hd, h => by
  unfold uStep at h
  by_cases h0 : x = 0
  ·rw [if_pos h0] at h
   injection h with h
   subst h
   exact ⟨ha, hl⟩
  ·rw [if_neg h0] at h
   by_cases hf : 1000000000 < uD x y ∨ 1000000000 < y ∨ out.length = 8
   ·rw [if_pos hf] at h
    cases h
   ·rw [if_neg hf] at h
    obtain ⟨n1, n2⟩ := uNext_more (show 0 < x by omega) hxy
    refine uStep_good f _ _ _ l n1 (asc_snoc _ _ _ ha (hd (by omega)) (by omega)) (by simp; omega) (fun hu => ?_) h
    rw [lastU_snoc]
    have := n2 hu
    omega
theorem units_good {x y : Nat} (hxy : x < y) {l : List Int} (h : uStep 10 [] x y = some l) : UnitsGood l := by
 obtain ⟨h1, h2⟩ := uStep_good 10 [] x y l hxy rfl (by simp) (fun h0 => by have := uD_two h0 hxy; show (1 : Int) < _; omega) h
 have hb := asc_bd l 1 (by omega) h1
 refine ⟨by simp [Un.okU, h1, h2], hb, h2, ?_⟩
 unfold uText
 split
 ·simp
 ·have := uPre_len l fun x hx => by
   have h3 := hb x hx
   have h4 := dec_size x (by omega) (by omega)
   have h5 : (dec x).size = (Lib.itoa x).length := by show (Lib.itoa x).toArray.size = _; simp
   omega
  omega
theorem uD_scale {g x y : Nat} (hg : 0 < g) (hx : 0 < x) (hy : 0 < y) : uD (g * x) (g * y) = uD x y := by
 obtain ⟨k, hk⟩ : ∃ k, uD x y = k := ⟨_, rfl⟩
 rw [hk]
 have e : uD x y = (y + x - 1) / x := rfl
 have h1 := Nat.div_add_mod (y + x - 1) x
 have h2 := Nat.mod_lt (y + x - 1) hx
 rw [← e, hk] at h1
 have a1 : x * k ≤ y + x - 1 := by omega
 have a2 : y + x ≤ x * k + x := by omega
 unfold uD
 have m1 := Nat.mul_le_mul_left g a1
 have m2 := Nat.mul_le_mul_left g a2
 have b1 : g * (y + x - 1) + g = g * y + g * x := by
  rw [← Nat.mul_succ, ← Nat.mul_add]
  congr 1
  omega
 rw [Nat.mul_add, Nat.mul_add] at m2
 have b2 : k * (g * x) = g * (x * k) := by rw [Nat.mul_comm x k, Nat.mul_left_comm]
 refine Nat.div_eq_of_lt_le ?_ ?_
 ·rw [b2]; omega
 ·rw [Nat.succ_mul, b2]; omega
theorem uNext_scale {g x y : Nat} (hg : 0 < g) (hx : 0 < x) (hy : 0 < y) : uUp (g * x) (g * y) = uUp x y ∧ uLow (g * x) (g * y) = uLow x y := by
 unfold uUp uLow
 rw [uD_scale hg hx hy]
 have e1 : g * x * uD x y - g * y = g * (x * uD x y - y) := by rw [Nat.mul_assoc, ← Nat.mul_sub]
 have e2 : g * y * uD x y = g * (y * uD x y) := Nat.mul_assoc _ _ _
 rw [e1, e2, Nat.gcd_mul_left]
 exact ⟨Nat.mul_div_mul_left _ _ hg, Nat.mul_div_mul_left _ _ hg⟩
theorem uStep_lowest {f x y g : Nat} (hg : 0 < g) (hy : 0 < y) (h1 : g * y ≤ 1000000000) (out : List Int) : uStep (f + 1) out (g * x) (g * y) = uStep (f + 1) out x y := by
 have hyg : y ≤ g * y := Nat.le_mul_of_pos_left _ hg
 by_cases hx : x = 0
 ·subst hx
  simp [uStep]
 ·have hx0 : 0 < x := by omega
  have hgx : ¬ g * x = 0 := by
   have := Nat.mul_pos hg hx0
   omega
  obtain ⟨e1, e2⟩ := uNext_scale hg hx0 hy
  unfold uStep
  rw [if_neg hgx, if_neg hx, uD_scale hg hx0 hy, e1, e2]
  have : (1000000000 < uD x y ∨ 1000000000 < g * y ∨ out.length = 8) ↔ (1000000000 < uD x y ∨ 1000000000 < y ∨ out.length = 8) := by omega
  simp only [this]
theorem uStep_big {f x y : Nat} {out : List Int} (hx : 0 < x) (hy : 1000000000 < y) : uStep f out x y = none := by
 cases f with
 | zero => rfl
 | succ f =>
  unfold uStep
  rw [if_neg (by omega), if_pos (.inr (.inl hy))]
theorem uLow_one {x y : Nat} (h : uUp x y = 0) (hx : 0 < x) (hxy : x < y) : uLow x y = 1 := by
 obtain ⟨h1, h2, h3, h4⟩ := uD_bd hx (show 1 ≤ y by omega)
 have hq : 0 < y * uD x y := Nat.mul_pos (by omega) (by omega)
 have hp : x * uD x y - y = 0 := by
  have hg := Nat.gcd_pos_of_pos_right (x * uD x y - y) hq
  have e := Nat.div_mul_cancel (Nat.gcd_dvd_left (x * uD x y - y) (y * uD x y))
  have : (x * uD x y - y) / Nat.gcd (x * uD x y - y) (y * uD x y) = 0 := h
  rw [this] at e
  omega
 unfold uLow
 rw [hp, Nat.gcd_zero_left]
 exact Nat.div_self hq
theorem UnitsOf_in (up low : Nat) (h1 : 1 ≤ low) (h2 : low ≤ 10000) (h3 : up < low) (w : World) :
  Calls Tryz.prog 201 #[.int .i64 (up : Int), .int .i64 (low : Int)] w (UnitsPost (uStep 10 [] up low) w) := by
 have hg := Nat.gcd_pos_of_pos_right up (show 0 < low by omega)
 have e1 := Nat.div_mul_cancel (Nat.gcd_dvd_left up low)
 have e2 := Nat.div_mul_cancel (Nat.gcd_dvd_right up low)
 have HC := Hd (lowest_any up low (by omega) (by omega) h1 (w.alloc (.cells #[] 3)))
 obtain ⟨g, hgg⟩ : ∃ g, Nat.gcd up low = g := ⟨_, rfl⟩
 obtain ⟨x, hx⟩ : ∃ x, up / Nat.gcd up low = x := ⟨_, rfl⟩
 obtain ⟨y, hy⟩ : ∃ y, low / Nat.gcd up low = y := ⟨_, rfl⟩
 rw [hx] at HC e1
 rw [hy] at HC e2
 rw [hgg] at hg e1 e2
 have hy0 : 0 < y := by
  rcases Nat.eq_zero_or_pos y with h | h
  ·rw [h] at e2; omega
  ·exact h
 have hR : uStep 10 [] up low = uStep 10 [] x y := by
  rw [← e1, ← e2, Nat.mul_comm x g, Nat.mul_comm y g]
  exact uStep_lowest hg hy0 (by rw [Nat.mul_comm]; omega) []
 rw [hR]
 have hxy : x < y := by
  refine Nat.lt_of_mul_lt_mul_right (a := g) ?_
  omega
 have hyl : y ≤ 10000 := by
  have : y * 1 ≤ y * g := Nat.mul_le_mul_left _ hg
  omega
 have u1 : ¬ (low : Int) < 1 := by omega
 have u2 : ¬ (low : Int) > 10000 := by omega
 have u3 : ¬ (up : Int) < 0 := by omega
 have u4 : ¬ (up : Int) ≥ (low : Int) := by omega
 clear hg e1 e2 hx hy hgg hR
 go_enter Tryz.func201, Tryz.ntmps201
 go_wp2_with fail
 refine HC.out.mono ?_
 rintro e w1 ⟨rfl, hb1⟩
 have H0 := Hd ((lit_nil w).next hb1)
 have HB0 := Hd (((Below.refl w.heap.size w).alloc (Nat.le_refl _) (.cells #[] 3)).trans (hb1.mono (by simp)))
 clear hb1 HC
 go_wp2_with fail
 go_loopw [0, 1, 6] (fun uv lv ov wr => ∃ (x' y' s cp f : Nat) (A : Option Addr) (out : List Int), uv = .int .i64 (x' : Int) ∧ lv = .int .i64 (y' : Int) ∧ ov = .slice A s cp ∧ s + f = 10 ∧ s ≤ 8 ∧ x' < y' ∧ x' ≤ 10000 ∧ y' ≤ 1000000000 ∧ Un.asc 1 out = true ∧ (0 < x' → lastU 1 out < (uD x' y' : Int)) ∧ uStep f out x' y' = uStep 10 [] x y ∧ Own wr w.heap.size A s cp out ∧ Below w.heap.size w wr) (fun uv _ _ _ => (intOf uv).toNat)
 case atStart => exact ⟨x, y, 0, 0, 10, _, [], rfl, rfl, rfl, rfl, by omega, hxy, by omega, by omega, rfl, fun h0 => by have := uD_two h0 hxy; show (1 : Int) < _; omega, rfl, H0.out, HB0.out⟩
 case round =>
  clear H0 HB0
  obtain ⟨R, hRR⟩ : ∃ R, uStep 10 [] x y = R := ⟨_, rfl⟩
  rw [hRR] at hrel
  obtain ⟨x, y, s, cp, f, A, out, rfl, rfl, rfl, hf, hs, hxy, hx4, hy9, ha, hd, hst, ho, hb⟩ := hrel
  obtain ⟨f, rfl⟩ : ∃ f', f = f' + 1 := ⟨f - 1, by omega⟩
  have hlen := ho.len
  have HO := Hd ho
  have HB := Hd hb
  have hsz := hb.size
  clear ho hb
  unfold uStep at hst
  by_cases h0 : x = 0
  ·subst h0
   rw [if_pos rfl] at hst
   have HS := Hd hst
   clear hst
   go_wp2_with fail
   go_ret2
   exact ⟨.inl ⟨out, _, _, _, by rw [hRR]; exact HS.out.symm, rfl, HO.out⟩, HB.out⟩
  ·rw [if_neg h0] at hst
   obtain ⟨d1, d2, d3, d4⟩ := uD_bd (show 0 < x by omega) (show 1 ≤ y by omega)
   obtain ⟨n1, n2⟩ := uNext_more (show 0 < x by omega) hxy
   obtain ⟨e1, e2, e3⟩ := uNext_bd (show 0 < x by omega) (show 1 ≤ y by omega)
   have q1 : Int.tdiv ((y : Int) + (x : Int) - 1) (x : Int) = (uD x y : Int) := by
    have : (y : Int) + (x : Int) - 1 = ((y + x - 1 : Nat) : Int) := by omega
    rw [this]; rfl
   have hone := fun h => uLow_one (x := x) (y := y) h (by omega) hxy
   have hu : uUp x y = (x * uD x y - y) / Nat.gcd (x * uD x y - y) (y * uD x y) := rfl
   have hv : uLow x y = y * uD x y / Nat.gcd (x * uD x y - y) (y * uD x y) := rfl
   have hasc := asc_snoc out 1 (uD x y : Int) ha (hd (by omega)) (by omega)
   obtain ⟨d, hdd⟩ : ∃ d, uD x y = d := ⟨_, rfl⟩
   obtain ⟨X, hX⟩ : ∃ X, uUp x y = X := ⟨_, rfl⟩
   obtain ⟨Y, hY⟩ : ∃ Y, uLow x y = Y := ⟨_, rfl⟩
   rw [hX] at hst n1 n2 e1 hu hone
   rw [hY] at hst n1 n2 e2 e3 hv hone
   rw [hdd] at hst n2 e3 hu hv d1 d2 d3 d4 q1 hasc
   have hxd : x * d ≤ 10000 * 1000000000 := Nat.mul_le_mul hx4 (by omega)
   have hyd : y * d ≤ 1000000000 * 1000000000 := Nat.mul_le_mul (by omega) (by omega)
   obtain ⟨p, hp⟩ : ∃ p, x * d - y = p := ⟨_, rfl⟩
   obtain ⟨q, hq⟩ : ∃ q, y * d = q := ⟨_, rfl⟩
   have hq1 : 1 ≤ q := by rw [← hq]; exact Nat.mul_pos (by omega) d2
   have cxd : (x : Int) * (d : Int) = ((x * d : Nat) : Int) := by simp
   have m1 : IntKind.i64.wrap ((x : Int) * (d : Int)) = (x : Int) * (d : Int) := by rw [cxd]; exact IntWalk.i64_in _ (by omega)
   have m2 : (x : Int) * (d : Int) - (y : Int) = (p : Int) := by rw [cxd]; omega
   have m3 : IntKind.i64.wrap (p : Int) = (p : Int) := IntWalk.i64_in _ (by omega)
   have m4 : (y : Int) * (d : Int) = (q : Int) := by rw [← hq]; simp
   have m5 : IntKind.i64.wrap (q : Int) = (q : Int) := IntWalk.i64_in _ (by omega)
   have v1 : IntKind.i64.wrap (d : Int) = (d : Int) := IntWalk.i64_in _ (by omega)
   have HC := Hd (fun w => lowest_any p q (by omega) (by omega) hq1 w)
   rw [hp, hq] at hu hv
   rw [← hu, ← hv] at HC
   have hxI : ¬ (x : Int) = 0 := by omega
   have hxP : (0 : Int) < (x : Int) := by omega
   have hx4I : (x : Int) ≤ 10000 := by omega
   have hy4I : (y : Int) ≤ 1000000000 := by omega
   have hy5I : (1 : Int) ≤ (y : Int) := by omega
   have HN := Hd (And.intro hst (And.intro n1 (And.intro n2 (And.intro e1 (And.intro hone (And.intro hasc hlen))))))
   have hYq : Y ≤ q := by omega
   clear hst n1 n2 e1 e2 e3 hone hasc hu hv hX hY hdd hp hq cxd hxd hyd ha hd d2 d3 d4 hlen
   go_wp2_with (at_builtin; refine wpList_app rfl _ _ rfl rfl HO.out [(d : Int)] 1 rfl _ rfl _ rfl (by omega) hsz ?_; intro A1 c1 w2 hown1 hg1)
   have HB1 := Hd (below_step HB.out hg1 HO.out hsz)
   have HO1 := Hd hown1
   refine (HC.out _).mono ?_
   rintro e w3 ⟨rfl, hb3⟩
   have HO2 := Hd (HO1.out.next hb3)
   have HB2 := Hd (HB1.out.trans (hb3.mono HB1.out.size))
   clear hb3 hown1
   obtain ⟨k1, k2, k3, k4, k5, k6, k7⟩ := HN.out
   by_cases hY9 : 1000000000 < Y
   ·have hYI : (Y : Int) > 1000000000 := by omega
    have hX0 : 0 < X := by
     rcases Nat.eq_zero_or_pos X with h | h
     ·have := k5 h; omega
     ·exact h
    have hRn : R = none := by
     rw [← k1]
     split
     ·rfl
     ·exact uStep_big hX0 hY9
    have HRN := Hd hRn
    clear k1 k2 k3 k4 k5 k6 k7 hRn hX0
    go_wp2_with fail
    go_ret2
    exact ⟨.inr ⟨by rw [hRR]; exact HRN.out, _, _, _, rfl, Own.nil _ _⟩, HB2.out⟩
   ·have hYI : ¬ (Y : Int) > 1000000000 := by omega
    have hval := UnitsValid_is (c := c1) HO2.out.ints (r := !decide (s = 8)) (by
     have : (out ++ [(d : Int)]).length = s + 1 := by simp; omega
     simp only [Un.okU, k6, this, Bool.and_true]
     rcases Nat.lt_or_ge s 8 with h | h
     ·have : ¬ s = 8 := by omega
      simp [this]; omega
     ·have : s = 8 := by omega
      simp [this])
    have HVAL := Hd hval
    clear hval
    by_cases h8 : s = 8
    ·have hRn : R = none := by
      rw [← k1, if_pos (.inr (.inr (by omega)))]
     have HRN := Hd hRn
     subst h8
     have hv := HVAL.out
     simp only [decide_true, Bool.not_true] at hv
     have HV := Hd hv
     clear k1 k2 k3 k4 k5 k6 k7 hRn hv HVAL
     go_wp2_with fail
     refine HV.out.mono ?_
     rintro e w4 ⟨rfl, hb4⟩
     have HB4 := Hd (HB2.out.trans (hb4.mono HB2.out.size))
     clear hb4
     go_wp2_with fail
     go_ret2
     exact ⟨.inr ⟨by rw [hRR]; exact HRN.out, _, _, _, rfl, Own.nil _ _⟩, HB4.out⟩
    ·have hRs : uStep f (out ++ [(d : Int)]) X Y = R := by
      rw [← k1, if_neg (by omega)]
     have hv := HVAL.out
     rw [decide_eq_false h8] at hv
     simp only [Bool.not_false] at hv
     have HV := Hd hv
     have HK := Hd (And.intro hRs (And.intro k2 (And.intro k3 (And.intro k4 k6))))
     clear k1 k2 k3 k4 k5 k6 k7 hRs hv HVAL
     go_wp2_with fail
     refine HV.out.mono ?_
     rintro e w4 ⟨rfl, hb4⟩
     have HB4 := Hd (HB2.out.trans (hb4.mono HB2.out.size))
     have HO4 := Hd (HO2.out.next hb4)
     clear hb4
     go_wp2_with fail
     have hk := HK.out
     exact ⟨⟨X, Y, s + 1, c1, f, A1, out ++ [(d : Int)], rfl, rfl, rfl, by omega, by omega, hk.2.1, by omega, by omega, hk.2.2.2.2, fun h => by rw [lastU_snoc]; have := hk.2.2.1 h; omega, by rw [hRR]; exact hk.1, HO4.out, HB4.out⟩, by simp [intOf]; omega⟩
def uW (x : Int) : ByteArray := ⟨#[49, 47]⟩ ++ dec x
theorem uW_list (x : Int) : (uW x).data.toList = [49, 47] ++ Lib.itoa x := by
 show (bs [49, 47] ++ bs (Lib.itoa x)).data.toList = _
 rw [bs_append, bs_list]
theorem uFold_join : ∀ (l : List Int) (o : List UInt8), o ≠ [] → l.foldl uStepT o = o ++ Lib.joinTail [32, 43, 32] ((l.map uW).map (·.data.toList))
 | [], o, _ => by simp [Lib.joinTail]
 | x :: l, o, h => by
  have h1 : uStepT o x = o ++ ([32, 43, 32] ++ ([49, 47] ++ Lib.itoa x)) := by
   rw [uStepT, if_neg h]
   simp
  rw [List.foldl_cons, uFold_join l (uStepT o x) (by rw [h1]; simp), h1]
  simp [Lib.joinTail, uW_list]
theorem join_uPre : ∀ l : List Int, Lib.join ((l.map uW).map (·.data.toList)) [32, 43, 32] = uPre l
 | [] => rfl
 | x :: l => by
  rw [List.map_cons, List.map_cons, Lib.join_cons]
  show _ = l.foldl uStepT (uStepT [] x)
  have h1 : uStepT [] x = [49, 47] ++ Lib.itoa x := by simp [uStepT]
  rw [uFold_join l _ (by rw [h1]; simp), h1, uW_list]
theorem UnitsText_yes (A : Option Addr) (n c : Nat) (l : List Int) (w : World) (hx : Ints w w.heap.size A n l) (hok : Un.okU l = true) (hb : ∀ x ∈ l, 0 ≤ x ∧ x ≤ 1000000000) (hn : n ≤ 8) (hp : Pow w.heap.size w) :
  Calls Tryz.prog 202 #[.slice A n c] w fun e w' => e = .returned (.string (bs (uText l))) ∧ Below w.heap.size w w' := by
 have hl := hx.len
 have HU := Hd (unitsOf_yes (c := c) hx hok)
 have HP := Hd hp
 have HBD := Hd hb
 have HLN := Hd hl
 clear hx hok hb hp hl
 go_enter Tryz.func202, Tryz.ntmps202
 go_wp2_with fail
 refine HU.out.mono ?_
 rintro e w1 ⟨⟨p, rfl, hc⟩, hb1⟩
 have HB1 := Hd hb1
 have hsz1 := hb1.size
 clear hb1 HU
 cases l with
 | nil =>
  obtain rfl : p = none := hc.isNil
  go_wp2_with fail
  go_ret
  exact ⟨rfl, HB1.out⟩
 | cons x0 l0 =>
  obtain ⟨b0, rfl, -⟩ := hc.head
  obtain ⟨l, hlq⟩ : ∃ l, x0 :: l0 = l := ⟨_, rfl⟩
  have hT : uText (x0 :: l0) = uPre l := by rw [← hlq]; rfl
  have hne : l ≠ [] := by rw [← hlq]; simp
  have HT := Hd hT
  rw [hlq] at hc HBD HLN
  clear hT
  obtain ⟨ns, hs, -, -, hv⟩ := hc
  have HS := Hd hs
  have HV := Hd hv
  have HNE := Hd hne
  clear hs hv hne
  go_wp2_with fail
  go_loopw [5, 6] (fun sv uv wr => ∃ (q S : Option Addr) (cc : Nat) (dn : List Int) (r : List (Nat × Int)), uv = .pointer q ∧ sv = .slice S dn.length cc ∧ OwnR wr w1.heap.size 9 1 S dn.length cc (SV (dn.map uW)) ∧ Seg w1 q r none ∧ dn ++ vals r = l ∧ Below w1.heap.size w1 wr) (fun _ uv _ => lenOf w1 (ptrOf uv))
  case atStart => exact ⟨some ⟨b0, 0, none⟩, none, 0, [], ns, rfl, rfl, ⟨World.ownsRow_nil _ _ _ _, by simp⟩, HS.out, HV.out, Below.refl _ _⟩
  case round =>
   clear HS HV
   obtain ⟨q, S, cc, dn, r, rfl, rfl, hown, hseg, heq, hb⟩ := hrel
   have hsz := hb.size
   have hlen : dn.length ≤ 8 := by have := HLN.out; rw [← heq, List.length_append] at this; omega
   have HO := Hd hown
   have HEQ := Hd heq
   have HB := Hd hb
   clear hown heq hb
   cases r with
   | nil =>
    obtain rfl : q = none := hseg
    have hdn : dn = l := by have := HEQ.out; simpa [vals] using this
    have hpos : 0 < dn.length := by
     rcases Nat.eq_zero_or_pos dn.length with h | h
     ·exact absurd (hdn ▸ List.eq_nil_of_length_eq_zero h) HNE.out
     ·exact h
    have ho := HO.out
    obtain ⟨bk, off, rfl, hbk, hcells⟩ := ho.row.2.2 hpos
    have hcap := ho.cap
    have hwl : (dn.map uW).length = dn.length := by simp
    have hj := Tryz.strings_Join bk off cc (dn.map uW) ⟨#[32, 43, 32]⟩ wr (fun j x h => hcells j _ (by simp only [SV, List.getElem?_map, h, Option.map_some])) hbk (by rw [hwl]; omega) (by rw [hwl]; omega) (by
     show (Lib.join ((dn.map uW).map (·.data.toList)) [32, 43, 32]).length ≤ _
     rw [join_uPre]
     have := uPre_len dn fun x hx => by
      have h3 := HBD.out x (hdn ▸ hx)
      have h4 := dec_size x (by omega) (by omega)
      have h5 : (dec x).size = (Lib.itoa x).length := by show (Lib.itoa x).toArray.size = _; simp
      omega
     omega)
    rw [hwl] at hj
    have hfin : (⟨(Lib.join ((dn.map uW).map (·.data.toList)) [32, 43, 32]).toArray⟩ : ByteArray) = bs (uPre dn) := by rw [join_uPre]; rfl
    have hjj : Calls Tryz.prog _ _ wr (fun e w' => e = .returned (.string (bs (uPre dn))) ∧ Below wr.heap.size wr w') := hj.mono fun e w' h => ⟨h.1.trans (congrArg (fun s => Ending.returned (Value.string s)) hfin), h.2⟩
    have HJ := Hd hjj
    clear ho hcells hcap hwl hj hjj hfin
    subst hdn
    go_wp2_with fail
    refine HJ.out.mono ?_
    rintro e w4 ⟨rfl, hb4⟩
    have HB4 := Hd (HB1.out.trans ((HB.out.trans (hb4.mono hsz)).mono hsz1))
    clear hb4
    go_wp2_with fail
    go_ret
    exact ⟨by rw [HT.out]; rfl, HB4.out⟩
   | cons z r =>
    obtain ⟨b, x⟩ := z
    have hm1 := lenOf_is hseg
    obtain ⟨rfl, m, hnd, hseg2⟩ := hseg
    have hlt := hnd.lt
    have c0 := (HB.out.cell (p := ⟨b, 0, none⟩) hlt).trans hnd.cell0
    have HN := Hd hnd
    have hm2 := lenOf_is hseg2
    have HS2 := Hd hseg2
    have hxb := HBD.out x (by rw [← HEQ.out]; simp [vals])
    have hz := dec_size x (by omega) (by omega)
    have hl1 := no_long (n := 2) (by omega) (dec x).size (by omega)
    have HPW := Hd (HP.out.below (HB1.out.trans (HB.out.mono hsz1)))
    clear hnd hseg2
    go_wp2_with fail
    refine (Itoa_any HPW.out x (by omega) (by omega)).mono ?_
    rintro e w3 ⟨rfl, hb3⟩
    have ho3 := HO.out.next hb3
    have hbl3 := HB.out.trans (hb3.mono hsz)
    have hs3 := hbl3.size
    have c1 := (hbl3.cell (p := ⟨b, 1, none⟩) hlt).trans HN.out.cell1
    clear hb3
    have hdl : (dn ++ [x]).length = dn.length + 1 := by simp
    have HDL := Hd hdl
    clear hdl
    go_wp2_with (at_builtin; refine wpList_app_s rfl _ _ rfl rfl ho3 (⟨#[49, 47]⟩ ++ dec x) 1 rfl _ rfl (by omega) hs3 ?_; intro A5 c5 w5 hown5 hg5; have HB5 := Hd (hbl3.grown hg5 hs3 (fun q hq => (ho3.blk q hq).1)); have c2 := (HB5.out.cell (p := ⟨b, 1, none⟩) hlt).trans HN.out.cell1)
    go_roundw
    case rel => exact ⟨m, A5, c5, dn ++ [x], r, rfl, by rw [HDL.out], by rw [HDL.out, List.map_append]; exact hown5, HS2.out, by rw [← HEQ.out, vals_cons]; simp, HB5.out⟩
    case measure => simp only [ptrOf]; rw [hm1, hm2]; simp
def lowN (a : Nat) : Bool := decide (a ≤ 999999)
def timesT (a b : Nat) : ByteArray := if (lowN a && lowN b) = true then bs (Lib.itoa ((a * b : Nat) : Int)) ++ ⟨#[10]⟩ else noT
theorem times_yes (B0 tb : Nat) (bds ds : List Int) (ts : List Tl) (a b : Nat) (ha : a ≤ 999999) (hb : b ≤ 999999) (A0 : Option Addr) (n0 : Nat) (w : World) (hnum : Own w B0 A0 2 n0 [(a : Int), (b : Int)]) (h : Tab B0 w tb bds ds ts) (hw : B0 ≤ w.heap.size) (hp : Pow B0 w) :
  Calls Tryz.prog 164 #[.pointer (some ⟨tb, 0, none⟩), .slice A0 2 n0] w (CmdPost B0 (Tell B0 tb bds ds ts (bs (Lib.itoa ((a * b : Nat) : Int)))) w) := by
 obtain ⟨g, rfl, _, hg, hcell, _⟩ := hnum.at_ (by omega)
 have d0 := hcell 0 (a : Int) rfl
 have d1 := hcell 1 (b : Int) rfl
 have hmul : a * b ≤ 999999 * 999999 := Nat.mul_le_mul ha hb
 have hz1 := dec_size ((a * b : Nat) : Int) (by omega) (by omega)
 have hl3 := no_long (n := (dec ((a * b : Nat) : Int)).size) (by omega) 1 (by omega)
 have HT := Hd h
 have HW := Hd hw
 have HP := Hd hp
 obtain ⟨M, hM⟩ : ∃ M, a * b = M := ⟨_, rfl⟩
 have HM := Hd (show (a : Int) * (b : Int) = (M : Int) by rw [← hM]; simp)
 rw [hM] at hmul hl3 ⊢
 clear h hw hp hnum hcell hz1 hM
 go_enter Tryz.func164, Tryz.ntmps164
 go_wp2_with fail
 refine (NumeralOf_yes a (by omega) _).mono ?_
 rintro e w1 ⟨A1, n1, c1, ds1, rfl, hn1, ho1, hb1⟩
 have HB1 := Hd hb1
 have e1 := (HB1.out.cell (p := ⟨g, 1, none⟩) hg).trans d1
 have HO1 := Hd ho1.ints
 have hsz1 := hb1.size
 clear hb1 ho1
 go_wp2_with fail
 refine (NumeralOf_yes b (by omega) _).mono ?_
 rintro e w2 ⟨A2, n2, c2, ds2, rfl, hn2, ho2, hb2⟩
 have HB2 := Hd (below_chain HB1.out hb2)
 have HO2 := Hd (And.intro (HO1.out.next hb2) ho2.ints)
 clear hb2 ho2
 go_wp2_with fail
 refine (LatticeTimes_yes _ _ _ _ _ _ ds1 ds2 _ HO2.out.1 HO2.out.2 hn1.1 hn2.1).mono ?_
 rw [hn1.2, hn2.2]
 rw [HM.out]
 rintro e w3 ⟨rfl, hb3⟩
 have HB3 := Hd (below_chain HB2.out hb3)
 clear hb3 hn1 hn2
 go_wp2_with fail
 refine (Itoa_any (HP.out.below (HB3.out.mono HW.out)) (M : Int) (by omega) (by omega)).mono ?_
 rintro e w4 ⟨rfl, hb4⟩
 have HB4 := Hd (HB3.out.trans (hb4.mono HB3.out.size))
 clear hb4
 go_wp2_with fail
 refine bodyPost_ret (v := .tuple #[.string (dec (M : Int) ++ ⟨#[10]⟩), .bool true]) (by simp [results, Tryz.results164, go_sem]) rfl ?_
 exact ⟨_, _, rfl, ⟨rfl, rfl, HT.out.next HB4.out⟩, KeptT.of_below HB4.out⟩
theorem times_no (B0 tb : Nat) (bds ds : List Int) (ts : List Tl) (a b : Nat) (h : (lowN a && lowN b) = false) (A0 : Option Addr) (n0 : Nat) (w : World) (hnum : Own w B0 A0 2 n0 [(a : Int), (b : Int)]) (ht : Tab B0 w tb bds ds ts) :
  Calls Tryz.prog 164 #[.pointer (some ⟨tb, 0, none⟩), .slice A0 2 n0] w (CmdPost B0 (fun _ ok w' => ok = false ∧ Tab B0 w' tb bds ds ts) w) := by
 obtain ⟨g, rfl, _, hg, hcell, _⟩ := hnum.at_ (by omega)
 have d0 := hcell 0 (a : Int) rfl
 have d1 := hcell 1 (b : Int) rfl
 have HT := Hd ht
 have HG := Hd h
 clear ht hnum hcell h
 by_cases hla : a ≤ 999999
 ·have hlb : ¬ b ≤ 999999 := fun hb => by have := HG.out; simp [lowN, hla, hb] at this
  go_enter Tryz.func164, Tryz.ntmps164
  go_wp2_with fail
  refine (NumeralOf_yes a (by omega) _).mono ?_
  rintro e w1 ⟨A1, n1, c1, ds1, rfl, hn1, ho1, hb1⟩
  have HB1 := Hd hb1
  have e1 := (HB1.out.cell (p := ⟨g, 1, none⟩) hg).trans d1
  clear hb1 ho1 hn1
  go_wp2_with fail
  refine (NumeralOf_no b (.inr (by omega)) _).mono ?_
  rintro e w2 ⟨rfl, rfl⟩
  go_wp2_with fail
  refine bodyPost_ret (v := .tuple #[.string ⟨#[]⟩, .bool false]) (by simp [results, Tryz.results164, go_sem]) rfl ?_
  exact ⟨_, _, rfl, ⟨rfl, HT.out.next HB1.out⟩, KeptT.of_below HB1.out⟩
 ·go_enter Tryz.func164, Tryz.ntmps164
  go_wp2_with fail
  refine (NumeralOf_no a (.inr (by omega)) _).mono ?_
  rintro e w1 ⟨rfl, rfl⟩
  go_wp2_with fail
  by_cases hlb : b ≤ 999999
  ·refine (NumeralOf_yes b (by omega) _).mono ?_
   rintro e w2 ⟨A1, n1, c1, ds1, rfl, hn1, ho1, hb1⟩
   have HB1 := Hd hb1
   clear hb1 ho1 hn1
   go_wp2_with fail
   refine bodyPost_ret (v := .tuple #[.string ⟨#[]⟩, .bool false]) (by simp [results, Tryz.results164, go_sem]) rfl ?_
   exact ⟨_, _, rfl, ⟨rfl, HT.out.next HB1.out⟩, KeptT.of_below HB1.out⟩
  ·refine (NumeralOf_no b (.inr (by omega)) _).mono ?_
   rintro e w2 ⟨rfl, rfl⟩
   go_wp2_with fail
   refine bodyPost_ret (v := .tuple #[.string ⟨#[]⟩, .bool false]) (by simp [results, Tryz.results164, go_sem]) rfl ?_
   exact ⟨_, _, rfl, ⟨rfl, HT.out⟩, KeptT.of_below (Below.refl _ _)⟩
theorem does_times2 (s : St) (a b : Nat) : CmdDoes 164 [(a : Int), (b : Int)] s (timesT a b) s := by
 refine ⟨fun args w => by simp [go_sem], fun B0 tb w A n0 hnum ht hw hp => ?_⟩
 by_cases h : (lowN a && lowN b) = true
 ·have h' := h
  simp [lowN] at h'
  refine (times_yes B0 tb s.bs s.ds s.ts a b h'.1 h'.2 A n0 w hnum ht hw hp).mono fun e w' h2 => ?_
  obtain ⟨t, ok, rfl, ⟨rfl, rfl, h3⟩, hk⟩ := h2
  exact ⟨_, _, rfl, ⟨by rw [timesT, if_pos h]; rfl, h3⟩, hk⟩
 ·have h' : (lowN a && lowN b) = false := by simpa using h
  refine (times_no B0 tb s.bs s.ds s.ts a b h' A n0 w hnum ht).mono fun e w' h2 => ?_
  obtain ⟨t, ok, rfl, ⟨rfl, h3⟩, hk⟩ := h2
  exact ⟨_, _, rfl, ⟨by rw [timesT, if_neg h]; rfl, h3⟩, hk⟩
theorem specNumeralOf_any (a : Nat) (w : World) : Calls Tryz.prog 179 #[.int .i64 (a : Int)] w fun e w' => ∃ A n c ds, e = .returned (.tuple #[.slice A n c, .bool (lowN a)]) ∧ Own w' w.heap.size A n c ds ∧ okN ds = lowN a ∧ (lowN a = true → Fr.val ds.reverse = (a : Int)) ∧ Below w.heap.size w w' := by
 by_cases h : a ≤ 999999
 ·have hl : lowN a = true := by simp [lowN, h]
  refine (specNumeralOf_yes a (by omega) w).mono ?_
  rintro e w' ⟨A, n, c, ds, rfl, hn, ho, hb⟩
  exact ⟨A, n, c, ds, by rw [hl], ho, by rw [hl]; exact hn.1, fun _ => hn.2, hb⟩
 ·have hl : lowN a = false := by simp [lowN, h]
  refine (specNumeralOf_no (a : Int) (.inr (by omega)) w).mono ?_
  rintro e w' ⟨A, n, c, rfl, ho, rfl, hb⟩
  exact ⟨A, 0, c, [], by rw [hl], ho, by rw [hl]; decide, fun e => (by rw [hl] at e; cases e), hb⟩
theorem l9Times_any (a b : Nat) (w : World) : Calls Tryz.prog 138 #[.int .i64 (a : Int), .int .i64 (b : Int)] w fun e w' => e = .returned (.string (timesT a b)) ∧ Below w.heap.size w w' := by
 go_enter Tryz.func138, Tryz.ntmps138
 go_wp2_with fail
 refine (specNumeralOf_any a _).mono ?_
 rintro e w1 ⟨A1, n1, c1, ds1, rfl, ho1, hk1, hv1, hb1⟩
 have HB1 := Hd hb1
 have HO1 := Hd ho1.ints
 clear hb1 ho1
 go_wp2_with fail
 refine (specNumeralOf_any b _).mono ?_
 rintro e w2 ⟨A2, n2, c2, ds2, rfl, ho2, hk2, hv2, hb2⟩
 have HB2 := Hd (below_chain HB1.out hb2)
 have HO2 := Hd (And.intro (HO1.out.next hb2) ho2.ints)
 clear hb2 ho2
 have HK := Hd (And.intro hk1 (And.intro hk2 (And.intro hv1 hv2)))
 clear hk1 hk2 hv1 hv2
 rcases hla : lowN a with _ | _
 ·have HTT := Hd (show timesT a b = noT by simp [timesT, hla])
  have hno := specLatticeTimes_no A1 A2 n1 c1 n2 c2 ds1 ds2 w2 HO2.out.1 HO2.out.2 (by rw [HK.out.1, hla]; rfl)
  have HNO := Hd hno
  clear hno hla
  go_wp2_with fail
  refine HNO.out.mono ?_
  rintro e w3 ⟨rfl, hb3⟩
  have HB3 := Hd (below_chain HB2.out hb3)
  clear hb3
  go_wp2_with fail
  refine (l6Dec_m1 _).mono ?_
  rintro e w4 ⟨t, rfl, _, hb4⟩
  have HB4 := Hd (below_chain HB3.out hb4)
  clear hb4
  go_wp2_with fail
  refine (l9Said_no _ _).mono ?_
  rintro e w5 ⟨rfl, rfl⟩
  go_wp2_with fail
  go_ret
  exact ⟨by rw [HTT.out]; rfl, HB4.out⟩
 ·rcases hlb : lowN b with _ | _
  ·have HTT := Hd (show timesT a b = noT by simp [timesT, hlb])
   have hno := specLatticeTimes_no A1 A2 n1 c1 n2 c2 ds1 ds2 w2 HO2.out.1 HO2.out.2 (by rw [HK.out.1, HK.out.2.1, hla, hlb]; rfl)
   have HNO := Hd hno
   clear hno hla hlb
   go_wp2_with fail
   refine HNO.out.mono ?_
   rintro e w3 ⟨rfl, hb3⟩
   have HB3 := Hd (below_chain HB2.out hb3)
   clear hb3
   go_wp2_with fail
   refine (l6Dec_m1 _).mono ?_
   rintro e w4 ⟨t, rfl, _, hb4⟩
   have HB4 := Hd (below_chain HB3.out hb4)
   clear hb4
   go_wp2_with fail
   refine (l9Said_no _ _).mono ?_
   rintro e w5 ⟨rfl, rfl⟩
   go_wp2_with fail
   go_ret
   exact ⟨by rw [HTT.out]; rfl, HB4.out⟩
  ·have ha : a ≤ 999999 := by simpa [lowN] using hla
   have hb : b ≤ 999999 := by simpa [lowN] using hlb
   have hmul : a * b ≤ 999999 * 999999 := Nat.mul_le_mul ha hb
   have hyes := specLatticeTimes_yes A1 A2 n1 c1 n2 c2 ds1 ds2 w2 HO2.out.1 HO2.out.2 (by rw [HK.out.1, hla]) (by rw [HK.out.2.1, hlb])
   rw [HK.out.2.2.1 hla, HK.out.2.2.2 hlb, show (a : Int) * (b : Int) = ((a * b : Nat) : Int) by simp] at hyes
   have HTT := Hd (show timesT a b = dec ((a * b : Nat) : Int) ++ ⟨#[10]⟩ by rw [timesT, hla, hlb]; rfl)
   have hz := dec_size ((a * b : Nat) : Int) (by omega) (by omega)
   obtain ⟨M, hM⟩ : ∃ M, a * b = M := ⟨_, rfl⟩
   rw [hM] at hyes hmul hz HTT
   have HYES := Hd hyes
   have HZ := Hd (show (dec (M : Int)).size ≤ 100000 by omega)
   clear hyes hla hlb hM hz
   go_wp2_with fail
   refine HYES.out.mono ?_
   rintro e w3 ⟨rfl, hb3⟩
   have HB3 := Hd (below_chain HB2.out hb3)
   clear hb3
   go_wp2_with fail
   refine (l6Dec_any M (by omega) _).mono ?_
   rintro e w4 ⟨rfl, hb4⟩
   have HB4 := Hd (below_chain HB3.out hb4)
   clear hb4
   go_wp2_with fail
   refine (l9Said_yes _ _ HZ.out).mono ?_
   rintro e w5 ⟨rfl, rfl⟩
   go_wp2_with fail
   go_ret
   exact ⟨by rw [HTT.out]; rfl, HB4.out⟩
def facs (a b : Nat) : Bool := fac (a : Int) && fac (b : Int)
theorem facs_yes {a b : Nat} (h : facs a b = true) : (1 ≤ a ∧ a ≤ 100000) ∧ 1 ≤ b ∧ b ≤ 100000 := by
 simp [facs, fac] at h
 omega
theorem facs_no {a b : Nat} (h : facs a b = false) : ¬ ((1 ≤ (a : Int) ∧ (a : Int) ≤ 100000) ∧ 1 ≤ (b : Int) ∧ (b : Int) ≤ 100000) := by
 intro h2
 have : facs a b = true := by simp [facs, fac]; omega
 rw [h] at this
 cases this
def dupV (a b : Nat) : Int := if facs a b = true then ((a * b : Nat) : Int) else -1
theorem specDupTimes_all (a b : Nat) (w : World) : Calls Tryz.prog 34 #[.int .i64 (a : Int), .int .i64 (b : Int)] w fun e w' => e = .returned (.int .i64 (dupV a b)) ∧ Below w.heap.size w w' := by
 unfold dupV
 by_cases h : facs a b = true
 ·rw [if_pos h]
  obtain ⟨⟨h1, h2⟩, h3, h4⟩ := facs_yes h
  exact specDupTimes_yes a b w h1 h2 h3 h4
 ·rw [if_neg h]
  exact specDupTimes_no a b w (facs_no (by simpa using h))
def doubleT (a b : Nat) : ByteArray := if facs a b = true then bs (Lib.itoa ((a * b : Nat) : Int)) ++ ⟨#[10]⟩ else noT
theorem double_no (B0 tb : Nat) (bds ds : List Int) (ts : List Tl) (a b : Nat) (h : facs a b = false) (A0 : Option Addr) (n0 : Nat) (w : World) (hnum : Own w B0 A0 2 n0 [(a : Int), (b : Int)]) (ht : Tab B0 w tb bds ds ts) :
  Calls Tryz.prog 165 #[.pointer (some ⟨tb, 0, none⟩), .slice A0 2 n0] w (CmdPost B0 (fun _ ok w' => ok = false ∧ Tab B0 w' tb bds ds ts) w) := by
 obtain ⟨g, rfl, _, hg, hcell, _⟩ := hnum.at_ (by omega)
 have d0 := hcell 0 (a : Int) rfl
 have d1 := hcell 1 (b : Int) rfl
 have HD := Hd (DupTimes_no (a : Int) (b : Int) w.drew h)
 have HT := Hd ht
 clear ht hnum hcell h
 go_enter Tryz.func165, Tryz.ntmps165
 go_wp2_with fail
 go_region_with (go_at_call 33; refine HD.out.mono ?_; rintro e w1 ⟨rfl, hb1'⟩; have HB1 := Hd ((Below.refl w.heap.size w).drew.trans hb1'); clear hb1')
 all_goals
  go_wp2_with fail
  refine bodyPost_ret (v := .tuple #[.string ⟨#[]⟩, .bool false]) (by simp [results, Tryz.results165, go_sem]) rfl ?_
  exact ⟨_, _, rfl, ⟨rfl, HT.out.next HB1.out⟩, KeptT.of_below HB1.out⟩
theorem does_double2 (s : St) (a b : Nat) : CmdDoes 165 [(a : Int), (b : Int)] s (doubleT a b) s := by
 by_cases h : facs a b = true
 ·obtain ⟨⟨h1, h2⟩, h3, h4⟩ := facs_yes h
  rw [doubleT, if_pos h]
  exact does_double s a b h1 h2 h3 h4
 ·have h' : facs a b = false := by simpa using h
  refine ⟨fun args w => by simp [go_sem], fun B0 tb w A n0 hnum ht hw hp => ?_⟩
  refine (double_no B0 tb s.bs s.ds s.ts a b h' A n0 w hnum ht).mono fun e w' h2 => ?_
  obtain ⟨t, ok, rfl, ⟨rfl, h3⟩, hk⟩ := h2
  exact ⟨_, _, rfl, ⟨by rw [doubleT, if_neg h]; rfl, h3⟩, hk⟩
theorem Pow.up {B C : Nat} {w : World} (h : Pow B w) (hc : B ≤ C) : Pow C w := fun w2 hb2 => h w2 (hb2.mono hc)
def unitsR (up low : Nat) : Option (List Int) := if 1 ≤ low ∧ low ≤ 10000 ∧ up < low then uStep 10 [] up low else none
theorem UnitsOf_out (up low : Nat) (h : ¬ (1 ≤ low ∧ low ≤ 10000 ∧ up < low)) (w : World) : Calls Tryz.prog 201 #[.int .i64 (up : Int), .int .i64 (low : Int)] w (UnitsPost none w) := by
 have u3 : ¬ (up : Int) < 0 := by omega
 by_cases h1 : low < 1
 ·have u1 : (low : Int) < 1 := by omega
  clear h
  go_enter Tryz.func201, Tryz.ntmps201
  go_wp2_with fail
  go_ret2
  exact ⟨.inr ⟨rfl, _, _, _, rfl, Own.nil _ _⟩, Below.refl _ _⟩
 ·by_cases h2 : 10000 < low
  ·have u1 : ¬ (low : Int) < 1 := by omega
   have u2 : (low : Int) > 10000 := by omega
   clear h
   go_enter Tryz.func201, Tryz.ntmps201
   go_wp2_with fail
   go_ret2
   exact ⟨.inr ⟨rfl, _, _, _, rfl, Own.nil _ _⟩, Below.refl _ _⟩
  ·have u1 : ¬ (low : Int) < 1 := by omega
   have u2 : ¬ (low : Int) > 10000 := by omega
   have u4 : (up : Int) ≥ (low : Int) := by omega
   clear h
   go_enter Tryz.func201, Tryz.ntmps201
   go_wp2_with fail
   go_ret2
   exact ⟨.inr ⟨rfl, _, _, _, rfl, Own.nil _ _⟩, Below.refl _ _⟩
theorem UnitsOf_all (up low : Nat) (w : World) : Calls Tryz.prog 201 #[.int .i64 (up : Int), .int .i64 (low : Int)] w (UnitsPost (unitsR up low) w) := by
 unfold unitsR
 by_cases h : 1 ≤ low ∧ low ≤ 10000 ∧ up < low
 ·rw [if_pos h]; exact UnitsOf_in up low h.1 h.2.1 h.2.2 w
 ·rw [if_neg h]; exact UnitsOf_out up low h w
theorem unitsR_good {up low : Nat} {l : List Int} (h : unitsR up low = some l) : UnitsGood l := by
 unfold unitsR at h
 split at h
 ·rename_i h3
  exact units_good h3.2.2 h
 ·cases h
theorem UnitsPost.one {R : Option (List Int)} {w w' : World} {e : Ending} (h : UnitsPost R w e w') : ∃ ok l A n c, e = .returned (.tuple #[.slice A n c, .bool ok]) ∧ Own w' w.heap.size A n c l ∧ (ok = true → R = some l) ∧ (ok = false → R = none) ∧ Below w.heap.size w w' := by
 obtain ⟨⟨l, A, n, c, hR, rfl, ho⟩ | ⟨hR, A, n, c, rfl, ho⟩, hb⟩ := h
 ·exact ⟨true, l, A, n, c, rfl, ho, fun _ => hR, (fun h => by cases h), hb⟩
 ·exact ⟨false, [], A, n, c, rfl, ho, (fun h => by cases h), fun _ => hR, hb⟩
theorem units_cmd (B0 tb : Nat) (bds ds : List Int) (ts : List Tl) (a b : Nat) (A0 : Option Addr) (n0 : Nat) (w : World) (hnum : Own w B0 A0 2 n0 [(a : Int), (b : Int)]) (h : Tab B0 w tb bds ds ts) (hw : B0 ≤ w.heap.size) (hp : Pow B0 w) :
  Calls Tryz.prog 166 #[.pointer (some ⟨tb, 0, none⟩), .slice A0 2 n0] w (CmdPost B0 (fun t ok w' => (if ok then t else noT) = unitsT (unitsR a b) ∧ Tab B0 w' tb bds ds ts) w) := by
 obtain ⟨g, rfl, _, hg, hcell, _⟩ := hnum.at_ (by omega)
 have d0 := hcell 0 (a : Int) rfl
 have d1 := hcell 1 (b : Int) rfl
 have HU := Hd (UnitsOf_all a b w.drew)
 have HG := Hd (show ∀ l, unitsR a b = some l → UnitsGood l from fun l h => unitsR_good h)
 obtain ⟨R, hR⟩ : ∃ R, unitsR a b = R := ⟨_, rfl⟩
 rw [hR] at HU HG ⊢
 have HT := Hd h
 have HW := Hd hw
 have HP := Hd hp
 clear h hw hp hnum hcell hR
 go_enter Tryz.func166, Tryz.ntmps166
 go_wp2_with fail
 go_region_with (go_at_call 201; refine HU.out.mono ?_; intro e w1 hpost; obtain ⟨ok, l, A, n, c, rfl, ho, hy, hno, hb⟩ := hpost.one; have HB := Hd ((Below.refl w.heap.size w).drew.trans hb); have HO := Hd ho; have HY := Hd hy; have HNO := Hd hno; clear hb ho hy hno hpost)
 all_goals
  cases ok with
  | true =>
   have hR := HY.out rfl
   obtain ⟨g1, g2, g3, g4⟩ := HG.out l hR
   have hl := HO.out.len
   have HX := Hd (UnitsText_yes A n c l w1 HO.out.ints g1 g2 (by omega) ((HP.out.below (HB.out.mono HW.out)).up (Nat.le_trans HW.out HB.out.size)))
   have hsz : (bs (uText l)).size ≤ 100000 := by
    have : (bs (uText l)).size = (uText l).length := by show (uText l).toArray.size = _; simp
    omega
   have hl1 := no_long (n := (bs (uText l)).size) (by omega) 1 (by omega)
   have HR := Hd hR
   clear hR hl g1 g2 g3 g4 HG HU hsz
   go_wp2_with fail
   refine HX.out.mono ?_
   rintro e w2 ⟨rfl, hb2⟩
   have HB2 := Hd (below_chain HB.out hb2)
   clear hb2
   go_wp2_with fail
   refine bodyPost_ret (v := .tuple #[.string (bs (uText l) ++ ⟨#[10]⟩), .bool true]) (by simp [results, Tryz.results166, go_sem]) rfl ?_
   exact ⟨_, _, rfl, ⟨by rw [HR.out]; rfl, HT.out.next HB2.out⟩, KeptT.of_below HB2.out⟩
  | false =>
   have HR := Hd (HNO.out rfl)
   clear HG HU
   go_wp2_with fail
   refine bodyPost_ret (v := .tuple #[.string ⟨#[]⟩, .bool false]) (by simp [results, Tryz.results166, go_sem]) rfl ?_
   exact ⟨_, _, rfl, ⟨by rw [HR.out]; rfl, HT.out.next HB.out⟩, KeptT.of_below HB.out⟩
theorem does_units (s : St) (a b : Nat) : CmdDoes 166 [(a : Int), (b : Int)] s (unitsT (unitsR a b)) s := by
 refine ⟨fun args w => by simp [go_sem], fun B0 tb w A n0 hnum ht hw hp => ?_⟩
 exact units_cmd B0 tb s.bs s.ds s.ts a b A n0 w hnum ht hw hp
theorem l9Units_any (up low : Nat) (hl : low ≤ 10000000) (w : World) : Calls Tryz.prog 140 #[.int .i64 (up : Int), .int .i64 (low : Int)] w fun e w' => e = .returned (.string (unitsT (unitsR up low))) ∧ Below w.heap.size w w' := by
 refine l9Units_of (up : Int) (low : Int) (unitsR up low) w (fun w => ?_) fun l h => unitsR_good h
 unfold unitsR
 by_cases h : 1 ≤ low ∧ low ≤ 10000 ∧ up < low
 ·rw [if_pos h]; exact specUnitsOf_in up low h.1 h.2.1 h.2.2 w
 ·rw [if_neg h]; exact specUnitsOf_out up low (by omega) (by omega) w
def zeros10 : List Int := List.replicate 10 0
theorem zeros10_ok : Bd.okB zeros10 = true := by decide
def wLay : List UInt8 := [108, 97, 121]
def wReduce : List UInt8 := [114, 101, 100, 117, 99, 101]
def wBoard : List UInt8 := [98, 111, 97, 114, 100]
structure InvB (s : St) : Prop where
 ok : Bd.okB s.bs = true
 dg : Fr.Digs s.ds
 four : s.ds.length = 4
theorem InvB.start : InvB St.start := ⟨zeros10_ok, zeros4_digs, rfl⟩
theorem okB_addL {xs ys : List Int} (h : layOK xs ys = true) : Bd.okB (Bd.addL xs ys) = true := by
 simp only [layOK, Bool.and_eq_true] at h
 obtain ⟨⟨h1, h2⟩, h3⟩ := h
 have l1 := ((Bd.okB_iff _).1 h1).1
 have l2 := ((Bd.okB_iff _).1 h2).1
 exact okB_of_fit (by rw [Bd.addL_length _ _ (by rw [l1, l2])]; exact l1) h3
def layTo (s : St) (x : Int) : St := { s with bs := if layOk s x then Bd.addL s.bs (Bd.D true 10 x) else s.bs }
theorem InvB.lay {s : St} (h : InvB s) (x : Int) : InvB (layTo s x) := by
 refine ⟨?_, h.dg, h.four⟩
 show Bd.okB (if layOk s x then _ else _) = true
 split
 ·rename_i hl
  simp only [layOk, Bool.and_eq_true] at hl
  exact okB_addL hl.2
 ·exact h.ok
def redTo (s : St) : St := { s with bs := if redOK s.bs then redL s.bs else s.bs }
theorem InvB.red {s : St} (h : InvB s) : InvB (redTo s) := by
 refine ⟨?_, h.dg, h.four⟩
 show Bd.okB (if redOK s.bs then _ else _) = true
 split
 ·exact Bd.okB_D _
 ·exact h.ok
def raiseTo (s : St) (x : Int) : St := { s with bs := if raiseOK s.bs x then Bd.raiseL s.bs x.toNat else s.bs }
theorem InvB.raise {s : St} (h : InvB s) (x : Int) : InvB (raiseTo s x) := by
 refine ⟨?_, h.dg, h.four⟩
 show Bd.okB (if raiseOK s.bs x then _ else _) = true
 split
 ·rename_i hl
  exact (raise_parts hl).2.2.2
 ·exact h.ok
theorem fr_post {s : Int} (hs : Fr.Sgn s) {ds : List Int} (hd : Fr.Digs ds) (h4 : ds.length = 4) {N : Int} : ∀ es p, frBy s ds N = some (es, p) → Fr.Digs es ∧ es.length = 4 ∧ 0 ≤ p ∧ p ≤ 1000 := fun es p h => by
 obtain ⟨r1, r2, -, -, r5, -⟩ := frBy_some hs hd h
 exact ⟨r1, by rw [r2, h4], r5, frBy_upper h4 h⟩
def frTo (sg : Int) (s : St) (x : Int) : St := { s with ds := frThen s.ds (frBy sg s.ds x) }
theorem InvB.fr {s : St} (h : InvB s) {sg : Int} (hs : Fr.Sgn sg) (x : Int) : InvB (frTo sg s x) := by
 have key : Fr.Digs (frThen s.ds (frBy sg s.ds x)) ∧ (frThen s.ds (frBy sg s.ds x)).length = 4 := by
  cases hr : frBy sg s.ds x with
  | none => exact ⟨h.dg, h.four⟩
  | some p =>
   obtain ⟨es, p⟩ := p
   obtain ⟨h1, h2, -, -⟩ := fr_post hs h.dg h.four es p hr
   exact ⟨h1, h2⟩
 exact ⟨h.ok, key.1, key.2⟩
theorem InvB.add {s : St} (h : InvB s) (x : Int) : CmdDoes 161 [x] s (frSays (frBy 1 s.ds x)) (frTo 1 s x) :=
 does_add s x h.dg h.four fun es p hr => by obtain ⟨-, h2, h3, h4⟩ := fr_post (.inl rfl) h.dg h.four es p hr; exact ⟨h2, by omega, by omega⟩
theorem InvB.take {s : St} (h : InvB s) (x : Int) : CmdDoes 162 [x] s (frSays (frBy (-1) s.ds x)) (frTo (-1) s x) :=
 does_take s x h.dg h.four fun es p hr => by obtain ⟨-, h2, h3, h4⟩ := fr_post (.inr rfl) h.dg h.four es p hr; exact ⟨h2, by omega, by omega⟩
theorem InvB.bval {s : St} (h : InvB s) : 0 ≤ bVal s.bs ∧ bVal s.bs ≤ 20000000 := by
 have := V_range h.ok
 simpa [bVal, h.ok] using this
theorem InvB.value {s : St} (h : InvB s) : CmdDoes 160 [] s (dec (bVal s.bs) ++ ⟨#[10]⟩) s := does_value s (by have := h.bval; omega)
theorem InvB.board {s : St} (h : InvB s) : CmdDoes 159 [] s (bs (bdText s.bs) ++ ⟨#[10]⟩) s := does_board s h.ok
theorem InvB.frame {s : St} (h : InvB s) : CmdDoes 163 [] s (txt (digText s.ds) ++ ⟨#[10]⟩) s := does_frame s h.dg h.four
theorem bdText_take {xs : List Int} {k : Nat} {u : Int} (h : xs[k]? = some u) : bdText (xs.take (k + 1)) = Lib.itoa u ++ (if k = 0 then [] else 124 :: bdText (xs.take k)) := by
 rw [take_next h]
 unfold bdText
 have e : bdWords (xs.take k ++ [u]) = dec u :: bdWords (xs.take k) := by simp [bdWords]
 rw [e]
 by_cases h0 : k = 0
 ·subst h0
  simp [bdWords, Lib.join]
  rfl
 ·rw [if_neg h0]
  have hne : bdWords (xs.take k) ≠ [] := by
   have hk := (List.getElem?_eq_some_iff.1 h).1
   intro e0
   have h1 : (bdWords (xs.take k)).length = k := by simp [bdWords]; omega
   rw [e0] at h1
   simp at h1
   omega
  cases hw : bdWords (xs.take k) with
  | nil => exact absurd hw hne
  | cons y ys =>
   simp [Lib.join]
   rfl
theorem specBoardText_yes (A : Option Addr) (n c : Nat) (xs : List Int) (w : World) (hx : Ints w w.heap.size A n xs) (hok : Bd.okB xs = true) :
  Calls Tryz.prog 176 #[.slice A n c] w fun e w' => e = .returned (.string (bs (bdText xs))) ∧ Below w.heap.size w w' := by
 have hl := (Bd.okB_iff xs).1 hok
 have hln := hx.len
 have hn : n = 10 := by omega
 subst hn
 have htl := bdText_len hl.1 hl.2
 have HX := Hd hx
 have HL := Hd hl.2
 have HV := Hd (fun (w : World) (h : Ints w w.heap.size A 10 xs) => specBoardValid_any A 10 c xs w w.heap.size h)
 have HOK := Hd hok
 clear hx hl hok
 go_enter Tryz.func176, Tryz.ntmps176
 go_wp2_with fail
 go_loopw [3, 4] (fun ov iv wr => ∃ (k : Nat) (o : List UInt8), k ≤ 10 ∧ iv = .int .i64 ((k : Int) - 1) ∧ ov = .string (bs o) ∧ o ++ bdText (xs.take k) = bdText xs ∧ o.length ≤ 300 ∧ Below w.heap.size w wr) (fun _ iv _ => (intOf iv + 1).toNat)
 case atStart => exact ⟨10, [], by omega, rfl, rfl, by rw [List.take_of_length_le (by omega)]; rfl, by simp, Below.refl _ _⟩
 case round =>
  obtain ⟨k, o, hk, rfl, rfl, hov, hol, hb⟩ := hrel
  have HB := Hd hb
  have hi := HX.out.next hb
  have hos : (bs o).size = o.length := by show o.toArray.size = _; simp
  clear hb
  cases k with
  | zero =>
   have ho : bs o = bs (bdText xs) := by
    have : bdText (xs.take 0) = [] := rfl
    rw [this, List.append_nil] at hov
    rw [hov]
   have HO := Hd ho
   clear hov ho hi
   go_wp2_with fail
   go_ret
   exact ⟨by rw [← HO.out]; rfl, HB.out⟩
  | succ k =>
   obtain ⟨b, off, u, rfl, hlb, hu, hcell⟩ := hi.at_ (show k < 10 by omega)
   have hub := HL.out u (List.mem_of_getElem? hu)
   obtain ⟨v, rfl⟩ := Int.eq_ofNat_of_zero_le hub.1
   have hv20 : v ≤ 20 := by have := hub.2; omega
   have hT := bdText_take hu
   rw [hT] at hov
   have hz := dec_size (v : Int) (by omega) (by omega)
   have hzl : (dec (v : Int)).size = (Lib.itoa (v : Int)).length := by show (Lib.itoa (v : Int)).toArray.size = _; simp
   have hl1 := no_long (n := (bs o).size) (by omega) (dec (v : Int)).size (by omega)
   have hl2 := no_long (n := (bs o).size + (dec (v : Int)).size) (by omega) 1 (by omega)
   have hvd := HV.out wr hi
   rw [HOK.out] at hvd
   have HVD := Hd hvd
   have hk0 : (k : Int) + 1 - 1 = (k : Int) := by omega
   have hkn : (0 : Int) ≤ (k : Int) := by omega
   have hk9 : (k : Int) ≤ 9 := by omega
   have hlen := congrArg List.length hov
   by_cases h0 : k = 0
   ·subst h0
    simp only [if_true, List.append_nil] at hov hlen
    rw [Nat.add_zero] at hcell
    have HOV := Hd hov
    have HLN := Hd hlen
    clear hov hlen hT hu hub hvd hi hz hzl hos
    go_wp2_with fail
    refine HVD.out.mono ?_
    rintro e w5 ⟨rfl, rfl⟩
    go_wp2_with fail
    refine (l6Dec_any v (by omega) _).mono ?_
    rintro e w6 ⟨rfl, hb6⟩
    have HB6 := Hd (below_chain HB.out hb6)
    clear hb6
    go_wp2_with fail
    go_roundw
    case rel =>
     refine ⟨0, o ++ Lib.itoa (v : Int), by omega, by go_num, ?_, ?_, ?_, HB6.out⟩
     ·show Value.string (bs o ++ bs (Lib.itoa (v : Int))) = _
      rw [bs_append]
     ·rw [← HOV.out]; show _ ++ [] = _; rw [List.append_nil]
     ·have := HLN.out; rw [List.length_append] at this ⊢; omega
    case measure => simp [intOf]
   ·rw [if_neg h0] at hov hlen
    have HOV := Hd hov
    have HLN := Hd hlen
    have hkp : (0 : Int) < (k : Int) := by omega
    clear hov hlen hT hu hub hvd hi hz hzl hos
    go_wp2_with fail
    refine HVD.out.mono ?_
    rintro e w5 ⟨rfl, rfl⟩
    go_wp2_with fail
    refine (l6Dec_any v (by omega) _).mono ?_
    rintro e w6 ⟨rfl, hb6⟩
    have HB6 := Hd (below_chain HB.out hb6)
    clear hb6
    go_wp2_with fail
    go_roundw
    case rel =>
     refine ⟨k, o ++ (Lib.itoa (v : Int) ++ [124]), by omega, by go_num, ?_, ?_, ?_, HB6.out⟩
     ·show Value.string ((bs o ++ bs (Lib.itoa (v : Int))) ++ bs [124]) = _
      rw [bs_append, bs_append, List.append_assoc]
     ·rw [← HOV.out]; simp
     ·have := HLN.out; simp at this ⊢; omega
    case measure => simp [intOf]
end Go.Proofs.YthdoofmfigemoaaGreatDoor
