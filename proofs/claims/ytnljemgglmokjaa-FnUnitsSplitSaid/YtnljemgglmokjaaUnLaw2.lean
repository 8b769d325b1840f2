/-
  Joined units are added: the draw and the plain law.
-/
import Derived.Test.YtnljemgglmokjaaUnLaw
import Derived.Test.YtnljemgglmokjaaUnSum
namespace Go.Proofs.Ytnljemgglmokjaa
open Go.RowKit

theorem okU_parts {l : List Int} (h : Un.okU l = true) : Un.asc 1 l = true := by simp only [Un.okU, Bool.and_eq_true] at h; exact h.2
theorem okJ_iff (xs ys : List Int) : okJ xs ys = true ↔ Un.okU xs = true ∧ Un.okU ys = true ∧ Un.okU (Un.insAll xs ys) = true := by simp [okJ, and_assoc]
theorem count_all (b : List Int) (z : Int) : ∀ l, (Un.insAll l b).count z = l.count z + b.count z := by
  induction b with
  | nil => intro l; simp [Un.insAll]
  | cons x xs ih =>
    intro l
    have e : Un.insAll l (x :: xs) = Un.insAll (Un.ins x l) xs := rfl
    rw [e, ih, Un.count_ins, List.count_cons]
    by_cases h : x = z <;> simp [h] <;> omega
theorem wasc_all (b : List Int) : ∀ l, (∀ z ∈ b, 1 ≤ z) → Un.wasc 1 l → Un.wasc 1 (Un.insAll l b) := by
  induction b with
  | nil => intro l _ h; exact h
  | cons x xs ih =>
    intro l hb h
    have e : Un.insAll l (x :: xs) = Un.insAll (Un.ins x l) xs := rfl
    rw [e]
    exact ih _ (fun z hz => hb z (by simp [hz])) (Un.wasc_ins x l 1 (hb x (by simp)) h)
/-- a list in weak order, with nothing twice and nothing but what may be, is in strict order -/
theorem asc_of {l : List Int} : ∀ a, Un.wasc a l → (∀ z ∈ l, z ≤ 1000000000) → (∀ z, l.count z ≤ 1) → a ∉ l → Un.asc a l = true := by
  induction l with
  | nil => intro a _ _ _ _; rfl
  | cons x xs ih =>
    intro a hw hb hc hn
    simp only [Un.asc, Bool.and_eq_true, decide_eq_true_eq]
    have hax : a ≠ x := fun e => hn (by simp [e])
    refine ⟨⟨by have := hw.1; omega, hb x (by simp)⟩, ih x hw.2 (fun z hz => hb z (by simp [hz])) (fun z => by have := hc z; rw [List.count_cons] at this; omega) fun hm => ?_⟩
    have h1 := hc x
    rw [List.count_cons_self] at h1
    have := List.count_pos_iff.2 hm
    omega
theorem join_swap {xs ys : List Int} (h : okJ xs ys = true) : okJ ys xs = true ∧ Un.insAll ys xs = Un.insAll xs ys := by
  obtain ⟨h1, h2, h3⟩ := (okJ_iff xs ys).1 h
  have hmem : ∀ z, z ∈ Un.insAll ys xs ↔ z ∈ Un.insAll xs ys := fun z => by rw [Un.mem_insAll, Un.mem_insAll, or_comm]
  have hr : ∀ z ∈ Un.insAll ys xs, 2 ≤ z ∧ z ≤ 1000000000 := fun z hz => Un.okU_mem h3 z ((hmem z).1 hz)
  have hasc : Un.asc 1 (Un.insAll ys xs) = true := by
    refine asc_of 1 (wasc_all xs ys (fun z hz => by have := Un.okU_mem h1 z hz; omega) (Un.wasc_of_asc ys 1 (okU_parts h2))) (fun z hz => (hr z hz).2) (fun z => ?_) (fun hm => by have := hr 1 hm; omega)
    have := Un.asc_count _ z 1 (okU_parts h3)
    rw [count_all] at this ⊢
    omega
  have e := Un.asc_ext _ 1 _ hasc (okU_parts h3) hmem
  exact ⟨(okJ_iff ys xs).2 ⟨h2, h1, by rw [e]; exact h3⟩, e⟩
theorem join_law {xs ys : List Int} {c d e f g h : Nat} (ho : okJ xs ys = true) (ha : Low c d xs) (hb : Low e f ys) (hj : Low g h (Un.insAll xs ys)) : ((c : Int) * f + e * d) * h = g * d * f := by
  obtain ⟨h1, h2, -⟩ := (okJ_iff xs ys).1 ho
  exact Un.join_cross ha.1 hb.1 hj.1 (Un.den_pos xs (Un.okU_mem h1)) (Un.den_pos ys (Un.okU_mem h2))

/-- a law's draw of two lists of units -/
def DrewUU (w : World) (e : Ending) (w' : World) : Prop :=
  ∃ A n c xs B m d ys, e = .returned (.tuple #[.slice A n c, .slice B m d]) ∧ Ints w' w'.heap.size A n xs ∧ Ints w' w'.heap.size B m ys ∧ n ≤ 6 ∧ m ≤ 6 ∧ Below w.heap.size w w'
set_option maxHeartbeats 1000000 in
theorem DrawUnitsJoin_any (A : Option Addr) (n c : Nat) (w : World) (h : Bytes w w.heap.size A n c) (hn : n ≤ 1048576) :
    Calls Try.prog 20 #[.slice A n c] w (DrewUU w) := by
  have H := Lib.hid h
  clear h
  go_enter Try.func20, Try.ntmps20
  go_wp2_with fail
  refine (l6Open_any _ _ _ _ H.out hn).mono ?_
  rintro e w0 ⟨rfl, hrd, hb⟩
  have HB := Lib.hid hb
  have hlt := hrd.lt
  have HR := Lib.hid hrd
  clear hrd hb
  go_wp2_with fail
  refine (l91Units_any _ _ _ _ HR.out (by omega)).mono ?_
  rintro e w1 ⟨A1, n1, c1, xs, q1, rfl, hx, hn1, hcp, hrd1, hq1, hg1⟩
  have hsz1 := hg1.size
  replace HB := Lib.hid (HB.out.trans (base_in hg1 (Nat.le_refl _) (by omega)))
  replace HR := Lib.hid hrd1
  have HX := Lib.hid hx
  clear hrd1 hg1 hx
  go_wp2_with fail
  refine (l91Units_any _ _ _ _ HR.out (by omega)).mono ?_
  rintro e w2 ⟨A2, n2, c2, ys, q2, rfl, hy, hn2, hcp2, hrd2, hq2, hg2⟩
  have HX2 := Lib.hid (HX.out w2 hg2)
  have HY := Lib.hid (hy w2 (World.grownBy.refl _ _))
  replace HB := Lib.hid (HB.out.trans (base_in hg2 (Nat.le_refl _) (by omega)))
  clear hrd2 hg2 hy
  go_wp2
  go_ret2
  exact ⟨_, _, _, _, _, _, _, _, rfl, HX2.out, HY.out, hn1, hn2, HB.out⟩
end Go.Proofs.Ytnljemgglmokjaa
