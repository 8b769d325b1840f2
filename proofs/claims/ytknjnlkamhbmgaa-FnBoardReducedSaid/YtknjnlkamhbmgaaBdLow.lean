/-
  The least place of a board at which a raise can be done: what the laws' own search for it gives.
-/
import Derived.Test.YtknjnlkamhbmgaaBdLawKit3
namespace Go.Proofs.Ytknjnlkamhbmgaa
open Go.RowKit

/-- the least place at which a raise can be done, or -1 -/
def lowP (xs : List Int) : Int := match (List.range 10).find? (fun (p : Nat) => raiseOK xs (p : Int)) with
  | some p => (p : Int)
  | none => -1
theorem lowP_at {xs : List Int} {k : Nat} (hk : k < 10) (h : ∀ p : Nat, p < k → raiseOK xs (p : Int) = false) (hok : raiseOK xs (k : Int) = true) : lowP xs = k := by
  have e : (List.range 10).find? (fun (p : Nat) => raiseOK xs (p : Int)) = some k := by
    rw [List.find?_range_eq_some]
    exact ⟨hok, by simp; omega, fun j hj => by simp [h j hj]⟩
  simp [lowP, e]
theorem lowP_none {xs : List Int} (h : ∀ p : Nat, p < 10 → raiseOK xs (p : Int) = false) : lowP xs = -1 := by
  have e : (List.range 10).find? (fun (p : Nat) => raiseOK xs (p : Int)) = none := by
    rw [List.find?_eq_none]
    intro x hx
    simp at hx
    simp [h x hx]
  simp [lowP, e]
theorem lowP_cases (xs : List Int) : (lowP xs = -1 ∧ ∀ p : Nat, p < 10 → raiseOK xs (p : Int) = false) ∨ (0 ≤ lowP xs ∧ lowP xs < 10 ∧ raiseOK xs (lowP xs) = true) := by
  cases e : (List.range 10).find? (fun (p : Nat) => raiseOK xs (p : Int)) with
  | none =>
    refine .inl ⟨by simp [lowP, e], fun p hp => ?_⟩
    have := List.find?_eq_none.1 e p (by simp; omega)
    simpa using this
  | some k =>
    rw [List.find?_range_eq_some] at e
    have hk := e.2.1
    simp at hk
    have := lowP_at hk (fun p hp => by simpa using e.2.2 p hp) e.1
    rw [this]
    exact .inr ⟨by omega, by omega, e.1⟩
theorem low_next {xs : List Int} {k : Nat} (h : ∀ p : Nat, p < k → raiseOK xs (p : Int) = false) (h1 : raiseOK xs (k : Int) = false) : ∀ p : Nat, p < k + 1 → raiseOK xs (p : Int) = false := by
  intro p hp
  by_cases e : p = k
  · subst e; exact h1
  · exact h p (by omega)

set_option maxHeartbeats 400000 in
theorem lowest_any (A : Option Addr) (n c : Nat) (xs : List Int) (w : World) (hx : Ints w w.heap.size A n xs) :
    Calls Try.prog 53 #[.slice A n c] w fun e w' => e = .returned (.int .i64 (lowP xs)) ∧ Below w.heap.size w w' := by
  have HX := Lib.hid hx
  clear hx
  go_enter Try.func53, Try.ntmps53
  go_wp2
  go_loopw [3] (fun i wr => ∃ k : Nat, k ≤ 10 ∧ i = .int .i64 k ∧ (∀ p : Nat, p < k → raiseOK xs (p : Int) = false) ∧ Below w.heap.size w wr) (fun i _ => 10 - (intOf i).toNat)
  case atStart => exact ⟨0, by omega, rfl, fun p hp => by omega, Below.refl _ _⟩
  case round =>
    obtain ⟨k, hk, rfl, hno, hbel⟩ := hrel
    have HNO := Lib.hid hno
    have HB := Lib.hid hbel
    clear hno hbel
    by_cases hlt : k < 10
    · have HI := Lib.hid ((HX.out.below HB.out).mono HB.out.size)
      rcases hok : raiseOK xs (k : Int) with _ | _
      · have HOK := Lib.hid hok
        clear hok
        go_wp2_with fail
        have hcall := fun w => BoardRaise_any A n c xs (k : Int) w
        rw [HOK.out] at hcall
        refine (hcall _ HI.out).mono ?_
        clear hcall
        rintro e w2 ⟨⟨A2, n2, c2, rfl, ho2⟩, hb2⟩
        have HB2 := Lib.hid (HB.out.trans (hb2.mono HB.out.size))
        clear ho2 hb2
        go_wp2
        go_roundw
        case rel => exact ⟨k + 1, by omega, by go_num, low_next HNO.out HOK.out, HB2.out⟩
        case measure => simp [intOf]; omega
      · have HOK := Lib.hid hok
        clear hok
        go_wp2_with fail
        have hcall := fun w => BoardRaise_any A n c xs (k : Int) w
        rw [HOK.out] at hcall
        refine (hcall _ HI.out).mono ?_
        clear hcall
        rintro e w2 ⟨⟨A2, n2, c2, rfl, ho2⟩, hb2⟩
        have HB2 := Lib.hid (HB.out.trans (hb2.mono HB.out.size))
        clear ho2 hb2
        go_wp2
        go_ret
        exact ⟨ret_int (lowP_at hlt HNO.out HOK.out).symm, HB2.out⟩
    · go_wp2
      go_ret
      obtain rfl : k = 10 := by omega
      exact ⟨ret_int (lowP_none HNO.out).symm, HB.out⟩

/-! what holds of a reduced board -/
theorem raise_red {xs : List Int} (hok : Bd.okB xs = true) (hr : Bd.isRed true xs = true) (p : Nat) : raiseOK xs (p : Int) = false := by
  cases hc : raiseOK xs (p : Int) with
  | false => rfl
  | true =>
    obtain ⟨_, h0, h9, hb⟩ := raise_parts hc
    have hl := ((Bd.okB_iff xs).1 hok).1
    rw [Int.toNat_natCast] at hb
    have hp : p + 1 < xs.length := by omega
    obtain ⟨u, hu⟩ : ∃ u, xs[p]? = some u := ⟨_, List.getElem?_eq_getElem (by omega)⟩
    obtain ⟨v, hv⟩ : ∃ v, xs[p + 1]? = some v := ⟨_, List.getElem?_eq_getElem hp⟩
    have hlt := (Bd.isRed_true xs).1 hr p u hu
    rw [Bd.raiseL_eq hu hv] at hb
    have hm : ((xs.set p (u - Bd.grp p)).set (p + 1) (v + 1))[p]? = some (u - Bd.grp p) := by
      rw [List.getElem?_set_ne (by omega), List.getElem?_set_self (by omega)]
    have := ((Bd.okB_iff _).1 hb).2 _ (List.mem_of_getElem? hm)
    omega
theorem low_red {xs : List Int} (hok : Bd.okB xs = true) (hr : Bd.isRed true xs = true) : lowP xs = -1 := lowP_none fun p _ => raise_red hok hr p
theorem V_red {xs : List Int} (hok : Bd.okB xs = true) (hr : Bd.isRed true xs = true) : okV (Bd.V true xs) = true := by
  have hl := (Bd.okB_iff xs).1 hok
  have h1 := Bd.V_lt_of_red xs true hr
  rw [hl.1, Bd.P10] at h1
  have h2 := Bd.V_nonneg xs true (fun x hx => (hl.2 x hx).1)
  rw [okV_iff]
  omega
theorem R_of_red {xs : List Int} (hok : Bd.okB xs = true) (hr : Bd.isRed true xs = true) : Bd.R true 0 xs = 0 := (Bd.R_red xs true (fun x hx => (((Bd.okB_iff xs).1 hok).2 x hx).1)).2 hr
theorem D_of_red {xs : List Int} (hok : Bd.okB xs = true) (hr : Bd.isRed true xs = true) : Bd.D true 10 (Bd.V true xs) = xs := by
  have hl := (Bd.okB_iff xs).1 hok
  have := Bd.red_eq_D xs true (fun x hx => (hl.2 x hx).1) hr
  rw [hl.1] at this
  exact this.symm
theorem bRais_red {xs : List Int} (hok : Bd.okB xs = true) (hr : Bd.isRed true xs = true) : bRais xs = 0 := by
  have := (okV_iff _).1 (V_red hok hr)
  simp [bRais, hok, this.2, R_of_red hok hr]
theorem bFew_red {xs : List Int} (hok : Bd.okB xs = true) (hr : Bd.isRed true xs = true) : bFew (Bd.V true xs) = Bd.sum xs := by
  rw [bFew_yes (V_red hok hr), D_of_red hok hr]
/-- the raises of a board, and its reduced one -/
theorem rais_parts {xs : List Int} (h : 0 ≤ bRais xs) : Bd.okB xs = true ∧ redOK xs = true ∧ bRais xs = Bd.R true 0 xs ∧
    (Bd.R true 0 xs ≤ Bd.sum xs - Bd.sum (redL xs)) ∧ Bd.sum xs - Bd.sum (redL xs) ≤ 4 * Bd.R true 0 xs ∧ (Bd.R true 0 xs = 0 ↔ Bd.isRed true xs = true) := by
  unfold bRais at h ⊢
  split at h
  · next hc =>
    simp only [Bool.and_eq_true, decide_eq_true_eq] at hc
    obtain ⟨hok, hv⟩ := hc
    have hl := (Bd.okB_iff xs).1 hok
    have hn : ∀ x ∈ xs, 0 ≤ x := fun x hx => (hl.2 x hx).1
    have hv0 := Bd.V_nonneg xs true hn
    have hs := Bd.R_sum xs true 0 (by omega) hn
    have hc0 := Bd.C_zero_of_small xs hok hv
    have hD := Bd.D_eq_N xs true 0
    rw [hl.1, Int.add_zero] at hD
    refine ⟨hok, ?_, ?_, ?_, ?_, Bd.R_red xs true hn⟩
    · simp [redOK, hok, okV_iff]; omega
    · simp [hok, hv]
    · rw [redL, hD]; rw [hc0] at hs; omega
    · rw [redL, hD]; rw [hc0] at hs; omega
  · omega
theorem bCnt_red {xs : List Int} : bCnt (redL xs) = Bd.sum (redL xs) := bCnt_D _
theorem okB_redL (xs : List Int) : Bd.okB (redL xs) = true := Bd.okB_D _
theorem bRais_neg {xs : List Int} (h : bRais xs < 0) : bRais xs = -1 := by
  unfold bRais at h ⊢
  split at h
  · next hc =>
    simp only [Bool.and_eq_true, decide_eq_true_eq] at hc
    have := Bd.R_nonneg xs true 0 (by omega) (fun x hx => (((Bd.okB_iff xs).1 hc.1).2 x hx).1)
    omega
  · next hc => rw [if_neg hc]
theorem red_parts {xs : List Int} (h : redOK xs = true) : Bd.okB xs = true ∧ 0 ≤ Bd.R true 0 xs ∧ Bd.R true 0 xs ≤ 1000 ∧ True ∧ bRais xs = Bd.R true 0 xs ∧
    bVal xs = Bd.V true xs ∧ bVal (redL xs) = Bd.V true xs ∧ Bd.sum (redL xs) ≤ Bd.sum xs ∧ bCnt (redL xs) = Bd.sum (redL xs) ∧ bCnt xs = Bd.sum xs ∧ (Bd.okB (redL xs) && Bd.isRed true (redL xs)) = true := by
  simp only [redOK, Bool.and_eq_true] at h
  obtain ⟨hok, hv⟩ := h
  have hv' := (okV_iff _).1 hv
  have hR := Bd.R_nonneg xs true 0 (by omega) (fun x hx => (((Bd.okB_iff xs).1 hok).2 x hx).1)
  have hra : bRais xs = Bd.R true 0 xs := by simp [bRais, hok, hv'.2]
  obtain ⟨_, _, _, hlo, hhi, _⟩ := rais_parts (by omega : 0 ≤ bRais xs)
  have hs := sum_range hok
  have hs2 := sum_range (okB_redL xs)
  exact ⟨hok, hR, by omega, trivial, hra, bVal_yes hok, bVal_D hv, by omega, bCnt_red, bCnt_yes hok, isRed_D _⟩

/-- what holds of a board that was raised s times -/
structure Mid (xs ys : List Int) (s : Nat) (r0 v0 : Int) : Prop where
  ok : Bd.okB ys = true
  R : Bd.R true 0 ys + s = r0
  V : Bd.V true ys = v0
theorem Mid.start {xs : List Int} {r0 v0 : Int} (hok : Bd.okB xs = true) (hr : Bd.R true 0 xs = r0) (hv : Bd.V true xs = v0) : Mid xs xs 0 r0 v0 := ⟨hok, by omega, hv⟩
theorem Mid.bound {xs ys : List Int} {s : Nat} {r0 v0 : Int} (h : Mid xs ys s r0 v0) : (s : Int) ≤ r0 := by
  have := Bd.R_nonneg ys true 0 (by omega) (fun x hx => (((Bd.okB_iff ys).1 h.ok).2 x hx).1)
  have := h.R
  omega
theorem Mid.next {xs ys : List Int} {s : Nat} {r0 v0 p : Int} (h : Mid xs ys s r0 v0) (hp : raiseOK ys p = true) : Mid xs (Bd.raiseL ys p.toNat) (s + 1) r0 v0 := by
  obtain ⟨hok, h0, h9, hb⟩ := raise_parts hp
  have hl : p.toNat + 1 < ys.length := by have := ((Bd.okB_iff ys).1 hok).1; omega
  refine ⟨hb, ?_, ?_⟩
  · have := h.R; rw [R_raise hl]; omega
  · rw [V_raise hl]; exact h.V
theorem Mid.done {xs ys : List Int} {s : Nat} {r0 v0 : Int} (h : Mid xs ys s r0 v0) (hr : Bd.isRed true ys = true) (hv : Bd.V true xs = v0) : ys = redL xs ∧ (s : Int) = r0 := by
  refine ⟨?_, ?_⟩
  · rw [redL, hv, ← h.V, D_of_red h.ok hr]
  · have := h.R; rw [R_of_red h.ok hr] at this; omega
end Go.Proofs.Ytknjnlkamhbmgaa
