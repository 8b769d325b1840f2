/-
  Further digits of a quotient, in the program and in the reference.
-/
import Derived.Test.YtphokfdaimbaiaaGlLong2
namespace Go.Proofs.Ytphokfdaimbaiaa
open Go.RowKit

/-- k further digits behind a rest -/
def digsL (d r : Int) (k : Nat) : List Int := (Gl.steps d r (List.replicate k 0)).map (·.1)
def restsL (d r : Int) (k : Nat) : Int := Gl.lastRest d r (List.replicate k 0)
theorem digsL_length (d r : Int) (k : Nat) : (digsL d r k).length = k := by simp [digsL, Gl.steps_length]
theorem digsL_succ (d r : Int) (k : Nat) : digsL d r (k + 1) = digsL d r k ++ [(10 * restsL d r k) / d] ∧ restsL d r (k + 1) = (10 * restsL d r k) % d := by
  unfold digsL restsL
  rw [List.replicate_succ', Gl.steps_append, Gl.lastRest_append]
  simp [Gl.steps, Gl.lastRest]
theorem restsL_range {d r : Int} (h0 : 0 ≤ r) (h1 : r < d) (k : Nat) : 0 ≤ restsL d r k ∧ restsL d r k < d := Gl.lastRest_range d (by omega) _ r h0 h1
theorem digsL_take (d r : Int) {k n : Nat} (h : k ≤ n) : (digsL d r n).take k = digsL d r k := by
  obtain ⟨m, rfl⟩ := Nat.exists_eq_add_of_le h
  unfold digsL
  rw [show List.replicate (k + m) (0 : Int) = List.replicate k 0 ++ List.replicate m 0 from by simp, Gl.steps_append, List.map_append, List.take_left' (by simp [Gl.steps_length])]
theorem digsL_range {d r : Int} (h0 : 0 ≤ r) (h1 : r < d) (k : Nat) : ∀ x ∈ digsL d r k, 0 ≤ x ∧ x ≤ 9 := by
  intro x hx
  obtain ⟨s, hs, rfl⟩ := List.mem_map.1 hx
  have := Gl.steps_range (by omega : 0 < d) (List.replicate k 0) r h0 h1 (by intro y hy; have := (List.mem_replicate.1 hy).2; omega) s hs
  exact ⟨this.1, this.2.1⟩
def okD (xs : List Int) (d n : Int) : Bool := okS xs d && (decide (0 ≤ n) && decide (n ≤ 50))
theorem okD_iff (xs : List Int) (d n : Int) : okD xs d n = true ↔ okS xs d = true ∧ 0 ≤ n ∧ n ≤ 50 := by simp [okD]

set_option maxRecDepth 100000 in
set_option maxHeartbeats 1000000 in
theorem LongDigits_yes (A : Option Addr) (m c : Nat) (xs : List Int) (d : Int) (n : Nat) (w : World) (hx : Ints w w.heap.size A m xs) (hok : okS xs d = true) (hn : n ≤ 50) :
    Calls Try.prog 34 #[.slice A m c, .int .i64 d, .int .i64 (n : Int)] w (PairPost w true (digsL d (restL xs d) n)) := by
  have hcall := LongQuotient_yes A m c xs d w hx hok
  obtain ⟨_, _, _, d0, d1, _⟩ := dsL_facts hok
  obtain ⟨q0, q1⟩ := restL_range (xs := xs) d0
  have HC := Lib.hid hcall
  clear hx hok hcall
  generalize restL xs d = r0 at *
  have hfd := run_field_digit
  go_enter Try.func34, Try.ntmps34
  go_wp2_with fail
  refine HC.out.mono ?_
  rintro e w1 ⟨rfl, hb1⟩
  have hsz1 := hb1.size
  have HB1 := Lib.hid hb1
  clear hb1
  go_wp2_with fail
  refine (longDivision_any d r0 _).mono ?_
  rintro e w2 ⟨rfl, hbr, hbd, hb2⟩
  have hsz2 := hb2.size
  have hlr := hbr.lt
  have HB2 := Lib.hid (HB1.out.trans (hb2.mono hsz1))
  have HBR := Lib.hid hbr
  have HBD := Lib.hid hbd
  clear hb2 hbr hbd HC
  go_wp2_with (at_make; refine wpList_make_room (B := w2.heap.size) rfl _ _ rfl (n : Int) rfl rfl rfl (by omega) (Nat.le_refl _) ?_; intro w3 hown3 hg3)
  have HO3 := Lib.hid hown3
  have HB3 := Lib.hid (HB2.out.grown hg3 (by omega) (by simp))
  have HBR3 := Lib.hid (HBR.out.grown hg3 (by simp))
  have HBD3 := Lib.hid (HBD.out.grown hg3 (by simp))
  have hsz3 := hg3.size
  clear hown3 hg3 HBR HBD HB2
  go_loopw [12, 13] (fun v i wr => ∃ (k : Nat) (T : Option Addr) (c : Nat) (r : Int), k ≤ n ∧ i = .int .i64 (k : Int) ∧ v = .slice T k c ∧ restsL d r0 k = r ∧ 0 ≤ r ∧ r < d ∧ Own wr w2.heap.size T k c (digsL d r0 k) ∧
    Box wr (w1.heap.size + 1) r ∧ Box wr w1.heap.size d ∧ Below w.heap.size w wr ∧ w2.heap.size ≤ wr.heap.size) (fun _ i _ => n - (intOf i).toNat)
  case atStart => exact ⟨0, _, _, r0, by omega, rfl, rfl, rfl, by omega, by omega, HO3.out, HBR3.out, HBD3.out, HB3.out, hsz3⟩
  case round =>
    clear HO3 HBR3 HBD3 HB3 hsz3
    obtain ⟨k, T, c2, r, hk, rfl, rfl, hr, r0', r1, hown, hbr, hbd, hbel, hsz⟩ := hrel
    have HR := Lib.hid hr
    have HO := Lib.hid hown
    have HBR := Lib.hid hbr
    have HBD := Lib.hid hbd
    have HB := Lib.hid hbel
    clear hr hown hbr hbd hbel
    by_cases hlt : k < n
    · have HS := Lib.hid (digsL_succ d r0 k)
      rw [HR.out] at HS
      go_wp2_with fail
      refine (step_any _ _ _ r d 0 HBR.out HBD.out (by omega) r0' r1 d1 (by omega) (by omega)).mono ?_
      rw [show r * 10 + 0 = 10 * r from by omega]
      rintro e w4 ⟨rfl, hbr4, hbd4, hg4⟩
      have m0 := Int.emod_nonneg (10 * r) (show d ≠ 0 by omega)
      have m1 := Int.emod_lt_of_pos (10 * r) (show 0 < d by omega)
      have hsz4 := hg4.size
      have HO4 := Lib.hid (HO.out.kept hg4 (fun j hj e => by have := (HO.out.blk j hj).1; simp at e; omega))
      have HB4 := Lib.hid (HB.out.grown hg4 (by omega) (by intro j hj; simp at hj; omega))
      have HBR4 := Lib.hid hbr4
      have HBD4 := Lib.hid hbd4
      clear hbr4 hbd4 hg4
      go_wp2_with (at_builtin; refine wpList_app rfl _ _ rfl rfl HO4.out [(10 * r) / d] 1 rfl _ rfl _ rfl (by omega) (by omega) ?_; intro T5 c5 w5 hown5 hg5)
      have HB5 := Lib.hid (HB4.out.grown hg5 (by omega) fun j hj => by have := (HO4.out.blk j hj).1; omega)
      have HBR5 := Lib.hid (HBR4.out.grown hg5 (fun e => by have := (HO4.out.blk _ e).1; omega))
      have HBD5 := Lib.hid (HBD4.out.grown hg5 (fun e => by have := (HO4.out.blk _ e).1; omega))
      have hsz5 := hg5.size
      go_roundw
      case rel => exact ⟨k + 1, _, _, _, by omega, by go_num, rfl, HS.out.2, m0, m1, by rw [HS.out.1]; exact hown5, HBR5.out, HBD5.out, HB5.out, by omega⟩
      case measure => simp [intOf]; omega
    · obtain rfl : k = n := by omega
      have HF := Lib.hid (HO.out.mono (show w.heap.size ≤ w2.heap.size by omega))
      go_wp2
      go_ret2
      exact ⟨⟨_, _, _, rfl, HF.out⟩, HB.out⟩
set_option maxHeartbeats 400000 in
theorem LongDigits_no (A : Option Addr) (m c : Nat) (xs : List Int) (d n : Int) (w : World) (hx : Ints w w.heap.size A m xs) (hok : okD xs d n = false) :
    Calls Try.prog 34 #[.slice A m c, .int .i64 d, .int .i64 n] w (PairPost w false []) := by
  rcases h1 : okS xs d with _ | _
  · have hcall := LongQuotient_no A m c xs d w hx h1
    have HC := Lib.hid hcall
    clear hcall hx hok h1
    go_enter Try.func34, Try.ntmps34
    go_wp2_with fail
    refine HC.out.mono ?_
    rintro e w1 ⟨rfl, hb1⟩
    have HB1 := Lib.hid hb1
    clear hb1
    go_wp2
    go_ret2
    exact ⟨⟨_, _, _, rfl, Own.nil _ _⟩, HB1.out⟩
  · have hcall := LongQuotient_yes A m c xs d w hx h1
    have hn : n < 0 ∨ 50 < n := by
      have := hok
      simp [okD, h1] at this
      omega
    have HC := Lib.hid hcall
    clear hcall hx hok h1
    by_cases hn0 : n < 0
    all_goals
      go_enter Try.func34, Try.ntmps34
      go_wp2_with fail
      refine HC.out.mono ?_
      rintro e w1 ⟨rfl, hb1⟩
      have HB1 := Lib.hid hb1
      clear hb1
      go_wp2
      go_ret2
      exact ⟨⟨_, _, _, rfl, Own.nil _ _⟩, HB1.out⟩
theorem LongDigits_any (A : Option Addr) (m c : Nat) (xs : List Int) (d n : Int) (w : World) (hx : Ints w w.heap.size A m xs) :
    Calls Try.prog 34 #[.slice A m c, .int .i64 d, .int .i64 n] w (PairPost w (okD xs d n) (digsL d (restL xs d) n.toNat)) := by
  rcases hok : okD xs d n with _ | _
  · exact LongDigits_no A m c xs d n w hx hok
  · obtain ⟨h1, h2, h3⟩ := (okD_iff xs d n).1 hok
    obtain ⟨k, rfl⟩ := Int.eq_ofNat_of_zero_le h2
    exact LongDigits_yes A m c xs d k w hx h1 (by omega)

set_option maxRecDepth 100000 in
set_option maxHeartbeats 1000000 in
theorem specLongDigits_yes (A : Option Addr) (m c : Nat) (xs : List Int) (d : Int) (n : Nat) (w : World) (hx : Ints w w.heap.size A m xs) (hok : okS xs d = true) (hn : n ≤ 50) :
    Calls Try.prog 44 #[.slice A m c, .int .i64 d, .int .i64 (n : Int)] w (PairPost w true (digsL d (restL xs d) n)) := by
  have hcall := fun w hx => specLongQuotient_yes A m c xs d w hx hok
  obtain ⟨_, _, _, d0, d1, _⟩ := dsL_facts hok
  obtain ⟨q0, q1⟩ := restL_range (xs := xs) d0
  have HC := Lib.hid hcall
  have HX := Lib.hid (hx.next ((Below.refl _ _).alloc (Nat.le_refl _) (.cells #[] 3)))
  have HLN := Lib.hid (lit_nil w)
  clear hx hok hcall
  generalize restL xs d = r0 at *
  go_enter Try.func44, Try.ntmps44
  go_wp2_with fail
  refine (HC.out _ HX.out).mono ?_
  rintro e w1 ⟨rfl, hb1⟩
  have hsz1 := hb1.size
  simp only [World.size_alloc] at hsz1
  have HO := Lib.hid (HLN.out.next hb1)
  have HB := Lib.hid (((Below.refl w.heap.size w).alloc (Nat.le_refl _) _).trans (hb1.mono (by simp)))
  clear hb1 HC HX HLN
  go_wp2_with fail
  refine (l6In_yes (by omega) (by omega) _).mono ?_
  rintro e w' ⟨rfl, rfl⟩
  go_wp2_with fail
  go_loopw [8, 10, 12] (fun v rv i wr => ∃ (k : Nat) (T : Option Addr) (c : Nat) (r : Int), k ≤ n ∧ i = .int .i64 (k : Int) ∧ v = .slice T k c ∧ rv = .int .i64 r ∧ restsL d r0 k = r ∧ 0 ≤ r ∧ r < d ∧ Own wr w.heap.size T k c (digsL d r0 k) ∧ Below w.heap.size w wr) (fun _ _ i _ => n - (intOf i).toNat)
  case atStart => exact ⟨0, _, _, r0, by omega, rfl, rfl, rfl, rfl, by omega, by omega, HO.out, HB.out⟩
  case round =>
    clear HO HB
    obtain ⟨k, T, c2, r, hk, rfl, rfl, rfl, hr, r0', r1, hown, hbel⟩ := hrel
    have hsz := hbel.size
    have HR := Lib.hid hr
    have HO := Lib.hid hown
    have HB := Lib.hid hbel
    clear hr hown hbel
    by_cases hlt : k < n
    · have HS := Lib.hid (digsL_succ d r0 k)
      rw [HR.out] at HS
      have m0 := Int.emod_nonneg (10 * r) (show d ≠ 0 by omega)
      have m1 := Int.emod_lt_of_pos (10 * r) (show 0 < d by omega)
      go_wp2_with (at_builtin; refine wpList_app rfl _ _ rfl rfl HO.out [(10 * r) / d] 1 rfl _ rfl _ rfl (by omega) hsz ?_; intro T5 c5 w5 hown5 hg5)
      have HB5 := Lib.hid (below_step HB.out hg5 HO.out hsz)
      go_roundw
      case rel => exact ⟨k + 1, _, _, _, by omega, by go_num, rfl, rfl, HS.out.2, m0, m1, by rw [HS.out.1]; exact hown5, HB5.out⟩
      case measure => simp [intOf]; omega
    · obtain rfl : k = n := by omega
      go_wp2
      go_ret2
      exact ⟨⟨_, _, _, rfl, HO.out⟩, HB.out⟩
set_option maxHeartbeats 400000 in
theorem specLongDigits_no (A : Option Addr) (m c : Nat) (xs : List Int) (d n : Int) (w : World) (hx : Ints w w.heap.size A m xs) (hok : okD xs d n = false) :
    Calls Try.prog 44 #[.slice A m c, .int .i64 d, .int .i64 n] w (PairPost w false []) := by
  have HX := Lib.hid (hx.next ((Below.refl _ _).alloc (Nat.le_refl _) (.cells #[] 3)))
  have HLN := Lib.hid (lit_nil w)
  rcases h1 : okS xs d with _ | _
  · have HC := Lib.hid (fun w hx => specLongQuotient_no A m c xs d w hx h1)
    clear hx hok h1
    go_enter Try.func44, Try.ntmps44
    go_wp2_with fail
    refine (HC.out _ HX.out).mono ?_
    rintro e w1 ⟨rfl, hb1⟩
    have HO := Lib.hid (HLN.out.next hb1)
    have HB := Lib.hid (((Below.refl w.heap.size w).alloc (Nat.le_refl _) _).trans (hb1.mono (by simp)))
    clear hb1
    go_wp2
    go_ret2
    exact ⟨⟨_, _, _, rfl, HO.out⟩, HB.out⟩
  · have HC := Lib.hid (fun w hx => specLongQuotient_yes A m c xs d w hx h1)
    have hn : (decide (0 ≤ n) && decide (n ≤ 50)) = false := by
      have := hok
      simp only [okD, h1, Bool.true_and] at this
      exact this
    have HN := Lib.hid hn
    clear hx hok h1 hn
    go_enter Try.func44, Try.ntmps44
    go_wp2_with fail
    refine (HC.out _ HX.out).mono ?_
    rintro e w1 ⟨rfl, hb1⟩
    have HO := Lib.hid (HLN.out.next hb1)
    have HB := Lib.hid (((Below.refl w.heap.size w).alloc (Nat.le_refl _) _).trans (hb1.mono (by simp)))
    clear hb1
    go_wp2_with fail
    refine (l6In_is HN.out _).mono ?_
    rintro e w' ⟨rfl, rfl⟩
    go_wp2
    go_ret2
    exact ⟨⟨_, _, _, rfl, HO.out⟩, HB.out⟩
theorem specLongDigits_any (A : Option Addr) (m c : Nat) (xs : List Int) (d n : Int) (w : World) (hx : Ints w w.heap.size A m xs) :
    Calls Try.prog 44 #[.slice A m c, .int .i64 d, .int .i64 n] w (PairPost w (okD xs d n) (digsL d (restL xs d) n.toNat)) := by
  rcases hok : okD xs d n with _ | _
  · exact specLongDigits_no A m c xs d n w hx hok
  · obtain ⟨h1, h2, h3⟩ := (okD_iff xs d n).1 hok
    obtain ⟨k, rfl⟩ := Int.eq_ofNat_of_zero_le h2
    exact specLongDigits_yes A m c xs d k w hx h1 (by omega)
end Go.Proofs.Ytphokfdaimbaiaa
