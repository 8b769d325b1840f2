/-
  The steps of a long division, in the program and in the reference.
-/
import Derived.Test.YtphokfdaimbaiaaGlStep
namespace Go.Proofs.Ytphokfdaimbaiaa
open Go.RowKit

def okS (xs : List Int) (d : Int) : Bool := okN xs && (decide (1 ≤ d) && decide (d ≤ 100000))
/-- steps and whether there are any -/
def StepPost (w : World) (ok : Bool) (l : List (Int × Int)) (e : Ending) (w' : World) : Prop :=
  (∃ A n c, e = .returned (.tuple #[.slice A n c, .bool ok]) ∧ OwnS w' w.heap.size A n c (if ok then l else [])) ∧ Below w.heap.size w w'

set_option maxRecDepth 100000 in
set_option maxHeartbeats 1000000 in
theorem LongSteps_yes (A : Option Addr) (n c : Nat) (xs : List Int) (d : Int) (w : World) (hx : Ints w w.heap.size A n xs) (hok : okN xs = true) (d0 : 1 ≤ d) (d1 : d ≤ 100000) :
    Calls Try.prog 23 #[.slice A n c, .int .i64 d] w (StepPost w true (Gl.steps d 0 xs)) := by
  obtain ⟨hn1, hn6, hd⟩ := (okN_iff xs).1 hok
  rw [hx.len] at hn1 hn6
  have HX := Lib.hid hx
  have HOK := Lib.hid hok
  have HD := Lib.hid hd
  clear hx hok hd
  go_enter Try.func23, Try.ntmps23
  go_wp2_with fail
  refine (NumeralValid_is HX.out HOK.out).mono ?_
  rintro e w1 ⟨rfl, hb1⟩
  have hsz1 := hb1.size
  have HB1 := Lib.hid hb1
  clear hb1
  go_wp2_with fail
  refine (isFactor_is (r := true) (by simp; omega) _).mono ?_
  rintro e w' ⟨rfl, rfl⟩
  go_wp2_with fail
  refine (longDivision_any d 0 _).mono ?_
  rintro e w2 ⟨rfl, hbr, hbd, hb2⟩
  have hsz2 := hb2.size
  have hlr := hbr.lt
  have HB2 := Lib.hid (HB1.out.trans (hb2.mono hsz1))
  have HBR := Lib.hid hbr
  have HBD := Lib.hid hbd
  clear hb2 hbr hbd
  go_wp2_with (at_make; refine wpList_makeS (B := w2.heap.size) rfl _ _ rfl (n := n) rfl rfl (by omega) (Nat.le_refl _) ?_; intro w3 hown3 hg3)
  have HO3 := Lib.hid hown3
  have HB3 := Lib.hid (HB2.out.grown hg3 (by omega) (by simp))
  have HBR3 := Lib.hid (HBR.out.grown hg3 (by simp))
  have HBD3 := Lib.hid (HBD.out.grown hg3 (by simp))
  have hsz3 := hg3.size
  clear hown3 hg3 HBR HBD HB2
  go_loopw [7, 25] (fun v i wr => ∃ (k : Nat) (T : Option Addr) (c : Nat) (r : Int), k ≤ n ∧ i = .int .i64 (k : Int) ∧ v = .slice T k c ∧ Gl.lastRest d 0 (xs.take k) = r ∧ 0 ≤ r ∧ r < d ∧ OwnS wr w2.heap.size T k c (Gl.steps d 0 (xs.take k)) ∧
    Box wr (w1.heap.size + 1) r ∧ Box wr w1.heap.size d ∧ Below w.heap.size w wr ∧ w2.heap.size ≤ wr.heap.size) (fun _ i _ => n - (intOf i).toNat)
  case atStart => exact ⟨0, _, _, 0, by omega, by go_num, rfl, rfl, by omega, by omega, HO3.out, HBR3.out, HBD3.out, HB3.out, hsz3⟩
  case round =>
    clear HO3 HBR3 HBD3 HB3 hsz3
    obtain ⟨k, T, c2, r, hk, rfl, rfl, hr, r0, r1, hown, hbr, hbd, hbel, hsz⟩ := hrel
    have HR := Lib.hid hr
    have HO := Lib.hid hown
    have HBR := Lib.hid hbr
    have HBD := Lib.hid hbd
    have HB := Lib.hid hbel
    clear hr hown hbr hbd hbel
    by_cases hlt : k < n
    · obtain ⟨b, off, u, rfl, hub, hu, hcu⟩ := (HX.out.below HB.out).at_ hlt
      obtain ⟨u0, u9⟩ := HD.out u (List.mem_of_getElem? hu)
      have HS := Lib.hid (Gl.steps_next (d := d) (r := 0) hu)
      have HRN := Lib.hid (Gl.rest_next (d := d) (r := 0) hu)
      rw [HR.out] at HS HRN
      clear hu
      go_wp2_with fail
      refine (step_any _ _ _ r d u HBR.out HBD.out (by omega) r0 r1 d1 u0 u9).mono ?_
      rintro e w4 ⟨rfl, hbr4, hbd4, hg4⟩
      have m0 := Int.emod_nonneg (r * 10 + u) (show d ≠ 0 by omega)
      have m1 := Int.emod_lt_of_pos (r * 10 + u) (show 0 < d by omega)
      have hsz4 := hg4.size
      have HO4 := Lib.hid (HO.out.kept hg4 (fun j hj e => by have := (HO.out.blk j hj).1; simp at e; omega))
      have HB4 := Lib.hid (HB.out.grown hg4 (by omega) (by intro j hj; simp at hj; omega))
      have HBR4 := Lib.hid hbr4
      have HBD4 := Lib.hid hbd4
      clear hbr4 hbd4 hg4
      go_wp2_with (at_builtin; refine wpList_appS rfl _ _ rfl rfl HO4.out ((r * 10 + u) / d) ((r * 10 + u) % d) _ rfl _ rfl (by omega) (by omega) ?_; intro T5 c5 w5 hown5 hg5)
      have HB5 := Lib.hid (HB4.out.grown hg5 (by omega) fun j hj => by have := (HO4.out.blk j hj).1; omega)
      have HBR5 := Lib.hid (HBR4.out.grown hg5 (fun e => by have := (HO4.out.blk _ e).1; omega))
      have HBD5 := Lib.hid (HBD4.out.grown hg5 (fun e => by have := (HO4.out.blk _ e).1; omega))
      have hsz5 := hg5.size
      go_roundw
      case rel => exact ⟨k + 1, _, _, _, by omega, by go_num, rfl, by rw [HRN.out, show 10 * r + u = r * 10 + u from by omega], m0, m1, by rw [HS.out, show 10 * r + u = r * 10 + u from by omega]; exact hown5, HBR5.out, HBD5.out, HB5.out, by omega⟩
      case measure => simp [intOf]; omega
    · obtain rfl : k = n := by omega
      have HF := Lib.hid (HO.out.mono (show w.heap.size ≤ w2.heap.size by omega))
      rw [(Gl.steps_all HX.out.len).1] at HF
      go_wp2
      go_ret2
      exact ⟨⟨_, _, _, rfl, HF.out⟩, HB.out⟩
theorem LongSteps_no (A : Option Addr) (n c : Nat) (xs : List Int) (d : Int) (w : World) (hx : Ints w w.heap.size A n xs) (hok : okS xs d = false) :
    Calls Try.prog 23 #[.slice A n c, .int .i64 d] w (StepPost w false []) := by
  have HX := Lib.hid hx
  have HOK := Lib.hid hok
  clear hx hok
  rcases h1 : okN xs with _ | _
  · have H1 := Lib.hid h1
    clear h1
    go_enter Try.func23, Try.ntmps23
    go_wp2_with fail
    refine (NumeralValid_is HX.out H1.out).mono ?_
    rintro e w1 ⟨rfl, hb1⟩
    have HB1 := Lib.hid hb1
    clear hb1
    go_wp2
    go_ret2
    exact ⟨⟨_, _, _, rfl, OwnS.nil _ _⟩, HB1.out⟩
  · have h2 : (decide (1 ≤ d) && decide (d ≤ 100000)) = false := by have := HOK.out; simp only [okS, h1, Bool.true_and] at this; exact this
    have H1 := Lib.hid h1
    have H2 := Lib.hid h2
    clear h1 h2
    go_enter Try.func23, Try.ntmps23
    go_wp2_with fail
    refine (NumeralValid_is HX.out H1.out).mono ?_
    rintro e w1 ⟨rfl, hb1⟩
    have HB1 := Lib.hid hb1
    clear hb1
    go_wp2_with fail
    refine (isFactor_is H2.out _).mono ?_
    rintro e w' ⟨rfl, rfl⟩
    go_wp2
    go_ret2
    exact ⟨⟨_, _, _, rfl, OwnS.nil _ _⟩, HB1.out⟩
theorem okS_iff (xs : List Int) (d : Int) : okS xs d = true ↔ okN xs = true ∧ 1 ≤ d ∧ d ≤ 100000 := by simp [okS]
theorem LongSteps_any (A : Option Addr) (n c : Nat) (xs : List Int) (d : Int) (w : World) (hx : Ints w w.heap.size A n xs) :
    Calls Try.prog 23 #[.slice A n c, .int .i64 d] w (StepPost w (okS xs d) (Gl.steps d 0 xs)) := by
  rcases hok : okS xs d with _ | _
  · exact LongSteps_no A n c xs d w hx hok
  · obtain ⟨h1, h2, h3⟩ := (okS_iff xs d).1 hok
    exact LongSteps_yes A n c xs d w hx h1 h2 h3
end Go.Proofs.Ytphokfdaimbaiaa
