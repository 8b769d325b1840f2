/-
  Periods, in the program and in the reference.
-/
import Derived.Test.YtphokfdaimbaiaaGlLong5
namespace Go.Proofs.Ytphokfdaimbaiaa
open Go.RowKit

/-- a period is told -/
def PerPost (w : World) (d : Int) (e : Ending) (w' : World) : Prop := ∃ a p : Nat, e = .returned (.tuple #[.int .i64 (a : Int), .int .i64 (p : Int), .bool true]) ∧ Gl.IsPer d a p ∧ a + p ≤ 1000 ∧ Below w.heap.size w w'
theorem per_size {d : Int} (hd : 0 < d) {a p : Nat} (h : Gl.IsPer d a p) (h1 : d ≤ 1000) : a + p ≤ 1000 := by
  have := Gl.new_lt hd (show Gl.New d (a + p) from h.1)
  omega
theorem rest_nat {d : Int} (hd : 0 < d) (k : Nat) : ∃ x : Nat, Gl.rest d k = (x : Int) ∧ (x : Int) < d := by
  have := Gl.rest_range d hd k
  obtain ⟨x, hx⟩ := Int.eq_ofNat_of_zero_le this.1
  exact ⟨x, hx, by omega⟩
theorem led_start (n : Nat) : Gl.led (n : Int) 0 = List.replicate n 0 := by simp [Gl.led]

set_option maxRecDepth 100000 in
set_option maxHeartbeats 2000000 in
theorem LongPeriod_yes (n : Nat) (w : World) (n1 : 1 ≤ n) (n2 : n ≤ 1000) : Calls Try.prog 32 #[.int .i64 (n : Int)] w (PerPost w (n : Int)) := by
  have hd : (0 : Int) < (n : Int) := by omega
  have hrest0 : Gl.rest (n : Int) 0 = 1 % (n : Int) := rfl
  have HR0 := Lib.hid hrest0
  have hfd := run_field_rest
  obtain ⟨m0, m1⟩ := Gl.rest_range (n : Int) hd 0
  rw [hrest0] at m0 m1
  clear hrest0
  go_enter Try.func32, Try.ntmps32
  go_wp2_with fail
  refine (longDivision_any (n : Int) (1 % (n : Int)) _).mono ?_
  rintro e w2 ⟨rfl, hbr, hbd, hb2⟩
  have hsz2 := hb2.size
  have hlr := hbr.lt
  have HB2 := Lib.hid hb2
  have HBR := Lib.hid hbr
  have HBD := Lib.hid hbd
  clear hb2 hbr hbd
  go_wp2_with (refine wpList_make_ints (B := w2.heap.size) (n := n) rfl _ _ rfl rfl rfl (by omega) (Nat.le_refl _) ?_; intro w3 hown3 hg3)
  rw [← led_start] at hown3
  have HO3 := Lib.hid hown3
  have HB3 := Lib.hid (HB2.out.grown hg3 (by omega) (by simp))
  have HBR3 := Lib.hid (HBR.out.grown hg3 (by simp))
  have HBD3 := Lib.hid (HBD.out.grown hg3 (by simp))
  have hsz3 := hg3.size
  rw [← HR0.out] at HBR3
  clear hown3 hg3 HBR HBD HB2
  go_loopw [5, 8] (fun rv cv wr => ∃ k x : Nat, Gl.rest (n : Int) k = (x : Int) ∧ rv = .int .i64 (x : Int) ∧ cv = .int .i64 (k : Int) ∧ Gl.New (n : Int) k ∧ Own wr w2.heap.size (some ⟨w2.heap.size, 0, none⟩) n n (Gl.led (n : Int) k) ∧
    Box wr (w.heap.size + 1) (Gl.rest (n : Int) k) ∧ Box wr w.heap.size (n : Int) ∧ Below w.heap.size w wr ∧ w2.heap.size ≤ wr.heap.size) (fun _ cv _ => n - (intOf cv).toNat)
  case atStart =>
    obtain ⟨x, hx, hxd⟩ := rest_nat hd 0
    exact ⟨0, x, hx, by rw [← hx]; rfl, rfl, fun i hi => by omega, HO3.out, HBR3.out, HBD3.out, HB3.out, hsz3⟩
  case round =>
    clear HO3 HBR3 HBD3 HB3 hsz3 HR0 m0 m1
    obtain ⟨k, x, hx, rfl, rfl, hnew, hown, hbr, hbd, hbel, hsz⟩ := hrel
    have hkd := Gl.new_lt hd hnew
    have hxr := Gl.rest_range (n : Int) hd k
    rw [hx] at hxr hbr
    obtain ⟨x0, x1⟩ := hxr
    have hnn := Gl.led_find hd hnew
    rw [hx, Int.toNat_natCast] at hnn
    have HX := Lib.hid hx
    have HN := Lib.hid hnew
    have HO := Lib.hid hown
    have HBR := Lib.hid hbr
    have HBD := Lib.hid hbd
    have HB := Lib.hid hbel
    clear hx hnew hown hbr hbd hbel
    obtain ⟨gL, hgA, hgB, hgl, hcells, hfr⟩ := HO.out.at_ (by omega)
    obtain rfl : w2.heap.size = gL := by simpa using hgA
    clear hgA
    by_cases hx0 : x = 0
    · subst hx0
      clear hcells hfr hnn
      have HP := Lib.hid (Gl.per_zero HN.out HX.out)
      go_wp2
      refine bodyPost_ret (results_tmp3 rfl _ _ _) rfl ?_
      exact ⟨k, 0, rfl, HP.out, by omega, HB.out⟩
    · have hxne : ((x : Int) == 0) = false := by simp; omega
      have hxne2 : ((x : Int) != 0) = true := by simp; omega
      rcases hnn with ⟨i, hik, hie, hcell⟩ | ⟨hno, hcell⟩
      · have hc0 := hcells x _ hcell
        have HP := Lib.hid (Gl.per_again HN.out hik (by rw [HX.out]; omega) (by rw [HX.out]; exact hie))
        have hne : ((((i + 1 : Nat) : Int)) == 0) = false := by simp; omega
        rw [show ((i + 1 : Nat) : Int) = (i : Int) + 1 from by omega] at hc0 hne
        clear hcells hfr hcell hie
        go_wp2
        refine bodyPost_ret (results_tmp3 rfl _ _ _) rfl ?_
        exact ⟨i, k - i, by rw [show ((k - i : Nat) : Int) = (k : Int) - (i : Int) from by omega]; first | rfl | (simp; rfl), HP.out, by omega, HB.out⟩
      · have hc0 := hcells x _ hcell
        have hf0 := hfr x
        have HNN := Lib.hid (Gl.new_succ HN.out (by rw [HX.out]; omega) (by rw [HX.out]; exact hno))
        have HS := Lib.hid (HO.out.store x ((k : Int) + 1))
        have HL : Hid (Gl.led (n : Int) (k + 1) = (Gl.led (n : Int) k).set x ((k : Int) + 1)) := Lib.hid (by rw [Gl.led, HX.out]; simp)
        have HR1 : Hid (Gl.rest (n : Int) (k + 1) = (10 * (x : Int)) % (n : Int)) := Lib.hid (by rw [Gl.rest, HX.out])
        have HBR1 := Lib.hid (HBR.out.grown HS.out.2 (by simp; omega))
        have HBD1 := Lib.hid (HBD.out.grown HS.out.2 (by simp; omega))
        clear hcells hfr hcell hno
        go_wp2_with fail
        refine (step_any _ _ _ (x : Int) (n : Int) 0 HBR1.out HBD1.out (by omega) x0 x1 (by omega) (by omega) (by omega)).mono ?_
        rw [show (x : Int) * 10 + 0 = 10 * (x : Int) from by omega]
        rintro e w4 ⟨rfl, hbr4, hbd4, hg4⟩
        have hsz4 := hg4.size
        have hsz4' : w2.heap.size ≤ w4.heap.size := by simp at hsz4; omega
        have HO4 := Lib.hid (HS.out.1.kept hg4 (fun j hj e => by have := (HS.out.1.blk j hj).1; simp at e; omega))
        rw [← HL.out] at HO4
        have HB4 := Lib.hid ((HB.out.grown HS.out.2 (by omega) (by intro j hj; simp at hj; omega)).grown hg4 (by simp; omega) (by intro j hj; simp at hj; omega))
        rw [← HR1.out] at hbr4
        have HBR4 := Lib.hid hbr4
        have HBD4 := Lib.hid hbd4
        have hkd2 := Gl.new_lt hd HNN.out
        clear hbr4 hbd4 hg4 hsz4
        go_wp2
        go_roundw
        case rel =>
          obtain ⟨y, hy, hyd⟩ := rest_nat hd (k + 1)
          exact ⟨k + 1, y, hy, by rw [← hy, HR1.out], by go_num, HNN.out, HO4.out, HBR4.out, HBD4.out, HB4.out, hsz4'⟩
        case measure => simp [intOf]; omega
theorem LongPeriod_no (n : Int) (w : World) (hn : n < 1 ∨ 1000 < n) : Calls Try.prog 32 #[.int .i64 n] w fun e w' => e = .returned (.tuple #[.int .i64 0, .int .i64 0, .bool false]) ∧ w = w' := by
  by_cases h1 : n < 1
  all_goals
    go_enter Try.func32, Try.ntmps32
    go_wp2
    go_ret3
    exact ⟨rfl, rfl⟩
end Go.Proofs.Ytphokfdaimbaiaa
