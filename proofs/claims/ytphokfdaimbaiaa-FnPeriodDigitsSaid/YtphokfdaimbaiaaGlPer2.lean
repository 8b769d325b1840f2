/-
  Periods in the reference; the digits that come again.
-/
import Derived.Test.YtphokfdaimbaiaaGlPer
namespace Go.Proofs.Ytphokfdaimbaiaa
open Go.RowKit

theorem maxL_next {l : List Int} {k : Nat} {u : Int} (h : l[k]? = some u) : Gl.maxL (l.take (k + 1)) = if Gl.maxL (l.take k) < u then u else Gl.maxL (l.take k) := by
  rw [Gl.take_next h, Gl.maxL_snoc, Int.max_def]
  split <;> split <;> omega
theorem maxL_take {l : List Int} {m : Int} (h0 : 0 ≤ m) (h : ∀ (x : Nat) (u : Int), l[x]? = some u → 0 ≤ u ∧ u ≤ m) : ∀ k, 0 ≤ Gl.maxL (l.take k) ∧ Gl.maxL (l.take k) ≤ m := by
  intro k
  induction k with
  | zero => simp [Gl.maxL]; exact h0
  | succ k ih =>
    by_cases hk : k < l.length
    · have hu : l[k]? = some l[k] := List.getElem?_eq_getElem hk
      have := h k _ hu
      rw [maxL_next hu]
      split <;> omega
    · rw [List.take_of_length_le (by omega)] at ih ⊢; exact ih
theorem led_is {n : Nat} {k : Nat} (hn : 1 ≤ n) (h : Gl.New (n : Int) k) : Gl.maxL (Gl.led (n : Int) k) = (k : Int) := by
  obtain ⟨h1, h2⟩ := Gl.led_max (show (0 : Int) < (n : Int) by omega) h
  refine Gl.maxL_is _ _ (by omega) (fun x hx => ?_) ?_
  · obtain ⟨j, hj, rfl⟩ := List.getElem_of_mem hx
    exact (h1 j _ (List.getElem?_eq_getElem hj)).2
  · by_cases hk : k = 0
    · left; omega
    · obtain ⟨x, _, hx⟩ := h2 (by omega)
      exact .inr (List.mem_of_getElem? hx)

set_option maxRecDepth 100000 in
set_option maxHeartbeats 2000000 in
theorem specLongPeriod_yes (n : Nat) (w : World) (n1 : 1 ≤ n) (n2 : n ≤ 1000) : Calls Try.prog 33 #[.int .i64 (n : Int)] w (PerPost w (n : Int)) := by
  have hd : (0 : Int) < (n : Int) := by omega
  have hrest0 : Gl.rest (n : Int) 0 = 1 % (n : Int) := rfl
  have HR0 := Lib.hid hrest0
  clear hrest0
  go_enter Try.func33, Try.ntmps33
  go_wp2_with fail
  refine (l6In_yes (by omega) (by omega) _).mono ?_
  rintro e w' ⟨rfl, rfl⟩
  go_wp2_with (refine wpList_make_ints (B := w.heap.size) (n := n) rfl _ _ rfl rfl rfl (by omega) (Nat.le_refl _) ?_; intro w3 hown3 hg3)
  rw [← led_start] at hown3
  have HO3 := Lib.hid hown3
  have HB3 := Lib.hid (grown_below hg3 (Nat.le_refl _) (by simp))
  clear hown3 hg3
  go_loopw [6, 7] (fun rv cv wr => ∃ k x : Nat, Gl.rest (n : Int) k = (x : Int) ∧ rv = .int .i64 (x : Int) ∧ cv = .int .i64 ((k : Int) + 1) ∧ Gl.New (n : Int) k ∧ Own wr w.heap.size (some ⟨w.heap.size, 0, none⟩) n n (Gl.led (n : Int) k) ∧ Below w.heap.size w wr) (fun _ cv _ => n + 1 - (intOf cv).toNat)
  case atStart =>
    obtain ⟨x, hx, hxd⟩ := rest_nat hd 0
    exact ⟨0, x, hx, by rw [← hx]; rfl, rfl, fun i hi => by omega, HO3.out, HB3.out⟩
  case round =>
    clear HO3 HB3 HR0
    obtain ⟨k, x, hx, rfl, rfl, hnew, hown, hbel⟩ := hrel
    have hkd := Gl.new_lt hd hnew
    have hxr := Gl.rest_range (n : Int) hd k
    rw [hx] at hxr
    obtain ⟨x0, x1⟩ := hxr
    have hnn := Gl.led_find hd hnew
    rw [hx, Int.toNat_natCast] at hnn
    have hsz := hbel.size
    have HX := Lib.hid hx
    have HN := Lib.hid hnew
    have HO := Lib.hid hown
    have HB := Lib.hid hbel
    clear hx hnew hown hbel
    obtain ⟨gL, hgA, hgB, hgl, hcells, hfr⟩ := HO.out.at_ (by omega)
    obtain rfl : w.heap.size = gL := by simpa using hgA
    clear hgA
    by_cases hx0 : x = 0
    · subst hx0
      clear hcells hfr hnn
      have HP := Lib.hid (Gl.per_zero HN.out HX.out)
      have HLI := Lib.hid HO.out.ints
      have HLL := Lib.hid (Gl.led_length (n : Int) k)
      have HLM := Lib.hid (led_is n1 HN.out)
      have HLT := Lib.hid (maxL_take (l := Gl.led (n : Int) k) (m := (k : Int)) (by omega) (Gl.led_max hd HN.out).1)
      go_wp2_with fail
      go_loop [8, 9] (fun av iv => ∃ j : Nat, j ≤ n ∧ iv = .int .i64 (j : Int) ∧ av = .int .i64 (Gl.maxL ((Gl.led (n : Int) k).take j))) (fun _ iv => n - (intOf iv).toNat)
      case atStart => exact ⟨0, by omega, rfl, rfl⟩
      case round =>
        obtain ⟨j, hj, rfl, rfl⟩ := hrel
        obtain ⟨m0, m1⟩ := HLT.out j
        by_cases hlt : j < n
        · obtain ⟨b, off, u, hbb, hub, hu, hcu⟩ := HLI.out.at_ hlt
          obtain ⟨rfl, rfl⟩ : w.heap.size = b ∧ 0 = off := by simpa using hbb
          rw [Nat.zero_add] at hcu
          have HNX := Lib.hid (maxL_next hu)
          clear hu hbb
          generalize Gl.maxL ((Gl.led (n : Int) k).take j) = m at *
          by_cases hc : m < u
          all_goals
            go_wp2
            go_round
            case rel => exact ⟨j + 1, by omega, by go_num, by rw [HNX.out]; first | rw [if_pos hc] | rw [if_neg hc]⟩
            case measure => simp [intOf]; omega
        · obtain rfl : j = n := by omega
          rw [List.take_of_length_le (by have := HLL.out; simp at this; omega), HLM.out] at m0 m1 ⊢
          go_wp2
          refine bodyPost_ret (results_tmp3 rfl _ _ _) rfl ?_
          exact ⟨k, 0, rfl, HP.out, by omega, HB.out⟩
    · have hxp : (0 : Int) < (x : Int) := by omega
      rcases hnn with ⟨i, hik, hie, hcell⟩ | ⟨hno, hcell⟩
      · have hc0 := hcells x _ hcell
        have HP := Lib.hid (Gl.per_again HN.out hik (by rw [HX.out]; omega) (by rw [HX.out]; exact hie))
        rw [show ((i + 1 : Nat) : Int) = (i : Int) + 1 from by omega] at hc0
        clear hcells hfr hcell hie
        have s1 : IntKind.i64.wrap ((i : Int) + 1 - 1) = (i : Int) + 1 - 1 := IntWalk.i64_in _ (by omega)
        have s2 : IntKind.i64.wrap ((k : Int) + 1 - ((i : Int) + 1)) = (k : Int) + 1 - ((i : Int) + 1) := IntWalk.i64_in _ (by omega)
        go_wp2
        go_quiet (fail)
        clear s1 s2
        go_wp2
        refine bodyPost_ret (results_tmp3 rfl _ _ _) rfl ?_
        refine ⟨i, k - i, ?_, HP.out, by omega, below_drewN HB.out _⟩
        rw [show ((k - i : Nat) : Int) = (k : Int) + 1 - ((i : Int) + 1) from by omega]
        first | rfl | (simp; done) | (simp; rfl) | (simp; omega)
      · have hc0 := hcells x _ hcell
        have hf0 := hfr x
        have HNN := Lib.hid (Gl.new_succ HN.out (by rw [HX.out]; omega) (by rw [HX.out]; exact hno))
        have HS := Lib.hid (HO.out.store x ((k : Int) + 1))
        have HL : Hid (Gl.led (n : Int) (k + 1) = (Gl.led (n : Int) k).set x ((k : Int) + 1)) := Lib.hid (by rw [Gl.led, HX.out]; simp)
        rw [← HL.out] at HS
        have HR1 : Hid (Gl.rest (n : Int) (k + 1) = (10 * (x : Int)) % (n : Int)) := Lib.hid (by rw [Gl.rest, HX.out])
        have HB4 := Lib.hid (HB.out.grown HS.out.2 (by omega) (by intro j hj; simp at hj; omega))
        have hkd2 := Gl.new_lt hd HNN.out
        clear hcells hfr hcell hno
        go_wp2
        go_roundw
        case rel =>
          obtain ⟨y, hy, hyd⟩ := rest_nat hd (k + 1)
          exact ⟨k + 1, y, hy, by rw [← hy, HR1.out], by go_num, HNN.out, HS.out.1, HB4.out⟩
        case measure => simp [intOf]; omega
theorem specLongPeriod_no (n : Int) (w : World) (hn : n < 1 ∨ 1000 < n) : Calls Try.prog 33 #[.int .i64 n] w fun e w' => e = .returned (.tuple #[.int .i64 0, .int .i64 0, .bool false]) ∧ w = w' := by
  go_enter Try.func33, Try.ntmps33
  go_wp2_with fail
  refine (l6In_no hn _).mono ?_
  rintro e w' ⟨rfl, rfl⟩
  go_wp2
  go_ret3
  exact ⟨rfl, rfl⟩

/-! the digits of 1 divided by n -/
def dig1 (n : Nat) : List Int := digsL (n : Int) (restL [1] (n : Int)) 50
theorem rests_rest (d : Int) : ∀ k, restsL d (Gl.rest d 0) k = Gl.rest d k := by
  intro k
  induction k with
  | zero => rfl
  | succ k ih => rw [(digsL_succ d _ k).2, ih, Gl.rest]
theorem digsL_at (d r : Int) : ∀ n i : Nat, i < n → (digsL d r n)[i]? = some ((10 * restsL d r i) / d) := by
  intro n
  induction n with
  | zero => intro i h; omega
  | succ n ih =>
    intro i h
    rw [(digsL_succ d r n).1]
    by_cases hi : i < n
    · rw [List.getElem?_append_left (by rw [digsL_length]; exact hi)]; exact ih i hi
    · obtain rfl : i = n := by omega
      rw [List.getElem?_append_right (by rw [digsL_length]; omega), digsL_length]
      simp
theorem restL_one (d : Int) : restL [1] d = Gl.rest d 0 := by simp [restL, Gl.lastRest, Gl.rest]
theorem dig1_at {n i : Nat} (h : i < 50) : (dig1 n)[i]? = some ((10 * Gl.rest (n : Int) i) / (n : Int)) := by
  unfold dig1
  rw [restL_one, digsL_at _ _ 50 i h, rests_rest]
theorem dig1_again {n a p i : Nat} (h : Gl.IsPer (n : Int) a p) (hi : a ≤ i) : Gl.rest (n : Int) (i + p) = Gl.rest (n : Int) i ∧ (p = 0 → Gl.rest (n : Int) i = 0) := by
  rcases h.2 with ⟨rfl, hz⟩ | ⟨hp, _, he⟩
  · have := Gl.rest_zero (n : Int) a hz (i - a)
    rw [show a + (i - a) = i from by omega] at this
    exact ⟨rfl, fun _ => this⟩
  · have := Gl.rest_again (n : Int) a (a + p) he (i - a)
    rw [show a + (i - a) = i from by omega, show a + p + (i - a) = i + p from by omega] at this
    exact ⟨this.symm, fun h => by omega⟩
theorem okD_one {n : Nat} (h1 : 1 ≤ n) (h2 : n ≤ 1000) : okS [1] (n : Int) = true := by
  rw [okS_iff]
  exact ⟨by decide, by omega, by omega⟩
end Go.Proofs.Ytphokfdaimbaiaa
