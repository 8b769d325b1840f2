/-
  Division by doubling; what the law of the long quotient asks of the numbers.
-/
import Derived.Test.YtphokfdaimbaiaaGlLong3
namespace Go.Proofs.Ytphokfdaimbaiaa
open Go.RowKit

def pw (b : Int) : Nat → Int
  | 0 => b
  | k + 1 => pw b k * 2
def dbl (b : Int) (k : Nat) : List Int := (List.range k).map (pw b)
theorem dbl_succ (b : Int) (k : Nat) : dbl b (k + 1) = dbl b k ++ [pw b k] := by simp [dbl, List.range_succ]
theorem dbl_get {b : Int} {k j : Nat} (h : j < k) : (dbl b k)[j]? = some (pw b j) := by simp [dbl, h]
theorem pw_gt {b : Int} (hb : 1 ≤ b) : ∀ k : Nat, (k : Int) < pw b k ∧ 1 ≤ pw b k := by
  intro k
  induction k with
  | zero => simp only [pw]; omega
  | succ k ih => simp only [pw]; omega
def DupPost (w : World) (q r : Int) (e : Ending) (w' : World) : Prop := ∃ t : Int, e = .returned (.tuple #[.int .i64 q, .int .i64 r, .int .i64 t]) ∧ Below w.heap.size w w'
/-- what holds when j doubled numbers are still to be tried -/
structure Dup (a b : Int) (j : Nat) (q r : Int) : Prop where
  eq : q * pw b j + r = a
  r0 : 0 ≤ r
  r1 : r < pw b j
  q0 : 0 ≤ q
theorem Dup.bound {a b q r : Int} {j : Nat} (h : Dup a b j q r) (hb : 1 ≤ b) : q ≤ a ∧ r ≤ a := by
  have h1 := (pw_gt hb j).2
  have h2 : q * 1 ≤ q * pw b j := Int.mul_le_mul_of_nonneg_left h1 h.q0
  have := h.eq; have := h.r0
  have h3 := Int.mul_nonneg h.q0 (show 0 ≤ pw b j by omega)
  omega
theorem Dup.yes {a b q r : Int} {j : Nat} (h : Dup a b (j + 1) q r) (hm : pw b j ≤ r) : Dup a b j (q * 2 + 1) (r - pw b j) := by
  obtain ⟨e, r0, r1, q0⟩ := h
  simp only [pw] at e r1
  have e2 : (q * 2 + 1) * pw b j = q * (pw b j * 2) + pw b j := by rw [Int.add_mul, Int.one_mul, Int.mul_assoc, Int.mul_comm 2]
  exact ⟨by omega, by omega, by omega, by omega⟩
theorem Dup.no {a b q r : Int} {j : Nat} (h : Dup a b (j + 1) q r) (hm : r < pw b j) : Dup a b j (q * 2) r := by
  obtain ⟨e, r0, r1, q0⟩ := h
  simp only [pw] at e r1
  have e2 : q * 2 * pw b j = q * (pw b j * 2) := by rw [Int.mul_assoc, Int.mul_comm 2]
  exact ⟨by omega, by omega, by omega, by omega⟩
theorem Dup.done {a b q r : Int} (h : Dup a b 0 q r) : q = a / b ∧ r = a % b := Gl.div_unique a b q r h.r0 h.r1 h.eq

set_option maxRecDepth 100000 in
set_option maxHeartbeats 1000000 in
theorem dupTake_any (a b : Int) (w : World) (a0 : 1 ≤ a) (a1 : a ≤ 100000) (b0 : 1 ≤ b) (b1 : b ≤ 100000) :
    Calls Try.prog 73 #[.int .i64 a, .int .i64 b] w (DupPost w (a / b) (a % b)) := by
  go_enter Try.func73, Try.ntmps73
  go_wp2
  go_loopw [7, 8] (fun v dv wr => ∃ (k : Nat) (A : Option Addr) (c : Nat), v = .slice A k c ∧ dv = .int .i64 (pw b k) ∧ pw b k ≤ 200000 ∧ Own wr w.heap.size A k c (dbl b k) ∧ Below w.heap.size w wr) (fun _ dv _ => (200001 - intOf dv).toNat)
  case atStart => exact ⟨0, none, 0, rfl, rfl, by simp only [pw]; omega, Own.nil _ _, Below.refl _ _⟩
  case round =>
    obtain ⟨k, A, c, rfl, rfl, hp, hown, hb⟩ := hrel
    obtain ⟨hk1, hk2⟩ := pw_gt b0 k
    have hsz := hb.size
    have HO := Lib.hid hown
    have HB := Lib.hid hb
    clear hown hb
    by_cases hle : pw b k ≤ a
    · have HN := Lib.hid (show pw b (k + 1) = pw b k * 2 from rfl)
      have HD := Lib.hid (dbl_succ b k)
      generalize pw b k = m at *
      go_wp2_with (at_builtin; refine wpList_app rfl _ _ rfl rfl HO.out [m] 1 rfl _ rfl _ rfl (by omega) hsz ?_; intro A5 c5 w5 hown5 hg5)
      have HB5 := Lib.hid (below_step HB.out hg5 HO.out hsz)
      go_roundw
      case rel => exact ⟨k + 1, _, _, rfl, by rw [HN.out], by rw [HN.out]; omega, by rw [HD.out]; exact hown5, HB5.out⟩
      case measure => simp [intOf]; omega
    · have HI := Lib.hid HO.out.ints
      have HS : Hid (Dup a b k 0 a) := Lib.hid ⟨by omega, by omega, by omega, by omega⟩
      obtain ⟨wo, rfl⟩ : ∃ wo : World, wo = wr := ⟨_, rfl⟩
      have hk20 : k ≤ 200000 := by omega
      have HPW := Lib.hid hk1
      generalize hpk : pw b k = m at hle hp hk1 hk2 ⊢
      clear hpk
      go_wp2_with fail
      go_loop [9, 10, 11, 12] (fun qv rv tv iv => ∃ (j : Nat) (iz q r t : Int), qv = .int .i64 q ∧ rv = .int .i64 r ∧ tv = .int .i64 t ∧ iv = .int .i64 iz ∧ iz + 1 = (j : Int) ∧ j ≤ k ∧ 0 ≤ t ∧ t ≤ (k : Int) - (j : Int) ∧ Dup a b j q r) (fun _ _ _ iv => (intOf iv + 1).toNat)
      case atStart => exact ⟨k, (k : Int) - 1, 0, a, 0, rfl, rfl, rfl, rfl, by omega, by omega, by omega, by omega, HS.out⟩
      case round =>
        clear HS
        obtain ⟨j, iz, q, r, t, rfl, rfl, rfl, rfl, hiz, hjk, t0, t1, hd⟩ := hrel
        obtain ⟨q1, r1⟩ := hd.bound b0
        have q0 := hd.q0
        have r0 := hd.r0
        have HD := Lib.hid hd
        clear hd
        cases j with
        | zero =>
          obtain rfl : iz = -1 := by omega
          clear hiz
          go_wp2
          refine bodyPost_ret (results_tmp3 rfl _ _ _) rfl ?_
          refine ⟨t, ?_, HB.out⟩
          obtain ⟨e1, e2⟩ := HD.out.done
          rw [← e1, ← e2]
          rfl
        | succ j =>
          obtain rfl : iz = (j : Int) := by omega
          clear hiz
          obtain ⟨bb, off, u, rfl, hub, hu, hcu⟩ := HI.out.at_ (show j < k by omega)
          rw [dbl_get (by omega)] at hu
          obtain ⟨m1, m2⟩ := pw_gt b0 j
          have HU : Hid (u = pw b j) := Lib.hid (by simpa using hu.symm)
          have u1 : 1 ≤ u := by rw [HU.out]; exact m2
          clear hu m1 m2
          by_cases hle2 : u ≤ r
          · have HN := Lib.hid (HD.out.yes (by rw [← HU.out]; exact hle2))
            rw [← HU.out] at HN
            go_wp2
            go_round
            case rel => exact ⟨j, (j : Int) - 1, _, _, t + 1, rfl, rfl, rfl, rfl, by omega, by omega, by omega, by omega, HN.out⟩
            case measure => simp [intOf]
          · have HN := Lib.hid (HD.out.no (by rw [← HU.out]; omega))
            go_wp2
            go_round
            case rel => exact ⟨j, (j : Int) - 1, _, _, t, rfl, rfl, rfl, rfl, by omega, by omega, by omega, by omega, HN.out⟩
            case measure => simp [intOf]

theorem isFactor_yes {n : Int} (h1 : 1 ≤ n) (h2 : n ≤ 100000) (w : World) : Calls Try.prog 61 #[.int .i64 n] w fun e w' => e = .returned (.bool true) ∧ w = w' := isFactor_is (by simp; omega) w
theorem isFactor_no {n : Int} (h : n < 1 ∨ 100000 < n) (w : World) : Calls Try.prog 61 #[.int .i64 n] w fun e w' => e = .returned (.bool false) ∧ w = w' := isFactor_is (by rcases h with h | h <;> simp <;> omega) w
set_option maxHeartbeats 400000 in
theorem DupDivide_yes (a b : Int) (w : World) (a0 : 1 ≤ a) (a1 : a ≤ 100000) (b0 : 1 ≤ b) (b1 : b ≤ 100000) :
    Calls Try.prog 50 #[.int .i64 a, .int .i64 b] w fun e w' => e = .returned (.tuple #[.int .i64 (a / b), .int .i64 (a % b), .bool true]) ∧ Below w.heap.size w w' := by
  have HC := Lib.hid (fun w => dupTake_any a b w a0 a1 b0 b1)
  generalize a / b = q at *
  generalize a % b = r at *
  go_enter Try.func50, Try.ntmps50
  go_wp2_with fail
  refine (isFactor_yes a0 a1 _).mono ?_
  rintro e w' ⟨rfl, rfl⟩
  go_wp2_with fail
  refine (isFactor_yes b0 b1 _).mono ?_
  rintro e w' ⟨rfl, rfl⟩
  go_wp2_with fail
  refine (HC.out _).mono ?_
  rintro e w1 ⟨t, rfl, hb⟩
  have HB := Lib.hid hb
  clear hb
  go_wp2
  go_ret3
  exact ⟨rfl, HB.out⟩
theorem DupDivide_no (a b : Int) (w : World) (h : (a < 1 ∨ 100000 < a) ∨ (b < 1 ∨ 100000 < b)) :
    Calls Try.prog 50 #[.int .i64 a, .int .i64 b] w fun e w' => e = .returned (.tuple #[.int .i64 0, .int .i64 0, .bool false]) ∧ w = w' := by
  by_cases ha : a < 1 ∨ 100000 < a
  · have HA := Lib.hid ha
    clear ha h
    go_enter Try.func50, Try.ntmps50
    go_wp2_with fail
    refine (isFactor_no HA.out _).mono ?_
    rintro e w' ⟨rfl, rfl⟩
    go_wp2
    go_ret3
    exact ⟨rfl, rfl⟩
  · have hb : b < 1 ∨ 100000 < b := by omega
    have HA : Hid (1 ≤ a ∧ a ≤ 100000) := Lib.hid (by omega)
    have HB := Lib.hid hb
    clear ha h hb
    go_enter Try.func50, Try.ntmps50
    go_wp2_with fail
    refine (isFactor_yes HA.out.1 HA.out.2 _).mono ?_
    rintro e w' ⟨rfl, rfl⟩
    go_wp2_with fail
    refine (isFactor_no HB.out _).mono ?_
    rintro e w' ⟨rfl, rfl⟩
    go_wp2
    go_ret3
    exact ⟨rfl, rfl⟩

theorem quo_law {xs : List Int} {d : Int} (hok : okS xs d = true) : 1 ≤ d ∧ d ≤ 100000 ∧ 0 ≤ quoL xs d ∧ quoL xs d ≤ 999999 ∧ 0 ≤ restL xs d ∧ restL xs d < d ∧ 0 ≤ valN xs ∧ valN xs ≤ 999999 ∧
    quoL xs d * d + restL xs d = valN xs ∧ valN xs = Gl.horner 0 xs := by
  obtain ⟨h1, h2, h3⟩ := (okS_iff xs d).1 hok
  obtain ⟨hl, h6, _, _, _, hdig⟩ := dsL_facts hok
  obtain ⟨_, _, hd⟩ := (okN_iff xs).1 h1
  have hq := Gl.horner_take hdig (by omega) xs.length
  rw [Gl.horner_all hl] at hq
  have hv := Gl.horner_take hd h6 xs.length
  rw [Gl.horner_all rfl] at hv
  have hvn : valN xs = Gl.horner 0 xs := by simp [valN, h1]
  have hlaw := Gl.div_law d xs 0 0
  have hr := restL_range (xs := xs) h2
  rw [hvn]
  refine ⟨h2, h3, hq.1, hq.2, hr.1, hr.2, hv.1, hv.2, ?_, rfl⟩
  simpa [quoL, restL] using hlaw
theorem div_law2 {v d q r : Int} (r0 : 0 ≤ r) (r1 : r < d) (h : q * d + r = v) : v / d = q ∧ v % d = r := by
  obtain ⟨h1, h2⟩ := Gl.div_unique v d q r r0 r1 h
  exact ⟨h1.symm, h2.symm⟩
end Go.Proofs.Ytphokfdaimbaiaa
