/-
  Roots: RootOf, RootPairs and RootNear of the program and of the reference.
-/
import Derived.Test.YtphokfdaimbaiaaGlRoot
namespace Go.Proofs.Ytphokfdaimbaiaa
open Go.RowKit

set_option maxHeartbeats 1000000 in
theorem RootOf_yes (n : Nat) (w : World) (hn : n ≤ 1000000000) :
    Calls Try.prog 20 #[.int .i64 (n : Int)] w fun e w' => e = .returned (.tuple #[.int .i64 (Gl.rtR n), .int .i64 (Gl.rtS n), .bool true]) ∧ Below w.heap.size w w' := by
  obtain ⟨_, hval, hlen, hdig⟩ := Gl.rt_inv n
  have hL5 := (Gl.prs_length hn).2
  have hh := Gl.horner_take hdig (by omega)
  have hall := Gl.horner_all hlen
  rw [hval] at hall
  generalize (Gl.prs n).length = L at hlen hL5 hall
  have HL := Lib.hid (Gl.prs_length hn)
  have HH := Lib.hid hh
  have HALL := Lib.hid hall
  have HLEN := Lib.hid hlen
  clear hval hlen hdig hh hall
  go_enter Try.func20, Try.ntmps20
  go_wp2_with fail
  refine (hasRoot_yes hn _).mono ?_
  rintro e w' ⟨rfl, rfl⟩
  go_wp2_with fail
  refine (rootDigits_any n _ hn).mono ?_
  rintro e w1 ⟨⟨A1, c1, rfl, ho1⟩, hb1⟩
  generalize (Gl.prs n).length = L2 at ho1 ⊢
  obtain rfl : L = L2 := by have := ho1.len; have := HLEN.out; omega
  have HI := Lib.hid ho1.ints
  have HB := Lib.hid hb1
  clear ho1 hb1
  go_wp2_with fail
  go_loop [5, 20] (fun rv i => ∃ k : Nat, k ≤ L ∧ i = .int .i64 (k : Int) ∧ rv = .int .i64 (Gl.horner 0 ((Gl.rtD n).take k))) (fun _ i => L - (intOf i).toNat)
  case atStart => exact ⟨0, by omega, by go_num, rfl⟩
  case round =>
    obtain ⟨k, hk, rfl, rfl⟩ := hrel
    obtain ⟨h0, h1⟩ := HH.out k
    by_cases hlt : k < L
    · obtain ⟨b, off, u, rfl, hub, hu, hcu⟩ := HI.out.at_ hlt
      have HN := Lib.hid (Gl.horner_next hu)
      have hu9 : 0 ≤ u ∧ u ≤ 9 := (Gl.rt_inv n).2.2.2 u (List.mem_of_getElem? hu)
      obtain ⟨u0, u1⟩ := hu9
      clear hu
      generalize Gl.horner 0 ((Gl.rtD n).take k) = r at *
      go_wp2
      go_round
      case rel => exact ⟨k + 1, by omega, by go_num, by rw [HN.out]; congr 1; omega⟩
      case measure => simp [intOf]; omega
    · obtain rfl : k = L := by omega
      rw [HALL.out] at h0 h1 ⊢
      go_wp2
      refine bodyPost_ret (results_tmp3 rfl _ _ _) rfl ?_
      exact ⟨rfl, HB.out⟩
theorem RootOf_no (n : Int) (w : World) (hn : n < 0 ∨ 1000000000 < n) :
    Calls Try.prog 20 #[.int .i64 n] w fun e w' => e = .returned (.tuple #[.int .i64 0, .int .i64 0, .bool false]) ∧ w = w' := by
  go_enter Try.func20, Try.ntmps20
  go_wp2_with fail
  refine (hasRoot_no hn _).mono ?_
  rintro e w' ⟨rfl, rfl⟩
  go_wp2
  go_ret3
  exact ⟨rfl, rfl⟩

set_option maxHeartbeats 400000 in
theorem RootPairs_yes (n : Nat) (w : World) (hn : n ≤ 1000000000) :
    Calls Try.prog 17 #[.int .i64 (n : Int)] w fun e w' => (∃ A c, e = .returned (.tuple #[.slice A (Gl.prs n).length c, .bool true]) ∧ Own w' w.heap.size A (Gl.prs n).length c (Gl.rtD n)) ∧ Below w.heap.size w w' := by
  go_enter Try.func17, Try.ntmps17
  go_wp2_with fail
  refine (hasRoot_yes hn _).mono ?_
  rintro e w' ⟨rfl, rfl⟩
  go_wp2_with fail
  refine (rootDigits_any n _ hn).mono ?_
  rintro e w1 ⟨⟨A1, c1, rfl, ho1⟩, hb1⟩
  have HI := Lib.hid ho1
  have HB := Lib.hid hb1
  clear ho1 hb1
  go_wp2
  go_ret2
  exact ⟨⟨_, _, rfl, HI.out⟩, HB.out⟩
theorem RootPairs_no (n : Int) (w : World) (hn : n < 0 ∨ 1000000000 < n) :
    Calls Try.prog 17 #[.int .i64 n] w fun e w' => e = .returned (.tuple #[.slice none 0 0, .bool false]) ∧ w = w' := by
  go_enter Try.func17, Try.ntmps17
  go_wp2_with fail
  refine (hasRoot_no hn _).mono ?_
  rintro e w' ⟨rfl, rfl⟩
  go_wp2
  go_ret2
  exact ⟨rfl, rfl⟩

/-- the integer whose square is nearest -/
def nearOf (n : Nat) : Int := Gl.near (Gl.rtR n) (Gl.rtS n)
set_option maxHeartbeats 400000 in
theorem RootNear_yes (n : Nat) (w : World) (hn : n ≤ 1000000000) :
    Calls Try.prog 14 #[.int .i64 (n : Int)] w fun e w' => e = .returned (.int .i64 (nearOf n)) ∧ Below w.heap.size w w' := by
  obtain ⟨r0, r1, s0, s1⟩ := Gl.root_bound (Gl.rt_inv n).1 (by omega)
  have hcall := fun w => RootOf_yes n w hn
  unfold nearOf
  generalize Gl.rtR n = r at *
  generalize Gl.rtS n = s at *
  have HC := Lib.hid hcall
  clear hcall
  by_cases h : r < s
  all_goals
    go_enter Try.func14, Try.ntmps14
    go_wp2_with fail
    refine (HC.out _).mono ?_
    rintro e w' ⟨rfl, hb⟩
    have HB := Lib.hid hb
    clear hb
    go_wp2
    go_ret
    exact ⟨ret_int (by simp [Gl.near]; omega), HB.out⟩
theorem RootNear_no (n : Int) (w : World) (hn : n < 0 ∨ 1000000000 < n) :
    Calls Try.prog 14 #[.int .i64 n] w fun e w' => e = .returned (.int .i64 (-1)) ∧ w = w' := by
  go_enter Try.func14, Try.ntmps14
  go_wp2_with fail
  refine (RootOf_no n _ hn).mono ?_
  rintro e w' ⟨rfl, rfl⟩
  go_wp2
  go_ret
  exact ⟨rfl, rfl⟩

/-! the reference -/
theorem half_in (a b : Nat) (h : a < b) : a < (a + b + 1) / 2 ∧ (a + b + 1) / 2 ≤ b := by omega
set_option maxHeartbeats 1000000 in
theorem l8Root_any (n : Nat) (w : World) (hn : n ≤ 1000000000) :
    Calls Try.prog 74 #[.int .i64 (n : Int)] w fun e w' => e = .returned (.int .i64 (Gl.rtR n)) ∧ w = w' := by
  go_enter Try.func74, Try.ntmps74
  go_wp2
  go_loop [3, 4] (fun lo hi => ∃ a b : Nat, a ≤ b ∧ b ≤ 100000 ∧ lo = .int .i64 (a : Int) ∧ hi = .int .i64 (b : Int) ∧ (a : Int) * (a : Int) ≤ (n : Int) ∧ (n : Int) < ((b : Int) + 1) * ((b : Int) + 1)) (fun lo hi => (intOf hi).toNat - (intOf lo).toNat)
  case atStart => exact ⟨0, 100000, by omega, by omega, rfl, rfl, by omega, by omega⟩
  case round =>
    obtain ⟨a, b, hab, hb, rfl, rfl, hlo, hhi⟩ := hrel
    have HLO := Lib.hid hlo
    have HHI := Lib.hid hhi
    clear hlo hhi
    by_cases hlt : a < b
    · obtain ⟨h1, h2⟩ := half_in a b hlt
      have hm : ((a : Int) + (b : Int) + 1) / 2 = (((a + b + 1) / 2 : Nat) : Int) := by omega
      obtain ⟨m0, m1⟩ := sq_in (show (0 : Int) ≤ ((a : Int) + (b : Int) + 1) / 2 by omega) (show ((a : Int) + (b : Int) + 1) / 2 ≤ 100000 by omega)
      generalize (a + b + 1) / 2 = m at *
      have HM := Lib.hid hm
      by_cases ht : (((a : Int) + (b : Int) + 1) / 2) * (((a : Int) + (b : Int) + 1) / 2) ≤ (n : Int)
      · have HT := Lib.hid ht
        clear hm
        go_wp2
        go_round
        case rel => exact ⟨m, b, by omega, by omega, by rw [HM.out], rfl, by have := HT.out; rwa [HM.out] at this, HHI.out⟩
        case measure => have := HM.out; simp [intOf]; omega
      · have HT := Lib.hid ht
        clear hm
        go_wp2
        go_round
        case rel => exact ⟨a, m - 1, by omega, by omega, rfl, by have := HM.out; congr 1; omega, HLO.out, by have := HT.out; rw [HM.out] at this; rw [show ((m - 1 : Nat) : Int) + 1 = (m : Int) from by omega]; omega⟩
        case measure => have := HM.out; simp [intOf]; omega
    · obtain rfl : a = b := by omega
      go_wp2
      go_ret
      exact ⟨ret_int (Gl.root_unique (Gl.isRoot_of_sq (by omega) HLO.out HHI.out) (Gl.rt_inv n).1).1, rfl⟩
theorem rest_of (n : Nat) : (n : Int) - Gl.rtR n * Gl.rtR n = Gl.rtS n := by
  have := (Gl.rt_inv n).1.2.1
  omega
set_option maxHeartbeats 400000 in
theorem specRootOf_yes (n : Nat) (w : World) (hn : n ≤ 1000000000) :
    Calls Try.prog 55 #[.int .i64 (n : Int)] w fun e w' => e = .returned (.tuple #[.int .i64 (Gl.rtR n), .int .i64 (Gl.rtS n), .bool true]) ∧ w = w' := by
  obtain ⟨r0, r1, s0, s1⟩ := Gl.root_bound (Gl.rt_inv n).1 (by omega)
  have hcall := fun w => l8Root_any n w hn
  have hrest := rest_of n
  generalize Gl.rtR n = r at *
  generalize Gl.rtS n = s at *
  obtain ⟨m0, m1⟩ := sq_in r0 r1
  have HC := Lib.hid hcall
  have HR := Lib.hid hrest
  clear hcall hrest
  go_enter Try.func55, Try.ntmps55
  go_wp2_with fail
  refine (l6In_yes (by omega) (by omega) _).mono ?_
  rintro e w' ⟨rfl, rfl⟩
  go_wp2_with fail
  refine (HC.out _).mono ?_
  rintro e w' ⟨rfl, rfl⟩
  go_wp2
  go_ret3
  exact ⟨by rw [HR.out]; rfl, rfl⟩
theorem specRootOf_no (n : Int) (w : World) (hn : n < 0 ∨ 1000000000 < n) :
    Calls Try.prog 55 #[.int .i64 n] w fun e w' => e = .returned (.tuple #[.int .i64 0, .int .i64 0, .bool false]) ∧ w = w' := by
  go_enter Try.func55, Try.ntmps55
  go_wp2_with fail
  refine (l6In_no hn _).mono ?_
  rintro e w' ⟨rfl, rfl⟩
  go_wp2
  go_ret3
  exact ⟨rfl, rfl⟩
set_option maxHeartbeats 400000 in
theorem specRootNear_yes (n : Nat) (w : World) (hn : n ≤ 1000000000) :
    Calls Try.prog 15 #[.int .i64 (n : Int)] w fun e w' => e = .returned (.int .i64 (nearOf n)) ∧ w = w' := by
  obtain ⟨r0, r1, s0, s1⟩ := Gl.root_bound (Gl.rt_inv n).1 (by omega)
  have hcall := fun w => specRootOf_yes n w hn
  unfold nearOf
  generalize Gl.rtR n = r at *
  generalize Gl.rtS n = s at *
  have HC := Lib.hid hcall
  clear hcall
  by_cases h : r < s
  all_goals
    go_enter Try.func15, Try.ntmps15
    go_wp2_with fail
    refine (HC.out _).mono ?_
    rintro e w' ⟨rfl, rfl⟩
    go_wp2
    go_ret
    exact ⟨ret_int (by simp [Gl.near]; omega), rfl⟩
theorem specRootNear_no (n : Int) (w : World) (hn : n < 0 ∨ 1000000000 < n) :
    Calls Try.prog 15 #[.int .i64 n] w fun e w' => e = .returned (.int .i64 (-1)) ∧ w = w' := by
  go_enter Try.func15, Try.ntmps15
  go_wp2_with fail
  refine (specRootOf_no n _ hn).mono ?_
  rintro e w' ⟨rfl, rfl⟩
  go_wp2
  go_ret
  exact ⟨rfl, rfl⟩
theorem near_facts {m : Nat} (hm : m ≤ 1000000000) : ∃ d, 0 ≤ nearOf m ∧ nearOf m ≤ 40001 ∧ 0 ≤ d ∧ d ≤ nearOf m ∧ max ((m : Int) - nearOf m * nearOf m) (nearOf m * nearOf m - (m : Int)) = d ∧
    ∀ k, nearOf m - 1 ≤ k → k ≤ nearOf m + 1 → 0 ≤ k → d ≤ max ((m : Int) - k * k) (k * k - (m : Int)) := by
  obtain ⟨r0, r1, s0, s1⟩ := Gl.root_bound (Gl.rt_inv m).1 (by omega)
  obtain ⟨d, h0, h1, h2, h3⟩ := Gl.near_law (Gl.rt_inv m).1
  exact ⟨d, by unfold nearOf Gl.near; split <;> omega, by unfold nearOf Gl.near; split <;> omega, h0, h1, h2, h3⟩
end Go.Proofs.Ytphokfdaimbaiaa
