/-
  FnRootNear returns true for every code: the nearest square is near.
-/
import Derived.Test.YtphokfdaimbaiaaGlRoot2
namespace Go.Proofs.Ytphokfdaimbaiaa.fnRootNear
open Go.RowKit

set_option maxRecDepth 100000 in
set_option maxHeartbeats 4000000 in
theorem walk (a0 : Option Addr) (len0 cap0 : Nat) (z0 : List Int) (w : World) (w0 : IsRow .u8 w a0 len0 cap0 z0) :
    Calls Try.prog 3 #[.slice a0 len0 cap0] w fun e w' => e = .returned (.bool true) ∧ Below w.heap.size w w' := by
  by_cases hbig : 1048576 < len0
  · clear w0
    go_enter Try.func3, Try.ntmps3
    go_wp2
    go_ret
    exact ⟨rfl, Below.refl _ _⟩
  · have HC := Lib.hid (Bytes.of_row w0)
    clear w0
    go_enter Try.func3, Try.ntmps3
    go_wp2_with fail
    refine (DrawRootNear_any _ _ _ _ HC.out (by omega)).mono ?_
    rintro e w1 ⟨v, rfl, hv0, hv1, hb1⟩
    have HB1 := Lib.hid hb1
    clear hb1
    by_cases hr : v < 0 ∨ 1000000000 < v
    · have HR := Lib.hid hr
      clear hr
      go_wp2_with fail
      refine (RootNear_no v _ HR.out).mono ?_
      rintro e w' ⟨rfl, rfl⟩
      go_wp2_with fail
      refine (specRootNear_no v _ HR.out).mono ?_
      rintro e w' ⟨rfl, rfl⟩
      go_wp2
      go_ret
      exact ⟨rfl, HB1.out⟩
    · obtain ⟨m, rfl⟩ := Int.eq_ofNat_of_zero_le (show 0 ≤ v by omega)
      have hm : m ≤ 1000000000 := by omega
      clear hr hv0 hv1
      have hc1 := fun w => RootNear_yes m w hm
      have hc2 := fun w => specRootNear_yes m w hm
      obtain ⟨d, o0, o1, d0, d1, hd, hall⟩ := near_facts hm
      generalize nearOf m = o at *
      have HC1 := Lib.hid hc1
      have HC2 := Lib.hid hc2
      have HALL := Lib.hid hall
      clear hc1 hc2 hall
      go_wp2_with fail
      refine (HC1.out _).mono ?_
      rintro e w2 ⟨rfl, hb2⟩
      have HB2 := Lib.hid (below_chain HB1.out hb2)
      clear hb2
      go_wp2_with fail
      refine (HC2.out _).mono ?_
      rintro e w' ⟨rfl, rfl⟩
      obtain ⟨q0, q1⟩ := sq_in o0 o1
      by_cases hy : (m : Int) - o * o < o * o - (m : Int)
      · have hD : (o * o - (m : Int)) ≤ o := by omega
        have hA : ∀ k : Int, o - 1 ≤ k → k ≤ o + 1 → 0 ≤ k → (o * o - (m : Int)) ≤ max ((m : Int) - k * k) (k * k - (m : Int)) := fun k a b c => by have := HALL.out k a b c; omega
        have HA := Lib.hid hA
        clear hA hd d0 d1
        go_wp2_with fail
        go_loop [7] (fun v => ∃ k : Int, v = .int .i64 k ∧ o - 1 ≤ k ∧ k ≤ o + 2) (fun v => (o + 2 - intOf v).toNat)
        case atStart => exact ⟨o - 1, rfl, by omega, by omega⟩
        case round =>
          obtain ⟨k, rfl, k0, k1⟩ := hrel
          by_cases hk : k ≤ o + 1
          · by_cases hz : 0 ≤ k
            · obtain ⟨p0, p1⟩ := sq_in hz (show k ≤ 40002 by omega)
              have hmx := HA.out k k0 hk hz
              by_cases hc : (m : Int) - k * k < k * k - (m : Int)
              all_goals
                first
                  | (have hlt : (o * o - (m : Int)) ≤ k * k - (m : Int) := by omega)
                  | (have hlt : (o * o - (m : Int)) ≤ (m : Int) - k * k := by omega)
                clear hmx
                go_wp2
                go_round
                case rel => exact ⟨k + 1, rfl, by omega, by omega⟩
                case measure => simp [intOf]; omega
            · go_wp2
              go_round
              case rel => exact ⟨k + 1, rfl, by omega, by omega⟩
              case measure => simp [intOf]; omega
          · go_wp2
            go_ret
            exact ⟨ret_bool (by simp <;> omega), HB2.out⟩
      · have hD : ((m : Int) - o * o) ≤ o := by omega
        have hA : ∀ k : Int, o - 1 ≤ k → k ≤ o + 1 → 0 ≤ k → ((m : Int) - o * o) ≤ max ((m : Int) - k * k) (k * k - (m : Int)) := fun k a b c => by have := HALL.out k a b c; omega
        have HA := Lib.hid hA
        clear hA hd d0 d1
        go_wp2_with fail
        go_loop [7] (fun v => ∃ k : Int, v = .int .i64 k ∧ o - 1 ≤ k ∧ k ≤ o + 2) (fun v => (o + 2 - intOf v).toNat)
        case atStart => exact ⟨o - 1, rfl, by omega, by omega⟩
        case round =>
          obtain ⟨k, rfl, k0, k1⟩ := hrel
          by_cases hk : k ≤ o + 1
          · by_cases hz : 0 ≤ k
            · obtain ⟨p0, p1⟩ := sq_in hz (show k ≤ 40002 by omega)
              have hmx := HA.out k k0 hk hz
              by_cases hc : (m : Int) - k * k < k * k - (m : Int)
              all_goals
                first
                  | (have hlt : ((m : Int) - o * o) ≤ k * k - (m : Int) := by omega)
                  | (have hlt : ((m : Int) - o * o) ≤ (m : Int) - k * k := by omega)
                clear hmx
                go_wp2
                go_round
                case rel => exact ⟨k + 1, rfl, by omega, by omega⟩
                case measure => simp [intOf]; omega
            · go_wp2
              go_round
              case rel => exact ⟨k + 1, rfl, by omega, by omega⟩
              case measure => simp [intOf]; omega
          · go_wp2
            go_ret
            exact ⟨ret_bool (by simp <;> omega), HB2.out⟩
end Go.Proofs.Ytphokfdaimbaiaa.fnRootNear
