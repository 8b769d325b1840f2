/-
  Powers of ten; what the law of further digits asks of the numbers.
-/
import Derived.Test.YtphokfdaimbaiaaGlLong4
namespace Go.Proofs.Ytphokfdaimbaiaa
open Go.RowKit

theorem ten_range : ∀ n : Nat, n ≤ 10 → 1 ≤ (10 : Int) ^ n ∧ (10 : Int) ^ n ≤ 10000000000 := by decide
set_option maxHeartbeats 400000 in
theorem tenTo_any (n : Nat) (w : World) (hn : n ≤ 9) : Calls Try.prog 52 #[.int .i64 (n : Int)] w fun e w' => e = .returned (.int .i64 ((10 : Int) ^ n)) ∧ w = w' := by
  go_enter Try.func52, Try.ntmps52
  go_wp2
  go_loop [3, 4] (fun v i => ∃ k : Nat, k ≤ n ∧ i = .int .i64 (k : Int) ∧ v = .int .i64 ((10 : Int) ^ k)) (fun _ i => n - (intOf i).toNat)
  case atStart => exact ⟨0, by omega, rfl, rfl⟩
  case round =>
    obtain ⟨k, hk, rfl, rfl⟩ := hrel
    obtain ⟨h0, h1⟩ := ten_range k (by omega)
    by_cases hlt : k < n
    · have HN : Hid ((10 : Int) ^ (k + 1) = 10 * 10 ^ k) := Lib.hid (by rw [Int.pow_succ]; omega)
      generalize (10 : Int) ^ k = t at *
      go_wp2
      go_round
      case rel => exact ⟨k + 1, by omega, by go_num, by rw [HN.out]⟩
      case measure => simp [intOf]; omega
    · obtain rfl : k = n := by omega
      go_wp2
      go_ret
      exact ⟨rfl, rfl⟩
theorem horner_zeros (n : Nat) : ∀ v, Gl.horner v (List.replicate n 0) = v * 10 ^ n := by
  induction n with
  | zero => intro v; simp [Gl.horner]
  | succ n ih =>
    intro v
    rw [List.replicate_succ]
    show Gl.horner (10 * v + 0) (List.replicate n 0) = _
    rw [ih, Int.pow_succ, Int.add_zero, Int.mul_comm 10 v, Int.mul_assoc, Int.mul_comm 10]
theorem digits_law {xs : List Int} {d : Int} (hok : okS xs d = true) (n : Nat) (hn : n ≤ 9) :
    Gl.horner (quoL xs d) (digsL d (restL xs d) n) * d + restsL d (restL xs d) n = valN xs * 10 ^ n ∧
    (∀ k, 0 ≤ Gl.horner (quoL xs d) ((digsL d (restL xs d) n).take k) ∧ Gl.horner (quoL xs d) ((digsL d (restL xs d) n).take k) ≤ 1000000000000000) ∧
    0 ≤ restsL d (restL xs d) n ∧ restsL d (restL xs d) n < d := by
  obtain ⟨d0, d1, q0, q1, r0, r1, v0, v1, hlaw, hval⟩ := quo_law hok
  have hr := digsL_range r0 r1 n
  refine ⟨?_, fun k => ?_, (restsL_range r0 r1 n).1, (restsL_range r0 r1 n).2⟩
  · have := Gl.div_law d (List.replicate n 0) (restL xs d) (quoL xs d)
    rw [hlaw, horner_zeros] at this
    exact this
  · have hm : ∀ x ∈ (digsL d (restL xs d) n).take k, 0 ≤ x ∧ x ≤ 9 := fun x hx => hr x (List.mem_of_mem_take hx)
    have h1 := Gl.horner_nonneg _ _ q0 (fun x hx => (hm x hx).1)
    have h2 := Gl.horner_lt _ _ q0 hm
    have hl : ((digsL d (restL xs d) n).take k).length ≤ 9 := by rw [List.length_take, digsL_length]; omega
    obtain ⟨t0, t1⟩ := ten_range _ (show ((digsL d (restL xs d) n).take k).length ≤ 10 by omega)
    have t2 : (10 : Int) ^ ((digsL d (restL xs d) n).take k).length ≤ 10 ^ 9 := by
      have := Nat.pow_le_pow_right (show 0 < 10 by omega) hl
      exact_mod_cast this
    have h3 : (quoL xs d + 1) * (10 : Int) ^ ((digsL d (restL xs d) n).take k).length ≤ 1000000 * 10 ^ 9 := Int.mul_le_mul (by omega) t2 (by omega) (by omega)
    have h4 : (10 : Int) ^ 9 = 1000000000 := by decide
    omega
theorem horner_next' {ds : List Int} {k : Nat} {u q : Int} (h : ds[k]? = some u) : Gl.horner q (ds.take (k + 1)) = 10 * Gl.horner q (ds.take k) + u := by rw [Gl.take_next h, Gl.horner_snoc]
end Go.Proofs.Ytphokfdaimbaiaa
