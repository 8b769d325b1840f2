/-
  The laws' words on frames of a value: whether a number can be added or taken.
-/
import Derived.Test.YtpaepdlkjblfgaaFrLaw3
import Derived.Test.YtpaepdlkjblfgaaFrSpec9
namespace Go.Proofs.Ytpaepdlkjblfgaa
open Go.RowKit

section
variable {w : World} {A A' : Option Addr} {n c c' : Nat} {ds : List Int} {V T N v : Int}
/-- whether a change succeeds -/
def FrMay (w : World) (b : Bool) (e : Ending) (w' : World) : Prop :=
  ∃ A L c A' M c' p, e = .returned (.tuple #[.agg #[.slice A L c, .slice A' M c'], .int .i64 p, .bool b]) ∧ Below w.heap.size w w'
theorem sum_b (hv : FrG w (.agg #[.slice A n c, .slice A' n c']) n ds) (hV : Fr.val ds = V) (hT : Fr.ten n = T) (h0 : 0 ≤ N) (h1 : N < T) : Calls Try.prog 24 #[.agg #[.slice A n c, .slice A' n c'], .int .i64 N] w (FrMay w (decide (V + N < T))) := by
  have := FrameSum_any A A' n n c c' _ _ N _ w hv.1.rows.1 hv.1.rows.2 (hv.ok _)
  refine this.mono fun e w' q => ?_
  obtain ⟨A2, c2, A3, c3, rfl, hq, hb⟩ := q.out_
  have e : (frBy 1 ds N).isSome = decide (V + N < T) := by
    have hl := hv.2.2.1
    have h2 := frBy_is (s := 1) (.inl rfl) hv.2.1 (N := N) h0 (by rw [hl, hT]; exact h1)
    rw [hl, hT, hV] at h2
    have hr := (Fr.val_range ds hv.2.1).1
    rw [hV] at hr
    rw [Bool.eq_iff_iff, h2, decide_eq_true_iff]
    omega
  rw [e]
  exact ⟨A2, _, c2, A3, _, c3, _, rfl, hb⟩
theorem less_b (hv : FrG w (.agg #[.slice A n c, .slice A' n c']) n ds) (hV : Fr.val ds = V) (hT : Fr.ten n = T) (h0 : 0 ≤ N) (h1 : N < T) : Calls Try.prog 25 #[.agg #[.slice A n c, .slice A' n c'], .int .i64 N] w (FrMay w (decide (N ≤ V))) := by
  have := FrameLess_any A A' n n c c' _ _ N _ w hv.1.rows.1 hv.1.rows.2 (hv.ok _)
  refine this.mono fun e w' q => ?_
  obtain ⟨A2, c2, A3, c3, rfl, hq, hb⟩ := q.out_
  have e : (frBy (-1) ds N).isSome = decide (N ≤ V) := by
    have hl := hv.2.2.1
    have h2 := frBy_is (s := -1) (.inr rfl) hv.2.1 (N := N) h0 (by rw [hl, hT]; exact h1)
    rw [hl, hT, hV] at h2
    have hr := (Fr.val_range ds hv.2.1).2
    rw [hV, hl, hT] at hr
    rw [Bool.eq_iff_iff, h2, decide_eq_true_iff]
    omega
  rw [e]
  exact ⟨A2, _, c2, A3, _, c3, _, rfl, hb⟩
theorem of_g (h1 : 1 ≤ n) (h6 : n ≤ 6) (v0 : 0 ≤ v) (v1 : v < Fr.ten n) (w : World) : Calls Try.prog 21 #[.int .i64 (n : Int), .int .i64 v] w (FrGot w n (digitsOf n v)) :=
  (FrameOf_yes n v w h1 h6 v0 v1).mono fun _ _ q => q.got (digs_digitsOf n v) (digitsOf_length n v) h1 h6
theorem specof_g (h1 : 1 ≤ n) (h6 : n ≤ 6) (v0 : 0 ≤ v) (v1 : v < Fr.ten n) (w : World) : Calls Try.prog 22 #[.int .i64 (n : Int), .int .i64 v] w (FrGot w n (digitsOf n v)) :=
  (specFrameOf_yes n v w h1 h6 v0 v1).mono fun _ _ q => q.got (digs_digitsOf n v) (digitsOf_length n v) h1 h6
theorem of_n {m : Int} (h : okOf m v = false) (w : World) : Calls Try.prog 21 #[.int .i64 m, .int .i64 v] w (FrNot w) := (FrameOf_no m v w h).mono fun _ _ q => q.not_
theorem specof_n {m : Int} (h : okOf m v = false) (w : World) : Calls Try.prog 22 #[.int .i64 m, .int .i64 v] w (FrNot w) := (specFrameOf_no m v w h).mono fun _ _ q => q.not_
theorem okOf_cases (m v : Int) : okOf m v = false ∨ ∃ k : Nat, m = (k : Int) ∧ 1 ≤ k ∧ k ≤ 6 ∧ 0 ≤ v ∧ v < Fr.ten k := by
  cases h : okOf m v with
  | false => exact .inl rfl
  | true =>
    unfold okOf at h
    simp only [Bool.and_eq_true, decide_eq_true_iff] at h
    obtain ⟨⟨h1, h2⟩, h3, h4⟩ := h
    obtain ⟨k, rfl⟩ := Int.eq_ofNat_of_zero_le (show 0 ≤ m by omega)
    rw [Int.toNat_natCast] at h4
    exact .inr ⟨k, rfl, by omega, by omega, h3, h4⟩
end
end Go.Proofs.Ytpaepdlkjblfgaa
