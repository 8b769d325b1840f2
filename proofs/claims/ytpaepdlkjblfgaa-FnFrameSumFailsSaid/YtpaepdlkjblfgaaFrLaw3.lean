/-
  The laws' words on frames that are shifted.
-/
import Derived.Test.YtpaepdlkjblfgaaFrLaw2
import Derived.Test.YtpaepdlkjblfgaaFrSpec8
namespace Go.Proofs.Ytpaepdlkjblfgaa
open Go.RowKit

theorem shift_sum {ds : List Int} (hd : Fr.Digs ds) (h1 : 1 ≤ ds.length) (hk : okS ds = true) : ∃ p, frBy 1 ds (9 * Fr.val ds) = some (shiftL ds, p) := by
  have hv := val_shift h1 hk
  have hl := shiftL_length h1
  have hr := Fr.val_range (shiftL ds) (digs_shift hd)
  rw [hl, hv] at hr
  have h0 := (Fr.val_range ds hd).1
  have hs := (frBy_is (s := 1) (.inl rfl) hd (N := 9 * Fr.val ds) (by omega) (by omega)).2 (by omega)
  obtain ⟨⟨r, p⟩, hq⟩ := Option.isSome_iff_exists.1 hs
  obtain ⟨e1, e2, e3, -⟩ := frBy_some (.inl rfl) hd hq
  have := Fr.val_inj r (shiftL ds) e1 (digs_shift hd) (e2.trans hl.symm) (by rw [e3, hv]; omega)
  exact ⟨p, by rw [hq, this]⟩
section
variable {w : World} {A A' : Option Addr} {n m c c' : Nat} {hs ls ds : List Int}
theorem shift_g (hv : FrG w (.agg #[.slice A n c, .slice A' n c']) n ds) (h : okS ds = true) : Calls Try.prog 27 #[.agg #[.slice A n c, .slice A' n c']] w (FrGot w n (shiftL ds)) := by
  have := FrameShift_yes A A' n c c' ds w hv.1.rows.1 hv.1.rows.2 hv.2.1 hv.2.2.2.1 hv.2.2.2.2
  rw [h] at this
  exact this.mono fun _ _ q => q.got (digs_shift hv.2.1) ((shiftL_length (by have := hv.2.2; omega)).trans hv.2.2.1) hv.2.2.2.1 hv.2.2.2.2
theorem specshift_g (hv : FrG w (.agg #[.slice A n c, .slice A' n c']) n ds) (h : okS ds = true) (hc : n ≤ c) (hc' : n ≤ c') : Calls Try.prog 28 #[.agg #[.slice A n c, .slice A' n c']] w (FrGot w n (shiftL ds)) := by
  have := specFrameShift_yes A A' n c c' ds w hv.1.rows.1 hv.1.rows.2 hv.2.1 hv.2.2.2.1 hv.2.2.2.2 hc hc'
  rw [h] at this
  exact this.mono fun _ _ q => q.got (digs_shift hv.2.1) ((shiftL_length (by have := hv.2.2; omega)).trans hv.2.2.1) hv.2.2.2.1 hv.2.2.2.2
/-- no shift -/
def NoShift (hs ls : List Int) : Prop := ¬ FrOk hs ls ∨ ∃ ds, Fr.Digs ds ∧ hs = HiL ds ∧ ls = LoL ds ∧ 1 ≤ ds.length ∧ ds.length ≤ 6 ∧ okS ds = false
theorem shift_cases (hs ls : List Int) : NoShift hs ls ∨ ∃ ds, Fr.Digs ds ∧ hs = HiL ds ∧ ls = LoL ds ∧ 1 ≤ ds.length ∧ ds.length ≤ 6 ∧ okS ds = true := by
  by_cases h : FrOk hs ls
  · obtain ⟨ds, h1, h2, h3, h4, h5⟩ := h
    cases hq : okS ds with
    | false => exact .inl (.inr ⟨ds, h1, h2, h3, h4, h5, hq⟩)
    | true => exact .inr ⟨ds, h1, h2, h3, h4, h5, hq⟩
  · exact .inl (.inl h)
theorem shift_n (hv : FrV w (.agg #[.slice A n c, .slice A' m c']) hs ls) (h : NoShift hs ls) : Calls Try.prog 27 #[.agg #[.slice A n c, .slice A' m c']] w (FrNot w) := by
  rcases h with h | ⟨ds, hd, rfl, rfl, h1, h6, hk⟩
  · exact (FrameShift_no A A' n m c c' hs ls w hv.rows.1 hv.rows.2 h).mono fun _ _ q => q.not_
  · obtain ⟨e1, e2, hg⟩ := hv.g hd h1 h6
    subst e1
    subst e2
    have := FrameShift_yes A A' _ c c' ds w hg.1.rows.1 hg.1.rows.2 hd h1 h6
    rw [hk] at this
    exact this.mono fun _ _ q => q.not_
theorem specshift_n (hv : FrV w (.agg #[.slice A n c, .slice A' m c']) hs ls) (h : NoShift hs ls) (hc : n ≤ c) (hc' : m ≤ c') : Calls Try.prog 28 #[.agg #[.slice A n c, .slice A' m c']] w (FrNot w) := by
  rcases h with h | ⟨ds, hd, rfl, rfl, h1, h6, hk⟩
  · exact (specFrameShift_no A A' n m c c' hs ls w hv.rows.1 hv.rows.2 h).mono fun _ _ q => q.not_
  · obtain ⟨e1, e2, hg⟩ := hv.g hd h1 h6
    subst e1
    subst e2
    have := specFrameShift_yes A A' _ c c' ds w hg.1.rows.1 hg.1.rows.2 hd h1 h6 hc hc'
    rw [hk] at this
    exact this.mono fun _ _ q => q.not_
end
end Go.Proofs.Ytpaepdlkjblfgaa
