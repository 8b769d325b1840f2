/-
  A frame is changed by a number.
-/
import Derived.Test.YtpaepdlkjblfgaaDoorFrFns
namespace Go.Proofs.YtpaepdlkjblfgaaDoor
open Go.RowKit

/-- what is left to be done from rod k on, p pushes behind it -/
def allP (s : Int) (ds : List Int) (k : Nat) (N p : Int) : Option (List Int × Int) := (Fr.allF s (ds.length - k) (ds.drop k) N).map fun q => (ds.take k ++ q.1, p + q.2)
theorem allP_zero (s : Int) (ds : List Int) (N : Int) : allP s ds 0 N 0 = Fr.all s ds N := by
  unfold allP Fr.all
  rw [List.drop_zero, Nat.sub_zero]
  cases Fr.allF s ds.length ds N <;> simp
theorem allP_done (s : Int) (ds : List Int) (k : Nat) (p : Int) : allP s ds k 0 p = some (ds, p) := by
  unfold allP
  cases h : ds.length - k with
  | zero => simp [Fr.allF]
  | succ m => simp [Fr.allF]
theorem chg_upper (s : Int) (ds : List Int) : ∀ g r n, Fr.chg s ds g = some (r, n) → 0 ≤ n ∧ n ≤ 2 * ds.length := by
  induction ds with
  | nil =>
    intro g r n h
    simp only [Fr.chg] at h
    split at h
    · simp at h; omega
    · cases h
  | cons d ds ih =>
    intro g r n h
    simp only [Fr.chg] at h
    split at h
    · simp at h; simp; omega
    · split at h
      · simp at h; have := cost_le d (d + s * g); simp; omega
      · rw [Option.map_eq_some_iff] at h
        obtain ⟨⟨r', n'⟩, hr, h⟩ := h
        simp at h
        have := ih _ _ _ hr
        have := cost_le d (d + s * g - 10 * s)
        simp; omega
theorem chgAt_upper {s : Int} {ds : List Int} {k : Nat} {g : Int} {R : List Int × Int} (h : chgAt s ds k g = some R) : 0 ≤ R.2 ∧ R.2 ≤ 2 * ds.length := by
  unfold chgAt at h
  rw [Option.map_eq_some_iff] at h
  obtain ⟨⟨r', n'⟩, hr, h⟩ := h
  subst h
  have := chg_upper _ _ _ _ _ hr
  simp at this ⊢
  omega
/-- one digit more -/
theorem allP_none {s : Int} {ds : List Int} {k : Nat} {N p : Int} (hk : k < ds.length) (hN : N ≠ 0) (h : chgAt s ds k (N % 10) = none) : allP s ds k N p = none := by
  obtain ⟨m, hm⟩ : ∃ m, ds.length - k = m + 1 := ⟨ds.length - k - 1, by omega⟩
  unfold allP
  rw [hm]
  simp only [Fr.allF, if_neg hN]
  unfold chgAt at h
  rw [Option.map_eq_none_iff] at h
  rw [h]
  rfl
theorem allP_some {s : Int} (hs : Fr.Sgn s) {ds es : List Int} {k : Nat} {N p n : Int} (hd : Fr.Digs ds) (hk : k < ds.length) (hN : N ≠ 0) (h : chgAt s ds k (N % 10) = some (es, n)) : allP s ds k N p = allP s es (k + 1) (N / 10) (p + n) := by
  obtain ⟨m, hm⟩ : ∃ m, ds.length - k = m + 1 := ⟨ds.length - k - 1, by omega⟩
  have h' := h
  unfold chgAt at h'
  rw [Option.map_eq_some_iff] at h'
  obtain ⟨⟨r, n'⟩, hr, h'⟩ := h'
  simp only [Prod.mk.injEq] at h'
  obtain ⟨rfl, rfl⟩ := h'
  obtain ⟨c1, c2, _⟩ := Fr.chg_some s hs _ _ _ _ (digs_drop hd k) (Int.emod_nonneg N (by omega)) (by have := Int.emod_lt_of_pos N (b := 10) (by omega); omega) hr
  rw [List.length_drop] at c2
  cases r with
  | nil => simp at c2; omega
  | cons d1 ds1 =>
    have hl : (ds.take k).length = k := by rw [List.length_take]; omega
    have e1 : (ds.take k ++ d1 :: ds1).length - (k + 1) = m := by simp at c2 ⊢; omega
    have e2 : (ds.take k ++ d1 :: ds1).drop (k + 1) = ds1 := by
      rw [List.drop_append, hl, List.drop_of_length_le (by omega), List.nil_append, show k + 1 - k = 1 from by omega]; rfl
    have e3 : (ds.take k ++ d1 :: ds1).take (k + 1) = ds.take k ++ [d1] := by
      rw [List.take_append, hl, List.take_of_length_le (by omega), show k + 1 - k = 1 from by omega]; rfl
    unfold allP
    rw [e1, e2, e3, hm]
    simp only [Fr.allF, if_neg hN, hr]
    cases Fr.allF s m ds1 (N / 10) with
    | none => rfl
    | some q => simp; omega

theorem chgAt_digs' {s : Int} (hs : Fr.Sgn s) {ds es : List Int} {k : Nat} {g n : Int} (hd : Fr.Digs ds) (h0 : 0 ≤ g) (h9 : g ≤ 9) (h : chgAt s ds k g = some (es, n)) : Fr.Digs es ∧ es.length = ds.length := by
  unfold chgAt at h
  rw [Option.map_eq_some_iff] at h
  obtain ⟨⟨r, n'⟩, hr, h'⟩ := h
  simp only [Prod.mk.injEq] at h'
  obtain ⟨rfl, rfl⟩ := h'
  obtain ⟨c1, c2, _⟩ := Fr.chg_some s hs _ _ _ _ (digs_drop hd k) h0 h9 hr
  rw [List.length_drop] at c2
  refine ⟨?_, ?_⟩
  · intro d hd'
    rcases List.mem_append.1 hd' with h | h
    · exact hd d (List.mem_of_mem_take h)
    · exact c1 d h
  · simp; omega

/-- a number in its range -/
def frBy (s : Int) (ds : List Int) (N : Int) : Option (List Int × Int) := if 0 ≤ N ∧ N < Fr.ten ds.length then Fr.all s ds N else none
theorem frBy_in {s : Int} {ds : List Int} {N : Int} (h : 0 ≤ N ∧ N < Fr.ten ds.length) : frBy s ds N = Fr.all s ds N := if_pos h
theorem frBy_out {s : Int} {ds : List Int} {N : Int} (h : ¬ (0 ≤ N ∧ N < Fr.ten ds.length)) : frBy s ds N = none := if_neg h

theorem frOf_ex (hs ls : List Int) (f : List Int → Option (List Int × Int)) : ∃ R, frOf hs ls f R := by
  by_cases h : FrOk hs ls
  · obtain ⟨ds, h1, h2, h3, h4, h5⟩ := h
    exact ⟨f ds, .inr ⟨ds, h1, h2, h3, h4, h5, rfl⟩⟩
  · exact ⟨none, .inl ⟨h, rfl⟩⟩
theorem frAt_digs {s : Int} (hs : Fr.Sgn s) {ds : List Int} {k x : Int} {R : List Int × Int} (hd : Fr.Digs ds) (h : frAt s ds k x = some R) : Fr.Digs R.1 ∧ R.1.length = ds.length := by
  unfold frAt at h
  split at h
  · next hk => exact chgAt_digs' hs hd hk.2.2.1 hk.2.2.2 (by rw [h])
  · cases h
theorem frBy_digs {s : Int} (hs : Fr.Sgn s) {ds : List Int} {N : Int} {R : List Int × Int} (hd : Fr.Digs ds) (h : frBy s ds N = some R) : Fr.Digs R.1 ∧ R.1.length = ds.length := by
  unfold frBy at h
  split at h
  · next hk =>
    obtain ⟨a1, a2, _⟩ := Fr.all_some s hs ds N R.1 R.2 hd hk.1 h
    exact ⟨a1, a2⟩
  · cases h
theorem resL_len_at {s : Int} (hsg : Fr.Sgn s) {hs ls : List Int} {k x : Int} {R : Option (List Int × Int)} (h : frOf hs ls (fun ds => frAt s ds k x) R) : (resL R).length ≤ 6 := by
  rcases h with ⟨_, rfl⟩ | ⟨ds, h1, _, _, _, h5, h6⟩
  · simp [resL]
  · cases R with
    | none => simp [resL]
    | some p => have := (frAt_digs hsg h1 h6.symm).2; simp [resL]; omega
theorem resL_len_by {s : Int} (hsg : Fr.Sgn s) {hs ls : List Int} {N : Int} {R : Option (List Int × Int)} (h : frOf hs ls (fun ds => frBy s ds N) R) : (resL R).length ≤ 6 := by
  rcases h with ⟨_, rfl⟩ | ⟨ds, h1, _, _, _, h5, h6⟩
  · simp [resL]
  · cases R with
    | none => simp [resL]
    | some p => have := (frBy_digs hsg h1 h6.symm).2; simp [resL]; omega
end Go.Proofs.YtpaepdlkjblfgaaDoor
