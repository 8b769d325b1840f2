/-
  Digits on a rod that is not the first: value, distance, the way back, nines. No program in sight.
-/
import Derived.Test.YtpaepdlkjblfgaaDoorFrBy
import Derived.Test.YtpaepdlkjblfgaaDoorFrFns2
import Derived.Test.YtpaepdlkjblfgaaDoorFrShift
namespace Go.Proofs.YtpaepdlkjblfgaaDoor
open Go.RowKit

theorem val_append (xs bs : List Int) : Fr.val (xs ++ bs) = Fr.val xs + Fr.ten xs.length * Fr.val bs := by
  induction xs with
  | nil => simp [Fr.val, Fr.ten]
  | cons a l ih => rw [List.cons_append, Fr.val, ih, Fr.val, List.length_cons, Fr.ten_succ, Int.mul_add, Int.mul_assoc]; omega
theorem val_split (ds : List Int) (k : Nat) (hk : k ≤ ds.length) : Fr.val ds = Fr.val (ds.take k) + Fr.ten k * Fr.val (ds.drop k) := by
  conv => lhs; rw [← List.take_append_drop k ds]
  rw [val_append, List.length_take, Nat.min_eq_left hk]
theorem dist_append (xs : List Int) : ∀ bs cs, Fr.dist (xs ++ bs) (xs ++ cs) = Fr.dist bs cs := by
  induction xs with
  | nil => intro bs cs; rfl
  | cons a l ih => intro bs cs; rw [List.cons_append, List.cons_append, Fr.dist, ih, Fr.cost_self]; omega
theorem digs_append {xs bs : List Int} (h : Fr.Digs xs) (k : Fr.Digs bs) : Fr.Digs (xs ++ bs) := by
  intro d hd
  rcases List.mem_append.1 hd with h1 | h1
  · exact h d h1
  · exact k d h1
theorem digs_take {ds : List Int} (h : Fr.Digs ds) (k : Nat) : Fr.Digs (ds.take k) := fun d hd => h d (List.mem_of_mem_take hd)
theorem nines_append (xs bs : List Int) : Fr.nines (xs ++ bs) = Fr.nines xs ++ Fr.nines bs := by simp [Fr.nines]
theorem nines_length (ds : List Int) : (Fr.nines ds).length = ds.length := by simp [Fr.nines]
theorem nines_take (ds : List Int) (k : Nat) : (Fr.nines ds).take k = Fr.nines (ds.take k) := by simp [Fr.nines, List.map_take]
theorem nines_drop (ds : List Int) (k : Nat) : (Fr.nines ds).drop k = Fr.nines (ds.drop k) := by simp [Fr.nines, List.map_drop]

/-- a digit on a rod -/
theorem frAt_some {s : Int} (hs : Fr.Sgn s) {ds r : List Int} {k x n : Int} (hd : Fr.Digs ds) (h : frAt s ds k x = some (r, n)) :
    Fr.Digs r ∧ r.length = ds.length ∧ Fr.val r = Fr.val ds + s * x * Fr.ten k.toNat ∧ Fr.dist ds r = n ∧ 0 ≤ n ∧ frAt (0 - s) r k x = some (ds, n) ∧ frAt (0 - s) (Fr.nines ds) k x = some (Fr.nines r, n) ∧ 0 ≤ k ∧ k < ds.length ∧ 0 ≤ x ∧ x ≤ 9 := by
  unfold frAt at h
  by_cases hc : 0 ≤ k ∧ k < ds.length ∧ 0 ≤ x ∧ x ≤ 9
  · rw [if_pos hc] at h
    obtain ⟨k0, k1, x0, x9⟩ := hc
    obtain ⟨j, rfl⟩ := Int.eq_ofNat_of_zero_le k0
    rw [Int.toNat_natCast] at h ⊢
    have hj : j < ds.length := by omega
    unfold chgAt at h
    cases hq : Fr.chg s (ds.drop j) x with
    | none => rw [hq] at h; cases h
    | some p =>
      obtain ⟨q, m⟩ := p
      rw [hq] at h
      simp only [Option.map_some, Option.some.injEq, Prod.mk.injEq] at h
      obtain ⟨rfl, rfl⟩ := h
      have hdd := digs_drop hd j
      obtain ⟨e1, e2, e3, e4, e5, -⟩ := Fr.chg_some s hs _ x q m hdd x0 x9 hq
      have hb := Fr.chg_back s hs _ x q m hdd x0 x9 hq
      have hn := Fr.chg_nines s hs _ x hdd x0 x9
      rw [hq, Option.map_some] at hn
      have hlen : (ds.take j).length = j := by rw [List.length_take]; omega
      have hl2 : (ds.take j ++ q).length = ds.length := by rw [List.length_append, hlen, e2, List.length_drop]; omega
      refine ⟨digs_append (digs_take hd j) e1, hl2, ?_, ?_, e5, ?_, ?_, k0, k1, x0, x9⟩
      · rw [val_append, hlen, e3, val_split ds j (by omega), Int.mul_add, Int.mul_comm (s * x)]; omega
      · conv => lhs; lhs; rw [← List.take_append_drop j ds]
        rw [dist_append, e4]
      · unfold frAt
        rw [if_pos (by rw [hl2]; omega), Int.toNat_natCast]
        unfold chgAt
        rw [List.drop_append_of_le_length (by omega), show (ds.take j).drop j = [] from List.drop_eq_nil_of_le (by omega), List.nil_append, hb]
        simp only [Option.map_some]
        rw [List.take_append_of_le_length (by omega), List.take_take, Nat.min_self, List.take_append_drop]
      · unfold frAt
        rw [if_pos (by rw [nines_length]; omega), Int.toNat_natCast]
        unfold chgAt
        rw [nines_drop, hn, Option.map_some, nines_take, nines_append]
  · rw [if_neg hc] at h; cases h
/-- a rod filled up to nine -/
theorem frAt_nine {ds : List Int} {j : Nat} {d : Int} (hd : Fr.Digs ds) (h : ds[j]? = some d) : ∃ n, frAt 1 ds (j : Int) (9 - d) = some (ds.set j 9, n) := by
  have hl := (List.getElem?_eq_some_iff.1 h).1
  have hm := hd d (List.mem_of_getElem? h)
  rw [frAt_in 1 ds j (9 - d) hl (by omega) (by omega)]
  by_cases h0 : 9 - d = 0
  · refine ⟨0, ?_⟩
    rw [h0, ← chgP_zero, chgP_done, show (9 : Int) = d from by omega]
    obtain ⟨hl2, rfl⟩ := List.getElem?_eq_some_iff.1 h
    rw [List.set_getElem_self]
  · refine ⟨0 + Fr.cost d (d + 1 * (9 - d)), ?_⟩
    rw [← chgP_zero, chgP_in 1 ds j (9 - d) 0 d h0 h (by omega) (by omega), show d + 1 * (9 - d) = 9 from by omega]
theorem frBy_some {s : Int} (hs : Fr.Sgn s) {ds r : List Int} {N n : Int} (hd : Fr.Digs ds) (h : frBy s ds N = some (r, n)) :
    Fr.Digs r ∧ r.length = ds.length ∧ Fr.val r = Fr.val ds + s * N ∧ Fr.dist ds r ≤ n ∧ 0 ≤ n ∧ (n = 0 ↔ N = 0) ∧ (∃ m, frBy (0 - s) r N = some (ds, m)) ∧ frBy (0 - s) (Fr.nines ds) N = some (Fr.nines r, n) ∧ 0 ≤ N ∧ N < Fr.ten ds.length := by
  unfold frBy at h
  by_cases hc : 0 ≤ N ∧ N < Fr.ten ds.length
  · rw [if_pos hc] at h
    obtain ⟨e1, e2, e3, e4, e5, e6⟩ := Fr.all_some s hs ds N r n hd hc.1 h
    obtain ⟨m, hm⟩ := Fr.all_back s hs ds N r n hd hc.1 h
    have hn := Fr.all_nines' s hs ds N hd hc.1
    rw [h, Option.map_some] at hn
    exact ⟨e1, e2, e3, e4, e5, e6, ⟨m, by rw [frBy_in (by rw [e2]; exact hc), hm]⟩, by rw [frBy_in (by rw [nines_length]; exact hc), hn], hc.1, hc.2⟩
  · rw [if_neg hc] at h; cases h
theorem frBy_is {s : Int} (hs : Fr.Sgn s) {ds : List Int} {N : Int} (hd : Fr.Digs ds) (h0 : 0 ≤ N) (h1 : N < Fr.ten ds.length) : ((frBy s ds N).isSome = true ↔ 0 ≤ Fr.val ds + s * N ∧ Fr.val ds + s * N < Fr.ten ds.length) := by
  rw [frBy_in ⟨h0, h1⟩]
  exact Fr.all_iff s hs ds N hd h0
theorem val_snoc_zero (l : List Int) : Fr.val (l ++ [0]) = Fr.val l := by rw [val_append]; simp [Fr.val]
/-- ten times as much -/
theorem val_shift {ds : List Int} (h1 : 1 ≤ ds.length) (h : okS ds = true) : Fr.val (shiftL ds) = 10 * Fr.val ds := by
  unfold okS at h
  have h := of_decide_eq_true h
  have e : ds = ds.take (ds.length - 1) ++ [0] := by
    conv => lhs; rw [← List.take_append_drop (ds.length - 1) ds]
    congr 1
    rw [List.drop_eq_getElem_cons (by omega), List.drop_of_length_le (by omega)]
    rw [List.getD_eq_getElem?_getD, List.getElem?_eq_getElem (by omega)] at h
    exact congrArg (· :: []) h
  rw [shiftL, Fr.val]
  conv => rhs; rw [e, val_snoc_zero]
  omega
end Go.Proofs.YtpaepdlkjblfgaaDoor
