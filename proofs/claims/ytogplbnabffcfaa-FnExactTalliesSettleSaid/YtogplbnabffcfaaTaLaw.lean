/-
  What settled debts come to. No walk in sight.
-/
import Derived.Test.YtogplbnabffcfaaTaSettle2
import Derived.Test.YtogplbnabffcfaaTaRef3
namespace Go.Proofs.Ytogplbnabffcfaa
open Go.RowKit

theorem worthB_txt {n : Nat} (h : n ≤ 9999) : worthB (txt (Ta.ntext n)) = (n : Int) := by unfold worthB; rw [txt_list, Ta.worth_ntext h]; rfl
theorem validB_txt {n : Nat} (h : n ≤ 9999) : validB (txt (Ta.ntext n)) = true := by unfold validB; rw [txt_list, Ta.worth_ntext h]; rfl
theorem tallyOf_ok {a c v : Int} (h : DebtOk a c v) : okB (tallyOf a c v) = true ∧ debtOf (tallyOf a c v) = ⟨a, c, v⟩ := by
  obtain ⟨h1, h2, h3⟩ := h
  obtain ⟨n, rfl⟩ := Int.eq_ofNat_of_zero_le (show 0 ≤ v by omega)
  have hw := worthB_txt (n := n) (by omega)
  have hv := validB_txt (n := n) (by omega)
  refine ⟨?_, ?_⟩
  · simp only [okB, matchB, tallyOf, Int.toNat_natCast, hw, hv, twoB_yes h1, Bool.true_and, Bool.and_true, decide_true, decide_eq_true_eq]
    exact h2
  · simp only [debtOf, tallyOf, Int.toNat_natCast, hw]
def payD (t : Nat × Nat × Int) : Db := ⟨(t.1 : Int), (t.2.1 : Int), t.2.2⟩
/-- debts as payments -/
theorem bal_eff : ∀ (out : List (Nat × Nat × Int)) (b : List Int), b.length = 5 → (∀ t ∈ out, t.1 < 5 ∧ t.2.1 < 5) → ∀ p, p < 5 → ((out.map payD).foldl upd b).getD p 0 = b.getD p 0 + Ta.eff out p
  | [], b, _, _, p, _ => by simp [Ta.eff]
  | (l, h, n) :: r, b, hl, hs, p, hp => by
    obtain ⟨h1, h2⟩ := hs (l, h, n) List.mem_cons_self
    have ih := bal_eff r (upd b (payD (l, h, n))) (by rw [upd_length, hl]) (fun t ht => hs t (List.mem_cons_of_mem _ ht)) p hp
    rw [List.map_cons, List.foldl_cons, ih]
    simp only at h1 h2
    have e : (upd b (payD (l, h, n))).getD p 0 = b.getD p 0 + ((if p = h then n else 0) - (if p = l then n else 0)) := by
      simp only [upd, payD, Int.toNat_natCast]
      rw [Ta.getD_set _ _ _ _ (by rw [List.length_set, hl]; omega), Ta.getD_set _ _ _ _ (by omega), Ta.getD_set _ _ _ _ (by omega)]
      by_cases e1 : p = h
      · subst e1
        rw [if_pos rfl, if_pos rfl]
        by_cases e2 : p = l
        · subst e2; rw [if_pos rfl, if_pos rfl]; omega
        · rw [if_neg e2, if_neg e2]; omega
      · rw [if_neg e1, if_neg e1]
        by_cases e2 : p = l
        · subst e2; rw [if_pos rfl, if_pos rfl]; omega
        · rw [if_neg e2, if_neg e2]; omega
    rw [e]
    simp only [Ta.eff]
    omega
theorem total_all : ∀ (out : List (Nat × Nat × Int)) (a : Int), (out.map payD).foldl (fun a d => a + d.v) a = a + Ta.all out
  | [], a => by simp [Ta.all]
  | (l, h, n) :: r, a => by
    rw [List.map_cons, List.foldl_cons, total_all r]
    simp only [payD, Ta.all]
    omega
theorem pos_upd {b : List Int} {d : Db} (hl : b.length = 5) (ht : Two d.a d.c) (hv : 0 ≤ d.v) : Ta.pos (upd b d) ≤ Ta.pos b + d.v := by
  obtain ⟨t0, t1, t2, t3, t4⟩ := ht
  unfold Ta.pos upd
  rw [Ta.tot_set _ _ _ _ (by rw [List.length_set, hl]; omega), Ta.tot_set _ _ _ _ (by omega)]
  omega
theorem pos_total : ∀ (ds : List Db) (b : List Int) (a : Int), b.length = 5 → (∀ d ∈ ds, Two d.a d.c ∧ 0 ≤ d.v ∧ d.v ≤ 36000) → Ta.pos b ≤ a → Ta.pos (ds.foldl upd b) ≤ ds.foldl (fun a d => a + d.v) a
  | [], _, _, _, _, h => h
  | d :: ds, b, a, hl, hs, h => by
    obtain ⟨h1, h2, h3⟩ := hs d List.mem_cons_self
    rw [List.foldl_cons, List.foldl_cons]
    exact pos_total ds _ _ (by rw [upd_length, hl]) (fun x hx => hs x (List.mem_cons_of_mem _ hx)) (by have := pos_upd hl h1 h2; omega)
theorem ext5 {b c : List Int} (hb : b.length = 5) (hc : c.length = 5) (h : ∀ p, p < 5 → b.getD p 0 = c.getD p 0) : b = c := by
  obtain ⟨a0, a1, a2, a3, a4, rfl⟩ := Ta.five hb
  obtain ⟨c0, c1, c2, c3, c4, rfl⟩ := Ta.five hc
  obtain rfl : a0 = c0 := h 0 (by omega)
  obtain rfl : a1 = c1 := h 1 (by omega)
  obtain rfl : a2 = c2 := h 2 (by omega)
  obtain rfl : a3 = c3 := h 3 (by omega)
  obtain rfl : a4 = c4 := h 4 (by omega)
  rfl
/-- all that the laws say of settled debts -/
structure Settled (ts : List Tl) (out : List (Nat × Nat × Int)) : Prop where
  ok : okL (out.map payT) = true
  bal : bal ((out.map payT).map debtOf) = Go.Proofs.Ytogplbnabffcfaa.bal (ts.map debtOf)
  total : total ((out.map payT).map debtOf) = Ta.pos (Go.Proofs.Ytogplbnabffcfaa.bal (ts.map debtOf))
  less : Ta.pos (Go.Proofs.Ytogplbnabffcfaa.bal (ts.map debtOf)) ≤ Go.Proofs.Ytogplbnabffcfaa.total (ts.map debtOf)
  apart : ∀ t ∈ out, ∀ u ∈ out, t.1 ≠ u.2.1
  few : out.length < 5
theorem settled {ts : List Tl} {out : List (Nat × Nat × Int)} (hok : okL ts = true) (h : Ta.settle 5 (bal (ts.map debtOf)) = some out) : Settled ts out := by
  have hF := fair_of hok
  obtain ⟨hbal, hbd⟩ := bal_ok hF
  have hbl := bal_length (ts.map debtOf)
  have hnz := Ta.nz_le (bal (ts.map debtOf))
  obtain ⟨s1, s2, s3, s4⟩ := Ta.settle_spec 5 _ hbal (by omega) out h
  have hlen : out.length < 5 := by
    rcases s4 with s4 | rfl
    · omega
    · simp
  have hD : (out.map payT).map debtOf = out.map payD := by
    rw [List.map_map]
    refine List.map_congr_left fun t ht => ?_
    obtain ⟨a1, a2, a3, a4, a5, _, _⟩ := s1 t ht
    exact (tallyOf_ok ⟨⟨by omega, by omega, by omega, by omega, by omega⟩, a4, a5⟩).2
  have h0 : Ta.pos [0, 0, 0, 0, 0] = 0 := rfl
  refine ⟨?_, ?_, ?_, ?_, fun t ht u hu e => ?_, hlen⟩
  · simp only [okL, Bool.and_eq_true, decide_eq_true_eq, List.all_eq_true, List.length_map]
    refine ⟨by omega, fun x hx => ?_⟩
    obtain ⟨t, ht, rfl⟩ := List.mem_map.1 hx
    obtain ⟨a1, a2, a3, a4, a5, _, _⟩ := s1 t ht
    exact (tallyOf_ok ⟨⟨by omega, by omega, by omega, by omega, by omega⟩, a4, a5⟩).1
  · rw [hD]
    refine ext5 (bal_length _) hbl fun p hp => ?_
    have := bal_eff out [0, 0, 0, 0, 0] rfl (fun t ht => ⟨(s1 t ht).1, (s1 t ht).2.1⟩) p hp
    rw [Go.Proofs.Ytogplbnabffcfaa.bal, this, s2 p hp]
    have : ([0, 0, 0, 0, 0] : List Int).getD p 0 = 0 := by
      match p, hp with
      | 0, _ => rfl
      | 1, _ => rfl
      | 2, _ => rfl
      | 3, _ => rfl
      | 4, _ => rfl
    omega
  · rw [hD, Go.Proofs.Ytogplbnabffcfaa.total, total_all, s3]; omega
  · exact pos_total _ _ 0 rfl hF.2 (by rw [h0]; omega)
  · have := (s1 t ht).2.2.2.2.2.1
    have := (s1 u hu).2.2.2.2.2.2
    rw [e] at *
    omega
/-- settled debts stay as they are -/
theorem settled_again {ts : List Tl} {out : List (Nat × Nat × Int)} (hok : okL ts = true) (h : Ta.settle 5 (bal (ts.map debtOf)) = some out) : Ta.settle 5 (bal ((out.map payT).map debtOf)) = some out := by rw [(settled hok h).bal]; exact h
end Go.Proofs.Ytogplbnabffcfaa
