/-
  What merged debts come to: who owes whom how much, pair by pair. No walk in sight.
-/
import Derived.Test.YtogplbnabffcfaaTaLaw
namespace Go.Proofs.Ytogplbnabffcfaa
open Go.RowKit

/-- what one owes to another one -/
def owes (ds : List Db) (i j : Nat) : Int := ds.foldl (fun s d => s + if d.a = (i : Int) ∧ d.c = (j : Int) then d.v else 0) 0
theorem owes_next {ds : List Db} {k : Nat} {p q : Nat} {v : Int} (h : ds[k]? = some ⟨(p : Int), (q : Int), v⟩) (i j : Nat) : owes (ds.take (k + 1)) i j = owes (ds.take k) i j + if i = p ∧ j = q then v else 0 := by
  rw [take_next h, owes, owes, List.foldl_append]
  simp only [List.foldl_cons, List.foldl_nil]
  congr 1
  by_cases e : i = p ∧ j = q
  · rw [if_pos e, if_pos (by obtain ⟨rfl, rfl⟩ := e; exact ⟨rfl, rfl⟩)]
  · rw [if_neg e, if_neg (fun h => e ⟨by have := h.1; omega, by have := h.2; omega⟩)]
theorem owes_shift : ∀ (ds : List Db) (i j : Nat) (s : Int), ds.foldl (fun s d => s + if d.a = (i : Int) ∧ d.c = (j : Int) then d.v else 0) s = s + owes ds i j
  | [], _, _, s => by simp [owes]
  | d :: ds, i, j, s => by
    have e : owes (d :: ds) i j = (0 + if d.a = (i : Int) ∧ d.c = (j : Int) then d.v else 0) + owes ds i j := by
      rw [owes, List.foldl_cons, owes_shift ds]
    rw [List.foldl_cons, owes_shift ds, e]
    omega
theorem owes_cons (d : Db) (ds : List Db) (i j : Nat) : owes (d :: ds) i j = (if d.a = (i : Int) ∧ d.c = (j : Int) then d.v else 0) + owes ds i j := by
  rw [owes, List.foldl_cons, owes_shift]; omega
theorem owes_bd : ∀ (ds : List Db) (i j : Nat), (∀ d ∈ ds, Two d.a d.c ∧ 0 ≤ d.v ∧ d.v ≤ 36000) → 0 ≤ owes ds i j ∧ owes ds i j ≤ 36000 * (ds.length : Int)
  | [], _, _, _ => by simp [owes]
  | d :: ds, i, j, h => by
    have ih := owes_bd ds i j (fun x hx => h x (List.mem_cons_of_mem _ hx))
    obtain ⟨_, h1, h2⟩ := h d List.mem_cons_self
    rw [owes_cons]
    simp only [List.length_cons]
    split <;> omega
def col (f : Nat → Nat → Int) (p : Nat) : Int := f 0 p + f 1 p + f 2 p + f 3 p + f 4 p
def row (f : Nat → Nat → Int) (p : Nat) : Int := f p 0 + f p 1 + f p 2 + f p 3 + f p 4
theorem one_of (a c v : Int) (p : Nat) (ha : 0 ≤ a ∧ a < 5) : col (fun i j => if a = (i : Int) ∧ c = (j : Int) then v else 0) p = if c = (p : Int) then v else 0 := by
  unfold col
  by_cases h : c = (p : Int)
  · simp only [h, and_true, if_true]
    have : a = 0 ∨ a = 1 ∨ a = 2 ∨ a = 3 ∨ a = 4 := by omega
    rcases this with rfl | rfl | rfl | rfl | rfl <;> simp
  · simp [h]
theorem one_of' (a c v : Int) (p : Nat) (hc : 0 ≤ c ∧ c < 5) : row (fun i j => if a = (i : Int) ∧ c = (j : Int) then v else 0) p = if a = (p : Int) then v else 0 := by
  unfold row
  by_cases h : a = (p : Int)
  · simp only [h, true_and, if_true]
    have : c = 0 ∨ c = 1 ∨ c = 2 ∨ c = 3 ∨ c = 4 := by omega
    rcases this with rfl | rfl | rfl | rfl | rfl <;> simp
  · simp [h]
theorem bal_owes : ∀ (ds : List Db) (b : List Int), b.length = 5 → (∀ d ∈ ds, Two d.a d.c) → ∀ p, p < 5 → (ds.foldl upd b).getD p 0 = b.getD p 0 + (col (owes ds) p - row (owes ds) p)
  | [], b, _, _, p, _ => by simp [owes, col, row]
  | d :: ds, b, hl, hs, p, hp => by
    obtain ⟨t0, t1, t2, t3, t4⟩ := hs d List.mem_cons_self
    rw [List.foldl_cons, bal_owes ds (upd b d) (by rw [upd_length, hl]) (fun x hx => hs x (List.mem_cons_of_mem _ hx)) p hp]
    have e1 : col (owes (d :: ds)) p = (if d.c = (p : Int) then d.v else 0) + col (owes ds) p := by
      rw [← one_of d.a d.c d.v p ⟨t0, t1⟩]
      simp only [col, owes_cons]
      omega
    have e2 : row (owes (d :: ds)) p = (if d.a = (p : Int) then d.v else 0) + row (owes ds) p := by
      rw [← one_of' d.a d.c d.v p ⟨t2, t3⟩]
      simp only [row, owes_cons]
      omega
    have e3 : (upd b d).getD p 0 = b.getD p 0 + ((if d.c = (p : Int) then d.v else 0) - (if d.a = (p : Int) then d.v else 0)) := by
      unfold upd
      rw [Ta.getD_set _ _ _ _ (by rw [List.length_set, hl]; omega), Ta.getD_set _ _ _ _ (by omega), Ta.getD_set _ _ _ _ (by omega)]
      by_cases k1 : p = d.c.toNat
      · rw [if_pos k1, if_pos (show d.c = (p : Int) by omega), if_neg (show ¬ d.c.toNat = d.a.toNat by omega), if_neg (show ¬ d.a = (p : Int) by omega), k1]
        omega
      · rw [if_neg k1, if_neg (show ¬ d.c = (p : Int) by omega)]
        by_cases k2 : p = d.a.toNat
        · rw [if_pos k2, if_pos (show d.a = (p : Int) by omega), k2]
          omega
        · rw [if_neg k2, if_neg (show ¬ d.a = (p : Int) by omega)]; omega
    rw [e1, e2, e3]
    omega
/-- pair by pair: what the pairs of i with i+1 .. i+n come to, and what all pairs of people below i come to -/
def dif (f : Nat → Nat → Int) (i j : Nat) : Int := f i j - f j i
def S1 (f : Nat → Nat → Int) (i p : Nat) : Nat → Int
  | 0 => 0
  | n + 1 => S1 f i p n + ((if p = i + 1 + n then dif f i (i + 1 + n) else 0) - (if p = i then dif f i (i + 1 + n) else 0))
def S (f : Nat → Nat → Int) (p : Nat) : Nat → Int
  | 0 => 0
  | i + 1 => S f p i + S1 f i p (4 - i)
theorem S_all (f : Nat → Nat → Int) {p : Nat} (hp : p < 5) : S f p 5 = col f p - row f p := by
  match p, hp with
  | 0, _ => simp [S, S1, dif, col, row]; omega
  | 1, _ => simp [S, S1, dif, col, row]; omega
  | 2, _ => simp [S, S1, dif, col, row]; omega
  | 3, _ => simp [S, S1, dif, col, row]; omega
  | 4, _ => simp [S, S1, dif, col, row]; omega
def many : Nat → Nat
  | 0 => 0
  | i + 1 => many i + (4 - i)
theorem many_le : ∀ i, many i ≤ 10
  | 0 => by simp [many]
  | 1 => by simp [many]
  | 2 => by simp [many]
  | 3 => by simp [many]
  | 4 => by simp [many]
  | i + 5 => by
    have : many (i + 4) ≤ 10 := many_le (i + 4)
    show many (i + 4) + (4 - (i + 4)) ≤ 10
    omega
theorem eff_append : ∀ (x y : List (Nat × Nat × Int)) (p : Nat), Ta.eff (x ++ y) p = Ta.eff x p + Ta.eff y p
  | [], _, _ => by simp [Ta.eff]
  | (l, h, n) :: r, y, p => by rw [List.cons_append]; simp only [Ta.eff]; rw [eff_append r y p]; omega
/-- the tallies so far -/
structure Merging (f : Nat → Nat → Int) (i n : Nat) (ms : List (Nat × Nat × Int)) : Prop where
  ok : ∀ t ∈ ms, DebtOk (t.1 : Int) (t.2.1 : Int) t.2.2
  few : ms.length ≤ many i + n
  eff : ∀ p, Ta.eff ms p = S f p i + S1 f i p n
theorem Merging.start (f : Nat → Nat → Int) : Merging f 0 0 [] := ⟨fun t ht => by simp at ht, by simp, fun p => by simp [Ta.eff, S, S1]⟩
theorem Merging.up {f : Nat → Nat → Int} {i n : Nat} {ms : List (Nat × Nat × Int)} (h : Merging f i n ms) (hn : n = 4 - i) : Merging f (i + 1) 0 ms := by
  subst hn
  exact ⟨h.ok, by have := h.few; simp only [many]; omega, fun p => by rw [h.eff p]; simp [S, S1]⟩
theorem Merging.skip {f : Nat → Nat → Int} {i n : Nat} {ms : List (Nat × Nat × Int)} (h : Merging f i n ms) (hd : dif f i (i + 1 + n) = 0) : Merging f i (n + 1) ms :=
  ⟨h.ok, by have := h.few; omega, fun p => by rw [h.eff p]; simp [S1, hd]⟩
theorem Merging.more {f : Nat → Nat → Int} {i n : Nat} {ms : List (Nat × Nat × Int)} (h : Merging f i n ms) (hok : DebtOk (i : Int) ((i + 1 + n : Nat) : Int) (dif f i (i + 1 + n))) : Merging f i (n + 1) (ms ++ [(i, i + 1 + n, dif f i (i + 1 + n))]) := by
  refine ⟨fun t ht => ?_, by have := h.few; simp; omega, fun p => ?_⟩
  · rcases List.mem_append.1 ht with h1 | h1
    · exact h.ok t h1
    · obtain rfl := List.mem_singleton.1 h1; exact hok
  · rw [eff_append, h.eff p]
    simp [Ta.eff, S1]
    omega
theorem Merging.less {f : Nat → Nat → Int} {i n : Nat} {ms : List (Nat × Nat × Int)} (h : Merging f i n ms) (hok : DebtOk ((i + 1 + n : Nat) : Int) (i : Int) (-dif f i (i + 1 + n))) : Merging f i (n + 1) (ms ++ [(i + 1 + n, i, -dif f i (i + 1 + n))]) := by
  refine ⟨fun t ht => ?_, by have := h.few; simp; omega, fun p => ?_⟩
  · rcases List.mem_append.1 ht with h1 | h1
    · exact h.ok t h1
    · obtain rfl := List.mem_singleton.1 h1; exact hok
  · rw [eff_append, h.eff p]
    simp only [Ta.eff, S1]
    split <;> split <;> omega
/-- merged tallies are tallies with the same balances -/
theorem merged {ts : List Tl} {ms : List (Nat × Nat × Int)} (hok : okL ts = true) (h : Merging (owes (ts.map debtOf)) 5 0 ms) : okL (ms.map payT) = true ∧ bal ((ms.map payT).map debtOf) = bal (ts.map debtOf) := by
  have hF := fair_of hok
  have hD : (ms.map payT).map debtOf = ms.map payD := by
    rw [List.map_map]
    refine List.map_congr_left fun t ht => ?_
    exact (tallyOf_ok (h.ok t ht)).2
  refine ⟨?_, ?_⟩
  · simp only [okL, Bool.and_eq_true, decide_eq_true_eq, List.all_eq_true, List.length_map]
    refine ⟨by have := h.few; have := many_le 5; omega, fun x hx => ?_⟩
    obtain ⟨t, ht, rfl⟩ := List.mem_map.1 hx
    exact (tallyOf_ok (h.ok t ht)).1
  · rw [hD]
    have h0 : ∀ p, p < 5 → ([0, 0, 0, 0, 0] : List Int).getD p 0 = 0 := fun p hp => by
      match p, hp with
      | 0, _ => rfl
      | 1, _ => rfl
      | 2, _ => rfl
      | 3, _ => rfl
      | 4, _ => rfl
    refine ext5 (bal_length _) (bal_length _) fun p hp => ?_
    have h1 := bal_eff ms [0, 0, 0, 0, 0] rfl (fun t ht => by have := (h.ok t ht).1; unfold Two at this; omega) p hp
    have h2 := bal_owes (ts.map debtOf) [0, 0, 0, 0, 0] rfl (fun d hd => (hF.2 d hd).1) p hp
    have h3 := h.eff p
    have h4 := S_all (owes (ts.map debtOf)) hp
    have h5 := h0 p hp
    simp only [S1] at h3
    unfold bal
    rw [h1, h2]
    omega
end Go.Proofs.Ytogplbnabffcfaa
