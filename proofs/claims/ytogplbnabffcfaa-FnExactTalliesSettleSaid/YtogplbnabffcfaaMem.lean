/-
  Words for memory: a slice that reads as a list of integers; a row of integers that the call itself made.
-/
import Derived.WalkKit
import Derived.Deep.AppendLies
import Derived.Deep.Draws
import Derived.Maps.AppendAt
import Derived.RegionTactic
import Derived.OwnWalk
import Derived.Laws.Rows
import Derived.Laws.CopyOwn
import Derived.Lib.Hide
namespace Go.Proofs.Ytogplbnabffcfaa
open Go.RowKit

/-- what a law's walk is told of a slice of integers that came in -/
def IsRow (k : IntKind) (w : World) (a : Option Addr) (len cap : Nat) (zs : List Int) : Prop :=
  (a = none ∧ len = 0 ∧ cap = 0 ∧ zs = []) ∨
  ∃ x, a = some x ∧ len ≤ cap ∧ cap ≤ maxLen ∧ zs.length = cap ∧ (∀ i, i < zs.length → w.cell? (x.add i) = some (.int k (zs.getD i 0))) ∧ ∀ n ∈ zs, (Lit.int k n).wf = true

theorem ret_int {k : IntKind} {a b : Int} (h : a = b) : Ending.returned (.int k a) = .returned (.int k b) := by rw [h]
theorem ret_bool {a b : Bool} (h : a = b) : Ending.returned (.bool a) = .returned (.bool b) := by rw [h]

/-- the integers as values -/
def IV (xs : List Int) : List Value := xs.map (Value.int .i64)
theorem IV_length (xs : List Int) : (IV xs).length = xs.length := by simp [IV]
theorem IV_append (xs ys : List Int) : IV (xs ++ ys) = IV xs ++ IV ys := by simp [IV]
theorem IV_get {xs : List Int} {j : Nat} {u : Int} (h : xs[j]? = some u) : (IV xs)[j]? = some (.int .i64 u) := by simp [IV, h]
theorem IV_set (xs : List Int) (j : Nat) (u : Int) : (IV xs).set j (.int .i64 u) = IV (xs.set j u) := by simp [IV, List.map_set]
theorem IV_one (xs : List Int) : ∀ u ∈ IV xs, u.oneCell' = true := ints_oneCell .i64 xs

/-- the greatest length of a list here -/
def lenMax : Nat := 1099511627776
/-- A slice of length n at A reads as the integers xs; its cells lie below block B. -/
def Ints (w : World) (B : Nat) (A : Option Addr) (n : Nat) (xs : List Int) : Prop :=
  xs.length = n ∧ n ≤ 1099511627776 ∧ (0 < n → ∃ b off, A = some ⟨b, off, none⟩ ∧ b < B ∧ ∀ j u, xs[j]? = some u → w.cell? ⟨b, off + j, none⟩ = some (.int .i64 u))
/-- A slice of the call's own, from block B on. -/
def Own (w : World) (B : Nat) (A : Option Addr) (n c : Nat) (xs : List Int) : Prop :=
  w.ownsRow B 3 1 (.slice A n c) n (IV xs) ∧ n ≤ 1099511627776

section
variable {w w' : World} {B B' n c : Nat} {A : Option Addr} {xs : List Int}

theorem Ints.len (h : Ints w B A n xs) : xs.length = n := h.1
theorem Ints.bound (h : Ints w B A n xs) : n ≤ 1099511627776 := h.2.1
theorem Ints.at_ {k : Nat} (h : Ints w B A n xs) (hk : k < n) : ∃ b off u, A = some ⟨b, off, none⟩ ∧ b < B ∧ xs[k]? = some u ∧ w.cell? ⟨b, off + k, none⟩ = some (.int .i64 u) := by
  obtain ⟨hl, _, hc⟩ := h
  obtain ⟨b, off, e, hb, hc⟩ := hc (by omega)
  exact ⟨b, off, xs[k], e, hb, List.getElem?_eq_getElem (by omega), hc k _ (List.getElem?_eq_getElem (by omega))⟩
theorem Ints.addr (h : Ints w B A n xs) (hn : 0 < n) : ∃ b off, A = some ⟨b, off, none⟩ ∧ b < B ∧ ∀ j u, xs[j]? = some u → w.cell? ⟨b, off + j, none⟩ = some (.int .i64 u) := h.2.2 hn
theorem Ints.nil (w : World) (B : Nat) (A : Option Addr) : Ints w B A 0 [] := ⟨rfl, by omega, fun h => absurd h (by omega)⟩
theorem Ints.keep (h : Ints w B A n xs) (hk : ∀ p : Addr, p.block < B → w'.cell? p = w.cell? p) : Ints w' B A n xs :=
  ⟨h.1, h.2.1, fun hn => by
    obtain ⟨b, off, e, hb, hc⟩ := h.2.2 hn
    exact ⟨b, off, e, hb, fun j u hu => (hk _ hb).trans (hc j u hu)⟩⟩
theorem Ints.mono (h : Ints w B A n xs) (hB : B ≤ B') : Ints w B' A n xs :=
  ⟨h.1, h.2.1, fun hn => by
    obtain ⟨b, off, e, hb, hc⟩ := h.2.2 hn
    exact ⟨b, off, e, by omega, hc⟩⟩
theorem Ints.below (h : Ints w B A n xs) (hb : Below B w w') : Ints w' B A n xs := h.keep fun _ hp => hb.cell hp
/-- behind a call: what is read there was there -/
theorem Ints.next (h : Ints w w.heap.size A n xs) (hb : Below w.heap.size w w') : Ints w' w'.heap.size A n xs := (h.below hb).mono hb.size
theorem Ints.drew (h : Ints w B A n xs) : Ints w.drew B A n xs := h
theorem Ints.drewN (h : Ints w B A n xs) (k : Nat) : Ints (w.drewN k) B A n xs := h
theorem Ints.alloc (h : Ints w B A n xs) (hB : B ≤ w.heap.size) (o : Obj) : Ints (w.alloc o) B A n xs := h.keep fun p hp => World.cell?_alloc_lt w o p (by omega)
theorem Ints.setCell (h : Ints w B A n xs) {p : Addr} (hB : B ≤ p.block) (u : Value) : Ints (w.setCell p u) B A n xs :=
  h.keep fun q hq => World.cell?_setCell_other w p q u (fun e => by subst e; omega)
theorem Ints.grown (h : Ints w B A n xs) {row : Option Nat} (hg : w.grownBy w' row) (hB : B ≤ w.heap.size) (hr : ∀ g, row = some g → B ≤ g) : Ints w' B A n xs :=
  h.keep fun p hp => World.cell?_of_block (hg.block p.block (by omega) (fun e => by have := hr _ e.symm; omega))
theorem add_row (g j : Nat) : (⟨g, 0, none⟩ : Addr).add j = ⟨g, j, none⟩ := by unfold Addr.add; split <;> simp_all

theorem Own.len (h : Own w B A n c xs) : xs.length = n := by have := h.1.1; simpa [IV] using this
theorem Own.bound (h : Own w B A n c xs) : n ≤ 1099511627776 := h.2
theorem Own.nil (w : World) (B : Nat) : Own w B none 0 0 [] := ⟨World.ownsRow_nil _ _ _ _, by omega⟩
theorem Own.ints (h : Own w B A n c xs) : Ints w w.heap.size A n xs := by
  refine ⟨h.len, h.2, fun hn => ?_⟩
  obtain ⟨g, cap, hv, _, hlt⟩ := h.1.form hn
  have hA : A = some ⟨g, 0, none⟩ := by injection hv
  subst hA
  refine ⟨g, 0, rfl, hlt, fun j u hu => ?_⟩
  have := h.1.cells (g := g) rfl j _ (IV_get hu)
  rw [add_row] at this
  simpa using this
/-- where a row of the call's own that holds something lies -/
theorem Own.at_ (h : Own w B A n c xs) (hn : 0 < n) : ∃ g, A = some ⟨g, 0, none⟩ ∧ B ≤ g ∧ g < w.heap.size ∧ (∀ j u, xs[j]? = some u → w.cell? ⟨g, j, none⟩ = some (.int .i64 u)) ∧ ∀ j, w.frozen? ⟨g, j, none⟩ = false := by
  obtain ⟨g, cap, hv, _, hlt⟩ := h.1.form hn
  have hA : A = some ⟨g, 0, none⟩ := by injection hv
  subst hA
  have hlt := h.1.lt g rfl
  refine ⟨g, rfl, hlt.1, hlt.2, fun j u hu => ?_, fun j => ?_⟩
  · have := h.1.cells (g := g) rfl j _ (IV_get hu)
    rwa [add_row] at this
  · exact h.1.frozenAt j
theorem Own.store {g : Nat} (h : Own w B (some ⟨g, 0, none⟩) n c xs) (j : Nat) (u : Int) :
    Own (w.setCell ⟨g, j, none⟩ (.int .i64 u)) B (some ⟨g, 0, none⟩) n c (xs.set j u) ∧ w.grownBy (w.setCell ⟨g, j, none⟩ (.int .i64 u)) (some g) := by
  obtain ⟨h1, h2⟩ := h.1.stored j (.int .i64 u)
  rw [IV_set] at h1
  exact ⟨⟨h1, h.2⟩, h2⟩
theorem Own.mono (h : Own w B A n c xs) (hB : B' ≤ B) : Own w B' A n c xs := by
  refine ⟨⟨h.1.1, ?_⟩, h.2⟩
  rcases h.1.2 with h0 | ⟨g, cap, cur, hv, hb, rest⟩
  · exact .inl h0
  · exact .inr ⟨g, cap, cur, hv, by omega, rest⟩
theorem Own.blk (h : Own w B A n c xs) : ∀ k, (Value.slice A n c).ownBlock = some k → B ≤ k ∧ k < w.heap.size := h.1.lt
theorem Own.kept {row : Option Nat} (h : Own w B A n c xs) (hg : w.grownBy w' row) (hne : ∀ k, (Value.slice A n c).ownBlock = some k → row ≠ some k) : Own w' B A n c xs :=
  ⟨h.1.kept hg (by
    cases hv : (Value.slice A n c).ownBlock with
    | none => exact .inl rfl
    | some k => exact .inr (fun e => hne k hv e.symm)), h.2⟩
theorem Own.alloc (h : Own w B A n c xs) (o : Obj) : Own (w.alloc o) B A n c xs := ⟨h.1.alloc o, h.2⟩
theorem Own.drew (h : Own w B A n c xs) : Own w.drew B A n c xs := h
theorem Own.drewN (h : Own w B A n c xs) (k : Nat) : Own (w.drewN k) B A n c xs := h
/-- what is owned stays owned over a call that leaves old memory alone -/
theorem Own.next (h : Own w B A n c xs) (hb : Below w.heap.size w w') : Own w' B A n c xs := by
  refine h.kept (row := none) ⟨hb.os, hb.tape, hb.output, hb.size, fun k hk _ => hb.block k hk⟩ ?_
  intro k _ e
  cases e
theorem Own.below {B1 : Nat} (h : Own w B A n c xs) (hlt : ∀ k, (Value.slice A n c).ownBlock = some k → k < B1) (hb : Below B1 w w') : Own w' B A n c xs := by
  refine ⟨⟨h.1.1, ?_⟩, h.2⟩
  rcases h.1.2 with h0 | ⟨g, cap, cur, hv, h1, hg, rest⟩
  · exact .inl h0
  · refine .inr ⟨g, cap, cur, hv, h1, ?_, rest⟩
    rw [hb.block g (hlt g (by rw [hv]; rfl))]
    exact hg
end

theorem Ints.of_row {w : World} {a : Option Addr} {len cap : Nat} {zs : List Int} (h : IsRow .i64 w a len cap zs) (hl : len ≤ 1099511627776) : Ints w w.heap.size a len (zs.take len) := by
  rcases h with ⟨rfl, rfl, rfl, rfl⟩ | ⟨x, rfl, h1, h2, h3, h4, _⟩
  · exact Ints.nil _ _ _
  · refine ⟨by rw [List.length_take]; omega, hl, fun hn => ?_⟩
    obtain ⟨b, off, spot⟩ := x
    have h0 := h4 0 (by omega)
    have hs : spot = none := by simpa [Addr.add] using World.cell?_spot h0
    subst hs
    refine ⟨b, off, rfl, by simpa [Addr.add] using World.block_lt_of_cell? w _ h0, fun j u hu => ?_⟩
    rw [List.getElem?_take] at hu
    split at hu
    · have := h4 j (by omega)
      rw [List.getD_eq_getElem?_getD, hu] at this
      have e : (⟨b, off, none⟩ : Addr).add j = ⟨b, off + j, none⟩ := by unfold Addr.add; split <;> simp_all
      rw [e] at this
      exact this
    · cases hu

/-- the append of one integer that lies in a new block of its own -/
theorem news_one (w : World) (u : Value) (t : TypeId) : ∀ j v, [u][j]? = some v → (w.alloc (.cells #[u] t)).cell? ((⟨w.heap.size, 0, none⟩ : Addr).add j) = some v := by
  intro j v hj
  match j, hj with
  | 0, hj => simp at hj; subst hj; simp [Addr.add]
  | j + 1, hj => simp at hj
theorem Own.of_app {w : World} {B n m : Nat} {v : Value} {xs : List Int} {ys : List Value} (us : List Int) (hy : ys = IV us) (h : w.ownsRow B 3 1 v (n + m) (IV xs ++ ys)) (hn : n + m ≤ 1099511627776) :
    ∃ A c, v = .slice A (n + m) c ∧ Own w B A (n + m) c (xs ++ us) := by
  subst hy
  rw [← IV_append] at h
  rcases h.2 with ⟨rfl, h0⟩ | ⟨g, cap, cur, rfl, _⟩
  · rw [h0] at h ⊢
    exact ⟨none, 0, rfl, h, by omega⟩
  · exact ⟨_, _, rfl, h, hn⟩
theorem below_drewN {B : Nat} {a w : World} (h : Below B a w) (n : Nat) : Below B a (w.drewN n) := ⟨h.os, h.tape, h.output, h.size, h.block⟩
theorem below_chain {a b c : World} (h : Below a.heap.size a b) (k : Below b.heap.size b c) : Below a.heap.size a c := h.trans (k.mono h.size)
theorem grown_below {B : Nat} {w w' : World} {row : Option Nat} (hg : w.grownBy w' row) (hB : B ≤ w.heap.size) (hr : ∀ k, row = some k → B ≤ k) : Below B w w' := (Below.refl B w).grown hg hB hr
/-- cells and marks that were there, behind a call: two rules of the walk -/
theorem bcell {W w1 : World} (hb : Below W.heap.size W w1) : (∀ b o, b < W.heap.size → w1.cell? ⟨b, o, none⟩ = W.cell? ⟨b, o, none⟩) ∧ (∀ b o, b < W.heap.size → w1.frozen? ⟨b, o, none⟩ = W.frozen? ⟨b, o, none⟩) :=
  ⟨fun b o h => hb.cell (p := ⟨b, o, none⟩) h, fun b o h => hb.frozen (p := ⟨b, o, none⟩) h⟩
end Go.Proofs.Ytogplbnabffcfaa
