/-
  Rows of tallies and of debts in memory.
-/
import Derived.Test.YtogplbnabffcfaaCommon
import Derived.Test.YtogplbnabffcfaaTaPlain3
import Derived.Laws.Concat
import Derived.Laws.IdiomStrings
namespace Go.Proofs.Ytogplbnabffcfaa
open Go.RowKit

/-- a tally -/
structure Tl where
  a : Int
  c : Int
  s : ByteArray
  f : ByteArray
/-- its cells, and as one value -/
def Tl.cells (t : Tl) : List Value := [.int .i64 t.a, .int .i64 t.c, .string t.s, .string t.f]
def Tl.val (t : Tl) : Value := .agg #[.int .i64 t.a, .int .i64 t.c, .string t.s, .string t.f]
/-- a debt -/
structure Db where
  a : Int
  c : Int
  v : Int
def Db.cells (d : Db) : List Value := [.int .i64 d.a, .int .i64 d.c, .int .i64 d.v]
def Db.val (d : Db) : Value := .agg #[.int .i64 d.a, .int .i64 d.c, .int .i64 d.v]

/-- A slice of n elements whose cells, one after another, are vs; it lies below block B. -/
def Row (w : World) (B : Nat) (A : Option Addr) (n k : Nat) (vs : List Value) : Prop :=
  vs.length = n * k ∧ n ≤ 1099511627776 ∧ (0 < n → ∃ b off, A = some ⟨b, off, none⟩ ∧ b < B ∧ ∀ j u, vs[j]? = some u → w.cell? ⟨b, off + j, none⟩ = some u)
section
variable {w w' : World} {B B' n k : Nat} {A : Option Addr} {vs : List Value}
theorem Row.keep (h : Row w B A n k vs) (hk : ∀ p : Addr, p.block < B → w'.cell? p = w.cell? p) : Row w' B A n k vs :=
  ⟨h.1, h.2.1, fun hn => by
    obtain ⟨b, off, e, hb, hc⟩ := h.2.2 hn
    exact ⟨b, off, e, hb, fun j u hu => (hk _ hb).trans (hc j u hu)⟩⟩
theorem Row.mono (h : Row w B A n k vs) (hB : B ≤ B') : Row w B' A n k vs :=
  ⟨h.1, h.2.1, fun hn => by
    obtain ⟨b, off, e, hb, hc⟩ := h.2.2 hn
    exact ⟨b, off, e, by omega, hc⟩⟩
theorem Row.below (h : Row w B A n k vs) (hb : Below B w w') : Row w' B A n k vs := h.keep fun _ hp => hb.cell hp
theorem Row.next (h : Row w w.heap.size A n k vs) (hb : Below w.heap.size w w') : Row w' w'.heap.size A n k vs := (h.below hb).mono hb.size
theorem Row.drewN (h : Row w B A n k vs) (q : Nat) : Row (w.drewN q) B A n k vs := h
theorem Row.alloc (h : Row w B A n k vs) (hB : B ≤ w.heap.size) (o : Obj) : Row (w.alloc o) B A n k vs := h.keep fun p hp => World.cell?_alloc_lt w o p (by omega)
theorem Row.nil (w : World) (B : Nat) (A : Option Addr) (k : Nat) : Row w B A 0 k [] := ⟨by simp, by omega, fun h => absurd h (by omega)⟩
end

/-! lists of cells -/
def TV (ts : List Tl) : List Value := ts.flatMap Tl.cells
def DV (ds : List Db) : List Value := ds.flatMap Db.cells
theorem flat_length {α : Type} {f : α → List Value} {k : Nat} (hf : ∀ x, (f x).length = k) : ∀ xs : List α, (xs.flatMap f).length = xs.length * k
  | [] => by simp
  | x :: xs => by rw [List.flatMap_cons, List.length_append, hf, flat_length hf xs, List.length_cons, Nat.succ_mul, Nat.add_comm]
theorem flat_get {α : Type} {f : α → List Value} {k : Nat} (hf : ∀ x, (f x).length = k) : ∀ (xs : List α) (i : Nat) (x : α), xs[i]? = some x → ∀ j, j < k → (xs.flatMap f)[i * k + j]? = (f x)[j]?
  | [], i, x, h, _, _ => by simp at h
  | y :: xs, 0, x, h, j, hj => by
    obtain rfl : y = x := by simpa using h
    rw [List.flatMap_cons, Nat.zero_mul, Nat.zero_add, List.getElem?_append_left (by rw [hf]; exact hj)]
  | y :: xs, i + 1, x, h, j, hj => by
    have h' : xs[i]? = some x := by simpa using h
    rw [List.flatMap_cons, List.getElem?_append_right (by rw [hf, Nat.succ_mul]; omega), hf, show (i + 1) * k + j - k = i * k + j from by rw [Nat.succ_mul]; omega]
    exact flat_get hf xs i x h' j hj
theorem TV_length (ts : List Tl) : (TV ts).length = ts.length * 4 := flat_length (f := Tl.cells) (k := 4) (fun _ => rfl) ts
theorem DV_length (ds : List Db) : (DV ds).length = ds.length * 3 := flat_length (f := Db.cells) (k := 3) (fun _ => rfl) ds
theorem TV_append (x y : List Tl) : TV (x ++ y) = TV x ++ TV y := List.flatMap_append
theorem DV_append (x y : List Db) : DV (x ++ y) = DV x ++ DV y := List.flatMap_append
theorem TV_one (t : Tl) : TV [t] = t.cells := by simp [TV]
theorem DV_one (d : Db) : DV [d] = d.cells := by simp [DV]
theorem TV_oneCell (ts : List Tl) : ∀ u ∈ TV ts, u.oneCell' = true := by
  intro u hu
  obtain ⟨t, _, hu⟩ := List.mem_flatMap.1 hu
  simp [Tl.cells] at hu
  rcases hu with rfl | rfl | rfl | rfl <;> rfl
theorem DV_oneCell (ds : List Db) : ∀ u ∈ DV ds, u.oneCell' = true := by
  intro u hu
  obtain ⟨t, _, hu⟩ := List.mem_flatMap.1 hu
  simp [Db.cells] at hu
  rcases hu with rfl | rfl | rfl <;> rfl
def Tals (w : World) (B : Nat) (A : Option Addr) (n : Nat) (ts : List Tl) : Prop := Row w B A n 4 (TV ts)
def Dbs (w : World) (B : Nat) (A : Option Addr) (n : Nat) (ds : List Db) : Prop := Row w B A n 3 (DV ds)
theorem Tals.len {w : World} {B n : Nat} {A : Option Addr} {ts : List Tl} (h : Tals w B A n ts) : ts.length = n := by have := h.1; rw [TV_length] at this; omega
theorem Dbs.len {w : World} {B n : Nat} {A : Option Addr} {ts : List Db} (h : Dbs w B A n ts) : ts.length = n := by have := h.1; rw [DV_length] at this; omega
theorem Tals.at_ {w : World} {B n : Nat} {A : Option Addr} {ts : List Tl} (h : Tals w B A n ts) {k : Nat} (hk : k < n) : ∃ b off t, A = some ⟨b, off, none⟩ ∧ b < B ∧ ts[k]? = some t ∧
    w.cell? ⟨b, off + k * 4, none⟩ = some (.int .i64 t.a) ∧ w.cell? ⟨b, off + k * 4 + 1, none⟩ = some (.int .i64 t.c) ∧ w.cell? ⟨b, off + k * 4 + 2, none⟩ = some (.string t.s) ∧ w.cell? ⟨b, off + k * 4 + 3, none⟩ = some (.string t.f) := by
  have hl := h.len
  obtain ⟨b, off, e, hb, hc⟩ := h.2.2 (by omega)
  have hk' : ts[k]? = some ts[k] := List.getElem?_eq_getElem (by omega)
  have g := flat_get (f := Tl.cells) (k := 4) (fun _ => rfl) ts k _ hk'
  exact ⟨b, off, ts[k], e, hb, hk', hc _ _ (g 0 (by omega)), by rw [Nat.add_assoc]; exact hc _ _ (g 1 (by omega)), by rw [Nat.add_assoc]; exact hc _ _ (g 2 (by omega)), by rw [Nat.add_assoc]; exact hc _ _ (g 3 (by omega))⟩
theorem Dbs.at_ {w : World} {B n : Nat} {A : Option Addr} {ts : List Db} (h : Dbs w B A n ts) {k : Nat} (hk : k < n) : ∃ b off t, A = some ⟨b, off, none⟩ ∧ b < B ∧ ts[k]? = some t ∧
    w.cell? ⟨b, off + k * 3, none⟩ = some (.int .i64 t.a) ∧ w.cell? ⟨b, off + k * 3 + 1, none⟩ = some (.int .i64 t.c) ∧ w.cell? ⟨b, off + k * 3 + 2, none⟩ = some (.int .i64 t.v) := by
  have hl := h.len
  obtain ⟨b, off, e, hb, hc⟩ := h.2.2 (by omega)
  have hk' : ts[k]? = some ts[k] := List.getElem?_eq_getElem (by omega)
  have g := flat_get (f := Db.cells) (k := 3) (fun _ => rfl) ts k _ hk'
  exact ⟨b, off, ts[k], e, hb, hk', hc _ _ (g 0 (by omega)), by rw [Nat.add_assoc]; exact hc _ _ (g 1 (by omega)), by rw [Nat.add_assoc]; exact hc _ _ (g 2 (by omega))⟩

/-- rows of the call's own -/
def OwnR (w : World) (B : Nat) (e : TypeId) (k : Nat) (A : Option Addr) (n c : Nat) (vs : List Value) : Prop := w.ownsRow B e k (.slice A n c) n vs ∧ n ≤ 1099511627776
abbrev OwnT (w : World) (B : Nat) (A : Option Addr) (n c : Nat) (ts : List Tl) : Prop := OwnR w B 33 4 A n c (TV ts)
abbrev OwnD (w : World) (B : Nat) (A : Option Addr) (n c : Nat) (ds : List Db) : Prop := OwnR w B 54 3 A n c (DV ds)
section
variable {w w' : World} {B B' k n c : Nat} {e : TypeId} {A : Option Addr} {vs : List Value}
theorem OwnR.row (h : OwnR w B e k A n c vs) : Row w w.heap.size A n k vs := by
  refine ⟨h.1.1, h.2, fun hn => ?_⟩
  rcases h.1.2 with ⟨_, h0⟩ | ⟨g, cap, cur, hv, hb, hg, _⟩
  · omega
  · injection hv with h1 h2 h3
    subst h1
    have hlt := h.1.lt g rfl
    refine ⟨g, 0, rfl, hlt.2, fun j u hu => ?_⟩
    have := h.1.cells (g := g) rfl j _ hu
    rw [add_row] at this
    simpa using this
theorem OwnR.kept {row : Option Nat} (h : OwnR w B e k A n c vs) (hg : w.grownBy w' row) (hne : ∀ q, (Value.slice A n c).ownBlock = some q → row ≠ some q) : OwnR w' B e k A n c vs :=
  ⟨h.1.kept hg (by
    cases hv : (Value.slice A n c).ownBlock with
    | none => exact .inl rfl
    | some q => exact .inr (fun e => hne q hv e.symm)), h.2⟩
theorem OwnR.alloc (h : OwnR w B e k A n c vs) (o : Obj) : OwnR (w.alloc o) B e k A n c vs := ⟨h.1.alloc o, h.2⟩
theorem OwnR.drew (h : OwnR w B e k A n c vs) : OwnR w.drew B e k A n c vs := h
theorem OwnR.drewN (h : OwnR w B e k A n c vs) (q : Nat) : OwnR (w.drewN q) B e k A n c vs := h
theorem OwnR.next (h : OwnR w B e k A n c vs) (hb : Below w.heap.size w w') : OwnR w' B e k A n c vs :=
  h.kept (row := none) ⟨hb.os, hb.tape, hb.output, hb.size, fun k hk _ => hb.block k hk⟩ (by intro k _ e; cases e)
theorem OwnR.mono (h : OwnR w B e k A n c vs) (hB : B' ≤ B) : OwnR w B' e k A n c vs := by
  refine ⟨⟨h.1.1, ?_⟩, h.2⟩
  rcases h.1.2 with h0 | ⟨g, cap, cur, hv, hb, rest⟩
  · exact .inl h0
  · exact .inr ⟨g, cap, cur, hv, by omega, rest⟩
theorem OwnR.blk (h : OwnR w B e k A n c vs) : ∀ q, (Value.slice A n c).ownBlock = some q → B ≤ q ∧ q < w.heap.size := h.1.lt
theorem OwnR.nil (w : World) (B : Nat) (e : TypeId) (k : Nat) : OwnR w B e k none 0 0 [] := ⟨World.ownsRow_nil _ _ _ _, by omega⟩
theorem OwnR.cap (h : OwnR w B e k A n c vs) : n ≤ c := by
  rcases h.1.2 with ⟨h0, rfl⟩ | ⟨g, cap, cur, hv, hb, hg, hr⟩
  · omega
  · injection hv with _ _ e3
    subst e3
    exact hr.1
end
theorem OwnT.tals {w : World} {B n c : Nat} {A : Option Addr} {ts : List Tl} (h : OwnT w B A n c ts) : Tals w w.heap.size A n ts := h.row
theorem OwnD.dbs {w : World} {B n c : Nat} {A : Option Addr} {ds : List Db} (h : OwnD w B A n c ds) : Dbs w w.heap.size A n ds := h.row

theorem tally_info : (Try.prog.info? 33).map (fun i => (i.zero, i.size, i.bytes)) = some (some (.agg #[.int .i64 0, .int .i64 0, .string ⟨#[]⟩, .string ⟨#[]⟩]), 4, 48) := by kernel_rfl
theorem debt_info : (Try.prog.info? 54).map (fun i => (i.zero, i.size, i.bytes)) = some (some (.agg #[.int .i64 0, .int .i64 0, .int .i64 0]), 3, 24) := by kernel_rfl
theorem shape_own {w : World} {B k n m : Nat} {e : TypeId} {v : Value} {vs : List Value} (h : w.ownsRow B e k v (n + m) vs) (hn : n + m ≤ 1099511627776) : ∃ A c, v = .slice A (n + m) c ∧ OwnR w B e k A (n + m) c vs := by
  rcases h.2 with ⟨rfl, h0⟩ | ⟨g, cap, cur, rfl, _⟩
  · rw [h0] at h ⊢
    exact ⟨none, 0, rfl, h, by omega⟩
  · exact ⟨_, _, rfl, h, hn⟩
/-- append(out, t): the new tally lies in a block of its own -/
theorem wpList_app_t {ops : Array Oper} {rest : List Oper} {o : Oper} {a : Act} {w : World} {Q : Exit → Act → World → Prop} (hgd : o.guard = none) (s x : Operand)
    (ho : o.op = .call { callee := .builtin .append, args := #[s, x], argTypes := #[23, 23] })
    {B : Nat} {A : Option Addr} {n c : Nat} {ts : List Tl} (hs : a.eval s = .slice A n c) (hown : OwnT w B A n c ts) (t : Tl) (c0 : Nat)
    (hx : a.eval x = .slice (some ⟨w.heap.size, 0, none⟩) 1 c0) (cs : Array Value) (hcs : cs = t.cells.toArray) (hn : n + 1 ≤ 1000000) (hB : B ≤ w.heap.size)
    (h : ∀ A' c' w', OwnT w' B A' (n + 1) c' (ts ++ [t]) → w.grownBy w' (Value.slice A n c).ownBlock → wpList Try.prog ops Q rest (a.put o.dst (.slice A' (n + 1) c')) w') :
    wpList Try.prog ops Q (o :: rest) a (w.alloc (.cells cs 33)) := by
  obtain ⟨i0, hi, hz0, hz1, hz2⟩ := info_parts tally_info
  subst hcs
  refine wpList_append_own _ hgd s x 23 ho B 33 i0 _ 4 48 Try.underlying23 hi hz0 hz1 hz2 rfl (by decide) _ n (TV ts) hs (hown.1.alloc _)
    ⟨w.heap.size, 0, none⟩ 1 c0 t.cells hx (by simp [Tl.cells]) ?_ (by rw [← TV_one]; exact TV_oneCell _) (by unfold maxLen; omega) (by omega) (by simp; omega) ?_
  · intro j u hj
    rw [add_row, cell_of_row _ w.heap.size j _ _ _ (heap_alloc_new w _)]
    simpa using hj
  · intro v' w' hown' hg _
    rw [← TV_one, ← TV_append] at hown'
    obtain ⟨A', c', rfl, h'⟩ := shape_own hown' (by omega)
    exact h A' c' w' h' ⟨hg.os, hg.tape, hg.output, by have := hg.size; simp at this; omega, fun k hk hne => (hg.block k (by simp; omega) hne).trans (Below.heap_alloc w _ k hk)⟩
theorem wpList_app_d {ops : Array Oper} {rest : List Oper} {o : Oper} {a : Act} {w : World} {Q : Exit → Act → World → Prop} (hgd : o.guard = none) (s x : Operand)
    (ho : o.op = .call { callee := .builtin .append, args := #[s, x], argTypes := #[44, 44] })
    {B : Nat} {A : Option Addr} {n c : Nat} {ts : List Db} (hs : a.eval s = .slice A n c) (hown : OwnD w B A n c ts) (t : Db) (c0 : Nat)
    (hx : a.eval x = .slice (some ⟨w.heap.size, 0, none⟩) 1 c0) (cs : Array Value) (hcs : cs = t.cells.toArray) (hn : n + 1 ≤ 1000000) (hB : B ≤ w.heap.size)
    (h : ∀ A' c' w', OwnD w' B A' (n + 1) c' (ts ++ [t]) → w.grownBy w' (Value.slice A n c).ownBlock → wpList Try.prog ops Q rest (a.put o.dst (.slice A' (n + 1) c')) w') :
    wpList Try.prog ops Q (o :: rest) a (w.alloc (.cells cs 54)) := by
  obtain ⟨i0, hi, hz0, hz1, hz2⟩ := info_parts debt_info
  subst hcs
  refine wpList_append_own _ hgd s x 44 ho B 54 i0 _ 3 24 Try.underlying44 hi hz0 hz1 hz2 rfl (by decide) _ n (DV ts) hs (hown.1.alloc _)
    ⟨w.heap.size, 0, none⟩ 1 c0 t.cells hx (by simp [Db.cells]) ?_ (by rw [← DV_one]; exact DV_oneCell _) (by unfold maxLen; omega) (by omega) (by simp; omega) ?_
  · intro j u hj
    rw [add_row, cell_of_row _ w.heap.size j _ _ _ (heap_alloc_new w _)]
    simpa using hj
  · intro v' w' hown' hg _
    rw [← DV_one, ← DV_append] at hown'
    obtain ⟨A', c', rfl, h'⟩ := shape_own hown' (by omega)
    exact h A' c' w' h' ⟨hg.os, hg.tape, hg.output, by have := hg.size; simp at this; omega, fun k hk hne => (hg.block k (by simp; omega) hne).trans (Below.heap_alloc w _ k hk)⟩
/-- make([]debt, 0, n) -/
theorem wpList_make_d {ops : Array Oper} {rest : List Oper} {o : Oper} {a : Act} {w : World} {Q : Exit → Act → World → Prop} (hgd : o.guard = none) (l c : Operand)
    (ho : o.op = .makeSlice 44 l c) {B n : Nat} (C : Int) (hl : a.eval l = .int .i64 0) (hc : a.eval c = .int .i64 C) (hC : C = (n : Int)) (hn : n ≤ 1000000) (hB : B ≤ w.heap.size)
    (h : ∀ w', OwnD w' B (some ⟨w.heap.size, 0, none⟩) 0 n [] → w.grownBy w' none → wpList Try.prog ops Q rest (a.put o.dst (.slice (some ⟨w.heap.size, 0, none⟩) 0 n)) w') :
    wpList Try.prog ops Q (o :: rest) a w := by
  obtain ⟨i0, hi, hz0, hz1, hz2⟩ := info_parts debt_info
  refine wpList_make_own w hgd l c 44 ho B 54 i0 _ 3 Try.underlying44 hi hz0 hz1 .i64 .i64 C n hl hc hC (by rw [hz2]; omega) (by unfold maxLen; omega) hB ?_
  intro w' hown hg
  exact h w' ⟨hown, by omega⟩ hg
end Go.Proofs.Ytogplbnabffcfaa
