/-
  The heaps side by side, and the row of tallies that grows beside them; what the balances come to.
-/
import Derived.Test.YtogplbnabffcfaaTaBal2
import Derived.Test.YtogplbnabffcfaaTaPlain4
namespace Go.Proofs.Ytogplbnabffcfaa
open Go.RowKit
set_option linter.unusedSimpArgs false

/-! balances even out -/
theorem sum_upd {b : List Int} {d : Db} (hl : b.length = 5) (ht : Two d.a d.c) : Ta.sum (upd b d) = Ta.sum b := by
  obtain ⟨t0, t1, t2, t3, t4⟩ := ht
  unfold Ta.sum upd
  rw [Ta.tot_set _ _ _ _ (by rw [List.length_set, hl]; omega), Ta.tot_set _ _ _ _ (by omega)]
  simp only [id]
  omega
theorem bal_ok {ds : List Db} (h : Fair ds) : Ta.Bal (bal ds) ∧ Ta.Bd 432000 (bal ds) := by
  suffices H : ∀ (ds : List Db) (b : List Int) (m : Int), Within m b → Ta.sum b = 0 → (∀ d ∈ ds, Two d.a d.c ∧ 0 ≤ d.v ∧ d.v ≤ 36000) → Within (m + 36000 * (ds.length : Int)) (ds.foldl upd b) ∧ Ta.sum (ds.foldl upd b) = 0 by
    have h0 : Within 0 [0, 0, 0, 0, 0] := ⟨rfl, fun i u hu => by have := List.mem_of_getElem? hu; simp at this; omega⟩
    obtain ⟨⟨a1, a2⟩, a3⟩ := H ds _ 0 h0 rfl h.2
    refine ⟨⟨a1, a3⟩, fun i => ?_⟩
    have h12 := h.1
    by_cases hi : i < 5
    · have e : (bal ds)[i]? = some ((bal ds).getD i 0) := by rw [List.getD_eq_getElem?_getD, List.getElem?_eq_getElem (by rw [bal_length]; exact hi)]; rfl
      have := a2 i _ e
      omega
    · rw [List.getD_eq_getElem?_getD, List.getElem?_eq_none (by rw [bal_length]; omega)]
      simp
  intro ds
  induction ds with
  | nil => intro b m h1 h2 _; exact ⟨by simpa using h1, h2⟩
  | cons d ds ih =>
    intro b m h1 h2 h3
    obtain ⟨q1, q2, q3⟩ := h3 d List.mem_cons_self
    have := ih (upd b d) (m + 36000) (h1.upd q2 q3 q1) ((sum_upd h1.1 q1).trans h2) (fun x hx => h3 x (List.mem_cons_of_mem _ hx))
    rw [List.foldl_cons]
    rwa [show m + 36000 + 36000 * (ds.length : Int) = m + 36000 * ((d :: ds).length : Int) from by simp; omega] at this

/-- append(out, t), and where the new row lies -/
theorem wpList_app_t_at {ops : Array Oper} {rest : List Oper} {o : Oper} {a : Act} {w : World} {Q : Exit → Act → World → Prop} (hgd : o.guard = none) (s x : Operand)
    (ho : o.op = .call { callee := .builtin .append, args := #[s, x], argTypes := #[23, 23] })
    {B : Nat} {A : Option Addr} {n c : Nat} {ts : List Tl} (hs : a.eval s = .slice A n c) (hown : OwnT w B A n c ts) (t : Tl) (c0 nb : Nat)
    (hx : a.eval x = .slice (some ⟨nb, 0, none⟩) 1 c0) (hnb : nb = w.heap.size) (cs : Array Value) (hcs : cs = t.cells.toArray) (hn : n + 1 ≤ 1000000) (hB : B ≤ w.heap.size)
    (h : ∀ A' c' w', OwnT w' B A' (n + 1) c' (ts ++ [t]) → w.grownBy w' (Value.slice A n c).ownBlock → (∀ k, (Value.slice A' (n + 1) c').ownBlock = some k → (Value.slice A n c).ownBlock = some k ∨ w.heap.size ≤ k) →
      wpList Try.prog ops Q rest (a.put o.dst (.slice A' (n + 1) c')) w') :
    wpList Try.prog ops Q (o :: rest) a (w.alloc (.cells cs 33)) := by
  obtain ⟨i0, hi, hz0, hz1, hz2⟩ := info_parts tally_info
  subst hcs
  subst hnb
  refine wpList_append_own_at _ hgd s x 23 ho B 33 i0 _ 4 48 Try.underlying23 hi hz0 hz1 hz2 rfl (by decide) _ n (TV ts) hs (hown.1.alloc _)
    ⟨w.heap.size, 0, none⟩ 1 c0 t.cells hx (by simp [Tl.cells]) ?_ (by rw [← TV_one]; exact TV_oneCell _) (by unfold maxLen; omega) (by omega) (by simp; omega) ?_
  · intro j u hj
    rw [add_row, cell_of_row _ w.heap.size j _ _ _ (heap_alloc_new w _)]
    simpa using hj
  · intro v' w' hown' hg _ hat
    rw [← TV_one, ← TV_append] at hown'
    obtain ⟨A', c', rfl, h'⟩ := shape_own hown' (by omega)
    refine h A' c' w' h' ⟨hg.os, hg.tape, hg.output, by have := hg.size; simp at this; omega, fun k hk hne => (hg.block k (by simp; omega) hne).trans (Below.heap_alloc w _ k hk)⟩ (fun k hk => ?_)
    rcases hat with hat | hat
    · exact .inl (hat ▸ hk)
    · rw [hat] at hk
      injection hk with hk
      exact .inr (by rw [← hk]; simp)

/-- two heaps of debts side by side -/
structure Lay (w : World) (B g h : Nat) (A : Option Addr) (n c : Nat) (xs : List (Nat × Int)) (A2 : Option Addr) (n2 c2 : Nat) (ys : List (Nat × Int)) : Prop where
  one : Hp w B g A n c xs
  two : Hp w B h A2 n2 c2 ys
  bg : B ≤ g
  bh : B ≤ h
  gh : g ≠ h
  oh : ∀ k, (Value.slice A n c).ownBlock = some k → k ≠ h
  tg : ∀ k, (Value.slice A2 n2 c2).ownBlock = some k → k ≠ g
  ot : ∀ k, (Value.slice A n c).ownBlock = some k → (Value.slice A2 n2 c2).ownBlock ≠ some k
/-- a row apart from both -/
def Sep (g h : Nat) (A : Option Addr) (n c : Nat) (A2 : Option Addr) (n2 c2 : Nat) (T : Value) : Prop :=
  ∀ k, T.ownBlock = some k → k ≠ g ∧ k ≠ h ∧ (Value.slice A n c).ownBlock ≠ some k ∧ (Value.slice A2 n2 c2).ownBlock ≠ some k
section
variable {w w' : World} {B g h n c n2 c2 : Nat} {A A2 : Option Addr} {xs ys : List (Nat × Int)} {T : Value}
theorem Lay.symm (L : Lay w B g h A n c xs A2 n2 c2 ys) : Lay w B h g A2 n2 c2 ys A n c xs :=
  ⟨L.two, L.one, L.bh, L.bg, L.gh.symm, L.tg, L.oh, fun k h1 h2 => L.ot k h2 h1⟩
theorem Sep.symm (S : Sep g h A n c A2 n2 c2 T) : Sep h g A2 n2 c2 A n c T := fun k hk => by
  obtain ⟨h1, h2, h3, h4⟩ := S k hk
  exact ⟨h2, h1, h4, h3⟩
theorem Lay.next (L : Lay w B g h A n c xs A2 n2 c2 ys) (hb : Below w.heap.size w w') : Lay w' B g h A n c xs A2 n2 c2 ys :=
  ⟨L.one.next hb, L.two.next hb, L.bg, L.bh, L.gh, L.oh, L.tg, L.ot⟩
theorem Lay.drew (L : Lay w B g h A n c xs A2 n2 c2 ys) : Lay w.drew B g h A n c xs A2 n2 c2 ys := ⟨L.one.drew, L.two.drew, L.bg, L.bh, L.gh, L.oh, L.tg, L.ot⟩
/-- one heap changed; a row apart from both stays apart, and what lies apart stays -/
theorem Lay.change {A' : Option Addr} {n' c' : Nat} {xs' : List (Nat × Int)} (L : Lay w B g h A n c xs A2 n2 c2 ys) (h1 : Hp w' B g A' n' c' xs') (h2 : Kept w w' (Mine g A n c))
    (h3 : ∀ k, (Value.slice A' n' c').ownBlock = some k → (Value.slice A n c).ownBlock = some k ∨ w.heap.size ≤ k) :
    Lay w' B g h A' n' c' xs' A2 n2 c2 ys ∧ Below B w w' ∧ ∀ T, Sep g h A n c A2 n2 c2 T → (∀ k, T.ownBlock = some k → k < w.heap.size) → Sep g h A' n' c' A2 n2 c2 T := by
  have hh := L.two.blk.lt
  have no : ∀ k, (Value.slice A2 n2 c2).ownBlock = some k → k < w.heap.size := fun k hk => (L.two.own.blk k hk).2
  refine ⟨⟨h1, L.two.kept h2 ?_ ?_, L.bg, L.bh, L.gh, ?_, L.tg, ?_⟩, h2.below ?_ ?_, fun T S hT k hk => ?_⟩
  · rintro (e | e)
    · exact L.gh e.symm
    · exact L.oh _ e rfl
  · rintro k hk (e | e)
    · exact L.tg k hk e
    · exact L.ot k e hk
  · intro k hk
    rcases h3 k hk with e | e
    · exact L.oh k e
    · omega
  · intro k hk hk2
    rcases h3 k hk with e | e
    · exact L.ot k e hk2
    · have := no k hk2; omega
  · have := L.bg; have := L.one.blk.lt; omega
  · rintro k (e | e)
    · have := L.bg; omega
    · exact (L.one.own.blk k e).1
  · obtain ⟨s1, s2, s3, s4⟩ := S k hk
    refine ⟨s1, s2, fun e => ?_, s4⟩
    rcases h3 k e with e | e
    · exact s3 e
    · have := hT k hk; omega
theorem Lay.put1 {x : Nat × Int} (L : Lay w B g h A n c xs A2 n2 c2 ys) (hP : PutPost w B g A n c xs x w') :
    ∃ A' c', Lay w' B g h A' (Ta.putL xs x).length c' (Ta.putL xs x) A2 n2 c2 ys ∧ Below B w w' ∧ Kept w w' (Mine g A n c) ∧ ∀ T, Sep g h A n c A2 n2 c2 T → (∀ k, T.ownBlock = some k → k < w.heap.size) → Sep g h A' (Ta.putL xs x).length c' A2 n2 c2 T := by
  obtain ⟨A', c', h1, h2, h3⟩ := hP
  obtain ⟨r1, r2, r3⟩ := L.change h1 h2 h3
  exact ⟨A', c', r1, r2, h2, r3⟩
theorem Lay.put2 {y : Nat × Int} (L : Lay w B g h A n c xs A2 n2 c2 ys) (hP : PutPost w B h A2 n2 c2 ys y w') :
    ∃ A' c', Lay w' B g h A n c xs A' (Ta.putL ys y).length c' (Ta.putL ys y) ∧ Below B w w' ∧ Kept w w' (Mine h A2 n2 c2) ∧ ∀ T, Sep g h A n c A2 n2 c2 T → (∀ k, T.ownBlock = some k → k < w.heap.size) → Sep g h A n c A' (Ta.putL ys y).length c' T := by
  obtain ⟨A', c', r1, r2, r3, r4⟩ := L.symm.put1 hP
  exact ⟨A', c', r1.symm, r2, r3, fun T S hT => (r4 T S.symm hT).symm⟩
theorem Lay.take1 {r : Nat} {zs : List (Nat × Int)} (L : Lay w B g h (some ⟨r, 0, none⟩) (n + 1) c xs A2 n2 c2 ys) (hP : PopPost w B g r n c zs w') :
    Lay w' B g h (some ⟨r, 0, none⟩) n c zs A2 n2 c2 ys ∧ Below B w w' ∧ Kept w w' (Mine g (some ⟨r, 0, none⟩) (n + 1) c) ∧ ∀ T, Sep g h (some ⟨r, 0, none⟩) (n + 1) c A2 n2 c2 T → (∀ k, T.ownBlock = some k → k < w.heap.size) → Sep g h (some ⟨r, 0, none⟩) n c A2 n2 c2 T := by
  obtain ⟨h1, h2⟩ := hP
  have h2' : Kept w w' (Mine g (some ⟨r, 0, none⟩) (n + 1) c) := h2.mono fun k _ hk => by
    rcases hk with e | e
    · exact .inl e
    · exact .inr (by rw [e]; rfl)
  obtain ⟨r1, r2, r3⟩ := L.change h1 h2' (fun k hk => .inl hk)
  exact ⟨r1, r2, h2', r3⟩
theorem Lay.take2 {r : Nat} {zs : List (Nat × Int)} (L : Lay w B g h A n c xs (some ⟨r, 0, none⟩) (n2 + 1) c2 ys) (hP : PopPost w B h r n2 c2 zs w') :
    Lay w' B g h A n c xs (some ⟨r, 0, none⟩) n2 c2 zs ∧ Below B w w' ∧ Kept w w' (Mine h (some ⟨r, 0, none⟩) (n2 + 1) c2) ∧ ∀ T, Sep g h A n c (some ⟨r, 0, none⟩) (n2 + 1) c2 T → (∀ k, T.ownBlock = some k → k < w.heap.size) → Sep g h A n c (some ⟨r, 0, none⟩) n2 c2 T := by
  obtain ⟨r1, r2, r3, r4⟩ := L.symm.take1 hP
  exact ⟨r1.symm, r2, r3, fun T S hT => (r4 T S.symm hT).symm⟩
/-- a row of the call's own apart from the heap that changed -/
theorem OwnR.apart {e : TypeId} {k n' c' : Nat} {A' : Option Addr} {vs : List Value} (ho : OwnR w B e k A' n' c' vs) (hk : Kept w w' (Mine g A n c)) (hs : ∀ q, (Value.slice A' n' c').ownBlock = some q → q ≠ g ∧ (Value.slice A n c).ownBlock ≠ some q) : OwnR w' B e k A' n' c' vs := by
  refine ⟨⟨ho.1.1, ?_⟩, ho.2⟩
  rcases ho.1.2 with h0 | ⟨r, cap, cur, hv, hb, hg, rest⟩
  · exact .inl h0
  · refine .inr ⟨r, cap, cur, hv, hb, ?_, rest⟩
    have hq := hs r (by rw [hv]; rfl)
    rw [hk.block r (Array.getElem?_eq_some_iff.1 hg).1 (by rintro (e | e); exact hq.1 e; exact hq.2 e)]
    exact hg
/-- a row that grew: the heaps stay, and stay apart from it -/
theorem Lay.grown {T' : Value} (L : Lay w B g h A n c xs A2 n2 c2 ys) (S : Sep g h A n c A2 n2 c2 T) (hg : w.grownBy w' T.ownBlock) (hat : ∀ k, T'.ownBlock = some k → T.ownBlock = some k ∨ w.heap.size ≤ k) :
    Lay w' B g h A n c xs A2 n2 c2 ys ∧ Sep g h A n c A2 n2 c2 T' := by
  have hk := Kept.of_grown hg
  refine ⟨⟨L.one.kept hk (fun e => (S _ e).1 rfl) (fun k h1 h2 => (S k h2).2.2.1 h1), L.two.kept hk (fun e => (S _ e).2.1 rfl) (fun k h1 h2 => (S k h2).2.2.2 h1), L.bg, L.bh, L.gh, L.oh, L.tg, L.ot⟩, fun k hk => ?_⟩
  rcases hat k hk with e | e
  · exact S k e
  · refine ⟨by have := L.one.blk.lt; omega, by have := L.two.blk.lt; omega, fun h1 => by have := (L.one.own.blk k h1).2; omega, fun h1 => by have := (L.two.own.blk k h1).2; omega⟩
/-- a store into a block made behind the heaps -/
theorem Lay.aside {w0 : World} {z : Nat} (L : Lay w B g h A n c xs A2 n2 c2 ys) (L0 : Lay w0 B g h A n c xs A2 n2 c2 ys) (hz : w0.heap.size ≤ z) (j : Nat) (v : Value) : Lay (w.setCell ⟨z, j, none⟩ v) B g h A n c xs A2 n2 c2 ys := by
  have hg : w.grownBy (w.setCell ⟨z, j, none⟩ v) (Value.slice (some ⟨z, 0, none⟩) 0 0).ownBlock := ⟨rfl, rfl, rfl, by simp [World.setCell], fun k _ hne => heap_setCell_other w _ k _ (fun e => hne (by rw [e]; rfl))⟩
  refine (L.grown (T := .slice (some ⟨z, 0, none⟩) 0 0) (T' := .slice (some ⟨z, 0, none⟩) 0 0) (fun k hk => ?_) hg (fun k hk => .inl hk)).1
  have hk : z = k := by injection hk
  refine ⟨by have := L0.one.blk.lt; omega, by have := L0.two.blk.lt; omega, fun h1 => by have := (L0.one.own.blk k h1).2; omega, fun h1 => by have := (L0.two.own.blk k h1).2; omega⟩
theorem OwnR.aside {e : TypeId} {k n' c' z : Nat} {A' : Option Addr} {vs : List Value} (ho : OwnR w B e k A' n' c' vs) (hz : ∀ q, (Value.slice A' n' c').ownBlock = some q → q ≠ z) (j : Nat) (v : Value) : OwnR (w.setCell ⟨z, j, none⟩ v) B e k A' n' c' vs := by
  have hg : w.grownBy (w.setCell ⟨z, j, none⟩ v) (some z) := ⟨rfl, rfl, rfl, by simp [World.setCell], fun k _ hne => heap_setCell_other w _ k _ (fun e => hne (by rw [e]))⟩
  exact ho.kept hg (fun q hq e => by injection e with e; exact hz q hq e.symm)
end
theorem lit_nil_t (w : World) (B : Nat) (hB : B ≤ w.heap.size) : OwnT (w.alloc (.cells #[] 33)) B (some ⟨w.heap.size, 0, none⟩) 0 0 [] := by
  refine ⟨⟨rfl, .inr ⟨w.heap.size, 0, #[], rfl, hB, heap_alloc_new w _, ?_⟩⟩, by omega⟩
  simp [TV]
end Go.Proofs.Ytogplbnabffcfaa
