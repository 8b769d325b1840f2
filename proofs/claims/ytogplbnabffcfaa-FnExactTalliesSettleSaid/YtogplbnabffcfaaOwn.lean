/-
  append and make on lists of integers of the call's own: the walk's laws, in the words of Mem.
-/
import Derived.Test.YtogplbnabffcfaaCommon
namespace Go.Proofs.Ytogplbnabffcfaa
open Go.RowKit

theorem own_int_info : (Try.prog.info? 3).map (fun i => (i.zero, i.size, i.bytes)) = some (some (.int .i64 0), 1, 8) := by kernel_rfl

/-- what was there below B is still there behind a step that wrote an own row alone -/
theorem below_step {B : Nat} {a w w' : World} {A : Option Addr} {n c : Nat} {xs : List Int} (h : Below B a w) (hg : w.grownBy w' (Value.slice A n c).ownBlock) (ho : Own w B A n c xs) (hB : B ≤ w.heap.size) : Below B a w' :=
  h.grown hg hB fun k hk => (ho.blk k hk).1

/-- append(out, u, ..): the new elements were laid in a block of their own just before -/
theorem wpList_app {ops : Array Oper} {rest : List Oper} {o : Oper} {a : Act} {w : World} {Q : Exit → Act → World → Prop} (hgd : o.guard = none) (s x : Operand)
    (ho : o.op = .call { callee := .builtin .append, args := #[s, x], argTypes := #[29, 29] })
    {B : Nat} {A : Option Addr} {n c : Nat} {xs : List Int} (hs : a.eval s = .slice A n c) (hown : Own w B A n c xs) (us : List Int) (m : Nat) (hm : us.length = m) (c0 : Nat)
    (hx : a.eval x = .slice (some ⟨w.heap.size, 0, none⟩) m c0) (cs : Array Value) (hcs : cs = (IV us).toArray) (hn : n + m ≤ 1099511627776) (hB : B ≤ w.heap.size)
    (h : ∀ A' c' w', Own w' B A' (n + m) c' (xs ++ us) → w.grownBy w' (Value.slice A n c).ownBlock → wpList Try.prog ops Q rest (a.put o.dst (.slice A' (n + m) c')) w') :
    wpList Try.prog ops Q (o :: rest) a (w.alloc (.cells cs 3)) := by
  obtain ⟨i0, hi, hz0, hz1, hz2⟩ := info_parts own_int_info
  subst hcs
  subst hm
  refine wpList_append_own _ hgd s x 29 ho B 3 i0 (.int .i64 0) 1 8 Try.underlying29 hi hz0 hz1 hz2 rfl (by decide) _ n (IV xs) hs (hown.1.alloc _)
    ⟨w.heap.size, 0, none⟩ us.length c0 (IV us) hx (by simp [IV]) ?_ (IV_one us) (by unfold maxLen; omega) (by omega) (by simp; omega) ?_
  · intro j u hj
    rw [add_row, cell_of_row _ w.heap.size j _ _ _ (heap_alloc_new w _)]
    simpa using hj
  · intro v' w' hown' hg _
    obtain ⟨A', c', rfl, h'⟩ := Own.of_app us rfl hown' hn
    exact h A' c' w' h' ⟨hg.os, hg.tape, hg.output, by have := hg.size; simp at this; omega, fun k hk hne => (hg.block k (by simp; omega) hne).trans (Below.heap_alloc w _ k hk)⟩

/-- append(out, ys...) where ys reads as a list -/
theorem wpList_app_ints {ops : Array Oper} {rest : List Oper} {o : Oper} {a : Act} {w : World} {Q : Exit → Act → World → Prop} (hgd : o.guard = none) (s x : Operand)
    (ho : o.op = .call { callee := .builtin .append, args := #[s, x], argTypes := #[29, 29] })
    {B : Nat} {A : Option Addr} {n c : Nat} {xs : List Int} (hs : a.eval s = .slice A n c) (hown : Own w B A n c xs) {B2 m c0 : Nat} {A2 : Option Addr} {us : List Int}
    (hx : a.eval x = .slice A2 m c0) (hr : Ints w B2 A2 m us) (hn : n + m ≤ 1099511627776) (hB : B ≤ w.heap.size)
    (h : ∀ A' c' w', Own w' B A' (n + m) c' (xs ++ us) → w.grownBy w' (Value.slice A n c).ownBlock → wpList Try.prog ops Q rest (a.put o.dst (.slice A' (n + m) c')) w') :
    wpList Try.prog ops Q (o :: rest) a w := by
  obtain ⟨i0, hi, hz0, hz1, hz2⟩ := info_parts own_int_info
  have hl := hr.len
  by_cases hm : 0 < m
  · obtain ⟨b, off, rfl, hb, hc⟩ := hr.addr hm
    refine wpList_append_own _ hgd s x 29 ho B 3 i0 (.int .i64 0) 1 8 Try.underlying29 hi hz0 hz1 hz2 rfl (by decide) _ n (IV xs) hs hown.1
      ⟨b, off, none⟩ m c0 (IV us) hx (by simp [IV, hl]) ?_ (IV_one us) (by unfold maxLen; omega) (by omega) hB ?_
    · intro j u hj
      have hj' : (us.map (Value.int .i64))[j]? = some u := hj
      rw [List.getElem?_map] at hj'
      obtain ⟨z, hz, rfl⟩ := Option.map_eq_some_iff.1 hj'
      have e : (⟨b, off, none⟩ : Addr).add j = ⟨b, off + j, none⟩ := by unfold Addr.add; split <;> simp_all
      rw [e]
      exact hc j z hz
    · intro v' w' hown' hg _
      obtain ⟨A', c', rfl, h'⟩ := Own.of_app us rfl hown' hn
      exact h A' c' w' h' hg
  · obtain rfl : m = 0 := by omega
    obtain rfl := List.eq_nil_of_length_eq_zero hl
    have hown0 : Own w B A (n + 0) c (xs ++ []) := by simpa using hown
    have hh := h A c w hown0 (World.grownBy.refl w _)
    rcases A2 with _ | ad
    · refine wpList_plain hgd fun K hK => ?_
      unfold Oper.wp execOp
      have hrun : (Builtin.append_ #[29, 29] o.type #[.slice A n c, .slice none 0 c0]).run Try.prog w = .ok (.slice A n c) w := by
        rcases hown.1.2 with ⟨h1, rfl⟩ | ⟨g, cap, cur, h1, _, _, hnc, _⟩
        · rw [h1]; simp [Builtin.append_, run_underlying Try.underlying29, sizeOf, typeInfo, hi, Builtin.lenOf, Builtin.firstCells]
        · rw [h1]; simp [Builtin.append_, run_underlying Try.underlying29, sizeOf, typeInfo, hi, Builtin.lenOf, Builtin.firstCells, hnc, storeCells]
      simp only [ho, resolve, invoke, builtin, Sem.run_bind, Sem.run_pure, Result.andThen_ok, List.map_toArray, List.map_cons, List.map_nil, hs, hx, hrun]
      exact hK _ _ hh
    · refine wpList_append_own _ hgd s x 29 ho B 3 i0 (.int .i64 0) 1 8 Try.underlying29 hi hz0 hz1 hz2 rfl (by decide) _ n (IV xs) hs hown.1
        ad 0 c0 [] hx rfl (by intro j u hj; simp at hj) (by simp) (by unfold maxLen; omega) (by omega) hB ?_
      intro v' w' hown' hg _
      obtain ⟨A', c', rfl, h'⟩ := Own.of_app [] rfl hown' hn
      exact h A' c' w' h' hg

/-- make([]int, n) -/
theorem wpList_make_ints {ops : Array Oper} {rest : List Oper} {o : Oper} {a : Act} {w : World} {Q : Exit → Act → World → Prop} (hgd : o.guard = none) (l c : Operand)
    (ho : o.op = .makeSlice 29 l c) {B n : Nat} (hl : a.eval l = .int .i64 (n : Int)) (hc : a.eval c = .int .i64 (n : Int)) (hn : n ≤ 1099511627776) (hB : B ≤ w.heap.size)
    (h : ∀ w', Own w' B (some ⟨w.heap.size, 0, none⟩) n n (List.replicate n 0) → w.grownBy w' none → wpList Try.prog ops Q rest (a.put o.dst (.slice (some ⟨w.heap.size, 0, none⟩) n n)) w') :
    wpList Try.prog ops Q (o :: rest) a w := by
  obtain ⟨i0, hi, hz0, hz1, hz2⟩ := info_parts own_int_info
  refine wpList_make_full w hgd l c 29 ho B 3 i0 (.int .i64 0) 1 Try.underlying29 hi hz0 hz1 .i64 .i64 _ _ n hl hc rfl rfl (by rw [hz2]; omega) (by unfold maxLen; omega) hB ?_
  intro w' hown hg
  have e : (madeCells (Value.int .i64 0).cells (n * 1)).toList = IV (List.replicate n 0) := by
    rw [Nat.mul_one]
    exact (toList_madeCells_one _ _).trans (by simp [IV])
  rw [e] at hown
  exact h w' ⟨hown, hn⟩ hg
/-- make([]int, 0, n) -/
theorem wpList_make_room {ops : Array Oper} {rest : List Oper} {o : Oper} {a : Act} {w : World} {Q : Exit → Act → World → Prop} (hgd : o.guard = none) (l c : Operand)
    (ho : o.op = .makeSlice 29 l c) {B n : Nat} (C : Int) (hl : a.eval l = .int .i64 0) (hc : a.eval c = .int .i64 C) (hC : C = (n : Int)) (hn : n ≤ 1099511627776) (hB : B ≤ w.heap.size)
    (h : ∀ w', Own w' B (some ⟨w.heap.size, 0, none⟩) 0 n [] → w.grownBy w' none → wpList Try.prog ops Q rest (a.put o.dst (.slice (some ⟨w.heap.size, 0, none⟩) 0 n)) w') :
    wpList Try.prog ops Q (o :: rest) a w := by
  obtain ⟨i0, hi, hz0, hz1, hz2⟩ := info_parts own_int_info
  refine wpList_make_own w hgd l c 29 ho B 3 i0 (.int .i64 0) 1 Try.underlying29 hi hz0 hz1 .i64 .i64 C n hl hc hC (by rw [hz2]; omega) (by unfold maxLen; omega) hB ?_
  intro w' hown hg
  exact h w' ⟨hown, by omega⟩ hg
/-- []int{..} just laid -/
theorem own_lit (w : World) (us : List Int) (B n : Nat) (hl : us.length = n) (hn : n ≤ 1099511627776) (hB : B ≤ w.heap.size) : Own (w.alloc (.cells (IV us).toArray 3)) B (some ⟨w.heap.size, 0, none⟩) n n us := by
  have h := World.ownsRow_lit (base := B) (e := 3) (size := 1) w (IV us).toArray n hB (by unfold maxLen; omega) (by simp [IV, hl])
  exact ⟨by simpa using h, hn⟩

theorem fill_next {xs : List Int} {n k : Nat} {u : Int} (hk : k < n) (hl : xs.length = n) (h : xs[k]? = some u) :
    (xs.take k ++ List.replicate (n - k) 0).set k u = xs.take (k + 1) ++ List.replicate (n - (k + 1)) 0 := by
  have e : n - k = (n - (k + 1)) + 1 := by omega
  rw [take_next h, e, List.replicate_succ, List.set_append_right _ _ (by rw [List.length_take]; omega), List.length_take]
  rw [show k - min k xs.length = 0 from by omega, List.set_cons_zero, List.append_assoc]
  rfl
theorem fill_at {xs : List Int} {n k : Nat} (hk : k < n) (hl : xs.length = n) : (xs.take k ++ List.replicate (n - k) (0 : Int))[k]? = some 0 := by
  rw [List.getElem?_append_right (by rw [List.length_take]; omega), List.length_take, show k - min k xs.length = 0 from by omega, List.getElem?_replicate, if_pos (by omega)]

def eqB (xs ys : List Int) : Bool := sameB xs ys
/-- the list k, k + 1, .. of so many -/
def upFrom (k : Int) : Nat → List Int
  | 0 => []
  | n + 1 => k :: upFrom (k + 1) n
theorem upFrom_length (n : Nat) : ∀ k, (upFrom k n).length = n := by
  induction n with
  | zero => intro k; rfl
  | succ n ih => intro k; simp [upFrom, ih]
theorem upFrom_get (n : Nat) : ∀ k j, j < n → (upFrom k n)[j]? = some (k + j) := by
  induction n with
  | zero => intro k j h; omega
  | succ n ih =>
    intro k j h
    cases j with
    | zero => simp [upFrom]
    | succ j => rw [upFrom, List.getElem?_cons_succ, ih (k + 1) j (by omega)]; congr 1; omega
theorem mark_next {xs : List Int} {n j : Nat} (k : Int) (hl : xs.length = n) (hj : j < n) :
    ((upFrom k n).take j ++ xs.drop j).set j (k + j) = (upFrom k n).take (j + 1) ++ xs.drop (j + 1) := by
  have hu := upFrom_get n k j hj
  have hln := upFrom_length n k
  rw [take_next hu, List.drop_eq_getElem_cons (by omega : j < xs.length), List.set_append_right _ _ (by rw [List.length_take]; omega), List.length_take,
    show j - min j (upFrom k n).length = 0 from by omega, List.set_cons_zero, List.append_assoc]
  rfl
theorem mark_at {xs : List Int} {n j : Nat} (k : Int) (hl : xs.length = n) (hj : j < n) : ∃ u, ((upFrom k n).take j ++ xs.drop j)[j]? = some u := by
  have hln := upFrom_length n k
  exact ⟨_, List.getElem?_eq_getElem (by simp; omega)⟩

end Go.Proofs.Ytogplbnabffcfaa
