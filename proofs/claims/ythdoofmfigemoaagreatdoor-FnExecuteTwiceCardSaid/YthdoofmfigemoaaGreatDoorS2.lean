/-
  Joined texts.
-/
import Derived.Test.YthdoofmfigemoaaGreatDoorS1
import Derived.Laws.BitsLemmas
import Derived.ArgAppend
import Derived.Laws.OwnMore
import Derived.BigQuiet
import Derived.Deep.RegionHeld3
import Derived.Laws.Tables
import Derived.Laws.NewBlocks
set_option linter.unusedSimpArgs false
set_option linter.unusedVariables false
set_option maxRecDepth 100000
set_option maxHeartbeats 4000000
section
namespace Go.Proofs.YthdoofmfigemoaaGreatDoor.Ta
def less (a b : Nat × Int) : Bool := if a.2 = b.2 then decide (a.1 < b.1) else decide (b.2 < a.2)
def le (a b : Nat × Int) : Prop := less b a = false
theorem le_iff (a b : Nat × Int) : le a b ↔ b.2 < a.2 ∨ (a.2 = b.2 ∧ a.1 ≤ b.1) := by
 unfold le less
 by_cases h : b.2 = a.2
 ·rw [if_pos h, decide_eq_false_iff_not]; omega
 ·rw [if_neg h, decide_eq_false_iff_not]; omega
theorem less_iff (a b : Nat × Int) : less a b = true ↔ b.2 < a.2 ∨ (a.2 = b.2 ∧ a.1 < b.1) := by
 unfold less
 by_cases h : a.2 = b.2
 ·rw [if_pos h, decide_eq_true_iff]; omega
 ·rw [if_neg h, decide_eq_true_iff]; omega
theorem le_of_less {a b : Nat × Int} (h : less a b = true) : le a b := by rw [less_iff] at h; rw [le_iff]; omega
theorem le_trans {a b c : Nat × Int} (h : le a b) (k : le b c) : le a c := by rw [le_iff] at *; omega
theorem le_refl (a : Nat × Int) : le a a := by rw [le_iff]; omega
theorem le_antisymm {a b : Nat × Int} (h : le a b) (k : le b a) : a = b := by
 rw [le_iff] at *
 exact Prod.ext (by omega) (by omega)
abbrev d0 : Nat × Int := (0, 0)
def swapL (xs : List (Nat × Int)) (i j : Nat) : List (Nat × Int) := (xs.set i (xs.getD j d0)).set j (xs.getD i d0)
def upL : Nat → List (Nat × Int) → Nat → List (Nat × Int)
 | 0, xs, _ => xs
 | f + 1, xs, j => if (j - 1) / 2 = j ∨ less (xs.getD j d0) (xs.getD ((j - 1) / 2) d0) = false then xs else upL f (swapL xs ((j - 1) / 2) j) ((j - 1) / 2)
def child (xs : List (Nat × Int)) (i n : Nat) : Nat := if 2 * i + 2 < n ∧ less (xs.getD (2 * i + 2) d0) (xs.getD (2 * i + 1) d0) = true then 2 * i + 2 else 2 * i + 1
def downL : Nat → List (Nat × Int) → Nat → Nat → List (Nat × Int)
 | 0, xs, _, _ => xs
 | f + 1, xs, i, n => if n ≤ 2 * i + 1 then xs else if less (xs.getD (child xs i n) d0) (xs.getD i d0) = false then xs else downL f (swapL xs i (child xs i n)) (child xs i n) n
def Heap : List (Nat × Int) → Prop
 | [] => True
 | [_] => True
 | [a, b] => le a b
 | [a, b, c] => le a b ∧ le a c
 | [a, b, c, d] => le a b ∧ le a c ∧ le b d
 | [a, b, c, d, e] => le a b ∧ le a c ∧ le b d ∧ le b e
 | _ => False
theorem swapL_length (xs : List (Nat × Int)) (i j : Nat) : (swapL xs i j).length = xs.length := by simp [swapL]
theorem upL_length (f : Nat) : ∀ xs j, (upL f xs j).length = xs.length := by
 induction f with
 | zero => intro xs j; rfl
 | succ f ih => intro xs j; unfold upL; split <;> simp [ih, swapL_length]
theorem nl {a b : Nat × Int} (h : ¬ less a b = false) : le a b := le_of_less (by simpa using h)
theorem up_ok (xs : List (Nat × Int)) (x : Nat × Int) (h : Heap xs) (hl : xs.length ≤ 4) : Heap (upL 3 (xs ++ [x]) xs.length) ∧ (upL 3 (xs ++ [x]) xs.length).Perm (x :: xs) := by
 match xs, h, hl with
 | [], _, _ => exact ⟨by simp [upL, Heap], by simp [upL]⟩
 | [a], h, _ =>
  by_cases h1 : less x a = false
  ·exact ⟨by simp [upL, Heap, h1]; exact h1, by simp [upL, h1]; exact List.Perm.swap _ _ _⟩
  ·exact ⟨by simp [upL, swapL, Heap, h1]; exact nl h1, by simp [upL, swapL, h1]⟩
 | [a, b], h, _ =>
  by_cases h1 : less x a = false
  ·exact ⟨by simp [upL, Heap, h1]; exact ⟨h, h1⟩, by simp [upL, h1]; exact (List.perm_append_comm (l₁ := [a, b]) (l₂ := [x]))⟩
  ·exact ⟨by simp [upL, swapL, Heap, h1]; exact ⟨le_trans (nl h1) h, nl h1⟩, by simp [upL, swapL, h1]; exact (List.Perm.swap _ _ _)⟩
 | [a, b, c], h, _ =>
  obtain ⟨hab, hac⟩ := h
  by_cases h1 : less x b = false
  ·exact ⟨by simp [upL, Heap, h1]; exact ⟨hab, hac, h1⟩, by simp [upL, h1]; exact (List.perm_append_comm (l₁ := [a, b, c]) (l₂ := [x]))⟩
  ·by_cases h2 : less x a = false
   ·refine ⟨by simp [upL, swapL, Heap, h1, h2]; exact ⟨h2, hac, nl h1⟩, ?_⟩
    simp [upL, swapL, h1, h2]
    exact ((List.Perm.cons a ((List.Perm.cons x (List.Perm.swap b c [])))).trans (List.Perm.swap x a _))
   ·refine ⟨by simp [upL, swapL, Heap, h1, h2]; exact ⟨nl h2, le_trans (nl h2) hac, hab⟩, ?_⟩
    simp [upL, swapL, h1, h2]
    exact (List.Perm.swap b c [])
 | [a, b, c, d], h, _ =>
  obtain ⟨hab, hac, hbd⟩ := h
  by_cases h1 : less x b = false
  ·exact ⟨by simp [upL, Heap, h1]; exact ⟨hab, hac, hbd, h1⟩, by simp [upL, h1]; exact (List.perm_append_comm (l₁ := [a, b, c, d]) (l₂ := [x]))⟩
  ·by_cases h2 : less x a = false
   ·refine ⟨by simp [upL, swapL, Heap, h1, h2]; exact ⟨h2, hac, le_trans (nl h1) hbd, nl h1⟩, ?_⟩
    simp [upL, swapL, h1, h2]
    exact (List.Perm.cons a (List.Perm.cons x (List.perm_append_comm (l₁ := [c, d]) (l₂ := [b])))).trans (List.Perm.swap x a _)
   ·refine ⟨by simp [upL, swapL, Heap, h1, h2]; exact ⟨nl h2, le_trans (nl h2) hac, le_trans hab hbd, hab⟩, ?_⟩
    simp [upL, swapL, h1, h2]
    exact (List.perm_append_comm (l₁ := [c, d]) (l₂ := [b]))
theorem heap_root {a : Nat × Int} {xs : List (Nat × Int)} (h : Heap (a :: xs)) : ∀ y ∈ a :: xs, le a y := by
 match xs, h with
 | [], _ => intro y hy; simp at hy; subst hy; exact le_refl _
 | [b], h => intro y hy; simp at hy; rcases hy with rfl | rfl; exact le_refl _; exact h
 | [b, c], h => intro y hy; simp at hy; rcases hy with rfl | rfl | rfl; exact le_refl _; exact h.1; exact h.2
 | [b, c, d], h => intro y hy; simp at hy; rcases hy with rfl | rfl | rfl | rfl; exact le_refl _; exact h.1; exact h.2.1; exact le_trans h.1 h.2.2
 | [b, c, d, e], h => intro y hy; simp at hy; rcases hy with rfl | rfl | rfl | rfl | rfl; exact le_refl _; exact h.1; exact h.2.1; exact le_trans h.1 h.2.2.1; exact le_trans h.1 h.2.2.2
theorem down_ok (a : Nat × Int) (xs : List (Nat × Int)) (h : Heap (a :: xs)) : ∃ ys, downL 3 (swapL (a :: xs) 0 xs.length) 0 xs.length = ys ++ [a] ∧ Heap ys ∧ ys.Perm xs ∧ ys.length = xs.length := by
 match xs, h with
 | [], _ => exact ⟨[], by simp [downL, swapL], trivial, List.Perm.refl _, rfl⟩
 | [b], h => exact ⟨[b], by simp [downL, swapL], trivial, List.Perm.refl _, rfl⟩
 | [b, c], h =>
  by_cases h1 : less b c = false
  ·exact ⟨[c, b], by simp [downL, swapL, child, h1], h1, List.Perm.swap _ _ _, rfl⟩
  ·exact ⟨[b, c], by simp [downL, swapL, child, h1], nl h1, List.Perm.refl _, rfl⟩
 | [b, c, d], h =>
  obtain ⟨hab, hac, hbd⟩ := h
  by_cases hcb : less c b = true
  ·by_cases h1 : less c d = false
   ·exact absurd hcb (by have h3 : le d c := h1; have := le_trans hbd h3; unfold le at this; simp [this])
   ·exact ⟨[c, b, d], by simp [downL, swapL, child, hcb, h1], ⟨le_of_less hcb, nl h1⟩, List.Perm.swap _ _ _, rfl⟩
  ·by_cases h1 : less b d = false
   ·have e : b = d := le_antisymm hbd h1
    subst e
    exact ⟨[b, b, c], by simp [downL, swapL, child, hcb, h1], ⟨le_refl _, by simpa [le] using hcb⟩, List.Perm.cons _ (List.Perm.swap _ _ _), rfl⟩
   ·exact ⟨[b, d, c], by simp [downL, swapL, child, hcb, h1], ⟨hbd, by simpa [le] using hcb⟩, List.Perm.cons _ (List.Perm.swap _ _ _), rfl⟩
 | [b, c, d, e], h =>
  obtain ⟨hab, hac, hbd, hbe⟩ := h
  by_cases hcb : less c b = true
  ·have hcb' := le_of_less hcb
   by_cases h1 : less c e = false
   ·exact absurd hcb (by have h3 : le e c := h1; have := le_trans hbe h3; unfold le at this; simp [this])
   ·exact ⟨[c, b, e, d], by simp [downL, swapL, child, hcb, h1], ⟨hcb', nl h1, hbd⟩, by exact (List.Perm.swap b c _).trans (List.Perm.cons b (List.Perm.cons c (List.Perm.swap d e []))), rfl⟩
  ·have hbc : le b c := by simpa [le] using hcb
   by_cases h1 : less b e = false
   ·have e2 : b = e := le_antisymm hbe h1
    subst e2
    exact ⟨[b, b, c, d], by simp [downL, swapL, child, hcb, h1], ⟨le_refl _, hbc, hbd⟩, by exact (List.Perm.cons b (List.perm_append_comm (l₁ := [b]) (l₂ := [c, d]))), rfl⟩
   ·by_cases h2 : less d e = false
    ·exact ⟨[b, e, c, d], by simp [downL, swapL, child, hcb, h1, h2], ⟨hbe, hbc, h2⟩, by exact (List.Perm.cons b (List.perm_append_comm (l₁ := [e]) (l₂ := [c, d]))), rfl⟩
    ·exact ⟨[b, d, c, e], by simp [downL, swapL, child, hcb, h1, h2], ⟨hbd, hbc, nl h2⟩, by exact (List.Perm.cons b (List.Perm.swap c d [e])), rfl⟩
end Go.Proofs.YthdoofmfigemoaaGreatDoor.Ta
end
namespace Go.Proofs.YthdoofmfigemoaaGreatDoor
open Go.RowKit
theorem own_int_info : (Tryz.prog.info? 3).map (fun i => (i.zero, i.size, i.bytes)) = some (some (.int .i64 0), 1, 8) := by kernel_rfl
theorem below_step {B : Nat} {a w w' : World} {A : Option Addr} {n c : Nat} {xs : List Int} (h : Below B a w) (hg : w.grownBy w' (Value.slice A n c).ownBlock) (ho : Own w B A n c xs) (hB : B ≤ w.heap.size) : Below B a w' :=
 h.grown hg hB fun k hk => (ho.blk k hk).1
theorem wpList_app {ops : Array Oper} {rest : List Oper} {o : Oper} {a : Act} {w : World} {Q : Exit → Act → World → Prop} (hgd : o.guard = none) (s x : Operand)
  (ho : o.op = .call { callee := .builtin .append, args := #[s, x], argTypes := #[28, 28] })
  {B : Nat} {A : Option Addr} {n c : Nat} {xs : List Int} (hs : a.eval s = .slice A n c) (hown : Own w B A n c xs) (us : List Int) (m : Nat) (hm : us.length = m) (c0 : Nat)
  (hx : a.eval x = .slice (some ⟨w.heap.size, 0, none⟩) m c0) (cs : Array Value) (hcs : cs = (IV us).toArray) (hn : n + m ≤ 1099511627776) (hB : B ≤ w.heap.size)
  (h : ∀ A' c' w', Own w' B A' (n + m) c' (xs ++ us) → w.grownBy w' (Value.slice A n c).ownBlock → wpList Tryz.prog ops Q rest (a.put o.dst (.slice A' (n + m) c')) w') :
  wpList Tryz.prog ops Q (o :: rest) a (w.alloc (.cells cs 3)) := by
 obtain ⟨i0, hi, hz0, hz1, hz2⟩ := info_parts own_int_info
 subst hcs
 subst hm
 refine wpList_append_own _ hgd s x 28 ho B 3 i0 (.int .i64 0) 1 8 Tryz.underlying28 hi hz0 hz1 hz2 rfl (by decide) _ n (IV xs) hs (hown.1.alloc _)
  ⟨w.heap.size, 0, none⟩ us.length c0 (IV us) hx (by simp [IV]) ?_ (IV_one us) (by unfold maxLen; omega) (by omega) (by simp; omega) ?_
 ·intro j u hj
  rw [add_row, cell_of_row _ w.heap.size j _ _ _ (heap_alloc_new w _)]
  simpa using hj
 ·intro v' w' hown' hg _
  obtain ⟨A', c', rfl, h'⟩ := Own.of_app us rfl hown' hn
  exact h A' c' w' h' ⟨hg.os, hg.tape, hg.output, by have := hg.size; simp at this; omega, fun k hk hne => (hg.block k (by simp; omega) hne).trans (Below.heap_alloc w _ k hk)⟩
theorem wpList_app_ints {ops : Array Oper} {rest : List Oper} {o : Oper} {a : Act} {w : World} {Q : Exit → Act → World → Prop} (hgd : o.guard = none) (s x : Operand)
  (ho : o.op = .call { callee := .builtin .append, args := #[s, x], argTypes := #[28, 28] })
  {B : Nat} {A : Option Addr} {n c : Nat} {xs : List Int} (hs : a.eval s = .slice A n c) (hown : Own w B A n c xs) {B2 m c0 : Nat} {A2 : Option Addr} {us : List Int}
  (hx : a.eval x = .slice A2 m c0) (hr : Ints w B2 A2 m us) (hn : n + m ≤ 1099511627776) (hB : B ≤ w.heap.size)
  (h : ∀ A' c' w', Own w' B A' (n + m) c' (xs ++ us) → w.grownBy w' (Value.slice A n c).ownBlock → wpList Tryz.prog ops Q rest (a.put o.dst (.slice A' (n + m) c')) w') :
  wpList Tryz.prog ops Q (o :: rest) a w := by
 obtain ⟨i0, hi, hz0, hz1, hz2⟩ := info_parts own_int_info
 have hl := hr.len
 by_cases hm : 0 < m
 ·obtain ⟨b, off, rfl, hb, hc⟩ := hr.addr hm
  refine wpList_append_own _ hgd s x 28 ho B 3 i0 (.int .i64 0) 1 8 Tryz.underlying28 hi hz0 hz1 hz2 rfl (by decide) _ n (IV xs) hs hown.1
   ⟨b, off, none⟩ m c0 (IV us) hx (by simp [IV, hl]) ?_ (IV_one us) (by unfold maxLen; omega) (by omega) hB ?_
  ·intro j u hj
   have hj' : (us.map (Value.int .i64))[j]? = some u := hj
   rw [List.getElem?_map] at hj'
   obtain ⟨z, hz, rfl⟩ := Option.map_eq_some_iff.1 hj'
   have e : (⟨b, off, none⟩ : Addr).add j = ⟨b, off + j, none⟩ := by unfold Addr.add; split <;> simp_all
   rw [e]
   exact hc j z hz
  ·intro v' w' hown' hg _
   obtain ⟨A', c', rfl, h'⟩ := Own.of_app us rfl hown' hn
   exact h A' c' w' h' hg
 ·obtain rfl : m = 0 := by omega
  obtain rfl := List.eq_nil_of_length_eq_zero hl
  have hown0 : Own w B A (n + 0) c (xs ++ []) := by simpa using hown
  have hh := h A c w hown0 (World.grownBy.refl w _)
  rcases A2 with _ | ad
  ·refine wpList_plain hgd fun K hK => ?_
   unfold Oper.wp execOp
   have hrun : (Builtin.append_ #[28, 28] o.type #[.slice A n c, .slice none 0 c0]).run Tryz.prog w = .ok (.slice A n c) w := by
    rcases hown.1.2 with ⟨h1, rfl⟩ | ⟨g, cap, cur, h1, _, _, hnc, _⟩
    ·rw [h1]; simp [Builtin.append_, run_underlying Tryz.underlying28, sizeOf, typeInfo, hi, Builtin.lenOf, Builtin.firstCells]
    ·rw [h1]; simp [Builtin.append_, run_underlying Tryz.underlying28, sizeOf, typeInfo, hi, Builtin.lenOf, Builtin.firstCells, hnc, storeCells]
   simp only [ho, resolve, invoke, builtin, Sem.run_bind, Sem.run_pure, Result.andThen_ok, List.map_toArray, List.map_cons, List.map_nil, hs, hx, hrun]
   exact hK _ _ hh
  ·refine wpList_append_own _ hgd s x 28 ho B 3 i0 (.int .i64 0) 1 8 Tryz.underlying28 hi hz0 hz1 hz2 rfl (by decide) _ n (IV xs) hs hown.1
    ad 0 c0 [] hx rfl (by intro j u hj; simp at hj) (by simp) (by unfold maxLen; omega) (by omega) hB ?_
   intro v' w' hown' hg _
   obtain ⟨A', c', rfl, h'⟩ := Own.of_app [] rfl hown' hn
   exact h A' c' w' h' hg
theorem wpList_make_ints {ops : Array Oper} {rest : List Oper} {o : Oper} {a : Act} {w : World} {Q : Exit → Act → World → Prop} (hgd : o.guard = none) (l c : Operand)
  (ho : o.op = .makeSlice 28 l c) {B n : Nat} (hl : a.eval l = .int .i64 (n : Int)) (hc : a.eval c = .int .i64 (n : Int)) (hn : n ≤ 1099511627776) (hB : B ≤ w.heap.size)
  (h : ∀ w', Own w' B (some ⟨w.heap.size, 0, none⟩) n n (List.replicate n 0) → w.grownBy w' none → wpList Tryz.prog ops Q rest (a.put o.dst (.slice (some ⟨w.heap.size, 0, none⟩) n n)) w') :
  wpList Tryz.prog ops Q (o :: rest) a w := by
 obtain ⟨i0, hi, hz0, hz1, hz2⟩ := info_parts own_int_info
 refine wpList_make_full w hgd l c 28 ho B 3 i0 (.int .i64 0) 1 Tryz.underlying28 hi hz0 hz1 .i64 .i64 _ _ n hl hc rfl rfl (by rw [hz2]; omega) (by unfold maxLen; omega) hB ?_
 intro w' hown hg
 have e : (madeCells (Value.int .i64 0).cells (n * 1)).toList = IV (List.replicate n 0) := by
  rw [Nat.mul_one]
  exact (toList_madeCells_one _ _).trans (by simp [IV])
 rw [e] at hown
 exact h w' ⟨hown, hn⟩ hg
theorem wpList_make_room {ops : Array Oper} {rest : List Oper} {o : Oper} {a : Act} {w : World} {Q : Exit → Act → World → Prop} (hgd : o.guard = none) (l c : Operand)
  (ho : o.op = .makeSlice 28 l c) {B n : Nat} (C : Int) (hl : a.eval l = .int .i64 0) (hc : a.eval c = .int .i64 C) (hC : C = (n : Int)) (hn : n ≤ 1099511627776) (hB : B ≤ w.heap.size)
  (h : ∀ w', Own w' B (some ⟨w.heap.size, 0, none⟩) 0 n [] → w.grownBy w' none → wpList Tryz.prog ops Q rest (a.put o.dst (.slice (some ⟨w.heap.size, 0, none⟩) 0 n)) w') :
  wpList Tryz.prog ops Q (o :: rest) a w := by
 obtain ⟨i0, hi, hz0, hz1, hz2⟩ := info_parts own_int_info
 refine wpList_make_own w hgd l c 28 ho B 3 i0 (.int .i64 0) 1 Tryz.underlying28 hi hz0 hz1 .i64 .i64 C n hl hc hC (by rw [hz2]; omega) (by unfold maxLen; omega) hB ?_
 intro w' hown hg
 exact h w' ⟨hown, by omega⟩ hg
theorem own_lit (w : World) (us : List Int) (B n : Nat) (hl : us.length = n) (hn : n ≤ 1099511627776) (hB : B ≤ w.heap.size) : Own (w.alloc (.cells (IV us).toArray 3)) B (some ⟨w.heap.size, 0, none⟩) n n us := by
 have h := World.ownsRow_lit (base := B) (e := 3) (size := 1) w (IV us).toArray n hB (by unfold maxLen; omega) (by simp [IV, hl])
 exact ⟨by simpa using h, hn⟩
theorem fill_next {xs : List Int} {n k : Nat} {u : Int} (hk : k < n) (hl : xs.length = n) (h : xs[k]? = some u) :
  (xs.take k ++ List.replicate (n - k) 0).set k u = xs.take (k + 1) ++ List.replicate (n - (k + 1)) 0 := by
 have e : n - k = (n - (k + 1)) + 1 := by omega
 rw [take_next h, e, List.replicate_succ, List.set_append_right _ _ (by rw [List.length_take]; omega), List.length_take]
 rw [show k - min k xs.length = 0 from by omega, List.set_cons_zero, List.append_assoc]
 rfl
theorem fill_at {xs : List Int} {n k : Nat} (hk : k < n) (hl : xs.length = n) : (xs.take k ++ List.replicate (n - k) (0 : Int))[k]? = some 0 := by
 rw [List.getElem?_append_right (by rw [List.length_take]; omega), List.length_take, show k - min k xs.length = 0 from by omega, List.getElem?_replicate, if_pos (by omega)]
end Go.Proofs.YthdoofmfigemoaaGreatDoor
section
namespace Go.Proofs.YthdoofmfigemoaaGreatDoor
open Go.RowKit
theorem l6In_yes {n a b : Int} (h1 : a ≤ n) (h2 : n ≤ b) (w : World) : Calls Tryz.prog 67 #[.int .i64 n, .int .i64 a, .int .i64 b] w fun e w' => e = .returned (.bool true) ∧ w = w' :=
 (l6In_any n a b w).mono fun _ _ h => ⟨by rw [h.1]; simp [h1, h2], h.2⟩
theorem l6In_no {n a b : Int} (h : n < a ∨ b < n) (w : World) : Calls Tryz.prog 67 #[.int .i64 n, .int .i64 a, .int .i64 b] w fun e w' => e = .returned (.bool false) ∧ w = w' :=
 (l6In_any n a b w).mono fun _ _ h' => ⟨by rw [h'.1]; rcases h with h | h <;> simp <;> omega, h'.2⟩
theorem l6In_is {n a b : Int} {r : Bool} (h : (decide (a ≤ n) && decide (n ≤ b)) = r) (w : World) : Calls Tryz.prog 67 #[.int .i64 n, .int .i64 a, .int .i64 b] w fun e w' => e = .returned (.bool r) ∧ w = w' := by
 rw [← h]; exact l6In_any n a b w
theorem sq_in {a m : Int} (h0 : 0 ≤ a) (h1 : a ≤ m) : 0 ≤ a * a ∧ a * a ≤ m * m := ⟨Int.mul_nonneg h0 h0, Int.mul_le_mul h1 h1 h0 (by omega)⟩
theorem mul_in {a b m k : Int} (h0 : 0 ≤ a) (h1 : a ≤ m) (h2 : 0 ≤ b) (h3 : b ≤ k) : 0 ≤ a * b ∧ a * b ≤ m * k := ⟨Int.mul_nonneg h0 h2, Int.mul_le_mul h1 h3 h2 (by omega)⟩
theorem lit_nil (w : World) : Own (w.alloc (.cells #[] 3)) w.heap.size (some ⟨w.heap.size, 0, none⟩) 0 0 [] := own_lit w [] w.heap.size 0 rfl (by omega) (Nat.le_refl _)
theorem grown_of_below {w w' : World} (h : Below w.heap.size w w') (row : Option Nat) : w.grownBy w' row := ⟨h.os, h.tape, h.output, h.size, fun k hk _ => h.block k hk⟩
theorem _root_.Go.World.grownBy.then_ {a b c : World} {row row' : Option Nat} (h : a.grownBy b row) (k : b.grownBy c row') (hr : ∀ j, row' = some j → a.heap.size ≤ j ∨ row = some j) : a.grownBy c row :=
 ⟨k.os.trans h.os, k.tape.trans h.tape, k.output.trans h.output, Nat.le_trans h.size k.size, fun i hi hne =>
  (k.block i (Nat.lt_of_lt_of_le hi h.size) (fun e => by
   rcases hr i e.symm with h1 | h1
   ·omega
   ·exact hne h1.symm)).trans (h.block i hi hne)⟩
def EOwn (w : World) (B0 B : Nat) (A : Option Addr) (n c : Nat) (xs : List Int) : Prop := Own w B0 A n c xs ∧ ((n = 0 ∧ c = 0 ∧ xs = []) ∨ Own w B A n c xs)
section
variable {w w' : World} {B0 B n c : Nat} {A : Option Addr} {xs : List Int}
theorem EOwn.own (h : EOwn w B0 B A n c xs) : Own w B0 A n c xs := h.1
theorem EOwn.of_nil (h : Own w B0 A 0 0 []) (B : Nat) : EOwn w B0 B A 0 0 [] := ⟨h, .inl ⟨rfl, rfl, rfl⟩⟩
theorem EOwn.of_own (h : Own w B A n c xs) (hB : B0 ≤ B) : EOwn w B0 B A n c xs := ⟨h.mono hB, .inr h⟩
end
theorem wpList_app0 {ops : Array Oper} {rest : List Oper} {o : Oper} {a : Act} {w : World} {Q : Exit → Act → World → Prop} (hgd : o.guard = none) (s x : Operand)
  (ho : o.op = .call { callee := .builtin .append, args := #[s, x], argTypes := #[28, 28] })
  {B0 B : Nat} {A : Option Addr} {n c : Nat} {xs : List Int} (hs : a.eval s = .slice A n c) (hown : EOwn w B0 B A n c xs) (us : List Int) (m : Nat) (hm : us.length = m) (hm0 : 0 < m) (c0 : Nat)
  (hx : a.eval x = .slice (some ⟨w.heap.size, 0, none⟩) m c0) (cs : Array Value) (hcs : cs = (IV us).toArray) (hn : n + m ≤ 1099511627776) (hB0 : B0 ≤ B) (hB : B ≤ w.heap.size)
  (h : ∀ A' c' w' row, EOwn w' B0 B A' (n + m) c' (xs ++ us) → w.grownBy w' row → (∀ k, row = some k → B ≤ k) → wpList Tryz.prog ops Q rest (a.put o.dst (.slice A' (n + m) c')) w') :
  wpList Tryz.prog ops Q (o :: rest) a (w.alloc (.cells cs 3)) := by
 rcases hown.2 with ⟨h1, h2, h3⟩ | hw
 ·subst h1; subst h2; subst h3
  obtain ⟨i0, hi, hz0, hz1, hz2⟩ := info_parts own_int_info
  subst hcs
  subst hm
  have hg0 : Ints (w.alloc (.cells (IV us).toArray 3)) (w.heap.size + 1) (some ⟨w.heap.size, 0, none⟩) us.length us := by
   have := (own_lit w us w.heap.size us.length rfl (by omega) (Nat.le_refl _)).ints
   simpa using this
  refine wpList_append_grows _ hgd s x 28 ho 3 i0 (.int .i64 0) 1 8 Tryz.underlying28 hi hz0 hz1 hz2 rfl (by decide) A 0 0 [] hs (fun _ => ⟨rfl, rfl⟩) (by simp) (fun b _ j u hj => by simp at hj)
   ⟨w.heap.size, 0, none⟩ us.length c0 (IV us) hx (by simp [IV]) ?_ (IV_one us) (by omega) (by unfold maxLen; omega) (by omega) ?_
  ·intro j u hj
   rw [add_row, cell_of_row _ w.heap.size j _ _ _ (heap_alloc_new w _)]
   simpa using hj
  ·intro v' w' hown' hg
   obtain ⟨A', c', rfl, h'⟩ := Own.of_app (xs := []) us rfl hown' hn
   simp only [World.size_alloc] at h'
   have hg1 : w.grownBy w' none := ⟨hg.os, hg.tape, hg.output, by have := hg.size; simp at this; omega, fun k hk hne => (hg.block k (by simp; omega) hne).trans (Below.heap_alloc w _ k hk)⟩
   exact h A' c' w' none (EOwn.of_own (h'.mono (by omega)) hB0) hg1 (fun k hk => by cases hk)
 ·exact wpList_app hgd s x ho hs hw us m hm c0 hx cs hcs hn hB fun A' c' w' h1 h2 => h A' c' w' _ (EOwn.of_own h1 hB0) h2 fun k hk => (hw.blk k hk).1
theorem below_row {B0 B : Nat} {a w w' : World} {row : Option Nat} (h : Below B0 a w) (hg : w.grownBy w' row) (hr : ∀ k, row = some k → B ≤ k) (hB0 : B0 ≤ B) (hB : B ≤ w.heap.size) : Below B0 a w' :=
 h.grown hg (by omega) fun k hk => by have := hr k hk; omega
theorem grown_drew {a w : World} {row : Option Nat} (h : a.grownBy w row) : a.grownBy w.drew row := ⟨h.os, h.tape, h.output, h.size, h.block⟩
end Go.Proofs.YthdoofmfigemoaaGreatDoor
end
namespace Go.Proofs.YthdoofmfigemoaaGreatDoor
open Go.RowKit
theorem DV_cons (d : Db) (ds : List Db) : DV (d :: ds) = d.cells ++ DV ds := by simp [DV]
theorem DV_set : ∀ (ds : List Db) (i : Nat) (d : Db), i < ds.length → (((DV ds).set (i * 3) (.int .i64 d.a)).set (i * 3 + 1) (.int .i64 d.c)).set (i * 3 + 2) (.int .i64 d.v) = DV (ds.set i d)
 | [], _, _, h => by simp at h
 | x :: xs, 0, d, _ => by simp [DV_cons, Db.cells]
 | x :: xs, i + 1, d, h => by
  have ih := DV_set xs i d (by simpa using h)
  rw [List.set_cons_succ, DV_cons, DV_cons, ← ih]
  have e : ∀ j u l, (x.cells ++ l).set ((i + 1) * 3 + j) u = x.cells ++ l.set (i * 3 + j) u := fun j u l => by
   rw [List.set_append_right _ _ (by show 3 ≤ _; omega), show (i + 1) * 3 + j - x.cells.length = i * 3 + j from by show (i + 1) * 3 + j - 3 = _; omega]
  have e0 := e 0
  simp only [Nat.add_zero] at e0
  rw [e0, e 1, e 2]
theorem OwnD.blk_ {w : World} {B n c : Nat} {A : Option Addr} {ds : List Db} (h : OwnD w B A n c ds) (hn : 0 < n) : ∃ g cur, A = some ⟨g, 0, none⟩ ∧ B ≤ g ∧ Blk w g cur 123 ∧ n ≤ c := by
 rcases h.1.2 with ⟨_, h0⟩ | ⟨g, cap, cur, hv, hb, hg, hr⟩
 ·omega
 ·injection hv with e1 e2 e3
  subst e1
  subst e3
  exact ⟨g, cur, rfl, hb, hg, hr.1⟩
theorem OwnD.set {w : World} {B n c g : Nat} {ds : List Db} (h : OwnD w B (some ⟨g, 0, none⟩) n c ds) (i : Nat) (d : Db) (hi : i < ds.length) :
  OwnD (((w.setCell ⟨g, i * 3, none⟩ (.int .i64 d.a)).setCell ⟨g, i * 3 + 1, none⟩ (.int .i64 d.c)).setCell ⟨g, i * 3 + 2, none⟩ (.int .i64 d.v)) B (some ⟨g, 0, none⟩) n c (ds.set i d) := by
 have h1 := h.1.stored (i * 3) (.int .i64 d.a)
 have h2 := h1.1.stored (i * 3 + 1) (.int .i64 d.c)
 have h3 := h2.1.stored (i * 3 + 2) (.int .i64 d.v)
 refine ⟨?_, h.2⟩
 have := h3.1
 rwa [DV_set ds i d hi] at this
theorem grown_set3 (w : World) (g i j k : Nat) (x y z : Value) : w.grownBy (((w.setCell ⟨g, i, none⟩ x).setCell ⟨g, j, none⟩ y).setCell ⟨g, k, none⟩ z) (some g) :=
 ⟨rfl, rfl, rfl, by simp [World.setCell], fun q _ hne => (heap_setCell_other _ _ q _ (fun e => hne (by rw [e]))).trans ((heap_setCell_other _ _ q _ (fun e => hne (by rw [e]))).trans (heap_setCell_other _ _ q _ (fun e => hne (by rw [e]))))⟩
theorem Len_any (A : Option Addr) (n c : Nat) (w : World) : Calls Tryz.prog 257 #[.slice A n c] w fun e w' => e = .returned (.int .i64 (n : Int)) ∧ w = w' := by
 go_enter Tryz.func257, Tryz.ntmps257
 go_wp2
 go_ret
 exact ⟨rfl, rfl⟩
theorem method_len (g n c : Nat) (A : Option Addr) (w : World) (h : w.cell? ⟨g, 0, none⟩ = some (.slice A n c)) : (method 357 162 (.pointer (some ⟨g, 0, none⟩)) "Len").run Tryz.prog w = .ok (257, .slice A n c) w := by
 have e : (method 357 162 (.pointer (some ⟨g, 0, none⟩)) "Len").run Tryz.prog w = ((loadVar 116 ⟨g, 0, none⟩) >>= fun a => pure (257, a)).run Tryz.prog w := by kernel_rfl
 have e2 : (loadVar 116 ⟨g, 0, none⟩).run Tryz.prog w = .ok (.slice A n c) w := by go_simp
 rw [e, Sem.run_bind, e2]
 rfl
theorem method_less (g n c : Nat) (A : Option Addr) (w : World) (h : w.cell? ⟨g, 0, none⟩ = some (.slice A n c)) : (method 357 162 (.pointer (some ⟨g, 0, none⟩)) "Less").run Tryz.prog w = .ok (258, .slice A n c) w := by
 have e : (method 357 162 (.pointer (some ⟨g, 0, none⟩)) "Less").run Tryz.prog w = ((loadVar 116 ⟨g, 0, none⟩) >>= fun a => pure (258, a)).run Tryz.prog w := by kernel_rfl
 have e2 : (loadVar 116 ⟨g, 0, none⟩).run Tryz.prog w = .ok (.slice A n c) w := by go_simp
 rw [e, Sem.run_bind, e2]
 rfl
theorem method_swap (g n c : Nat) (A : Option Addr) (w : World) (h : w.cell? ⟨g, 0, none⟩ = some (.slice A n c)) : (method 357 162 (.pointer (some ⟨g, 0, none⟩)) "Swap").run Tryz.prog w = .ok (259, .slice A n c) w := by
 have e : (method 357 162 (.pointer (some ⟨g, 0, none⟩)) "Swap").run Tryz.prog w = ((loadVar 116 ⟨g, 0, none⟩) >>= fun a => pure (259, a)).run Tryz.prog w := by kernel_rfl
 have e2 : (loadVar 116 ⟨g, 0, none⟩).run Tryz.prog w = .ok (.slice A n c) w := by go_simp
 rw [e, Sem.run_bind, e2]
 rfl
def hd (x : Nat × Int) : Db := ⟨x.1, x.1, x.2⟩
def HL (xs : List (Nat × Int)) : List Db := xs.map hd
theorem HL_get {xs : List (Nat × Int)} {i : Nat} {x : Nat × Int} (h : xs[i]? = some x) : (HL xs)[i]? = some (hd x) := by simp [HL, h]
theorem Less_any (A : Option Addr) (n c : Nat) (xs : List (Nat × Int)) (i j : Nat) (x y : Nat × Int) (w : World) (hr : Dbs w w.heap.size A n (HL xs)) (hi : xs[i]? = some x) (hj : xs[j]? = some y) :
  Calls Tryz.prog 258 #[.slice A n c, .int .i64 (i : Int), .int .i64 (j : Int)] w fun e w' => e = .returned (.bool (Ta.less x y)) ∧ ∃ q, w' = w.drewN q := by
 have hl := hr.len
 rw [HL, List.length_map] at hl
 have li : i < n := by rw [← hl]; exact (List.getElem?_eq_some_iff.1 hi).1
 have lj : j < n := by rw [← hl]; exact (List.getElem?_eq_some_iff.1 hj).1
 obtain ⟨b, off, t, rfl, hb, ht, i0, i1, i2⟩ := hr.at_ li
 obtain ⟨b', off', t', e', hb', ht', j0, j1, j2⟩ := hr.at_ lj
 injection e' with e'
 injection e' with e1 e2
 subst e1
 subst e2
 obtain rfl : hd x = t := by rw [HL_get hi] at ht; exact Option.some.inj ht
 obtain rfl : hd y = t' := by rw [HL_get hj] at ht'; exact Option.some.inj ht'
 obtain ⟨p, u⟩ := x
 obtain ⟨q, v⟩ := y
 simp only [hd] at i0 i1 i2 j0 j1 j2
 clear hr hi hj hl ht ht' hb'
 by_cases h1 : u = v
 ·have h1' : (u != v) = false := by simpa using h1
  by_cases h2 : p = q
  ·have h2' : ((p : Int) != (q : Int)) = false := by simp [h2]
   have HLs := Hd (show Ta.less (p, u) (q, v) = false by simp [Ta.less, h1]; omega)
   go_enter Tryz.func258, Tryz.ntmps258
   go_wp2_with fail
   go_quiet (fail)
   go_wp2_with fail
   go_quiet (fail)
   go_wp2_with fail
   go_quiet (fail)
   go_wp2
   go_ret
   exact ⟨ret_bool (by rw [HLs.out]), _, by simp only [World.drewN_drewN]; exact rfl⟩
  ·have h2' : ((p : Int) != (q : Int)) = true := by simp; omega
   have HLs := Hd (show Ta.less (p, u) (q, v) = decide (p < q) by simp [Ta.less, h1])
   go_enter Tryz.func258, Tryz.ntmps258
   go_wp2_with fail
   go_quiet (fail)
   go_wp2_with fail
   go_quiet (fail)
   go_wp2_with fail
   go_quiet (fail)
   go_wp2
   go_ret
   exact ⟨ret_bool HLs.out.symm, _, by simp only [World.drewN_drewN]; exact rfl⟩
 ·have h1' : (u != v) = true := by simpa using h1
  have HLs := Hd (show Ta.less (p, u) (q, v) = decide (v < u) by simp [Ta.less, h1])
  go_enter Tryz.func258, Tryz.ntmps258
  go_wp2_with fail
  go_quiet (fail)
  go_wp2_with fail
  go_quiet (fail)
  go_wp2
  go_ret
  exact ⟨ret_bool HLs.out.symm, _, by simp only [World.drewN_drewN]; exact rfl⟩
theorem OwnD.cell3 {w : World} {B n c g : Nat} {ds : List Db} (h : OwnD w B (some ⟨g, 0, none⟩) n c ds) {i : Nat} {d : Db} (hi : ds[i]? = some d) :
  w.cell? ⟨g, i * 3, none⟩ = some (.int .i64 d.a) ∧ w.cell? ⟨g, i * 3 + 1, none⟩ = some (.int .i64 d.c) ∧ w.cell? ⟨g, i * 3 + 2, none⟩ = some (.int .i64 d.v) := by
 have gt := flat_get (f := Db.cells) (k := 3) (fun _ => rfl) ds i d hi
 have cl := h.1.cells (g := g) rfl
 simp only [add_row] at cl
 exact ⟨cl _ _ (gt 0 (by omega)), cl _ _ (gt 1 (by omega)), cl _ _ (gt 2 (by omega))⟩
theorem OwnD.free {w : World} {B n c g : Nat} {ds : List Db} (h : OwnD w B (some ⟨g, 0, none⟩) n c ds) (j : Nat) : w.frozen? ⟨g, j, none⟩ = false := by
 rcases h.1.2 with ⟨h1, _⟩ | ⟨g', cap, cur, hv, hb, hg, hr⟩
 ·cases h1
 ·injection hv with e1 e2 e3
  injection e1 with e1
  injection e1 with e1
  subst e1
  exact Blk.free (ty := 123) hg j
theorem swap_out {w w' : World} {B g n c : Nat} {xs : List (Nat × Int)} {i j : Nat} {x y : Nat × Int} (h : OwnD w B (some ⟨g, 0, none⟩) n c (HL xs)) (hi : xs[i]? = some x) (hj : xs[j]? = some y)
  (hw : w' = (((((w.setCell ⟨g, i * 3, none⟩ (.int .i64 y.1)).setCell ⟨g, i * 3 + 1, none⟩ (.int .i64 y.1)).setCell ⟨g, i * 3 + 2, none⟩ (.int .i64 y.2)).setCell ⟨g, j * 3, none⟩ (.int .i64 x.1)).setCell ⟨g, j * 3 + 1, none⟩ (.int .i64 x.1)).setCell ⟨g, j * 3 + 2, none⟩ (.int .i64 x.2)) :
  OwnD w' B (some ⟨g, 0, none⟩) n c (HL (Ta.swapL xs i j)) ∧ w.grownBy w' (some g) := by
 have li := (List.getElem?_eq_some_iff.1 hi).1
 have lj := (List.getElem?_eq_some_iff.1 hj).1
 have h1 := h.set i (hd y) (by simpa [HL] using li)
 have h2 := h1.set j (hd x) (by simpa [HL] using lj)
 have e : HL (Ta.swapL xs i j) = ((HL xs).set i (hd y)).set j (hd x) := by
  have ei : xs.getD i Ta.d0 = x := by rw [List.getD_eq_getElem?_getD, hi]; rfl
  have ej : xs.getD j Ta.d0 = y := by rw [List.getD_eq_getElem?_getD, hj]; rfl
  rw [HL, Ta.swapL, ei, ej, List.map_set, List.map_set]
  rfl
 rw [e, hw]
 exact ⟨h2, (grown_set3 _ g _ _ _ _ _ _).then_ (grown_set3 _ g _ _ _ _ _ _) (fun k hk => .inr hk)⟩
theorem Swap_any (g n c B : Nat) (xs : List (Nat × Int)) (i j : Nat) (x y : Nat × Int) (w : World) (h : OwnD w B (some ⟨g, 0, none⟩) n c (HL xs)) (hi : xs[i]? = some x) (hj : xs[j]? = some y) :
  Calls Tryz.prog 259 #[.slice (some ⟨g, 0, none⟩) n c, .int .i64 (i : Int), .int .i64 (j : Int)] w fun e w' => (∃ v, e = .returned v) ∧ OwnD w' B (some ⟨g, 0, none⟩) n c (HL (Ta.swapL xs i j)) ∧ w.grownBy w' (some g) := by
 have hl := h.dbs.len
 rw [HL, List.length_map] at hl
 have li : i < n := by rw [← hl]; exact (List.getElem?_eq_some_iff.1 hi).1
 have lj : j < n := by rw [← hl]; exact (List.getElem?_eq_some_iff.1 hj).1
 by_cases hij : i = j
 ·subst hij
  obtain rfl : x = y := Option.some.inj (hi.symm.trans hj)
  obtain ⟨i0, i1, i2⟩ := h.cell3 (HL_get hi)
  have f := h.free
  have fi0 := f (i * 3)
  have fi1 := f (i * 3 + 1)
  have fi2 := f (i * 3 + 2)
  have HO := Hd (fun w' => swap_out (w' := w') h hi hi)
  obtain ⟨p, u⟩ := x
  simp only [hd] at i0 i1 i2
  clear h hi hj hl f
  go_enter Tryz.func259, Tryz.ntmps259
  go_wp2_with fail
  go_region_with (fail)
  all_goals go_wp2
  all_goals (refine bodyPost_end (results_none rfl _ _ _) rfl ?_)
  all_goals exact ⟨⟨_, rfl⟩, OwnR.drew (HO.out _ rfl).1, grown_drew (HO.out _ rfl).2⟩
 obtain ⟨i0, i1, i2⟩ := h.cell3 (HL_get hi)
 obtain ⟨j0, j1, j2⟩ := h.cell3 (HL_get hj)
 have f := h.free
 have fi0 := f (i * 3)
 have fi1 := f (i * 3 + 1)
 have fi2 := f (i * 3 + 2)
 have fj0 := f (j * 3)
 have fj1 := f (j * 3 + 1)
 have fj2 := f (j * 3 + 2)
 have HO := Hd (fun w' => swap_out (w' := w') h hi hj)
 obtain ⟨p, u⟩ := x
 obtain ⟨q, v⟩ := y
 simp only [hd] at i0 i1 i2 j0 j1 j2
 clear h hi hj hl f
 have hij' : ¬ j = i := fun e => hij e.symm
 ·go_enter Tryz.func259, Tryz.ntmps259
  go_wp2_with fail
  go_region_with (fail)
  all_goals go_wp2
  all_goals (refine bodyPost_end (results_none rfl _ _ _) rfl ?_)
  all_goals exact ⟨⟨_, rfl⟩, OwnR.drew (HO.out _ rfl).1, grown_drew (HO.out _ rfl).2⟩
end Go.Proofs.YthdoofmfigemoaaGreatDoor
section
namespace Go.Proofs.YthdoofmfigemoaaGreatDoor
open Go.RowKit
set_option linter.unusedSimpArgs false
structure Kept (w w' : World) (S : Nat → Prop) : Prop where
 os : w'.os = w.os
 tape : w'.tape = w.tape
 output : w'.output = w.output
 size : w.heap.size ≤ w'.heap.size
 block : ∀ k, k < w.heap.size → ¬ S k → w'.heap[k]? = w.heap[k]?
theorem Kept.trans {a b c : World} {S : Nat → Prop} (h : Kept a b S) (k : Kept b c S) : Kept a c S :=
 ⟨k.os.trans h.os, k.tape.trans h.tape, k.output.trans h.output, Nat.le_trans h.size k.size, fun i hi hn => (k.block i (Nat.lt_of_lt_of_le hi h.size) hn).trans (h.block i hi hn)⟩
theorem Kept.mono {a b : World} {S T : Nat → Prop} (h : Kept a b S) (hST : ∀ k, k < a.heap.size → S k → T k) : Kept a b T :=
 ⟨h.os, h.tape, h.output, h.size, fun i hi hn => h.block i hi fun hs => hn (hST i hi hs)⟩
theorem Kept.of_grown {a b : World} {r : Option Nat} (h : a.grownBy b r) : Kept a b (fun k => r = some k) := ⟨h.os, h.tape, h.output, h.size, fun i hi hn => h.block i hi fun e => hn e.symm⟩
theorem Kept.of_below {a b : World} {B : Nat} (h : Below B a b) : Kept a b (fun k => B ≤ k) := ⟨h.os, h.tape, h.output, h.size, fun i _ hn => h.block i (by omega)⟩
theorem Kept.below {a b : World} {S : Nat → Prop} {B : Nat} (h : Kept a b S) (hB : B ≤ a.heap.size) (hS : ∀ k, S k → B ≤ k) : Below B a b := ⟨h.os, h.tape, h.output, h.size, fun i hi => h.block i (by omega) fun hs => by have := hS i hs; omega⟩
structure Hp (w : World) (B g : Nat) (A : Option Addr) (n c : Nat) (xs : List (Nat × Int)) : Prop where
 blk : Blk w g #[.slice A n c] 116
 own : OwnD w B A n c (HL xs)
 ne : ∀ k, (Value.slice A n c).ownBlock = some k → k ≠ g
section
variable {w w' : World} {B g n c : Nat} {A : Option Addr} {xs : List (Nat × Int)}
theorem Hp.len (h : Hp w B g A n c xs) : xs.length = n := by have := h.own.dbs.len; simpa [HL] using this
theorem Hp.cell (h : Hp w B g A n c xs) : w.cell? ⟨g, 0, none⟩ = some (.slice A n c) := h.blk.cell rfl
theorem Hp.drewN (h : Hp w B g A n c xs) (q : Nat) : Hp (w.drewN q) B g A n c xs := ⟨h.blk, h.own, h.ne⟩
theorem Hp.drew (h : Hp w B g A n c xs) : Hp w.drew B g A n c xs := ⟨h.blk, h.own, h.ne⟩
theorem Hp.kept {S : Nat → Prop} (h : Hp w B g A n c xs) (hk : Kept w w' S) (h1 : ¬ S g) (h2 : ∀ k, (Value.slice A n c).ownBlock = some k → ¬ S k) : Hp w' B g A n c xs := by
 refine ⟨h.blk.keep (hk.block g h.blk.lt h1), ⟨⟨h.own.1.1, ?_⟩, h.own.2⟩, h.ne⟩
 rcases h.own.1.2 with h0 | ⟨r, cap, cur, hv, hb, hg, rest⟩
 ·exact .inl h0
 ·refine .inr ⟨r, cap, cur, hv, hb, ?_, rest⟩
  rw [hk.block r (Array.getElem?_eq_some_iff.1 hg).1 (h2 r (by rw [hv]; rfl))]
  exact hg
theorem Hp.next (h : Hp w B g A n c xs) (hb : Below w.heap.size w w') : Hp w' B g A n c xs :=
 h.kept (Kept.of_below hb) (by have := h.blk.lt; omega) (fun k hk => by have := (h.own.blk k hk).2; omega)
end
theorem wrap64_nat {n : Nat} (h : n ≤ 1000000) : wrap64 (n : Int) = (n : Int) := by unfold wrap64; omega
def Mine (g : Nat) (A : Option Addr) (n c : Nat) (k : Nat) : Prop := k = g ∨ (Value.slice A n c).ownBlock = some k
set_option maxRecDepth 100000 in
set_option maxHeartbeats 1000000 in
theorem up_any (w : World) (B g n c : Nat) (r : Nat) (xs : List (Nat × Int)) (j f : Nat) (h : Hp w B g (some ⟨r, 0, none⟩) n c xs) (hj : j < n) (hn : n ≤ 1000) (hf : j < 2 ^ f) :
  Calls Tryz.prog 146 #[.iface 162 (.pointer (some ⟨g, 0, none⟩)), .int .i64 (j : Int)] w fun e w' => (∃ v, e = .returned v) ∧ Hp w' B g (some ⟨r, 0, none⟩) n c (Ta.upL f xs j) ∧ w.grownBy w' (some r) := by
 have ml := method_less g n c (some ⟨r, 0, none⟩)
 have ms := method_swap g n c (some ⟨r, 0, none⟩)
 obtain ⟨R, hR⟩ : ∃ R, Ta.upL f xs j = R := ⟨_, rfl⟩
 rw [hR]
 have H0 := Hd h
 have HR := Hd hR
 have HF := Hd hf
 clear h hR hf
 go_enter Tryz.func146, Tryz.ntmps146
 go_wp2_with fail
 go_loopw [1] (fun jv wr => ∃ (j f : Nat) (ys : List (Nat × Int)), jv = .int .i64 (j : Int) ∧ j < n ∧ j < 2 ^ f ∧ Ta.upL f ys j = R ∧ Hp wr B g (some ⟨r, 0, none⟩) n c ys ∧ w.grownBy wr (some r)) (fun jv _ => (intOf jv).toNat)
 case atStart => exact ⟨j, f, xs, rfl, hj, HF.out, HR.out, H0.out, World.grownBy.refl w _⟩
 case round =>
  clear HR HF H0 hj
  obtain ⟨j, f, ys, rfl, hj, hf, hR, hH, hG⟩ := hrel
  have hcell := hH.cell
  have HH := Hd hH
  have HG := Hd hG
  have HR := Hd hR
  have HF := Hd hf
  clear hH hG hR hf
  by_cases h0 : j = 0
  ·subst h0
   go_wp2
   refine bodyPost_end (results_none rfl _ _ _) rfl ⟨⟨_, rfl⟩, ?_, HG.out⟩
   have : Ta.upL f ys 0 = ys := by cases f with | zero => rfl | succ f => simp [Ta.upL]
   rw [← HR.out, this]
   exact HH.out
  ·obtain ⟨i, hi2⟩ : ∃ i : Nat, i = (j - 1) / 2 := ⟨_, rfl⟩
   have hij : ¬ i = j := by omega
   have hij2 : ((i : Int) == (j : Int)) = false := by simp; omega
   have hq : ((j : Int) - 1) / 2 = (i : Int) := by omega
   obtain ⟨f, rfl⟩ : ∃ k, f = k + 1 := ⟨f - 1, by have := HF.out; cases f with | zero => simp at this; omega | succ k => simp⟩
   have hly := HH.out.len
   obtain ⟨x, hx⟩ : ∃ x, ys[j]? = some x := ⟨_, List.getElem?_eq_getElem (by omega)⟩
   obtain ⟨y, hy⟩ : ∃ y, ys[i]? = some y := ⟨_, List.getElem?_eq_getElem (by omega)⟩
   have HX := Hd hx
   have HY := Hd hy
   have HI := Hd hi2
   have dx : ys.getD j Ta.d0 = x := by rw [List.getD_eq_getElem?_getD, hx]; rfl
   have dy : ys.getD i Ta.d0 = y := by rw [List.getD_eq_getElem?_getD, hy]; rfl
   have hup : Ta.upL (f + 1) ys j = if Ta.less x y = false then ys else Ta.upL f (Ta.swapL ys i j) i := by
    simp only [Ta.upL, ← hi2, dx, dy]
    by_cases hz : Ta.less x y = false
    ·rw [if_pos (.inr hz), if_pos hz]
    ·rw [if_neg (by simp [hij]; simpa using hz), if_neg hz]
   have HUP := Hd hup
   have hi3 : i < n := by omega
   have hfi : i < 2 ^ f := by have := HF.out; rw [Nat.pow_succ] at this; omega
   have HFI := Hd hfi
   clear hx hy hi2 dx dy hup hly hfi
   go_wp2_with fail
   refine (Less_any _ n c ys j i x y wr HH.out.own.dbs HX.out HY.out).mono ?_
   rintro e w1 ⟨rfl, q, rfl⟩
   rcases hls : Ta.less x y with _ | _
   ·have HL := Hd hls
    clear hls
    go_wp2
    refine bodyPost_end (results_none rfl _ _ _) rfl ⟨⟨_, rfl⟩, ?_, ?_⟩
    ·rw [← HR.out, HUP.out, if_pos HL.out]
     exact HH.out.drewN q
    ·exact ⟨HG.out.os, HG.out.tape, HG.out.output, HG.out.size, HG.out.block⟩
   ·have HL := Hd hls
    clear hls
    go_wp2_with fail
    refine (Swap_any r n c B ys i j y x (wr.drewN q) (HH.out.drewN q).own HY.out HX.out).mono ?_
    rintro e w2 ⟨⟨v2, rfl⟩, hO, hG2⟩
    have HH2 := Hd (show Hp w2 B g (some ⟨r, 0, none⟩) n c (Ta.swapL ys i j) from ⟨(HH.out.drewN q).blk.grown hG2 (by intro e; injection e with e; exact HH.out.ne r rfl e.symm), hO, HH.out.ne⟩)
    have HG2 := Hd ((⟨HG.out.os, HG.out.tape, HG.out.output, HG.out.size, HG.out.block⟩ : w.grownBy (wr.drewN q) (some r)).then_ hG2 (fun k hk => .inr hk))
    clear hO hG2
    go_wp2
    go_roundw
    case rel => exact ⟨i, f, _, rfl, hi3, HFI.out, by rw [← HR.out, HUP.out, if_neg (by rw [HL.out]; simp)], HH2.out, HG2.out⟩
    case measure => simp [intOf]; have := HI.out; omega
end Go.Proofs.YthdoofmfigemoaaGreatDoor
end
section
namespace Go.Proofs.YthdoofmfigemoaaGreatDoor.Fr
def Digs (ds : List Int) : Prop := ∀ d ∈ ds, 0 ≤ d ∧ d ≤ 9
def cost (a b : Int) : Int := (if a / 5 = b / 5 then 0 else 1) + (if a % 5 = b % 5 then 0 else 1)
def val : List Int → Int
 | [] => 0
 | d :: ds => d + 10 * val ds
def ten (n : Nat) : Int := 10 ^ n
def chg (s : Int) : List Int → Int → Option (List Int × Int)
 | [], g => if g = 0 then some ([], 0) else none
 | d :: ds, g =>
  if g = 0 then some (d :: ds, 0)
  else if 0 ≤ d + s * g ∧ d + s * g ≤ 9 then some ((d + s * g) :: ds, cost d (d + s * g))
  else (chg s ds 1).map fun p => ((d + s * g - 10 * s) :: p.1, cost d (d + s * g - 10 * s) + p.2)
def allF (s : Int) : Nat → List Int → Int → Option (List Int × Int)
 | 0, ds, n => if n = 0 then some (ds, 0) else none
 | k + 1, ds, n =>
  if n = 0 then some (ds, 0)
  else match chg s ds (n % 10) with
   | some (d1 :: ds1, n1) => (allF s k ds1 (n / 10)).map fun p => (d1 :: p.1, n1 + p.2)
   | _ => none
def all (s : Int) (ds : List Int) (n : Int) : Option (List Int × Int) := allF s ds.length ds n
def dist : List Int → List Int → Int
 | a :: as1, b :: bs => cost a b + dist as1 bs
 | _, _ => 0
def nines (ds : List Int) : List Int := ds.map fun d => 9 - d
theorem digs_cons (d : Int) (ds : List Int) : Digs (d :: ds) ↔ (0 ≤ d ∧ d ≤ 9) ∧ Digs ds := by simp [Digs]
theorem ten_pos (n : Nat) : 0 < ten n := Int.pow_pos (by omega)
theorem ten_succ (n : Nat) : ten (n + 1) = 10 * ten n := by rw [ten, Int.pow_succ, Int.mul_comm]; rfl
theorem val_range (ds : List Int) (h : Digs ds) : 0 ≤ val ds ∧ val ds < ten ds.length := by
 induction ds with
 | nil => simp [val, ten]
 | cons d ds ih =>
  have h' := (digs_cons d ds).1 h
  have := ih h'.2
  rw [List.length_cons, ten_succ, val]; omega
theorem val_inj (as1 : List Int) : ∀ bs, Digs as1 → Digs bs → as1.length = bs.length → val as1 = val bs → as1 = bs := by
 induction as1 with
 | nil => intro bs _ _ hl _; cases bs with | nil => rfl | cons => simp at hl
 | cons a as1 ih =>
  intro bs ha hb hl hv
  cases bs with
  | nil => simp at hl
  | cons b bs =>
   have ha' := (digs_cons a as1).1 ha
   have hb' := (digs_cons b bs).1 hb
   simp only [val] at hv
   have e1 : a = b := by omega
   subst e1
   rw [ih bs ha'.2 hb'.2 (by simpa using hl) (by omega)]
theorem cost_nonneg (a b : Int) : 0 ≤ cost a b := by unfold cost; split <;> split <;> omega
theorem cost_self (a : Int) : cost a a = 0 := by simp [cost]
theorem cost_pos (a b : Int) (h : a ≠ b) : 1 ≤ cost a b := by unfold cost; split <;> split <;> omega
theorem cost_tri (a b c : Int) : cost a c ≤ cost a b + cost b c := by unfold cost; split <;> split <;> split <;> split <;> split <;> split <;> omega
theorem cost_nines (a b : Int) : cost (9 - a) (9 - b) = cost a b := by
 unfold cost
 have e1 : ((9 - a) / 5 = (9 - b) / 5) = (a / 5 = b / 5) := by simp only [eq_iff_iff]; omega
 have e2 : ((9 - a) % 5 = (9 - b) % 5) = (a % 5 = b % 5) := by simp only [eq_iff_iff]; omega
 simp only [e1, e2]
theorem dist_self (as1 : List Int) : dist as1 as1 = 0 := by
 induction as1 with
 | nil => rfl
 | cons a as1 ih => simp [dist, ih, cost_self]
theorem dist_tri (as1 : List Int) : ∀ bs cs, as1.length = bs.length → bs.length = cs.length → dist as1 cs ≤ dist as1 bs + dist bs cs := by
 induction as1 with
 | nil =>
  intro bs cs h1 h2
  obtain rfl := List.eq_nil_of_length_eq_zero h1.symm
  obtain rfl := List.eq_nil_of_length_eq_zero h2.symm
  simp [dist]
 | cons a as1 ih =>
  intro bs cs h1 h2
  cases bs with
  | nil => simp at h1
  | cons b bs =>
   cases cs with
   | nil => simp at h2
   | cons c cs =>
    have := ih bs cs (by simpa using h1) (by simpa using h2)
    have := cost_tri a b c
    simp only [dist]; omega
def Sgn (s : Int) : Prop := s = 1 ∨ s = -1
theorem chg_some (s : Int) (hs : Sgn s) (ds : List Int) : ∀ g r n, Digs ds → 0 ≤ g → g ≤ 9 → chg s ds g = some (r, n) →
  Digs r ∧ r.length = ds.length ∧ val r = val ds + s * g ∧ dist ds r = n ∧ 0 ≤ n ∧ (g ≠ 0 → 1 ≤ n) := by
 induction ds with
 | nil =>
  intro g r n _ _ _ h
  simp only [chg] at h
  split at h
  ·next hg => simp at h; obtain ⟨rfl, rfl⟩ := h; subst hg; simp [Digs, val, dist]
  ·cases h
 | cons d ds ih =>
  intro g r n hd h0 h9 h
  have hd' := (digs_cons d ds).1 hd
  simp only [chg] at h
  split at h
  ·next hg =>
   simp at h; obtain ⟨rfl, rfl⟩ := h; subst hg
   exact ⟨hd, rfl, by simp, dist_self _, by omega, fun h => absurd rfl h⟩
  ·next hg =>
   split at h
   ·next hin =>
    simp at h; obtain ⟨rfl, rfl⟩ := h
    have hne : d ≠ d + s * g := by rcases hs with rfl | rfl <;> omega
    refine ⟨(digs_cons _ _).2 ⟨hin, hd'.2⟩, rfl, by simp only [val]; omega, by simp [dist, dist_self], cost_nonneg _ _, fun _ => cost_pos _ _ hne⟩
   ·next hout =>
    rw [Option.map_eq_some_iff] at h
    obtain ⟨⟨r', n'⟩, hr, h⟩ := h
    simp at h; obtain ⟨rfl, rfl⟩ := h
    obtain ⟨i1, i2, i3, i4, i5, _⟩ := ih 1 r' n' hd'.2 (by omega) (by omega) hr
    have hne : d ≠ d + s * g - 10 * s := by rcases hs with rfl | rfl <;> omega
    have hin : 0 ≤ d + s * g - 10 * s ∧ d + s * g - 10 * s ≤ 9 := by rcases hs with rfl | rfl <;> omega
    have c0 := cost_pos _ _ hne
    refine ⟨(digs_cons _ _).2 ⟨hin, i1⟩, by simp [i2], by simp only [val, i3]; omega, by simp [dist, i4], by omega, fun _ => by omega⟩
theorem chg_iff (s : Int) (hs : Sgn s) (ds : List Int) : ∀ g, Digs ds → 0 ≤ g → g ≤ 9 → ((chg s ds g).isSome = true ↔ 0 ≤ val ds + s * g ∧ val ds + s * g < ten ds.length) := by
 induction ds with
 | nil =>
  intro g _ h0 h9
  simp only [chg, val, List.length_nil, ten]
  split
  ·next h => subst h; simp
  ·next h => rcases hs with rfl | rfl <;> simp <;> omega
 | cons d ds ih =>
  intro g hd h0 h9
  have hd' := (digs_cons d ds).1 hd
  have hv := val_range ds hd'.2
  have ht := ten_succ ds.length
  simp only [chg, val, List.length_cons, ht]
  split
  ·next h => subst h; simp; omega
  ·next h =>
   split
   ·next hin => simp; omega
   ·next hout =>
    have := ih 1 hd'.2 (by omega) (by omega)
    rw [Option.isSome_map, this]
    rcases hs with rfl | rfl <;> omega
theorem chg_nines (s : Int) (hs : Sgn s) (ds : List Int) : ∀ g, Digs ds → 0 ≤ g → g ≤ 9 → chg (0 - s) (nines ds) g = (chg s ds g).map fun p => (nines p.1, p.2) := by
 induction ds with
 | nil =>
  intro g _ _ _
  simp only [chg, nines, List.map_nil]
  split <;> simp
 | cons d ds ih =>
  intro g hd h0 h9
  have hd' := (digs_cons d ds).1 hd
  have := ih 1 hd'.2 (by omega) (by omega)
  simp only [nines, List.map_cons] at this ⊢
  simp only [chg]
  have e : 9 - d + (0 - s) * g = 9 - (d + s * g) := by rw [Int.sub_mul]; omega
  have c : (0 ≤ 9 - (d + s * g) ∧ 9 - (d + s * g) ≤ 9) = (0 ≤ d + s * g ∧ d + s * g ≤ 9) := by simp only [eq_iff_iff]; omega
  rw [e]
  simp only [c]
  split
  ·simp
  ·split
   ·next hin => simp [cost_nines]
   ·next hout =>
    rw [this]
    have hin : 0 ≤ d + s * g - 10 * s ∧ d + s * g - 10 * s ≤ 9 := by rcases hs with rfl | rfl <;> omega
    have e3 : 9 - (d + s * g) - 10 * (0 - s) = 9 - (d + s * g - 10 * s) := by omega
    rw [e3, cost_nines]
    simp [Option.map_map, Function.comp_def]
theorem all_some (s : Int) (hs : Sgn s) (ds : List Int) : ∀ N r n, Digs ds → 0 ≤ N → all s ds N = some (r, n) →
  Digs r ∧ r.length = ds.length ∧ val r = val ds + s * N ∧ dist ds r ≤ n ∧ 0 ≤ n ∧ (n = 0 ↔ N = 0) := by
 have key : ∀ (k : Nat) (ds : List Int), ds.length = k → ∀ N r n, Digs ds → 0 ≤ N → allF s k ds N = some (r, n) →
  Digs r ∧ r.length = ds.length ∧ val r = val ds + s * N ∧ dist ds r ≤ n ∧ 0 ≤ n ∧ (n = 0 ↔ N = 0) := by
  intro k
  induction k with
  | zero =>
   intro ds hk N r n _ _ h
   obtain rfl := List.eq_nil_of_length_eq_zero hk
   simp only [allF] at h
   split at h
   ·next hg => simp at h; obtain ⟨rfl, rfl⟩ := h; subst hg; simp [Digs, val, dist]
   ·cases h
  | succ k ih =>
   intro ds hk N r n hd h0 h
   cases ds with
   | nil => simp at hk
   | cons d ds =>
    simp only [allF] at h
    split at h
    ·next hg => simp at h; obtain ⟨rfl, rfl⟩ := h; subst hg; exact ⟨hd, rfl, by simp, by rw [dist_self]; omega, by omega, by simp⟩
    ·next hg =>
     split at h
     ·next d1 ds1 n1 hc =>
      rw [Option.map_eq_some_iff] at h
      obtain ⟨⟨r', n'⟩, hr, h⟩ := h
      simp at h; obtain ⟨rfl, rfl⟩ := h
      obtain ⟨c1, c2, c3, c4, c5, c6⟩ := chg_some s hs _ _ _ _ hd (Int.emod_nonneg N (by omega)) (by have := Int.emod_lt_of_pos N (b := 10) (by omega); omega) hc
      have c1' := (digs_cons _ _).1 c1
      have hl : ds1.length = k := by simp at c2 hk; omega
      obtain ⟨i1, i2, i3, i4, i5, i6⟩ := ih ds1 hl (N / 10) r' n' c1'.2 (by omega) hr
      have hd1 := dist_tri (d :: ds) (d1 :: ds1) (d1 :: r') c2.symm (by simp [i2])
      have hd2 : dist (d1 :: ds1) (d1 :: r') = dist ds1 r' := by simp [dist, cost_self]
      refine ⟨(digs_cons _ _).2 ⟨c1'.1, i1⟩, by simp at c2 ⊢; omega, ?_, by omega, by omega, ?_⟩
      ·simp only [val] at c3 ⊢
       rw [i3]
       rcases hs with rfl | rfl <;> omega
      ·constructor
       ·intro he
        have : N % 10 = 0 := by
         rcases Int.lt_or_eq_of_le (Int.emod_nonneg N (b := 10) (by omega)) with h | h
         ·have := c6 (by omega); omega
         ·omega
        have := i6.1 (by omega)
        omega
       ·intro he; exact absurd he hg
     ·cases h
 intro N r n hd h0 h
 exact key ds.length ds rfl N r n hd h0 h
theorem all_iff (s : Int) (hs : Sgn s) (ds : List Int) (N : Int) (hd : Digs ds) (h0 : 0 ≤ N) : ((all s ds N).isSome = true ↔ 0 ≤ val ds + s * N ∧ val ds + s * N < ten ds.length) := by
 have key : ∀ (k : Nat) (ds : List Int), ds.length = k → ∀ N, Digs ds → 0 ≤ N → ((allF s k ds N).isSome = true ↔ 0 ≤ val ds + s * N ∧ val ds + s * N < ten ds.length) := by
  intro k
  induction k with
  | zero =>
   intro ds hk N _ h0
   obtain rfl := List.eq_nil_of_length_eq_zero hk
   simp only [allF, val, List.length_nil, ten]
   split
   ·next h => subst h; simp
   ·next h => rcases hs with rfl | rfl <;> simp <;> omega
  | succ k ih =>
   intro ds hk N hd h0
   cases ds with
   | nil => simp at hk
   | cons d ds =>
    have hd' := (digs_cons d ds).1 hd
    have hv := val_range _ hd
    have m0 := Int.emod_nonneg N (b := 10) (by omega)
    have m1 := Int.emod_lt_of_pos N (b := 10) (by omega)
    have hci := chg_iff s hs (d :: ds) (N % 10) hd m0 (by omega)
    simp only [allF]
    split
    ·next h => subst h; simp; exact hv
    ·next h =>
     split
     ·next d1 ds1 n1 hc =>
      obtain ⟨c1, c2, c3, _⟩ := chg_some s hs _ _ _ _ hd m0 (by omega) hc
      have c1' := (digs_cons _ _).1 c1
      have hl : ds1.length = k := by simp at c2 hk; omega
      rw [Option.isSome_map, ih ds1 hl (N / 10) c1'.2 (by omega)]
      simp only [val] at c3
      have hlk : ds.length = k := by simp at hk; omega
      rw [hl, List.length_cons, hlk, ten_succ]
      simp only [val]
      rcases hs with rfl | rfl <;> omega
     ·next hnone =>
      have hn : chg s (d :: ds) (N % 10) = none := by
       cases hc : chg s (d :: ds) (N % 10) with
       | none => rfl
       | some p =>
        obtain ⟨r, n⟩ := p
        obtain ⟨_, c2, _⟩ := chg_some s hs _ _ _ _ hd m0 (by omega) hc
        cases r with
        | nil => simp at c2
        | cons d1 ds1 => exact absurd hc (hnone d1 ds1 n)
      rw [hn] at hci
      simp only [Option.isSome_none] at hci ⊢
      have hci' : ¬ (0 ≤ val (d :: ds) + s * (N % 10) ∧ val (d :: ds) + s * (N % 10) < ten (d :: ds).length) := fun h => by simpa using hci.2 h
      constructor
      ·intro h; cases h
      ·intro hh; exfalso; apply hci'
       rcases hs with rfl | rfl <;> omega
 exact key ds.length ds rfl N hd h0
theorem all_nines (s : Int) (hs : Sgn s) (k : Nat) : ∀ (ds : List Int), ds.length = k → ∀ N, Digs ds → 0 ≤ N → allF (0 - s) k (nines ds) N = (allF s k ds N).map fun p => (nines p.1, p.2) := by
 induction k with
 | zero =>
  intro ds hk N _ _
  obtain rfl := List.eq_nil_of_length_eq_zero hk
  simp only [allF, nines, List.map_nil]
  split <;> simp
 | succ k ih =>
  intro ds hk N hd h0
  cases ds with
  | nil => simp at hk
  | cons d ds =>
   have m0 := Int.emod_nonneg N (b := 10) (by omega)
   have m1 := Int.emod_lt_of_pos N (b := 10) (by omega)
   have hc := chg_nines s hs (d :: ds) (N % 10) hd m0 (by omega)
   have e : nines (d :: ds) = (9 - d) :: nines ds := rfl
   rw [e] at hc ⊢
   simp only [allF, hc]
   split
   ·simp [e]
   ·cases hcc : chg s (d :: ds) (N % 10) with
    | none => simp
    | some p =>
     obtain ⟨r, n⟩ := p
     obtain ⟨c1, c2, _⟩ := chg_some s hs _ _ _ _ hd m0 (by omega) hcc
     cases r with
     | nil => simp at c2
     | cons d1 ds1 =>
      have c1' := (digs_cons _ _).1 c1
      have hl : ds1.length = k := by simp at c2 hk; omega
      have := ih ds1 hl (N / 10) c1'.2 (by omega)
      have e2 : nines (d1 :: ds1) = (9 - d1) :: nines ds1 := rfl
      simp only [Option.map_some, e2]
      rw [this]
      simp [Option.map_map, Function.comp_def, nines]
theorem all_nines' (s : Int) (hs : Sgn s) (ds : List Int) (N : Int) (hd : Digs ds) (h0 : 0 ≤ N) : all (0 - s) (nines ds) N = (all s ds N).map fun p => (nines p.1, p.2) := by
 unfold all
 rw [show (nines ds).length = ds.length from by simp [nines]]
 exact all_nines s hs ds.length ds rfl N hd h0
theorem all_back (s : Int) (hs : Sgn s) (ds : List Int) (N : Int) (r : List Int) (n : Int) (hd : Digs ds) (h0 : 0 ≤ N) (h : all s ds N = some (r, n)) : ∃ m, all (0 - s) r N = some (ds, m) := by
 obtain ⟨a1, a2, a3, _⟩ := all_some s hs ds N r n hd h0 h
 have hs' : Sgn (0 - s) := by rcases hs with rfl | rfl <;> simp [Sgn]
 have hv := val_range ds hd
 have e : val r + (0 - s) * N = val ds := by rw [a3, Int.sub_mul]; omega
 have hi := (all_iff (0 - s) hs' r N a1 h0).2 (by rw [e, a2]; exact hv)
 obtain ⟨⟨q, m⟩, hq⟩ := Option.isSome_iff_exists.1 hi
 obtain ⟨b1, b2, b3, _⟩ := all_some (0 - s) hs' r N q m a1 h0 hq
 have : q = ds := val_inj q ds b1 hd (by omega) (by omega)
 exact ⟨m, by rw [hq, this]⟩
end Go.Proofs.YthdoofmfigemoaaGreatDoor.Fr
end
section
namespace Go.Proofs.YthdoofmfigemoaaGreatDoor
open Go.RowKit
def HiL (ds : List Int) : List Int := ds.map fun d => d / 5
def LoL (ds : List Int) : List Int := ds.map fun d => d % 5
def RC : List Int → List Value
 | [] => []
 | d :: ds => .int .i64 (d / 5) :: .int .i64 (d % 5) :: RC ds
theorem HiL_length (ds : List Int) : (HiL ds).length = ds.length := by simp [HiL]
theorem LoL_length (ds : List Int) : (LoL ds).length = ds.length := by simp [LoL]
theorem RC_length (ds : List Int) : (RC ds).length = 2 * ds.length := by
 induction ds with
 | nil => rfl
 | cons d ds ih => simp [RC, ih]; omega
theorem RC_hi (ds : List Int) : ∀ k d, ds[k]? = some d → (RC ds)[2 * k]? = some (.int .i64 (d / 5)) := by
 induction ds with
 | nil => intro k d h; simp at h
 | cons a ds ih =>
  intro k d h
  cases k with
  | zero => simp at h; subst h; rfl
  | succ k => rw [show 2 * (k + 1) = 2 * k + 1 + 1 from by omega]; simp only [RC, List.getElem?_cons_succ]; exact ih k d (by simpa using h)
theorem RC_lo (ds : List Int) : ∀ k d, ds[k]? = some d → (RC ds)[2 * k + 1]? = some (.int .i64 (d % 5)) := by
 induction ds with
 | nil => intro k d h; simp at h
 | cons a ds ih =>
  intro k d h
  cases k with
  | zero => simp at h; subst h; rfl
  | succ k => rw [show 2 * (k + 1) + 1 = 2 * k + 1 + 1 + 1 from by omega]; simp only [RC, List.getElem?_cons_succ]; exact ih k d (by simpa using h)
theorem RC_set (ds : List Int) : ∀ k x, k < ds.length → ((RC ds).set (2 * k) (.int .i64 (x / 5))).set (2 * k + 1) (.int .i64 (x % 5)) = RC (ds.set k x) := by
 induction ds with
 | nil => intro k x h; simp at h
 | cons a ds ih =>
  intro k x h
  cases k with
  | zero => rfl
  | succ k =>
   rw [show 2 * (k + 1) + 1 = 2 * k + 1 + 1 + 1 from by omega, show 2 * (k + 1) = 2 * k + 1 + 1 from by omega]
   simp only [RC, List.set_cons_succ]
   rw [ih k x (by simpa using h)]
def Rods (w : World) (B g h : Nat) (ds : List Int) : Prop :=
 w.heap[g]? = some (.cells #[.slice (some ⟨h, 0, none⟩) ds.length ds.length] 80 (0, 0)) ∧ w.heap[h]? = some (.cells (RC ds).toArray 82 (0, 0)) ∧ B ≤ g ∧ B ≤ h ∧ g ≠ h
section
variable {w w' : World} {B g h : Nat} {ds : List Int}
theorem Rods.gl (r : Rods w B g h ds) : g < w.heap.size := (Array.getElem?_eq_some_iff.1 r.1).1
theorem Rods.hl (r : Rods w B g h ds) : h < w.heap.size := (Array.getElem?_eq_some_iff.1 r.2.1).1
theorem Rods.keep (r : Rods w B g h ds) (hg : w'.heap[g]? = w.heap[g]?) (hh : w'.heap[h]? = w.heap[h]?) : Rods w' B g h ds := ⟨hg.trans r.1, hh.trans r.2.1, r.2.2⟩
theorem Rods.next (r : Rods w B g h ds) (hb : Below w.heap.size w w') : Rods w' B g h ds := r.keep (hb.block g r.gl) (hb.block h r.hl)
theorem Rods.alloc (r : Rods w B g h ds) (o : Obj) : Rods (w.alloc o) B g h ds := r.keep (Below.heap_alloc w o g r.gl) (Below.heap_alloc w o h r.hl)
theorem Rods.drewN (r : Rods w B g h ds) (k : Nat) : Rods (w.drewN k) B g h ds := r
theorem Rods.slice (r : Rods w B g h ds) : w.cell? ⟨g, 0, none⟩ = some (.slice (some ⟨h, 0, none⟩) ds.length ds.length) := cell_of_row w g 0 _ _ _ r.1
theorem Rods.hi (r : Rods w B g h ds) {k : Nat} {d : Int} (hd : ds[k]? = some d) : w.cell? ⟨h, k * 2, none⟩ = some (.int .i64 (d / 5)) := by
 rw [cell_of_row w h (k * 2) _ _ _ r.2.1, Nat.mul_comm]; simpa using RC_hi ds k d hd
theorem Rods.lo (r : Rods w B g h ds) {k : Nat} {d : Int} (hd : ds[k]? = some d) : w.cell? ⟨h, k * 2 + 1, none⟩ = some (.int .i64 (d % 5)) := by
 rw [cell_of_row w h (k * 2 + 1) _ _ _ r.2.1, Nat.mul_comm]; simpa using RC_lo ds k d hd
theorem Rods.free (r : Rods w B g h ds) (j : Nat) : w.frozen? ⟨h, j, none⟩ = false := by
 have := r.2.1
 simp [World.frozen?, this]
theorem Rods.set_ (r : Rods w B g h ds) {k : Nat} (hk : k < ds.length) (x : Int) :
  Rods ((w.setCell ⟨h, k * 2, none⟩ (.int .i64 (x / 5))).setCell ⟨h, k * 2 + 1, none⟩ (.int .i64 (x % 5))) B g h (ds.set k x) := by
 obtain ⟨h1, h2, h3, h4, h5⟩ := r
 refine ⟨?_, ?_, h3, h4, h5⟩
 ·rw [heap_setCell_other _ _ g _ h5, heap_setCell_other _ _ g _ h5, List.length_set]; exact h1
 ·have e1 := heap_setCell_same w h (k * 2) _ _ (.int .i64 (x / 5)) h2
  have e2 := heap_setCell_same _ h (k * 2 + 1) _ _ (.int .i64 (x % 5)) e1
  rw [e2, ← RC_set ds k x hk, Nat.mul_comm 2 k]
  simp
end
theorem grown_set {w : World} (h j : Nat) (u : Value) : w.grownBy (w.setCell ⟨h, j, none⟩ u) (some h) :=
 ⟨rfl, rfl, rfl, by simp [World.setCell], fun k _ hne => heap_setCell_other w _ k _ (fun e => hne (by rw [e]))⟩
set_option maxHeartbeats 400000 in
theorem digit_any (w : World) (h o : Nat) (d : Int) (h0 : 0 ≤ d) (h9 : d ≤ 9) (c0 : w.cell? ⟨h, o, none⟩ = some (.int .i64 (d / 5))) (c1 : w.cell? ⟨h, o + 1, none⟩ = some (.int .i64 (d % 5))) :
  Calls Tryz.prog 63 #[.pointer (some ⟨h, o, none⟩)] w fun e w' => e = .returned (.int .i64 d) ∧ ∃ q, w' = w.drewN q := by
 have b0 : 0 ≤ d / 5 ∧ d / 5 ≤ 1 := by omega
 have b1 : 0 ≤ d % 5 ∧ d % 5 ≤ 4 := by omega
 have e0 : 5 * (d / 5) + d % 5 = d := by omega
 obtain ⟨u, hu⟩ : ∃ u, d / 5 = u := ⟨_, rfl⟩
 obtain ⟨v, hv⟩ : ∃ v, d % 5 = v := ⟨_, rfl⟩
 rw [hu] at b0 c0 e0
 rw [hv] at b1 c1 e0
 obtain ⟨b00, b01⟩ := b0
 obtain ⟨b10, b11⟩ := b1
 have HE := Hd e0
 clear hu hv e0 h0 h9
 have s1 : IntKind.i64.wrap (5 * u) = 5 * u := IntWalk.i64_in _ (by omega)
 have s2 : IntKind.i64.wrap (5 * u + v) = 5 * u + v := IntWalk.i64_in _ (by omega)
 go_enter Tryz.func63, Tryz.ntmps63
 go_wp2_with fail
 go_quiet (fail)
 go_wp2
 go_ret
 exact ⟨ret_int HE.out, _, rfl⟩
theorem rod_digit {w : World} {B g h : Nat} {ds : List Int} {k : Nat} {d : Int} (r : Rods w B g h ds) (hd : ds[k]? = some d) (h0 : 0 ≤ d) (h9 : d ≤ 9) :
  Calls Tryz.prog 63 #[.pointer (some ⟨h, k * 2, none⟩)] w fun e w' => e = .returned (.int .i64 d) ∧ ∃ q, w' = w.drewN q :=
 digit_any w h (k * 2) d h0 h9 (r.hi hd) (r.lo hd)
set_option maxHeartbeats 400000 in
theorem pushesTo_any (w : World) (h o : Nat) (a b c d : Int) (c0 : w.cell? ⟨h, o, none⟩ = some (.int .i64 a)) (c1 : w.cell? ⟨h, o + 1, none⟩ = some (.int .i64 b)) (hlt : h < w.heap.size) :
  Calls Tryz.prog 106 #[.pointer (some ⟨h, o, none⟩), .agg #[.int .i64 c, .int .i64 d]] w fun e w' =>
   e = .returned (.int .i64 ((if a = c then 0 else 1) + (if b = d then 0 else 1))) ∧ Below w.heap.size w w' := by
 obtain ⟨r, hr⟩ : ∃ r : Int, (if a = c then 0 else 1) = r := ⟨_, rfl⟩
 obtain ⟨s, hs⟩ : ∃ r : Int, (if b = d then 0 else 1) = r := ⟨_, rfl⟩
 rw [hr, hs]
 rcases hac : (a != c) with _ | _ <;> rcases hbd : (b != d) with _ | _
 all_goals
  have e1 : ∀ x y : Int, (x != y) = false → (if x = y then (0 : Int) else 1) = 0 := by intro x y h; rw [if_pos (by simpa using h)]
  have e2 : ∀ x y : Int, (x != y) = true → (if x = y then (0 : Int) else 1) = 1 := by intro x y h; rw [if_neg (by simpa using h)]
  first | rw [e1 _ _ hac] at hr | rw [e2 _ _ hac] at hr
  first | rw [e1 _ _ hbd] at hs | rw [e2 _ _ hbd] at hs
  subst hr
  subst hs
  clear e1 e2
  go_enter Tryz.func106, Tryz.ntmps106
  go_wp2_with fail
  go_quiet (fail)
  go_wp2_with fail
  go_quiet (fail)
  go_wp2
  go_ret
  first
   | exact ⟨rfl, below_drewN ((Below.refl _ _).alloc (Nat.le_refl _) _) _⟩
   | exact ⟨rfl, below_drewN (below_drewN ((Below.refl _ _).alloc (Nat.le_refl _) _) _) _⟩
set_option maxHeartbeats 1000000 in
theorem show_any (w : World) (B g h : Nat) (ds : List Int) (k : Nat) (d x : Int) (hr : Rods w B g h ds) (hd : ds[k]? = some d) (x0 : 0 ≤ x) (x9 : x ≤ 9) :
  Calls Tryz.prog 57 #[.pointer (some ⟨h, k * 2, none⟩), .int .i64 x] w fun e w' => e = .returned (.int .i64 (Fr.cost d x)) ∧ Rods w' B g h (ds.set k x) ∧ w.grownBy w' (some h) := by
 have hl := hr.hl
 have hk : k < ds.length := (List.getElem?_eq_some_iff.1 hd).1
 have c0 := (hr.alloc (.cells #[.int .i64 (x / 5), .int .i64 (x % 5)] 82)).hi hd
 have c1 := (hr.alloc (.cells #[.int .i64 (x / 5), .int .i64 (x % 5)] 82)).lo hd
 have HR := Hd hr
 have HK := Hd hk
 clear hd hr hk
 go_enter Tryz.func57, Tryz.ntmps57
 go_wp2_with fail
 refine (show Calls Tryz.prog 106 #[.pointer (some ⟨h, k * 2, none⟩), .agg #[.int .i64 (x / 5), .int .i64 (x % 5)]] _ (fun e w' => e = .returned (.int .i64 (Fr.cost d x)) ∧ Below _ _ w') from pushesTo_any _ _ _ _ _ _ _ c0 c1 (by simp; omega)).mono ?_
 rintro e w1 ⟨rfl, hb1⟩
 have hr1 := (HR.out.alloc _).next hb1
 have f0 := hr1.free (k * 2)
 have f1 := hr1.free (k * 2 + 1)
 have c10 := (hb1.cell (p := ⟨h, k * 2, none⟩) (by simp; omega)).trans c0
 have c11 := (hb1.cell (p := ⟨h, k * 2 + 1, none⟩) (by simp; omega)).trans c1
 have b0 : w1.cell? ⟨w.heap.size, 0, none⟩ = some (.int .i64 (x / 5)) := (hb1.cell (p := ⟨w.heap.size, 0, none⟩) (by simp)).trans (by rw [cell_of_row _ w.heap.size 0 _ _ _ (heap_alloc_new w _)]; rfl)
 have b1 : w1.cell? ⟨w.heap.size, 1, none⟩ = some (.int .i64 (x % 5)) := (hb1.cell (p := ⟨w.heap.size, 1, none⟩) (by simp)).trans (by rw [cell_of_row _ w.heap.size 1 _ _ _ (heap_alloc_new w _)]; rfl)
 have HR1 := Hd hr1
 have HB1 := Hd hb1
 clear hr1 hb1 c0 c1
 go_wp2
 go_ret
 refine ⟨rfl, HR1.out.set_ HK.out x, ?_⟩
 exact (((World.grownBy_alloc _ _ _).trans (grown_of_below HB1.out (some h))).trans (grown_set h _ _)).trans (grown_set h _ _)
end Go.Proofs.YthdoofmfigemoaaGreatDoor
end
namespace Go.Proofs.YthdoofmfigemoaaGreatDoor
open Go.RowKit
theorem OwnR.ty {w : World} {B k n c : Nat} {e : TypeId} {A : Option Addr} {vs : List Value} (h : OwnR w B e k A n c vs) {q : Nat} (hq : (Value.slice A n c).ownBlock = some q) : ∃ cur z, w.heap[q]? = some (.cells cur e z) := by
 rcases h.1.2 with ⟨h0, _⟩ | ⟨g, cap, cur, hv, _, hg, _⟩
 ·rw [h0] at hq; cases hq
 ·rw [hv] at hq
  have : g = q := by simpa [Value.ownBlock] using hq
  subst this
  exact ⟨cur, _, hg⟩
theorem OwnR.far {w : World} {B k n c b : Nat} {e T : TypeId} {A : Option Addr} {vs : List Value} {cs : Array Value} (h : OwnR w B e k A n c vs) (hb : Blk w b cs T) (hne : e ≠ T) (j : Nat) (v : Value) : OwnR (w.setCell ⟨b, j, none⟩ v) B e k A n c vs :=
 h.kept (hb.grows j v) fun q hq e' => by
  obtain ⟨cur, z, h1⟩ := h.ty hq
  injection e' with e'
  subst e'
  have h2 : w.heap[b]? = some (.cells cs T (0, 0)) := hb
  rw [h1] at h2
  injection h2 with h2
  injection h2 with _ h2 _
  exact hne h2
theorem Own.r {w : World} {B n c : Nat} {A : Option Addr} {xs : List Int} (h : Own w B A n c xs) : OwnR w B 3 1 A n c (IV xs) := h
def Mut (B0 : Nat) (w : World) (k : Nat) : Prop := B0 ≤ k ∧ ∃ cs z T, w.heap[k]? = some (.cells cs T z) ∧ (T = 62 ∨ T = 52)
def KeptT (B0 : Nat) (w w' : World) : Prop := Kept w w' (Mut B0 w)
theorem KeptT.trans {B0 : Nat} {a b c : World} (h : KeptT B0 a b) (k : KeptT B0 b c) : KeptT B0 a c := by
 refine ⟨k.os.trans h.os, k.tape.trans h.tape, k.output.trans h.output, Nat.le_trans h.size k.size, fun i hi hn => ?_⟩
 have e := h.block i hi hn
 refine (k.block i (Nat.lt_of_lt_of_le hi h.size) ?_).trans e
 rintro ⟨h0, cs, z, T, h1, h2⟩
 exact hn ⟨h0, cs, z, T, by rw [← e]; exact h1, h2⟩
theorem KeptT.below {B0 : Nat} {a b : World} (h : KeptT B0 a b) (hB : B0 ≤ a.heap.size) : Below B0 a b := Kept.below h hB fun _ q => q.1
theorem KeptT.of_below {B0 : Nat} {a b : World} (h : Below a.heap.size a b) : KeptT B0 a b := ⟨h.os, h.tape, h.output, h.size, fun i hi _ => h.block i hi⟩
theorem KeptT.set {B0 : Nat} {w : World} {tb : Nat} {cs : Array Value} (hb : Blk w tb cs 62) (hB : B0 ≤ tb) (j : Nat) (v : Value) : KeptT B0 w (w.setCell ⟨tb, j, none⟩ v) :=
 (Kept.of_grown (hb.grows j v)).mono fun k _ e => by injection e with e; subst e; exact ⟨hB, _, _, _, hb, .inl rfl⟩
theorem Blk.keptT {B0 : Nat} {w w' : World} {b : Nat} {cs : Array Value} {T : TypeId} (h : Blk w b cs T) (hk : KeptT B0 w w') (h1 : T ≠ 62) (h2 : T ≠ 52) : Blk w' b cs T := by
 refine h.keep (hk.block b h.lt ?_)
 rintro ⟨_, cs', z, T', e, ht⟩
 have h3 : w.heap[b]? = some (.cells cs T (0, 0)) := h
 rw [h3] at e
 injection e with e
 injection e with _ e _
 subst e
 rcases ht with ht | ht
 ·exact h1 ht
 ·exact h2 ht
def Tab (B0 : Nat) (w : World) (tb : Nat) (bs ds : List Int) (ts : List Tl) : Prop :=
 B0 ≤ tb ∧ ∃ Ab nb cb A c A' c' At nt ct, Blk w tb #[.slice Ab nb cb, .slice A 4 c, .slice A' 4 c', .slice At nt ct] 62 ∧ Own w B0 Ab nb cb bs ∧ Own w B0 A 4 c (HiL ds) ∧ Own w B0 A' 4 c' (LoL ds) ∧ OwnT w B0 At nt ct ts
theorem Tab.next {B0 : Nat} {w w' : World} {tb : Nat} {bs ds : List Int} {ts : List Tl} (h : Tab B0 w tb bs ds ts) (hb : Below w.heap.size w w') : Tab B0 w' tb bs ds ts := by
 obtain ⟨hB, Ab, nb, cb, A, c, A', c', At, nt, ct, h0, h1, h2, h3, h4⟩ := h
 exact ⟨hB, Ab, nb, cb, A, c, A', c', At, nt, ct, h0.next hb, h1.r.next hb, h2.r.next hb, h3.r.next hb, h4.next hb⟩
theorem Tab.alloc {B0 : Nat} {w : World} {tb : Nat} {bs ds : List Int} {ts : List Tl} (h : Tab B0 w tb bs ds ts) (o : Obj) : Tab B0 (w.alloc o) tb bs ds ts := h.next ((Below.refl _ _).alloc (Nat.le_refl _) o)
theorem Tab.far {B0 : Nat} {w : World} {tb b : Nat} {bs ds : List Int} {ts : List Tl} {cs : Array Value} {T : TypeId} (h : Tab B0 w tb bs ds ts) (hb : Blk w b cs T) (h1 : T ≠ 62) (h2 : T ≠ 52) (h3 : T ≠ 3) (j : Nat) (v : Value) : Tab B0 (w.setCell ⟨b, j, none⟩ v) tb bs ds ts := by
 obtain ⟨hB, Ab, nb, cb, A, c, A', c', At, nt, ct, g0, g1, g2, g3, g4⟩ := h
 refine ⟨hB, Ab, nb, cb, A, c, A', c', At, nt, ct, g0.other ?_ v, g1.r.far hb h3.symm j v, g2.r.far hb h3.symm j v, g3.r.far hb h3.symm j v, g4.far hb h2.symm j v⟩
 intro e
 simp only at e
 subst e
 have e1 : w.heap[tb]? = some (.cells _ _ (0, 0)) := g0
 have e2 : w.heap[tb]? = some (.cells cs T (0, 0)) := hb
 rw [e1] at e2
 injection e2 with e2
 injection e2 with _ e2 _
 exact h1 e2.symm
theorem Tab.setBoard {B0 : Nat} {w : World} {tb nb cb : Nat} {bs bs' ds : List Int} {ts : List Tl} {Ab : Option Addr} (h : Tab B0 w tb bs ds ts) (hb : Own w B0 Ab nb cb bs') : Tab B0 (w.setCell ⟨tb, 0, none⟩ (.slice Ab nb cb)) tb bs' ds ts := by
 obtain ⟨hB, Ab0, nb0, cb0, A, c, A', c', At, nt, ct, g0, g1, g2, g3, g4⟩ := h
 exact ⟨hB, Ab, nb, cb, A, c, A', c', At, nt, ct, g0.set 0 _, hb.r.far g0 (by decide) _ _, g2.r.far g0 (by decide) _ _, g3.r.far g0 (by decide) _ _, g4.far g0 (by decide) _ _⟩
theorem Tab.setFrame {B0 : Nat} {w : World} {tb c c' : Nat} {bs ds ds' : List Int} {ts : List Tl} {A A' : Option Addr} (h : Tab B0 w tb bs ds ts) (h1 : Own w B0 A 4 c (HiL ds')) (h2 : Own w B0 A' 4 c' (LoL ds')) :
  Tab B0 ((w.setCell ⟨tb, 1, none⟩ (.slice A 4 c)).setCell ⟨tb, 2, none⟩ (.slice A' 4 c')) tb bs ds' ts := by
 obtain ⟨hB, Ab, nb, cb, A0, c0, A0', c0', At, nt, ct, g0, g1, g2, g3, g4⟩ := h
 have k0 := g0.set 1 (.slice A 4 c)
 exact ⟨hB, Ab, nb, cb, A, c, A', c', At, nt, ct, k0.set 2 _, (g1.r.far g0 (by decide) _ _).far k0 (by decide) _ _, (h1.r.far g0 (by decide) _ _).far k0 (by decide) _ _, (h2.r.far g0 (by decide) _ _).far k0 (by decide) _ _, (g4.far g0 (by decide) _ _).far k0 (by decide) _ _⟩
theorem Tab.setTallies {B0 : Nat} {w : World} {tb nt ct : Nat} {bs ds : List Int} {ts ts' : List Tl} {At : Option Addr} (h : Tab B0 w tb bs ds ts) (ht : OwnT w B0 At nt ct ts') : Tab B0 (w.setCell ⟨tb, 3, none⟩ (.slice At nt ct)) tb bs ds ts' := by
 obtain ⟨hB, Ab, nb, cb, A, c, A', c', At0, nt0, ct0, g0, g1, g2, g3, g4⟩ := h
 exact ⟨hB, Ab, nb, cb, A, c, A', c', At, nt, ct, g0.set 3 _, g1.r.far g0 (by decide) _ _, g2.r.far g0 (by decide) _ _, g3.r.far g0 (by decide) _ _, ht.far g0 (by decide) _ _⟩
def CmdPost (B0 : Nat) (Q : ByteArray → Bool → World → Prop) (w : World) (e : Ending) (w' : World) : Prop :=
 ∃ s ok, e = .returned (.tuple #[.string s, .bool ok]) ∧ Q s ok w' ∧ KeptT B0 w w'
end Go.Proofs.YthdoofmfigemoaaGreatDoor
section
namespace Go.Proofs.YthdoofmfigemoaaGreatDoor.Bd
def full (b : Bool) : Int := if b then 5 else 2
def V : Bool → List Int → Int
 | _, [] => 0
 | b, x :: xs => x + full b * V (!b) xs
def D : Bool → Nat → Int → List Int
 | _, 0, _ => []
 | b, n + 1, v => v % full b :: D (!b) n (v / full b)
def allIn (xs : List Int) : Bool := xs.all fun x => decide (0 ≤ x) && decide (x ≤ 20)
def okB (xs : List Int) : Bool := (xs.length == 10) && allIn xs
def P : Bool → Nat → Int
 | _, 0 => 1
 | b, n + 1 => full b * P (!b) n
theorem full_cases (b : Bool) : full b = 5 ∨ full b = 2 := by cases b <;> simp [full]
theorem full_pos (b : Bool) : 0 < full b := by rcases full_cases b with h | h <;> omega
theorem okB_iff (xs : List Int) : okB xs = true ↔ xs.length = 10 ∧ ∀ x ∈ xs, 0 ≤ x ∧ x ≤ 20 := by simp [okB, allIn]
theorem D_length (n : Nat) : ∀ b v, (D b n v).length = n := by
 induction n with
 | zero => intro b v; rfl
 | succ n ih => intro b v; simp [D, ih]
theorem D_range (n : Nat) : ∀ b v, ∀ x ∈ D b n v, 0 ≤ x ∧ x ≤ 20 := by
 induction n with
 | zero => intro b v x hx; simp [D] at hx
 | succ n ih =>
  intro b v x hx
  rcases List.mem_cons.1 hx with rfl | h
  ·have h1 : 0 ≤ v % full b := Int.emod_nonneg v (by have := full_pos b; omega)
   have h2 := Int.emod_lt_of_pos v (full_pos b)
   rcases full_cases b with h | h <;> rw [h] at h1 h2 ⊢ <;> omega
  ·exact ih _ _ x h
theorem okB_D (v : Int) : okB (D true 10 v) = true := (okB_iff _).2 ⟨D_length _ _ _, D_range _ _ _⟩
def worth : Nat → Int
 | 0 => 1
 | p + 1 => worth p * (if p % 2 = 0 then 5 else 2)
def grp (p : Nat) : Int := if p % 2 = 0 then 5 else 2
def nthG : Bool → Nat → Int
 | b, 0 => full b
 | b, p + 1 => nthG (!b) p
theorem nthG_par (p : Nat) : ∀ b, nthG b p = if (p % 2 = 0) = (b = true) then 5 else 2 := by
 induction p with
 | zero => intro b; cases b <;> simp [nthG, full]
 | succ p ih => intro b; rw [nthG, ih]; rcases Nat.mod_two_eq_zero_or_one p with h | h <;> cases b <;> simp [h, Nat.add_mod]
theorem nthG_grp (p : Nat) : nthG true p = grp p := by rw [nthG_par]; simp [grp]
def W : Bool → Nat → Int
 | _, 0 => 1
 | b, p + 1 => full b * W (!b) p
theorem W_succ (p : Nat) : ∀ b, W b (p + 1) = W b p * nthG b p := by
 induction p with
 | zero => intro b; simp [W, nthG]
 | succ p ih => intro b; rw [W, ih, W, nthG, Int.mul_assoc]
theorem W_worth (p : Nat) : W true p = worth p := by
 induction p with
 | zero => rfl
 | succ p ih => rw [W_succ, ih, nthG_grp]; rfl
def move (xs : List Int) (p : Nat) (n m : Int) : List Int := (xs.set p (xs.getD p 0 + n)).set (p + 1) ((xs.set p (xs.getD p 0 + n)).getD (p + 1) 0 + m)
theorem move_length (xs : List Int) (p : Nat) (n m : Int) : (move xs p n m).length = xs.length := by simp [move]
theorem worth_range : ∀ k, k ≤ 10 → 1 ≤ worth k ∧ worth k ≤ 100000 := by decide
theorem worth_succ (k : Nat) : worth (k + 1) = worth k * grp k := rfl
theorem grp_cases (k : Nat) : grp k = 5 ∨ grp k = 2 := by unfold grp; split <;> simp
theorem V_snoc (l : List Int) (x : Int) : ∀ b, V b (l ++ [x]) = V b l + x * W b l.length := by
 induction l with
 | nil => intro b; simp [V, W]
 | cons y ys ih =>
  intro b
  simp only [List.cons_append, V, ih, List.length_cons, W, Int.mul_add]
  rw [Int.mul_left_comm]
  omega
theorem take_next {xs : List Int} {k : Nat} {u : Int} (h : xs[k]? = some u) : xs.take (k + 1) = xs.take k ++ [u] := by rw [List.take_add_one, h]; rfl
theorem V_take {xs : List Int} {k : Nat} {u : Int} (h : xs[k]? = some u) : V true (xs.take (k + 1)) = V true (xs.take k) + u * worth k := by
 have hk := (List.getElem?_eq_some_iff.1 h).1
 rw [take_next h, V_snoc, List.length_take, show min k xs.length = k from by omega, W_worth]
theorem term_range {u : Int} {k : Nat} (h0 : 0 ≤ u) (h1 : u ≤ 20) (hk : k ≤ 10) : 0 ≤ u * worth k ∧ u * worth k ≤ 2000000 := by
 obtain ⟨w0, w1⟩ := worth_range k hk
 have a := Int.mul_nonneg h0 (by omega : 0 ≤ worth k)
 have b : u * worth k ≤ 20 * worth k := Int.mul_le_mul_of_nonneg_right h1 (by omega)
 omega
theorem V_take_range {xs : List Int} (hx : ∀ x ∈ xs, 0 ≤ x ∧ x ≤ 20) : ∀ k, k ≤ 10 → k ≤ xs.length → 0 ≤ V true (xs.take k) ∧ V true (xs.take k) ≤ 2000000 * k := by
 intro k
 induction k with
 | zero => intro _ _; simp [V]
 | succ k ih =>
  intro h1 h2
  have hu : xs[k]? = some xs[k] := List.getElem?_eq_getElem (by omega)
  have := ih (by omega) (by omega)
  have hm := hx xs[k] (List.getElem_mem _)
  have := term_range hm.1 hm.2 (by omega : k ≤ 10)
  rw [V_take hu]
  omega
theorem D_get (n : Nat) : ∀ b v (k : Nat), 0 ≤ v → k < n → (D b n v)[k]? = some (v / W b k % nthG b k) := by
 induction n with
 | zero => intro b v k _ h; omega
 | succ n ih =>
  intro b v k h0 h
  cases k with
  | zero => simp [D, W, nthG]
  | succ k =>
   rw [D, List.getElem?_cons_succ, ih _ _ k (Int.ediv_nonneg h0 (by have := full_pos b; omega)) (by omega), W, nthG, Int.ediv_ediv_of_nonneg (by have := full_pos b; omega)]
theorem dig_down (v : Int) (k : Nat) (hk : k < 10) : (v % worth (k + 1)) / worth k = v / worth k % grp k ∧ (v % worth (k + 1)) % worth k = v % worth k := by
 have hw := worth_range k (by omega)
 rw [worth_succ]
 refine ⟨?_, ?_⟩
 ·rw [Int.emod_def v (worth k * grp k), Int.mul_assoc, Int.sub_eq_add_neg, ← Int.mul_neg, Int.add_mul_ediv_left _ _ (by omega), ← Int.ediv_ediv_of_nonneg (by omega), Int.emod_def]
  omega
 ·exact Int.emod_emod_of_dvd v (Int.dvd_mul_right _ _)
theorem D10_get (v : Int) (k : Nat) (h0 : 0 ≤ v) (hk : k < 10) : (D true 10 v)[k]? = some (v / worth k % grp k) := by
 rw [D_get 10 true v k h0 hk, W_worth, nthG_grp]
end Go.Proofs.YthdoofmfigemoaaGreatDoor.Bd
end
section
namespace Go.Proofs.YthdoofmfigemoaaGreatDoor.Bd
def raiseL (xs : List Int) (p : Nat) : List Int := move xs p (0 - grp p) 1
def addL : List Int → List Int → List Int
 | x :: xs, y :: ys => (x + y) :: addL xs ys
 | _, _ => []
theorem move_eq {xs : List Int} {p : Nat} {u v : Int} (n m : Int) (hu : xs[p]? = some u) (hv : xs[p + 1]? = some v) : move xs p n m = (xs.set p (u + n)).set (p + 1) (v + m) := by
 unfold move
 have e1 : xs.getD p 0 = u := by rw [List.getD_eq_getElem?_getD, hu]; rfl
 have e2 : (xs.set p (u + n)).getD (p + 1) 0 = v := by
  rw [List.getD_eq_getElem?_getD, List.getElem?_set_ne (by omega), hv]; rfl
 rw [e1, e2]
theorem raiseL_eq {xs : List Int} {p : Nat} {u v : Int} (hu : xs[p]? = some u) (hv : xs[p + 1]? = some v) : raiseL xs p = (xs.set p (u - grp p)).set (p + 1) (v + 1) := by
 unfold raiseL
 rw [move_eq _ _ hu hv]
 congr 2
 omega
theorem raiseL_length (xs : List Int) (p : Nat) : (raiseL xs p).length = xs.length := move_length _ _ _ _
theorem addL_length (xs : List Int) : ∀ ys, xs.length = ys.length → (addL xs ys).length = xs.length := by
 induction xs with
 | nil => intro ys _; rfl
 | cons x xs ih =>
  intro ys h
  cases ys with
  | nil => simp at h
  | cons y ys => simp [addL, ih ys (by simpa using h)]
theorem addL_get (xs : List Int) : ∀ (ys : List Int) (k : Nat) (u v : Int), xs[k]? = some u → ys[k]? = some v → (addL xs ys)[k]? = some (u + v) := by
 induction xs with
 | nil => intro ys k u v h _; simp at h
 | cons x xs ih =>
  intro ys k u v h h'
  cases ys with
  | nil => simp at h'
  | cons y ys =>
   cases k with
   | zero => simp at h h'; subst h h'; rfl
   | succ k => exact ih ys k u v (by simpa using h) (by simpa using h')
theorem lay_next {xs ys : List Int} {k : Nat} {u v : Int} (hl : xs.length = ys.length) (hu : xs[k]? = some u) (hv : ys[k]? = some v) :
  ((addL xs ys).take k ++ xs.drop k).set k (u + v) = (addL xs ys).take (k + 1) ++ xs.drop (k + 1) := by
 have hk := (List.getElem?_eq_some_iff.1 hu).1
 have hla := addL_length xs ys hl
 rw [take_next (addL_get xs ys k u v hu hv), List.drop_eq_getElem_cons hk, List.set_append_right _ _ (by rw [List.length_take]; omega), List.length_take,
  show k - min k (addL xs ys).length = 0 from by omega, List.set_cons_zero, List.append_assoc]
 rfl
theorem lay_at {xs ys : List Int} {k : Nat} {u : Int} (hl : xs.length = ys.length) (hu : xs[k]? = some u) : ((addL xs ys).take k ++ xs.drop k)[k]? = some u := by
 have hk := (List.getElem?_eq_some_iff.1 hu).1
 have hla := addL_length xs ys hl
 rw [List.getElem?_append_right (by rw [List.length_take]; omega), List.length_take, show k - min k (addL xs ys).length = 0 from by omega, List.getElem?_drop]
 exact hu
end Go.Proofs.YthdoofmfigemoaaGreatDoor.Bd
end
namespace Go.Proofs.YthdoofmfigemoaaGreatDoor
open Go.RowKit
def fitB (xs : List Int) : Bool := xs.all fun x => decide (0 ≤ x) && decide (x ≤ 20)
def BoardPost (w : World) (ok : Bool) (xs : List Int) (e : Ending) (w' : World) : Prop :=
 (∃ A n c, e = .returned (.tuple #[.slice A n c, .bool ok]) ∧ Own w' w.heap.size A n c (if ok then xs else [])) ∧ Below w.heap.size w w'
def okV (v : Int) : Bool := decide (0 ≤ v) && decide (v ≤ 99999)
def bVal (xs : List Int) : Int := if Bd.okB xs then Bd.V true xs else -1
def redOK (xs : List Int) : Bool := Bd.okB xs && okV (Bd.V true xs)
def redL (xs : List Int) : List Int := Bd.D true 10 (Bd.V true xs)
def raiseOK (xs : List Int) (p : Int) : Bool := Bd.okB xs && decide (0 ≤ p) && decide (p < 9) && fitB (Bd.raiseL xs p.toNat)
def layOK (xs ys : List Int) : Bool := Bd.okB xs && Bd.okB ys && fitB (Bd.addL xs ys)
theorem quiet_same {P : Program} {f : FuncId} {args : Array Value} {w : World} {n : Nat} {v : Value}
  (h : Calls P f args (w.drewN n) fun e w' => e = .returned v ∧ w.drewN n = w') : Calls P f args (w.drewN n) fun e w'' => e = .returned v ∧ ∃ m, w'' = w.drewN m :=
 h.mono fun _ _ ⟨he, hm⟩ => ⟨he, n, hm.symm⟩
def AV (xs : List Int) : Array Value := (IV xs).toArray
theorem AV_size (xs : List Int) : (AV xs).size = xs.length := by simp [AV, IV]
theorem AV_get {xs : List Int} {k : Nat} {u : Int} (h : xs[k]? = some u) : (AV xs)[k]? = some (.int .i64 u) := by simp [AV, IV, h]
theorem AV_set (xs : List Int) (k : Nat) (u : Int) : (AV xs).setIfInBounds k (.int .i64 u) = AV (xs.set k u) := by
 simp [AV, IV, List.map_set]
theorem ten_info : (Tryz.prog.info? 93).map (·.size) = some 10 := by kernel_rfl
theorem int_info : (Tryz.prog.info? 3).map (fun i => (i.zero, i.size, i.bytes)) = some (some (.int .i64 0), 1, 8) := by kernel_rfl
theorem run_index_ten (xs : List Int) (k : Nat) (u : Int) (hl : xs.length = 10) (h : xs[k]? = some u) (w : World) :
  (Instr.index 93 (.agg (AV xs)) (.int .i64 (k : Int))).run Tryz.prog w = .ok (.int .i64 u) w := by
 have hk : k < 10 := by have := (List.getElem?_eq_some_iff.1 h).1; omega
 obtain ⟨i0, hi, hz0, hz1, hz2⟩ := info_parts int_info
 have hk' : 0 ≤ (k : Int) ∧ (k : Int) < ((10 : Nat) : Int) := by omega
 have hg := AV_get h
 simp [Instr.index, run_underlying Tryz.underlying93, asIntOf, go_sem, part, sizeOf, typeInfo, hi, hz1, hg]
 omega
theorem wpList_load_ten {ops : Array Oper} {rest : List Oper} {o : Oper} {a : Act} {w : World} {Q : Exit → Act → World → Prop} (hgd : o.guard = none) (x : Operand)
  (ho : o.op = .load 93 x) (g : Nat) (hx : a.eval x = .pointer (some ⟨g, 0, none⟩)) (t : TypeId) (xs : List Int) (fr : Nat × Nat)
  (hg : w.heap[g]? = some (.cells (AV xs) t fr)) (hl : xs.length = 10)
  (h : wpList Tryz.prog ops Q rest (a.put o.dst (.agg (AV xs))) w) : wpList Tryz.prog ops Q (o :: rest) a w :=
 wpList_load_row hgd _ x ho g hx t (AV xs) fr _ hg Tryz.underlying93 rfl (by rw [AV_size, hl]; exact ten_info) h
theorem run_storeVar_ten (w : World) (g : Nat) (t : TypeId) (cur : Array Value) (xs : List Int) (hg : w.heap[g]? = some (.cells cur t (0, 0))) (hc : cur.size = 10) (hl : xs.length = 10) :
  (storeVar 93 ⟨g, 0, none⟩ (.agg (AV xs))).run Tryz.prog w = .ok () (w.setRow g (AV xs)) := by
 have h := run_storeCells_from (P := Tryz.prog) g t (IV xs) 0 cur w hg (by rw [IV_length]; omega) (IV_one xs)
 have e : (cur.toList.take 0 ++ IV xs).toArray = AV xs := by simp [AV]
 rw [e] at h
 have e2 : (AV xs).toList = IV xs := by simp [AV]
 simp [storeVar, Sem.run_bind, e2, h, go_sem, AV_size, hl]
theorem wpList_store_ten {ops : Array Oper} {rest : List Oper} {o : Oper} {a : Act} {w : World} {Q : Exit → Act → World → Prop} (hgd : o.guard = none) (hdst : o.dst = none) (p x : Operand)
  (ho : o.op = .store 93 p x) (g : Nat) (hp : a.eval p = .pointer (some ⟨g, 0, none⟩)) (t : TypeId) (cur : Array Value) (xs : List Int)
  (hx : a.eval x = .agg (AV xs)) (hg : w.heap[g]? = some (.cells cur t (0, 0))) (hc : cur.size = 10) (hl : xs.length = 10) (w' : World) (hw : w.setRow g (AV xs) = w')
  (h : wpList Tryz.prog ops Q rest a w') : wpList Tryz.prog ops Q (o :: rest) a w := by
 subst hw
 refine wpList_plain hgd fun K hK => ?_
 unfold Oper.wp execOp
 simp only [ho, hp, hx, Instr.storeAt, Instr.sureAddr, Sem.run_bind, Sem.run_pure, Result.andThen_ok, run_storeVar_ten w g t cur xs hg hc hl]
 refine hK _ _ ?_
 rw [hdst]
 exact h
theorem fitB_iff (xs : List Int) : fitB xs = true ↔ ∀ x ∈ xs, 0 ≤ x ∧ x ≤ 20 := by simp [fitB]
theorem fitB_no {xs : List Int} {k : Nat} {u : Int} (h : xs[k]? = some u) (hu : u < 0 ∨ 20 < u) : fitB xs = false := by
 cases hb : fitB xs with
 | false => rfl
 | true => have := (fitB_iff xs).1 hb u (List.mem_of_getElem? h); omega
theorem fitB_take {xs : List Int} {n : Nat} (hl : xs.length = n) (h : ∀ x ∈ xs.take n, 0 ≤ x ∧ x ≤ 20) : fitB xs = true := by
 rw [List.take_of_length_le (by omega)] at h
 exact (fitB_iff xs).2 h
theorem fits_any (xs : List Int) (hl : xs.length = 10) (w : World) :
  Calls Tryz.prog 108 #[.agg (AV xs)] w fun e w' => e = .returned (.bool (fitB xs)) ∧ w.alloc (.cells (AV xs) 93) = w' := by
 have HL := Hd hl
 have idx := fun (k : Nat) (u : Int) (h : xs[k]? = some u) => run_index_ten xs k u hl h
 have IDX := Hd idx
 clear idx
 go_enter Tryz.func108, Tryz.ntmps108
 go_wp2_with (refine wpList_load_ten rfl _ rfl _ rfl _ xs _ (heap_alloc_new w _) hl ?_)
 go_loop [4, 6] (fun v i => ∃ k : Nat, k ≤ 10 ∧ i = .int .i64 k ∧ ∀ x ∈ xs.take k, 0 ≤ x ∧ x ≤ 20) (fun _ i => 10 - (intOf i).toNat)
 case atStart => exact ⟨0, by omega, rfl, by simp⟩
 case round =>
  obtain ⟨k, hk, rfl, hin⟩ := hrel
  have HIN := Hd hin
  clear hin
  by_cases hlt : k < 10
  ·obtain ⟨u, hu⟩ : ∃ u, xs[k]? = some u := ⟨xs[k]'(by have := HL.out; omega), List.getElem?_eq_getElem (by have := HL.out; omega)⟩
   have HU := Hd hu
   have hi := IDX.out k u hu
   clear hu
   by_cases h1 : u < 0
   ·go_wp2
    go_ret
    exact ⟨ret_bool (fitB_no HU.out (.inl h1)).symm, rfl⟩
   ·by_cases h2 : 20 < u
    ·go_wp2
     go_ret
     exact ⟨ret_bool (fitB_no HU.out (.inr h2)).symm, rfl⟩
    ·go_wp2
     go_round
     case rel => exact ⟨k + 1, by omega, by go_num, by rw [take_next HU.out]; intro x hx; rcases List.mem_append.1 hx with h | h; exact HIN.out x h; simp at h; omega⟩
     case measure => simp [intOf]; omega
  ·go_wp2
   go_ret
   obtain rfl : k = 10 := by omega
   exact ⟨ret_bool (fitB_take HL.out HIN.out).symm, rfl⟩
theorem fullAt_any (k : Nat) (hk : k ≤ 1000) (w : World) : Calls Tryz.prog 143 #[.int .i64 (k : Int)] w fun e w' => e = .returned (.int .i64 (Bd.grp k)) ∧ w = w' := by
 rcases Nat.mod_two_eq_zero_or_one k with h | h
 ·have h1 : ((k : Int) % 2 == 0) = true := by simp; omega
  go_enter Tryz.func143, Tryz.ntmps143
  go_wp2
  go_ret
  exact ⟨ret_int (by simp [Bd.grp, h]), rfl⟩
 ·have h1 : ((k : Int) % 2 == 0) = false := by simp; omega
  go_enter Tryz.func143, Tryz.ntmps143
  go_wp2
  go_ret
  exact ⟨ret_int (by simp [Bd.grp, h]), rfl⟩
theorem worthAt_any (k : Nat) (hk : k ≤ 10) (w : World) : Calls Tryz.prog 107 #[.int .i64 (k : Int)] w fun e w' => e = .returned (.int .i64 (Bd.worth k)) ∧ w = w' := by
 go_enter Tryz.func107, Tryz.ntmps107
 go_wp2
 go_loop [3, 4] (fun t i => ∃ p : Nat, p ≤ k ∧ i = .int .i64 p ∧ t = .int .i64 (Bd.worth p)) (fun _ i => k - (intOf i).toNat)
 case atStart => exact ⟨0, by omega, rfl, rfl⟩
 case round =>
  obtain ⟨p, hp, rfl, rfl⟩ := hrel
  by_cases hlt : p < k
  ·have hw := Bd.worth_range (p + 1) (by omega)
   have hs := Bd.worth_succ p
   rw [hs] at hw
   have HS := Hd hs
   obtain ⟨hw1, hw2⟩ := hw
   clear hs
   go_wp2_with (go_at_call 143; refine (fullAt_any _ (by omega) _).mono ?_; rintro e w' ⟨rfl, rfl⟩)
   go_round
   case rel => exact ⟨p + 1, by omega, by go_num, by rw [HS.out]⟩
   case measure => simp [intOf]; omega
  ·go_wp2
   go_ret
   obtain rfl : p = k := by omega
   exact ⟨rfl, rfl⟩
theorem value_any (xs : List Int) (hl : xs.length = 10) (hx : ∀ x ∈ xs, 0 ≤ x ∧ x ≤ 20) (w : World) :
  Calls Tryz.prog 96 #[.agg (AV xs)] w fun e w' => e = .returned (.int .i64 (Bd.V true xs)) ∧ w.alloc (.cells (AV xs) 93) = w' := by
 have HL := Hd hl
 have HX := Hd hx
 have idx := fun (k : Nat) (u : Int) (h : xs[k]? = some u) => run_index_ten xs k u hl h
 have IDX := Hd idx
 clear idx hx
 go_enter Tryz.func96, Tryz.ntmps96
 go_wp2_with (refine wpList_load_ten rfl _ rfl _ rfl _ xs _ (heap_alloc_new w _) hl ?_)
 go_loop [3, 4, 5, 7] (fun s _ _ i => ∃ k : Nat, k ≤ 10 ∧ i = .int .i64 k ∧ s = .int .i64 (Bd.V true (xs.take k))) (fun _ _ _ i => 10 - (intOf i).toNat)
 case atStart => exact ⟨0, by omega, rfl, rfl⟩
 case round =>
  obtain ⟨k, hk, rfl, rfl⟩ := hrel
  by_cases hlt : k < 10
  ·obtain ⟨u, hu⟩ : ∃ u, xs[k]? = some u := ⟨xs[k]'(by have := HL.out; omega), List.getElem?_eq_getElem (by have := HL.out; omega)⟩
   have hm := HX.out u (List.mem_of_getElem? hu)
   have HV := Hd (Bd.V_take hu)
   have hi := IDX.out k u hu
   obtain ⟨t0, t1⟩ := Bd.term_range hm.1 hm.2 hk
   obtain ⟨v0, v1⟩ := Bd.V_take_range HX.out k hk (by have := HL.out; omega)
   clear hu hm
   generalize Bd.V true (xs.take k) = v at *
   go_wp2_with (go_at_call 107; refine (worthAt_any _ (by omega) _).mono ?_; rintro e w' ⟨rfl, rfl⟩)
   go_round
   case rel => exact ⟨k + 1, by omega, by go_num, by rw [HV.out]⟩
   case measure => simp [intOf]; omega
  ·go_wp2
   go_ret
   obtain rfl : k = 10 := by omega
   exact ⟨ret_int (by rw [List.take_of_length_le (by have := HL.out; omega)]), rfl⟩
theorem list_any (xs : List Int) (hl : xs.length = 10) (w : World) :
  Calls Tryz.prog 66 #[.agg (AV xs)] w fun e w' => (∃ A c, e = .returned (.slice A 10 c) ∧ Own w' w.heap.size A 10 c xs) ∧ Below w.heap.size w w' := by
 have HL := Hd hl
 have idx := fun (k : Nat) (u : Int) (h : xs[k]? = some u) => run_index_ten xs k u hl h
 have IDX := Hd idx
 clear idx
 have hal := heap_alloc_new w (.cells (AV xs) 93)
 have HA := Hd hal
 clear hal
 go_enter Tryz.func66, Tryz.ntmps66
 go_wp2_with (first
  | (refine wpList_make_room rfl _ _ rfl (B := w.heap.size) (n := 10) _ rfl rfl rfl (by omega) (by simp) ?_; intro w1 hown hg)
  | (refine wpList_load_ten rfl _ rfl _ rfl _ xs _ ((hg.block _ (by simp) (by simp)).trans HA.out) hl ?_))
 go_loopw [3, 5, 8] (fun v _ i wr => ∃ (k : Nat) (A : Option Addr) (c : Nat), k ≤ 10 ∧ i = .int .i64 k ∧ v = .slice A k c ∧ Own wr w.heap.size A k c (xs.take k) ∧ Below w.heap.size w wr) (fun _ _ i _ => 10 - (intOf i).toNat)
 case atStart => exact ⟨0, _, _, by omega, rfl, rfl, by simpa using hown, ((Below.refl _ _).alloc (Nat.le_refl _) _).grown hg (by simp) (by simp)⟩
 case round =>
  obtain ⟨k, A, c, hk, rfl, rfl, hown1, hbel⟩ := hrel
  by_cases hlt : k < 10
  ·obtain ⟨u, hu⟩ : ∃ u, xs[k]? = some u := ⟨xs[k]'(by have := HL.out; omega), List.getElem?_eq_getElem (by have := HL.out; omega)⟩
   have HU := Hd hu
   have hi := IDX.out k u hu
   clear hu
   have hB := hbel.size
   go_wp2_with (at_builtin; refine wpList_app rfl _ _ rfl rfl hown1 [u] 1 rfl _ rfl _ rfl (by omega) hB ?_; intro A1 c1 w2 hown2 hg2)
   have hbel2 := below_step hbel hg2 hown1 hB
   go_roundw
   case rel => exact ⟨k + 1, _, _, by omega, by go_num, rfl, by rw [take_next HU.out]; exact hown2, hbel2⟩
   case measure => simp [intOf]; omega
  ·go_wp2
   go_ret
   obtain rfl : k = 10 := by omega
   exact ⟨⟨_, _, rfl, by have := hown1; rwa [List.take_of_length_le (by have := HL.out; omega)] at this⟩, hbel⟩
theorem board_any (xs : List Int) (hl : xs.length = 10) (w : World) :
  Calls Tryz.prog 221 #[.agg (AV xs)] w (BoardPost w (fitB xs) xs) := by
 rcases hf : fitB xs with _ | _
 ·have HF := Hd hf
  go_enter Tryz.func221, Tryz.ntmps221
  go_wp2_with (first
   | (refine wpList_load_ten rfl _ rfl _ rfl _ xs _ (heap_alloc_new w _) hl ?_)
   | (go_at_call 108; refine (fits_any xs hl _).mono ?_; rintro e w' ⟨rfl, rfl⟩; rw [HF.out]))
  go_ret2
  exact ⟨⟨_, _, _, rfl, Own.nil _ _⟩, ((Below.refl _ _).alloc (Nat.le_refl _) _).alloc (by simp) _⟩
 ·have HF := Hd hf
  go_enter Tryz.func221, Tryz.ntmps221
  go_wp2_with (first
   | (refine wpList_load_ten rfl _ rfl _ rfl _ xs _ (heap_alloc_new w _) hl ?_)
   | (refine wpList_load_ten rfl _ rfl _ rfl _ xs _ (heap_alloc2_old w _ _) hl ?_)
   | (go_at_call 108; refine (fits_any xs hl _).mono ?_; rintro e w' ⟨rfl, rfl⟩; rw [HF.out])
   | (go_at_call 66; refine (list_any xs hl _).mono ?_; rintro e w' ⟨⟨A, c, rfl, hown⟩, hbel⟩))
  go_ret2
  exact ⟨⟨_, _, _, rfl, hown.mono (by simp; omega)⟩, (((Below.refl _ _).alloc (Nat.le_refl _) _).alloc (by simp) _).trans (hbel.mono (by simp; omega))⟩
end Go.Proofs.YthdoofmfigemoaaGreatDoor
