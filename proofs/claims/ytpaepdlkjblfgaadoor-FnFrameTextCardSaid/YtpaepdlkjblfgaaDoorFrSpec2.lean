/-
  A frame with another digit on a rod: l5Set of the reference.
-/
import Derived.Test.YtpaepdlkjblfgaaDoorFrSpec
import Derived.Deep.RegionHeld3
import Derived.Deep.RegionLawGrows
import Derived.Deep.DeepCutAuto
namespace Go.Proofs.YtpaepdlkjblfgaaDoor
open Go.RowKit

/-- what was there at W is there -/
def SB (W w : World) : Prop := Below W.heap.size W w
theorem SB.alloc {W w : World} (h : SB W w) (o : Obj) : SB W (w.alloc o) := Below.alloc h h.size o
theorem SB.drew {W w : World} (h : SB W w) : SB W w.drew := Below.drew h
theorem SB.grown {W w w' : World} (h : SB W w) (hg : w.grownBy w' none) : SB W w' := Below.grown h hg h.size (by simp)
theorem bgrown {w w1 : World} (hg : w.grownBy w1 none) : (∀ b o, b < w.heap.size → w1.cell? ⟨b, o, none⟩ = w.cell? ⟨b, o, none⟩) ∧ (∀ b o, b < w.heap.size → w1.frozen? ⟨b, o, none⟩ = w.frozen? ⟨b, o, none⟩) :=
  bcell ⟨hg.os, hg.tape, hg.output, hg.size, fun k hk => hg.block k hk (by simp)⟩
theorem size_drew_ (w : World) : w.drew.heap.size = w.heap.size := rfl
theorem SB.refl (W : World) : SB W W := Below.refl _ W

/-- append([]int{}, us...): a row of its own in a new block -/
theorem step_app_fresh {ops : Array Oper} {o : Oper} {a : Act} {w : World} {K : Act → World → Prop} {Q : Exit → Act → World → Prop} {E : Prop} (hgd : o.guard = none) (s x : Operand)
    (ho : o.op = .call { callee := .builtin .append, args := #[s, x], argTypes := #[23, 23] })
    {p : Addr} (hs : a.eval s = .slice (some p) 0 0) {B m c0 : Nat} {A : Option Addr} {us : List Int}
    (hx : a.eval x = .slice A m c0) (hr : Ints w B A m us) (hm : 0 < m)
    (h : ∀ g c' w', Own w' w.heap.size (some ⟨g, 0, none⟩) m c' us → w.grownBy w' none → K (a.put o.dst (.slice (some ⟨g, 0, none⟩) m c')) w') :
    if Region.wanted o (yielded ops a.tmps) = true then Oper.wp Tryd.prog o a w K Q else E := by
  obtain ⟨i0, hi, hz0, hz1, hz2⟩ := info_parts own_int_info
  have hl := hr.len
  have hb := hr.bound
  obtain ⟨b, off, rfl, hlt, hc⟩ := hr.addr hm
  refine step_append_grows hgd s x 23 ho 3 i0 (.int .i64 0) 1 8 Tryd.underlying23 hi hz0 hz1 hz2 rfl (by decide) (some p) 0 0 [] hs (by simp) rfl (by intro b _ j u hj; simp at hj)
    ⟨b, off, none⟩ m c0 (IV us) hx (by simp [IV, hl]) ?_ (IV_one us) (by omega) (by unfold maxLen; omega) (by omega) ?_
  · intro j u hj
    have hj' : (us.map (Value.int .i64))[j]? = some u := hj
    rw [List.getElem?_map] at hj'
    obtain ⟨z, hz, rfl⟩ := Option.map_eq_some_iff.1 hj'
    have e : (⟨b, off, none⟩ : Addr).add j = ⟨b, off + j, none⟩ := by unfold Addr.add; split <;> simp_all
    rw [e]
    exact hc j z hz
  · intro v' w' hown hg
    obtain ⟨A', c', rfl, h'⟩ := Own.of_app (xs := []) us rfl hown (by omega)
    simp only [Nat.zero_add, List.nil_append] at h'
    obtain ⟨g, rfl, _⟩ := h'.at_ hm
    simp only [Nat.zero_add]
    exact h g c' w' h' hg

theorem HiL_set (ds : List Int) (k : Nat) (x : Int) : HiL (ds.set k x) = (HiL ds).set k (x / 5) := by simp [HiL, List.map_set]
theorem LoL_set (ds : List Int) (k : Nat) (x : Int) : LoL (ds.set k x) = (LoL ds).set k (x % 5) := by simp [LoL, List.map_set]
theorem fill2 {wr : World} {B hi lo n c c' k : Nat} {xs ys : List Int} (oh : Own wr B (some ⟨hi, 0, none⟩) n c xs) (ol : Own wr B (some ⟨lo, 0, none⟩) n c' ys) (hne : hi ≠ lo) (u v : Int) :
    Own ((wr.setCell ⟨hi, k, none⟩ (.int .i64 u)).setCell ⟨lo, k, none⟩ (.int .i64 v)) B (some ⟨hi, 0, none⟩) n c (xs.set k u) ∧ Own ((wr.setCell ⟨hi, k, none⟩ (.int .i64 u)).setCell ⟨lo, k, none⟩ (.int .i64 v)) B (some ⟨lo, 0, none⟩) n c' (ys.set k v) := by
  have h1 := oh.store k u
  have h2 := (ol.kept h1.2 (by rintro j e1 e2; injection e1 with e1; injection e2 with e2; exact hne (e2.trans e1.symm))).store k v
  exact ⟨h1.1.kept h2.2 (by rintro j e1 e2; injection e1 with e1; injection e2 with e2; exact hne (e1.trans e2.symm)), h2.1⟩
/-- a new frame over two rows -/
def L5Q (W : World) (n : Nat) (xs ys : List Int) (s : Value) (wx : World) : Prop :=
  ∃ bx hi lo ch cl : Nat, s = .pointer (some ⟨bx, 0, none⟩) ∧ Box wx bx (.slice (some ⟨hi, 0, none⟩) n ch) (.slice (some ⟨lo, 0, none⟩) n cl) ∧
    Own wx W.heap.size (some ⟨hi, 0, none⟩) n ch xs ∧ Own wx W.heap.size (some ⟨lo, 0, none⟩) n cl ys ∧ hi ≠ lo ∧ bx ≠ hi ∧ bx ≠ lo ∧ W.heap.size ≤ bx ∧ Below W.heap.size W wx
theorem Own.block {w w' : World} {B g n c : Nat} {xs : List Int} (h : Own w B (some ⟨g, 0, none⟩) n c xs) (e : w'.heap[g]? = w.heap[g]?) : Own w' B (some ⟨g, 0, none⟩) n c xs := by
  refine ⟨⟨h.1.1, ?_⟩, h.2⟩
  rcases h.1.2 with ⟨h0, _⟩ | ⟨g', cap, cur, hv, h1, hg, rest⟩
  · cases h0
  · injection hv with e1 e2 e3
    injection e1 with e1
    injection e1 with e1
    subst e1
    subst e3
    exact .inr ⟨g, c, cur, rfl, h1, e.trans hg, rest⟩
theorem l5leafA {W w2 : World} {hi lo n ch cl : Nat} {xs ys : List Int} (h1 : Own w2 W.heap.size (some ⟨hi, 0, none⟩) n ch xs) (h2 : Own w2 W.heap.size (some ⟨lo, 0, none⟩) n cl ys) (hne : hi ≠ lo) (hb : SB W w2) :
    L5Q W n xs ys (.pointer (some ⟨w2.heap.size, 0, none⟩)) (w2.alloc (.cells #[.slice (some ⟨hi, 0, none⟩) n ch, .slice (some ⟨lo, 0, none⟩) n cl] 25)) := by
  have b1 := (h1.blk hi rfl).2
  have b2 := (h2.blk lo rfl).2
  exact ⟨_, hi, lo, ch, cl, rfl, Box.new w2 _ _, h1.alloc _, h2.alloc _, hne, by omega, by omega, Below.size hb, hb.alloc _⟩
theorem l5leafB {W w2 : World} {bx hi lo n ch cl : Nat} {xs ys : List Int} (h1 : Own w2 W.heap.size (some ⟨hi, 0, none⟩) n ch xs) (h2 : Own w2 W.heap.size (some ⟨lo, 0, none⟩) n cl ys) (hne : hi ≠ lo) (hb : SB W w2)
    (hbx : w2.heap[bx]? = some (.cells #[.slice none 0 0, .slice none 0 0] 25)) (h3 : bx ≠ hi) (h4 : bx ≠ lo) (h5 : W.heap.size ≤ bx) :
    L5Q W n xs ys (.pointer (some ⟨bx, 0, none⟩)) ((w2.setCell ⟨bx, 0, none⟩ (.slice (some ⟨hi, 0, none⟩) n ch)).setCell ⟨bx, 1, none⟩ (.slice (some ⟨lo, 0, none⟩) n cl)) := by
  refine ⟨bx, hi, lo, ch, cl, rfl, Box.over hbx _ _, h1.block ?_, h2.block ?_, hne, h3, h4, h5, below_over hb h5 _ _⟩
  · exact (heap_setCell_other _ _ hi _ (fun e => h3 e.symm)).trans (heap_setCell_other _ _ hi _ (fun e => h3 e.symm))
  · exact (heap_setCell_other _ _ lo _ (fun e => h4 e.symm)).trans (heap_setCell_other _ _ lo _ (fun e => h4 e.symm))

end Go.Proofs.YtpaepdlkjblfgaaDoor
