/-
  Joined texts: TaHeap, TaHeap2, FrPlain, FrMem, ExTab, ExLine, BdPlain, BdPlain2, Defs, Arr, BdArr, BdLay, BdRed, BdFns, BdFns2, BdFns3, BdFns4, ExCmd, FrAdd, FrRods, ExactKit.
-/
import Derived.Test.YthdoofmfigemoaaGreatDoorBase1
import Derived.Laws.OwnMore
import Derived.BigQuiet
import Derived.Deep.RegionHeld3
import Derived.Defers
import Derived.Recover
import Derived.Laws.Pointers
import Derived.Laws.Tables
import Derived.Laws.NewBlocks
import Derived.BigRegion
import Derived.Deep.RegionWith
import Derived.StillTailTactics

section
/-
  The heap of debts: its methods, and how they are found behind the interface.
-/
namespace Go.Proofs.YthdoofmfigemoaaGreatDoor
open Go.RowKit
set_option linter.unusedSimpArgs false

/-! one element of a row of debts set anew -/
theorem DV_cons (d : Db) (ds : List Db) : DV (d :: ds) = d.cells ++ DV ds := by simp [DV]
theorem DV_set : ∀ (ds : List Db) (i : Nat) (d : Db), i < ds.length → (((DV ds).set (i * 3) (.int .i64 d.a)).set (i * 3 + 1) (.int .i64 d.c)).set (i * 3 + 2) (.int .i64 d.v) = DV (ds.set i d)
  | [], _, _, h => by simp at h
  | x :: xs, 0, d, _ => by simp [DV_cons, Db.cells]
  | x :: xs, i + 1, d, h => by
    have ih := DV_set xs i d (by simpa using h)
    rw [List.set_cons_succ, DV_cons, DV_cons, ← ih]
    have e : ∀ j u l, (x.cells ++ l).set ((i + 1) * 3 + j) u = x.cells ++ l.set (i * 3 + j) u := fun j u l => by
      rw [List.set_append_right _ _ (by show 3 ≤ _; omega), show (i + 1) * 3 + j - x.cells.length = i * 3 + j from by show (i + 1) * 3 + j - 3 = _; omega]
    have e0 := e 0
    simp only [Nat.add_zero] at e0
    rw [e0, e 1, e 2]
theorem OwnD.blk_ {w : World} {B n c : Nat} {A : Option Addr} {ds : List Db} (h : OwnD w B A n c ds) (hn : 0 < n) : ∃ g cur, A = some ⟨g, 0, none⟩ ∧ B ≤ g ∧ Blk w g cur 123 ∧ n ≤ c := by
  rcases h.1.2 with ⟨_, h0⟩ | ⟨g, cap, cur, hv, hb, hg, hr⟩
  · omega
  · injection hv with e1 e2 e3
    subst e1
    subst e3
    exact ⟨g, cur, rfl, hb, hg, hr.1⟩
theorem OwnD.set {w : World} {B n c g : Nat} {ds : List Db} (h : OwnD w B (some ⟨g, 0, none⟩) n c ds) (i : Nat) (d : Db) (hi : i < ds.length) :
    OwnD (((w.setCell ⟨g, i * 3, none⟩ (.int .i64 d.a)).setCell ⟨g, i * 3 + 1, none⟩ (.int .i64 d.c)).setCell ⟨g, i * 3 + 2, none⟩ (.int .i64 d.v)) B (some ⟨g, 0, none⟩) n c (ds.set i d) := by
  have h1 := h.1.stored (i * 3) (.int .i64 d.a)
  have h2 := h1.1.stored (i * 3 + 1) (.int .i64 d.c)
  have h3 := h2.1.stored (i * 3 + 2) (.int .i64 d.v)
  refine ⟨?_, h.2⟩
  have := h3.1
  rwa [DV_set ds i d hi] at this
theorem grown_set3 (w : World) (g i j k : Nat) (x y z : Value) : w.grownBy (((w.setCell ⟨g, i, none⟩ x).setCell ⟨g, j, none⟩ y).setCell ⟨g, k, none⟩ z) (some g) :=
  ⟨rfl, rfl, rfl, by simp [World.setCell], fun q _ hne => (heap_setCell_other _ _ q _ (fun e => hne (by rw [e]))).trans ((heap_setCell_other _ _ q _ (fun e => hne (by rw [e]))).trans (heap_setCell_other _ _ q _ (fun e => hne (by rw [e]))))⟩

theorem Len_any (A : Option Addr) (n c : Nat) (w : World) : Calls Tryz.prog 257 #[.slice A n c] w fun e w' => e = .returned (.int .i64 (n : Int)) ∧ w = w' := by
  go_enter Tryz.func257, Tryz.ntmps257
  go_wp2
  go_ret
  exact ⟨rfl, rfl⟩
theorem method_len (g n c : Nat) (A : Option Addr) (w : World) (h : w.cell? ⟨g, 0, none⟩ = some (.slice A n c)) : (method 357 162 (.pointer (some ⟨g, 0, none⟩)) "Len").run Tryz.prog w = .ok (257, .slice A n c) w := by
  have e : (method 357 162 (.pointer (some ⟨g, 0, none⟩)) "Len").run Tryz.prog w = ((loadVar 116 ⟨g, 0, none⟩) >>= fun a => pure (257, a)).run Tryz.prog w := by kernel_rfl
  have e2 : (loadVar 116 ⟨g, 0, none⟩).run Tryz.prog w = .ok (.slice A n c) w := by go_simp
  rw [e, Sem.run_bind, e2]
  rfl
theorem method_less (g n c : Nat) (A : Option Addr) (w : World) (h : w.cell? ⟨g, 0, none⟩ = some (.slice A n c)) : (method 357 162 (.pointer (some ⟨g, 0, none⟩)) "Less").run Tryz.prog w = .ok (258, .slice A n c) w := by
  have e : (method 357 162 (.pointer (some ⟨g, 0, none⟩)) "Less").run Tryz.prog w = ((loadVar 116 ⟨g, 0, none⟩) >>= fun a => pure (258, a)).run Tryz.prog w := by kernel_rfl
  have e2 : (loadVar 116 ⟨g, 0, none⟩).run Tryz.prog w = .ok (.slice A n c) w := by go_simp
  rw [e, Sem.run_bind, e2]
  rfl
theorem method_swap (g n c : Nat) (A : Option Addr) (w : World) (h : w.cell? ⟨g, 0, none⟩ = some (.slice A n c)) : (method 357 162 (.pointer (some ⟨g, 0, none⟩)) "Swap").run Tryz.prog w = .ok (259, .slice A n c) w := by
  have e : (method 357 162 (.pointer (some ⟨g, 0, none⟩)) "Swap").run Tryz.prog w = ((loadVar 116 ⟨g, 0, none⟩) >>= fun a => pure (259, a)).run Tryz.prog w := by kernel_rfl
  have e2 : (loadVar 116 ⟨g, 0, none⟩).run Tryz.prog w = .ok (.slice A n c) w := by go_simp
  rw [e, Sem.run_bind, e2]
  rfl

/-- a debt in the heap: a person and a worth -/
def hd (x : Nat × Int) : Db := ⟨x.1, x.1, x.2⟩
def HL (xs : List (Nat × Int)) : List Db := xs.map hd
theorem HL_get {xs : List (Nat × Int)} {i : Nat} {x : Nat × Int} (h : xs[i]? = some x) : (HL xs)[i]? = some (hd x) := by simp [HL, h]
set_option maxRecDepth 100000 in
set_option maxHeartbeats 4000000 in
theorem Less_any (A : Option Addr) (n c : Nat) (xs : List (Nat × Int)) (i j : Nat) (x y : Nat × Int) (w : World) (hr : Dbs w w.heap.size A n (HL xs)) (hi : xs[i]? = some x) (hj : xs[j]? = some y) :
    Calls Tryz.prog 258 #[.slice A n c, .int .i64 (i : Int), .int .i64 (j : Int)] w fun e w' => e = .returned (.bool (Ta.less x y)) ∧ ∃ q, w' = w.drewN q := by
  have hl := hr.len
  rw [HL, List.length_map] at hl
  have li : i < n := by rw [← hl]; exact (List.getElem?_eq_some_iff.1 hi).1
  have lj : j < n := by rw [← hl]; exact (List.getElem?_eq_some_iff.1 hj).1
  obtain ⟨b, off, t, rfl, hb, ht, i0, i1, i2⟩ := hr.at_ li
  obtain ⟨b', off', t', e', hb', ht', j0, j1, j2⟩ := hr.at_ lj
  injection e' with e'
  injection e' with e1 e2
  subst e1
  subst e2
  obtain rfl : hd x = t := by rw [HL_get hi] at ht; exact Option.some.inj ht
  obtain rfl : hd y = t' := by rw [HL_get hj] at ht'; exact Option.some.inj ht'
  obtain ⟨p, u⟩ := x
  obtain ⟨q, v⟩ := y
  simp only [hd] at i0 i1 i2 j0 j1 j2
  clear hr hi hj hl ht ht' hb'
  by_cases h1 : u = v
  · have h1' : (u != v) = false := by simpa using h1
    by_cases h2 : p = q
    · have h2' : ((p : Int) != (q : Int)) = false := by simp [h2]
      have HLs := Lib.hid (show Ta.less (p, u) (q, v) = false by simp [Ta.less, h1]; omega)
      go_enter Tryz.func258, Tryz.ntmps258
      go_wp2_with fail
      go_quiet (fail)
      go_wp2_with fail
      go_quiet (fail)
      go_wp2_with fail
      go_quiet (fail)
      go_wp2
      go_ret
      exact ⟨ret_bool (by rw [HLs.out]), _, by simp only [World.drewN_drewN]; exact rfl⟩
    · have h2' : ((p : Int) != (q : Int)) = true := by simp; omega
      have HLs := Lib.hid (show Ta.less (p, u) (q, v) = decide (p < q) by simp [Ta.less, h1])
      go_enter Tryz.func258, Tryz.ntmps258
      go_wp2_with fail
      go_quiet (fail)
      go_wp2_with fail
      go_quiet (fail)
      go_wp2_with fail
      go_quiet (fail)
      go_wp2
      go_ret
      exact ⟨ret_bool HLs.out.symm, _, by simp only [World.drewN_drewN]; exact rfl⟩
  · have h1' : (u != v) = true := by simpa using h1
    have HLs := Lib.hid (show Ta.less (p, u) (q, v) = decide (v < u) by simp [Ta.less, h1])
    go_enter Tryz.func258, Tryz.ntmps258
    go_wp2_with fail
    go_quiet (fail)
    go_wp2_with fail
    go_quiet (fail)
    go_wp2
    go_ret
    exact ⟨ret_bool HLs.out.symm, _, by simp only [World.drewN_drewN]; exact rfl⟩
theorem OwnD.cell3 {w : World} {B n c g : Nat} {ds : List Db} (h : OwnD w B (some ⟨g, 0, none⟩) n c ds) {i : Nat} {d : Db} (hi : ds[i]? = some d) :
    w.cell? ⟨g, i * 3, none⟩ = some (.int .i64 d.a) ∧ w.cell? ⟨g, i * 3 + 1, none⟩ = some (.int .i64 d.c) ∧ w.cell? ⟨g, i * 3 + 2, none⟩ = some (.int .i64 d.v) := by
  have gt := flat_get (f := Db.cells) (k := 3) (fun _ => rfl) ds i d hi
  have cl := h.1.cells (g := g) rfl
  simp only [add_row] at cl
  exact ⟨cl _ _ (gt 0 (by omega)), cl _ _ (gt 1 (by omega)), cl _ _ (gt 2 (by omega))⟩
theorem OwnD.free {w : World} {B n c g : Nat} {ds : List Db} (h : OwnD w B (some ⟨g, 0, none⟩) n c ds) (j : Nat) : w.frozen? ⟨g, j, none⟩ = false := by
  rcases h.1.2 with ⟨h1, _⟩ | ⟨g', cap, cur, hv, hb, hg, hr⟩
  · cases h1
  · injection hv with e1 e2 e3
    injection e1 with e1
    injection e1 with e1
    subst e1
    exact Blk.free (ty := 123) hg j
theorem swap_out {w w' : World} {B g n c : Nat} {xs : List (Nat × Int)} {i j : Nat} {x y : Nat × Int} (h : OwnD w B (some ⟨g, 0, none⟩) n c (HL xs)) (hi : xs[i]? = some x) (hj : xs[j]? = some y)
    (hw : w' = (((((w.setCell ⟨g, i * 3, none⟩ (.int .i64 y.1)).setCell ⟨g, i * 3 + 1, none⟩ (.int .i64 y.1)).setCell ⟨g, i * 3 + 2, none⟩ (.int .i64 y.2)).setCell ⟨g, j * 3, none⟩ (.int .i64 x.1)).setCell ⟨g, j * 3 + 1, none⟩ (.int .i64 x.1)).setCell ⟨g, j * 3 + 2, none⟩ (.int .i64 x.2)) :
    OwnD w' B (some ⟨g, 0, none⟩) n c (HL (Ta.swapL xs i j)) ∧ w.grownBy w' (some g) := by
  have li := (List.getElem?_eq_some_iff.1 hi).1
  have lj := (List.getElem?_eq_some_iff.1 hj).1
  have h1 := h.set i (hd y) (by simpa [HL] using li)
  have h2 := h1.set j (hd x) (by simpa [HL] using lj)
  have e : HL (Ta.swapL xs i j) = ((HL xs).set i (hd y)).set j (hd x) := by
    have ei : xs.getD i Ta.d0 = x := by rw [List.getD_eq_getElem?_getD, hi]; rfl
    have ej : xs.getD j Ta.d0 = y := by rw [List.getD_eq_getElem?_getD, hj]; rfl
    rw [HL, Ta.swapL, ei, ej, List.map_set, List.map_set]
    rfl
  rw [e, hw]
  exact ⟨h2, (grown_set3 _ g _ _ _ _ _ _).then_ (grown_set3 _ g _ _ _ _ _ _) (fun k hk => .inr hk)⟩
set_option maxRecDepth 100000 in
set_option maxHeartbeats 4000000 in
theorem Swap_any (g n c B : Nat) (xs : List (Nat × Int)) (i j : Nat) (x y : Nat × Int) (w : World) (h : OwnD w B (some ⟨g, 0, none⟩) n c (HL xs)) (hi : xs[i]? = some x) (hj : xs[j]? = some y) :
    Calls Tryz.prog 259 #[.slice (some ⟨g, 0, none⟩) n c, .int .i64 (i : Int), .int .i64 (j : Int)] w fun e w' => (∃ v, e = .returned v) ∧ OwnD w' B (some ⟨g, 0, none⟩) n c (HL (Ta.swapL xs i j)) ∧ w.grownBy w' (some g) := by
  have hl := h.dbs.len
  rw [HL, List.length_map] at hl
  have li : i < n := by rw [← hl]; exact (List.getElem?_eq_some_iff.1 hi).1
  have lj : j < n := by rw [← hl]; exact (List.getElem?_eq_some_iff.1 hj).1
  by_cases hij : i = j
  · subst hij
    obtain rfl : x = y := Option.some.inj (hi.symm.trans hj)
    obtain ⟨i0, i1, i2⟩ := h.cell3 (HL_get hi)
    have f := h.free
    have fi0 := f (i * 3)
    have fi1 := f (i * 3 + 1)
    have fi2 := f (i * 3 + 2)
    have HO := Lib.hid (fun w' => swap_out (w' := w') h hi hi)
    obtain ⟨p, u⟩ := x
    simp only [hd] at i0 i1 i2
    clear h hi hj hl f
    go_enter Tryz.func259, Tryz.ntmps259
    go_wp2_with fail
    go_region_with (fail)
    all_goals go_wp2
    all_goals (refine bodyPost_end (results_none rfl _ _ _) rfl ?_)
    all_goals exact ⟨⟨_, rfl⟩, OwnR.drew (HO.out _ rfl).1, grown_drew (HO.out _ rfl).2⟩
  obtain ⟨i0, i1, i2⟩ := h.cell3 (HL_get hi)
  obtain ⟨j0, j1, j2⟩ := h.cell3 (HL_get hj)
  have f := h.free
  have fi0 := f (i * 3)
  have fi1 := f (i * 3 + 1)
  have fi2 := f (i * 3 + 2)
  have fj0 := f (j * 3)
  have fj1 := f (j * 3 + 1)
  have fj2 := f (j * 3 + 2)
  have HO := Lib.hid (fun w' => swap_out (w' := w') h hi hj)
  obtain ⟨p, u⟩ := x
  obtain ⟨q, v⟩ := y
  simp only [hd] at i0 i1 i2 j0 j1 j2
  clear h hi hj hl f
  have hij' : ¬ j = i := fun e => hij e.symm
  · go_enter Tryz.func259, Tryz.ntmps259
    go_wp2_with fail
    go_region_with (fail)
    all_goals go_wp2
    all_goals (refine bodyPost_end (results_none rfl _ _ _) rfl ?_)
    all_goals exact ⟨⟨_, rfl⟩, OwnR.drew (HO.out _ rfl).1, grown_drew (HO.out _ rfl).2⟩
end Go.Proofs.YthdoofmfigemoaaGreatDoor
end

section
/-
  The heap of debts: what is put in, and what is taken out.
-/
namespace Go.Proofs.YthdoofmfigemoaaGreatDoor
open Go.RowKit
set_option linter.unusedSimpArgs false

/-- a world that keeps all blocks but some -/
structure Kept (w w' : World) (S : Nat → Prop) : Prop where
  os : w'.os = w.os
  tape : w'.tape = w.tape
  output : w'.output = w.output
  size : w.heap.size ≤ w'.heap.size
  block : ∀ k, k < w.heap.size → ¬ S k → w'.heap[k]? = w.heap[k]?
theorem Kept.refl (w : World) (S : Nat → Prop) : Kept w w S := ⟨rfl, rfl, rfl, Nat.le_refl _, fun _ _ _ => rfl⟩
theorem Kept.trans {a b c : World} {S : Nat → Prop} (h : Kept a b S) (k : Kept b c S) : Kept a c S :=
  ⟨k.os.trans h.os, k.tape.trans h.tape, k.output.trans h.output, Nat.le_trans h.size k.size, fun i hi hn => (k.block i (Nat.lt_of_lt_of_le hi h.size) hn).trans (h.block i hi hn)⟩
theorem Kept.mono {a b : World} {S T : Nat → Prop} (h : Kept a b S) (hST : ∀ k, k < a.heap.size → S k → T k) : Kept a b T :=
  ⟨h.os, h.tape, h.output, h.size, fun i hi hn => h.block i hi fun hs => hn (hST i hi hs)⟩
theorem Kept.of_grown {a b : World} {r : Option Nat} (h : a.grownBy b r) : Kept a b (fun k => r = some k) := ⟨h.os, h.tape, h.output, h.size, fun i hi hn => h.block i hi fun e => hn e.symm⟩
theorem Kept.of_below {a b : World} {B : Nat} (h : Below B a b) : Kept a b (fun k => B ≤ k) := ⟨h.os, h.tape, h.output, h.size, fun i _ hn => h.block i (by omega)⟩
theorem Kept.below {a b : World} {S : Nat → Prop} {B : Nat} (h : Kept a b S) (hB : B ≤ a.heap.size) (hS : ∀ k, S k → B ≤ k) : Below B a b := ⟨h.os, h.tape, h.output, h.size, fun i hi => h.block i (by omega) fun hs => by have := hS i hs; omega⟩
theorem Kept.drew {a b : World} {S : Nat → Prop} (h : Kept a b S) : Kept a b.drew S := ⟨h.os, h.tape, h.output, h.size, h.block⟩
theorem Kept.drewN {a b : World} {S : Nat → Prop} (h : Kept a b S) (q : Nat) : Kept a (b.drewN q) S := ⟨h.os, h.tape, h.output, h.size, h.block⟩

/-- block g holds the header of a heap, whose row is the call's own from block B on -/
structure Hp (w : World) (B g : Nat) (A : Option Addr) (n c : Nat) (xs : List (Nat × Int)) : Prop where
  blk : Blk w g #[.slice A n c] 116
  own : OwnD w B A n c (HL xs)
  ne : ∀ k, (Value.slice A n c).ownBlock = some k → k ≠ g
section
variable {w w' : World} {B g n c : Nat} {A : Option Addr} {xs : List (Nat × Int)}
theorem Hp.len (h : Hp w B g A n c xs) : xs.length = n := by have := h.own.dbs.len; simpa [HL] using this
theorem Hp.cell (h : Hp w B g A n c xs) : w.cell? ⟨g, 0, none⟩ = some (.slice A n c) := h.blk.cell rfl
theorem Hp.drewN (h : Hp w B g A n c xs) (q : Nat) : Hp (w.drewN q) B g A n c xs := ⟨h.blk, h.own, h.ne⟩
theorem Hp.drew (h : Hp w B g A n c xs) : Hp w.drew B g A n c xs := ⟨h.blk, h.own, h.ne⟩
theorem Hp.kept {S : Nat → Prop} (h : Hp w B g A n c xs) (hk : Kept w w' S) (h1 : ¬ S g) (h2 : ∀ k, (Value.slice A n c).ownBlock = some k → ¬ S k) : Hp w' B g A n c xs := by
  refine ⟨h.blk.keep (hk.block g h.blk.lt h1), ⟨⟨h.own.1.1, ?_⟩, h.own.2⟩, h.ne⟩
  rcases h.own.1.2 with h0 | ⟨r, cap, cur, hv, hb, hg, rest⟩
  · exact .inl h0
  · refine .inr ⟨r, cap, cur, hv, hb, ?_, rest⟩
    rw [hk.block r (Array.getElem?_eq_some_iff.1 hg).1 (h2 r (by rw [hv]; rfl))]
    exact hg
theorem Hp.next (h : Hp w B g A n c xs) (hb : Below w.heap.size w w') : Hp w' B g A n c xs :=
  h.kept (Kept.of_below hb) (by have := h.blk.lt; omega) (fun k hk => by have := (h.own.blk k hk).2; omega)
end
theorem wrap64_nat {n : Nat} (h : n ≤ 1000000) : wrap64 (n : Int) = (n : Int) := by unfold wrap64; omega
/-- what lies in the heap's own blocks -/
def Mine (g : Nat) (A : Option Addr) (n c : Nat) (k : Nat) : Prop := k = g ∨ (Value.slice A n c).ownBlock = some k

set_option maxRecDepth 100000 in
set_option maxHeartbeats 1000000 in
theorem up_any (w : World) (B g n c : Nat) (r : Nat) (xs : List (Nat × Int)) (j f : Nat) (h : Hp w B g (some ⟨r, 0, none⟩) n c xs) (hj : j < n) (hn : n ≤ 1000) (hf : j < 2 ^ f) :
    Calls Tryz.prog 146 #[.iface 162 (.pointer (some ⟨g, 0, none⟩)), .int .i64 (j : Int)] w fun e w' => (∃ v, e = .returned v) ∧ Hp w' B g (some ⟨r, 0, none⟩) n c (Ta.upL f xs j) ∧ w.grownBy w' (some r) := by
  have ml := method_less g n c (some ⟨r, 0, none⟩)
  have ms := method_swap g n c (some ⟨r, 0, none⟩)
  obtain ⟨R, hR⟩ : ∃ R, Ta.upL f xs j = R := ⟨_, rfl⟩
  rw [hR]
  have H0 := Lib.hid h
  have HR := Lib.hid hR
  have HF := Lib.hid hf
  clear h hR hf
  go_enter Tryz.func146, Tryz.ntmps146
  go_wp2_with fail
  go_loopw [1] (fun jv wr => ∃ (j f : Nat) (ys : List (Nat × Int)), jv = .int .i64 (j : Int) ∧ j < n ∧ j < 2 ^ f ∧ Ta.upL f ys j = R ∧ Hp wr B g (some ⟨r, 0, none⟩) n c ys ∧ w.grownBy wr (some r)) (fun jv _ => (intOf jv).toNat)
  case atStart => exact ⟨j, f, xs, rfl, hj, HF.out, HR.out, H0.out, World.grownBy.refl w _⟩
  case round =>
    clear HR HF H0 hj
    obtain ⟨j, f, ys, rfl, hj, hf, hR, hH, hG⟩ := hrel
    have hcell := hH.cell
    have HH := Lib.hid hH
    have HG := Lib.hid hG
    have HR := Lib.hid hR
    have HF := Lib.hid hf
    clear hH hG hR hf
    by_cases h0 : j = 0
    · subst h0
      go_wp2
      refine bodyPost_end (results_none rfl _ _ _) rfl ⟨⟨_, rfl⟩, ?_, HG.out⟩
      have : Ta.upL f ys 0 = ys := by cases f with | zero => rfl | succ f => simp [Ta.upL]
      rw [← HR.out, this]
      exact HH.out
    · obtain ⟨i, hi2⟩ : ∃ i : Nat, i = (j - 1) / 2 := ⟨_, rfl⟩
      have hij : ¬ i = j := by omega
      have hij2 : ((i : Int) == (j : Int)) = false := by simp; omega
      have hq : ((j : Int) - 1) / 2 = (i : Int) := by omega
      obtain ⟨f, rfl⟩ : ∃ k, f = k + 1 := ⟨f - 1, by have := HF.out; cases f with | zero => simp at this; omega | succ k => simp⟩
      have hly := HH.out.len
      obtain ⟨x, hx⟩ : ∃ x, ys[j]? = some x := ⟨_, List.getElem?_eq_getElem (by omega)⟩
      obtain ⟨y, hy⟩ : ∃ y, ys[i]? = some y := ⟨_, List.getElem?_eq_getElem (by omega)⟩
      have HX := Lib.hid hx
      have HY := Lib.hid hy
      have HI := Lib.hid hi2
      have dx : ys.getD j Ta.d0 = x := by rw [List.getD_eq_getElem?_getD, hx]; rfl
      have dy : ys.getD i Ta.d0 = y := by rw [List.getD_eq_getElem?_getD, hy]; rfl
      have hup : Ta.upL (f + 1) ys j = if Ta.less x y = false then ys else Ta.upL f (Ta.swapL ys i j) i := by
        simp only [Ta.upL, ← hi2, dx, dy]
        by_cases hz : Ta.less x y = false
        · rw [if_pos (.inr hz), if_pos hz]
        · rw [if_neg (by simp [hij]; simpa using hz), if_neg hz]
      have HUP := Lib.hid hup
      have hi3 : i < n := by omega
      have hfi : i < 2 ^ f := by have := HF.out; rw [Nat.pow_succ] at this; omega
      have HFI := Lib.hid hfi
      clear hx hy hi2 dx dy hup hly hfi
      go_wp2_with fail
      refine (Less_any _ n c ys j i x y wr HH.out.own.dbs HX.out HY.out).mono ?_
      rintro e w1 ⟨rfl, q, rfl⟩
      rcases hls : Ta.less x y with _ | _
      · have HL := Lib.hid hls
        clear hls
        go_wp2
        refine bodyPost_end (results_none rfl _ _ _) rfl ⟨⟨_, rfl⟩, ?_, ?_⟩
        · rw [← HR.out, HUP.out, if_pos HL.out]
          exact HH.out.drewN q
        · exact ⟨HG.out.os, HG.out.tape, HG.out.output, HG.out.size, HG.out.block⟩
      · have HL := Lib.hid hls
        clear hls
        go_wp2_with fail
        refine (Swap_any r n c B ys i j y x (wr.drewN q) (HH.out.drewN q).own HY.out HX.out).mono ?_
        rintro e w2 ⟨⟨v2, rfl⟩, hO, hG2⟩
        have HH2 := Lib.hid (show Hp w2 B g (some ⟨r, 0, none⟩) n c (Ta.swapL ys i j) from ⟨(HH.out.drewN q).blk.grown hG2 (by intro e; injection e with e; exact HH.out.ne r rfl e.symm), hO, HH.out.ne⟩)
        have HG2 := Lib.hid ((⟨HG.out.os, HG.out.tape, HG.out.output, HG.out.size, HG.out.block⟩ : w.grownBy (wr.drewN q) (some r)).then_ hG2 (fun k hk => .inr hk))
        clear hO hG2
        go_wp2
        go_roundw
        case rel => exact ⟨i, f, _, rfl, hi3, HFI.out, by rw [← HR.out, HUP.out, if_neg (by rw [HL.out]; simp)], HH2.out, HG2.out⟩
        case measure => simp [intOf]; have := HI.out; omega
end Go.Proofs.YthdoofmfigemoaaGreatDoor
end

section
/-
  Plain lists of digits, from the units on, and how a digit or a number is added to them or taken from them by pushes; no program in sight.
-/
namespace Go.Proofs.YthdoofmfigemoaaGreatDoor.Fr

def dig (d : Int) : Prop := 0 ≤ d ∧ d ≤ 9
def Digs (ds : List Int) : Prop := ∀ d ∈ ds, 0 ≤ d ∧ d ≤ 9
/-- pushes from one digit to another -/
def cost (a b : Int) : Int := (if a / 5 = b / 5 then 0 else 1) + (if a % 5 = b % 5 then 0 else 1)
def val : List Int → Int
  | [] => 0
  | d :: ds => d + 10 * val ds
def ten (n : Nat) : Int := 10 ^ n
/-- the sign s: 1 adds, -1 takes -/
def chg (s : Int) : List Int → Int → Option (List Int × Int)
  | [], g => if g = 0 then some ([], 0) else none
  | d :: ds, g =>
    if g = 0 then some (d :: ds, 0)
    else if 0 ≤ d + s * g ∧ d + s * g ≤ 9 then some ((d + s * g) :: ds, cost d (d + s * g))
    else (chg s ds 1).map fun p => ((d + s * g - 10 * s) :: p.1, cost d (d + s * g - 10 * s) + p.2)
/-- the first number: as1 many rods are left -/
def allF (s : Int) : Nat → List Int → Int → Option (List Int × Int)
  | 0, ds, n => if n = 0 then some (ds, 0) else none
  | k + 1, ds, n =>
    if n = 0 then some (ds, 0)
    else match chg s ds (n % 10) with
      | some (d1 :: ds1, n1) => (allF s k ds1 (n / 10)).map fun p => (d1 :: p.1, n1 + p.2)
      | _ => none
def all (s : Int) (ds : List Int) (n : Int) : Option (List Int × Int) := allF s ds.length ds n
def dist : List Int → List Int → Int
  | a :: as1, b :: bs => cost a b + dist as1 bs
  | _, _ => 0
def nines (ds : List Int) : List Int := ds.map fun d => 9 - d

theorem digs_cons (d : Int) (ds : List Int) : Digs (d :: ds) ↔ (0 ≤ d ∧ d ≤ 9) ∧ Digs ds := by simp [Digs]
theorem ten_pos (n : Nat) : 0 < ten n := Int.pow_pos (by omega)
theorem ten_succ (n : Nat) : ten (n + 1) = 10 * ten n := by rw [ten, Int.pow_succ, Int.mul_comm]; rfl
theorem val_range (ds : List Int) (h : Digs ds) : 0 ≤ val ds ∧ val ds < ten ds.length := by
  induction ds with
  | nil => simp [val, ten]
  | cons d ds ih =>
    have h' := (digs_cons d ds).1 h
    have := ih h'.2
    rw [List.length_cons, ten_succ, val]; omega
theorem val_inj (as1 : List Int) : ∀ bs, Digs as1 → Digs bs → as1.length = bs.length → val as1 = val bs → as1 = bs := by
  induction as1 with
  | nil => intro bs _ _ hl _; cases bs with | nil => rfl | cons => simp at hl
  | cons a as1 ih =>
    intro bs ha hb hl hv
    cases bs with
    | nil => simp at hl
    | cons b bs =>
      have ha' := (digs_cons a as1).1 ha
      have hb' := (digs_cons b bs).1 hb
      simp only [val] at hv
      have e1 : a = b := by omega
      subst e1
      rw [ih bs ha'.2 hb'.2 (by simpa using hl) (by omega)]
theorem cost_nonneg (a b : Int) : 0 ≤ cost a b := by unfold cost; split <;> split <;> omega
theorem cost_self (a : Int) : cost a a = 0 := by simp [cost]
theorem cost_symm (a b : Int) : cost a b = cost b a := by unfold cost; simp only [eq_comm]
theorem cost_pos (a b : Int) (h : a ≠ b) : 1 ≤ cost a b := by unfold cost; split <;> split <;> omega
theorem cost_tri (a b c : Int) : cost a c ≤ cost a b + cost b c := by unfold cost; split <;> split <;> split <;> split <;> split <;> split <;> omega
theorem cost_nines (a b : Int) : cost (9 - a) (9 - b) = cost a b := by
  unfold cost
  have e1 : ((9 - a) / 5 = (9 - b) / 5) = (a / 5 = b / 5) := by simp only [eq_iff_iff]; omega
  have e2 : ((9 - a) % 5 = (9 - b) % 5) = (a % 5 = b % 5) := by simp only [eq_iff_iff]; omega
  simp only [e1, e2]
theorem dist_self (as1 : List Int) : dist as1 as1 = 0 := by
  induction as1 with
  | nil => rfl
  | cons a as1 ih => simp [dist, ih, cost_self]
theorem dist_tri (as1 : List Int) : ∀ bs cs, as1.length = bs.length → bs.length = cs.length → dist as1 cs ≤ dist as1 bs + dist bs cs := by
  induction as1 with
  | nil =>
    intro bs cs h1 h2
    obtain rfl := List.eq_nil_of_length_eq_zero h1.symm
    obtain rfl := List.eq_nil_of_length_eq_zero h2.symm
    simp [dist]
  | cons a as1 ih =>
    intro bs cs h1 h2
    cases bs with
    | nil => simp at h1
    | cons b bs =>
      cases cs with
      | nil => simp at h2
      | cons c cs =>
        have := ih bs cs (by simpa using h1) (by simpa using h2)
        have := cost_tri a b c
        simp only [dist]; omega

/-- a sign -/
def Sgn (s : Int) : Prop := s = 1 ∨ s = -1

/-- what a change gives -/
theorem chg_some (s : Int) (hs : Sgn s) (ds : List Int) : ∀ g r n, Digs ds → 0 ≤ g → g ≤ 9 → chg s ds g = some (r, n) →
    Digs r ∧ r.length = ds.length ∧ val r = val ds + s * g ∧ dist ds r = n ∧ 0 ≤ n ∧ (g ≠ 0 → 1 ≤ n) := by
  induction ds with
  | nil =>
    intro g r n _ _ _ h
    simp only [chg] at h
    split at h
    · next hg => simp at h; obtain ⟨rfl, rfl⟩ := h; subst hg; simp [Digs, val, dist]
    · cases h
  | cons d ds ih =>
    intro g r n hd h0 h9 h
    have hd' := (digs_cons d ds).1 hd
    simp only [chg] at h
    split at h
    · next hg =>
      simp at h; obtain ⟨rfl, rfl⟩ := h; subst hg
      exact ⟨hd, rfl, by simp, dist_self _, by omega, fun h => absurd rfl h⟩
    · next hg =>
      split at h
      · next hin =>
        simp at h; obtain ⟨rfl, rfl⟩ := h
        have hne : d ≠ d + s * g := by rcases hs with rfl | rfl <;> omega
        refine ⟨(digs_cons _ _).2 ⟨hin, hd'.2⟩, rfl, by simp only [val]; omega, by simp [dist, dist_self], cost_nonneg _ _, fun _ => cost_pos _ _ hne⟩
      · next hout =>
        rw [Option.map_eq_some_iff] at h
        obtain ⟨⟨r', n'⟩, hr, h⟩ := h
        simp at h; obtain ⟨rfl, rfl⟩ := h
        obtain ⟨i1, i2, i3, i4, i5, _⟩ := ih 1 r' n' hd'.2 (by omega) (by omega) hr
        have hne : d ≠ d + s * g - 10 * s := by rcases hs with rfl | rfl <;> omega
        have hin : 0 ≤ d + s * g - 10 * s ∧ d + s * g - 10 * s ≤ 9 := by rcases hs with rfl | rfl <;> omega
        have c0 := cost_pos _ _ hne
        refine ⟨(digs_cons _ _).2 ⟨hin, i1⟩, by simp [i2], by simp only [val, i3]; omega, by simp [dist, i4], by omega, fun _ => by omega⟩
/-- when a change can be made -/
theorem chg_iff (s : Int) (hs : Sgn s) (ds : List Int) : ∀ g, Digs ds → 0 ≤ g → g ≤ 9 → ((chg s ds g).isSome = true ↔ 0 ≤ val ds + s * g ∧ val ds + s * g < ten ds.length) := by
  induction ds with
  | nil =>
    intro g _ h0 h9
    simp only [chg, val, List.length_nil, ten]
    split
    · next h => subst h; simp
    · next h => rcases hs with rfl | rfl <;> simp <;> omega
  | cons d ds ih =>
    intro g hd h0 h9
    have hd' := (digs_cons d ds).1 hd
    have hv := val_range ds hd'.2
    have ht := ten_succ ds.length
    simp only [chg, val, List.length_cons, ht]
    split
    · next h => subst h; simp; omega
    · next h =>
      split
      · next hin => simp; omega
      · next hout =>
        have := ih 1 hd'.2 (by omega) (by omega)
        rw [Option.isSome_map, this]
        rcases hs with rfl | rfl <;> omega
/-- the other sign leads back, with as1 many pushes -/
theorem chg_back (s : Int) (hs : Sgn s) (ds : List Int) : ∀ g r n, Digs ds → 0 ≤ g → g ≤ 9 → chg s ds g = some (r, n) → chg (0 - s) r g = some (ds, n) := by
  induction ds with
  | nil =>
    intro g r n _ _ _ h
    simp only [chg] at h
    split at h
    · next hg => simp at h; obtain ⟨rfl, rfl⟩ := h; subst hg; simp [chg]
    · cases h
  | cons d ds ih =>
    intro g r n hd h0 h9 h
    have hd' := (digs_cons d ds).1 hd
    simp only [chg] at h
    split at h
    · next hg =>
      simp at h; obtain ⟨rfl, rfl⟩ := h; subst hg
      simp [chg]
    · next hg =>
      split at h
      · next hin =>
        simp at h; obtain ⟨rfl, rfl⟩ := h
        have e : d + s * g + (0 - s) * g = d := by rw [Int.sub_mul]; omega
        rw [chg, if_neg hg, e, if_pos hd'.1, cost_symm]
      · next hout =>
        rw [Option.map_eq_some_iff] at h
        obtain ⟨⟨r', n'⟩, hr, h⟩ := h
        simp at h; obtain ⟨rfl, rfl⟩ := h
        have := ih 1 r' n' hd'.2 (by omega) (by omega) hr
        have e : d + s * g - 10 * s + (0 - s) * g = d - 10 * s := by rw [Int.sub_mul]; omega
        rw [chg, if_neg hg, e, if_neg (by rcases hs with rfl | rfl <;> omega), this]
        have e2 : d - 10 * s - 10 * (0 - s) = d := by omega
        rw [e2, Option.map_some, cost_symm]
theorem digs_nines (ds : List Int) (h : Digs ds) : Digs (nines ds) := by
  intro d hd
  obtain ⟨x, hx, rfl⟩ := List.mem_map.1 hd
  have := h x hx
  omega
/-- on the nines it is the other sign -/
theorem chg_nines (s : Int) (hs : Sgn s) (ds : List Int) : ∀ g, Digs ds → 0 ≤ g → g ≤ 9 → chg (0 - s) (nines ds) g = (chg s ds g).map fun p => (nines p.1, p.2) := by
  induction ds with
  | nil =>
    intro g _ _ _
    simp only [chg, nines, List.map_nil]
    split <;> simp
  | cons d ds ih =>
    intro g hd h0 h9
    have hd' := (digs_cons d ds).1 hd
    have := ih 1 hd'.2 (by omega) (by omega)
    simp only [nines, List.map_cons] at this ⊢
    simp only [chg]
    have e : 9 - d + (0 - s) * g = 9 - (d + s * g) := by rw [Int.sub_mul]; omega
    have c : (0 ≤ 9 - (d + s * g) ∧ 9 - (d + s * g) ≤ 9) = (0 ≤ d + s * g ∧ d + s * g ≤ 9) := by simp only [eq_iff_iff]; omega
    rw [e]
    simp only [c]
    split
    · simp
    · split
      · next hin => simp [cost_nines]
      · next hout =>
        rw [this]
        have hin : 0 ≤ d + s * g - 10 * s ∧ d + s * g - 10 * s ≤ 9 := by rcases hs with rfl | rfl <;> omega
        have e3 : 9 - (d + s * g) - 10 * (0 - s) = 9 - (d + s * g - 10 * s) := by omega
        rw [e3, cost_nines]
        simp [Option.map_map, Function.comp_def]

theorem all_some (s : Int) (hs : Sgn s) (ds : List Int) : ∀ N r n, Digs ds → 0 ≤ N → all s ds N = some (r, n) →
    Digs r ∧ r.length = ds.length ∧ val r = val ds + s * N ∧ dist ds r ≤ n ∧ 0 ≤ n ∧ (n = 0 ↔ N = 0) := by
  have key : ∀ (k : Nat) (ds : List Int), ds.length = k → ∀ N r n, Digs ds → 0 ≤ N → allF s k ds N = some (r, n) →
    Digs r ∧ r.length = ds.length ∧ val r = val ds + s * N ∧ dist ds r ≤ n ∧ 0 ≤ n ∧ (n = 0 ↔ N = 0) := by
    intro k
    induction k with
    | zero =>
      intro ds hk N r n _ _ h
      obtain rfl := List.eq_nil_of_length_eq_zero hk
      simp only [allF] at h
      split at h
      · next hg => simp at h; obtain ⟨rfl, rfl⟩ := h; subst hg; simp [Digs, val, dist]
      · cases h
    | succ k ih =>
      intro ds hk N r n hd h0 h
      cases ds with
      | nil => simp at hk
      | cons d ds =>
        simp only [allF] at h
        split at h
        · next hg => simp at h; obtain ⟨rfl, rfl⟩ := h; subst hg; exact ⟨hd, rfl, by simp, by rw [dist_self]; omega, by omega, by simp⟩
        · next hg =>
          split at h
          · next d1 ds1 n1 hc =>
            rw [Option.map_eq_some_iff] at h
            obtain ⟨⟨r', n'⟩, hr, h⟩ := h
            simp at h; obtain ⟨rfl, rfl⟩ := h
            obtain ⟨c1, c2, c3, c4, c5, c6⟩ := chg_some s hs _ _ _ _ hd (Int.emod_nonneg N (by omega)) (by have := Int.emod_lt_of_pos N (b := 10) (by omega); omega) hc
            have c1' := (digs_cons _ _).1 c1
            have hl : ds1.length = k := by simp at c2 hk; omega
            obtain ⟨i1, i2, i3, i4, i5, i6⟩ := ih ds1 hl (N / 10) r' n' c1'.2 (by omega) hr
            have hd1 := dist_tri (d :: ds) (d1 :: ds1) (d1 :: r') c2.symm (by simp [i2])
            have hd2 : dist (d1 :: ds1) (d1 :: r') = dist ds1 r' := by simp [dist, cost_self]
            refine ⟨(digs_cons _ _).2 ⟨c1'.1, i1⟩, by simp at c2 ⊢; omega, ?_, by omega, by omega, ?_⟩
            · simp only [val] at c3 ⊢
              rw [i3]
              rcases hs with rfl | rfl <;> omega
            · constructor
              · intro he
                have : N % 10 = 0 := by
                  rcases Int.lt_or_eq_of_le (Int.emod_nonneg N (b := 10) (by omega)) with h | h
                  · have := c6 (by omega); omega
                  · omega
                have := i6.1 (by omega)
                omega
              · intro he; exact absurd he hg
          · cases h
  intro N r n hd h0 h
  exact key ds.length ds rfl N r n hd h0 h
theorem all_iff (s : Int) (hs : Sgn s) (ds : List Int) (N : Int) (hd : Digs ds) (h0 : 0 ≤ N) : ((all s ds N).isSome = true ↔ 0 ≤ val ds + s * N ∧ val ds + s * N < ten ds.length) := by
  have key : ∀ (k : Nat) (ds : List Int), ds.length = k → ∀ N, Digs ds → 0 ≤ N → ((allF s k ds N).isSome = true ↔ 0 ≤ val ds + s * N ∧ val ds + s * N < ten ds.length) := by
    intro k
    induction k with
    | zero =>
      intro ds hk N _ h0
      obtain rfl := List.eq_nil_of_length_eq_zero hk
      simp only [allF, val, List.length_nil, ten]
      split
      · next h => subst h; simp
      · next h => rcases hs with rfl | rfl <;> simp <;> omega
    | succ k ih =>
      intro ds hk N hd h0
      cases ds with
      | nil => simp at hk
      | cons d ds =>
        have hd' := (digs_cons d ds).1 hd
        have hv := val_range _ hd
        have m0 := Int.emod_nonneg N (b := 10) (by omega)
        have m1 := Int.emod_lt_of_pos N (b := 10) (by omega)
        have hci := chg_iff s hs (d :: ds) (N % 10) hd m0 (by omega)
        simp only [allF]
        split
        · next h => subst h; simp; exact hv
        · next h =>
          split
          · next d1 ds1 n1 hc =>
            obtain ⟨c1, c2, c3, _⟩ := chg_some s hs _ _ _ _ hd m0 (by omega) hc
            have c1' := (digs_cons _ _).1 c1
            have hl : ds1.length = k := by simp at c2 hk; omega
            rw [Option.isSome_map, ih ds1 hl (N / 10) c1'.2 (by omega)]
            simp only [val] at c3
            have hlk : ds.length = k := by simp at hk; omega
            rw [hl, List.length_cons, hlk, ten_succ]
            simp only [val]
            rcases hs with rfl | rfl <;> omega
          · next hnone =>
            have hn : chg s (d :: ds) (N % 10) = none := by
              cases hc : chg s (d :: ds) (N % 10) with
              | none => rfl
              | some p =>
                obtain ⟨r, n⟩ := p
                obtain ⟨_, c2, _⟩ := chg_some s hs _ _ _ _ hd m0 (by omega) hc
                cases r with
                | nil => simp at c2
                | cons d1 ds1 => exact absurd hc (hnone d1 ds1 n)
            rw [hn] at hci
            simp only [Option.isSome_none] at hci ⊢
            have hci' : ¬ (0 ≤ val (d :: ds) + s * (N % 10) ∧ val (d :: ds) + s * (N % 10) < ten (d :: ds).length) := fun h => by simpa using hci.2 h
            constructor
            · intro h; cases h
            · intro hh; exfalso; apply hci'
              rcases hs with rfl | rfl <;> omega
  exact key ds.length ds rfl N hd h0
theorem all_nines (s : Int) (hs : Sgn s) (k : Nat) : ∀ (ds : List Int), ds.length = k → ∀ N, Digs ds → 0 ≤ N → allF (0 - s) k (nines ds) N = (allF s k ds N).map fun p => (nines p.1, p.2) := by
  induction k with
  | zero =>
    intro ds hk N _ _
    obtain rfl := List.eq_nil_of_length_eq_zero hk
    simp only [allF, nines, List.map_nil]
    split <;> simp
  | succ k ih =>
    intro ds hk N hd h0
    cases ds with
    | nil => simp at hk
    | cons d ds =>
      have m0 := Int.emod_nonneg N (b := 10) (by omega)
      have m1 := Int.emod_lt_of_pos N (b := 10) (by omega)
      have hc := chg_nines s hs (d :: ds) (N % 10) hd m0 (by omega)
      have e : nines (d :: ds) = (9 - d) :: nines ds := rfl
      rw [e] at hc ⊢
      simp only [allF, hc]
      split
      · simp [e]
      · cases hcc : chg s (d :: ds) (N % 10) with
        | none => simp
        | some p =>
          obtain ⟨r, n⟩ := p
          obtain ⟨c1, c2, _⟩ := chg_some s hs _ _ _ _ hd m0 (by omega) hcc
          cases r with
          | nil => simp at c2
          | cons d1 ds1 =>
            have c1' := (digs_cons _ _).1 c1
            have hl : ds1.length = k := by simp at c2 hk; omega
            have := ih ds1 hl (N / 10) c1'.2 (by omega)
            have e2 : nines (d1 :: ds1) = (9 - d1) :: nines ds1 := rfl
            simp only [Option.map_some, e2]
            rw [this]
            simp [Option.map_map, Function.comp_def, nines]
theorem all_nines' (s : Int) (hs : Sgn s) (ds : List Int) (N : Int) (hd : Digs ds) (h0 : 0 ≤ N) : all (0 - s) (nines ds) N = (all s ds N).map fun p => (nines p.1, p.2) := by
  unfold all
  rw [show (nines ds).length = ds.length from by simp [nines]]
  exact all_nines s hs ds.length ds rfl N hd h0
/-- a number that was added is taken again -/
theorem all_back (s : Int) (hs : Sgn s) (ds : List Int) (N : Int) (r : List Int) (n : Int) (hd : Digs ds) (h0 : 0 ≤ N) (h : all s ds N = some (r, n)) : ∃ m, all (0 - s) r N = some (ds, m) := by
  obtain ⟨a1, a2, a3, _⟩ := all_some s hs ds N r n hd h0 h
  have hs' : Sgn (0 - s) := by rcases hs with rfl | rfl <;> simp [Sgn]
  have hv := val_range ds hd
  have e : val r + (0 - s) * N = val ds := by rw [a3, Int.sub_mul]; omega
  have hi := (all_iff (0 - s) hs' r N a1 h0).2 (by rw [e, a2]; exact hv)
  obtain ⟨⟨q, m⟩, hq⟩ := Option.isSome_iff_exists.1 hi
  obtain ⟨b1, b2, b3, _⟩ := all_some (0 - s) hs' r N q m a1 h0 hq
  have : q = ds := val_inj q ds b1 hd (by omega) (by omega)
  exact ⟨m, by rw [hq, this]⟩

end Go.Proofs.YthdoofmfigemoaaGreatDoor.Fr
end

section
/-
  The rods of a frame in memory: a block of pairs behind a block that holds the slice; one rod is read and changed.
-/
namespace Go.Proofs.YthdoofmfigemoaaGreatDoor
open Go.RowKit

/-- the upper and the lower beads of digits -/
def HiL (ds : List Int) : List Int := ds.map fun d => d / 5
def LoL (ds : List Int) : List Int := ds.map fun d => d % 5
/-- the cells of rods that show digits -/
def RC : List Int → List Value
  | [] => []
  | d :: ds => .int .i64 (d / 5) :: .int .i64 (d % 5) :: RC ds
theorem HiL_length (ds : List Int) : (HiL ds).length = ds.length := by simp [HiL]
theorem LoL_length (ds : List Int) : (LoL ds).length = ds.length := by simp [LoL]
theorem RC_length (ds : List Int) : (RC ds).length = 2 * ds.length := by
  induction ds with
  | nil => rfl
  | cons d ds ih => simp [RC, ih]; omega
theorem RC_hi (ds : List Int) : ∀ k d, ds[k]? = some d → (RC ds)[2 * k]? = some (.int .i64 (d / 5)) := by
  induction ds with
  | nil => intro k d h; simp at h
  | cons a ds ih =>
    intro k d h
    cases k with
    | zero => simp at h; subst h; rfl
    | succ k => rw [show 2 * (k + 1) = 2 * k + 1 + 1 from by omega]; simp only [RC, List.getElem?_cons_succ]; exact ih k d (by simpa using h)
theorem RC_lo (ds : List Int) : ∀ k d, ds[k]? = some d → (RC ds)[2 * k + 1]? = some (.int .i64 (d % 5)) := by
  induction ds with
  | nil => intro k d h; simp at h
  | cons a ds ih =>
    intro k d h
    cases k with
    | zero => simp at h; subst h; rfl
    | succ k => rw [show 2 * (k + 1) + 1 = 2 * k + 1 + 1 + 1 from by omega]; simp only [RC, List.getElem?_cons_succ]; exact ih k d (by simpa using h)
theorem RC_set (ds : List Int) : ∀ k x, k < ds.length → ((RC ds).set (2 * k) (.int .i64 (x / 5))).set (2 * k + 1) (.int .i64 (x % 5)) = RC (ds.set k x) := by
  induction ds with
  | nil => intro k x h; simp at h
  | cons a ds ih =>
    intro k x h
    cases k with
    | zero => rfl
    | succ k =>
      rw [show 2 * (k + 1) + 1 = 2 * k + 1 + 1 + 1 from by omega, show 2 * (k + 1) = 2 * k + 1 + 1 from by omega]
      simp only [RC, List.set_cons_succ]
      rw [ih k x (by simpa using h)]

/-- the rods in block h, the slice of them in block g -/
def Rods (w : World) (B g h : Nat) (ds : List Int) : Prop :=
  w.heap[g]? = some (.cells #[.slice (some ⟨h, 0, none⟩) ds.length ds.length] 80 (0, 0)) ∧ w.heap[h]? = some (.cells (RC ds).toArray 82 (0, 0)) ∧ B ≤ g ∧ B ≤ h ∧ g ≠ h
section
variable {w w' : World} {B g h : Nat} {ds : List Int}
theorem Rods.gl (r : Rods w B g h ds) : g < w.heap.size := (Array.getElem?_eq_some_iff.1 r.1).1
theorem Rods.hl (r : Rods w B g h ds) : h < w.heap.size := (Array.getElem?_eq_some_iff.1 r.2.1).1
theorem Rods.keep (r : Rods w B g h ds) (hg : w'.heap[g]? = w.heap[g]?) (hh : w'.heap[h]? = w.heap[h]?) : Rods w' B g h ds := ⟨hg.trans r.1, hh.trans r.2.1, r.2.2⟩
theorem Rods.next (r : Rods w B g h ds) (hb : Below w.heap.size w w') : Rods w' B g h ds := r.keep (hb.block g r.gl) (hb.block h r.hl)
theorem Rods.alloc (r : Rods w B g h ds) (o : Obj) : Rods (w.alloc o) B g h ds := r.keep (Below.heap_alloc w o g r.gl) (Below.heap_alloc w o h r.hl)
theorem Rods.drewN (r : Rods w B g h ds) (k : Nat) : Rods (w.drewN k) B g h ds := r
theorem Rods.mono {B' : Nat} (r : Rods w B g h ds) (hB : B' ≤ B) : Rods w B' g h ds := ⟨r.1, r.2.1, Nat.le_trans hB r.2.2.1, Nat.le_trans hB r.2.2.2.1, r.2.2.2.2⟩
theorem Rods.slice (r : Rods w B g h ds) : w.cell? ⟨g, 0, none⟩ = some (.slice (some ⟨h, 0, none⟩) ds.length ds.length) := cell_of_row w g 0 _ _ _ r.1
theorem Rods.hi (r : Rods w B g h ds) {k : Nat} {d : Int} (hd : ds[k]? = some d) : w.cell? ⟨h, k * 2, none⟩ = some (.int .i64 (d / 5)) := by
  rw [cell_of_row w h (k * 2) _ _ _ r.2.1, Nat.mul_comm]; simpa using RC_hi ds k d hd
theorem Rods.lo (r : Rods w B g h ds) {k : Nat} {d : Int} (hd : ds[k]? = some d) : w.cell? ⟨h, k * 2 + 1, none⟩ = some (.int .i64 (d % 5)) := by
  rw [cell_of_row w h (k * 2 + 1) _ _ _ r.2.1, Nat.mul_comm]; simpa using RC_lo ds k d hd
theorem Rods.free (r : Rods w B g h ds) (j : Nat) : w.frozen? ⟨h, j, none⟩ = false := by
  have := r.2.1
  simp [World.frozen?, this]
theorem Rods.set_ (r : Rods w B g h ds) {k : Nat} (hk : k < ds.length) (x : Int) :
    Rods ((w.setCell ⟨h, k * 2, none⟩ (.int .i64 (x / 5))).setCell ⟨h, k * 2 + 1, none⟩ (.int .i64 (x % 5))) B g h (ds.set k x) := by
  obtain ⟨h1, h2, h3, h4, h5⟩ := r
  refine ⟨?_, ?_, h3, h4, h5⟩
  · rw [heap_setCell_other _ _ g _ h5, heap_setCell_other _ _ g _ h5, List.length_set]; exact h1
  · have e1 := heap_setCell_same w h (k * 2) _ _ (.int .i64 (x / 5)) h2
    have e2 := heap_setCell_same _ h (k * 2 + 1) _ _ (.int .i64 (x % 5)) e1
    rw [e2, ← RC_set ds k x hk, Nat.mul_comm 2 k]
    simp
end
theorem grown_set {w : World} (h j : Nat) (u : Value) : w.grownBy (w.setCell ⟨h, j, none⟩ u) (some h) :=
  ⟨rfl, rfl, rfl, by simp [World.setCell], fun k _ hne => heap_setCell_other w _ k _ (fun e => hne (by rw [e]))⟩

set_option maxHeartbeats 400000 in
theorem digit_any (w : World) (h o : Nat) (d : Int) (h0 : 0 ≤ d) (h9 : d ≤ 9) (c0 : w.cell? ⟨h, o, none⟩ = some (.int .i64 (d / 5))) (c1 : w.cell? ⟨h, o + 1, none⟩ = some (.int .i64 (d % 5))) :
    Calls Tryz.prog 63 #[.pointer (some ⟨h, o, none⟩)] w fun e w' => e = .returned (.int .i64 d) ∧ ∃ q, w' = w.drewN q := by
  have b0 : 0 ≤ d / 5 ∧ d / 5 ≤ 1 := by omega
  have b1 : 0 ≤ d % 5 ∧ d % 5 ≤ 4 := by omega
  have e0 : 5 * (d / 5) + d % 5 = d := by omega
  obtain ⟨u, hu⟩ : ∃ u, d / 5 = u := ⟨_, rfl⟩
  obtain ⟨v, hv⟩ : ∃ v, d % 5 = v := ⟨_, rfl⟩
  rw [hu] at b0 c0 e0
  rw [hv] at b1 c1 e0
  obtain ⟨b00, b01⟩ := b0
  obtain ⟨b10, b11⟩ := b1
  have HE := Lib.hid e0
  clear hu hv e0 h0 h9
  have s1 : IntKind.i64.wrap (5 * u) = 5 * u := IntWalk.i64_in _ (by omega)
  have s2 : IntKind.i64.wrap (5 * u + v) = 5 * u + v := IntWalk.i64_in _ (by omega)
  go_enter Tryz.func63, Tryz.ntmps63
  go_wp2_with fail
  go_quiet (fail)
  go_wp2
  go_ret
  exact ⟨ret_int HE.out, _, rfl⟩

theorem rod_digit {w : World} {B g h : Nat} {ds : List Int} {k : Nat} {d : Int} (r : Rods w B g h ds) (hd : ds[k]? = some d) (h0 : 0 ≤ d) (h9 : d ≤ 9) :
    Calls Tryz.prog 63 #[.pointer (some ⟨h, k * 2, none⟩)] w fun e w' => e = .returned (.int .i64 d) ∧ ∃ q, w' = w.drewN q :=
  digit_any w h (k * 2) d h0 h9 (r.hi hd) (r.lo hd)

set_option maxHeartbeats 400000 in
theorem pushesTo_any (w : World) (h o : Nat) (a b c d : Int) (c0 : w.cell? ⟨h, o, none⟩ = some (.int .i64 a)) (c1 : w.cell? ⟨h, o + 1, none⟩ = some (.int .i64 b)) (hlt : h < w.heap.size) :
    Calls Tryz.prog 106 #[.pointer (some ⟨h, o, none⟩), .agg #[.int .i64 c, .int .i64 d]] w fun e w' =>
      e = .returned (.int .i64 ((if a = c then 0 else 1) + (if b = d then 0 else 1))) ∧ Below w.heap.size w w' := by
  obtain ⟨r, hr⟩ : ∃ r : Int, (if a = c then 0 else 1) = r := ⟨_, rfl⟩
  obtain ⟨s, hs⟩ : ∃ r : Int, (if b = d then 0 else 1) = r := ⟨_, rfl⟩
  rw [hr, hs]
  rcases hac : (a != c) with _ | _ <;> rcases hbd : (b != d) with _ | _
  all_goals
    have e1 : ∀ x y : Int, (x != y) = false → (if x = y then (0 : Int) else 1) = 0 := by intro x y h; rw [if_pos (by simpa using h)]
    have e2 : ∀ x y : Int, (x != y) = true → (if x = y then (0 : Int) else 1) = 1 := by intro x y h; rw [if_neg (by simpa using h)]
    first | rw [e1 _ _ hac] at hr | rw [e2 _ _ hac] at hr
    first | rw [e1 _ _ hbd] at hs | rw [e2 _ _ hbd] at hs
    subst hr
    subst hs
    clear e1 e2
    go_enter Tryz.func106, Tryz.ntmps106
    go_wp2_with fail
    go_quiet (fail)
    go_wp2_with fail
    go_quiet (fail)
    go_wp2
    go_ret
    first
      | exact ⟨rfl, below_drewN ((Below.refl _ _).alloc (Nat.le_refl _) _) _⟩
      | exact ⟨rfl, below_drewN (below_drewN ((Below.refl _ _).alloc (Nat.le_refl _) _) _) _⟩

set_option maxHeartbeats 1000000 in
theorem show_any (w : World) (B g h : Nat) (ds : List Int) (k : Nat) (d x : Int) (hr : Rods w B g h ds) (hd : ds[k]? = some d) (x0 : 0 ≤ x) (x9 : x ≤ 9) :
    Calls Tryz.prog 57 #[.pointer (some ⟨h, k * 2, none⟩), .int .i64 x] w fun e w' => e = .returned (.int .i64 (Fr.cost d x)) ∧ Rods w' B g h (ds.set k x) ∧ w.grownBy w' (some h) := by
  have hl := hr.hl
  have hk : k < ds.length := (List.getElem?_eq_some_iff.1 hd).1
  have c0 := (hr.alloc (.cells #[.int .i64 (x / 5), .int .i64 (x % 5)] 82)).hi hd
  have c1 := (hr.alloc (.cells #[.int .i64 (x / 5), .int .i64 (x % 5)] 82)).lo hd
  have HR := Lib.hid hr
  have HK := Lib.hid hk
  clear hd hr hk
  go_enter Tryz.func57, Tryz.ntmps57
  go_wp2_with fail
  refine (show Calls Tryz.prog 106 #[.pointer (some ⟨h, k * 2, none⟩), .agg #[.int .i64 (x / 5), .int .i64 (x % 5)]] _ (fun e w' => e = .returned (.int .i64 (Fr.cost d x)) ∧ Below _ _ w') from pushesTo_any _ _ _ _ _ _ _ c0 c1 (by simp; omega)).mono ?_
  rintro e w1 ⟨rfl, hb1⟩
  have hr1 := (HR.out.alloc _).next hb1
  have f0 := hr1.free (k * 2)
  have f1 := hr1.free (k * 2 + 1)
  have c10 := (hb1.cell (p := ⟨h, k * 2, none⟩) (by simp; omega)).trans c0
  have c11 := (hb1.cell (p := ⟨h, k * 2 + 1, none⟩) (by simp; omega)).trans c1
  have b0 : w1.cell? ⟨w.heap.size, 0, none⟩ = some (.int .i64 (x / 5)) := (hb1.cell (p := ⟨w.heap.size, 0, none⟩) (by simp)).trans (by rw [cell_of_row _ w.heap.size 0 _ _ _ (heap_alloc_new w _)]; rfl)
  have b1 : w1.cell? ⟨w.heap.size, 1, none⟩ = some (.int .i64 (x % 5)) := (hb1.cell (p := ⟨w.heap.size, 1, none⟩) (by simp)).trans (by rw [cell_of_row _ w.heap.size 1 _ _ _ (heap_alloc_new w _)]; rfl)
  have HR1 := Lib.hid hr1
  have HB1 := Lib.hid hb1
  clear hr1 hb1 c0 c1
  go_wp2
  go_ret
  refine ⟨rfl, HR1.out.set_ HK.out x, ?_⟩
  exact (((World.grownBy_alloc _ _ _).trans (grown_of_below HB1.out (some h))).trans (grown_set h _ _)).trans (grown_set h _ _)
end Go.Proofs.YthdoofmfigemoaaGreatDoor
end

section
/-
  The table of a script in memory, and what the commands leave as it is.
-/
namespace Go.Proofs.YthdoofmfigemoaaGreatDoor
open Go.RowKit
set_option linter.unusedSimpArgs false

theorem OwnR.ty {w : World} {B k n c : Nat} {e : TypeId} {A : Option Addr} {vs : List Value} (h : OwnR w B e k A n c vs) {q : Nat} (hq : (Value.slice A n c).ownBlock = some q) : ∃ cur z, w.heap[q]? = some (.cells cur e z) := by
  rcases h.1.2 with ⟨h0, _⟩ | ⟨g, cap, cur, hv, _, hg, _⟩
  · rw [h0] at hq; cases hq
  · rw [hv] at hq
    have : g = q := by simpa [Value.ownBlock] using hq
    subst this
    exact ⟨cur, _, hg⟩
/-- a store in a block of another type -/
theorem OwnR.far {w : World} {B k n c b : Nat} {e T : TypeId} {A : Option Addr} {vs : List Value} {cs : Array Value} (h : OwnR w B e k A n c vs) (hb : Blk w b cs T) (hne : e ≠ T) (j : Nat) (v : Value) : OwnR (w.setCell ⟨b, j, none⟩ v) B e k A n c vs :=
  h.kept (hb.grows j v) fun q hq e' => by
    obtain ⟨cur, z, h1⟩ := h.ty hq
    injection e' with e'
    subst e'
    have h2 : w.heap[b]? = some (.cells cs T (0, 0)) := hb
    rw [h1] at h2
    injection h2 with h2
    injection h2 with _ h2 _
    exact hne h2
theorem Own.r {w : World} {B n c : Nat} {A : Option Addr} {xs : List Int} (h : Own w B A n c xs) : OwnR w B 3 1 A n c (IV xs) := h
/-- the blocks that a command may change: tables and rows of tallies -/
def Mut (B0 : Nat) (w : World) (k : Nat) : Prop := B0 ≤ k ∧ ∃ cs z T, w.heap[k]? = some (.cells cs T z) ∧ (T = 62 ∨ T = 52)
def KeptT (B0 : Nat) (w w' : World) : Prop := Kept w w' (Mut B0 w)
theorem KeptT.trans {B0 : Nat} {a b c : World} (h : KeptT B0 a b) (k : KeptT B0 b c) : KeptT B0 a c := by
  refine ⟨k.os.trans h.os, k.tape.trans h.tape, k.output.trans h.output, Nat.le_trans h.size k.size, fun i hi hn => ?_⟩
  have e := h.block i hi hn
  refine (k.block i (Nat.lt_of_lt_of_le hi h.size) ?_).trans e
  rintro ⟨h0, cs, z, T, h1, h2⟩
  exact hn ⟨h0, cs, z, T, by rw [← e]; exact h1, h2⟩
theorem KeptT.below {B0 : Nat} {a b : World} (h : KeptT B0 a b) (hB : B0 ≤ a.heap.size) : Below B0 a b := Kept.below h hB fun _ q => q.1
theorem KeptT.of_below {B0 : Nat} {a b : World} (h : Below a.heap.size a b) : KeptT B0 a b := ⟨h.os, h.tape, h.output, h.size, fun i hi _ => h.block i hi⟩
theorem KeptT.refl (B0 : Nat) (w : World) : KeptT B0 w w := Kept.refl _ _
theorem KeptT.set {B0 : Nat} {w : World} {tb : Nat} {cs : Array Value} (hb : Blk w tb cs 62) (hB : B0 ≤ tb) (j : Nat) (v : Value) : KeptT B0 w (w.setCell ⟨tb, j, none⟩ v) :=
  (Kept.of_grown (hb.grows j v)).mono fun k _ e => by injection e with e; subst e; exact ⟨hB, _, _, _, hb, .inl rfl⟩
theorem Blk.keptT {B0 : Nat} {w w' : World} {b : Nat} {cs : Array Value} {T : TypeId} (h : Blk w b cs T) (hk : KeptT B0 w w') (h1 : T ≠ 62) (h2 : T ≠ 52) : Blk w' b cs T := by
  refine h.keep (hk.block b h.lt ?_)
  rintro ⟨_, cs', z, T', e, ht⟩
  have h3 : w.heap[b]? = some (.cells cs T (0, 0)) := h
  rw [h3] at e
  injection e with e
  injection e with _ e _
  subst e
  rcases ht with ht | ht
  · exact h1 ht
  · exact h2 ht

/-- the table: its board, its frame (by its digits), its tallies -/
def Tab (B0 : Nat) (w : World) (tb : Nat) (bs ds : List Int) (ts : List Tl) : Prop :=
  B0 ≤ tb ∧ ∃ Ab nb cb A c A' c' At nt ct, Blk w tb #[.slice Ab nb cb, .slice A 4 c, .slice A' 4 c', .slice At nt ct] 62 ∧ Own w B0 Ab nb cb bs ∧ Own w B0 A 4 c (HiL ds) ∧ Own w B0 A' 4 c' (LoL ds) ∧ OwnT w B0 At nt ct ts
theorem Tab.next {B0 : Nat} {w w' : World} {tb : Nat} {bs ds : List Int} {ts : List Tl} (h : Tab B0 w tb bs ds ts) (hb : Below w.heap.size w w') : Tab B0 w' tb bs ds ts := by
  obtain ⟨hB, Ab, nb, cb, A, c, A', c', At, nt, ct, h0, h1, h2, h3, h4⟩ := h
  exact ⟨hB, Ab, nb, cb, A, c, A', c', At, nt, ct, h0.next hb, h1.r.next hb, h2.r.next hb, h3.r.next hb, h4.next hb⟩
theorem Tab.alloc {B0 : Nat} {w : World} {tb : Nat} {bs ds : List Int} {ts : List Tl} (h : Tab B0 w tb bs ds ts) (o : Obj) : Tab B0 (w.alloc o) tb bs ds ts := h.next ((Below.refl _ _).alloc (Nat.le_refl _) o)
/-- a store into a block that is no part of the table -/
theorem Tab.far {B0 : Nat} {w : World} {tb b : Nat} {bs ds : List Int} {ts : List Tl} {cs : Array Value} {T : TypeId} (h : Tab B0 w tb bs ds ts) (hb : Blk w b cs T) (h1 : T ≠ 62) (h2 : T ≠ 52) (h3 : T ≠ 3) (j : Nat) (v : Value) : Tab B0 (w.setCell ⟨b, j, none⟩ v) tb bs ds ts := by
  obtain ⟨hB, Ab, nb, cb, A, c, A', c', At, nt, ct, g0, g1, g2, g3, g4⟩ := h
  refine ⟨hB, Ab, nb, cb, A, c, A', c', At, nt, ct, g0.other ?_ v, g1.r.far hb h3.symm j v, g2.r.far hb h3.symm j v, g3.r.far hb h3.symm j v, g4.far hb h2.symm j v⟩
  intro e
  simp only at e
  subst e
  have e1 : w.heap[tb]? = some (.cells _ _ (0, 0)) := g0
  have e2 : w.heap[tb]? = some (.cells cs T (0, 0)) := hb
  rw [e1] at e2
  injection e2 with e2
  injection e2 with _ e2 _
  exact h1 e2.symm
theorem Tab.setBoard {B0 : Nat} {w : World} {tb nb cb : Nat} {bs bs' ds : List Int} {ts : List Tl} {Ab : Option Addr} (h : Tab B0 w tb bs ds ts) (hb : Own w B0 Ab nb cb bs') : Tab B0 (w.setCell ⟨tb, 0, none⟩ (.slice Ab nb cb)) tb bs' ds ts := by
  obtain ⟨hB, Ab0, nb0, cb0, A, c, A', c', At, nt, ct, g0, g1, g2, g3, g4⟩ := h
  exact ⟨hB, Ab, nb, cb, A, c, A', c', At, nt, ct, g0.set 0 _, hb.r.far g0 (by decide) _ _, g2.r.far g0 (by decide) _ _, g3.r.far g0 (by decide) _ _, g4.far g0 (by decide) _ _⟩
theorem Tab.setFrame {B0 : Nat} {w : World} {tb c c' : Nat} {bs ds ds' : List Int} {ts : List Tl} {A A' : Option Addr} (h : Tab B0 w tb bs ds ts) (h1 : Own w B0 A 4 c (HiL ds')) (h2 : Own w B0 A' 4 c' (LoL ds')) :
    Tab B0 ((w.setCell ⟨tb, 1, none⟩ (.slice A 4 c)).setCell ⟨tb, 2, none⟩ (.slice A' 4 c')) tb bs ds' ts := by
  obtain ⟨hB, Ab, nb, cb, A0, c0, A0', c0', At, nt, ct, g0, g1, g2, g3, g4⟩ := h
  have k0 := g0.set 1 (.slice A 4 c)
  exact ⟨hB, Ab, nb, cb, A, c, A', c', At, nt, ct, k0.set 2 _, (g1.r.far g0 (by decide) _ _).far k0 (by decide) _ _, (h1.r.far g0 (by decide) _ _).far k0 (by decide) _ _, (h2.r.far g0 (by decide) _ _).far k0 (by decide) _ _, (g4.far g0 (by decide) _ _).far k0 (by decide) _ _⟩
theorem Tab.setTallies {B0 : Nat} {w : World} {tb nt ct : Nat} {bs ds : List Int} {ts ts' : List Tl} {At : Option Addr} (h : Tab B0 w tb bs ds ts) (ht : OwnT w B0 At nt ct ts') : Tab B0 (w.setCell ⟨tb, 3, none⟩ (.slice At nt ct)) tb bs ds ts' := by
  obtain ⟨hB, Ab, nb, cb, A, c, A', c', At0, nt0, ct0, g0, g1, g2, g3, g4⟩ := h
  exact ⟨hB, Ab, nb, cb, A, c, A', c', At, nt, ct, g0.set 3 _, g1.r.far g0 (by decide) _ _, g2.r.far g0 (by decide) _ _, g3.r.far g0 (by decide) _ _, ht.far g0 (by decide) _ _⟩

/-- what a command hands back, and what it leaves as it was -/
def CmdPost (B0 : Nat) (Q : ByteArray → Bool → World → Prop) (w : World) (e : Ending) (w' : World) : Prop :=
  ∃ s ok, e = .returned (.tuple #[.string s, .bool ok]) ∧ Q s ok w' ∧ KeptT B0 w w'
end Go.Proofs.YthdoofmfigemoaaGreatDoor
end

section
/-
  runLine: a good line hands back what its command says.
-/
namespace Go.Proofs.YthdoofmfigemoaaGreatDoor
open Go.RowKit
set_option linter.unusedSimpArgs false

set_option maxRecDepth 100000 in
theorem catch_quiet (p : Addr) (w : World) :
    CallsD Tryz.prog 92 #[.pointer (some p)] .returning w fun e u' w' => e = .returned (.tuple #[]) ∧ u' = .returning ∧ w' = w := by
  refine callsD_of_wpS Tryz.func92 rfl fun c₀ cs hu => ?_
  apply wpS_seq
  apply wpS_region
  simp [wpOpsS, go_sem, recoverD, hu, Tryz.ntmps92, Exit.thenS]
  refine wpS_seq ?_
  apply wpS_region
  simp [wpOpsS, go_sem, Exit.thenS]
  refine wpS_cond (t := false) (by simp [Act.eval, Array.replicate]) ?_
  simp only [Bool.false_eq_true, if_false]
  refine wpS_of_wp (wp_skip ?_)
  cases c₀
  simp_all [bodyPostS, results, Tryz.results92]

def LinePost (B0 : Nat) (w : World) (Q : ByteArray → Bool → World → Prop) (e : Ending) (w' : World) : Prop :=
  ∃ s ok w2 x, e = .returned (.string (if ok then s else ⟨#[110, 111, 10]⟩)) ∧ Q s ok w2 ∧ KeptT B0 w w2 ∧ Blk w2 w.heap.size #[.string ⟨#[]⟩] 9 ∧ w' = (w2.setCell ⟨w.heap.size, 0, none⟩ (.string s)).setCell ⟨w.heap.size, 0, none⟩ x

set_option maxRecDepth 100000 in
set_option maxHeartbeats 2000000 in
theorem runLine_good (B0 : Nat) (t : Addr) (line : ByteArray) (c : Nat × Nat) (nums : List Int) (w : World) (Q : ByteArray → Bool → World → Prop) (hs : line.size ≤ 1000) (hm : Max w) (hg : Good line.data.toList c nums) (hc3 : c.1 ≤ 3)
    (hcf : ∀ (args : Array Value) (w : World), (callFunc c.2 args).run Tryz.prog w = .ok (.enter c.2 args) w)
    (hr : ∀ (w1 : World) (A : Option Addr) (n : Nat), Own w1 (w.heap.size + 1) A nums.length n nums → Below w.heap.size w w1 → Calls Tryz.prog c.2 #[.pointer (some t), .slice A nums.length n] w1 (CmdPost B0 Q w1)) :
    Calls Tryz.prog 46 #[.pointer (some t), .string line] w (LinePost B0 w Q) := by
  have hmf : ∀ (fn : Fn) (first cap : Array Value) (w : World), (Instr.makeFunc fn first cap).run Tryz.prog w = .ok (.func fn first cap) w := fun _ _ _ _ => rfl
  have HR := Lib.hid hr
  clear hr
  obtain ⟨W, hW⟩ : ∃ W, w.alloc (.cells #[.string ⟨#[]⟩] 9) = W := ⟨_, rfl⟩
  have hb2 : Blk W w.heap.size #[.string ⟨#[]⟩] 9 := by rw [← hW]; exact Blk.new _ _ _
  have hbl : Below w.heap.size w W := by rw [← hW]; exact (Below.refl _ _).alloc (Nat.le_refl _) _
  have hmW : Max W := by obtain ⟨m, hm⟩ := hm; exact ⟨m, by rw [← hW]; exact (World.cell?_alloc_lt w _ _ (World.block_lt_of_cell? w _ hm)).trans hm⟩
  have hsz : W.heap.size = w.heap.size + 1 := by rw [← hW]; simp
  have HW := Lib.hid hW
  have HB2 := Lib.hid hb2
  have HBL := Lib.hid hbl
  clear hW hb2 hbl
  go_enter_defers Tryz.func46, Tryz.ntmps46
  go_wp2_with fail
  rw [HW.out]
  refine (parseLine_good line c nums W hs hmW hg hc3).mono ?_
  rintro e w1 ⟨A, n, rfl, ho, hb⟩
  obtain ⟨cn, fid⟩ := c
  obtain ⟨W2, hW2⟩ : ∃ W2, w1.alloc (.cells #[.int .i64 (cn : Int), .func (.func fid) #[] #[]] 139) = W2 := ⟨_, rfl⟩
  have hst : Blk W2 w1.heap.size #[.int .i64 (cn : Int), .func (.func fid) #[] #[]] 139 := by rw [← hW2]; exact Blk.new _ _ _
  have hb21 : Blk W2 w.heap.size #[.string ⟨#[]⟩] 9 := by rw [← hW2]; exact (HB2.out.next hb).alloc _
  have hbl1 : Below w.heap.size w W2 := by rw [← hW2]; exact (HBL.out.trans (hb.mono HBL.out.size)).alloc (Nat.le_trans HBL.out.size hb.size) _
  have hoo : Own W2 (w.heap.size + 1) A nums.length n nums := by rw [← hW2, ← hsz]; exact ho.alloc _
  have d1 := hst.cell (j := 1) (v := .func (.func fid) #[] #[]) rfl
  have HO := Lib.hid hoo
  have HB21 := Lib.hid hb21
  have HBL1 := Lib.hid hbl1
  have HST := Lib.hid hst
  have HW2 := Lib.hid hW2
  clear ho hb hW2 hst hb21 hbl1 hoo
  simp only [cmdVal]
  go_wp2_with fail
  rw [HW2.out]
  refine (HR.out W2 A n HO.out HBL1.out).mono ?_
  rintro e w3 ⟨s, ok, rfl, hq, hk⟩
  have hb3 : Blk w3 w.heap.size #[.string ⟨#[]⟩] 9 := HB21.out.keptT hk (by decide) (by decide)
  have HK := Lib.hid ((KeptT.of_below (B0 := B0) HBL1.out).trans hk)
  have m0 := hb3.cell (j := 0) (v := .string ⟨#[]⟩) rfl
  have f0 := hb3.free 0
  have HQ := Lib.hid hq
  have HB3 := Lib.hid hb3
  clear hq hk hb3
  cases ok <;> go_wp2_with fail
  all_goals
    refine leaves_cons (f := 92) (args := #[.pointer (some ⟨w.heap.size, 0, none⟩)]) (by simp) (by simp [go_sem]) ?_
    refine (catch_quiet ⟨w.heap.size, 0, none⟩ _).mono ?_
    rintro e u' w4 ⟨rfl, rfl, rfl⟩
  · have g0 := ((HB3.out.set 0 (.string s)).set 0 (.string ⟨#[110, 111, 10]⟩)).cell (j := 0) (v := .string ⟨#[110, 111, 10]⟩) rfl
    refine ⟨.string ⟨#[110, 111, 10]⟩, ?_, s, false, w3, _, rfl, HQ.out, HK.out, HB3.out, rfl⟩
    simp [results, Tryz.results46, go_sem, g0]
  · have g0 := ((HB3.out.set 0 (.string s)).set 0 (.string s)).cell (j := 0) (v := .string s) rfl
    refine ⟨.string s, ?_, s, true, w3, _, rfl, HQ.out, HK.out, HB3.out, rfl⟩
    simp [results, Tryz.results46, go_sem, g0]
end Go.Proofs.YthdoofmfigemoaaGreatDoor
end

section
/-
  Plain lists of counters: values, digits, carries, with no program in sight.
-/
namespace Go.Proofs.YthdoofmfigemoaaGreatDoor.Bd

/-- how many counters of a place make one of the next: 5 at a line (true), 2 in a space (false) -/
def full (b : Bool) : Int := if b then 5 else 2
def V : Bool → List Int → Int
  | _, [] => 0
  | b, x :: xs => x + full b * V (!b) xs
def isRed : Bool → List Int → Bool
  | _, [] => true
  | b, x :: xs => decide (x < full b) && isRed (!b) xs
def D : Bool → Nat → Int → List Int
  | _, 0, _ => []
  | b, n + 1, v => v % full b :: D (!b) n (v / full b)
/-- the sum of all carries -/
def R : Bool → Int → List Int → Int
  | _, _, [] => 0
  | b, c, x :: xs => (x + c) / full b + R (!b) ((x + c) / full b) xs
/-- the last carry -/
def C : Bool → Int → List Int → Int
  | _, c, [] => c
  | b, c, x :: xs => C (!b) ((x + c) / full b) xs
def sum : List Int → Int
  | [] => 0
  | x :: xs => x + sum xs
def allIn (xs : List Int) : Bool := xs.all fun x => decide (0 ≤ x) && decide (x ≤ 20)
def okB (xs : List Int) : Bool := (xs.length == 10) && allIn xs
def P : Bool → Nat → Int
  | _, 0 => 1
  | b, n + 1 => full b * P (!b) n

theorem full_cases (b : Bool) : full b = 5 ∨ full b = 2 := by cases b <;> simp [full]
theorem full_pos (b : Bool) : 0 < full b := by rcases full_cases b with h | h <;> omega

theorem allIn_iff (xs : List Int) : allIn xs = true ↔ ∀ x ∈ xs, 0 ≤ x ∧ x ≤ 20 := by simp [allIn]
theorem allIn_cons (x : Int) (xs : List Int) : allIn (x :: xs) = true ↔ (0 ≤ x ∧ x ≤ 20) ∧ allIn xs = true := by simp [allIn]
theorem okB_iff (xs : List Int) : okB xs = true ↔ xs.length = 10 ∧ ∀ x ∈ xs, 0 ≤ x ∧ x ≤ 20 := by simp [okB, allIn]

theorem D_length (n : Nat) : ∀ b v, (D b n v).length = n := by
  induction n with
  | zero => intro b v; rfl
  | succ n ih => intro b v; simp [D, ih]

theorem P_pos (n : Nat) : ∀ b, 0 < P b n := by
  induction n with
  | zero => intro b; simp [P]
  | succ n ih => intro b; simp only [P]; exact Int.mul_pos (full_pos b) (ih _)

/-- digits have their value back -/
theorem V_D (n : Nat) : ∀ b v, 0 ≤ v → v < P b n → V b (D b n v) = v := by
  induction n with
  | zero => intro b v h0 h1; simp [P] at h1; simp [D, V]; omega
  | succ n ih =>
    intro b v h0 h1
    have hf := full_pos b
    have h2 : v / full b < P (!b) n := Int.ediv_lt_of_lt_mul hf (by rw [Int.mul_comm]; simpa [P] using h1)
    have h3 : 0 ≤ v / full b := Int.ediv_nonneg h0 (by omega)
    simp only [D, V, ih _ _ h3 h2]
    exact Int.emod_add_mul_ediv v (full b)

theorem red_D (n : Nat) : ∀ b v, isRed b (D b n v) = true := by
  induction n with
  | zero => intro b v; rfl
  | succ n ih =>
    intro b v
    have := Int.emod_lt_of_pos v (full_pos b)
    simp [D, isRed, ih, this]

theorem D_range (n : Nat) : ∀ b v, ∀ x ∈ D b n v, 0 ≤ x ∧ x ≤ 20 := by
  induction n with
  | zero => intro b v x hx; simp [D] at hx
  | succ n ih =>
    intro b v x hx
    rcases List.mem_cons.1 hx with rfl | h
    · have h1 : 0 ≤ v % full b := Int.emod_nonneg v (by have := full_pos b; omega)
      have h2 := Int.emod_lt_of_pos v (full_pos b)
      rcases full_cases b with h | h <;> rw [h] at h1 h2 ⊢ <;> omega
    · exact ih _ _ x h

theorem okB_D (v : Int) : okB (D true 10 v) = true := (okB_iff _).2 ⟨D_length _ _ _, D_range _ _ _⟩

/-- carrying is taking the digits of the value -/
def N : Bool → Int → List Int → List Int
  | _, _, [] => []
  | b, c, x :: xs => (x + c) % full b :: N (!b) ((x + c) / full b) xs

theorem D_eq_N (xs : List Int) : ∀ b c, D b xs.length (V b xs + c) = N b c xs := by
  induction xs with
  | nil => intro b c; rfl
  | cons x xs ih =>
    intro b c
    have hf := full_pos b
    have e : V b (x :: xs) + c = (x + c) + full b * V (!b) xs := by simp only [V]; omega
    simp only [List.length_cons, D, N, e]
    rw [Int.add_mul_emod_self_left, Int.add_mul_ediv_left _ _ (by omega)]
    rw [show (x + c) / full b + V (!b) xs = V (!b) xs + (x + c) / full b from Int.add_comm _ _, ih]

theorem N_length (xs : List Int) : ∀ b c, (N b c xs).length = xs.length := by
  induction xs with
  | nil => intro b c; rfl
  | cons x xs ih => intro b c; simp [N, ih]

theorem V_N (xs : List Int) : ∀ b c, V b xs + c = V b (N b c xs) + P b xs.length * C b c xs := by
  induction xs with
  | nil => intro b c; simp [V, N, P, C]
  | cons x xs ih =>
    intro b c
    have h := ih (!b) ((x + c) / full b)
    have e := Int.emod_add_mul_ediv (x + c) (full b)
    simp only [V, N, List.length_cons, P, C]
    have h2 : full b * (V (!b) xs + (x + c) / full b) = full b * (V (!b) (N (!b) ((x + c) / full b) xs) + P (!b) xs.length * C (!b) ((x + c) / full b) xs) := by rw [h]
    rw [Int.mul_add, Int.mul_add] at h2
    rw [Int.mul_assoc]
    omega

theorem C_nonneg (xs : List Int) : ∀ b c, 0 ≤ c → (∀ x ∈ xs, 0 ≤ x) → 0 ≤ C b c xs := by
  induction xs with
  | nil => intro b c h _; exact h
  | cons x xs ih =>
    intro b c h hx
    exact ih _ _ (Int.ediv_nonneg (by have := hx x (by simp); omega) (by have := full_pos b; omega)) (fun y hy => hx y (by simp [hy]))

theorem R_nonneg (xs : List Int) : ∀ b c, 0 ≤ c → (∀ x ∈ xs, 0 ≤ x) → 0 ≤ R b c xs := by
  induction xs with
  | nil => intro b c h _; exact Int.le_refl _
  | cons x xs ih =>
    intro b c h hx
    have h1 : 0 ≤ (x + c) / full b := Int.ediv_nonneg (by have := hx x (by simp); omega) (by have := full_pos b; omega)
    have := ih (!b) _ h1 (fun y hy => hx y (by simp [hy]))
    simp only [R]; omega

/-- what carrying takes away lies between the carries and four times them -/
theorem R_sum (xs : List Int) : ∀ b c, 0 ≤ c → (∀ x ∈ xs, 0 ≤ x) →
    R b c xs + C b c xs ≤ sum xs + c - sum (N b c xs) ∧ sum xs + c - sum (N b c xs) ≤ 4 * R b c xs + C b c xs := by
  induction xs with
  | nil => intro b c h _; simp [sum, N, R, C]
  | cons x xs ih =>
    intro b c h hx
    have h1 : 0 ≤ (x + c) / full b := Int.ediv_nonneg (by have := hx x (by simp); omega) (by have := full_pos b; omega)
    have h2 := ih (!b) _ h1 (fun y hy => hx y (by simp [hy]))
    have e := Int.emod_add_mul_ediv (x + c) (full b)
    simp only [sum, N, R, C]
    generalize hq : (x + c) / full b = q at *
    generalize (x + c) % full b = r at *
    have e2 : full b * q = 5 * q ∨ full b * q = 2 * q := by rcases full_cases b with hb | hb <;> rw [hb] <;> simp
    generalize full b * q = s at *
    omega

theorem R_zero (xs : List Int) : ∀ b c, 0 ≤ c → (∀ x ∈ xs, 0 ≤ x) → (R b c xs = 0 ↔ R b c xs ≤ 0) := by
  intro b c h hx
  have := R_nonneg xs b c h hx
  omega

theorem R_red (xs : List Int) : ∀ b, (∀ x ∈ xs, 0 ≤ x) → (R b 0 xs = 0 ↔ isRed b xs = true) := by
  induction xs with
  | nil => intro b _; simp [R, isRed]
  | cons x xs ih =>
    intro b hx
    have hf := full_pos b
    have h0 := hx x (by simp)
    have hx' : ∀ y ∈ xs, 0 ≤ y := fun y hy => hx y (by simp [hy])
    have h1 : 0 ≤ x / full b := Int.ediv_nonneg h0 (by omega)
    simp only [R, isRed, Int.add_zero, Bool.and_eq_true, decide_eq_true_eq]
    have hR := R_nonneg xs (!b) _ h1 hx'
    constructor
    · intro h
      have hz : x / full b = 0 := by omega
      have hlt : x < full b := by
        rcases full_cases b with hb | hb <;> rw [hb] at hz ⊢ <;> omega
      refine ⟨hlt, (ih _ hx').1 ?_⟩
      rw [hz] at h
      simpa using h
    · rintro ⟨hlt, hr⟩
      have hz : x / full b = 0 := Int.ediv_eq_zero_of_lt h0 hlt
      rw [hz, (ih _ hx').2 hr]; rfl

theorem C_red (xs : List Int) : ∀ b, (∀ x ∈ xs, 0 ≤ x) → isRed b xs = true → C b 0 xs = 0 ∧ N b 0 xs = xs := by
  induction xs with
  | nil => intro b _ _; exact ⟨rfl, rfl⟩
  | cons x xs ih =>
    intro b hx hr
    simp only [isRed, Bool.and_eq_true, decide_eq_true_eq] at hr
    have h0 := hx x (by simp)
    have hz : x / full b = 0 := Int.ediv_eq_zero_of_lt h0 hr.1
    have hm : x % full b = x := Int.emod_eq_of_lt h0 hr.1
    have := ih (!b) (fun y hy => hx y (by simp [hy])) hr.2
    simp only [C, N, Int.add_zero, hz, hm]
    exact ⟨this.1, by rw [this.2]⟩

theorem V_nonneg (xs : List Int) : ∀ b, (∀ x ∈ xs, 0 ≤ x) → 0 ≤ V b xs := by
  induction xs with
  | nil => intro b _; exact Int.le_refl _
  | cons x xs ih =>
    intro b hx
    have h0 := hx x (by simp)
    have := ih (!b) (fun y hy => hx y (by simp [hy]))
    have := Int.mul_nonneg (Int.le_of_lt (full_pos b)) this
    simp only [V]; omega

theorem V_lt_of_red (xs : List Int) : ∀ b, isRed b xs = true → V b xs < P b xs.length := by
  induction xs with
  | nil => intro b _; simp [V, P]
  | cons x xs ih =>
    intro b hr
    simp only [isRed, Bool.and_eq_true, decide_eq_true_eq] at hr
    have h := ih (!b) hr.2
    have : full b * (V (!b) xs + 1) ≤ full b * P (!b) xs.length := Int.mul_le_mul_of_nonneg_left (by omega) (Int.le_of_lt (full_pos b))
    rw [Int.mul_add] at this
    simp only [V, List.length_cons, P]; omega

theorem P10 : P true 10 = 100000 := by decide

/-- a reduced board is the digits of its value -/
theorem red_eq_D (xs : List Int) (b : Bool) (hx : ∀ x ∈ xs, 0 ≤ x) (hr : isRed b xs = true) : xs = D b xs.length (V b xs) := by
  have := D_eq_N xs b 0
  rw [Int.add_zero] at this
  rw [this, (C_red xs b hx hr).2]

theorem C_zero_of_small (xs : List Int) (h : okB xs = true) (hv : V true xs ≤ 99999) : C true 0 xs = 0 := by
  obtain ⟨hl, hx⟩ := (okB_iff xs).1 h
  have h1 := V_N xs true 0
  rw [hl, P10] at h1
  have h2 := C_nonneg xs true 0 (Int.le_refl _) (fun x hx' => (hx x hx').1)
  have h3 : 0 ≤ V true (N true 0 xs) := by
    rw [← D_eq_N]
    exact V_nonneg _ _ fun x hx => (D_range _ _ _ x hx).1
  omega

/-! the lists behind a raise and a lowering -/
def worth : Nat → Int
  | 0 => 1
  | p + 1 => worth p * (if p % 2 = 0 then 5 else 2)
def grp (p : Nat) : Int := if p % 2 = 0 then 5 else 2
def nthG : Bool → Nat → Int
  | b, 0 => full b
  | b, p + 1 => nthG (!b) p
theorem nthG_par (p : Nat) : ∀ b, nthG b p = if (p % 2 = 0) = (b = true) then 5 else 2 := by
  induction p with
  | zero => intro b; cases b <;> simp [nthG, full]
  | succ p ih => intro b; rw [nthG, ih]; rcases Nat.mod_two_eq_zero_or_one p with h | h <;> cases b <;> simp [h, Nat.add_mod]
theorem nthG_grp (p : Nat) : nthG true p = grp p := by rw [nthG_par]; simp [grp]
def W : Bool → Nat → Int
  | _, 0 => 1
  | b, p + 1 => full b * W (!b) p
theorem W_succ (p : Nat) : ∀ b, W b (p + 1) = W b p * nthG b p := by
  induction p with
  | zero => intro b; simp [W, nthG]
  | succ p ih => intro b; rw [W, ih, W, nthG, Int.mul_assoc]
theorem W_worth (p : Nat) : W true p = worth p := by
  induction p with
  | zero => rfl
  | succ p ih => rw [W_succ, ih, nthG_grp]; rfl

theorem V_set (xs : List Int) : ∀ b (p : Nat) (d : Int), p < xs.length → V b (xs.set p (xs.getD p 0 + d)) = V b xs + d * W b p := by
  induction xs with
  | nil => intro b p d h; simp at h
  | cons x xs ih =>
    intro b p d h
    cases p with
    | zero => simp [V, W]; omega
    | succ p =>
      have := ih (!b) p d (by simpa using h)
      simp only [List.set_cons_succ, List.getD_cons_succ, V, W, this, Int.mul_add]
      rw [show full b * (d * W (!b) p) = d * (full b * W (!b) p) from by rw [← Int.mul_assoc, ← Int.mul_assoc, Int.mul_comm (full b) d]]
      omega

theorem sum_set (xs : List Int) : ∀ (p : Nat) (d : Int), p < xs.length → sum (xs.set p (xs.getD p 0 + d)) = sum xs + d := by
  induction xs with
  | nil => intro p d h; simp at h
  | cons x xs ih =>
    intro p d h
    cases p with
    | zero => simp [sum]; omega
    | succ p =>
      have := ih p d (by simpa using h)
      simp only [List.set_cons_succ, List.getD_cons_succ, sum, this]; omega

/-- n counters from one place to the next -/
def move (xs : List Int) (p : Nat) (n m : Int) : List Int := (xs.set p (xs.getD p 0 + n)).set (p + 1) ((xs.set p (xs.getD p 0 + n)).getD (p + 1) 0 + m)
theorem move_length (xs : List Int) (p : Nat) (n m : Int) : (move xs p n m).length = xs.length := by simp [move]
theorem V_move (xs : List Int) (b : Bool) (p : Nat) (m : Int) (h : p + 1 < xs.length) : V b (move xs p (0 - m * nthG b p) m) = V b xs := by
  unfold move
  rw [V_set _ _ _ _ (by simpa using h), V_set _ _ _ _ (by omega), W_succ, Int.sub_mul, Int.mul_assoc, Int.mul_comm (nthG b p)]
  omega
theorem sum_move (xs : List Int) (p : Nat) (n m : Int) (h : p + 1 < xs.length) : sum (move xs p n m) = sum xs + n + m := by
  unfold move
  rw [sum_set _ _ _ (by simpa using h), sum_set _ _ _ (by omega)]
theorem move_back (xs : List Int) (p : Nat) (n m : Int) (h : p + 1 < xs.length) : move (move xs p n m) p (0 - n) (0 - m) = xs := by
  apply List.ext_getElem (by simp [move])
  intro i h1 h2
  have hp : p < xs.length := by omega
  have hne : p ≠ p + 1 := by omega
  have hne' : p + 1 ≠ p := by omega
  simp only [move, List.getElem_set, List.getD_eq_getElem?_getD, List.getElem?_set, List.length_set]
  by_cases h3 : p + 1 = i
  · subst h3
    simp [h]; omega
  · by_cases h4 : p = i
    · subst h4
      simp [hp]; omega
    · simp [h3, h4]
theorem move_succ (x : Int) (xs : List Int) (p : Nat) (n m : Int) : move (x :: xs) (p + 1) n m = x :: move xs p n m := by simp [move]
theorem move_zero (x y : Int) (xs : List Int) (n m : Int) : move (x :: y :: xs) 0 n m = (x + n) :: (y + m) :: xs := by simp [move]
theorem R_move (p : Nat) : ∀ (b : Bool) (c : Int) (xs : List Int), p + 1 < xs.length → R b c (move xs p (0 - nthG b p) 1) = R b c xs - 1 := by
  induction p with
  | zero =>
    intro b c xs h
    match xs, h with
    | x :: y :: xs, _ =>
      have e : (x + (0 - full b) + c) / full b = (x + c) / full b - 1 := by
        rw [show x + (0 - full b) + c = (x + c) + full b * (-1) from by omega, Int.add_mul_ediv_left _ _ (by have := full_pos b; omega)]
        omega
      simp only [move_zero, nthG, R, e]
      rw [show y + 1 + ((x + c) / full b - 1) = y + (x + c) / full b from by omega]
      omega
  | succ p ih =>
    intro b c xs h
    match xs, h with
    | x :: xs, h =>
      simp only [move_succ, nthG, R]
      rw [ih _ _ _ (by simpa using h)]
      omega

/-! loops over the places -/
theorem worth_range : ∀ k, k ≤ 10 → 1 ≤ worth k ∧ worth k ≤ 100000 := by decide
theorem worth_succ (k : Nat) : worth (k + 1) = worth k * grp k := rfl
theorem grp_cases (k : Nat) : grp k = 5 ∨ grp k = 2 := by unfold grp; split <;> simp
theorem V_snoc (l : List Int) (x : Int) : ∀ b, V b (l ++ [x]) = V b l + x * W b l.length := by
  induction l with
  | nil => intro b; simp [V, W]
  | cons y ys ih =>
    intro b
    simp only [List.cons_append, V, ih, List.length_cons, W, Int.mul_add]
    rw [Int.mul_left_comm]
    omega
theorem take_next {xs : List Int} {k : Nat} {u : Int} (h : xs[k]? = some u) : xs.take (k + 1) = xs.take k ++ [u] := by rw [List.take_add_one, h]; rfl
theorem V_take {xs : List Int} {k : Nat} {u : Int} (h : xs[k]? = some u) : V true (xs.take (k + 1)) = V true (xs.take k) + u * worth k := by
  have hk := (List.getElem?_eq_some_iff.1 h).1
  rw [take_next h, V_snoc, List.length_take, show min k xs.length = k from by omega, W_worth]
theorem sum_snoc (l : List Int) (x : Int) : sum (l ++ [x]) = sum l + x := by
  induction l with
  | nil => simp [sum]
  | cons y ys ih => simp only [List.cons_append, sum, ih]; omega
theorem sum_take {xs : List Int} {k : Nat} {u : Int} (h : xs[k]? = some u) : sum (xs.take (k + 1)) = sum (xs.take k) + u := by rw [take_next h, sum_snoc]
theorem term_range {u : Int} {k : Nat} (h0 : 0 ≤ u) (h1 : u ≤ 20) (hk : k ≤ 10) : 0 ≤ u * worth k ∧ u * worth k ≤ 2000000 := by
  obtain ⟨w0, w1⟩ := worth_range k hk
  have a := Int.mul_nonneg h0 (by omega : 0 ≤ worth k)
  have b : u * worth k ≤ 20 * worth k := Int.mul_le_mul_of_nonneg_right h1 (by omega)
  omega
theorem V_take_range {xs : List Int} (hx : ∀ x ∈ xs, 0 ≤ x ∧ x ≤ 20) : ∀ k, k ≤ 10 → k ≤ xs.length → 0 ≤ V true (xs.take k) ∧ V true (xs.take k) ≤ 2000000 * k := by
  intro k
  induction k with
  | zero => intro _ _; simp [V]
  | succ k ih =>
    intro h1 h2
    have hu : xs[k]? = some xs[k] := List.getElem?_eq_getElem (by omega)
    have := ih (by omega) (by omega)
    have hm := hx xs[k] (List.getElem_mem _)
    have := term_range hm.1 hm.2 (by omega : k ≤ 10)
    rw [V_take hu]
    omega
theorem sum_take_range {xs : List Int} (hx : ∀ x ∈ xs, 0 ≤ x ∧ x ≤ 20) : ∀ k, k ≤ xs.length → 0 ≤ sum (xs.take k) ∧ sum (xs.take k) ≤ 20 * k := by
  intro k
  induction k with
  | zero => intro _; simp [sum]
  | succ k ih =>
    intro h2
    have hu : xs[k]? = some xs[k] := List.getElem?_eq_getElem (by omega)
    have := ih (by omega)
    have hm := hx xs[k] (List.getElem_mem _)
    rw [sum_take hu]
    omega
theorem isRed_iff (xs : List Int) : ∀ b, isRed b xs = true ↔ ∀ (k : Nat) u, xs[k]? = some u → u < nthG b k := by
  induction xs with
  | nil => intro b; simp [isRed]
  | cons x xs ih =>
    intro b
    simp only [isRed, Bool.and_eq_true, decide_eq_true_eq, ih]
    constructor
    · rintro ⟨h1, h2⟩ k u hu
      cases k with
      | zero => simp at hu; subst hu; exact h1
      | succ k => exact h2 k u (by simpa using hu)
    · intro h
      exact ⟨h 0 x rfl, fun k u hu => h (k + 1) u (by simpa using hu)⟩
theorem isRed_true (xs : List Int) : isRed true xs = true ↔ ∀ (k : Nat) u, xs[k]? = some u → u < grp k := by
  rw [isRed_iff]; simp only [nthG_grp]
theorem isRed_no {xs : List Int} {k : Nat} {u : Int} (h : xs[k]? = some u) (hu : grp k ≤ u) : isRed true xs = false := by
  cases hb : isRed true xs with
  | false => rfl
  | true => have := (isRed_true xs).1 hb k u h; omega
theorem isRed_yes {xs : List Int} {n : Nat} (hl : xs.length = n) (h : ∀ (k : Nat) u, k < n → xs[k]? = some u → u < grp k) : isRed true xs = true :=
  (isRed_true xs).2 fun k u hu => h k u (by have := (List.getElem?_eq_some_iff.1 hu).1; omega) hu

/-! the digits from the last place down, as the program takes them -/
theorem D_get (n : Nat) : ∀ b v (k : Nat), 0 ≤ v → k < n → (D b n v)[k]? = some (v / W b k % nthG b k) := by
  induction n with
  | zero => intro b v k _ h; omega
  | succ n ih =>
    intro b v k h0 h
    cases k with
    | zero => simp [D, W, nthG]
    | succ k =>
      rw [D, List.getElem?_cons_succ, ih _ _ k (Int.ediv_nonneg h0 (by have := full_pos b; omega)) (by omega), W, nthG, Int.ediv_ediv_of_nonneg (by have := full_pos b; omega)]
theorem W_pos (k : Nat) : ∀ b, 0 < W b k := by
  induction k with
  | zero => intro b; simp [W]
  | succ k ih => intro b; exact Int.mul_pos (full_pos b) (ih _)
/-- the digit at a place of what the greater places have left -/
theorem dig_down (v : Int) (k : Nat) (hk : k < 10) : (v % worth (k + 1)) / worth k = v / worth k % grp k ∧ (v % worth (k + 1)) % worth k = v % worth k := by
  have hw := worth_range k (by omega)
  rw [worth_succ]
  refine ⟨?_, ?_⟩
  · rw [Int.emod_def v (worth k * grp k), Int.mul_assoc, Int.sub_eq_add_neg, ← Int.mul_neg, Int.add_mul_ediv_left _ _ (by omega), ← Int.ediv_ediv_of_nonneg (by omega), Int.emod_def]
    omega
  · exact Int.emod_emod_of_dvd v (Int.dvd_mul_right _ _)
theorem D10_get (v : Int) (k : Nat) (h0 : 0 ≤ v) (hk : k < 10) : (D true 10 v)[k]? = some (v / worth k % grp k) := by
  rw [D_get 10 true v k h0 hk, W_worth, nthG_grp]

/-! raising from place to place -/
theorem R_moves (p : Nat) : ∀ (b : Bool) (c n : Int) (xs : List Int), p + 1 < xs.length → R b c (move xs p (0 - n * nthG b p) n) = R b c xs - n := by
  induction p with
  | zero =>
    intro b c n xs h
    match xs, h with
    | x :: y :: xs, _ =>
      have e : (x + (0 - n * full b) + c) / full b = (x + c) / full b - n := by
        rw [show x + (0 - n * full b) + c = (x + c) + full b * (0 - n) from by rw [Int.mul_sub, Int.mul_comm n]; omega, Int.add_mul_ediv_left _ _ (by have := full_pos b; omega)]
        omega
      simp only [move_zero, nthG, R, e]
      rw [show y + n + ((x + c) / full b - n) = y + (x + c) / full b from by omega]
      omega
  | succ p ih =>
    intro b c n xs h
    match xs, h with
    | x :: xs, h =>
      simp only [move_succ, nthG, R]
      rw [ih _ _ _ _ (by simpa using h)]
      omega
/-- what holds of the counters behind p places -/
structure Raised (xs : List Int) (p : Nat) (l : List Int) (r : Int) : Prop where
  len : l.length = xs.length
  all : ∀ (j : Nat) u, l[j]? = some u → 0 ≤ u ∧ u ≤ 40 ∧ (p < j → u ≤ 20) ∧ (j < p → u < grp j)
  val : V true l = V true xs
  sum : R true 0 l + r = R true 0 xs
  low : 0 ≤ r
  high : r ≤ 20 * p
theorem Raised.start {xs : List Int} (hx : ∀ x ∈ xs, 0 ≤ x ∧ x ≤ 20) : Raised xs 0 xs 0 :=
  ⟨rfl, fun j u hu => by have := hx u (List.mem_of_getElem? hu); exact ⟨by omega, by omega, fun _ => by omega, fun h => by omega⟩, rfl, by omega, by omega, by omega⟩
theorem Raised.next {xs l : List Int} {p : Nat} {r u v : Int} (h : Raised xs p l r) (hp : p + 1 < xs.length) (hu : l[p]? = some u) (hv : l[p + 1]? = some v) :
    Raised xs (p + 1) ((l.set p (u - u / grp p * grp p)).set (p + 1) (v + u / grp p)) (r + u / grp p) := by
  obtain ⟨hl, hall, hval, hsum, hlow, hhigh⟩ := h
  have hu' := hall p u hu
  have hv' := hall (p + 1) v hv
  have hm : (l.set p (u - u / grp p * grp p)).set (p + 1) (v + u / grp p) = move l p (0 - u / grp p * nthG true p) (u / grp p) := by
    unfold move
    have e1 : l.getD p 0 = u := by rw [List.getD_eq_getElem?_getD, hu]; rfl
    have e2 : (l.set p (u + (0 - u / grp p * nthG true p))).getD (p + 1) 0 = v := by
      rw [List.getD_eq_getElem?_getD, List.getElem?_set_ne (by omega), hv]; rfl
    rw [e1, e2, nthG_grp]
    congr 2
    omega
  have hn : 0 ≤ u / grp p ∧ u / grp p ≤ 20 ∧ 0 ≤ u - u / grp p * grp p ∧ u - u / grp p * grp p < grp p ∧ grp p ≤ 5 := by
    rcases grp_cases p with h | h <;> rw [h] <;> omega
  refine ⟨by simp [hl], fun j y hy => ?_, by rw [hm, V_move l true p _ (by omega), hval], ?_, by omega, by omega⟩
  · rw [List.getElem?_set, List.getElem?_set] at hy
    have := hv'.2.2.1 (by omega)
    split at hy
    · next hj =>
      subst hj
      split at hy
      · simp at hy; subst hy; exact ⟨by omega, by omega, fun h => by omega, fun h => by omega⟩
      · cases hy
    · next hj =>
      split at hy
      · next hj2 =>
        subst hj2
        split at hy
        · simp at hy; subst hy; exact ⟨by omega, by omega, fun h => by omega, fun _ => by omega⟩
        · cases hy
      · have := hall j y hy
        exact ⟨by omega, by omega, fun h => this.2.2.1 (by omega), fun h => this.2.2.2 (by omega)⟩
  · rw [hm, R_moves p true 0 _ _ (by omega)]
    omega
theorem Raised.done {xs l : List Int} {r : Int} (h : Raised xs 9 l r) (hl : xs.length = 10) (hv : V true xs ≤ 99999) : r = R true 0 xs := by
  obtain ⟨hl2, hall, hval, hsum, hlow, hhigh⟩ := h
  have hnn : ∀ x ∈ l, 0 ≤ x := fun x hx => by obtain ⟨j, hj⟩ := List.mem_iff_getElem?.1 hx; exact (hall j x hj).1
  have h9 : l[9]? = some l[9] := List.getElem?_eq_getElem (by omega)
  have hred : isRed true l = true := by
    refine (isRed_true l).2 fun k u hu => ?_
    have hk := (List.getElem?_eq_some_iff.1 hu).1
    by_cases hk9 : k < 9
    · exact (hall k u hu).2.2.2 hk9
    · obtain rfl : k = 9 := by omega
      have e := V_take hu
      rw [List.take_of_length_le (by omega)] at e
      have := V_nonneg (l.take 9) true (fun x hx => hnn x (List.mem_of_mem_take hx))
      have w9 : worth 9 = 50000 := rfl
      rw [w9] at e
      have : grp 9 = 2 := rfl
      omega
  have := (R_red l true hnn).2 hred
  omega

end Go.Proofs.YthdoofmfigemoaaGreatDoor.Bd
end

section
/-
  Plain lists of counters: what a raise, a lowering and a laying make of them; no program in sight.
-/
namespace Go.Proofs.YthdoofmfigemoaaGreatDoor.Bd

/-! the lists behind a raise, a lowering, a laying -/
def raiseL (xs : List Int) (p : Nat) : List Int := move xs p (0 - grp p) 1
def lowerL (xs : List Int) (p : Nat) : List Int := move xs (p - 1) (grp (p - 1)) (-1)
def addL : List Int → List Int → List Int
  | x :: xs, y :: ys => (x + y) :: addL xs ys
  | _, _ => []
theorem move_eq {xs : List Int} {p : Nat} {u v : Int} (n m : Int) (hu : xs[p]? = some u) (hv : xs[p + 1]? = some v) : move xs p n m = (xs.set p (u + n)).set (p + 1) (v + m) := by
  unfold move
  have e1 : xs.getD p 0 = u := by rw [List.getD_eq_getElem?_getD, hu]; rfl
  have e2 : (xs.set p (u + n)).getD (p + 1) 0 = v := by
    rw [List.getD_eq_getElem?_getD, List.getElem?_set_ne (by omega), hv]; rfl
  rw [e1, e2]
theorem raiseL_eq {xs : List Int} {p : Nat} {u v : Int} (hu : xs[p]? = some u) (hv : xs[p + 1]? = some v) : raiseL xs p = (xs.set p (u - grp p)).set (p + 1) (v + 1) := by
  unfold raiseL
  rw [move_eq _ _ hu hv]
  congr 2
  omega
theorem lowerL_eq {xs : List Int} {p : Nat} {u v : Int} (hu : xs[p]? = some u) (hv : xs[p + 1]? = some v) : lowerL xs (p + 1) = (xs.set (p + 1) (v - 1)).set p (u + grp p) := by
  unfold lowerL
  rw [Nat.add_sub_cancel, move_eq _ _ hu hv, List.set_comm _ _ (by omega)]
  congr 1
theorem raiseL_length (xs : List Int) (p : Nat) : (raiseL xs p).length = xs.length := move_length _ _ _ _
theorem lowerL_length (xs : List Int) (p : Nat) : (lowerL xs p).length = xs.length := move_length _ _ _ _
theorem addL_length (xs : List Int) : ∀ ys, xs.length = ys.length → (addL xs ys).length = xs.length := by
  induction xs with
  | nil => intro ys _; rfl
  | cons x xs ih =>
    intro ys h
    cases ys with
    | nil => simp at h
    | cons y ys => simp [addL, ih ys (by simpa using h)]
theorem addL_get (xs : List Int) : ∀ (ys : List Int) (k : Nat) (u v : Int), xs[k]? = some u → ys[k]? = some v → (addL xs ys)[k]? = some (u + v) := by
  induction xs with
  | nil => intro ys k u v h _; simp at h
  | cons x xs ih =>
    intro ys k u v h h'
    cases ys with
    | nil => simp at h'
    | cons y ys =>
      cases k with
      | zero => simp at h h'; subst h h'; rfl
      | succ k => exact ih ys k u v (by simpa using h) (by simpa using h')
theorem addL_comm (xs : List Int) : ∀ ys, addL xs ys = addL ys xs := by
  induction xs with
  | nil => intro ys; cases ys <;> rfl
  | cons x xs ih => intro ys; cases ys with | nil => rfl | cons y ys => simp only [addL, ih ys]; rw [Int.add_comm]
theorem V_addL (xs : List Int) : ∀ ys b, xs.length = ys.length → V b (addL xs ys) = V b xs + V b ys := by
  induction xs with
  | nil => intro ys b h; cases ys with | nil => rfl | cons => simp at h
  | cons x xs ih =>
    intro ys b h
    cases ys with
    | nil => simp at h
    | cons y ys => simp only [addL, V, ih ys (!b) (by simpa using h), Int.mul_add]; omega
theorem sum_addL (xs : List Int) : ∀ ys, xs.length = ys.length → sum (addL xs ys) = sum xs + sum ys := by
  induction xs with
  | nil => intro ys h; cases ys with | nil => rfl | cons => simp at h
  | cons x xs ih =>
    intro ys h
    cases ys with
    | nil => simp at h
    | cons y ys => simp only [addL, sum, ih ys (by simpa using h)]; omega
theorem lay_next {xs ys : List Int} {k : Nat} {u v : Int} (hl : xs.length = ys.length) (hu : xs[k]? = some u) (hv : ys[k]? = some v) :
    ((addL xs ys).take k ++ xs.drop k).set k (u + v) = (addL xs ys).take (k + 1) ++ xs.drop (k + 1) := by
  have hk := (List.getElem?_eq_some_iff.1 hu).1
  have hla := addL_length xs ys hl
  rw [take_next (addL_get xs ys k u v hu hv), List.drop_eq_getElem_cons hk, List.set_append_right _ _ (by rw [List.length_take]; omega), List.length_take,
    show k - min k (addL xs ys).length = 0 from by omega, List.set_cons_zero, List.append_assoc]
  rfl
theorem lay_at {xs ys : List Int} {k : Nat} {u : Int} (hl : xs.length = ys.length) (hu : xs[k]? = some u) : ((addL xs ys).take k ++ xs.drop k)[k]? = some u := by
  have hk := (List.getElem?_eq_some_iff.1 hu).1
  have hla := addL_length xs ys hl
  rw [List.getElem?_append_right (by rw [List.length_take]; omega), List.length_take, show k - min k (addL xs ys).length = 0 from by omega, List.getElem?_drop]
  exact hu

end Go.Proofs.YthdoofmfigemoaaGreatDoor.Bd
end

section
/-
  What both the program and the reference are said to give back on boards: the words of the contracts.
-/
namespace Go.Proofs.YthdoofmfigemoaaGreatDoor
open Go.RowKit

def fitB (xs : List Int) : Bool := xs.all fun x => decide (0 ≤ x) && decide (x ≤ 20)
def BoardPost (w : World) (ok : Bool) (xs : List Int) (e : Ending) (w' : World) : Prop :=
  (∃ A n c, e = .returned (.tuple #[.slice A n c, .bool ok]) ∧ Own w' w.heap.size A n c (if ok then xs else [])) ∧ Below w.heap.size w w'
def okV (v : Int) : Bool := decide (0 ≤ v) && decide (v ≤ 99999)
def bVal (xs : List Int) : Int := if Bd.okB xs then Bd.V true xs else -1
def bCnt (xs : List Int) : Int := if Bd.okB xs then Bd.sum xs else -1
def bFew (v : Int) : Int := if okV v then Bd.sum (Bd.D true 10 v) else -1
def bRais (xs : List Int) : Int := if Bd.okB xs && decide (Bd.V true xs ≤ 99999) then Bd.R true 0 xs else -1
/-- the reduced board of a board's value -/
def redOK (xs : List Int) : Bool := Bd.okB xs && okV (Bd.V true xs)
def redL (xs : List Int) : List Int := Bd.D true 10 (Bd.V true xs)
def raiseOK (xs : List Int) (p : Int) : Bool := Bd.okB xs && decide (0 ≤ p) && decide (p < 9) && fitB (Bd.raiseL xs p.toNat)
def lowerOK (xs : List Int) (p : Int) : Bool := Bd.okB xs && decide (1 ≤ p) && decide (p < 10) && fitB (Bd.lowerL xs p.toNat)
def layOK (xs ys : List Int) : Bool := Bd.okB xs && Bd.okB ys && fitB (Bd.addL xs ys)
def takeOK (xs ys : List Int) : Bool := Bd.okB xs && Bd.okB ys && okV (Bd.V true xs - Bd.V true ys)
def takeL (xs ys : List Int) : List Int := Bd.D true 10 (Bd.V true xs - Bd.V true ys)

theorem quiet_same {P : Program} {f : FuncId} {args : Array Value} {w : World} {n : Nat} {v : Value}
    (h : Calls P f args (w.drewN n) fun e w' => e = .returned v ∧ w.drewN n = w') : Calls P f args (w.drewN n) fun e w'' => e = .returned v ∧ ∃ m, w'' = w.drewN m :=
  h.mono fun _ _ ⟨he, hm⟩ => ⟨he, n, hm.symm⟩
end Go.Proofs.YthdoofmfigemoaaGreatDoor
end

section
/-
  Words for an array of ten integers: its value, its block, and what the walk does with both.
-/
namespace Go.Proofs.YthdoofmfigemoaaGreatDoor
open Go.RowKit

/-- the cells of a list of integers -/
def AV (xs : List Int) : Array Value := (IV xs).toArray
theorem AV_size (xs : List Int) : (AV xs).size = xs.length := by simp [AV, IV]
theorem AV_get {xs : List Int} {k : Nat} {u : Int} (h : xs[k]? = some u) : (AV xs)[k]? = some (.int .i64 u) := by simp [AV, IV, h]
theorem AV_set (xs : List Int) (k : Nat) (u : Int) : (AV xs).setIfInBounds k (.int .i64 u) = AV (xs.set k u) := by
  simp [AV, IV, List.map_set]

theorem ten_info : (Tryz.prog.info? 93).map (·.size) = some 10 := by kernel_rfl
theorem int_info : (Tryz.prog.info? 3).map (fun i => (i.zero, i.size, i.bytes)) = some (some (.int .i64 0), 1, 8) := by kernel_rfl
theorem int_size : (Tryz.prog.info? 3).map (·.size) = some 1 := by kernel_rfl

/-- 'c[k]' of the array's value -/
theorem run_index_ten (xs : List Int) (k : Nat) (u : Int) (hl : xs.length = 10) (h : xs[k]? = some u) (w : World) :
    (Instr.index 93 (.agg (AV xs)) (.int .i64 (k : Int))).run Tryz.prog w = .ok (.int .i64 u) w := by
  have hk : k < 10 := by have := (List.getElem?_eq_some_iff.1 h).1; omega
  obtain ⟨i0, hi, hz0, hz1, hz2⟩ := info_parts int_info
  have hk' : 0 ≤ (k : Int) ∧ (k : Int) < ((10 : Nat) : Int) := by omega
  have hg := AV_get h
  simp [Instr.index, run_underlying Tryz.underlying93, asIntOf, go_sem, part, sizeOf, typeInfo, hi, hz1, hg]
  omega

/-- the array read whole -/
theorem wpList_load_ten {ops : Array Oper} {rest : List Oper} {o : Oper} {a : Act} {w : World} {Q : Exit → Act → World → Prop} (hgd : o.guard = none) (x : Operand)
    (ho : o.op = .load 93 x) (g : Nat) (hx : a.eval x = .pointer (some ⟨g, 0, none⟩)) (t : TypeId) (xs : List Int) (fr : Nat × Nat)
    (hg : w.heap[g]? = some (.cells (AV xs) t fr)) (hl : xs.length = 10)
    (h : wpList Tryz.prog ops Q rest (a.put o.dst (.agg (AV xs))) w) : wpList Tryz.prog ops Q (o :: rest) a w :=
  wpList_load_row hgd _ x ho g hx t (AV xs) fr _ hg Tryz.underlying93 rfl (by rw [AV_size, hl]; exact ten_info) h

theorem run_storeVar_ten (w : World) (g : Nat) (t : TypeId) (cur : Array Value) (xs : List Int) (hg : w.heap[g]? = some (.cells cur t (0, 0))) (hc : cur.size = 10) (hl : xs.length = 10) :
    (storeVar 93 ⟨g, 0, none⟩ (.agg (AV xs))).run Tryz.prog w = .ok () (w.setRow g (AV xs)) := by
  have h := run_storeCells_from (P := Tryz.prog) g t (IV xs) 0 cur w hg (by rw [IV_length]; omega) (IV_one xs)
  have e : (cur.toList.take 0 ++ IV xs).toArray = AV xs := by simp [AV]
  rw [e] at h
  have e2 : (AV xs).toList = IV xs := by simp [AV]
  simp [storeVar, Sem.run_bind, e2, h, go_sem, AV_size, hl]

/-- the array written whole into a block of ten cells -/
theorem wpList_store_ten {ops : Array Oper} {rest : List Oper} {o : Oper} {a : Act} {w : World} {Q : Exit → Act → World → Prop} (hgd : o.guard = none) (hdst : o.dst = none) (p x : Operand)
    (ho : o.op = .store 93 p x) (g : Nat) (hp : a.eval p = .pointer (some ⟨g, 0, none⟩)) (t : TypeId) (cur : Array Value) (xs : List Int)
    (hx : a.eval x = .agg (AV xs)) (hg : w.heap[g]? = some (.cells cur t (0, 0))) (hc : cur.size = 10) (hl : xs.length = 10) (w' : World) (hw : w.setRow g (AV xs) = w')
    (h : wpList Tryz.prog ops Q rest a w') : wpList Tryz.prog ops Q (o :: rest) a w := by
  subst hw
  refine wpList_plain hgd fun K hK => ?_
  unfold Oper.wp execOp
  simp only [ho, hp, hx, Instr.storeAt, Instr.sureAddr, Sem.run_bind, Sem.run_pure, Result.andThen_ok, run_storeVar_ten w g t cur xs hg hc hl]
  refine hK _ _ ?_
  rw [hdst]
  exact h

theorem fitB_iff (xs : List Int) : fitB xs = true ↔ ∀ x ∈ xs, 0 ≤ x ∧ x ≤ 20 := by simp [fitB]
theorem fitB_no {xs : List Int} {k : Nat} {u : Int} (h : xs[k]? = some u) (hu : u < 0 ∨ 20 < u) : fitB xs = false := by
  cases hb : fitB xs with
  | false => rfl
  | true => have := (fitB_iff xs).1 hb u (List.mem_of_getElem? h); omega
theorem fitB_take {xs : List Int} {n : Nat} (hl : xs.length = n) (h : ∀ x ∈ xs.take n, 0 ≤ x ∧ x ≤ 20) : fitB xs = true := by
  rw [List.take_of_length_le (by omega)] at h
  exact (fitB_iff xs).2 h

set_option maxHeartbeats 400000 in
theorem fits_any (xs : List Int) (hl : xs.length = 10) (w : World) :
    Calls Tryz.prog 108 #[.agg (AV xs)] w fun e w' => e = .returned (.bool (fitB xs)) ∧ w.alloc (.cells (AV xs) 93) = w' := by
  have HL := Lib.hid hl
  have idx := fun (k : Nat) (u : Int) (h : xs[k]? = some u) => run_index_ten xs k u hl h
  have IDX := Lib.hid idx
  clear idx
  go_enter Tryz.func108, Tryz.ntmps108
  go_wp2_with (refine wpList_load_ten rfl _ rfl _ rfl _ xs _ (heap_alloc_new w _) hl ?_)
  go_loop [4, 6] (fun v i => ∃ k : Nat, k ≤ 10 ∧ i = .int .i64 k ∧ ∀ x ∈ xs.take k, 0 ≤ x ∧ x ≤ 20) (fun _ i => 10 - (intOf i).toNat)
  case atStart => exact ⟨0, by omega, rfl, by simp⟩
  case round =>
    obtain ⟨k, hk, rfl, hin⟩ := hrel
    have HIN := Lib.hid hin
    clear hin
    by_cases hlt : k < 10
    · obtain ⟨u, hu⟩ : ∃ u, xs[k]? = some u := ⟨xs[k]'(by have := HL.out; omega), List.getElem?_eq_getElem (by have := HL.out; omega)⟩
      have HU := Lib.hid hu
      have hi := IDX.out k u hu
      clear hu
      by_cases h1 : u < 0
      · go_wp2
        go_ret
        exact ⟨ret_bool (fitB_no HU.out (.inl h1)).symm, rfl⟩
      · by_cases h2 : 20 < u
        · go_wp2
          go_ret
          exact ⟨ret_bool (fitB_no HU.out (.inr h2)).symm, rfl⟩
        · go_wp2
          go_round
          case rel => exact ⟨k + 1, by omega, by go_num, by rw [take_next HU.out]; intro x hx; rcases List.mem_append.1 hx with h | h; exact HIN.out x h; simp at h; omega⟩
          case measure => simp [intOf]; omega
    · go_wp2
      go_ret
      obtain rfl : k = 10 := by omega
      exact ⟨ret_bool (fitB_take HL.out HIN.out).symm, rfl⟩
end Go.Proofs.YthdoofmfigemoaaGreatDoor
end

section
/-
  What the program's methods on counters compute: worths, values, numbers of counters, reduced boards; each for every array that a board can be.
-/
namespace Go.Proofs.YthdoofmfigemoaaGreatDoor
open Go.RowKit

theorem fullAt_any (k : Nat) (hk : k ≤ 1000) (w : World) : Calls Tryz.prog 143 #[.int .i64 (k : Int)] w fun e w' => e = .returned (.int .i64 (Bd.grp k)) ∧ w = w' := by
  rcases Nat.mod_two_eq_zero_or_one k with h | h
  · have h1 : ((k : Int) % 2 == 0) = true := by simp; omega
    go_enter Tryz.func143, Tryz.ntmps143
    go_wp2
    go_ret
    exact ⟨ret_int (by simp [Bd.grp, h]), rfl⟩
  · have h1 : ((k : Int) % 2 == 0) = false := by simp; omega
    go_enter Tryz.func143, Tryz.ntmps143
    go_wp2
    go_ret
    exact ⟨ret_int (by simp [Bd.grp, h]), rfl⟩

set_option maxHeartbeats 400000 in
theorem worthAt_any (k : Nat) (hk : k ≤ 10) (w : World) : Calls Tryz.prog 107 #[.int .i64 (k : Int)] w fun e w' => e = .returned (.int .i64 (Bd.worth k)) ∧ w = w' := by
  go_enter Tryz.func107, Tryz.ntmps107
  go_wp2
  go_loop [3, 4] (fun t i => ∃ p : Nat, p ≤ k ∧ i = .int .i64 p ∧ t = .int .i64 (Bd.worth p)) (fun _ i => k - (intOf i).toNat)
  case atStart => exact ⟨0, by omega, rfl, rfl⟩
  case round =>
    obtain ⟨p, hp, rfl, rfl⟩ := hrel
    by_cases hlt : p < k
    · have hw := Bd.worth_range (p + 1) (by omega)
      have hs := Bd.worth_succ p
      rw [hs] at hw
      have HS := Lib.hid hs
      obtain ⟨hw1, hw2⟩ := hw
      clear hs
      go_wp2_with (go_at_call 143; refine (fullAt_any _ (by omega) _).mono ?_; rintro e w' ⟨rfl, rfl⟩)
      go_round
      case rel => exact ⟨p + 1, by omega, by go_num, by rw [HS.out]⟩
      case measure => simp [intOf]; omega
    · go_wp2
      go_ret
      obtain rfl : p = k := by omega
      exact ⟨rfl, rfl⟩

set_option maxHeartbeats 400000 in
theorem value_any (xs : List Int) (hl : xs.length = 10) (hx : ∀ x ∈ xs, 0 ≤ x ∧ x ≤ 20) (w : World) :
    Calls Tryz.prog 96 #[.agg (AV xs)] w fun e w' => e = .returned (.int .i64 (Bd.V true xs)) ∧ w.alloc (.cells (AV xs) 93) = w' := by
  have HL := Lib.hid hl
  have HX := Lib.hid hx
  have idx := fun (k : Nat) (u : Int) (h : xs[k]? = some u) => run_index_ten xs k u hl h
  have IDX := Lib.hid idx
  clear idx hx
  go_enter Tryz.func96, Tryz.ntmps96
  go_wp2_with (refine wpList_load_ten rfl _ rfl _ rfl _ xs _ (heap_alloc_new w _) hl ?_)
  go_loop [3, 4, 5, 7] (fun s _ _ i => ∃ k : Nat, k ≤ 10 ∧ i = .int .i64 k ∧ s = .int .i64 (Bd.V true (xs.take k))) (fun _ _ _ i => 10 - (intOf i).toNat)
  case atStart => exact ⟨0, by omega, rfl, rfl⟩
  case round =>
    obtain ⟨k, hk, rfl, rfl⟩ := hrel
    by_cases hlt : k < 10
    · obtain ⟨u, hu⟩ : ∃ u, xs[k]? = some u := ⟨xs[k]'(by have := HL.out; omega), List.getElem?_eq_getElem (by have := HL.out; omega)⟩
      have hm := HX.out u (List.mem_of_getElem? hu)
      have HV := Lib.hid (Bd.V_take hu)
      have hi := IDX.out k u hu
      obtain ⟨t0, t1⟩ := Bd.term_range hm.1 hm.2 hk
      obtain ⟨v0, v1⟩ := Bd.V_take_range HX.out k hk (by have := HL.out; omega)
      clear hu hm
      generalize Bd.V true (xs.take k) = v at *
      go_wp2_with (go_at_call 107; refine (worthAt_any _ (by omega) _).mono ?_; rintro e w' ⟨rfl, rfl⟩)
      go_round
      case rel => exact ⟨k + 1, by omega, by go_num, by rw [HV.out]⟩
      case measure => simp [intOf]; omega
    · go_wp2
      go_ret
      obtain rfl : k = 10 := by omega
      exact ⟨ret_int (by rw [List.take_of_length_le (by have := HL.out; omega)]), rfl⟩

set_option maxHeartbeats 400000 in
theorem list_any (xs : List Int) (hl : xs.length = 10) (w : World) :
    Calls Tryz.prog 66 #[.agg (AV xs)] w fun e w' => (∃ A c, e = .returned (.slice A 10 c) ∧ Own w' w.heap.size A 10 c xs) ∧ Below w.heap.size w w' := by
  have HL := Lib.hid hl
  have idx := fun (k : Nat) (u : Int) (h : xs[k]? = some u) => run_index_ten xs k u hl h
  have IDX := Lib.hid idx
  clear idx
  have hal := heap_alloc_new w (.cells (AV xs) 93)
  have HA := Lib.hid hal
  clear hal
  go_enter Tryz.func66, Tryz.ntmps66
  go_wp2_with (first
    | (refine wpList_make_room rfl _ _ rfl (B := w.heap.size) (n := 10) _ rfl rfl rfl (by omega) (by simp) ?_; intro w1 hown hg)
    | (refine wpList_load_ten rfl _ rfl _ rfl _ xs _ ((hg.block _ (by simp) (by simp)).trans HA.out) hl ?_))
  go_loopw [3, 5, 8] (fun v _ i wr => ∃ (k : Nat) (A : Option Addr) (c : Nat), k ≤ 10 ∧ i = .int .i64 k ∧ v = .slice A k c ∧ Own wr w.heap.size A k c (xs.take k) ∧ Below w.heap.size w wr) (fun _ _ i _ => 10 - (intOf i).toNat)
  case atStart => exact ⟨0, _, _, by omega, rfl, rfl, by simpa using hown, ((Below.refl _ _).alloc (Nat.le_refl _) _).grown hg (by simp) (by simp)⟩
  case round =>
    obtain ⟨k, A, c, hk, rfl, rfl, hown1, hbel⟩ := hrel
    by_cases hlt : k < 10
    · obtain ⟨u, hu⟩ : ∃ u, xs[k]? = some u := ⟨xs[k]'(by have := HL.out; omega), List.getElem?_eq_getElem (by have := HL.out; omega)⟩
      have HU := Lib.hid hu
      have hi := IDX.out k u hu
      clear hu
      have hB := hbel.size
      go_wp2_with (at_builtin; refine wpList_app rfl _ _ rfl rfl hown1 [u] 1 rfl _ rfl _ rfl (by omega) hB ?_; intro A1 c1 w2 hown2 hg2)
      have hbel2 := below_step hbel hg2 hown1 hB
      go_roundw
      case rel => exact ⟨k + 1, _, _, by omega, by go_num, rfl, by rw [take_next HU.out]; exact hown2, hbel2⟩
      case measure => simp [intOf]; omega
    · go_wp2
      go_ret
      obtain rfl : k = 10 := by omega
      exact ⟨⟨_, _, rfl, by have := hown1; rwa [List.take_of_length_le (by have := HL.out; omega)] at this⟩, hbel⟩


set_option maxHeartbeats 400000 in
theorem board_any (xs : List Int) (hl : xs.length = 10) (w : World) :
    Calls Tryz.prog 221 #[.agg (AV xs)] w (BoardPost w (fitB xs) xs) := by
  rcases hf : fitB xs with _ | _
  · have HF := Lib.hid hf
    go_enter Tryz.func221, Tryz.ntmps221
    go_wp2_with (first
      | (refine wpList_load_ten rfl _ rfl _ rfl _ xs _ (heap_alloc_new w _) hl ?_)
      | (go_at_call 108; refine (fits_any xs hl _).mono ?_; rintro e w' ⟨rfl, rfl⟩; rw [HF.out]))
    go_ret2
    exact ⟨⟨_, _, _, rfl, Own.nil _ _⟩, ((Below.refl _ _).alloc (Nat.le_refl _) _).alloc (by simp) _⟩
  · have HF := Lib.hid hf
    go_enter Tryz.func221, Tryz.ntmps221
    go_wp2_with (first
      | (refine wpList_load_ten rfl _ rfl _ rfl _ xs _ (heap_alloc_new w _) hl ?_)
      | (refine wpList_load_ten rfl _ rfl _ rfl _ xs _ (heap_alloc2_old w _ _) hl ?_)
      | (go_at_call 108; refine (fits_any xs hl _).mono ?_; rintro e w' ⟨rfl, rfl⟩; rw [HF.out])
      | (go_at_call 66; refine (list_any xs hl _).mono ?_; rintro e w' ⟨⟨A, c, rfl, hown⟩, hbel⟩))
    go_ret2
    exact ⟨⟨_, _, _, rfl, hown.mono (by simp; omega)⟩, (((Below.refl _ _).alloc (Nat.le_refl _) _).alloc (by simp) _).trans (hbel.mono (by simp; omega))⟩
end Go.Proofs.YthdoofmfigemoaaGreatDoor
end

section
/-
  Boards laid out on counters, and the counters with a value: what layOut and layReduced give back.
-/
namespace Go.Proofs.YthdoofmfigemoaaGreatDoor
open Go.RowKit

def z10 : List Int := [0, 0, 0, 0, 0, 0, 0, 0, 0, 0]
theorem AV_z10 : AV z10 = #[.int .i64 0, .int .i64 0, .int .i64 0, .int .i64 0, .int .i64 0, .int .i64 0, .int .i64 0, .int .i64 0, .int .i64 0, .int .i64 0] := rfl

/-- two results, the first one an array in memory -/
theorem results_ten {fn : Func} {p t : Tmp} (h : fn.results = #[.cell p 93, .tmp t]) (tmps : Array Value) (w : World) (g : Nat) (tt : TypeId) (xs : List Int) (fr : Nat × Nat)
    (hp : tmps.getD p undef = .pointer (some ⟨g, 0, none⟩)) (hg : w.heap[g]? = some (.cells (AV xs) tt fr)) (hl : xs.length = 10) :
    (results fn tmps).run Tryz.prog w = .ok (.tuple #[.agg (AV xs), tmps.getD t undef]) w := by
  have hp' : tmps[p]?.getD undef = .pointer (some ⟨g, 0, none⟩) := by simpa using hp
  have hr := run_loadVar_row (P := Tryz.prog) w g tt 93 (AV xs) fr _ hg Tryz.underlying93 rfl (by rw [AV_size, hl]; exact ten_info)
  simp [results, h, hp', asAddr, hr]

def LayPost (w : World) (ok : Bool) (xs : List Int) (e : Ending) (w' : World) : Prop :=
  e = .returned (.tuple #[.agg (AV (if ok then xs else z10)), .bool ok]) ∧ Below w.heap.size w w'

set_option maxRecDepth 100000 in
set_option maxHeartbeats 1000000 in
theorem layOut_any (A : Option Addr) (n c : Nat) (xs : List Int) (w : World) (hx : Ints w w.heap.size A n xs) :
    Calls Tryz.prog 68 #[.slice A n c] w (LayPost w (Bd.okB xs) xs) := by
  have hl := hx.len
  by_cases h10 : n = 10
  · subst h10
    have HL := Lib.hid hl
    have e0 : AV z10 = AV (xs.take 0 ++ List.replicate (10 - 0) 0) := rfl
    have E0 := Lib.hid e0
    have hnew : ∀ (l : List Int) (o : Obj), ((w.alloc o).alloc (.cells (AV l) 93)).heap[w.heap.size + 1]? = some (.cells (AV l) 93 (0, 0)) := fun l o => by
      have := heap_alloc_new (w.alloc o) (.cells (AV l) 93)
      simpa using this
    have HNEW := Lib.hid hnew
    clear hnew e0 hl
    rcases hf : fitB xs with _ | _
    · have hok : Bd.okB xs = false := by simp only [Bd.okB, Bd.allIn]; simp only [fitB] at hf; rw [hf]; simp
      have HF := Lib.hid hf
      rw [hok]
      clear hf hok
      go_enter Tryz.func68, Tryz.ntmps68
      go_wp2
      go_loopw [5, 6, 13] (fun _ _ i wr => ∃ k : Nat, k ≤ 10 ∧ i = .int .i64 k ∧ wr = (w.alloc (.cells (AV z10) 93)).alloc (.cells (AV (xs.take k ++ List.replicate (10 - k) 0)) 93)) (fun _ _ i _ => 10 - (intOf i).toNat)
      case atStart => exact ⟨0, by omega, rfl, rfl⟩
      case round =>
        obtain ⟨k, hk, rfl, rfl⟩ := hrel
        by_cases hlt : k < 10
        · obtain ⟨b, off, u, rfl, hlb, hu, hcell⟩ := (((hx.alloc (Nat.le_refl _) (.cells (AV z10) 93)).alloc (by simp) (.cells (AV (xs.take k ++ List.replicate (10 - k) 0)) 93))).at_ hlt
          have hcur := AV_get (fill_at hlt HL.out)
          have HN := Lib.hid (fill_next hlt HL.out hu)
          clear hu
          generalize xs.take k ++ List.replicate (10 - k) 0 = l at *
          go_wp2
          go_roundw
          case rel => exact ⟨k + 1, by omega, by go_num, by rw [AV_set, HN.out]⟩
          case measure => simp [intOf]; omega
        · have e10 : xs.take k ++ List.replicate (10 - k) 0 = xs := by
            obtain rfl : k = 10 := by omega
            rw [List.take_of_length_le (by have := HL.out; omega)]; simp
          rw [e10]
          clear e10
          go_wp2_with (first
            | (refine wpList_load_ten rfl (.tmp 4) rfl (w.heap.size + 1) rfl _ xs _ (HNEW.out xs _) HL.out ?_)
            | (refine wpList_store_ten rfl rfl (.tmp 2) (.tmp 25) rfl w.heap.size rfl 93 (AV z10) z10 rfl ((Below.heap_alloc _ _ _ (by simp; omega)).trans (heap_alloc2_old w _ _)) rfl rfl _ rfl ?_)
            | (go_at_call 108; refine (fits_any xs HL.out _).mono ?_; rintro e w' ⟨rfl, rfl⟩; rw [HF.out]))
          exact bodyPost_ret (results_ten rfl _ _ w.heap.size 93 z10 (0, 0) rfl (setRow_heap _ _ _ _ _ _ ((Below.heap_alloc _ _ _ (by simp; omega)).trans (heap_alloc2_old w _ _))) rfl) rfl
            ⟨rfl, below_setRow ((((Below.refl _ _).alloc (Nat.le_refl _) _).alloc (by simp) _).alloc (by simp; omega) _) (Nat.le_refl _) _⟩
    · have hok : Bd.okB xs = true := by simp only [Bd.okB, Bd.allIn, HL.out]; simpa [fitB] using hf
      have HF := Lib.hid hf
      rw [hok]
      clear hf hok
      go_enter Tryz.func68, Tryz.ntmps68
      go_wp2
      go_loopw [5, 6, 13] (fun _ _ i wr => ∃ k : Nat, k ≤ 10 ∧ i = .int .i64 k ∧ wr = (w.alloc (.cells (AV z10) 93)).alloc (.cells (AV (xs.take k ++ List.replicate (10 - k) 0)) 93)) (fun _ _ i _ => 10 - (intOf i).toNat)
      case atStart => exact ⟨0, by omega, rfl, rfl⟩
      case round =>
        obtain ⟨k, hk, rfl, rfl⟩ := hrel
        by_cases hlt : k < 10
        · obtain ⟨b, off, u, rfl, hlb, hu, hcell⟩ := (((hx.alloc (Nat.le_refl _) (.cells (AV z10) 93)).alloc (by simp) (.cells (AV (xs.take k ++ List.replicate (10 - k) 0)) 93))).at_ hlt
          have hcur := AV_get (fill_at hlt HL.out)
          have HN := Lib.hid (fill_next hlt HL.out hu)
          clear hu
          generalize xs.take k ++ List.replicate (10 - k) 0 = l at *
          go_wp2
          go_roundw
          case rel => exact ⟨k + 1, by omega, by go_num, by rw [AV_set, HN.out]⟩
          case measure => simp [intOf]; omega
        · have e10 : xs.take k ++ List.replicate (10 - k) 0 = xs := by
            obtain rfl : k = 10 := by omega
            rw [List.take_of_length_le (by have := HL.out; omega)]; simp
          rw [e10]
          clear e10
          go_wp2_with (first
            | (refine wpList_load_ten rfl (.tmp 4) rfl (w.heap.size + 1) rfl _ xs _ (HNEW.out xs _) HL.out ?_)
            | (refine wpList_load_ten rfl (.tmp 4) rfl (w.heap.size + 1) rfl _ xs _ ((Below.heap_alloc _ _ _ (by simp)).trans (HNEW.out xs _)) HL.out ?_)
            | (refine wpList_store_ten rfl rfl (.tmp 2) (.tmp 26) rfl w.heap.size rfl 93 (AV z10) xs rfl ((Below.heap_alloc _ _ _ (by simp; omega)).trans (heap_alloc2_old w _ _)) rfl HL.out _ rfl ?_)
            | (go_at_call 108; refine (fits_any xs HL.out _).mono ?_; rintro e w' ⟨rfl, rfl⟩; rw [HF.out]))
          exact bodyPost_ret (results_ten rfl _ _ w.heap.size 93 xs (0, 0) rfl (setRow_heap _ _ _ _ _ _ ((Below.heap_alloc _ _ _ (by simp; omega)).trans (heap_alloc2_old w _ _))) HL.out) rfl
            ⟨rfl, below_setRow ((((Below.refl _ _).alloc (Nat.le_refl _) _).alloc (by simp) _).alloc (by simp; omega) _) (Nat.le_refl _) _⟩
  · have hok : Bd.okB xs = false := by simp [Bd.okB, hl, h10]
    have hne : ((n : Int) != 10) = true := by simp; omega
    rw [hok]
    go_enter Tryz.func68, Tryz.ntmps68
    go_wp2
    exact bodyPost_ret (results_ten rfl _ _ _ _ z10 (0, 0) rfl (heap_alloc2_old w _ _) rfl) rfl ⟨rfl, ((Below.refl _ _).alloc (Nat.le_refl _) _).alloc (by simp) _⟩
end Go.Proofs.YthdoofmfigemoaaGreatDoor
end

section
/-
  The reduced counters with a value; and how often can be raised.
-/
namespace Go.Proofs.YthdoofmfigemoaaGreatDoor
open Go.RowKit

theorem down_set {D : List Int} {p : Nat} {d : Int} (h : D[p]? = some d) : (List.replicate (p + 1) 0 ++ D.drop (p + 1)).set p d = List.replicate p 0 ++ D.drop p := by
  have hp := (List.getElem?_eq_some_iff.1 h)
  obtain ⟨hp, hd⟩ := hp
  rw [List.drop_eq_getElem_cons hp, hd, List.replicate_succ', List.append_assoc, List.set_append_right _ _ (by simp)]
  simp
theorem down_at (D : List Int) (p : Nat) : (List.replicate (p + 1) 0 ++ D.drop (p + 1))[p]? = some (0 : Int) := by
  rw [List.getElem?_append_left (by simp), List.getElem?_replicate, if_pos (by omega)]


set_option maxRecDepth 100000 in
set_option maxHeartbeats 1000000 in
theorem layReduced_any (v : Int) (w : World) : Calls Tryz.prog 65 #[.int .i64 v] w (LayPost w (okV v) (Bd.D true 10 v)) := by
  by_cases h1 : v < 0
  · have hok : okV v = false := by simp [okV]; omega
    rw [hok]
    go_enter Tryz.func65, Tryz.ntmps65
    go_wp2
    exact bodyPost_ret (results_ten rfl _ _ _ _ z10 (0, 0) rfl (heap_alloc2_old w _ _) rfl) rfl ⟨rfl, ((Below.refl _ _).alloc (Nat.le_refl _) _).alloc (by simp) _⟩
  · by_cases h2 : 99999 < v
    · have hok : okV v = false := by simp [okV]; omega
      rw [hok]
      go_enter Tryz.func65, Tryz.ntmps65
      go_wp2
      exact bodyPost_ret (results_ten rfl _ _ _ _ z10 (0, 0) rfl (heap_alloc2_old w _ _) rfl) rfl ⟨rfl, ((Below.refl _ _).alloc (Nat.le_refl _) _).alloc (by simp) _⟩
    · have hok : okV v = true := by simp [okV]; omega
      rw [hok]
      have hD : (Bd.D true 10 v).length = 10 := Bd.D_length _ _ _
      have hget := fun k hk => Bd.D10_get v k (by omega) hk
      have HGET := Lib.hid hget
      have HD := Lib.hid hD
      have hv10 : v % Bd.worth 10 = v := Int.emod_eq_of_lt (by omega) (by have : Bd.worth 10 = 100000 := rfl; omega)
      have HV10 := Lib.hid hv10
      have hz : AV z10 = AV (List.replicate 10 0 ++ (Bd.D true 10 v).drop 10) := by rw [List.drop_eq_nil_of_le (by omega), List.append_nil]; rfl
      have HZ := Lib.hid hz
      have hnew : ∀ (l : List Int) (o : Obj), ((w.alloc o).alloc (.cells (AV l) 93)).heap[w.heap.size + 1]? = some (.cells (AV l) 93 (0, 0)) := fun l o => by
        have := heap_alloc_new (w.alloc o) (.cells (AV l) 93)
        simpa using this
      have HNEW := Lib.hid hnew
      clear hok hget hD hv10 hz hnew
      generalize Bd.D true 10 v = D at *
      go_enter Tryz.func65, Tryz.ntmps65
      go_wp2
      go_loopw [0, 5] (fun val i wr => ∃ j : Nat, j ≤ 10 ∧ i = .int .i64 ((j : Int) - 1) ∧ val = .int .i64 (v % Bd.worth j) ∧ wr = (w.alloc (.cells (AV z10) 93)).alloc (.cells (AV (List.replicate j 0 ++ D.drop j)) 93)) (fun _ i _ => (intOf i + 1).toNat)
      case atStart => exact ⟨10, by omega, rfl, by rw [HV10.out], by rw [← HZ.out]; rfl⟩
      case round =>
        obtain ⟨j, hj, rfl, rfl, rfl⟩ := hrel
        rcases j with _ | p
        · have e0 : List.replicate 0 0 ++ D.drop 0 = D := by simp
          rw [e0]
          clear e0
          go_wp2_with (first
            | (refine wpList_load_ten rfl (.tmp 4) rfl (w.heap.size + 1) rfl _ D (0, 0) (HNEW.out D _) HD.out ?_)
            | (refine wpList_store_ten rfl rfl (.tmp 2) (.tmp 27) rfl w.heap.size rfl 93 (AV z10) D rfl (heap_alloc2_old w _ _) rfl HD.out _ rfl ?_))
          exact bodyPost_ret (results_ten rfl _ _ w.heap.size 93 D (0, 0) rfl (setRow_heap _ _ _ _ _ _ (heap_alloc2_old w _ _)) HD.out) rfl
            ⟨rfl, below_setRow (((Below.refl _ _).alloc (Nat.le_refl _) _).alloc (by simp) _) (Nat.le_refl _) _⟩
        · have e1 : ((p + 1 : Nat) : Int) - 1 = (p : Int) := by omega
          rw [e1]
          have hp : p < 10 := by omega
          obtain ⟨q1, q2⟩ := Bd.dig_down v p hp
          obtain ⟨w0, w1⟩ := Bd.worth_range p (by omega)
          have hd := HGET.out p hp
          rw [← q1] at hd
          have hcur := AV_get (down_at D p)
          have HS := Lib.hid (down_set hd)
          have HQ := Lib.hid q2
          have r0 : 0 ≤ v % Bd.worth (p + 1) := Int.emod_nonneg _ (by have := Bd.worth_range (p + 1) (by omega); omega)
          have r1 : v % Bd.worth (p + 1) < Bd.worth (p + 1) := Int.emod_lt_of_pos _ (by have := Bd.worth_range (p + 1) (by omega); omega)
          have r2 := (Bd.worth_range (p + 1) (by omega)).2
          clear e1 q1 q2 hd
          generalize v % Bd.worth (p + 1) = r at *
          generalize List.replicate (p + 1) 0 ++ D.drop (p + 1) = l at *
          go_wp2_with (go_at_call 107; refine (worthAt_any _ (by omega) _).mono ?_; rintro e w' ⟨rfl, rfl⟩)
          go_roundw
          case rel => exact ⟨p, by omega, rfl, by rw [HQ.out], by rw [AV_set, HS.out]⟩
          case measure => simp [intOf]

theorem two_stores {w : World} {g : Nat} {l : List Int} {t : TypeId} (p q : Nat) (a b : Int) (h : w.heap[g]? = some (.cells (AV l) t (0, 0))) :
    ((w.setCell ⟨g, p, none⟩ (.int .i64 a)).setCell ⟨g, q, none⟩ (.int .i64 b)).heap[g]? = some (.cells (AV ((l.set p a).set q b)) t (0, 0)) ∧
    w.grownBy ((w.setCell ⟨g, p, none⟩ (.int .i64 a)).setCell ⟨g, q, none⟩ (.int .i64 b)) (some g) := by
  have h1 := heap_setCell_same w g p _ t (.int .i64 a) h
  have h2 := heap_setCell_same _ g q _ t (.int .i64 b) h1
  rw [AV_set, AV_set] at h2
  exact ⟨h2, ⟨rfl, rfl, rfl, by simp [World.setCell], fun k hk hne => (heap_setCell_other _ _ k _ (fun e => hne (by rw [e]))).trans (heap_setCell_other _ _ k _ (fun e => hne (by rw [e])))⟩⟩
theorem two_stores_drew {w : World} {g : Nat} {l : List Int} {t : TypeId} (n p q : Nat) (a b : Int) (h : w.heap[g]? = some (.cells (AV l) t (0, 0))) :
    w.grownBy ((((w.drewN n).setCell ⟨g, p, none⟩ (.int .i64 a)).setCell ⟨g, q, none⟩ (.int .i64 b)).drew) (some g) := by
  have k := (two_stores (w := w.drewN n) p q a b h).2
  exact ⟨k.os, k.tape, k.output, k.size, k.block⟩
theorem grown_chain {a b c : World} {row : Option Nat} (h : a.grownBy b row) (k : b.grownBy c row) : a.grownBy c row :=
  ⟨k.os.trans h.os, k.tape.trans h.tape, k.output.trans h.output, Nat.le_trans h.size k.size, fun i hi hne => (k.block i (Nat.lt_of_lt_of_le hi h.size) hne).trans (h.block i hi hne)⟩


end Go.Proofs.YthdoofmfigemoaaGreatDoor
end

section
/-
  What the program's functions on boards give back, for every list.
-/
namespace Go.Proofs.YthdoofmfigemoaaGreatDoor
open Go.RowKit

theorem setRow_alloc (w : World) (o : Array Value) (t : TypeId) (cs : Array Value) : (w.alloc (.cells o t)).setRow w.heap.size cs = w.alloc (.cells cs t) := by
  have e : ∀ x, w.alloc x = ({ w with heap := w.heap.push x } : World) := fun _ => rfl
  rw [e, e]
  unfold World.setRow
  simp only []
  congr 1
  apply Array.ext
  · simp
  · intro k h1 h2
    simp only [Array.getElem_modify]
    by_cases hk : w.heap.size = k
    · subst hk; simp
    · have hlt : k < w.heap.size := by simp at h2; omega
      simp [hk, Array.getElem_push, hlt]

/-- the array read whole, in an operation that is guarded and carried out -/
theorem wpList_load_ten_want {ops : Array Oper} {rest : List Oper} {o : Oper} {a : Act} {w : World} {Q : Exit → Act → World → Prop} (hw : Region.wanted o (yielded ops a.tmps) = true) (x : Operand)
    (ho : o.op = .load 93 x) (g : Nat) (hx : a.eval x = .pointer (some ⟨g, 0, none⟩)) (t : TypeId) (xs : List Int) (fr : Nat × Nat)
    (hg : w.heap[g]? = some (.cells (AV xs) t fr)) (hl : xs.length = 10)
    (h : wpList Tryz.prog ops Q rest (a.put o.dst (.agg (AV xs))) w) : wpList Tryz.prog ops Q (o :: rest) a w :=
  BigFrame.wpList_want hw fun _ hK => wp_load_row _ x ho g hx t (AV xs) fr _ hg Tryz.underlying93 rfl (by rw [AV_size, hl]; exact ten_info) (hK _ _ h)

theorem layOut_yes {A : Option Addr} {n c : Nat} {xs : List Int} {w : World} (hx : Ints w w.heap.size A n xs) (hok : Bd.okB xs = true) :
    Calls Tryz.prog 68 #[.slice A n c] w fun e w' => e = .returned (.tuple #[.agg (AV xs), .bool true]) ∧ Below w.heap.size w w' := by
  have h := layOut_any A n c xs w hx
  rw [hok] at h
  exact h
theorem layOut_no {A : Option Addr} {n c : Nat} {xs : List Int} {w : World} (hx : Ints w w.heap.size A n xs) (hok : Bd.okB xs = false) :
    Calls Tryz.prog 68 #[.slice A n c] w fun e w' => e = .returned (.tuple #[.agg (AV z10), .bool false]) ∧ Below w.heap.size w w' := by
  have h := layOut_any A n c xs w hx
  rw [hok] at h
  exact h


set_option maxRecDepth 100000 in
set_option maxHeartbeats 400000 in
theorem BoardValue_any (A : Option Addr) (n c : Nat) (xs : List Int) (w : World) (hx : Ints w w.heap.size A n xs) :
    Calls Tryz.prog 48 #[.slice A n c] w fun e w' => e = .returned (.int .i64 (bVal xs)) ∧ Below w.heap.size w w' := by
  have hx' := Lib.hid hx
  rcases hok : Bd.okB xs with _ | _
  · have hv : bVal xs = -1 := by simp [bVal, hok]
    have HV := Lib.hid hv
    have HOK := Lib.hid hok
    clear hv hok hx
    go_enter Tryz.func48, Tryz.ntmps48
    go_wp2_with (first
      | (go_at_call 68; refine (layOut_no hx'.out HOK.out).mono ?_; rintro e w1 ⟨rfl, hb1⟩)
      | (refine wpList_store_ten rfl rfl _ _ rfl w1.heap.size rfl 93 (AV z10) z10 rfl (heap_alloc_new w1 _) rfl rfl _ (setRow_alloc w1 _ _ _) ?_))
    go_ret
    exact ⟨ret_int HV.out.symm, hb1.alloc hb1.size _⟩
  · have hv : bVal xs = Bd.V true xs := by simp [bVal, hok]
    have hl := ((Bd.okB_iff xs).1 hok)
    have HL := Lib.hid hl
    have HV := Lib.hid hv
    have HOK := Lib.hid hok
    clear hv hok hx hl
    go_enter Tryz.func48, Tryz.ntmps48
    go_wp2_with (first
      | (go_at_call 68; refine (layOut_yes hx'.out HOK.out).mono ?_; rintro e w1 ⟨rfl, hb1⟩)
      | (refine wpList_store_ten rfl rfl _ _ rfl w1.heap.size rfl 93 (AV z10) xs rfl (heap_alloc_new w1 _) rfl HL.out.1 _ (setRow_alloc w1 _ _ _) ?_)
      | (refine wpList_load_ten rfl _ rfl w1.heap.size rfl _ xs _ (heap_alloc_new w1 _) HL.out.1 ?_)
      | (go_at_call 96; refine (value_any xs HL.out.1 HL.out.2 _).mono ?_; rintro e w' ⟨rfl, rfl⟩))
    go_ret
    exact ⟨ret_int HV.out.symm, (hb1.alloc hb1.size _).alloc (by have := hb1.size; simp; omega) _⟩

theorem layReduced_yes {v : Int} {w : World} (hok : okV v = true) : Calls Tryz.prog 65 #[.int .i64 v] w fun e w' => e = .returned (.tuple #[.agg (AV (Bd.D true 10 v)), .bool true]) ∧ Below w.heap.size w w' := by
  have h := layReduced_any v w
  rw [hok] at h
  exact h
theorem layReduced_no {v : Int} {w : World} (hok : okV v = false) : Calls Tryz.prog 65 #[.int .i64 v] w fun e w' => e = .returned (.tuple #[.agg (AV z10), .bool false]) ∧ Below w.heap.size w w' := by
  have h := layReduced_any v w
  rw [hok] at h
  exact h

set_option maxRecDepth 100000 in
set_option maxHeartbeats 400000 in
theorem BoardOf_any (v : Int) (w : World) : Calls Tryz.prog 25 #[.int .i64 v] w (BoardPost w (okV v) (Bd.D true 10 v)) := by
  rcases hok : okV v with _ | _
  · have HOK := Lib.hid hok
    clear hok
    go_enter Tryz.func25, Tryz.ntmps25
    go_wp2_with (first
      | (go_at_call 65; refine (layReduced_no HOK.out).mono ?_; rintro e w1 ⟨rfl, hb1⟩)
      | (refine wpList_store_ten rfl rfl _ _ rfl w1.heap.size rfl 93 (AV z10) z10 rfl (heap_alloc_new w1 _) rfl rfl _ (setRow_alloc w1 _ _ _) ?_))
    go_ret2
    exact ⟨⟨_, _, _, rfl, Own.nil _ _⟩, hb1.alloc hb1.size _⟩
  · have HOK := Lib.hid hok
    have hD : (Bd.D true 10 v).length = 10 := Bd.D_length _ _ _
    have HD := Lib.hid hD
    clear hok hD
    go_enter Tryz.func25, Tryz.ntmps25
    go_wp2_with (first
      | (go_at_call 65; refine (layReduced_yes HOK.out).mono ?_; rintro e w1 ⟨rfl, hb1⟩)
      | (refine wpList_store_ten rfl rfl _ _ rfl w1.heap.size rfl 93 (AV z10) (Bd.D true 10 v) rfl (heap_alloc_new w1 _) rfl HD.out _ (setRow_alloc w1 _ _ _) ?_)
      | (refine wpList_load_ten rfl _ rfl w1.heap.size rfl _ (Bd.D true 10 v) _ (heap_alloc_new w1 _) HD.out ?_)
      | (go_at_call 66; refine (list_any _ HD.out _).mono ?_; rintro e w2 ⟨⟨A, c, rfl, hown⟩, hb2⟩))
    go_ret2
    have hs := hb1.size
    exact ⟨⟨_, _, _, rfl, hown.mono (by simp; omega)⟩, (hb1.alloc hb1.size _).trans (hb2.mono (by simp; omega))⟩

end Go.Proofs.YthdoofmfigemoaaGreatDoor
end

section
/-
  What the program's functions that change boards give back, for every list and place.
-/
namespace Go.Proofs.YthdoofmfigemoaaGreatDoor
open Go.RowKit

theorem BoardOf_yes {v : Int} {w : World} (hok : okV v = true) : Calls Tryz.prog 25 #[.int .i64 v] w (BoardPost w true (Bd.D true 10 v)) := by
  have h := BoardOf_any v w
  rwa [hok] at h


set_option maxRecDepth 100000 in
set_option maxHeartbeats 400000 in
theorem BoardReduce_any (A : Option Addr) (n c : Nat) (xs : List Int) (w : World) (hx : Ints w w.heap.size A n xs) :
    Calls Tryz.prog 196 #[.slice A n c] w (BoardPost w (redOK xs) (redL xs)) := by
  have hx' := Lib.hid hx
  rcases hok : Bd.okB xs with _ | _
  · have hv : redOK xs = false := by simp [redOK, hok]
    rw [hv]
    have HOK := Lib.hid hok
    clear hv hok hx
    go_enter Tryz.func196, Tryz.ntmps196
    go_wp2_with (first
      | (go_at_call 68; refine (layOut_no hx'.out HOK.out).mono ?_; rintro e w1 ⟨rfl, hb1⟩)
      | (refine wpList_store_ten rfl rfl _ _ rfl w1.heap.size rfl 93 (AV z10) z10 rfl (heap_alloc_new w1 _) rfl rfl _ (setRow_alloc w1 _ _ _) ?_))
    go_ret2
    exact ⟨⟨_, _, _, rfl, Own.nil _ _⟩, hb1.alloc hb1.size _⟩
  · have hv : redOK xs = okV (Bd.V true xs) := by simp [redOK, hok]
    rw [hv]
    have hl := ((Bd.okB_iff xs).1 hok)
    have HL := Lib.hid hl
    have HOK := Lib.hid hok
    clear hv hok hx hl
    go_enter Tryz.func196, Tryz.ntmps196
    go_wp2_with (first
      | (go_at_call 68; refine (layOut_yes hx'.out HOK.out).mono ?_; rintro e w1 ⟨rfl, hb1⟩)
      | (refine wpList_store_ten rfl rfl _ _ rfl w1.heap.size rfl 93 (AV z10) xs rfl (heap_alloc_new w1 _) rfl HL.out.1 _ (setRow_alloc w1 _ _ _) ?_)
      | (refine wpList_load_ten rfl _ rfl w1.heap.size rfl _ xs _ (heap_alloc_new w1 _) HL.out.1 ?_)
      | (go_at_call 96; refine (value_any xs HL.out.1 HL.out.2 _).mono ?_; rintro e w' ⟨rfl, rfl⟩)
      | (go_at_call 25; refine (BoardOf_any _ _).mono ?_; rintro e w2 ⟨⟨A2, n2, c2, rfl, hown⟩, hb2⟩))
    go_ret2
    have hs := hb1.size
    exact ⟨⟨_, _, _, rfl, hown.mono (by simp; omega)⟩, ((hb1.alloc hb1.size _).alloc (by simp; omega) _).trans (hb2.mono (by simp; omega))⟩


set_option maxRecDepth 100000 in
set_option maxHeartbeats 1000000 in
theorem BoardRaise_any (A : Option Addr) (n c : Nat) (xs : List Int) (q : Int) (w : World) (hx : Ints w w.heap.size A n xs) :
    Calls Tryz.prog 197 #[.slice A n c, .int .i64 q] w (BoardPost w (raiseOK xs q) (Bd.raiseL xs q.toNat)) := by
  have hx' := Lib.hid hx
  rcases hok : Bd.okB xs with _ | _
  · have hv : raiseOK xs q = false := by simp [raiseOK, hok]
    rw [hv]
    have HOK := Lib.hid hok
    clear hv hok hx
    go_enter Tryz.func197, Tryz.ntmps197
    go_wp2_with (first
      | (go_at_call 68; refine (layOut_no hx'.out HOK.out).mono ?_; rintro e w1 ⟨rfl, hb1⟩)
      | (refine wpList_store_ten rfl rfl _ _ rfl w1.heap.size rfl 93 (AV z10) z10 rfl (heap_alloc_new w1 _) rfl rfl _ (setRow_alloc w1 _ _ _) ?_))
    go_ret2
    exact ⟨⟨_, _, _, rfl, Own.nil _ _⟩, hb1.alloc hb1.size _⟩
  · have hl := ((Bd.okB_iff xs).1 hok)
    have HL := Lib.hid hl
    by_cases hq : q < 0 ∨ 9 ≤ q
    · have hv : raiseOK xs q = false := by simp [raiseOK]; omega
      rw [hv]
      have HOK := Lib.hid hok
      clear hv hok hx hl
      rcases hq with hq | hq
      all_goals
        go_enter Tryz.func197, Tryz.ntmps197
        go_wp2_with (first
          | (go_at_call 68; refine (layOut_yes hx'.out HOK.out).mono ?_; rintro e w1 ⟨rfl, hb1⟩)
          | (refine wpList_store_ten rfl rfl _ _ rfl w1.heap.size rfl 93 (AV z10) xs rfl (heap_alloc_new w1 _) rfl HL.out.1 _ (setRow_alloc w1 _ _ _) ?_))
        go_ret2
        exact ⟨⟨_, _, _, rfl, Own.nil _ _⟩, hb1.alloc hb1.size _⟩
    · obtain ⟨p, rfl⟩ := Int.eq_ofNat_of_zero_le (by omega : 0 ≤ q)
      have hp : p < 9 := by omega
      have hv : raiseOK xs (p : Int) = fitB (Bd.raiseL xs p) := by simp [raiseOK, hok]; omega
      rw [hv, Int.toNat_natCast]
      obtain ⟨u, hu⟩ : ∃ u, xs[p]? = some u := ⟨_, List.getElem?_eq_getElem (by omega)⟩
      obtain ⟨v, hv'⟩ : ∃ v, xs[p + 1]? = some v := ⟨_, List.getElem?_eq_getElem (by omega)⟩
      have HE := Lib.hid (Bd.raiseL_eq hu hv')
      have HR := Lib.hid ((Bd.raiseL_length xs p).trans hl.1)
      have hu2 := hl.2 u (List.mem_of_getElem? hu)
      have hv2 := hl.2 v (List.mem_of_getElem? hv')
      obtain ⟨u0, u1⟩ := hu2
      obtain ⟨v0, v1⟩ := hv2
      have au := AV_get hu
      have av := AV_get hv'
      have HOK := Lib.hid hok
      have hg := Bd.grp_cases p
      have g2 : 2 ≤ Bd.grp p ∧ Bd.grp p ≤ 5 := by rcases hg with h | h <;> omega
      obtain ⟨g2, g5⟩ := g2
      have i0 : (0 : Int) ≤ (p : Int) := by omega
      have i1 : (p : Int) < 10 := by omega
      clear hv hok hx hl hu hv' hg hq
      go_enter Tryz.func197, Tryz.ntmps197
      go_wp2_with (first
        | (go_at_call 68; refine (layOut_yes hx'.out HOK.out).mono ?_; rintro e w1 ⟨rfl, hb1⟩)
        | (refine wpList_store_ten rfl rfl _ _ rfl w1.heap.size rfl 93 (AV z10) xs rfl (heap_alloc_new w1 _) rfl HL.out.1 _ (setRow_alloc w1 _ _ _) ?_))
      go_region_with (go_at_call 143; refine (fullAt_any _ (by omega) _).mono ?_; rintro e w' ⟨rfl, rfl⟩)
      all_goals
        go_wp2_with (first
          | (refine wpList_load_ten rfl _ rfl w1.heap.size rfl 93 (Bd.raiseL xs p) (0, 0) ((heap_alloc_new w1 _).trans (by rw [AV_set, AV_set, ← HE.out])) HR.out ?_)
          | (go_at_call 221; refine (board_any (Bd.raiseL xs p) HR.out _).mono ?_; rintro e w2 ⟨⟨A2, n2, c2, rfl, hown⟩, hb2⟩))
        go_ret2
        have hs := hb1.size
        exact ⟨⟨_, _, _, rfl, hown.mono (by simp; omega)⟩, ((hb1.alloc hb1.size _).drew).trans (hb2.mono (by simp; omega))⟩
end Go.Proofs.YthdoofmfigemoaaGreatDoor
end

section
/-
  Lowering, laying together, taking: what the program's functions give back, for all lists and places.
-/
namespace Go.Proofs.YthdoofmfigemoaaGreatDoor
open Go.RowKit

set_option maxRecDepth 100000 in
set_option maxHeartbeats 1000000 in
theorem BoardLay_no (A B : Option Addr) (n c m d : Nat) (xs ys : List Int) (w : World) (hx : Ints w w.heap.size A n xs) (hy : Ints w w.heap.size B m ys) (h : Bd.okB xs = false ∨ Bd.okB ys = false) :
    Calls Tryz.prog 195 #[.slice A n c, .slice B m d] w (BoardPost w false []) := by
  have hx' := Lib.hid hx
  have hy' := Lib.hid hy
  rcases hokx : Bd.okB xs with _ | _
  · have HX := Lib.hid hokx
    rcases hoky : Bd.okB ys with _ | _
    · have HY := Lib.hid hoky
      clear hokx hoky hx hy h
      go_enter Tryz.func195, Tryz.ntmps195
      go_wp2_with fail
      refine (layOut_no hx'.out HX.out).mono ?_
      rintro e w1 ⟨rfl, hb1⟩
      have hy2 := Lib.hid ((hy'.out.next hb1).alloc (Nat.le_refl _) (.cells (AV z10) 93))
      go_wp2_with (refine wpList_store_ten rfl rfl _ _ rfl w1.heap.size rfl 93 (AV z10) z10 rfl (heap_alloc_new w1 _) rfl rfl _ (setRow_alloc w1 _ _ _) ?_)
      refine (layOut_no (hy2.out.mono (by simp)) HY.out).mono ?_
      rintro e w2 ⟨rfl, hb2⟩
      go_wp2_with (refine wpList_store_ten rfl rfl _ _ rfl w2.heap.size rfl 93 (AV z10) z10 rfl (heap_alloc_new w2 _) rfl rfl _ (setRow_alloc w2 _ _ _) ?_)
      go_ret2
      have hs2 := hb2.size
      exact ⟨⟨_, _, _, rfl, Own.nil _ _⟩, (((hb1.alloc hb1.size _).trans (hb2.mono (by have := hb1.size; simp; omega))).alloc (by have := hb1.size; simp at hs2; omega) _)⟩
    · have HY := Lib.hid hoky
      have HLY := Lib.hid ((Bd.okB_iff ys).1 hoky)
      clear hokx hoky hx hy h
      go_enter Tryz.func195, Tryz.ntmps195
      go_wp2_with fail
      refine (layOut_no hx'.out HX.out).mono ?_
      rintro e w1 ⟨rfl, hb1⟩
      have hy2 := Lib.hid ((hy'.out.next hb1).alloc (Nat.le_refl _) (.cells (AV z10) 93))
      go_wp2_with (refine wpList_store_ten rfl rfl _ _ rfl w1.heap.size rfl 93 (AV z10) z10 rfl (heap_alloc_new w1 _) rfl rfl _ (setRow_alloc w1 _ _ _) ?_)
      refine (layOut_yes (hy2.out.mono (by simp)) HY.out).mono ?_
      rintro e w2 ⟨rfl, hb2⟩
      go_wp2_with (refine wpList_store_ten rfl rfl _ _ rfl w2.heap.size rfl 93 (AV z10) ys rfl (heap_alloc_new w2 _) rfl HLY.out.1 _ (setRow_alloc w2 _ _ _) ?_)
      go_ret2
      have hs2 := hb2.size
      exact ⟨⟨_, _, _, rfl, Own.nil _ _⟩, (((hb1.alloc hb1.size _).trans (hb2.mono (by have := hb1.size; simp; omega))).alloc (by have := hb1.size; simp at hs2; omega) _)⟩
  · have HX := Lib.hid hokx
    have HLX := Lib.hid ((Bd.okB_iff xs).1 hokx)
    rcases hoky : Bd.okB ys with _ | _
    · have HY := Lib.hid hoky
      clear hokx hoky hx hy h
      go_enter Tryz.func195, Tryz.ntmps195
      go_wp2_with fail
      refine (layOut_yes hx'.out HX.out).mono ?_
      rintro e w1 ⟨rfl, hb1⟩
      have hy2 := Lib.hid ((hy'.out.next hb1).alloc (Nat.le_refl _) (.cells (AV xs) 93))
      go_wp2_with (refine wpList_store_ten rfl rfl _ _ rfl w1.heap.size rfl 93 (AV z10) xs rfl (heap_alloc_new w1 _) rfl HLX.out.1 _ (setRow_alloc w1 _ _ _) ?_)
      refine (layOut_no (hy2.out.mono (by simp)) HY.out).mono ?_
      rintro e w2 ⟨rfl, hb2⟩
      go_wp2_with (refine wpList_store_ten rfl rfl _ _ rfl w2.heap.size rfl 93 (AV z10) z10 rfl (heap_alloc_new w2 _) rfl rfl _ (setRow_alloc w2 _ _ _) ?_)
      go_ret2
      have hs2 := hb2.size
      exact ⟨⟨_, _, _, rfl, Own.nil _ _⟩, (((hb1.alloc hb1.size _).trans (hb2.mono (by have := hb1.size; simp; omega))).alloc (by have := hb1.size; simp at hs2; omega) _)⟩
    · rw [hokx, hoky] at h
      simp at h

set_option maxRecDepth 100000 in
set_option maxHeartbeats 1000000 in
theorem BoardLay_yes (A B : Option Addr) (n c m d : Nat) (xs ys : List Int) (w : World) (hx : Ints w w.heap.size A n xs) (hy : Ints w w.heap.size B m ys) (hokx : Bd.okB xs = true) (hoky : Bd.okB ys = true) :
    Calls Tryz.prog 195 #[.slice A n c, .slice B m d] w (BoardPost w (fitB (Bd.addL xs ys)) (Bd.addL xs ys)) := by
  have hx' := Lib.hid hx
  have hy' := Lib.hid hy
  have HX := Lib.hid hokx
  have HY := Lib.hid hoky
  have HLX := Lib.hid ((Bd.okB_iff xs).1 hokx)
  have HLY := Lib.hid ((Bd.okB_iff ys).1 hoky)
  have HLL := Lib.hid (HLX.out.1.trans HLY.out.1.symm)
  have HLA := Lib.hid ((Bd.addL_length xs ys HLL.out).trans HLX.out.1)
  have idx := fun (k : Nat) (u : Int) (h : ys[k]? = some u) => run_index_ten ys k u HLY.out.1 h
  have IDX := Lib.hid idx
  clear hokx hoky hx hy idx
  go_enter Tryz.func195, Tryz.ntmps195
  go_wp2_with fail
  refine (layOut_yes hx'.out HX.out).mono ?_
  rintro e w1 ⟨rfl, hb1⟩
  have hy2 := Lib.hid ((hy'.out.next hb1).alloc (Nat.le_refl _) (.cells (AV xs) 93))
  go_wp2_with (refine wpList_store_ten rfl rfl _ _ rfl w1.heap.size rfl 93 (AV z10) xs rfl (heap_alloc_new w1 _) rfl HLX.out.1 _ (setRow_alloc w1 _ _ _) ?_)
  refine (layOut_yes (hy2.out.mono (by simp)) HY.out).mono ?_
  rintro e w2 ⟨rfl, hb2⟩
  have hs2 := hb2.size
  have hblk : (w2.alloc (.cells (AV ys) 93)).heap[w1.heap.size]? = some (.cells (AV xs) 93 (0, 0)) :=
    (Below.heap_alloc w2 _ _ (by simp at hs2; omega)).trans ((hb2.block _ (by simp)).trans (heap_alloc_new w1 _))
  have HBLK := Lib.hid hblk
  have HBEL := Lib.hid (((hb1.alloc hb1.size (.cells (AV xs) 93)).trans (hb2.mono (by have := hb1.size; simp; omega))).alloc (by have := hb1.size; simp at hs2; omega) (.cells (AV ys) 93))
  have HSZ := Lib.hid hb1.size
  clear hblk
  go_wp2_with (first
    | (refine wpList_store_ten rfl rfl _ _ rfl w2.heap.size rfl 93 (AV z10) ys rfl (heap_alloc_new w2 _) rfl HLY.out.1 _ (setRow_alloc w2 _ _ _) ?_)
    | (refine wpList_load_ten rfl (.tmp 8) rfl w2.heap.size rfl _ ys _ (heap_alloc_new w2 _) HLY.out.1 ?_))
  go_loopw [10, 11, 29] (fun _ _ i wr => ∃ k : Nat, k ≤ 10 ∧ i = .int .i64 k ∧ wr.heap[w1.heap.size]? = some (.cells (AV ((Bd.addL xs ys).take k ++ xs.drop k)) 93 (0, 0)) ∧ (w2.alloc (.cells (AV ys) 93)).grownBy wr (some w1.heap.size)) (fun _ _ i _ => 10 - (intOf i).toNat)
  case atStart => exact ⟨0, by omega, rfl, by simpa using HBLK.out, World.grownBy.refl _ _⟩
  case round =>
    obtain ⟨k, hk, rfl, hblk, hg⟩ := hrel
    have HG := Lib.hid hg
    by_cases hlt : k < 10
    · obtain ⟨u, hu⟩ : ∃ u, xs[k]? = some u := ⟨_, List.getElem?_eq_getElem (by have := HLX.out.1; omega)⟩
      obtain ⟨v, hv⟩ : ∃ v, ys[k]? = some v := ⟨_, List.getElem?_eq_getElem (by have := HLY.out.1; omega)⟩
      obtain ⟨u0, u1⟩ := HLX.out.2 u (List.mem_of_getElem? hu)
      obtain ⟨v0, v1⟩ := HLY.out.2 v (List.mem_of_getElem? hv)
      have HN := Lib.hid (Bd.lay_next HLL.out hu hv)
      have cu := (cell_of_row wr _ k _ _ _ hblk).trans (AV_get (Bd.lay_at HLL.out hu))
      have fu := frozen_of_row wr _ k _ _ hblk
      have hi := IDX.out k v hv
      have HS := Lib.hid (heap_setCell_same wr w1.heap.size k _ 93 (.int .i64 (u + v)) hblk)
      clear hblk hg hu hv
      go_wp2
      go_roundw
      case rel =>
        refine ⟨k + 1, by omega, by go_num, ?_, ?_⟩
        · have := HS.out
          rwa [AV_set, HN.out] at this
        · have := HG.out
          exact ⟨this.os, this.tape, this.output, by simpa [World.setCell] using this.size, fun b hb hne => (heap_setCell_other wr _ b _ (fun e => hne (by rw [e]))).trans (this.block b hb hne)⟩
      case measure => simp [intOf]; omega
    · have e10 : (Bd.addL xs ys).take k ++ xs.drop k = Bd.addL xs ys := by
        rw [List.take_of_length_le (by have := HLA.out; omega), List.drop_eq_nil_of_le (by have := HLX.out.1; omega), List.append_nil]
      rw [e10] at hblk
      have HB2 := Lib.hid hblk
      have HBR := Lib.hid (HBEL.out.grown hg (by simp at hs2 ⊢; have := HSZ.out; omega) (by intro b hb; cases hb; exact HSZ.out))
      clear hblk hg e10
      go_wp2_with (first
        | (refine wpList_load_ten rfl (.tmp 6) rfl w1.heap.size rfl _ (Bd.addL xs ys) _ HB2.out HLA.out ?_)
        | (go_at_call 221; refine (board_any (Bd.addL xs ys) HLA.out _).mono ?_; rintro e w3 ⟨⟨A2, n2, c2, rfl, hown⟩, hb3⟩))
      go_ret2
      have hs3 := HBR.out.size
      exact ⟨⟨_, _, _, rfl, hown.mono (by omega)⟩, HBR.out.trans (hb3.mono (by omega))⟩
end Go.Proofs.YthdoofmfigemoaaGreatDoor
end

section
/-
  Taking and doubling boards: what the program's functions give back, for all lists.
-/
namespace Go.Proofs.YthdoofmfigemoaaGreatDoor
open Go.RowKit

theorem BoardLay_any (A B : Option Addr) (n c m d : Nat) (xs ys : List Int) (w : World) (hx : Ints w w.heap.size A n xs) (hy : Ints w w.heap.size B m ys) :
    Calls Tryz.prog 195 #[.slice A n c, .slice B m d] w (BoardPost w (layOK xs ys) (Bd.addL xs ys)) := by
  rcases hokx : Bd.okB xs with _ | _
  · have hv : layOK xs ys = false := by simp [layOK, hokx]
    rw [hv]
    exact BoardLay_no A B n c m d xs ys w hx hy (.inl hokx)
  · rcases hoky : Bd.okB ys with _ | _
    · have hv : layOK xs ys = false := by simp [layOK, hoky]
      rw [hv]
      exact BoardLay_no A B n c m d xs ys w hx hy (.inr hoky)
    · have hv : layOK xs ys = fitB (Bd.addL xs ys) := by simp [layOK, hokx, hoky]
      rw [hv]
      exact BoardLay_yes A B n c m d xs ys w hx hy hokx hoky

theorem ten_list {xs : List Int} (h : xs.length = 10) : ∃ x0 x1 x2 x3 x4 x5 x6 x7 x8 x9, xs = [x0, x1, x2, x3, x4, x5, x6, x7, x8, x9] := by
  match xs, h with
  | [x0, x1, x2, x3, x4, x5, x6, x7, x8, x9], _ => exact ⟨x0, x1, x2, x3, x4, x5, x6, x7, x8, x9, rfl⟩
theorem value_ten (x0 x1 x2 x3 x4 x5 x6 x7 x8 x9 : Int) (hx : ∀ x ∈ ([x0, x1, x2, x3, x4, x5, x6, x7, x8, x9] : List Int), 0 ≤ x ∧ x ≤ 20) (w : World) :
    Calls Tryz.prog 96 #[.agg #[.int .i64 x0, .int .i64 x1, .int .i64 x2, .int .i64 x3, .int .i64 x4, .int .i64 x5, .int .i64 x6, .int .i64 x7, .int .i64 x8, .int .i64 x9]] w fun e w' => e = .returned (.int .i64 (Bd.V true [x0, x1, x2, x3, x4, x5, x6, x7, x8, x9])) ∧ w.alloc (.cells #[.int .i64 x0, .int .i64 x1, .int .i64 x2, .int .i64 x3, .int .i64 x4, .int .i64 x5, .int .i64 x6, .int .i64 x7, .int .i64 x8, .int .i64 x9] 93) = w' := value_any [x0, x1, x2, x3, x4, x5, x6, x7, x8, x9] rfl hx w

end Go.Proofs.YthdoofmfigemoaaGreatDoor
end

section
/-
  The commands that change the board: setBoard, lay, reduce, raise.
-/
namespace Go.Proofs.YthdoofmfigemoaaGreatDoor
open Go.RowKit
set_option linter.unusedSimpArgs false
set_option maxRecDepth 100000

def okT : ByteArray := ⟨#[111, 107, 10]⟩
theorem setBoard_yes {w : World} {tb : Nat} {x0 x1 x2 x3 : Value} (hb : Blk w tb #[x0, x1, x2, x3] 62) (A : Option Addr) (n c : Nat) :
    Calls Tryz.prog 194 #[.pointer (some ⟨tb, 0, none⟩), .slice A n c, .bool true] w fun e w' => e = .returned (.tuple #[.string okT, .bool true]) ∧ w' = w.setCell ⟨tb, 0, none⟩ (.slice A n c) := by
  have c0 := hb.cell (j := 0) (v := x0) rfl
  have f0 := hb.free 0
  go_enter Tryz.func194, Tryz.ntmps194
  go_wp2
  go_ret2
  exact ⟨rfl, rfl⟩
theorem setBoard_no (w : World) (t : Option Addr) (A : Option Addr) (n c : Nat) :
    Calls Tryz.prog 194 #[.pointer t, .slice A n c, .bool false] w fun e w' => e = .returned (.tuple #[.string ⟨#[]⟩, .bool false]) ∧ w' = w := by
  go_enter Tryz.func194, Tryz.ntmps194
  go_wp2
  go_ret2
  exact ⟨rfl, rfl⟩
/-- the table behind a command of the board -/
def BoardCmd (B0 tb : Nat) (bs' ds : List Int) (ts : List Tl) (ok' : Bool) (s : ByteArray) (ok : Bool) (w' : World) : Prop := ok = ok' ∧ (s = if ok' then okT else ⟨#[]⟩) ∧ Tab B0 w' tb bs' ds ts
/-- what reduce, lay and raise do with what the board's function hands back -/
theorem board_cmd {B0 tb : Nat} {bs xs ds : List Int} {ts : List Tl} {w w1 : World} {ok : Bool} {A : Option Addr} {n c : Nat} (h : Tab B0 w tb bs ds ts) (hw : B0 ≤ w.heap.size) (ho : Own w1 w.heap.size A n c (if ok then xs else [])) (hb : Below w.heap.size w w1) :
    Calls Tryz.prog 194 #[.pointer (some ⟨tb, 0, none⟩), .slice A n c, .bool ok] w1 (CmdPost B0 (BoardCmd B0 tb (if ok then xs else bs) ds ts ok) w) := by
  have h1 := h.next hb
  obtain ⟨hB, Ab, nb, cb, A1, c1, A1', c1', At, nt, ct, g0, _⟩ := id h1
  rcases ok with _ | _
  · refine (setBoard_no w1 _ A n c).mono ?_
    rintro e w2 ⟨rfl, rfl⟩
    exact ⟨_, _, rfl, ⟨rfl, rfl, h1⟩, KeptT.of_below hb⟩
  · refine (setBoard_yes g0 A n c).mono ?_
    rintro e w2 ⟨rfl, rfl⟩
    exact ⟨_, _, rfl, ⟨rfl, rfl, h1.setBoard (ho.mono hw)⟩, (KeptT.of_below hb).trans (KeptT.set g0 hB _ _)⟩
theorem reduce_any (B0 tb : Nat) (bs ds : List Int) (ts : List Tl) (v : Value) (w : World) (h : Tab B0 w tb bs ds ts) (hw : B0 ≤ w.heap.size) (Q : Ending → World → Prop) (hQ : Q = CmdPost B0 (BoardCmd B0 tb (if redOK bs then redL bs else bs) ds ts (redOK bs)) w) :
    Calls Tryz.prog 157 #[.pointer (some ⟨tb, 0, none⟩), v] w Q := by
  obtain ⟨hB0, Ab, nb, cb, A, c, A', c', At, nt, ct, g0, g1, g2, g3, g4⟩ := id h
  have HT := Lib.hid h
  have c0 := g0.cell (j := 0) (v := .slice Ab nb cb) rfl
  have HI := Lib.hid g1.ints
  have HW := Lib.hid hw
  have HQ := Lib.hid hQ
  clear h hB0 g0 g1 g2 g3 g4 hw hQ
  go_enter Tryz.func157, Tryz.ntmps157
  go_wp2_with (first
    | (go_at_call 196; refine (BoardReduce_any Ab nb cb bs w HI.out).mono ?_; rintro e w1 ⟨⟨A2, n2, c2, rfl, hown⟩, hb2⟩)
    | (go_at_call 194; refine (board_cmd HT.out HW.out hown hb2).mono ?_; rintro e w2 ⟨s, ok, rfl, hq, hk⟩))
  rw [HQ.out]
  exact ⟨s, ok, rfl, hq, hk⟩
set_option maxHeartbeats 4000000 in
theorem raise_any (B0 tb : Nat) (bs ds : List Int) (ts : List Tl) (x : Int) (A0 : Option Addr) (n0 : Nat) (w : World) (hn : Own w B0 A0 1 n0 [x]) (h : Tab B0 w tb bs ds ts) (hw : B0 ≤ w.heap.size) (Q : Ending → World → Prop) (hQ : Q = CmdPost B0 (BoardCmd B0 tb (if raiseOK bs x then Bd.raiseL bs x.toNat else bs) ds ts (raiseOK bs x)) w) :
    Calls Tryz.prog 158 #[.pointer (some ⟨tb, 0, none⟩), .slice A0 1 n0] w Q := by
  obtain ⟨hB0, Ab, nb, cb, A, c, A', c', At, nt, ct, g0, g1, g2, g3, g4⟩ := id h
  obtain ⟨g, rfl, _, hg, hcell, _⟩ := hn.at_ (by omega)
  have d0 := hcell 0 x rfl
  have HT := Lib.hid h
  have c0 := g0.cell (j := 0) (v := .slice Ab nb cb) rfl
  have HI := Lib.hid g1.ints
  have HW := Lib.hid hw
  have HQ := Lib.hid hQ
  clear h hB0 g0 g1 g2 g3 g4 hw hQ hn hcell
  go_enter Tryz.func158, Tryz.ntmps158
  go_wp2_with fail
  go_region_with (first
    | (go_at_call 197; refine (BoardRaise_any Ab nb cb bs x _ HI.out.drew).mono ?_; rintro e w1 ⟨⟨A2, n2, c2, rfl, hown⟩, hb2⟩)
    | (go_at_call 194; refine (board_cmd HT.out HW.out hown (((Below.refl _ _).drew).trans hb2)).mono ?_; rintro e w2 ⟨s, ok, rfl, hq, hk⟩))
  all_goals
    go_wp2_with fail
    go_ret2
    rw [HQ.out]
    exact ⟨s, ok, rfl, hq, hk⟩
theorem lay_any (B0 tb : Nat) (bs ds : List Int) (ts : List Tl) (x : Int) (A0 : Option Addr) (n0 : Nat) (w : World) (hn : Own w B0 A0 1 n0 [x]) (h : Tab B0 w tb bs ds ts) (hw : B0 ≤ w.heap.size) (Q : Ending → World → Prop)
    (hQ : Q = CmdPost B0 (BoardCmd B0 tb (if okV x && layOK bs (Bd.D true 10 x) then Bd.addL bs (Bd.D true 10 x) else bs) ds ts (okV x && layOK bs (Bd.D true 10 x))) w) :
    Calls Tryz.prog 156 #[.pointer (some ⟨tb, 0, none⟩), .slice A0 1 n0] w Q := by
  obtain ⟨hB0, Ab, nb, cb, A, c, A', c', At, nt, ct, g0, g1, g2, g3, g4⟩ := id h
  obtain ⟨g, rfl, _, hg, hcell, _⟩ := hn.at_ (by omega)
  have d0 := hcell 0 x rfl
  have HT := Lib.hid h
  have HG := Lib.hid g0
  have HI := Lib.hid g1.ints
  have HW := Lib.hid hw
  rcases hok : okV x with _ | _
  · have HQ := Lib.hid hQ
    have HOK := Lib.hid hok
    clear h hB0 g0 g1 g2 g3 g4 hw hQ hn hcell hok
    go_enter Tryz.func156, Tryz.ntmps156
    go_wp2_with (first
      | (go_at_call 25; refine (BoardOf_any x _).mono ?_; rw [HOK.out]; rintro e w1 ⟨⟨A2, n2, c2, rfl, hown⟩, hb2⟩))
    rw [HQ.out, HOK.out]
    exact ⟨_, _, rfl, ⟨rfl, rfl, HT.out.next hb2⟩, KeptT.of_below hb2⟩
  · have HQ := Lib.hid hQ
    have HOK := Lib.hid hok
    clear h hB0 g0 g1 g2 g3 g4 hw hQ hn hcell hok
    go_enter Tryz.func156, Tryz.ntmps156
    go_wp2_with (first
      | (go_at_call 25; refine (BoardOf_any x _).mono ?_; rw [HOK.out]; rintro e w1 ⟨⟨A2, n2, c2, rfl, hown⟩, hb2⟩; have c0 := (HG.out.next hb2).cell (j := 0) (v := .slice Ab nb cb) rfl)
      | (go_at_call 195; refine (BoardLay_any Ab A2 nb cb n2 c2 bs _ w1 (HI.out.next hb2) hown.ints).mono ?_; rintro e w2 ⟨⟨A3, n3, c3, rfl, hown3⟩, hb3⟩)
      | (go_at_call 194; refine (board_cmd (HT.out.next hb2) (Nat.le_trans HW.out hb2.size) hown3 hb3).mono ?_; rintro e w2 ⟨s, ok, rfl, hq, hk⟩))
    rw [HQ.out, HOK.out, Bool.true_and]
    exact ⟨s, ok, rfl, hq, (KeptT.of_below hb2).trans hk⟩
end Go.Proofs.YthdoofmfigemoaaGreatDoor
end

section
/-
  add and take on the rods.
-/
namespace Go.Proofs.YthdoofmfigemoaaGreatDoor
open Go.RowKit

/-- a change of a rod that is not the first -/
def chgAt (s : Int) (ds : List Int) (k : Nat) (g : Int) : Option (List Int × Int) := (Fr.chg s (ds.drop k) g).map fun p => (ds.take k ++ p.1, p.2)
/-- what is left to be done, p pushes behind it -/
def chgP (s : Int) (ds : List Int) (k : Nat) (g p : Int) : Option (List Int × Int) := (chgAt s ds k g).map fun q => (q.1, p + q.2)
theorem chgP_zero (s : Int) (ds : List Int) (k : Nat) (g : Int) : chgP s ds k g 0 = chgAt s ds k g := by
  unfold chgP
  cases chgAt s ds k g <;> simp
theorem chgP_done (s : Int) (ds : List Int) (k : Nat) (p : Int) : chgP s ds k 0 p = some (ds, p) := by
  unfold chgP chgAt
  cases h : ds.drop k with
  | nil => simp [Fr.chg]; exact List.take_of_length_le (by simpa using h)
  | cons a l => simp only [Fr.chg, if_pos, Option.map_some]; rw [← h, List.take_append_drop, Int.add_zero]
theorem chgP_out (s : Int) (ds : List Int) (k : Nat) (g p : Int) (hg : g ≠ 0) (hk : ds.length ≤ k) : chgP s ds k g p = none := by
  unfold chgP chgAt
  rw [List.drop_of_length_le hk]
  simp [Fr.chg, hg]
theorem drop_cons {ds : List Int} {k : Nat} {d : Int} (hd : ds[k]? = some d) : ds.drop k = d :: ds.drop (k + 1) := by
  obtain ⟨h, rfl⟩ := List.getElem?_eq_some_iff.1 hd
  exact List.drop_eq_getElem_cons h
theorem chgP_in (s : Int) (ds : List Int) (k : Nat) (g p d : Int) (hg : g ≠ 0) (hd : ds[k]? = some d) (h0 : 0 ≤ d + s * g) (h9 : d + s * g ≤ 9) : chgP s ds k g p = some (ds.set k (d + s * g), p + Fr.cost d (d + s * g)) := by
  have hl := (List.getElem?_eq_some_iff.1 hd).1
  unfold chgP chgAt
  rw [drop_cons hd]
  simp only [Fr.chg, if_neg hg, if_pos (And.intro h0 h9), Option.map_some]
  rw [List.set_eq_take_append_cons_drop, if_pos hl]
theorem chgP_over (s : Int) (ds : List Int) (k : Nat) (g p d : Int) (hg : g ≠ 0) (hd : ds[k]? = some d) (h : ¬ (0 ≤ d + s * g ∧ d + s * g ≤ 9)) :
    chgP s ds k g p = chgP s (ds.set k (d + s * g - 10 * s)) (k + 1) 1 (p + Fr.cost d (d + s * g - 10 * s)) := by
  have hl := (List.getElem?_eq_some_iff.1 hd).1
  unfold chgP chgAt
  rw [drop_cons hd]
  simp only [Fr.chg, if_neg hg, if_neg h]
  have e1 : (ds.set k (d + s * g - 10 * s)).drop (k + 1) = ds.drop (k + 1) := List.drop_set_of_lt (by omega)
  have e2 : (ds.set k (d + s * g - 10 * s)).take (k + 1) = ds.take k ++ [d + s * g - 10 * s] := by
    rw [List.take_add_one, List.take_set_of_le (by omega), List.getElem?_set_self hl]; rfl
  rw [e1, e2]
  cases Fr.chg s (ds.drop (k + 1)) 1 with
  | none => rfl
  | some q => simp; omega

theorem digs_set {ds : List Int} (h : Fr.Digs ds) (k : Nat) {x : Int} (h0 : 0 ≤ x) (h9 : x ≤ 9) : Fr.Digs (ds.set k x) := by
  intro d hd
  rcases List.mem_or_eq_of_mem_set hd with h1 | h1
  · exact h d h1
  · subst h1; exact ⟨h0, h9⟩
theorem cost_le (a b : Int) : 0 ≤ Fr.cost a b ∧ Fr.cost a b ≤ 2 := by unfold Fr.cost; split <;> split <;> omega

theorem grown_undrewN {a w : World} {q : Nat} {row : Option Nat} (h : (a.drewN q).grownBy w row) : a.grownBy w row := ⟨h.os, h.tape, h.output, h.size, h.block⟩
/-- what a change on rods leaves -/
def ChgPost (w : World) (B g h : Nat) (R : Option (List Int × Int)) (n : Nat) (e : Ending) (w' : World) : Prop :=
  (∃ es, Rods w' B g h es ∧ Fr.Digs es ∧ es.length = n ∧ e = .returned (.tuple #[.int .i64 (match R with | some p => p.2 | none => 0), .bool R.isSome]) ∧ (∀ p, R = some p → p.1 = es)) ∧ w.grownBy w' (some h)

set_option maxRecDepth 100000 in
set_option maxHeartbeats 2000000 in
theorem add_any (w : World) (B g h : Nat) (ds : List Int) (n k : Nat) (x : Int) (hr : Rods w B g h ds) (hds : Fr.Digs ds) (hn : ds.length = n) (hn6 : n ≤ 6) (x0 : 0 ≤ x) (x9 : x ≤ 9) (hk6 : k ≤ 6) :
    Calls Tryz.prog 60 #[.pointer (some ⟨g, 0, none⟩), .int .i64 (k : Int), .int .i64 x] w (ChgPost w B g h (chgAt 1 ds k x) n) := by
  rw [← chgP_zero]
  obtain ⟨R, hR⟩ : ∃ R, chgP 1 ds k x 0 = R := ⟨_, rfl⟩
  rw [hR]
  have HR := Lib.hid hr
  have HD := Lib.hid hds
  have HN := Lib.hid hn
  have HE := Lib.hid hR
  have HG := Lib.hid (World.grownBy.refl w (some h))
  clear hr hds hn hR
  go_enter Tryz.func60, Tryz.ntmps60
  go_wp2
  go_loopw [1, 2, 8] (fun kv xv pv wr => ∃ (j : Nat) (y p : Int) (es : List Int), kv = .int .i64 (j : Int) ∧ xv = .int .i64 y ∧ pv = .int .i64 p ∧ j ≤ 6 + 1 ∧ 0 ≤ y ∧ y ≤ 9 ∧ 0 ≤ p ∧ p ≤ 2 * j ∧ Rods wr B g h es ∧ Fr.Digs es ∧ es.length = n ∧ chgP 1 es j y p = R ∧ w.grownBy wr (some h)) (fun kv _ _ _ => 7 - (intOf kv).toNat)
  case atStart => exact ⟨k, x, 0, ds, rfl, rfl, rfl, by omega, x0, x9, by omega, by omega, HR.out, HD.out, HN.out, HE.out, HG.out⟩
  case round =>
    clear HR HD HN HE HG
    obtain ⟨j, y, p, es, rfl, rfl, rfl, hj, y0, y9, p0, p1, hr, hds, hn, hE, hg⟩ := hrel
    have hsl := hr.slice
    rw [hn] at hsl
    have HR := Lib.hid hr
    have HD := Lib.hid hds
    have HN := Lib.hid hn
    have HE := Lib.hid hE
    have HG := Lib.hid hg
    clear hr hds hn hE hg
    by_cases hy : y = 0
    · subst hy
      go_wp2
      go_ret2
      have he := HE.out
      rw [chgP_done] at he
      subst he
      exact ⟨⟨es, HR.out, HD.out, HN.out, rfl, by rintro q ⟨⟩; rfl⟩, HG.out⟩
    · have yp : 0 < y := by omega
      by_cases hjn : j < n
      · obtain ⟨d, hd⟩ : ∃ d, es[j]? = some d := ⟨_, List.getElem?_eq_getElem (by have := HN.out; omega)⟩
        obtain ⟨d0, d9⟩ := HD.out d (List.mem_of_getElem? hd)
        have hch := HR.out.hi hd
        have hcl := HR.out.lo hd
        have HDD := Lib.hid hd
        have HY := Lib.hid hy
        clear hd hy
        have j0 : (0 : Int) ≤ (j : Int) := by omega
        have j1 : (j : Int) < (n : Int) := by omega
        by_cases hin : d ≤ 9 - y
        · obtain ⟨t0, t1⟩ := cost_le d (d + y)
          go_wp2_with fail
          refine (rod_digit HR.out HDD.out d0 d9).mono ?_
          rintro e w1 ⟨rfl, q1, rfl⟩
          go_wp2_with fail
          refine (rod_digit (HR.out.drewN _) HDD.out d0 d9).mono ?_
          rintro e w1 ⟨rfl, q2, rfl⟩
          go_wp2_with fail
          refine (show_any _ B g h es j d (d + y) (HR.out.drewN _) HDD.out (by omega) (by omega)).mono ?_
          rintro e w3 ⟨rfl, hr3, hg3⟩
          have HR3 := Lib.hid hr3
          have HG3 := Lib.hid (HG.out.trans (grown_undrewN hg3))
          clear hr3 hg3
          go_wp2
          go_ret2
          have he := HE.out
          rw [chgP_in _ _ _ _ _ d HY.out HDD.out (by omega) (by omega)] at he
          subst he
          rw [Int.one_mul]
          exact ⟨⟨_, HR3.out, digs_set HD.out j (by omega) (by omega), by rw [List.length_set]; exact HN.out, rfl, by rintro q ⟨⟩; rfl⟩, HG3.out⟩
        · obtain ⟨t0, t1⟩ := cost_le d (d - (10 - y))
          have hin' : 9 - y < d := by omega
          clear hin
          go_wp2_with fail
          refine (rod_digit HR.out HDD.out d0 d9).mono ?_
          rintro e w1 ⟨rfl, q1, rfl⟩
          go_wp2_with fail
          refine (rod_digit (HR.out.drewN _) HDD.out d0 d9).mono ?_
          rintro e w1 ⟨rfl, q2, rfl⟩
          go_wp2_with fail
          refine (show_any _ B g h es j d (d - (10 - y)) (HR.out.drewN _) HDD.out (by omega) (by omega)).mono ?_
          rintro e w3 ⟨rfl, hr3, hg3⟩
          have HR3 := Lib.hid hr3
          have HG3 := Lib.hid (HG.out.trans (grown_undrewN hg3))
          clear hr3 hg3
          go_wp2
          go_roundw
          case rel =>
            have he := HE.out
            rw [chgP_over _ _ _ _ _ d HY.out HDD.out (by omega)] at he
            have e1 : d + 1 * y - 10 * 1 = d - (10 - y) := by omega
            rw [e1] at he
            exact ⟨j + 1, 1, _, _, by go_num, rfl, rfl, by omega, by omega, by omega, by omega, by omega, HR3.out, digs_set HD.out j (by omega) (by omega), by rw [List.length_set]; exact HN.out, he, HG3.out⟩
          case measure => simp [intOf]; omega
      · go_wp2
        go_ret2
        have he := HE.out
        rw [chgP_out _ _ _ _ _ hy (by have := HN.out; omega)] at he
        subst he
        exact ⟨⟨es, HR.out, HD.out, HN.out, rfl, by rintro q ⟨⟩⟩, HG.out⟩

set_option maxRecDepth 100000 in
set_option maxHeartbeats 2000000 in
theorem take_any (w : World) (B g h : Nat) (ds : List Int) (n k : Nat) (x : Int) (hr : Rods w B g h ds) (hds : Fr.Digs ds) (hn : ds.length = n) (hn6 : n ≤ 6) (x0 : 0 ≤ x) (x9 : x ≤ 9) (hk6 : k ≤ 6) :
    Calls Tryz.prog 61 #[.pointer (some ⟨g, 0, none⟩), .int .i64 (k : Int), .int .i64 x] w (ChgPost w B g h (chgAt (-1) ds k x) n) := by
  rw [← chgP_zero]
  obtain ⟨R, hR⟩ : ∃ R, chgP (-1) ds k x 0 = R := ⟨_, rfl⟩
  rw [hR]
  have HR := Lib.hid hr
  have HD := Lib.hid hds
  have HN := Lib.hid hn
  have HE := Lib.hid hR
  have HG := Lib.hid (World.grownBy.refl w (some h))
  clear hr hds hn hR
  go_enter Tryz.func61, Tryz.ntmps61
  go_wp2
  go_loopw [1, 2, 8] (fun kv xv pv wr => ∃ (j : Nat) (y p : Int) (es : List Int), kv = .int .i64 (j : Int) ∧ xv = .int .i64 y ∧ pv = .int .i64 p ∧ j ≤ 6 + 1 ∧ 0 ≤ y ∧ y ≤ 9 ∧ 0 ≤ p ∧ p ≤ 2 * j ∧ Rods wr B g h es ∧ Fr.Digs es ∧ es.length = n ∧ chgP (-1) es j y p = R ∧ w.grownBy wr (some h)) (fun kv _ _ _ => 7 - (intOf kv).toNat)
  case atStart => exact ⟨k, x, 0, ds, rfl, rfl, rfl, by omega, x0, x9, by omega, by omega, HR.out, HD.out, HN.out, HE.out, HG.out⟩
  case round =>
    clear HR HD HN HE HG
    obtain ⟨j, y, p, es, rfl, rfl, rfl, hj, y0, y9, p0, p1, hr, hds, hn, hE, hg⟩ := hrel
    have hsl := hr.slice
    rw [hn] at hsl
    have HR := Lib.hid hr
    have HD := Lib.hid hds
    have HN := Lib.hid hn
    have HE := Lib.hid hE
    have HG := Lib.hid hg
    clear hr hds hn hE hg
    by_cases hy : y = 0
    · subst hy
      go_wp2
      go_ret2
      have he := HE.out
      rw [chgP_done] at he
      subst he
      exact ⟨⟨es, HR.out, HD.out, HN.out, rfl, by rintro q ⟨⟩; rfl⟩, HG.out⟩
    · have yp : 0 < y := by omega
      by_cases hjn : j < n
      · obtain ⟨d, hd⟩ : ∃ d, es[j]? = some d := ⟨_, List.getElem?_eq_getElem (by have := HN.out; omega)⟩
        obtain ⟨d0, d9⟩ := HD.out d (List.mem_of_getElem? hd)
        have hch := HR.out.hi hd
        have hcl := HR.out.lo hd
        have HDD := Lib.hid hd
        have HY := Lib.hid hy
        clear hd hy
        have j0 : (0 : Int) ≤ (j : Int) := by omega
        have j1 : (j : Int) < (n : Int) := by omega
        by_cases hin : y ≤ d
        · obtain ⟨t0, t1⟩ := cost_le d (d - y)
          go_wp2_with fail
          refine (rod_digit HR.out HDD.out d0 d9).mono ?_
          rintro e w1 ⟨rfl, q1, rfl⟩
          go_wp2_with fail
          refine (rod_digit (HR.out.drewN _) HDD.out d0 d9).mono ?_
          rintro e w1 ⟨rfl, q2, rfl⟩
          go_wp2_with fail
          refine (show_any _ B g h es j d (d - y) (HR.out.drewN _) HDD.out (by omega) (by omega)).mono ?_
          rintro e w3 ⟨rfl, hr3, hg3⟩
          have HR3 := Lib.hid hr3
          have HG3 := Lib.hid (HG.out.trans (grown_undrewN hg3))
          clear hr3 hg3
          go_wp2
          go_ret2
          have he := HE.out
          rw [chgP_in _ _ _ _ _ d HY.out HDD.out (by omega) (by omega)] at he
          subst he
          rw [show d + -1 * y = d - y from by omega]
          exact ⟨⟨_, HR3.out, digs_set HD.out j (by omega) (by omega), by rw [List.length_set]; exact HN.out, rfl, by rintro q ⟨⟩; rfl⟩, HG3.out⟩
        · obtain ⟨t0, t1⟩ := cost_le d (d + (10 - y))
          have hin' : d < y := by omega
          clear hin
          go_wp2_with fail
          refine (rod_digit HR.out HDD.out d0 d9).mono ?_
          rintro e w1 ⟨rfl, q1, rfl⟩
          go_wp2_with fail
          refine (rod_digit (HR.out.drewN _) HDD.out d0 d9).mono ?_
          rintro e w1 ⟨rfl, q2, rfl⟩
          go_wp2_with fail
          refine (show_any _ B g h es j d (d + (10 - y)) (HR.out.drewN _) HDD.out (by omega) (by omega)).mono ?_
          rintro e w3 ⟨rfl, hr3, hg3⟩
          have HR3 := Lib.hid hr3
          have HG3 := Lib.hid (HG.out.trans (grown_undrewN hg3))
          clear hr3 hg3
          go_wp2
          go_roundw
          case rel =>
            have he := HE.out
            rw [chgP_over _ _ _ _ _ d HY.out HDD.out (by omega)] at he
            have e1 : d + -1 * y - 10 * -1 = d + (10 - y) := by omega
            rw [e1] at he
            exact ⟨j + 1, 1, _, _, by go_num, rfl, rfl, by omega, by omega, by omega, by omega, by omega, HR3.out, digs_set HD.out j (by omega) (by omega), by rw [List.length_set]; exact HN.out, he, HG3.out⟩
          case measure => simp [intOf]; omega
      · go_wp2
        go_ret2
        have he := HE.out
        rw [chgP_out _ _ _ _ _ hy (by have := HN.out; omega)] at he
        subst he
        exact ⟨⟨es, HR.out, HD.out, HN.out, rfl, by rintro q ⟨⟩⟩, HG.out⟩
end Go.Proofs.YthdoofmfigemoaaGreatDoor
end

section
/-
  The rods of a frame: rodsOf of the program.
-/
namespace Go.Proofs.YthdoofmfigemoaaGreatDoor
open Go.RowKit

theorem rod_info : (Tryz.prog.info? 82).map (fun i => (i.zero, i.size, i.bytes)) = some (some (.agg #[.int .i64 0, .int .i64 0]), 2, 16) := by kernel_rfl
theorem RC_zero (n : Nat) : RC (List.replicate n 0) = List.replicate (2 * n) (.int .i64 0) := by
  induction n with
  | zero => rfl
  | succ n ih =>
    rw [List.replicate_succ, show 2 * (n + 1) = 2 * n + 1 + 1 from by omega, List.replicate_succ, List.replicate_succ, RC, ih]
    rfl
theorem madeCells_two (n : Nat) : madeCells (Value.agg #[.int .i64 0, .int .i64 0]).cells (n * 2) = (RC (List.replicate n 0)).toArray := by
  rw [RC_zero]
  apply Array.ext_getElem?
  intro j
  by_cases hj : j < n * 2
  · have h2 : j < 2 * n := by omega
    have e : (Value.agg #[Value.int IntKind.i64 0, Value.int IntKind.i64 0]).cells = #[Value.int .i64 0, Value.int .i64 0] := rfl
    rw [e]
    rcases (show j % 2 = 0 ∨ j % 2 = 1 from by omega) with h | h <;> simp [madeCells, hj, h2, h]
  · have h2 : ¬ j < 2 * n := by omega
    simp [madeCells, hj, h2]
/-- make(beadRods, n) -/
theorem wpList_make_rods {ops : Array Oper} {rest : List Oper} {o : Oper} {a : Act} {w : World} {Q : Exit → Act → World → Prop} (hgd : o.guard = none) (l c : Operand)
    (ho : o.op = .makeSlice 80 l c) {n : Nat} (hl : a.eval l = .int .i64 (n : Int)) (hc : a.eval c = .int .i64 (n : Int)) (hn : n ≤ 1000)
    (h : ∀ w', w'.heap[w.heap.size]? = some (.cells (RC (List.replicate n 0)).toArray 82 (0, 0)) → w.grownBy w' none → wpList Tryz.prog ops Q rest (a.put o.dst (.slice (some ⟨w.heap.size, 0, none⟩) n n)) w') :
    wpList Tryz.prog ops Q (o :: rest) a w := by
  obtain ⟨i0, hi, hz0, hz1, hz2⟩ := info_parts rod_info
  refine wpList_make_full w hgd l c 80 ho 0 82 i0 (.agg #[.int .i64 0, .int .i64 0]) 2 Tryz.underlying80 hi hz0 hz1 .i64 .i64 _ _ n hl hc rfl rfl (by rw [hz2]; omega) (by unfold maxLen; omega) (Nat.zero_le _) ?_
  intro w' hown hg
  refine h w' ?_ hg
  rcases hown.2 with ⟨h1, _⟩ | ⟨g, cap, cur, hv, _, hg', _, _, hs, ht⟩
  · simp only [Value.slice.injEq, reduceCtorEq, false_and] at h1
  · simp only [Value.slice.injEq, Option.some.injEq, Addr.mk.injEq] at hv
    obtain ⟨⟨e1, _⟩, _, e3⟩ := hv
    subst e1
    subst e3
    rw [hg']
    have : cur.toList = (madeCells (Value.agg #[.int .i64 0, .int .i64 0]).cells (n * 2)).toList := by
      rw [← ht, List.take_of_length_le (by simp [hs])]
    rw [madeCells_two] at this
    have e : cur = (RC (List.replicate n 0)).toArray := by
      apply Array.ext'
      exact this
    rw [e]

/-- a frame's two slices in a block of its own -/
def FBox (w : World) (b : Nat) (u v : Value) : Prop := w.heap[b]? = some (.cells #[u, v] 30 (0, 0))
section
variable {w w' : World} {b : Nat} {u v : Value}
theorem FBox.lt (h : FBox w b u v) : b < w.heap.size := (Array.getElem?_eq_some_iff.1 h).1
theorem FBox.keep (h : FBox w b u v) (hb : w'.heap[b]? = w.heap[b]?) : FBox w' b u v := hb.trans h
theorem FBox.fst (h : FBox w b u v) : w.cell? ⟨b, 0, none⟩ = some u := by rw [cell_of_row w b 0 _ _ _ h]; rfl
theorem FBox.snd (h : FBox w b u v) : w.cell? ⟨b, 1, none⟩ = some v := by rw [cell_of_row w b 1 _ _ _ h]; rfl
theorem FBox.new (w : World) (u v : Value) : FBox (w.alloc (.cells #[u, v] 30)) w.heap.size u v := heap_alloc_new w _
theorem FBox.alloc (h : FBox w b u v) (o : Obj) : FBox (w.alloc o) b u v := h.keep (Below.heap_alloc w o b h.lt)
theorem FBox.drewN (h : FBox w b u v) (k : Nat) : FBox (w.drewN k) b u v := h
theorem FBox.next (h : FBox w b u v) (hb : Below w.heap.size w w') : FBox w' b u v := h.keep (hb.block b h.lt)
theorem FBox.grown (h : FBox w b u v) {row : Option Nat} (hg : w.grownBy w' row) (hne : some b ≠ row) : FBox w' b u v := h.keep (hg.block b h.lt hne)
end

theorem HiL_get {ds : List Int} {k : Nat} {u : Int} (h : (HiL ds)[k]? = some u) : ∃ d, ds[k]? = some d ∧ u = d / 5 := by
  simp only [HiL, List.getElem?_map, Option.map_eq_some_iff] at h
  obtain ⟨d, h1, h2⟩ := h
  exact ⟨d, h1, h2.symm⟩
theorem LoL_get {ds : List Int} {k : Nat} {d : Int} (h : ds[k]? = some d) : (LoL ds)[k]? = some (d % 5) := by simp [LoL, h]
theorem fill_rods {ds : List Int} {n k : Nat} {u : Int} (hk : k < n) (hl : ds.length = n) (h : ds[k]? = some u) :
    (ds.take k ++ List.replicate (n - k) 0).set k u = ds.take (k + 1) ++ List.replicate (n - (k + 1)) 0 := fill_next hk hl h

set_option maxRecDepth 100000 in
set_option maxHeartbeats 2000000 in
theorem rodsOf_yes (A A' : Option Addr) (n c c' : Nat) (ds : List Int) (w : World) (hx : Ints w w.heap.size A n (HiL ds)) (hy : Ints w w.heap.size A' n (LoL ds)) (hds : Fr.Digs ds) (h1 : 1 ≤ n) (h6 : n ≤ 6) :
    Calls Tryz.prog 62 #[.agg #[.slice A n c, .slice A' n c']] w fun e w' => (∃ g h, e = .returned (.tuple #[.pointer (some ⟨g, 0, none⟩), .bool true]) ∧ Rods w' w.heap.size g h ds) ∧ Below w.heap.size w w' := by
  have hl : ds.length = n := by have := hx.len; rwa [HiL_length] at this
  have HX := Lib.hid hx
  have HY := Lib.hid hy
  have HD := Lib.hid hds
  have HL := Lib.hid hl
  clear hx hy hds hl
  go_enter Tryz.func62, Tryz.ntmps62
  go_wp2_with (refine wpList_make_rods rfl _ _ rfl rfl rfl (by omega) ?_; intro w1 hm1 hg1)
  have hsz1 := hg1.size
  simp only [World.size_alloc] at hm1 hsz1
  have hlt1 := (Array.getElem?_eq_some_iff.1 hm1).1
  have HM1 := Lib.hid hm1
  have HB1 := Lib.hid (grown_below hg1 (by simp) (by simp) : Below (w.heap.size + 1) _ w1)
  clear hm1 hg1
  have hR0 : Rods (w1.alloc (.cells #[.slice (some ⟨w.heap.size + 1, 0, none⟩) n n] 80)) w.heap.size w1.heap.size (w.heap.size + 1) (ds.take 0 ++ List.replicate (n - 0) 0) := by
    refine ⟨?_, ?_, by omega, by omega, by omega⟩
    · rw [heap_alloc_new]; simp
    · rw [Below.heap_alloc _ _ _ (by omega), HM1.out]; simp
  have hX0 := ((FBox.new w (.slice A n c) (.slice A' n c')).keep (HB1.out.block w.heap.size (Nat.lt_succ_self _))).alloc (.cells #[.slice (some ⟨w.heap.size + 1, 0, none⟩) n n] 80)
  have hB0 := (((Below.refl w.heap.size w).alloc (Nat.le_refl _) (.cells #[.slice A n c, .slice A' n c'] 30)).trans (HB1.out.mono (Nat.le_succ _))).alloc (by omega) (.cells #[.slice (some ⟨w.heap.size + 1, 0, none⟩) n n] 80)
  have HR0 := Lib.hid hR0
  have HX0 := Lib.hid hX0
  have HB0 := Lib.hid hB0
  clear hR0 hX0 hB0 HM1 HB1
  go_loopw [31] (fun i wr => ∃ k : Nat, k ≤ n ∧ i = .int .i64 (k : Int) ∧ FBox wr w.heap.size (.slice A n c) (.slice A' n c') ∧ Rods wr w.heap.size w1.heap.size (w.heap.size + 1) (ds.take k ++ List.replicate (n - k) 0) ∧ Below w.heap.size w wr) (fun i _ => n - (intOf i).toNat)
  case atStart => exact ⟨0, by omega, rfl, HX0.out, HR0.out, HB0.out⟩
  case round =>
    clear HX0 HR0 HB0
    obtain ⟨k, hk, rfl, hbox, hrods, hbel⟩ := hrel
    have hln : (ds.take k ++ List.replicate (n - k) 0).length = n := by have := HL.out; simp; omega
    have hsl := hrods.slice
    rw [hln] at hsl
    have hb0 := hbox.fst
    have hb1 := hbox.snd
    have hszr := hbel.size
    have HBX := Lib.hid hbox
    have HR := Lib.hid hrods
    have HB := Lib.hid hbel
    have HLN := Lib.hid hln
    clear hbox hrods hbel hln
    by_cases hlt : k < n
    · obtain ⟨b2, off2, u2, rfl, hlb2, hu2, hc2⟩ := (HX.out.below HB.out).at_ hlt
      obtain ⟨d, hd, rfl⟩ := HiL_get hu2
      obtain ⟨b3, off3, u3, rfl, hlb3, hu3, hc3⟩ := (HY.out.below HB.out).at_ hlt
      rw [LoL_get hd] at hu3
      obtain rfl : d % 5 = u3 := by simpa using hu3
      have hdd := HD.out d (List.mem_of_getElem? hd)
      have hi0 : 0 ≤ d / 5 ∧ d / 5 ≤ 1 ∧ 0 ≤ d % 5 ∧ d % 5 ≤ 4 := by omega
      obtain ⟨hi0, hi1, lo0, lo1⟩ := hi0
      have hold : (ds.take k ++ List.replicate (n - k) 0)[k]? = some 0 := fill_at hlt HL.out
      have hch := HR.out.hi hold
      have hcl := HR.out.lo hold
      have hf0 := HR.out.free (k * 2)
      have hf1 := HR.out.free (k * 2 + 1)
      have HDD := Lib.hid hd
      clear hu2 hu3 hd hold hdd
      have k0 : (0 : Int) ≤ (k : Int) := by omega
      have k1 : (k : Int) < (n : Int) := by omega
      go_wp2_with fail
      go_still_tail 14, (by kernel_rfl)
      change wpList _ _ _ _ _ wr.drew
      go_wp2
      go_roundw
      case rel =>
        refine ⟨k + 1, by omega, by go_num, HBX.out.keep ?_, ?_, ((HB.out.setCell (p := ⟨w.heap.size + 1, k * 2, none⟩) (by simp) _).setCell (p := ⟨w.heap.size + 1, k * 2 + 1, none⟩) (by simp) _).drew⟩
        · exact (heap_setCell_other _ ⟨w.heap.size + 1, k * 2 + 1, none⟩ w.heap.size _ (by simp)).trans (heap_setCell_other _ ⟨w.heap.size + 1, k * 2, none⟩ w.heap.size _ (by simp))
        · rw [← fill_next hlt HL.out HDD.out]
          exact HR.out.set_ (by rw [HLN.out]; exact hlt) d
      case measure => simp [intOf]; omega
    · go_wp2
      go_ret2
      obtain rfl : k = n := by omega
      refine ⟨⟨w1.heap.size, w.heap.size + 1, rfl, ?_⟩, HB.out⟩
      have := HR.out
      rwa [Nat.sub_self, List.replicate_zero, List.append_nil, List.take_of_length_le (by have := HL.out; omega)] at this

/-- a frame that shows digits -/
def FrOk (hs ls : List Int) : Prop := ∃ ds, Fr.Digs ds ∧ hs = HiL ds ∧ ls = LoL ds ∧ 1 ≤ ds.length ∧ ds.length ≤ 6
theorem FrOk_of : ∀ (hs ls : List Int), hs.length = ls.length → (∀ (k : Nat) (h l : Int), hs[k]? = some h → ls[k]? = some l → 0 ≤ h ∧ h ≤ 1 ∧ 0 ≤ l ∧ l ≤ 4) → ∃ ds, Fr.Digs ds ∧ hs = HiL ds ∧ ls = LoL ds := by
  intro hs
  induction hs with
  | nil =>
    intro ls hl _
    cases ls with
    | nil => exact ⟨[], by simp [Fr.Digs], rfl, rfl⟩
    | cons => simp at hl
  | cons h hs ih =>
    intro ls hl hk
    cases ls with
    | nil => simp at hl
    | cons l ls =>
      obtain ⟨ds, h1, h2, h3⟩ := ih ls (by simpa using hl) (fun k a b ha hb => hk (k + 1) a b (by simpa using ha) (by simpa using hb))
      have := hk 0 h l rfl rfl
      refine ⟨(5 * h + l) :: ds, (Fr.digs_cons _ _).2 ⟨by omega, h1⟩, ?_, ?_⟩
      · rw [HiL, List.map_cons, ← HiL, ← h2, show (5 * h + l) / 5 = h from by omega]
      · rw [LoL, List.map_cons, ← LoL, ← h3, show (5 * h + l) % 5 = l from by omega]
theorem FrOk_of' {hs ls : List Int} {n : Nat} (h1 : hs.length = n) (h2 : ls.length = n) (h3 : 1 ≤ n) (h4 : n ≤ 6) (h : ∀ k : Nat, k < n → ∀ a b : Int, hs[k]? = some a → ls[k]? = some b → 0 ≤ a ∧ a ≤ 1 ∧ 0 ≤ b ∧ b ≤ 4) : FrOk hs ls := by
  obtain ⟨ds, a, b, c⟩ := FrOk_of hs ls (by omega) (fun k x y hx hy => h k (by have := (List.getElem?_eq_some_iff.1 hx).1; omega) x y hx hy)
  have : ds.length = n := by rw [← HiL_length, ← b, h1]
  exact ⟨ds, a, b, c, by omega, by omega⟩

/-- rods whatever they show -/
def RodsAny (w : World) (g h n : Nat) : Prop :=
  w.heap[g]? = some (.cells #[.slice (some ⟨h, 0, none⟩) n n] 80 (0, 0)) ∧ ∃ cs : Array Value, cs.size = 2 * n ∧ w.heap[h]? = some (.cells cs 82 (0, 0))
theorem RodsAny.set_ {w : World} {g h n : Nat} (r : RodsAny w g h n) (hne : g ≠ h) (j k : Nat) (u v : Value) : RodsAny ((w.setCell ⟨h, j, none⟩ u).setCell ⟨h, k, none⟩ v) g h n := by
  obtain ⟨h1, cs, hs, h2⟩ := r
  refine ⟨(heap_setCell_other _ ⟨h, k, none⟩ g _ hne).trans ((heap_setCell_other _ ⟨h, j, none⟩ g _ hne).trans h1), _, ?_, heap_setCell_same _ h k _ _ v (heap_setCell_same w h j _ _ u h2)⟩
  simp [hs]

set_option maxRecDepth 100000 in
set_option maxHeartbeats 2000000 in
theorem rodsOf_no (A A' : Option Addr) (n m c c' : Nat) (hs ls : List Int) (w : World) (hx : Ints w w.heap.size A n hs) (hy : Ints w w.heap.size A' m ls) (hno : ¬ FrOk hs ls) :
    Calls Tryz.prog 62 #[.agg #[.slice A n c, .slice A' m c']] w fun e w' => e = .returned (.tuple #[.pointer none, .bool false]) ∧ Below w.heap.size w w' := by
  have hlx := hx.len
  have hly := hy.len
  have HX := Lib.hid hx
  have HY := Lib.hid hy
  have HN := Lib.hid hno
  have HLX := Lib.hid hlx
  have HLY := Lib.hid hly
  clear hx hy hno hlx hly
  by_cases hnm : n = m
  · subst hnm
    by_cases h16 : 1 ≤ n ∧ n ≤ 6
    · obtain ⟨h1, h6⟩ := h16
      go_enter Tryz.func62, Tryz.ntmps62
      go_wp2_with (refine wpList_make_rods rfl _ _ rfl rfl rfl (by omega) ?_; intro w1 hm1 hg1)
      have hsz1 := hg1.size
      simp only [World.size_alloc] at hm1 hsz1
      have hlt1 := (Array.getElem?_eq_some_iff.1 hm1).1
      have HM1 := Lib.hid hm1
      have HB1 := Lib.hid (grown_below hg1 (by simp) (by simp) : Below (w.heap.size + 1) _ w1)
      clear hm1 hg1
      have hR0 : RodsAny (w1.alloc (.cells #[.slice (some ⟨w.heap.size + 1, 0, none⟩) n n] 80)) w1.heap.size (w.heap.size + 1) n := by
        refine ⟨heap_alloc_new _ _, _, ?_, (Below.heap_alloc _ _ _ (by omega)).trans HM1.out⟩
        simp [RC_length]
      have hX0 := ((FBox.new w (.slice A n c) (.slice A' n c')).keep (HB1.out.block w.heap.size (Nat.lt_succ_self _))).alloc (.cells #[.slice (some ⟨w.heap.size + 1, 0, none⟩) n n] 80)
      have hB0 := (((Below.refl w.heap.size w).alloc (Nat.le_refl _) (.cells #[.slice A n c, .slice A' n c'] 30)).trans (HB1.out.mono (Nat.le_succ _))).alloc (by omega) (.cells #[.slice (some ⟨w.heap.size + 1, 0, none⟩) n n] 80)
      have HR0 := Lib.hid hR0
      have HX0 := Lib.hid hX0
      have HB0 := Lib.hid hB0
      clear hR0 hX0 hB0 HM1 HB1
      go_loopw [31] (fun i wr => ∃ k : Nat, k ≤ n ∧ i = .int .i64 (k : Int) ∧ FBox wr w.heap.size (.slice A n c) (.slice A' n c') ∧ RodsAny wr w1.heap.size (w.heap.size + 1) n ∧ Below w.heap.size w wr ∧ (∀ j, j < k → ∀ a b, hs[j]? = some a → ls[j]? = some b → 0 ≤ a ∧ a ≤ 1 ∧ 0 ≤ b ∧ b ≤ 4)) (fun i _ => n - (intOf i).toNat)
      case atStart => exact ⟨0, by omega, rfl, HX0.out, HR0.out, HB0.out, fun j hj => absurd hj (Nat.not_lt_zero j)⟩
      case round =>
        clear HX0 HR0 HB0
        obtain ⟨k, hk, rfl, hbox, hrods, hbel, hall⟩ := hrel
        have hsl := cell_of_row wr w1.heap.size 0 _ _ _ hrods.1
        simp only [List.getElem?_toArray, List.getElem?_cons_zero] at hsl
        have hb0 := hbox.fst
        have hb1 := hbox.snd
        have hszr := hbel.size
        have HBX := Lib.hid hbox
        have HR := Lib.hid hrods
        have HB := Lib.hid hbel
        have HA := Lib.hid hall
        clear hbox hrods hbel hall
        by_cases hlt : k < n
        · obtain ⟨b2, off2, u2, rfl, hlb2, hu2, hc2⟩ := (HX.out.below HB.out).at_ hlt
          obtain ⟨b3, off3, u3, rfl, hlb3, hu3, hc3⟩ := (HY.out.below HB.out).at_ hlt
          obtain ⟨-, cs, hcs, hh⟩ := HR.out
          have hch := cell_of_row wr (w.heap.size + 1) (k * 2) _ _ _ hh
          have hcl := cell_of_row wr (w.heap.size + 1) (k * 2 + 1) _ _ _ hh
          rw [Array.getElem?_eq_getElem (by omega)] at hch hcl
          generalize cs[k * 2]'(by omega) = x2 at hch
          generalize cs[k * 2 + 1]'(by omega) = x3 at hcl
          have hf0 : wr.frozen? ⟨w.heap.size + 1, k * 2, none⟩ = false := by simp [World.frozen?, hh]
          have hf1 : wr.frozen? ⟨w.heap.size + 1, k * 2 + 1, none⟩ = false := by simp [World.frozen?, hh]
          have HU2 := Lib.hid hu2
          have HU3 := Lib.hid hu3
          clear hu2 hu3 hh hcs
          have k0 : (0 : Int) ≤ (k : Int) := by omega
          have k1 : (k : Int) < (n : Int) := by omega
          by_cases hgood : 0 ≤ u2 ∧ u2 ≤ 1 ∧ 0 ≤ u3 ∧ u3 ≤ 4
          · obtain ⟨hi0, hi1, lo0, lo1⟩ := hgood
            go_wp2_with fail
            go_still_tail 14, (by kernel_rfl)
            change wpList _ _ _ _ _ wr.drew
            go_wp2
            go_roundw
            case rel =>
              refine ⟨k + 1, by omega, by go_num, HBX.out.keep ?_, ?_, ((HB.out.setCell (p := ⟨w.heap.size + 1, k * 2, none⟩) (by simp) _).setCell (p := ⟨w.heap.size + 1, k * 2 + 1, none⟩) (by simp) _).drew, ?_⟩
              · exact (heap_setCell_other _ ⟨w.heap.size + 1, k * 2 + 1, none⟩ w.heap.size _ (by simp)).trans (heap_setCell_other _ ⟨w.heap.size + 1, k * 2, none⟩ w.heap.size _ (by simp))
              · exact HR.out.set_ (by omega) _ _ _ _
              · intro j hj a b ha hb
                rcases (show j < k ∨ j = k from by omega) with h | rfl
                · exact HA.out j h a b ha hb
                · rw [HU2.out] at ha
                  rw [HU3.out] at hb
                  injection ha with ha
                  injection hb with hb
                  subst ha
                  subst hb
                  exact ⟨hi0, hi1, lo0, lo1⟩
            case measure => simp [intOf]; omega
          · rcases (show u2 < 0 ∨ (0 ≤ u2 ∧ 1 < u2) ∨ (0 ≤ u2 ∧ u2 ≤ 1 ∧ u3 < 0) ∨ (0 ≤ u2 ∧ u2 ≤ 1 ∧ 0 ≤ u3 ∧ 4 < u3) from by omega) with q1 | ⟨q1, q2⟩ | ⟨q1, q2, q3⟩ | ⟨q1, q2, q3, q4⟩
            all_goals
              clear hgood
              go_wp2_with fail
              go_still_tail 14, (by kernel_rfl)
              change wpList _ _ _ _ _ wr.drew
              go_wp2
              go_ret2
              exact ⟨rfl, ((HB.out.setCell (p := ⟨w.heap.size + 1, k * 2, none⟩) (by simp) _).setCell (p := ⟨w.heap.size + 1, k * 2 + 1, none⟩) (by simp) _).drew⟩
        · exfalso
          obtain rfl : k = n := by omega
          exact HN.out (FrOk_of' HLX.out HLY.out h1 h6 HA.out)
    · rcases (show n < 1 ∨ (1 ≤ n ∧ 6 < n) from by omega) with q1 | ⟨q1, q2⟩
      all_goals
        clear h16
        go_enter Tryz.func62, Tryz.ntmps62
        go_wp2
        go_ret2
        exact ⟨rfl, (Below.refl _ _).alloc (Nat.le_refl _) _⟩
  · have hne : ((n : Int) != (m : Int)) = true := by simp; omega
    clear hnm
    go_enter Tryz.func62, Tryz.ntmps62
    go_wp2
    go_ret2
    exact ⟨rfl, (Below.refl _ _).alloc (Nat.le_refl _) _⟩
end Go.Proofs.YthdoofmfigemoaaGreatDoor
end

section
/-
  Rows that lie apart: for the laws that mark what a call gave back.
-/
namespace Go.Proofs.YthdoofmfigemoaaGreatDoor
open Go.RowKit

/-- a step on the row s leaves the row t alone -/
def Apart (s t : Value) : Prop := ∀ k, t.ownBlock = some k → s.ownBlock ≠ some k
theorem Own.apart {w1 w2 : World} {B n n2 c c2 : Nat} {A A2 : Option Addr} {xs ys : List Int} (h1 : Own w1 B A n c xs) (h2 : Own w2 w1.heap.size A2 n2 c2 ys) : Apart (.slice A n c) (.slice A2 n2 c2) := by
  intro k hk e
  have := (h1.blk k e).2
  have := (h2.blk k hk).1
  omega
theorem Own.apart' {w1 w2 : World} {B n n2 c c2 : Nat} {A A2 : Option Addr} {xs ys : List Int} (h1 : Own w1 B A n c xs) (h2 : Own w2 w1.heap.size A2 n2 c2 ys) : Apart (.slice A2 n2 c2) (.slice A n c) := by
  intro k hk e
  have := (h1.blk k hk).2
  have := (h2.blk k e).1
  omega
end Go.Proofs.YthdoofmfigemoaaGreatDoor
end
