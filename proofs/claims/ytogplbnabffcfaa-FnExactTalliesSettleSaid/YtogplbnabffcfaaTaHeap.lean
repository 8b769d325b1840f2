/-
  The heap of debts: its methods, and how they are found behind the interface.
-/
import Derived.Test.YtogplbnabffcfaaTaTally
import Derived.Test.YtogplbnabffcfaaTaPlain
import Derived.Test.YtogplbnabffcfaaKit
import Derived.Laws.OwnMore
import Derived.BigQuiet
import Derived.Deep.RegionHeld3
namespace Go.Proofs.Ytogplbnabffcfaa
open Go.RowKit
set_option linter.unusedSimpArgs false

/-! one element of a row of debts set anew -/
theorem DV_cons (d : Db) (ds : List Db) : DV (d :: ds) = d.cells ++ DV ds := by simp [DV]
theorem DV_set : ∀ (ds : List Db) (i : Nat) (d : Db), i < ds.length → (((DV ds).set (i * 3) (.int .i64 d.a)).set (i * 3 + 1) (.int .i64 d.c)).set (i * 3 + 2) (.int .i64 d.v) = DV (ds.set i d)
  | [], _, _, h => by simp at h
  | x :: xs, 0, d, _ => by simp [DV_cons, Db.cells]
  | x :: xs, i + 1, d, h => by
    have ih := DV_set xs i d (by simpa using h)
    rw [List.set_cons_succ, DV_cons, DV_cons, ← ih]
    have e : ∀ j u l, (x.cells ++ l).set ((i + 1) * 3 + j) u = x.cells ++ l.set (i * 3 + j) u := fun j u l => by
      rw [List.set_append_right _ _ (by show 3 ≤ _; omega), show (i + 1) * 3 + j - x.cells.length = i * 3 + j from by show (i + 1) * 3 + j - 3 = _; omega]
    have e0 := e 0
    simp only [Nat.add_zero] at e0
    rw [e0, e 1, e 2]
theorem OwnD.blk_ {w : World} {B n c : Nat} {A : Option Addr} {ds : List Db} (h : OwnD w B A n c ds) (hn : 0 < n) : ∃ g cur, A = some ⟨g, 0, none⟩ ∧ B ≤ g ∧ Blk w g cur 54 ∧ n ≤ c := by
  rcases h.1.2 with ⟨_, h0⟩ | ⟨g, cap, cur, hv, hb, hg, hr⟩
  · omega
  · injection hv with e1 e2 e3
    subst e1
    subst e3
    exact ⟨g, cur, rfl, hb, hg, hr.1⟩
theorem OwnD.set {w : World} {B n c g : Nat} {ds : List Db} (h : OwnD w B (some ⟨g, 0, none⟩) n c ds) (i : Nat) (d : Db) (hi : i < ds.length) :
    OwnD (((w.setCell ⟨g, i * 3, none⟩ (.int .i64 d.a)).setCell ⟨g, i * 3 + 1, none⟩ (.int .i64 d.c)).setCell ⟨g, i * 3 + 2, none⟩ (.int .i64 d.v)) B (some ⟨g, 0, none⟩) n c (ds.set i d) := by
  have h1 := h.1.stored (i * 3) (.int .i64 d.a)
  have h2 := h1.1.stored (i * 3 + 1) (.int .i64 d.c)
  have h3 := h2.1.stored (i * 3 + 2) (.int .i64 d.v)
  refine ⟨?_, h.2⟩
  have := h3.1
  rwa [DV_set ds i d hi] at this
theorem grown_set3 (w : World) (g i j k : Nat) (x y z : Value) : w.grownBy (((w.setCell ⟨g, i, none⟩ x).setCell ⟨g, j, none⟩ y).setCell ⟨g, k, none⟩ z) (some g) :=
  ⟨rfl, rfl, rfl, by simp [World.setCell], fun q _ hne => (heap_setCell_other _ _ q _ (fun e => hne (by rw [e]))).trans ((heap_setCell_other _ _ q _ (fun e => hne (by rw [e]))).trans (heap_setCell_other _ _ q _ (fun e => hne (by rw [e]))))⟩

theorem Len_any (A : Option Addr) (n c : Nat) (w : World) : Calls Try.prog 90 #[.slice A n c] w fun e w' => e = .returned (.int .i64 (n : Int)) ∧ w = w' := by
  go_enter Try.func90, Try.ntmps90
  go_wp2
  go_ret
  exact ⟨rfl, rfl⟩
theorem method_len (g n c : Nat) (A : Option Addr) (w : World) (h : w.cell? ⟨g, 0, none⟩ = some (.slice A n c)) : (method 234 71 (.pointer (some ⟨g, 0, none⟩)) "Len").run Try.prog w = .ok (90, .slice A n c) w := by
  have e : (method 234 71 (.pointer (some ⟨g, 0, none⟩)) "Len").run Try.prog w = ((loadVar 47 ⟨g, 0, none⟩) >>= fun a => pure (90, a)).run Try.prog w := by kernel_rfl
  have e2 : (loadVar 47 ⟨g, 0, none⟩).run Try.prog w = .ok (.slice A n c) w := by go_simp
  rw [e, Sem.run_bind, e2]
  rfl
theorem method_less (g n c : Nat) (A : Option Addr) (w : World) (h : w.cell? ⟨g, 0, none⟩ = some (.slice A n c)) : (method 234 71 (.pointer (some ⟨g, 0, none⟩)) "Less").run Try.prog w = .ok (91, .slice A n c) w := by
  have e : (method 234 71 (.pointer (some ⟨g, 0, none⟩)) "Less").run Try.prog w = ((loadVar 47 ⟨g, 0, none⟩) >>= fun a => pure (91, a)).run Try.prog w := by kernel_rfl
  have e2 : (loadVar 47 ⟨g, 0, none⟩).run Try.prog w = .ok (.slice A n c) w := by go_simp
  rw [e, Sem.run_bind, e2]
  rfl
theorem method_swap (g n c : Nat) (A : Option Addr) (w : World) (h : w.cell? ⟨g, 0, none⟩ = some (.slice A n c)) : (method 234 71 (.pointer (some ⟨g, 0, none⟩)) "Swap").run Try.prog w = .ok (92, .slice A n c) w := by
  have e : (method 234 71 (.pointer (some ⟨g, 0, none⟩)) "Swap").run Try.prog w = ((loadVar 47 ⟨g, 0, none⟩) >>= fun a => pure (92, a)).run Try.prog w := by kernel_rfl
  have e2 : (loadVar 47 ⟨g, 0, none⟩).run Try.prog w = .ok (.slice A n c) w := by go_simp
  rw [e, Sem.run_bind, e2]
  rfl

/-- a debt in the heap: a person and a worth -/
def hd (x : Nat × Int) : Db := ⟨x.1, x.1, x.2⟩
def HL (xs : List (Nat × Int)) : List Db := xs.map hd
theorem HL_get {xs : List (Nat × Int)} {i : Nat} {x : Nat × Int} (h : xs[i]? = some x) : (HL xs)[i]? = some (hd x) := by simp [HL, h]
set_option maxRecDepth 100000 in
set_option maxHeartbeats 4000000 in
theorem Less_any (A : Option Addr) (n c : Nat) (xs : List (Nat × Int)) (i j : Nat) (x y : Nat × Int) (w : World) (hr : Dbs w w.heap.size A n (HL xs)) (hi : xs[i]? = some x) (hj : xs[j]? = some y) :
    Calls Try.prog 91 #[.slice A n c, .int .i64 (i : Int), .int .i64 (j : Int)] w fun e w' => e = .returned (.bool (Ta.less x y)) ∧ ∃ q, w' = w.drewN q := by
  have hl := hr.len
  rw [HL, List.length_map] at hl
  have li : i < n := by rw [← hl]; exact (List.getElem?_eq_some_iff.1 hi).1
  have lj : j < n := by rw [← hl]; exact (List.getElem?_eq_some_iff.1 hj).1
  obtain ⟨b, off, t, rfl, hb, ht, i0, i1, i2⟩ := hr.at_ li
  obtain ⟨b', off', t', e', hb', ht', j0, j1, j2⟩ := hr.at_ lj
  injection e' with e'
  injection e' with e1 e2
  subst e1
  subst e2
  obtain rfl : hd x = t := by rw [HL_get hi] at ht; exact Option.some.inj ht
  obtain rfl : hd y = t' := by rw [HL_get hj] at ht'; exact Option.some.inj ht'
  obtain ⟨p, u⟩ := x
  obtain ⟨q, v⟩ := y
  simp only [hd] at i0 i1 i2 j0 j1 j2
  clear hr hi hj hl ht ht' hb'
  by_cases h1 : u = v
  · have h1' : (u != v) = false := by simpa using h1
    by_cases h2 : p = q
    · have h2' : ((p : Int) != (q : Int)) = false := by simp [h2]
      have HLs := Lib.hid (show Ta.less (p, u) (q, v) = false by simp [Ta.less, h1]; omega)
      go_enter Try.func91, Try.ntmps91
      go_wp2_with fail
      go_quiet (fail)
      go_wp2_with fail
      go_quiet (fail)
      go_wp2_with fail
      go_quiet (fail)
      go_wp2
      go_ret
      exact ⟨ret_bool (by rw [HLs.out]), _, by simp only [World.drewN_drewN]; exact rfl⟩
    · have h2' : ((p : Int) != (q : Int)) = true := by simp; omega
      have HLs := Lib.hid (show Ta.less (p, u) (q, v) = decide (p < q) by simp [Ta.less, h1])
      go_enter Try.func91, Try.ntmps91
      go_wp2_with fail
      go_quiet (fail)
      go_wp2_with fail
      go_quiet (fail)
      go_wp2_with fail
      go_quiet (fail)
      go_wp2
      go_ret
      exact ⟨ret_bool HLs.out.symm, _, by simp only [World.drewN_drewN]; exact rfl⟩
  · have h1' : (u != v) = true := by simpa using h1
    have HLs := Lib.hid (show Ta.less (p, u) (q, v) = decide (v < u) by simp [Ta.less, h1])
    go_enter Try.func91, Try.ntmps91
    go_wp2_with fail
    go_quiet (fail)
    go_wp2_with fail
    go_quiet (fail)
    go_wp2
    go_ret
    exact ⟨ret_bool HLs.out.symm, _, by simp only [World.drewN_drewN]; exact rfl⟩
theorem OwnD.cell3 {w : World} {B n c g : Nat} {ds : List Db} (h : OwnD w B (some ⟨g, 0, none⟩) n c ds) {i : Nat} {d : Db} (hi : ds[i]? = some d) :
    w.cell? ⟨g, i * 3, none⟩ = some (.int .i64 d.a) ∧ w.cell? ⟨g, i * 3 + 1, none⟩ = some (.int .i64 d.c) ∧ w.cell? ⟨g, i * 3 + 2, none⟩ = some (.int .i64 d.v) := by
  have gt := flat_get (f := Db.cells) (k := 3) (fun _ => rfl) ds i d hi
  have cl := h.1.cells (g := g) rfl
  simp only [add_row] at cl
  exact ⟨cl _ _ (gt 0 (by omega)), cl _ _ (gt 1 (by omega)), cl _ _ (gt 2 (by omega))⟩
theorem OwnD.free {w : World} {B n c g : Nat} {ds : List Db} (h : OwnD w B (some ⟨g, 0, none⟩) n c ds) (j : Nat) : w.frozen? ⟨g, j, none⟩ = false := by
  rcases h.1.2 with ⟨h1, _⟩ | ⟨g', cap, cur, hv, hb, hg, hr⟩
  · cases h1
  · injection hv with e1 e2 e3
    injection e1 with e1
    injection e1 with e1
    subst e1
    exact Blk.free (ty := 54) hg j
theorem swap_out {w w' : World} {B g n c : Nat} {xs : List (Nat × Int)} {i j : Nat} {x y : Nat × Int} (h : OwnD w B (some ⟨g, 0, none⟩) n c (HL xs)) (hi : xs[i]? = some x) (hj : xs[j]? = some y)
    (hw : w' = (((((w.setCell ⟨g, i * 3, none⟩ (.int .i64 y.1)).setCell ⟨g, i * 3 + 1, none⟩ (.int .i64 y.1)).setCell ⟨g, i * 3 + 2, none⟩ (.int .i64 y.2)).setCell ⟨g, j * 3, none⟩ (.int .i64 x.1)).setCell ⟨g, j * 3 + 1, none⟩ (.int .i64 x.1)).setCell ⟨g, j * 3 + 2, none⟩ (.int .i64 x.2)) :
    OwnD w' B (some ⟨g, 0, none⟩) n c (HL (Ta.swapL xs i j)) ∧ w.grownBy w' (some g) := by
  have li := (List.getElem?_eq_some_iff.1 hi).1
  have lj := (List.getElem?_eq_some_iff.1 hj).1
  have h1 := h.set i (hd y) (by simpa [HL] using li)
  have h2 := h1.set j (hd x) (by simpa [HL] using lj)
  have e : HL (Ta.swapL xs i j) = ((HL xs).set i (hd y)).set j (hd x) := by
    have ei : xs.getD i Ta.d0 = x := by rw [List.getD_eq_getElem?_getD, hi]; rfl
    have ej : xs.getD j Ta.d0 = y := by rw [List.getD_eq_getElem?_getD, hj]; rfl
    rw [HL, Ta.swapL, ei, ej, List.map_set, List.map_set]
    rfl
  rw [e, hw]
  exact ⟨h2, (grown_set3 _ g _ _ _ _ _ _).then_ (grown_set3 _ g _ _ _ _ _ _) (fun k hk => .inr hk)⟩
set_option maxRecDepth 100000 in
set_option maxHeartbeats 4000000 in
theorem Swap_any (g n c B : Nat) (xs : List (Nat × Int)) (i j : Nat) (x y : Nat × Int) (w : World) (h : OwnD w B (some ⟨g, 0, none⟩) n c (HL xs)) (hi : xs[i]? = some x) (hj : xs[j]? = some y) :
    Calls Try.prog 92 #[.slice (some ⟨g, 0, none⟩) n c, .int .i64 (i : Int), .int .i64 (j : Int)] w fun e w' => (∃ v, e = .returned v) ∧ OwnD w' B (some ⟨g, 0, none⟩) n c (HL (Ta.swapL xs i j)) ∧ w.grownBy w' (some g) := by
  have hl := h.dbs.len
  rw [HL, List.length_map] at hl
  have li : i < n := by rw [← hl]; exact (List.getElem?_eq_some_iff.1 hi).1
  have lj : j < n := by rw [← hl]; exact (List.getElem?_eq_some_iff.1 hj).1
  by_cases hij : i = j
  · subst hij
    obtain rfl : x = y := Option.some.inj (hi.symm.trans hj)
    obtain ⟨i0, i1, i2⟩ := h.cell3 (HL_get hi)
    have f := h.free
    have fi0 := f (i * 3)
    have fi1 := f (i * 3 + 1)
    have fi2 := f (i * 3 + 2)
    have HO := Lib.hid (fun w' => swap_out (w' := w') h hi hi)
    obtain ⟨p, u⟩ := x
    simp only [hd] at i0 i1 i2
    clear h hi hj hl f
    go_enter Try.func92, Try.ntmps92
    go_wp2_with fail
    go_region_with (fail)
    all_goals go_wp2
    all_goals (refine bodyPost_end (results_none rfl _ _ _) rfl ?_)
    all_goals exact ⟨⟨_, rfl⟩, OwnR.drew (HO.out _ rfl).1, grown_drew (HO.out _ rfl).2⟩
  obtain ⟨i0, i1, i2⟩ := h.cell3 (HL_get hi)
  obtain ⟨j0, j1, j2⟩ := h.cell3 (HL_get hj)
  have f := h.free
  have fi0 := f (i * 3)
  have fi1 := f (i * 3 + 1)
  have fi2 := f (i * 3 + 2)
  have fj0 := f (j * 3)
  have fj1 := f (j * 3 + 1)
  have fj2 := f (j * 3 + 2)
  have HO := Lib.hid (fun w' => swap_out (w' := w') h hi hj)
  obtain ⟨p, u⟩ := x
  obtain ⟨q, v⟩ := y
  simp only [hd] at i0 i1 i2 j0 j1 j2
  clear h hi hj hl f
  have hij' : ¬ j = i := fun e => hij e.symm
  · go_enter Try.func92, Try.ntmps92
    go_wp2_with fail
    go_region_with (fail)
    all_goals go_wp2
    all_goals (refine bodyPost_end (results_none rfl _ _ _) rfl ?_)
    all_goals exact ⟨⟨_, rfl⟩, OwnR.drew (HO.out _ rfl).1, grown_drew (HO.out _ rfl).2⟩
end Go.Proofs.Ytogplbnabffcfaa
