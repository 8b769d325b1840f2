/-
  The heap of debts: Push, Pop, put, take.
-/
import Derived.Test.YtogplbnabffcfaaTaHeap3
import Derived.Maps.AppendAt
import Derived.Deep.RegionLaw
namespace Go.Proofs.Ytogplbnabffcfaa
open Go.RowKit
set_option linter.unusedSimpArgs false

/-- append(*h, d) in a region: the new debt lies in a block of its own; where the new row lies -/
theorem step_app_h {ops : Array Oper} {o : Oper} {a : Act} {w : World} {K : Act → World → Prop} {Q : Exit → Act → World → Prop} {E : Prop} (hgd : o.guard = none) (s x : Operand)
    (ho : o.op = .call { callee := .builtin .append, args := #[s, x], argTypes := #[47, 47] })
    {B : Nat} {A : Option Addr} {n c : Nat} {ts : List Db} (hs : a.eval s = .slice A n c) (hown : OwnD w B A n c ts) (t : Db) (c0 : Nat)
    (hx : a.eval x = .slice (some ⟨w.heap.size, 0, none⟩) 1 c0) (cs : Array Value) (hcs : cs = t.cells.toArray) (hn : n + 1 ≤ 1000000) (hB : B ≤ w.heap.size)
    (h : ∀ A' c' w', OwnD w' B A' (n + 1) c' (ts ++ [t]) → w.grownBy w' (Value.slice A n c).ownBlock → (∀ k, (Value.slice A' (n + 1) c').ownBlock = some k → (Value.slice A n c).ownBlock = some k ∨ w.heap.size ≤ k) → K (a.put o.dst (.slice A' (n + 1) c')) w') :
    if Region.wanted o (yielded ops a.tmps) = true then Oper.wp Try.prog o a (w.alloc (.cells cs 54)) K Q else E := by
  obtain ⟨i0, hi, hz0, hz1, hz2⟩ := info_parts debt_info
  subst hcs
  rw [if_pos (by simp [Region.wanted, hgd])]
  obtain ⟨v', w', hr, hown', hg, _, hat⟩ := run_append_own_at (P := Try.prog) (w.alloc (.cells t.cells.toArray 54)) B 47 o.type 54 i0 _ 3 24 Try.underlying47 hi hz0 hz1 hz2 rfl (by decide) _ n (DV ts) (hown.1.alloc _)
    ⟨w.heap.size, 0, none⟩ 1 c0 t.cells (by simp [Db.cells]) (by
      intro j u hj
      rw [add_row, cell_of_row _ w.heap.size j _ _ _ (heap_alloc_new w _)]
      simpa using hj) (by rw [← DV_one]; exact DV_oneCell _) (by unfold maxLen; omega) (by omega) (by simp; omega)
  unfold Oper.wp execOp
  simp only [ho, resolve, invoke, builtin, Sem.run_bind, Sem.run_pure, Result.andThen_ok, List.map_toArray, List.map_cons, List.map_nil, hs, hx, hr]
  rw [← DV_one, ← DV_append] at hown'
  obtain ⟨A', c', rfl, h'⟩ := shape_own hown' (by omega)
  refine h A' c' w' h' ⟨hg.os, hg.tape, hg.output, by have := hg.size; simp at this; omega, fun k hk hne => (hg.block k (by simp; omega) hne).trans (Below.heap_alloc w _ k hk)⟩ (fun k hk => ?_)
  rcases hat with hat | hat
  · exact .inl (hat ▸ hk)
  · rw [hat] at hk
    injection hk with hk
    exact .inr (by rw [← hk]; simp)

theorem assert_debt (a b v : Int) (w : World) : (Instr.typeAssert (.iface 54 (.agg #[.int .i64 a, .int .i64 b, .int .i64 v])) 20 54 true).run Try.prog w = .ok (.tuple #[.agg #[.int .i64 a, .int .i64 b, .int .i64 v], .bool true]) w := by kernel_rfl
/-- what Push gives -/
def PushPost (w : World) (B g : Nat) (A : Option Addr) (n c : Nat) (ys : List (Nat × Int)) (w' : World) : Prop :=
  ∃ A' c', Hp w' B g A' ys.length c' ys ∧ Kept w w' (Mine g A n c) ∧ (∀ k, (Value.slice A' ys.length c').ownBlock = some k → (Value.slice A n c).ownBlock = some k ∨ w.heap.size ≤ k)
theorem push_out {w W w' : World} {B g n c c' : Nat} {A A' : Option Addr} {xs : List (Nat × Int)} (x : Nat × Int) (hH : Hp W B g A n c xs) (hb : Below w.heap.size w W) (ho : OwnD w' B A' (n + 1) c' (HL xs ++ [hd x]))
    (hg : W.drew.grownBy w' (Value.slice A n c).ownBlock) (hat : ∀ k, (Value.slice A' (n + 1) c').ownBlock = some k → (Value.slice A n c).ownBlock = some k ∨ W.drew.heap.size ≤ k) (hbl : Blk w' g #[.slice A n c] 47) :
    PushPost w B g A n c (xs ++ [x]) (w'.setCell ⟨g, 0, none⟩ (.slice A' (n + 1) c')) := by
  have hl : (xs ++ [x]).length = n + 1 := by rw [List.length_append, hH.len]; rfl
  have hne : ∀ k, (Value.slice A' (n + 1) c').ownBlock = some k → k ≠ g := fun k hk => by
    rcases hat k hk with h1 | h1
    · exact hH.ne k h1
    · have h2 : W.heap.size ≤ k := h1
      have := hH.blk.lt
      omega
  refine ⟨A', c', ?_, ?_, ?_⟩
  · rw [hl]
    refine ⟨by simpa using hbl.set 0 (.slice A' (n + 1) c'), ?_, hne⟩
    have e : HL (xs ++ [x]) = HL xs ++ [hd x] := by simp [HL]
    rw [e]
    exact ho.kept (hbl.grows 0 _) (fun q hq e => by injection e with e; exact hne q hq e.symm)
  · have g2 := hbl.grows 0 (.slice A' (n + 1) c')
    refine ⟨g2.os.trans (hg.os.trans hb.os), g2.tape.trans (hg.tape.trans hb.tape), g2.output.trans (hg.output.trans hb.output), ?_, fun k hk hn => ?_⟩
    · have h1 := hg.size
      have h2 : W.heap.size ≤ w'.heap.size := h1
      have h3 := hb.size
      rw [size_set]
      omega
    · have h3 := hb.size
      have h4 : W.heap.size ≤ w'.heap.size := hg.size
      refine (g2.block k (by omega) (fun e => hn (.inl (Option.some.inj e)))).trans ((hg.block k (by show k < W.heap.size; omega) (fun e => hn (.inr e.symm))).trans (hb.block k hk))
  · rw [hl]
    intro k hk
    rcases hat k hk with h1 | h1
    · exact .inl h1
    · have h2 : W.heap.size ≤ k := h1
      have := hb.size
      exact .inr (by omega)
set_option maxRecDepth 100000 in
set_option maxHeartbeats 1000000 in
theorem PushM_any (w : World) (B g n c : Nat) (A : Option Addr) (xs : List (Nat × Int)) (x : Nat × Int) (h : Hp w B g A n c xs) (hB : B ≤ w.heap.size) (hn : n ≤ 1000) :
    Calls Try.prog 94 #[.pointer (some ⟨g, 0, none⟩), .iface 54 (hd x).val] w fun e w' => (∃ v, e = .returned v) ∧ PushPost w B g A n c (xs ++ [x]) w' := by
  obtain ⟨p, v⟩ := x
  show Calls Try.prog 94 #[.pointer (some ⟨g, 0, none⟩), .iface 54 (.agg #[.int .i64 (p : Int), .int .i64 (p : Int), .int .i64 v])] w _
  obtain ⟨W, hW⟩ : ∃ W, w.alloc (.cells #[.int .i64 (p : Int), .int .i64 (p : Int), .int .i64 v] 54) = W := ⟨_, rfl⟩
  have hb : Below w.heap.size w W := by rw [← hW]; exact (Below.refl _ _).alloc (Nat.le_refl _) _
  have hHW := h.next hb
  have hbl : Blk W w.heap.size #[.int .i64 (p : Int), .int .i64 (p : Int), .int .i64 v] 54 := by rw [← hW]; exact Blk.new _ _ _
  have k0 := hHW.cell
  have d0 : W.cell? ⟨w.heap.size, 0, none⟩ = some (.int .i64 (p : Int)) := hbl.cell rfl
  have d1 : W.cell? ⟨w.heap.size, 1, none⟩ = some (.int .i64 (p : Int)) := hbl.cell rfl
  have d2 : W.cell? ⟨w.heap.size, 2, none⟩ = some (.int .i64 v) := hbl.cell rfl
  have f0 := hHW.blk.free 0
  have hlt := hHW.blk.lt
  have HH := Lib.hid hHW
  have HBW := Lib.hid hb
  have HW := Lib.hid hW
  have HBB := Lib.hid (show B ≤ W.drew.heap.size from Nat.le_trans hB hb.size)
  have hta := assert_debt p p v
  clear h hb hHW hbl hW
  go_enter Try.func94, Try.ntmps94
  go_wp2_with fail
  rw [HW.out]
  go_wp2_with fail
  go_region_law (refine step_app_h (w := W.drew) rfl _ _ rfl rfl HH.out.drew.own (hd (p, v)) _ rfl _ rfl (by omega) HBB.out ?_; intro A' c' w' ho' hg' hat'; have hbl' := HH.out.drew.blk.grown hg' (fun e => HH.out.ne g e.symm rfl); have k9 := hbl'.cell (j := 0) rfl; have f9 := hbl'.free 0; have HO' := Lib.hid ho'; have HG' := Lib.hid hg'; have HAT' := Lib.hid hat'; have HBL' := Lib.hid hbl'; clear ho' hg' hat' hbl')
  all_goals (refine bodyPost_end (results_none rfl _ _ _) rfl ?_)
  all_goals exact ⟨⟨_, rfl⟩, push_out (p, v) HH.out HBW.out HO'.out HG'.out HAT'.out HBL'.out⟩
theorem Hp.some_ {w : World} {B g n c : Nat} {A : Option Addr} {xs : List (Nat × Int)} (h : Hp w B g A n c xs) (hn : 0 < n) : ∃ r, A = some ⟨r, 0, none⟩ ∧ B ≤ r ∧ r < w.heap.size := by
  obtain ⟨r, cur, rfl, hb, hg, _⟩ := h.own.blk_ hn
  exact ⟨r, rfl, hb, hg.lt⟩
set_option maxRecDepth 100000 in
set_option maxHeartbeats 1000000 in
theorem hPush_any (w : World) (B g n c : Nat) (A : Option Addr) (xs : List (Nat × Int)) (x : Nat × Int) (h : Hp w B g A n c xs) (hB : B ≤ w.heap.size) (hn : n ≤ 4) :
    Calls Try.prog 36 #[.iface 71 (.pointer (some ⟨g, 0, none⟩)), .iface 54 (hd x).val] w fun e w' => (∃ v, e = .returned v) ∧ PushPost w B g A n c (Ta.upL 3 (xs ++ [x]) xs.length) w' := by
  have hl := h.len
  have HL := Lib.hid hl
  have HH := Lib.hid h
  obtain ⟨p, v⟩ := x
  show Calls Try.prog 36 #[.iface 71 (.pointer (some ⟨g, 0, none⟩)), .iface 54 (.agg #[.int .i64 (p : Int), .int .i64 (p : Int), .int .i64 v])] w _
  clear h hl
  go_enter Try.func36, Try.ntmps36
  go_wp2_with fail
  refine (PushM_any w B g n c A xs (p, v) HH.out hB (by omega)).mono ?_
  rintro e w1 ⟨⟨v1, rfl⟩, A', c', hH1, hK1, hat1⟩
  rw [show (xs ++ [(p, v)]).length = n + 1 from by rw [List.length_append, HL.out]; rfl] at hH1 hat1
  obtain ⟨r, rfl, hr0, hr1⟩ := hH1.some_ (by omega)
  have hcell := hH1.cell
  have ml := method_len g (n + 1) c' (some ⟨r, 0, none⟩)
  have HH1 := Lib.hid hH1
  have HK1 := Lib.hid hK1
  have HAT := Lib.hid hat1
  clear hH1 hK1 hat1
  go_wp2_with fail
  refine (Len_any _ (n + 1) c' w1).mono ?_
  rintro e w2 ⟨rfl, rfl⟩
  go_wp2_with fail
  refine (up_any w1 B g (n + 1) c' r (xs ++ [(p, v)]) n 3 HH1.out (by omega) (by omega) (by omega)).mono ?_
  rintro e w3 ⟨⟨v3, rfl⟩, hH3, hG3⟩
  have hlen : (Ta.upL 3 (xs ++ [(p, v)]) n).length = n + 1 := by rw [Ta.upL_length, List.length_append, HL.out]; rfl
  have HP := Lib.hid (show PushPost w B g A n c (Ta.upL 3 (xs ++ [(p, v)]) xs.length) w3 from by
    rw [HL.out]
    refine ⟨_, c', by rw [hlen]; exact hH3, ?_, by rw [hlen]; exact HAT.out⟩
    have hK := HK1.out
    refine ⟨hG3.os.trans hK.os, hG3.tape.trans hK.tape, hG3.output.trans hK.output, Nat.le_trans hK.size hG3.size, fun k hk hn => (hG3.block k (Nat.lt_of_lt_of_le hk hK.size) (fun e => ?_)).trans (hK.block k hk hn)⟩
    have e : k = r := Option.some.inj e
    subst e
    rcases HAT.out k rfl with h1 | h1
    · exact hn (.inr h1)
    · omega)
  clear hH3 hG3 hlen
  go_wp2
  refine bodyPost_end (results_none rfl _ _ _) rfl ⟨⟨_, rfl⟩, HP.out⟩

/-- the row without its last debt -/
theorem OwnD.init {w : World} {B n c g : Nat} {ds : List Db} {d : Db} (h : OwnD w B (some ⟨g, 0, none⟩) (n + 1) c (ds ++ [d])) : OwnD w B (some ⟨g, 0, none⟩) n c ds := by
  have hl := h.dbs.len
  have hl2 : ds.length = n := by simpa using hl
  refine ⟨⟨by rw [DV_length, hl2], ?_⟩, by have := h.2; omega⟩
  rcases h.1.2 with ⟨h1, _⟩ | ⟨g', cap, cur, hv, hb, hg, h1, h2, h3, h4⟩
  · cases h1
  · injection hv with e1 e2 e3
    subst e3
    refine .inr ⟨g', c, cur, by rw [e1], hb, hg, by omega, h2, h3, ?_⟩
    have := congrArg (List.take (n * 3)) h4
    rw [List.take_take, DV_append, List.take_left' (by rw [DV_length, hl2])] at this
    rw [← this, Nat.min_eq_left (by omega)]
/-- what Pop gives -/
def PopPost (w : World) (B g r n c : Nat) (ys : List (Nat × Int)) (w' : World) : Prop := Hp w' B g (some ⟨r, 0, none⟩) n c ys ∧ Kept w w' (fun k => k = g ∨ k = r)
theorem pop_out {w : World} {B g r n c : Nat} {ys : List (Nat × Int)} {z : Nat × Int} {o : Obj} (h : Hp w B g (some ⟨r, 0, none⟩) (n + 1) c (ys ++ [z])) (ho : OwnD w B (some ⟨r, 0, none⟩) n c (HL ys)) :
    PopPost w B g r n c ys ((w.setCell ⟨g, 0, none⟩ (.slice (some ⟨r, 0, none⟩) n c)).alloc o) := by
  have g2 := h.blk.grows 0 (.slice (some ⟨r, 0, none⟩) n c)
  have hrg : r ≠ g := h.ne r rfl
  refine ⟨⟨?_, ?_, fun k hk => h.ne k hk⟩, ?_⟩
  · have := (h.blk.set 0 (.slice (some ⟨r, 0, none⟩) n c)).alloc o
    simpa using this
  · exact (ho.kept g2 (fun q hq e => by injection e with e; injection hq with hq; exact hrg (hq.trans e.symm))).alloc o
  · refine ⟨g2.os, g2.tape, g2.output, by rw [World.size_alloc, size_set]; omega, fun k hk hn => ?_⟩
    exact (Below.heap_alloc _ _ k (by rw [size_set]; exact hk)).trans (g2.block k hk (fun e => hn (.inl (Option.some.inj e))))
set_option maxRecDepth 100000 in
set_option maxHeartbeats 1000000 in
theorem PopM_any (w : World) (B g r n c : Nat) (ys : List (Nat × Int)) (z : Nat × Int) (h : Hp w B g (some ⟨r, 0, none⟩) (n + 1) c (ys ++ [z])) (hn : n ≤ 1000) :
    Calls Try.prog 93 #[.pointer (some ⟨g, 0, none⟩)] w fun e w' => e = .returned (.iface 54 (hd z).val) ∧ PopPost w B g r n c ys w' := by
  have hl : ys.length = n := by have := h.len; simpa using this
  have hz : (ys ++ [z])[n]? = some z := by rw [List.getElem?_append_right (by omega), hl]; simp
  obtain ⟨k0, k1, k2⟩ := h.own.cell3 (HL_get hz)
  obtain ⟨p, v⟩ := z
  simp only [hd] at k0 k1 k2
  have hc := h.cell
  have f0 := h.blk.free 0
  have hlt := h.blk.lt
  have hcap := h.own.cap
  have ho : OwnD w B (some ⟨r, 0, none⟩) n c (HL ys) := by
    have := h.own
    rw [show HL (ys ++ [(p, v)]) = HL ys ++ [hd (p, v)] from by simp [HL]] at this
    exact this.init
  have HO := Lib.hid ho
  have HH := Lib.hid h
  clear h hl hz ho
  show Calls Try.prog 93 #[.pointer (some ⟨g, 0, none⟩)] w fun e w' => e = .returned (.iface 54 (.agg #[.int .i64 (p : Int), .int .i64 (p : Int), .int .i64 v])) ∧ PopPost w B g r n c ys w'
  go_enter Try.func93, Try.ntmps93
  go_wp2_with fail
  go_ret
  exact ⟨rfl, pop_out (o := .cells #[.int .i64 (p : Int), .int .i64 (p : Int), .int .i64 v] 54) HH.out HO.out⟩

set_option maxRecDepth 100000 in
set_option maxHeartbeats 1000000 in
theorem hPop_any (w : World) (B g r n c : Nat) (x : Nat × Int) (xs : List (Nat × Int)) (h : Hp w B g (some ⟨r, 0, none⟩) (n + 1) c (x :: xs)) (hh : Ta.Heap (x :: xs)) (hn : n ≤ 4) :
    Calls Try.prog 37 #[.iface 71 (.pointer (some ⟨g, 0, none⟩))] w fun e w' => (∃ v, e = .returned v) ∧ ∃ ys, Ta.Heap ys ∧ ys.Perm xs ∧ PopPost w B g r n c ys w' := by
  have hl : xs.length = n := by have := h.len; simpa using this
  obtain ⟨ys, e1, hy, hp, hyl⟩ := Ta.down_ok x xs hh
  rw [hl] at e1
  obtain ⟨z, hz⟩ : ∃ z, (x :: xs)[n]? = some z := ⟨_, List.getElem?_eq_getElem (by simp; omega)⟩
  have hc := h.cell
  have ml := method_len g (n + 1) c (some ⟨r, 0, none⟩)
  have ms := method_swap g (n + 1) c (some ⟨r, 0, none⟩)
  have HH := Lib.hid h
  have HZ := Lib.hid hz
  have HE := Lib.hid e1
  have HY := Lib.hid (And.intro hy hp)
  clear h hh hl hz e1 hy hp hyl
  go_enter Try.func37, Try.ntmps37
  go_wp2_with fail
  refine (Len_any _ (n + 1) c w).mono ?_
  rintro e w1 ⟨rfl, rfl⟩
  go_wp2_with fail
  refine (Swap_any r (n + 1) c B (x :: xs) 0 n x z w HH.out.own rfl HZ.out).mono ?_
  rintro e w2 ⟨⟨v2, rfl⟩, hO2, hG2⟩
  have hH2 : Hp w2 B g (some ⟨r, 0, none⟩) (n + 1) c (Ta.swapL (x :: xs) 0 n) := ⟨HH.out.blk.grown hG2 (by intro e; injection e with e; exact HH.out.ne r rfl e.symm), hO2, HH.out.ne⟩
  have HH2 := Lib.hid hH2
  have HG2 := Lib.hid hG2
  clear hO2 hG2 hH2
  go_wp2_with fail
  refine (down_any w2 B g (n + 1) c r (Ta.swapL (x :: xs) 0 n) n 3 HH2.out (by omega) (by omega) (by omega)).mono ?_
  rintro e w3 ⟨⟨v3, rfl⟩, hH3, hG3⟩
  rw [HE.out] at hH3
  have HH3 := Lib.hid hH3
  have HG3 := Lib.hid hG3
  clear hH3 hG3
  go_wp2_with fail
  refine (PopM_any w3 B g r n c ys x HH3.out (by omega)).mono ?_
  rintro e w4 ⟨rfl, hP⟩
  have HP := Lib.hid (show PopPost w B g r n c ys w4 from ⟨hP.1, ((Kept.of_grown (HG2.out.then_ HG3.out (fun k hk => .inr hk))).mono (fun k _ hk => .inr (by injection hk with hk; exact hk.symm))).trans (hP.2.mono (fun k _ hk => hk))⟩)
  clear hP
  go_wp2
  go_ret
  exact ⟨⟨_, rfl⟩, ys, HY.out.1, HY.out.2, HP.out⟩
set_option maxRecDepth 100000 in
set_option maxHeartbeats 1000000 in
theorem take_any (w : World) (B g r n c : Nat) (x : Nat × Int) (xs : List (Nat × Int)) (h : Hp w B g (some ⟨r, 0, none⟩) (n + 1) c (x :: xs)) (hh : Ta.Heap (x :: xs)) (hn : n ≤ 4) :
    Calls Try.prog 24 #[.pointer (some ⟨g, 0, none⟩)] w fun e w' => e = .returned (hd x).val ∧ ∃ ys, Ta.Heap ys ∧ ys.Perm xs ∧ PopPost w B g r n c ys w' := by
  obtain ⟨p, v⟩ := x
  show Calls Try.prog 24 #[.pointer (some ⟨g, 0, none⟩)] w fun e w' => e = .returned (.agg #[.int .i64 (p : Int), .int .i64 (p : Int), .int .i64 v]) ∧ _
  obtain ⟨k0, k1, k2⟩ := h.own.cell3 (i := 0) (d := hd (p, v)) rfl
  simp only [Nat.zero_mul, Nat.zero_add, hd] at k0 k1 k2
  have hc := h.cell
  have hlt := h.blk.lt
  have hrl : r < w.heap.size := (h.own.blk r rfl).2
  obtain ⟨W, hW⟩ : ∃ W, (w.alloc (.cells #[.int .i64 0, .int .i64 0, .int .i64 0] 54)).alloc (.cells #[.int .i64 (p : Int), .int .i64 (p : Int), .int .i64 v] 54) = W := ⟨_, rfl⟩
  have hb : Below w.heap.size w W := by rw [← hW]; exact ((Below.refl _ _).alloc (Nat.le_refl _) _).alloc (by simp) _
  have hHW := h.next hb
  have hsz : W.heap.size = w.heap.size + 2 := by rw [← hW]; simp
  have hb2 : Blk W w.heap.size #[.int .i64 0, .int .i64 0, .int .i64 0] 54 := by rw [← hW]; exact (Blk.new _ _ _).alloc _
  have hb3 : Blk W (w.heap.size + 1) #[.int .i64 (p : Int), .int .i64 (p : Int), .int .i64 v] 54 := by
    rw [← hW]
    have := Blk.new (w.alloc (.cells #[.int .i64 0, .int .i64 0, .int .i64 0] 54)) #[.int .i64 (p : Int), .int .i64 (p : Int), .int .i64 v] 54
    simpa using this
  have HH := Lib.hid hHW
  have HBW := Lib.hid hb
  have HW := Lib.hid hW
  have HB2 := Lib.hid hb2
  have HB3 := Lib.hid hb3
  have HSZ := Lib.hid hsz
  have HHP := Lib.hid hh
  clear h hb hHW hb2 hb3 hsz hW hh
  go_enter Try.func24, Try.ntmps24
  go_wp2_with fail
  rw [HW.out]
  refine (hPop_any W B g r n c (p, v) xs HH.out HHP.out hn).mono ?_
  rintro e w3 ⟨⟨v3, rfl⟩, ys, hy, hp, hP⟩
  have hsz := HSZ.out
  have q2 := HB2.out.keep (hP.2.block w.heap.size (by omega) (by rintro (e | e) <;> omega))
  have q3 := HB3.out.keep (hP.2.block (w.heap.size + 1) (by omega) (by rintro (e | e) <;> omega))
  have m0 : w3.cell? ⟨w.heap.size, 0, none⟩ = some (.int .i64 0) := q2.cell rfl
  have m1 : w3.cell? ⟨w.heap.size, 1, none⟩ = some (.int .i64 0) := q2.cell rfl
  have m2 : w3.cell? ⟨w.heap.size, 2, none⟩ = some (.int .i64 0) := q2.cell rfl
  have f0 := q2.free 0
  have f1 := q2.free 1
  have f2 := q2.free 2
  have l0 : w3.cell? ⟨w.heap.size + 1, 0, none⟩ = some (.int .i64 (p : Int)) := q3.cell rfl
  have l1 : w3.cell? ⟨w.heap.size + 1, 1, none⟩ = some (.int .i64 (p : Int)) := q3.cell rfl
  have l2 : w3.cell? ⟨w.heap.size + 1, 2, none⟩ = some (.int .i64 v) := q3.cell rfl
  have HP := Lib.hid hP
  have HY := Lib.hid (And.intro hy hp)
  have HQ2 := Lib.hid q2
  clear hP hy hp q2 q3 hsz k0 k1 k2 hc
  go_wp2_with fail
  have hf := HQ2.out.set3 (.int .i64 (p : Int)) (.int .i64 (p : Int)) (.int .i64 v)
  have g0 := hf.cell (j := 0) rfl
  have g1 := hf.cell (j := 1) rfl
  have g2 := hf.cell (j := 2) rfl
  refine bodyPost_ret (v := .agg #[.int .i64 (p : Int), .int .i64 (p : Int), .int .i64 v]) (by simp [results, Try.results24, go_sem, g0, g1, g2]) rfl ⟨rfl, ys, HY.out.1, HY.out.2, ?_⟩
  have gg := grown_set3 w3 w.heap.size 0 1 2 (.int .i64 (p : Int)) (.int .i64 (p : Int)) (.int .i64 v)
  have hK := HP.out.2
  have hsz := HSZ.out
  refine ⟨HP.out.1.kept (Kept.of_grown gg) (fun e => by injection e with e; omega) (fun k hk e => by have hk : (some r : Option Nat) = some k := hk; injection hk with hk; injection e with e; omega), ?_⟩
  refine ⟨gg.os.trans (hK.os.trans HBW.out.os), gg.tape.trans (hK.tape.trans HBW.out.tape), gg.output.trans (hK.output.trans HBW.out.output), Nat.le_trans HBW.out.size (Nat.le_trans hK.size gg.size), fun k hk hn => ?_⟩
  exact (gg.block k (Nat.lt_of_lt_of_le (by omega) hK.size) (fun e => by injection e with e; omega)).trans ((hK.block k (by omega) hn).trans (HBW.out.block k hk))

/-- what put gives: the debt is in, or it is worth nothing -/
def PutPost (w : World) (B g : Nat) (A : Option Addr) (n c : Nat) (xs : List (Nat × Int)) (x : Nat × Int) (w' : World) : Prop :=
  PushPost w B g A n c (if 0 < x.2 then Ta.upL 3 (xs ++ [x]) xs.length else xs) w'
set_option maxRecDepth 100000 in
set_option maxHeartbeats 1000000 in
theorem put_any (w : World) (B g n c : Nat) (A : Option Addr) (xs : List (Nat × Int)) (x : Nat × Int) (h : Hp w B g A n c xs) (hB : B ≤ w.heap.size) (hn : n ≤ 4) :
    Calls Try.prog 23 #[.pointer (some ⟨g, 0, none⟩), (hd x).val] w fun e w' => (∃ v, e = .returned v) ∧ PutPost w B g A n c xs x w' := by
  have hl := h.len
  obtain ⟨p, v⟩ := x
  show Calls Try.prog 23 #[.pointer (some ⟨g, 0, none⟩), .agg #[.int .i64 (p : Int), .int .i64 (p : Int), .int .i64 v]] w _
  obtain ⟨W, hW⟩ : ∃ W, w.alloc (.cells #[.int .i64 (p : Int), .int .i64 (p : Int), .int .i64 v] 54) = W := ⟨_, rfl⟩
  have hb : Below w.heap.size w W := by rw [← hW]; exact (Below.refl _ _).alloc (Nat.le_refl _) _
  have hHW := h.next hb
  have hsz : W.heap.size = w.heap.size + 1 := by rw [← hW]; simp
  have hbl : Blk W w.heap.size #[.int .i64 (p : Int), .int .i64 (p : Int), .int .i64 v] 54 := by rw [← hW]; exact Blk.new _ _ _
  have d0 : W.cell? ⟨w.heap.size, 0, none⟩ = some (.int .i64 (p : Int)) := hbl.cell rfl
  have d1 : W.cell? ⟨w.heap.size, 1, none⟩ = some (.int .i64 (p : Int)) := hbl.cell rfl
  have d2 : W.cell? ⟨w.heap.size, 2, none⟩ = some (.int .i64 v) := hbl.cell rfl
  have HH := Lib.hid hHW
  have H0 := Lib.hid h
  have HBW := Lib.hid hb
  have HW := Lib.hid hW
  have HL := Lib.hid hl
  clear h hb hHW hbl hW hl
  by_cases hv : 0 < v
  · have HPP := Lib.hid (show ∀ w', PushPost W B g A n c (Ta.upL 3 (xs ++ [(p, v)]) xs.length) w' → PutPost w B g A n c xs (p, v) w' from fun w' hP => by
      rw [PutPost, if_pos hv]
      obtain ⟨A', c', h1, h2, h3⟩ := hP
      refine ⟨A', c', h1, ⟨h2.os.trans HBW.out.os, h2.tape.trans HBW.out.tape, h2.output.trans HBW.out.output, Nat.le_trans HBW.out.size h2.size, fun k hk hn => (h2.block k (by omega) hn).trans (HBW.out.block k hk)⟩, fun k hk => ?_⟩
      rcases h3 k hk with h | h
      · exact .inl h
      · exact .inr (by omega))
    have hB' : B ≤ W.heap.size := by omega
    clear hsz
    go_enter Try.func23, Try.ntmps23
    go_wp2_with fail
    rw [HW.out]
    go_wp2_with fail
    refine (hPush_any W B g n c A xs (p, v) HH.out hB' hn).mono ?_
    rintro e w3 ⟨⟨v3, rfl⟩, hP⟩
    have HP := Lib.hid (HPP.out w3 hP)
    clear hP
    go_wp2
    refine bodyPost_end (results_none rfl _ _ _) rfl ⟨⟨_, rfl⟩, HP.out⟩
  · have HPP := Lib.hid (show PutPost w B g A n c xs (p, v) W from by
      rw [PutPost, if_neg hv]
      refine ⟨A, c, by rw [HL.out]; exact HH.out, ⟨HBW.out.os, HBW.out.tape, HBW.out.output, HBW.out.size, fun k hk _ => HBW.out.block k hk⟩, fun k hk => .inl (by rw [← HL.out]; exact hk)⟩)
    clear hsz
    go_enter Try.func23, Try.ntmps23
    go_wp2_with fail
    rw [HW.out]
    go_wp2
    refine bodyPost_end (results_none rfl _ _ _) rfl ⟨⟨_, rfl⟩, HPP.out⟩
end Go.Proofs.Ytogplbnabffcfaa
