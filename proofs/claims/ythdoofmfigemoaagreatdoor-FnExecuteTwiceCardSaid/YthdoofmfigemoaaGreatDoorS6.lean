/-
  Joined texts.
-/
import Derived.Test.YthdoofmfigemoaaGreatDoorS1
import Derived.Test.YthdoofmfigemoaaGreatDoorS2
import Derived.Maps.AppendAt
import Derived.Deep.RegionLaw
import Derived.MapKept
import Derived.WideMake
import Derived.Laws.StructEq
import Derived.Test.YthdoofmfigemoaaGreatDoorSShelf
import Derived.Lib.SplitLaws
import Derived.Lib.IndexBytes
import Derived.Deep.RegionHeld3
import Derived.Laws.EntriesVeiled
import Derived.Defers
import Derived.Recover
import Derived.Laws.Pointers
set_option linter.unusedSimpArgs false
set_option linter.unusedVariables false
set_option maxRecDepth 100000
set_option maxHeartbeats 4000000
namespace Go.Proofs.YthdoofmfigemoaaGreatDoor
open Go.RowKit
theorem pow_step {i f N : Nat} (h : N < (i + 1) * 2 ^ (f + 1)) : N < (2 * i + 2) * 2 ^ f := by
 have e : (i + 1) * 2 ^ (f + 1) = (2 * i + 2) * 2 ^ f := by
  rw [Nat.pow_succ, Nat.mul_comm (2 ^ f) 2, ← Nat.mul_assoc]
  congr 1
  omega
 rwa [e] at h
theorem down_any (w : World) (B g n c : Nat) (r : Nat) (xs : List (Nat × Int)) (N f : Nat) (h : Hp w B g (some ⟨r, 0, none⟩) n c xs) (hN : N < n) (hn : n ≤ 1000) (hf : N < 2 ^ f) :
  Calls Tryz.prog 147 #[.iface 162 (.pointer (some ⟨g, 0, none⟩)), .int .i64 0, .int .i64 (N : Int)] w fun e w' => (∃ v, e = .returned v) ∧ Hp w' B g (some ⟨r, 0, none⟩) n c (Ta.downL f xs 0 N) ∧ w.grownBy w' (some r) := by
 have ml := method_less g n c (some ⟨r, 0, none⟩)
 have ms := method_swap g n c (some ⟨r, 0, none⟩)
 obtain ⟨R, hR⟩ : ∃ R, Ta.downL f xs 0 N = R := ⟨_, rfl⟩
 rw [hR]
 have H0 := Hd h
 have HR := Hd hR
 have HF := Hd hf
 clear h hR hf
 go_enter Tryz.func147, Tryz.ntmps147
 go_wp2_with fail
 go_loopw [7] (fun iv wr => ∃ (i f : Nat) (ys : List (Nat × Int)), iv = .int .i64 (i : Int) ∧ i ≤ N ∧ N < (i + 1) * 2 ^ f ∧ Ta.downL f ys i N = R ∧ Hp wr B g (some ⟨r, 0, none⟩) n c ys ∧ w.grownBy wr (some r)) (fun iv _ => N - (intOf iv).toNat)
 case atStart => exact ⟨0, f, xs, rfl, by omega, by simpa using HF.out, HR.out, H0.out, World.grownBy.refl w _⟩
 case round =>
  clear HR HF H0
  obtain ⟨i, f, ys, rfl, hiN, hf, hR, hH, hG⟩ := hrel
  have hcell := hH.cell
  have HH := Hd hH
  have HG := Hd hG
  have HR := Hd hR
  have HF := Hd hf
  clear hH hG hR hf
  have hly := HH.out.len
  by_cases h1 : N ≤ 2 * i + 1
  ·have hh : Ta.downL f ys i N = ys := by cases f with | zero => rfl | succ f => simp only [Ta.downL]; rw [if_pos h1]
   have HS := Hd (hh.symm.trans HR.out)
   have g1 : 2 * (i : Int) + 1 ≥ (N : Int) := by omega
   clear hh hly
   go_wp2
   go_ret
   exact ⟨⟨_, rfl⟩, by rw [← HS.out]; exact HH.out, HG.out⟩
  ·obtain ⟨f, rfl⟩ : ∃ k, f = k + 1 := ⟨f - 1, by have := HF.out; cases f with | zero => simp at this; omega | succ k => simp⟩
   have hpow := pow_step HF.out
   have HPW := Hd hpow
   clear hpow
   obtain ⟨x, hx⟩ : ∃ x, ys[i]? = some x := ⟨_, List.getElem?_eq_getElem (by omega)⟩
   obtain ⟨y, hy⟩ : ∃ y, ys[2 * i + 1]? = some y := ⟨_, List.getElem?_eq_getElem (by omega)⟩
   have dx : ys.getD i Ta.d0 = x := by rw [List.getD_eq_getElem?_getD, hx]; rfl
   have dy : ys.getD (2 * i + 1) Ta.d0 = y := by rw [List.getD_eq_getElem?_getD, hy]; rfl
   have HX := Hd hx
   have HY := Hd hy
   have DX := Hd dx
   have DY := Hd dy
   clear hx hy dx dy
   have g1 : ¬ (2 * (i : Int) + 1 ≥ (N : Int)) := by omega
   obtain ⟨a, ha⟩ : ∃ a : Nat, a = 2 * i + 1 := ⟨_, rfl⟩
   have HA2 := Hd (show 2 * (i : Int) + 1 = (a : Int) by omega)
   obtain ⟨b, hb⟩ : ∃ b : Nat, b = 2 * i + 2 := ⟨_, rfl⟩
   have HB2 := Hd (show 2 * (i : Int) + 1 + 1 = (b : Int) by omega)
   have HB3 := Hd (show 2 * (i : Int) + 2 = (b : Int) by omega)
   by_cases h2 : 2 * i + 2 < N
   ·obtain ⟨z, hz⟩ : ∃ z, ys[2 * i + 2]? = some z := ⟨_, List.getElem?_eq_getElem (by omega)⟩
    have dz : ys.getD (2 * i + 2) Ta.d0 = z := by rw [List.getD_eq_getElem?_getD, hz]; rfl
    have HZ := Hd hz
    have DZ := Hd dz
    clear hz dz hly
    have g2 : 2 * (i : Int) + 1 + 1 < (N : Int) := by omega
    go_wp2_with fail
    (try rw [HB2.out])
    (try rw [HB3.out])
    (try rw [HA2.out])
    refine (Less_any _ n c ys b a z y wr HH.out.own.dbs (hb ▸ HZ.out) (ha ▸ HY.out)).mono ?_
    rintro e w0 ⟨rfl, q0, rfl⟩
    rcases hlz : Ta.less z y with _ | _
    ·have HLZ := Hd hlz
     clear hlz
     have hch : Ta.child ys i N = a := by rw [Ta.child, if_neg (by rw [DZ.out, DY.out, HLZ.out]; simp), ha]
     have hdn : Ta.downL (f + 1) ys i N = if Ta.less y x = false then ys else Ta.downL f (Ta.swapL ys i a) a N := by
      simp only [Ta.downL, hch]
      rw [if_neg h1, show ys.getD a Ta.d0 = y from by rw [ha]; exact DY.out]
      rw [DX.out]
     have HDN := Hd hdn
     clear hch hdn
     go_wp2_with fail
     (try rw [HB2.out])
     (try rw [HB3.out])
     (try rw [HA2.out])
     refine (Less_any _ n c ys a i y x (wr.drewN q0) (HH.out.drewN q0).own.dbs (ha ▸ HY.out) HX.out).mono ?_
     rintro e w1 ⟨rfl, q1, rfl⟩
     rcases hls : Ta.less y x with _ | _
     ·have HL := Hd hls
      clear hls
      go_wp2
      go_ret
      refine ⟨⟨_, rfl⟩, ?_, ⟨HG.out.os, HG.out.tape, HG.out.output, HG.out.size, HG.out.block⟩⟩
      rw [← HR.out, HDN.out, if_pos HL.out]
      exact (HH.out.drewN (q0 + q1))
     ·have HL := Hd hls
      clear hls
      go_wp2_with fail
      (try rw [HB2.out])
      (try rw [HB3.out])
      (try rw [HA2.out])
      refine (Swap_any r n c B ys i a x y (wr.drewN (q0 + q1)) (HH.out.drewN (q0 + q1)).own HX.out (ha ▸ HY.out)).mono ?_
      rintro e w2 ⟨⟨v2, rfl⟩, hO, hG2⟩
      have HH2 := Hd (show Hp w2 B g (some ⟨r, 0, none⟩) n c (Ta.swapL ys i a) from ⟨(HH.out.drewN (q0 + q1)).blk.grown hG2 (by intro e; injection e with e; exact HH.out.ne r rfl e.symm), hO, HH.out.ne⟩)
      have HG2 := Hd ((⟨HG.out.os, HG.out.tape, HG.out.output, HG.out.size, HG.out.block⟩ : w.grownBy (wr.drewN (q0 + q1)) (some r)).then_ hG2 (fun k hk => .inr hk))
      clear hO hG2
      go_wp2
      refine ⟨⟨a, f, _, congrArg (Value.int .i64) (by omega), by omega, ?_, by rw [← HR.out, HDN.out, if_neg (by rw [HL.out]; simp)], HH2.out, HG2.out⟩, ?_⟩
      ·have := HPW.out
       refine Nat.lt_of_lt_of_le this (Nat.mul_le_mul_right _ (by omega))
      ·simp [intOf]
       omega
    ·have HLZ := Hd hlz
     clear hlz
     have hch : Ta.child ys i N = b := by rw [Ta.child, if_pos ⟨h2, by rw [DZ.out, DY.out, HLZ.out]⟩, hb]
     have hdn : Ta.downL (f + 1) ys i N = if Ta.less z x = false then ys else Ta.downL f (Ta.swapL ys i b) b N := by
      simp only [Ta.downL, hch]
      rw [if_neg h1, show ys.getD b Ta.d0 = z from by rw [hb]; exact DZ.out]
      rw [DX.out]
     have HDN := Hd hdn
     clear hch hdn
     go_wp2_with fail
     (try rw [HB2.out])
     (try rw [HB3.out])
     (try rw [HA2.out])
     refine (Less_any _ n c ys b i z x (wr.drewN q0) (HH.out.drewN q0).own.dbs (hb ▸ HZ.out) HX.out).mono ?_
     rintro e w1 ⟨rfl, q1, rfl⟩
     rcases hls : Ta.less z x with _ | _
     ·have HL := Hd hls
      clear hls
      go_wp2
      go_ret
      refine ⟨⟨_, rfl⟩, ?_, ⟨HG.out.os, HG.out.tape, HG.out.output, HG.out.size, HG.out.block⟩⟩
      rw [← HR.out, HDN.out, if_pos HL.out]
      exact (HH.out.drewN (q0 + q1))
     ·have HL := Hd hls
      clear hls
      go_wp2_with fail
      (try rw [HB2.out])
      (try rw [HB3.out])
      (try rw [HA2.out])
      refine (Swap_any r n c B ys i b x z (wr.drewN (q0 + q1)) (HH.out.drewN (q0 + q1)).own HX.out (hb ▸ HZ.out)).mono ?_
      rintro e w2 ⟨⟨v2, rfl⟩, hO, hG2⟩
      have HH2 := Hd (show Hp w2 B g (some ⟨r, 0, none⟩) n c (Ta.swapL ys i b) from ⟨(HH.out.drewN (q0 + q1)).blk.grown hG2 (by intro e; injection e with e; exact HH.out.ne r rfl e.symm), hO, HH.out.ne⟩)
      have HG2 := Hd ((⟨HG.out.os, HG.out.tape, HG.out.output, HG.out.size, HG.out.block⟩ : w.grownBy (wr.drewN (q0 + q1)) (some r)).then_ hG2 (fun k hk => .inr hk))
      clear hO hG2
      go_wp2
      refine ⟨⟨b, f, _, congrArg (Value.int .i64) (by omega), by omega, ?_, by rw [← HR.out, HDN.out, if_neg (by rw [HL.out]; simp)], HH2.out, HG2.out⟩, ?_⟩
      ·have := HPW.out
       refine Nat.lt_of_lt_of_le this (Nat.mul_le_mul_right _ (by omega))
      ·simp [intOf]
       omega
   ·have g2 : ¬ 2 * (i : Int) + 1 + 1 < (N : Int) := by omega
    clear hly
    have hch : Ta.child ys i N = a := by rw [Ta.child, if_neg (fun h => h2 h.1), ha]
    have hdn : Ta.downL (f + 1) ys i N = if Ta.less y x = false then ys else Ta.downL f (Ta.swapL ys i a) a N := by
     simp only [Ta.downL, hch]
     rw [if_neg h1, show ys.getD a Ta.d0 = y from by rw [ha]; exact DY.out]
     rw [DX.out]
    have HDN := Hd hdn
    clear hch hdn
    go_wp2_with fail
    (try rw [HB2.out])
    (try rw [HB3.out])
    (try rw [HA2.out])
    refine (Less_any _ n c ys a i y x wr HH.out.own.dbs (ha ▸ HY.out) HX.out).mono ?_
    rintro e w1 ⟨rfl, q0, rfl⟩
    rcases hls : Ta.less y x with _ | _
    ·have HL := Hd hls
     clear hls
     go_wp2
     go_ret
     refine ⟨⟨_, rfl⟩, ?_, ⟨HG.out.os, HG.out.tape, HG.out.output, HG.out.size, HG.out.block⟩⟩
     rw [← HR.out, HDN.out, if_pos HL.out]
     exact (HH.out.drewN q0)
    ·have HL := Hd hls
     clear hls
     go_wp2_with fail
     (try rw [HB2.out])
     (try rw [HB3.out])
     (try rw [HA2.out])
     refine (Swap_any r n c B ys i a x y (wr.drewN q0) (HH.out.drewN q0).own HX.out (ha ▸ HY.out)).mono ?_
     rintro e w2 ⟨⟨v2, rfl⟩, hO, hG2⟩
     have HH2 := Hd (show Hp w2 B g (some ⟨r, 0, none⟩) n c (Ta.swapL ys i a) from ⟨(HH.out.drewN q0).blk.grown hG2 (by intro e; injection e with e; exact HH.out.ne r rfl e.symm), hO, HH.out.ne⟩)
     have HG2 := Hd ((⟨HG.out.os, HG.out.tape, HG.out.output, HG.out.size, HG.out.block⟩ : w.grownBy (wr.drewN q0) (some r)).then_ hG2 (fun k hk => .inr hk))
     clear hO hG2
     go_wp2
     refine ⟨⟨a, f, _, congrArg (Value.int .i64) (by omega), by omega, ?_, by rw [← HR.out, HDN.out, if_neg (by rw [HL.out]; simp)], HH2.out, HG2.out⟩, ?_⟩
     ·have := HPW.out
      refine Nat.lt_of_lt_of_le this (Nat.mul_le_mul_right _ (by omega))
     ·simp [intOf]
      omega
theorem step_app_h {ops : Array Oper} {o : Oper} {a : Act} {w : World} {K : Act → World → Prop} {Q : Exit → Act → World → Prop} {E : Prop} (hgd : o.guard = none) (s x : Operand)
  (ho : o.op = .call { callee := .builtin .append, args := #[s, x], argTypes := #[116, 116] })
  {B : Nat} {A : Option Addr} {n c : Nat} {ts : List Db} (hs : a.eval s = .slice A n c) (hown : OwnD w B A n c ts) (t : Db) (c0 : Nat)
  (hx : a.eval x = .slice (some ⟨w.heap.size, 0, none⟩) 1 c0) (cs : Array Value) (hcs : cs = t.cells.toArray) (hn : n + 1 ≤ 1000000) (hB : B ≤ w.heap.size)
  (h : ∀ A' c' w', OwnD w' B A' (n + 1) c' (ts ++ [t]) → w.grownBy w' (Value.slice A n c).ownBlock → (∀ k, (Value.slice A' (n + 1) c').ownBlock = some k → (Value.slice A n c).ownBlock = some k ∨ w.heap.size ≤ k) → K (a.put o.dst (.slice A' (n + 1) c')) w') :
  if Region.wanted o (yielded ops a.tmps) = true then Oper.wp Tryz.prog o a (w.alloc (.cells cs 123)) K Q else E := by
 obtain ⟨i0, hi, hz0, hz1, hz2⟩ := info_parts debt_info
 subst hcs
 rw [if_pos (by simp [Region.wanted, hgd])]
 obtain ⟨v', w', hr, hown', hg, _, hat⟩ := run_append_own_at (P := Tryz.prog) (w.alloc (.cells t.cells.toArray 123)) B 116 o.type 123 i0 _ 3 24 Tryz.underlying116 hi hz0 hz1 hz2 rfl (by decide) _ n (DV ts) (hown.1.alloc _)
  ⟨w.heap.size, 0, none⟩ 1 c0 t.cells (by simp [Db.cells]) (by
   intro j u hj
   rw [add_row, cell_of_row _ w.heap.size j _ _ _ (heap_alloc_new w _)]
   simpa using hj) (by rw [← DV_one]; exact DV_oneCell _) (by unfold maxLen; omega) (by omega) (by simp; omega)
 unfold Oper.wp execOp
 simp only [ho, resolve, invoke, builtin, Sem.run_bind, Sem.run_pure, Result.andThen_ok, List.map_toArray, List.map_cons, List.map_nil, hs, hx, hr]
 rw [← DV_one, ← DV_append] at hown'
 obtain ⟨A', c', rfl, h'⟩ := shape_own hown' (by omega)
 refine h A' c' w' h' ⟨hg.os, hg.tape, hg.output, by have := hg.size; simp at this; omega, fun k hk hne => (hg.block k (by simp; omega) hne).trans (Below.heap_alloc w _ k hk)⟩ (fun k hk => ?_)
 rcases hat with hat | hat
 ·exact .inl (hat ▸ hk)
 ·rw [hat] at hk
  injection hk with hk
  exact .inr (by rw [← hk]; simp)
theorem assert_debt (a b v : Int) (w : World) : (Instr.typeAssert (.iface 123 (.agg #[.int .i64 a, .int .i64 b, .int .i64 v])) 20 123 true).run Tryz.prog w = .ok (.tuple #[.agg #[.int .i64 a, .int .i64 b, .int .i64 v], .bool true]) w := by kernel_rfl
def PushPost (w : World) (B g : Nat) (A : Option Addr) (n c : Nat) (ys : List (Nat × Int)) (w' : World) : Prop :=
 ∃ A' c', Hp w' B g A' ys.length c' ys ∧ Kept w w' (Mine g A n c) ∧ (∀ k, (Value.slice A' ys.length c').ownBlock = some k → (Value.slice A n c).ownBlock = some k ∨ w.heap.size ≤ k)
theorem push_out {w W w' : World} {B g n c c' : Nat} {A A' : Option Addr} {xs : List (Nat × Int)} (x : Nat × Int) (hH : Hp W B g A n c xs) (hb : Below w.heap.size w W) (ho : OwnD w' B A' (n + 1) c' (HL xs ++ [hd x]))
  (hg : W.drew.grownBy w' (Value.slice A n c).ownBlock) (hat : ∀ k, (Value.slice A' (n + 1) c').ownBlock = some k → (Value.slice A n c).ownBlock = some k ∨ W.drew.heap.size ≤ k) (hbl : Blk w' g #[.slice A n c] 116) :
  PushPost w B g A n c (xs ++ [x]) (w'.setCell ⟨g, 0, none⟩ (.slice A' (n + 1) c')) := by
 have hl : (xs ++ [x]).length = n + 1 := by rw [List.length_append, hH.len]; rfl
 have hne : ∀ k, (Value.slice A' (n + 1) c').ownBlock = some k → k ≠ g := fun k hk => by
  rcases hat k hk with h1 | h1
  ·exact hH.ne k h1
  ·have h2 : W.heap.size ≤ k := h1
   have := hH.blk.lt
   omega
 refine ⟨A', c', ?_, ?_, ?_⟩
 ·rw [hl]
  refine ⟨by simpa using hbl.set 0 (.slice A' (n + 1) c'), ?_, hne⟩
  have e : HL (xs ++ [x]) = HL xs ++ [hd x] := by simp [HL]
  rw [e]
  exact ho.kept (hbl.grows 0 _) (fun q hq e => by injection e with e; exact hne q hq e.symm)
 ·have g2 := hbl.grows 0 (.slice A' (n + 1) c')
  refine ⟨g2.os.trans (hg.os.trans hb.os), g2.tape.trans (hg.tape.trans hb.tape), g2.output.trans (hg.output.trans hb.output), ?_, fun k hk hn => ?_⟩
  ·have h1 := hg.size
   have h2 : W.heap.size ≤ w'.heap.size := h1
   have h3 := hb.size
   rw [size_set]
   omega
  ·have h3 := hb.size
   have h4 : W.heap.size ≤ w'.heap.size := hg.size
   refine (g2.block k (by omega) (fun e => hn (.inl (Option.some.inj e)))).trans ((hg.block k (by show k < W.heap.size; omega) (fun e => hn (.inr e.symm))).trans (hb.block k hk))
 ·rw [hl]
  intro k hk
  rcases hat k hk with h1 | h1
  ·exact .inl h1
  ·have h2 : W.heap.size ≤ k := h1
   have := hb.size
   exact .inr (by omega)
theorem PushM_any (w : World) (B g n c : Nat) (A : Option Addr) (xs : List (Nat × Int)) (x : Nat × Int) (h : Hp w B g A n c xs) (hB : B ≤ w.heap.size) (hn : n ≤ 1000) :
  Calls Tryz.prog 261 #[.pointer (some ⟨g, 0, none⟩), .iface 123 (hd x).val] w fun e w' => (∃ v, e = .returned v) ∧ PushPost w B g A n c (xs ++ [x]) w' := by
 obtain ⟨p, v⟩ := x
 show Calls Tryz.prog 261 #[.pointer (some ⟨g, 0, none⟩), .iface 123 (.agg #[.int .i64 (p : Int), .int .i64 (p : Int), .int .i64 v])] w _
 obtain ⟨W, hW⟩ : ∃ W, w.alloc (.cells #[.int .i64 (p : Int), .int .i64 (p : Int), .int .i64 v] 123) = W := ⟨_, rfl⟩
 have hb : Below w.heap.size w W := by rw [← hW]; exact (Below.refl _ _).alloc (Nat.le_refl _) _
 have hHW := h.next hb
 have hbl : Blk W w.heap.size #[.int .i64 (p : Int), .int .i64 (p : Int), .int .i64 v] 123 := by rw [← hW]; exact Blk.new _ _ _
 have k0 := hHW.cell
 have d0 : W.cell? ⟨w.heap.size, 0, none⟩ = some (.int .i64 (p : Int)) := hbl.cell rfl
 have d1 : W.cell? ⟨w.heap.size, 1, none⟩ = some (.int .i64 (p : Int)) := hbl.cell rfl
 have d2 : W.cell? ⟨w.heap.size, 2, none⟩ = some (.int .i64 v) := hbl.cell rfl
 have f0 := hHW.blk.free 0
 have hlt := hHW.blk.lt
 have HH := Hd hHW
 have HBW := Hd hb
 have HW := Hd hW
 have HBB := Hd (show B ≤ W.drew.heap.size from Nat.le_trans hB hb.size)
 have hta := assert_debt p p v
 clear h hb hHW hbl hW
 go_enter Tryz.func261, Tryz.ntmps261
 go_wp2_with fail
 rw [HW.out]
 go_wp2_with fail
 go_region_law (refine step_app_h (w := W.drew) rfl _ _ rfl rfl HH.out.drew.own (hd (p, v)) _ rfl _ rfl (by omega) HBB.out ?_; intro A' c' w' ho' hg' hat'; have hbl' := HH.out.drew.blk.grown hg' (fun e => HH.out.ne g e.symm rfl); have k9 := hbl'.cell (j := 0) rfl; have f9 := hbl'.free 0; have HO' := Hd ho'; have HG' := Hd hg'; have HAT' := Hd hat'; have HBL' := Hd hbl'; clear ho' hg' hat' hbl')
 all_goals (refine bodyPost_end (results_none rfl _ _ _) rfl ?_)
 all_goals exact ⟨⟨_, rfl⟩, push_out (p, v) HH.out HBW.out HO'.out HG'.out HAT'.out HBL'.out⟩
theorem Hp.some_ {w : World} {B g n c : Nat} {A : Option Addr} {xs : List (Nat × Int)} (h : Hp w B g A n c xs) (hn : 0 < n) : ∃ r, A = some ⟨r, 0, none⟩ ∧ B ≤ r ∧ r < w.heap.size := by
 obtain ⟨r, cur, rfl, hb, hg, _⟩ := h.own.blk_ hn
 exact ⟨r, rfl, hb, hg.lt⟩
theorem hPush_any (w : World) (B g n c : Nat) (A : Option Addr) (xs : List (Nat × Int)) (x : Nat × Int) (h : Hp w B g A n c xs) (hB : B ≤ w.heap.size) (hn : n ≤ 4) :
  Calls Tryz.prog 115 #[.iface 162 (.pointer (some ⟨g, 0, none⟩)), .iface 123 (hd x).val] w fun e w' => (∃ v, e = .returned v) ∧ PushPost w B g A n c (Ta.upL 3 (xs ++ [x]) xs.length) w' := by
 have hl := h.len
 have HL := Hd hl
 have HH := Hd h
 obtain ⟨p, v⟩ := x
 show Calls Tryz.prog 115 #[.iface 162 (.pointer (some ⟨g, 0, none⟩)), .iface 123 (.agg #[.int .i64 (p : Int), .int .i64 (p : Int), .int .i64 v])] w _
 clear h hl
 go_enter Tryz.func115, Tryz.ntmps115
 go_wp2_with fail
 refine (PushM_any w B g n c A xs (p, v) HH.out hB (by omega)).mono ?_
 rintro e w1 ⟨⟨v1, rfl⟩, A', c', hH1, hK1, hat1⟩
 rw [show (xs ++ [(p, v)]).length = n + 1 from by rw [List.length_append, HL.out]; rfl] at hH1 hat1
 obtain ⟨r, rfl, hr0, hr1⟩ := hH1.some_ (by omega)
 have hcell := hH1.cell
 have ml := method_len g (n + 1) c' (some ⟨r, 0, none⟩)
 have HH1 := Hd hH1
 have HK1 := Hd hK1
 have HAT := Hd hat1
 clear hH1 hK1 hat1
 go_wp2_with fail
 refine (Len_any _ (n + 1) c' w1).mono ?_
 rintro e w2 ⟨rfl, rfl⟩
 go_wp2_with fail
 refine (up_any w1 B g (n + 1) c' r (xs ++ [(p, v)]) n 3 HH1.out (by omega) (by omega) (by omega)).mono ?_
 rintro e w3 ⟨⟨v3, rfl⟩, hH3, hG3⟩
 have hlen : (Ta.upL 3 (xs ++ [(p, v)]) n).length = n + 1 := by rw [Ta.upL_length, List.length_append, HL.out]; rfl
 have HP := Hd (show PushPost w B g A n c (Ta.upL 3 (xs ++ [(p, v)]) xs.length) w3 from by
  rw [HL.out]
  refine ⟨_, c', by rw [hlen]; exact hH3, ?_, by rw [hlen]; exact HAT.out⟩
  have hK := HK1.out
  refine ⟨hG3.os.trans hK.os, hG3.tape.trans hK.tape, hG3.output.trans hK.output, Nat.le_trans hK.size hG3.size, fun k hk hn => (hG3.block k (Nat.lt_of_lt_of_le hk hK.size) (fun e => ?_)).trans (hK.block k hk hn)⟩
  have e : k = r := Option.some.inj e
  subst e
  rcases HAT.out k rfl with h1 | h1
  ·exact hn (.inr h1)
  ·omega)
 clear hH3 hG3 hlen
 go_wp2
 refine bodyPost_end (results_none rfl _ _ _) rfl ⟨⟨_, rfl⟩, HP.out⟩
theorem OwnD.init {w : World} {B n c g : Nat} {ds : List Db} {d : Db} (h : OwnD w B (some ⟨g, 0, none⟩) (n + 1) c (ds ++ [d])) : OwnD w B (some ⟨g, 0, none⟩) n c ds := by
 have hl := h.dbs.len
 have hl2 : ds.length = n := by simpa using hl
 refine ⟨⟨by rw [DV_length, hl2], ?_⟩, by have := h.2; omega⟩
 rcases h.1.2 with ⟨h1, _⟩ | ⟨g', cap, cur, hv, hb, hg, h1, h2, h3, h4⟩
 ·cases h1
 ·injection hv with e1 e2 e3
  subst e3
  refine .inr ⟨g', c, cur, by rw [e1], hb, hg, by omega, h2, h3, ?_⟩
  have := congrArg (List.take (n * 3)) h4
  rw [List.take_take, DV_append, List.take_left' (by rw [DV_length, hl2])] at this
  rw [← this, Nat.min_eq_left (by omega)]
def PopPost (w : World) (B g r n c : Nat) (ys : List (Nat × Int)) (w' : World) : Prop := Hp w' B g (some ⟨r, 0, none⟩) n c ys ∧ Kept w w' (fun k => k = g ∨ k = r)
theorem pop_out {w : World} {B g r n c : Nat} {ys : List (Nat × Int)} {z : Nat × Int} {o : Obj} (h : Hp w B g (some ⟨r, 0, none⟩) (n + 1) c (ys ++ [z])) (ho : OwnD w B (some ⟨r, 0, none⟩) n c (HL ys)) :
  PopPost w B g r n c ys ((w.setCell ⟨g, 0, none⟩ (.slice (some ⟨r, 0, none⟩) n c)).alloc o) := by
 have g2 := h.blk.grows 0 (.slice (some ⟨r, 0, none⟩) n c)
 have hrg : r ≠ g := h.ne r rfl
 refine ⟨⟨?_, ?_, fun k hk => h.ne k hk⟩, ?_⟩
 ·have := (h.blk.set 0 (.slice (some ⟨r, 0, none⟩) n c)).alloc o
  simpa using this
 ·exact (ho.kept g2 (fun q hq e => by injection e with e; injection hq with hq; exact hrg (hq.trans e.symm))).alloc o
 ·refine ⟨g2.os, g2.tape, g2.output, by rw [World.size_alloc, size_set]; omega, fun k hk hn => ?_⟩
  exact (Below.heap_alloc _ _ k (by rw [size_set]; exact hk)).trans (g2.block k hk (fun e => hn (.inl (Option.some.inj e))))
theorem PopM_any (w : World) (B g r n c : Nat) (ys : List (Nat × Int)) (z : Nat × Int) (h : Hp w B g (some ⟨r, 0, none⟩) (n + 1) c (ys ++ [z])) (hn : n ≤ 1000) :
  Calls Tryz.prog 260 #[.pointer (some ⟨g, 0, none⟩)] w fun e w' => e = .returned (.iface 123 (hd z).val) ∧ PopPost w B g r n c ys w' := by
 have hl : ys.length = n := by have := h.len; simpa using this
 have hz : (ys ++ [z])[n]? = some z := by rw [List.getElem?_append_right (by omega), hl]; simp
 obtain ⟨k0, k1, k2⟩ := h.own.cell3 (HL_get hz)
 obtain ⟨p, v⟩ := z
 simp only [hd] at k0 k1 k2
 have hc := h.cell
 have f0 := h.blk.free 0
 have hlt := h.blk.lt
 have hcap := h.own.cap
 have ho : OwnD w B (some ⟨r, 0, none⟩) n c (HL ys) := by
  have := h.own
  rw [show HL (ys ++ [(p, v)]) = HL ys ++ [hd (p, v)] from by simp [HL]] at this
  exact this.init
 have HO := Hd ho
 have HH := Hd h
 clear h hl hz ho
 show Calls Tryz.prog 260 #[.pointer (some ⟨g, 0, none⟩)] w fun e w' => e = .returned (.iface 123 (.agg #[.int .i64 (p : Int), .int .i64 (p : Int), .int .i64 v])) ∧ PopPost w B g r n c ys w'
 go_enter Tryz.func260, Tryz.ntmps260
 go_wp2_with fail
 go_ret
 exact ⟨rfl, pop_out (o := .cells #[.int .i64 (p : Int), .int .i64 (p : Int), .int .i64 v] 123) HH.out HO.out⟩
theorem hPop_any (w : World) (B g r n c : Nat) (x : Nat × Int) (xs : List (Nat × Int)) (h : Hp w B g (some ⟨r, 0, none⟩) (n + 1) c (x :: xs)) (hh : Ta.Heap (x :: xs)) (hn : n ≤ 4) :
  Calls Tryz.prog 116 #[.iface 162 (.pointer (some ⟨g, 0, none⟩))] w fun e w' => (∃ v, e = .returned v) ∧ ∃ ys, Ta.Heap ys ∧ ys.Perm xs ∧ PopPost w B g r n c ys w' := by
 have hl : xs.length = n := by have := h.len; simpa using this
 obtain ⟨ys, e1, hy, hp, hyl⟩ := Ta.down_ok x xs hh
 rw [hl] at e1
 obtain ⟨z, hz⟩ : ∃ z, (x :: xs)[n]? = some z := ⟨_, List.getElem?_eq_getElem (by simp; omega)⟩
 have hc := h.cell
 have ml := method_len g (n + 1) c (some ⟨r, 0, none⟩)
 have ms := method_swap g (n + 1) c (some ⟨r, 0, none⟩)
 have HH := Hd h
 have HZ := Hd hz
 have HE := Hd e1
 have HY := Hd (And.intro hy hp)
 clear h hh hl hz e1 hy hp hyl
 go_enter Tryz.func116, Tryz.ntmps116
 go_wp2_with fail
 refine (Len_any _ (n + 1) c w).mono ?_
 rintro e w1 ⟨rfl, rfl⟩
 go_wp2_with fail
 refine (Swap_any r (n + 1) c B (x :: xs) 0 n x z w HH.out.own rfl HZ.out).mono ?_
 rintro e w2 ⟨⟨v2, rfl⟩, hO2, hG2⟩
 have hH2 : Hp w2 B g (some ⟨r, 0, none⟩) (n + 1) c (Ta.swapL (x :: xs) 0 n) := ⟨HH.out.blk.grown hG2 (by intro e; injection e with e; exact HH.out.ne r rfl e.symm), hO2, HH.out.ne⟩
 have HH2 := Hd hH2
 have HG2 := Hd hG2
 clear hO2 hG2 hH2
 go_wp2_with fail
 refine (down_any w2 B g (n + 1) c r (Ta.swapL (x :: xs) 0 n) n 3 HH2.out (by omega) (by omega) (by omega)).mono ?_
 rintro e w3 ⟨⟨v3, rfl⟩, hH3, hG3⟩
 rw [HE.out] at hH3
 have HH3 := Hd hH3
 have HG3 := Hd hG3
 clear hH3 hG3
 go_wp2_with fail
 refine (PopM_any w3 B g r n c ys x HH3.out (by omega)).mono ?_
 rintro e w4 ⟨rfl, hP⟩
 have HP := Hd (show PopPost w B g r n c ys w4 from ⟨hP.1, ((Kept.of_grown (HG2.out.then_ HG3.out (fun k hk => .inr hk))).mono (fun k _ hk => .inr (by injection hk with hk; exact hk.symm))).trans (hP.2.mono (fun k _ hk => hk))⟩)
 clear hP
 go_wp2
 go_ret
 exact ⟨⟨_, rfl⟩, ys, HY.out.1, HY.out.2, HP.out⟩
theorem heap_take_any (w : World) (B g r n c : Nat) (x : Nat × Int) (xs : List (Nat × Int)) (h : Hp w B g (some ⟨r, 0, none⟩) (n + 1) c (x :: xs)) (hh : Ta.Heap (x :: xs)) (hn : n ≤ 4) :
  Calls Tryz.prog 83 #[.pointer (some ⟨g, 0, none⟩)] w fun e w' => e = .returned (hd x).val ∧ ∃ ys, Ta.Heap ys ∧ ys.Perm xs ∧ PopPost w B g r n c ys w' := by
 obtain ⟨p, v⟩ := x
 show Calls Tryz.prog 83 #[.pointer (some ⟨g, 0, none⟩)] w fun e w' => e = .returned (.agg #[.int .i64 (p : Int), .int .i64 (p : Int), .int .i64 v]) ∧ _
 obtain ⟨k0, k1, k2⟩ := h.own.cell3 (i := 0) (d := hd (p, v)) rfl
 simp only [Nat.zero_mul, Nat.zero_add, hd] at k0 k1 k2
 have hc := h.cell
 have hlt := h.blk.lt
 have hrl : r < w.heap.size := (h.own.blk r rfl).2
 obtain ⟨W, hW⟩ : ∃ W, (w.alloc (.cells #[.int .i64 0, .int .i64 0, .int .i64 0] 123)).alloc (.cells #[.int .i64 (p : Int), .int .i64 (p : Int), .int .i64 v] 123) = W := ⟨_, rfl⟩
 have hb : Below w.heap.size w W := by rw [← hW]; exact ((Below.refl _ _).alloc (Nat.le_refl _) _).alloc (by simp) _
 have hHW := h.next hb
 have hsz : W.heap.size = w.heap.size + 2 := by rw [← hW]; simp
 have hb2 : Blk W w.heap.size #[.int .i64 0, .int .i64 0, .int .i64 0] 123 := by rw [← hW]; exact (Blk.new _ _ _).alloc _
 have hb3 : Blk W (w.heap.size + 1) #[.int .i64 (p : Int), .int .i64 (p : Int), .int .i64 v] 123 := by
  rw [← hW]
  have := Blk.new (w.alloc (.cells #[.int .i64 0, .int .i64 0, .int .i64 0] 123)) #[.int .i64 (p : Int), .int .i64 (p : Int), .int .i64 v] 123
  simpa using this
 have HH := Hd hHW
 have HBW := Hd hb
 have HW := Hd hW
 have HB2 := Hd hb2
 have HB3 := Hd hb3
 have HSZ := Hd hsz
 have HHP := Hd hh
 clear h hb hHW hb2 hb3 hsz hW hh
 go_enter Tryz.func83, Tryz.ntmps83
 go_wp2_with fail
 rw [HW.out]
 refine (hPop_any W B g r n c (p, v) xs HH.out HHP.out hn).mono ?_
 rintro e w3 ⟨⟨v3, rfl⟩, ys, hy, hp, hP⟩
 have hsz := HSZ.out
 have q2 := HB2.out.keep (hP.2.block w.heap.size (by omega) (by rintro (e | e) <;> omega))
 have q3 := HB3.out.keep (hP.2.block (w.heap.size + 1) (by omega) (by rintro (e | e) <;> omega))
 have m0 : w3.cell? ⟨w.heap.size, 0, none⟩ = some (.int .i64 0) := q2.cell rfl
 have m1 : w3.cell? ⟨w.heap.size, 1, none⟩ = some (.int .i64 0) := q2.cell rfl
 have m2 : w3.cell? ⟨w.heap.size, 2, none⟩ = some (.int .i64 0) := q2.cell rfl
 have f0 := q2.free 0
 have f1 := q2.free 1
 have f2 := q2.free 2
 have l0 : w3.cell? ⟨w.heap.size + 1, 0, none⟩ = some (.int .i64 (p : Int)) := q3.cell rfl
 have l1 : w3.cell? ⟨w.heap.size + 1, 1, none⟩ = some (.int .i64 (p : Int)) := q3.cell rfl
 have l2 : w3.cell? ⟨w.heap.size + 1, 2, none⟩ = some (.int .i64 v) := q3.cell rfl
 have HP := Hd hP
 have HY := Hd (And.intro hy hp)
 have HQ2 := Hd q2
 clear hP hy hp q2 q3 hsz k0 k1 k2 hc
 go_wp2_with fail
 have hf := HQ2.out.set3 (.int .i64 (p : Int)) (.int .i64 (p : Int)) (.int .i64 v)
 have g0 := hf.cell (j := 0) rfl
 have g1 := hf.cell (j := 1) rfl
 have g2 := hf.cell (j := 2) rfl
 refine bodyPost_ret (v := .agg #[.int .i64 (p : Int), .int .i64 (p : Int), .int .i64 v]) (by simp [results, Tryz.results83, go_sem, g0, g1, g2]) rfl ⟨rfl, ys, HY.out.1, HY.out.2, ?_⟩
 have gg := grown_set3 w3 w.heap.size 0 1 2 (.int .i64 (p : Int)) (.int .i64 (p : Int)) (.int .i64 v)
 have hK := HP.out.2
 have hsz := HSZ.out
 refine ⟨HP.out.1.kept (Kept.of_grown gg) (fun e => by injection e with e; omega) (fun k hk e => by have hk : (some r : Option Nat) = some k := hk; injection hk with hk; injection e with e; omega), ?_⟩
 refine ⟨gg.os.trans (hK.os.trans HBW.out.os), gg.tape.trans (hK.tape.trans HBW.out.tape), gg.output.trans (hK.output.trans HBW.out.output), Nat.le_trans HBW.out.size (Nat.le_trans hK.size gg.size), fun k hk hn => ?_⟩
 exact (gg.block k (Nat.lt_of_lt_of_le (by omega) hK.size) (fun e => by injection e with e; omega)).trans ((hK.block k (by omega) hn).trans (HBW.out.block k hk))
def PutPost (w : World) (B g : Nat) (A : Option Addr) (n c : Nat) (xs : List (Nat × Int)) (x : Nat × Int) (w' : World) : Prop :=
 PushPost w B g A n c (if 0 < x.2 then Ta.upL 3 (xs ++ [x]) xs.length else xs) w'
theorem put_any (w : World) (B g n c : Nat) (A : Option Addr) (xs : List (Nat × Int)) (x : Nat × Int) (h : Hp w B g A n c xs) (hB : B ≤ w.heap.size) (hn : n ≤ 4) :
  Calls Tryz.prog 82 #[.pointer (some ⟨g, 0, none⟩), (hd x).val] w fun e w' => (∃ v, e = .returned v) ∧ PutPost w B g A n c xs x w' := by
 have hl := h.len
 obtain ⟨p, v⟩ := x
 show Calls Tryz.prog 82 #[.pointer (some ⟨g, 0, none⟩), .agg #[.int .i64 (p : Int), .int .i64 (p : Int), .int .i64 v]] w _
 obtain ⟨W, hW⟩ : ∃ W, w.alloc (.cells #[.int .i64 (p : Int), .int .i64 (p : Int), .int .i64 v] 123) = W := ⟨_, rfl⟩
 have hb : Below w.heap.size w W := by rw [← hW]; exact (Below.refl _ _).alloc (Nat.le_refl _) _
 have hHW := h.next hb
 have hsz : W.heap.size = w.heap.size + 1 := by rw [← hW]; simp
 have hbl : Blk W w.heap.size #[.int .i64 (p : Int), .int .i64 (p : Int), .int .i64 v] 123 := by rw [← hW]; exact Blk.new _ _ _
 have d0 : W.cell? ⟨w.heap.size, 0, none⟩ = some (.int .i64 (p : Int)) := hbl.cell rfl
 have d1 : W.cell? ⟨w.heap.size, 1, none⟩ = some (.int .i64 (p : Int)) := hbl.cell rfl
 have d2 : W.cell? ⟨w.heap.size, 2, none⟩ = some (.int .i64 v) := hbl.cell rfl
 have HH := Hd hHW
 have H0 := Hd h
 have HBW := Hd hb
 have HW := Hd hW
 have HL := Hd hl
 clear h hb hHW hbl hW hl
 by_cases hv : 0 < v
 ·have HPP := Hd (show ∀ w', PushPost W B g A n c (Ta.upL 3 (xs ++ [(p, v)]) xs.length) w' → PutPost w B g A n c xs (p, v) w' from fun w' hP => by
   rw [PutPost, if_pos hv]
   obtain ⟨A', c', h1, h2, h3⟩ := hP
   refine ⟨A', c', h1, ⟨h2.os.trans HBW.out.os, h2.tape.trans HBW.out.tape, h2.output.trans HBW.out.output, Nat.le_trans HBW.out.size h2.size, fun k hk hn => (h2.block k (by omega) hn).trans (HBW.out.block k hk)⟩, fun k hk => ?_⟩
   rcases h3 k hk with h | h
   ·exact .inl h
   ·exact .inr (by omega))
  have hB' : B ≤ W.heap.size := by omega
  clear hsz
  go_enter Tryz.func82, Tryz.ntmps82
  go_wp2_with fail
  rw [HW.out]
  go_wp2_with fail
  refine (hPush_any W B g n c A xs (p, v) HH.out hB' hn).mono ?_
  rintro e w3 ⟨⟨v3, rfl⟩, hP⟩
  have HP := Hd (HPP.out w3 hP)
  clear hP
  go_wp2
  refine bodyPost_end (results_none rfl _ _ _) rfl ⟨⟨_, rfl⟩, HP.out⟩
 ·have HPP := Hd (show PutPost w B g A n c xs (p, v) W from by
   rw [PutPost, if_neg hv]
   refine ⟨A, c, by rw [HL.out]; exact HH.out, ⟨HBW.out.os, HBW.out.tape, HBW.out.output, HBW.out.size, fun k hk _ => HBW.out.block k hk⟩, fun k hk => .inl (by rw [← HL.out]; exact hk)⟩)
  clear hsz
  go_enter Tryz.func82, Tryz.ntmps82
  go_wp2_with fail
  rw [HW.out]
  go_wp2
  refine bodyPost_end (results_none rfl _ _ _) rfl ⟨⟨_, rfl⟩, HPP.out⟩
def okB (t : Tl) : Bool := matchB t && decide (1 ≤ worthB t.s)
def okL (ts : List Tl) : Bool := decide (ts.length ≤ 12) && ts.all okB
def debtOf (t : Tl) : Db := ⟨t.a, t.c, worthB t.s⟩
def Small (ts : List Tl) : Prop := ∀ t ∈ ts, t.s.size ≤ 1099511627776 ∧ t.f.size ≤ 1099511627776
def DebtsPost (w : World) (n : Nat) (ts : List Tl) (e : Ending) (w' : World) : Prop :=
 ((okL ts = true ∧ ∃ A c, e = .returned (.tuple #[.slice A n c, .bool true]) ∧ OwnD w' w.heap.size A n c (ts.map debtOf)) ∨ (okL ts = false ∧ e = .returned (.tuple #[.slice none 0 0, .bool false]))) ∧ Below w.heap.size w w'
theorem okL_no {ts : List Tl} {k : Nat} {t : Tl} (h : ts[k]? = some t) (ht : okB t = false) : okL ts = false := by
 unfold okL
 have : ts.all okB = false := by
  cases hb : ts.all okB with
  | false => rfl
  | true => have := List.all_eq_true.1 hb t (List.mem_of_getElem? h); rw [ht] at this; cases this
 rw [this]; simp
theorem debtsOf_any (A : Option Addr) (n c : Nat) (ts : List Tl) (w : World) (hr : Tals w w.heap.size A n ts) (hsm : Small ts) : Calls Tryz.prog 80 #[.slice A n c] w (DebtsPost w n ts) := by
 have hl := hr.len
 by_cases h12 : n ≤ 12
 ·have HL := Hd hl
  have HR := Hd hr
  have HSM := Hd hsm
  have hn : ¬ (n : Int) > 12 := by omega
  clear hr hl hsm
  go_enter Tryz.func80, Tryz.ntmps80
  go_wp2_with (refine wpList_make_d rfl _ _ rfl (B := w.heap.size) (n : Int) rfl rfl rfl (by omega) (Nat.le_refl _) ?_; intro w1 hown hg)
  go_loopw [4, 16] (fun sv iv wr => ∃ (k c' : Nat) (A' : Option Addr), k ≤ n ∧ iv = .int .i64 (k : Int) ∧ sv = .slice A' k c' ∧ OwnD wr w.heap.size A' k c' ((ts.take k).map debtOf) ∧ Below w.heap.size w wr ∧ (∀ t ∈ ts.take k, okB t = true)) (fun _ iv _ => n - (intOf iv).toNat)
  case atStart => exact ⟨0, n, _, by omega, rfl, rfl, by simpa [DV] using hown, grown_below hg (Nat.le_refl _) (by simp), by simp⟩
  case round =>
   obtain ⟨k, c', A', hk, rfl, rfl, ho, hb, hok⟩ := hrel
   have HO := Hd ho
   have HB := Hd hb
   have HOK := Hd hok
   clear ho hb hok hown hg
   by_cases hlt : k < n
   ·obtain ⟨b, off, t, rfl, hlb, ht, k0, k1, k2, k3⟩ := Tals.at_ (show Tals wr w.heap.size A n ts from HR.out.below HB.out) hlt
    have HT := Hd ht
    have hts := HSM.out t (List.mem_of_getElem? ht)
    obtain ⟨a, cc, s, f⟩ := t
    simp only at k0 k1 k2 k3 hts
    obtain ⟨W, hW⟩ : ∃ W, wr.alloc (.cells #[.int .i64 a, .int .i64 cc, .string s, .string f] 52) = W := ⟨_, rfl⟩
    have hbW : Below wr.heap.size wr W := by rw [← hW]; exact (Below.refl _ _).alloc (Nat.le_refl _) _
    have hbl : Blk W wr.heap.size #[.int .i64 a, .int .i64 cc, .string s, .string f] 52 := by rw [← hW]; exact Blk.new _ _ _
    have m2 : W.cell? ⟨wr.heap.size, 2, none⟩ = some (.string s) := hbl.cell rfl
    have HW := Hd hW
    have HBL := Hd hbl
    have HBW := Hd hbW
    clear hW hbl hbW ht
    go_wp2_with fail
    rw [HW.out]
    go_wp2_with fail
    refine (NotchesWorth_any s W hts.1).mono ?_
    rintro e w2 ⟨rfl, hb2⟩
    have hbl2 := HBL.out.next hb2
    have p0 : w2.cell? ⟨wr.heap.size, 0, none⟩ = some (.int .i64 a) := hbl2.cell rfl
    have p1 : w2.cell? ⟨wr.heap.size, 1, none⟩ = some (.int .i64 cc) := hbl2.cell rfl
    have p2 : w2.cell? ⟨wr.heap.size, 2, none⟩ = some (.string s) := hbl2.cell rfl
    have p3 : w2.cell? ⟨wr.heap.size, 3, none⟩ = some (.string f) := hbl2.cell rfl
    have HBL2 := Hd hbl2
    have HB2 := Hd (below_chain HBW.out hb2)
    clear hbl2 hb2 m2 k0 k1 k2 k3
    go_wp2_with fail
    refine (TallyMatches_any ⟨a, cc, s, f⟩ w2 hts.1).mono ?_
    rintro e w3 ⟨rfl, hb3⟩
    have hbl3 := HBL2.out.next hb3
    have q0 : w3.cell? ⟨wr.heap.size, 0, none⟩ = some (.int .i64 a) := hbl3.cell rfl
    have q1 : w3.cell? ⟨wr.heap.size, 1, none⟩ = some (.int .i64 cc) := hbl3.cell rfl
    have HB3 := Hd (below_chain HB2.out hb3)
    clear hb3 hbl3 p0 p1 p2 p3
    obtain ⟨v, hv⟩ : ∃ v, worthB s = v := ⟨_, rfl⟩
    have HV := Hd hv
    rw [hv]
    rcases hm : matchB ⟨a, cc, s, f⟩ with _ | _
    ·have HNO := Hd (okL_no HT.out (by simp [okB, hm]))
     clear hm hv
     go_wp2
     go_ret2
     exact ⟨.inr ⟨HNO.out, rfl⟩, HB.out.trans (HB3.out.mono HB.out.size)⟩
    ·by_cases h1 : v < 1
     ·have HNO := Hd (okL_no HT.out (by simp [okB, hv]; intro _; omega))
      clear hm hv
      go_wp2
      go_ret2
      exact ⟨.inr ⟨HNO.out, rfl⟩, HB.out.trans (HB3.out.mono HB.out.size)⟩
     ·have HYES := Hd (show okB ⟨a, cc, s, f⟩ = true by simp [okB, hm, hv]; omega)
      clear hm hv
      go_wp2_with (refine wpList_app_d rfl _ _ rfl rfl (HO.out.next HB3.out) ⟨a, cc, v⟩ _ rfl _ rfl (by omega) (Nat.le_trans HB.out.size HB3.out.size) ?_; intro A2 c2 w4 ho4 hg4)
      refine ⟨⟨k + 1, c2, A2, by omega, by go_num, rfl, ?_, ?_, ?_⟩, ?_⟩
      ·rw [take_next HT.out, List.map_append]
       simp only [List.map_cons, List.map_nil, debtOf]
       rw [HV.out]
       exact ho4
      ·exact (HB.out.trans (HB3.out.mono HB.out.size)).grown hg4 (Nat.le_trans HB.out.size HB3.out.size) (fun q hq => (HO.out.blk q hq).1)
      ·rw [take_next HT.out]
       intro u hu
       rcases List.mem_append.1 hu with h | h
       ·exact HOK.out u h
       ·obtain rfl := List.mem_singleton.1 h
        exact HYES.out
      ·simp [intOf]
       omega
   ·obtain rfl : k = n := by omega
    have HYES := Hd (show okL ts = true by
     have h := HOK.out
     rw [List.take_of_length_le (by have := HL.out; omega)] at h
     simp only [okL, Bool.and_eq_true, decide_eq_true_eq, List.all_eq_true]
     exact ⟨by have := HL.out; omega, h⟩)
    go_wp2
    go_ret2
    refine ⟨.inl ⟨HYES.out, A', c', rfl, ?_⟩, HB.out⟩
    have := HO.out
    rwa [List.take_of_length_le (by have := HL.out; omega)] at this
 ·have hno : okL ts = false := by simp [okL]; omega
  have hn : (n : Int) > 12 := by omega
  go_enter Tryz.func80, Tryz.ntmps80
  go_wp2
  go_ret2
  exact ⟨.inr ⟨hno, rfl⟩, Below.refl _ _⟩
def upd (b : List Int) (d : Db) : List Int := (b.set d.a.toNat (b.getD d.a.toNat 0 - d.v)).set d.c.toNat ((b.set d.a.toNat (b.getD d.a.toNat 0 - d.v)).getD d.c.toNat 0 + d.v)
def bal (ds : List Db) : List Int := ds.foldl upd [0, 0, 0, 0, 0]
def Fair (ds : List Db) : Prop := ds.length ≤ 12 ∧ ∀ d ∈ ds, Two d.a d.c ∧ 0 ≤ d.v ∧ d.v ≤ 36000
theorem upd_length (b : List Int) (d : Db) : (upd b d).length = b.length := by simp [upd]
theorem bal_length (ds : List Db) : (bal ds).length = 5 := by
 unfold bal
 suffices h : ∀ (ds : List Db) (b : List Int), b.length = 5 → (ds.foldl upd b).length = 5 from h ds _ rfl
 intro ds
 induction ds with
 | nil => intro b h; exact h
 | cons d ds ih => intro b h; exact ih _ (by rw [upd_length, h])
def five (b : List Int) : Array Value := (IV b).toArray
def Fresh (k : ByteArray) (es : List MapEntry) : Prop := Instr.findNow .string (.string k) es 0 = some none
theorem push_set (a : Array Obj) (o o' : Obj) : (a.push o).setIfInBounds a.size o' = a.push o' := by
 apply Array.ext'
 simp
theorem alloc_set (w : World) (o o' : Obj) : { (w.alloc o) with heap := (w.alloc o).heap.setIfInBounds w.heap.size o' } = w.alloc o' := by
 show ({ w with heap := (w.heap.push o).setIfInBounds w.heap.size o' } : World) = { w with heap := w.heap.push o' }
 rw [push_set]
theorem run_insert (w : World) (es : Array MapEntry) (cl : Nat) (k : ByteArray) (v : Value) (hf : Fresh k es.toList) :
  (Instr.mapUpdate 177 (.map (some w.heap.size)) (.string k) v).run Tryz.prog (w.alloc (.map es cl)) = .ok () (w.alloc (.map (es.push { key := .string k, val := v, born := cl }) (cl + 1))) := by
 have hb : (w.alloc (.map es cl)).heap[w.heap.size]? = some (.map es cl) := by unfold World.alloc; simp
 have hf' : Instr.findNow .string (.string k) es.toList 0 = some none := hf
 have hc : (Instr.checkKey false 10000 9 (.string k)).run Tryz.prog (w.alloc (.map es cl)) = .ok () (w.alloc (.map es cl)) := MapKept.run_checkKey (k := .string k) Tryz.underlying9 (by simp [MapKept.IsKey]) false 9999
 simp [Instr.mapUpdate, run_underlying Tryz.underlying177, MapKept.run_getObj_map hb, hc, MapKept.run_findKey Tryz.underlying9 hf', MapKept.run_setObj_map _ hb, Result.andThen]
 exact alloc_set w (.map es cl) _
theorem run_lookup_is (w : World) (r : Nat) (es : Array MapEntry) (cl : Nat) (hb : w.heap[r]? = some (.map es cl)) (k : ByteArray) (i : Nat) (v : Value) (hf : Instr.findNow .string (.string k) es.toList 0 = some (some (i, v))) :
  (Instr.lookup 177 (.map (some r)) (.string k) true).run Tryz.prog w = .ok (.tuple #[v, .bool true]) w := by
 have hc : (Instr.checkKey es.isEmpty 10000 9 (.string k)).run Tryz.prog w = .ok () w := MapKept.run_checkKey (k := .string k) Tryz.underlying9 (by simp [MapKept.IsKey]) _ 9999
 simp [Instr.lookup, run_underlying Tryz.underlying177, MapKept.run_getObj_map hb, hc, MapKept.run_findKey Tryz.underlying9 hf, Result.andThen]
theorem zero_cmd (w : World) : (zeroValue 139).run Tryz.prog w = .ok (.agg #[.int .i64 0, .nilFunc]) w := by kernel_rfl
theorem run_lookup_none (w : World) (r : Nat) (es : Array MapEntry) (cl : Nat) (hb : w.heap[r]? = some (.map es cl)) (k : ByteArray) (hf : Fresh k es.toList) :
  (Instr.lookup 177 (.map (some r)) (.string k) true).run Tryz.prog w = .ok (.tuple #[.agg #[.int .i64 0, .nilFunc], .bool false]) w := by
 have hf' : Instr.findNow .string (.string k) es.toList 0 = some none := hf
 have hc : (Instr.checkKey es.isEmpty 10000 9 (.string k)).run Tryz.prog w = .ok () w := MapKept.run_checkKey (k := .string k) Tryz.underlying9 (by simp [MapKept.IsKey]) _ 9999
 simp [Instr.lookup, run_underlying Tryz.underlying177, MapKept.run_getObj_map hb, hc, MapKept.run_findKey Tryz.underlying9 hf', zero_cmd, Result.andThen]
def cmds : List (List UInt8 × Nat × Nat) :=
  [([108, 97, 121], 1, 156),
   ([114, 101, 100, 117, 99, 101], 0, 157),
   ([114, 97, 105, 115, 101], 1, 158),
   ([98, 111, 97, 114, 100], 0, 159),
   ([118, 97, 108, 117, 101], 0, 160),
   ([97, 100, 100], 1, 161),
   ([116, 97, 107, 101], 1, 162),
   ([102, 114, 97, 109, 101], 0, 163),
   ([116, 105, 109, 101, 115], 2, 164),
   ([100, 111, 117, 98, 108, 101], 2, 165),
   ([117, 110, 105, 116, 115], 2, 166),
   ([111, 119, 101], 3, 167),
   ([115, 101, 116, 116, 108, 101], 0, 168),
   ([116, 97, 108, 108, 105, 101, 115], 0, 169),
   ([114, 111, 111, 116], 1, 170)]
def entryOf (x : (List UInt8 × Nat × Nat) × Nat) : MapEntry := { key := .string ⟨x.1.1.toArray⟩, val := .agg #[.int .i64 (x.1.2.1 : Int), .func (.func x.1.2.2) #[] #[]], born := x.2 }
def E (m : Nat) : Array MapEntry := ((cmds.take m).zipIdx.map entryOf).toArray
theorem ins0 (w : World) : (Instr.mapUpdate 177 (.map (some w.heap.size)) (.string ⟨#[108, 97, 121]⟩) (.agg #[.int .i64 1, .func (.func 156) #[] #[]])).run Tryz.prog (w.alloc (.map (E 0) 0)) = .ok () (w.alloc (.map (E 1) 1)) :=
 run_insert w (E 0) 0 ⟨#[108, 97, 121]⟩ _ (by unfold Fresh; rfl)
theorem ins1 (w : World) : (Instr.mapUpdate 177 (.map (some w.heap.size)) (.string ⟨#[114, 101, 100, 117, 99, 101]⟩) (.agg #[.int .i64 0, .func (.func 157) #[] #[]])).run Tryz.prog (w.alloc (.map (E 1) 1)) = .ok () (w.alloc (.map (E 2) 2)) :=
 run_insert w (E 1) 1 ⟨#[114, 101, 100, 117, 99, 101]⟩ _ (by unfold Fresh; rfl)
theorem ins2 (w : World) : (Instr.mapUpdate 177 (.map (some w.heap.size)) (.string ⟨#[114, 97, 105, 115, 101]⟩) (.agg #[.int .i64 1, .func (.func 158) #[] #[]])).run Tryz.prog (w.alloc (.map (E 2) 2)) = .ok () (w.alloc (.map (E 3) 3)) :=
 run_insert w (E 2) 2 ⟨#[114, 97, 105, 115, 101]⟩ _ (by unfold Fresh; rfl)
theorem ins3 (w : World) : (Instr.mapUpdate 177 (.map (some w.heap.size)) (.string ⟨#[98, 111, 97, 114, 100]⟩) (.agg #[.int .i64 0, .func (.func 159) #[] #[]])).run Tryz.prog (w.alloc (.map (E 3) 3)) = .ok () (w.alloc (.map (E 4) 4)) :=
 run_insert w (E 3) 3 ⟨#[98, 111, 97, 114, 100]⟩ _ (by unfold Fresh; rfl)
theorem ins4 (w : World) : (Instr.mapUpdate 177 (.map (some w.heap.size)) (.string ⟨#[118, 97, 108, 117, 101]⟩) (.agg #[.int .i64 0, .func (.func 160) #[] #[]])).run Tryz.prog (w.alloc (.map (E 4) 4)) = .ok () (w.alloc (.map (E 5) 5)) :=
 run_insert w (E 4) 4 ⟨#[118, 97, 108, 117, 101]⟩ _ (by unfold Fresh; rfl)
theorem ins5 (w : World) : (Instr.mapUpdate 177 (.map (some w.heap.size)) (.string ⟨#[97, 100, 100]⟩) (.agg #[.int .i64 1, .func (.func 161) #[] #[]])).run Tryz.prog (w.alloc (.map (E 5) 5)) = .ok () (w.alloc (.map (E 6) 6)) :=
 run_insert w (E 5) 5 ⟨#[97, 100, 100]⟩ _ (by unfold Fresh; rfl)
theorem ins6 (w : World) : (Instr.mapUpdate 177 (.map (some w.heap.size)) (.string ⟨#[116, 97, 107, 101]⟩) (.agg #[.int .i64 1, .func (.func 162) #[] #[]])).run Tryz.prog (w.alloc (.map (E 6) 6)) = .ok () (w.alloc (.map (E 7) 7)) :=
 run_insert w (E 6) 6 ⟨#[116, 97, 107, 101]⟩ _ (by unfold Fresh; rfl)
theorem ins7 (w : World) : (Instr.mapUpdate 177 (.map (some w.heap.size)) (.string ⟨#[102, 114, 97, 109, 101]⟩) (.agg #[.int .i64 0, .func (.func 163) #[] #[]])).run Tryz.prog (w.alloc (.map (E 7) 7)) = .ok () (w.alloc (.map (E 8) 8)) :=
 run_insert w (E 7) 7 ⟨#[102, 114, 97, 109, 101]⟩ _ (by unfold Fresh; rfl)
theorem ins8 (w : World) : (Instr.mapUpdate 177 (.map (some w.heap.size)) (.string ⟨#[116, 105, 109, 101, 115]⟩) (.agg #[.int .i64 2, .func (.func 164) #[] #[]])).run Tryz.prog (w.alloc (.map (E 8) 8)) = .ok () (w.alloc (.map (E 9) 9)) :=
 run_insert w (E 8) 8 ⟨#[116, 105, 109, 101, 115]⟩ _ (by unfold Fresh; rfl)
theorem ins9 (w : World) : (Instr.mapUpdate 177 (.map (some w.heap.size)) (.string ⟨#[100, 111, 117, 98, 108, 101]⟩) (.agg #[.int .i64 2, .func (.func 165) #[] #[]])).run Tryz.prog (w.alloc (.map (E 9) 9)) = .ok () (w.alloc (.map (E 10) 10)) :=
 run_insert w (E 9) 9 ⟨#[100, 111, 117, 98, 108, 101]⟩ _ (by unfold Fresh; rfl)
theorem ins10 (w : World) : (Instr.mapUpdate 177 (.map (some w.heap.size)) (.string ⟨#[117, 110, 105, 116, 115]⟩) (.agg #[.int .i64 2, .func (.func 166) #[] #[]])).run Tryz.prog (w.alloc (.map (E 10) 10)) = .ok () (w.alloc (.map (E 11) 11)) :=
 run_insert w (E 10) 10 ⟨#[117, 110, 105, 116, 115]⟩ _ (by unfold Fresh; rfl)
theorem ins11 (w : World) : (Instr.mapUpdate 177 (.map (some w.heap.size)) (.string ⟨#[111, 119, 101]⟩) (.agg #[.int .i64 3, .func (.func 167) #[] #[]])).run Tryz.prog (w.alloc (.map (E 11) 11)) = .ok () (w.alloc (.map (E 12) 12)) :=
 run_insert w (E 11) 11 ⟨#[111, 119, 101]⟩ _ (by unfold Fresh; rfl)
theorem ins12 (w : World) : (Instr.mapUpdate 177 (.map (some w.heap.size)) (.string ⟨#[115, 101, 116, 116, 108, 101]⟩) (.agg #[.int .i64 0, .func (.func 168) #[] #[]])).run Tryz.prog (w.alloc (.map (E 12) 12)) = .ok () (w.alloc (.map (E 13) 13)) :=
 run_insert w (E 12) 12 ⟨#[115, 101, 116, 116, 108, 101]⟩ _ (by unfold Fresh; rfl)
theorem ins13 (w : World) : (Instr.mapUpdate 177 (.map (some w.heap.size)) (.string ⟨#[116, 97, 108, 108, 105, 101, 115]⟩) (.agg #[.int .i64 0, .func (.func 169) #[] #[]])).run Tryz.prog (w.alloc (.map (E 13) 13)) = .ok () (w.alloc (.map (E 14) 14)) :=
 run_insert w (E 13) 13 ⟨#[116, 97, 108, 108, 105, 101, 115]⟩ _ (by unfold Fresh; rfl)
theorem ins14 (w : World) : (Instr.mapUpdate 177 (.map (some w.heap.size)) (.string ⟨#[114, 111, 111, 116]⟩) (.agg #[.int .i64 1, .func (.func 170) #[] #[]])).run Tryz.prog (w.alloc (.map (E 14) 14)) = .ok () (w.alloc (.map (E 15) 15)) :=
 run_insert w (E 14) 14 ⟨#[114, 111, 111, 116]⟩ _ (by unfold Fresh; rfl)
theorem made (w : World) : (Instr.makeMap 177 none).run Tryz.prog w = .ok (.map (some w.heap.size)) (w.alloc (.map (E 0) 0)) := run_makeMap_plain w _
theorem commandsByWord_any (w : World) : Calls Tryz.prog 128 #[] w fun e w' => e = .returned (.map (some w.heap.size)) ∧ w' = w.alloc (.map (E 15) 15) := by
 have hm := made w
 have h0 := ins0 w
 have h1 := ins1 w
 have h2 := ins2 w
 have h3 := ins3 w
 have h4 := ins4 w
 have h5 := ins5 w
 have h6 := ins6 w
 have h7 := ins7 w
 have h8 := ins8 w
 have h9 := ins9 w
 have h10 := ins10 w
 have h11 := ins11 w
 have h12 := ins12 w
 have h13 := ins13 w
 have h14 := ins14 w
 go_enter Tryz.func128, Tryz.ntmps128
 go_wp2
 go_ret
 exact ⟨rfl, rfl⟩
def cmdOf (k : ByteArray) : Option (Nat × Nat) := (cmds.find? fun x => decide (k.data.toList = x.1)).map (·.2)
def cmdVal (c : Nat × Nat) : Value := .agg #[.int .i64 (c.1 : Int), .func (.func c.2) #[] #[]]
theorem same_str (k : ByteArray) (l : List UInt8) : Instr.sameNow .string (.string k) (.string ⟨l.toArray⟩) = some (decide (k.data.toList = l)) := by
 show some (k == ⟨l.toArray⟩) = _
 congr 1
 rw [beq_toListBytes, ByteArray.toList_eq, ByteArray.toList_eq]
 by_cases h : k.data.toList = l
 ·simp [h]
 ·simp [h]
theorem find_now (k : ByteArray) : ∀ (l : List (List UInt8 × Nat × Nat)) (i j : Nat),
  match l.find? fun x => decide (k.data.toList = x.1) with
  | none => Instr.findNow .string (.string k) ((l.zipIdx j).map entryOf) i = some none
  | some x => ∃ q, Instr.findNow .string (.string k) ((l.zipIdx j).map entryOf) i = some (some (q, cmdVal x.2))
 | [], i, j => rfl
 | x :: l, i, j => by
  have ih := find_now k l (i + 1) (j + 1)
  rw [List.find?_cons]
  by_cases h : k.data.toList = x.1
  ·simp only [h, decide_true]
   refine ⟨i, ?_⟩
   show (match Instr.sameNow .string (.string k) (.string ⟨x.1.toArray⟩) with | some true => _ | some false => _ | none => _) = _
   rw [same_str, decide_eq_true h]
   rfl
  ·simp only [h, decide_false]
   have e : Instr.findNow .string (.string k) (((x :: l).zipIdx j).map entryOf) i = Instr.findNow .string (.string k) ((l.zipIdx (j + 1)).map entryOf) (i + 1) := by
    show (match Instr.sameNow .string (.string k) (.string ⟨x.1.toArray⟩) with | some true => _ | some false => _ | none => _) = _
    rw [same_str, decide_eq_false h]
   simp only [e]
   exact ih
theorem lookup_yes {k : ByteArray} {c : Nat × Nat} (h : cmdOf k = some c) (w : World) (r : Nat) (hb : w.heap[r]? = some (.map (E 15) 15)) :
  (Instr.lookup 177 (.map (some r)) (.string k) true).run Tryz.prog w = .ok (.tuple #[cmdVal c, .bool true]) w := by
 have := find_now k cmds 0 0
 unfold cmdOf at h
 cases hf : cmds.find? fun x => decide (k.data.toList = x.1) with
 | none => rw [hf] at h; cases h
 | some x =>
  rw [hf] at h this
  have h : x.2 = c := Option.some.inj h
  obtain ⟨q, hq⟩ := this
  rw [h] at hq
  exact run_lookup_is w r (E 15) 15 hb k q _ hq
theorem lookup_no {k : ByteArray} (h : cmdOf k = none) (w : World) (r : Nat) (hb : w.heap[r]? = some (.map (E 15) 15)) :
  (Instr.lookup 177 (.map (some r)) (.string k) true).run Tryz.prog w = .ok (.tuple #[.agg #[.int .i64 0, .nilFunc], .bool false]) w := by
 have := find_now k cmds 0 0
 unfold cmdOf at h
 cases hf : cmds.find? fun x => decide (k.data.toList = x.1) with
 | none =>
  rw [hf] at this
  exact run_lookup_none w r (E 15) 15 hb k this
 | some x => rw [hf] at h; cases h
def wfold : List UInt8 → Int → Option Int
 | [], n => some n
 | c :: cs, n => if c.toNat < 48 ∨ 57 < c.toNat then none else wfold cs (n * 10 + ((c.toNat : Int) - 48))
def wnum (l : List UInt8) : Int := if l.length < 1 ∨ 6 < l.length then 9999999 else (wfold l 0).getD 9999999
theorem wfold_bd : ∀ (l : List UInt8) (n v m : Int), 0 ≤ n → n ≤ m → wfold l n = some v → 0 ≤ v ∧ v < (m + 1) * 10 ^ l.length
 | [], n, v, m, h0, h1, h => by
  injection h with h
  subst h
  simp
  omega
 | c :: cs, n, v, m, h0, h1, h => by
  unfold wfold at h
  split at h
  ·cases h
  ·have := wfold_bd cs _ v (m * 10 + 9) (by omega) (by omega) h
   refine ⟨this.1, ?_⟩
   rw [List.length_cons, Int.pow_succ, ← Int.mul_assoc, Int.mul_right_comm]
   have e : (m + 1) * 10 = m * 10 + 9 + 1 := by omega
   rw [e]
   exact this.2
theorem pow5 : ∀ i, i ≤ 5 → (10 : Int) ^ i ≤ 10 ^ 5
 | 0, _ => by decide
 | 1, _ => by decide
 | 2, _ => by decide
 | 3, _ => by decide
 | 4, _ => by decide
 | 5, _ => by decide
 | i + 6, h => by omega
theorem ex_drop_at {l : List UInt8} {i : Nat} {b : UInt8} (h : l[i]? = some b) : l.drop i = b :: l.drop (i + 1) := by
 obtain ⟨h1, h2⟩ := List.getElem?_eq_some_iff.1 h
 rw [List.drop_eq_getElem_cons h1, h2]
theorem wordNumber_any (s : ByteArray) (w : World) (hs : s.size ≤ 1000000) : Calls Tryz.prog 129 #[.string s] w fun e w' => e = .returned (.int .i64 (wnum s.data.toList)) ∧ w = w' := by
 have hlen : s.data.toList.length = s.size := by simp
 obtain ⟨R, hR⟩ : ∃ R, wnum s.data.toList = R := ⟨_, rfl⟩
 rw [hR]
 unfold wnum at hR
 rw [hlen] at hR
 have HLEN := Hd hlen
 clear hlen
 by_cases h1 : s.size < 1
 ·rw [if_pos (.inl h1)] at hR
  subst hR
  go_enter Tryz.func129, Tryz.ntmps129
  go_wp2
  go_ret
  exact ⟨rfl, rfl⟩
 by_cases h2 : 6 < s.size
 ·rw [if_pos (.inr h2)] at hR
  subst hR
  go_enter Tryz.func129, Tryz.ntmps129
  go_wp2
  go_ret
  exact ⟨rfl, rfl⟩
 rw [if_neg (by omega)] at hR
 have HR := Hd hR
 clear hR
 go_enter Tryz.func129, Tryz.ntmps129
 go_wp2_with fail
 go_loopw [3, 4] (fun nv iv wr => ∃ (i : Nat) (n : Int), i ≤ s.size ∧ iv = .int .i64 (i : Int) ∧ nv = .int .i64 n ∧ 0 ≤ n ∧ n ≤ 1000000000000 ∧ n < 10 ^ i ∧ (wfold (s.data.toList.drop i) n).getD 9999999 = R ∧ w = wr) (fun _ iv _ => s.size - (intOf iv).toNat)
 case atStart => exact ⟨0, 0, by omega, rfl, rfl, by omega, by omega, by omega, HR.out, rfl⟩
 case round =>
  obtain ⟨i, n, hi, rfl, rfl, hn0, hn1, hn2, hw, rfl⟩ := hrel
  have HW := Hd hw
  have HP := Hd hn2
  clear hw hn2
  by_cases hlt : i < s.size
  ·obtain ⟨b, hb⟩ : ∃ b, s[i] = b := ⟨_, rfl⟩
   have hb2 : s.data.toList[i]? = some b := by
    rw [List.getElem?_eq_getElem (by have := HLEN.out; omega), ← hb]; rfl
   have hw := HW.out
   rw [ex_drop_at hb2] at hw
   unfold wfold at hw
   by_cases hd : b.toNat < 48
   ·rw [if_pos (.inl hd)] at hw
    have hwR : (9999999 : Int) = R := hw
    have HWR := Hd hwR
    have hdI : (b.toNat : Int) < 48 := by omega
    clear hb2 hw hwR
    go_wp2
    go_ret
    exact ⟨ret_int HWR.out, rfl⟩
   by_cases hd2 : 57 < b.toNat
   ·rw [if_pos (.inr hd2)] at hw
    have hwR : (9999999 : Int) = R := hw
    have HWR := Hd hwR
    have hdI : ¬ (b.toNat : Int) < 48 := by omega
    have hdJ : (b.toNat : Int) > 57 := by omega
    clear hb2 hw hwR
    go_wp2
    go_ret
    exact ⟨ret_int HWR.out, rfl⟩
   rw [if_neg (by omega)] at hw
   obtain ⟨x, hx⟩ : ∃ x, b.toNat = x := ⟨_, rfl⟩
   rw [hx] at hw hd hd2
   have hnb : n < 10 ^ 5 := by
    have h6 : i ≤ 5 := by omega
    have := HP.out
    have h10 : (10 : Int) ^ i ≤ 10 ^ 5 := pow5 i h6
    omega
   have hnp : n * 10 + ((x : Int) - 48) < 10 ^ (i + 1) := by
    have := HP.out
    rw [Int.pow_succ]
    omega
   have w1 : IntKind.i64.wrap (n * 10) = n * 10 := IntWalk.i64_in _ (by omega)
   have w2 : IntKind.u8.wrap ((x : Int) - 48) = (x : Int) - 48 := IntWalk.u8_in _ (by omega)
   have w3 : IntKind.i64.wrap ((x : Int) - 48) = (x : Int) - 48 := IntWalk.i64_in _ (by omega)
   have w4 : IntKind.i64.wrap (n * 10 + ((x : Int) - 48)) = n * 10 + ((x : Int) - 48) := IntWalk.i64_in _ (by omega)
   have hdI : ¬ (x : Int) < 48 := by omega
   have hdJ : ¬ (x : Int) > 57 := by omega
   have HN := Hd (And.intro hw hnp)
   clear hb2 hw hnp hd hd2
   go_wp2_with fail
   exact ⟨⟨i + 1, _, by omega, by go_num, rfl, by omega, by omega, HN.out.2, HN.out.1, trivial⟩, by simp [intOf]; omega⟩
  ·have hwR : n = R := by
    have hw := HW.out
    rw [List.drop_eq_nil_of_le (by have := HLEN.out; omega)] at hw
    exact hw
   have HWR := Hd hwR
   clear hwR
   go_wp2
   go_ret
   exact ⟨ret_int HWR.out, rfl⟩
def cut (c : UInt8) : List UInt8 → List (List UInt8)
 | [] => [[]]
 | b :: l => if b = c then [] :: cut c l else match cut c l with
  | [] => [[b]]
  | x :: xs => (b :: x) :: xs
theorem cut_ne (c : UInt8) : ∀ l, cut c l ≠ []
 | [] => by simp [cut]
 | b :: l => by
  unfold cut
  split
  ·simp
  ·cases h : cut c l with
   | nil => simp
   | cons x xs => simp
theorem split_cut (c : UInt8) : ∀ l : List UInt8, Lib.splitK [c] 0 (l.count c) l = cut c l
 | [] => by simp [Lib.splitK, cut]
 | b :: l => by
  have ih := split_cut c l
  by_cases h : b = c
  ·subst h
   rw [List.count_cons_self]
   have hi : Lib.index (b :: l) [b] = 0 := by simp [Lib.index]
   simp only [Lib.splitK, hi]
   rw [if_neg (by decide)]
   simp only [cut]
   rw [if_pos trivial, ← ih]
   simp
  ·rw [List.count_cons_of_ne h]
   have hc : cut c (b :: l) = match cut c l with | [] => [[b]] | x :: xs => (b :: x) :: xs := by
    conv => lhs; unfold cut
    rw [if_neg h]
   rw [hc, ← ih]
   have hp : ([c] : List UInt8).isPrefixOf (b :: l) = false := by
    show (c == b && List.isPrefixOf [] l) = false
    rw [beq_false_of_ne (Ne.symm h)]
    rfl
   cases hk : l.count c with
   | zero => simp [Lib.splitK]
   | succ k =>
    by_cases hi : Lib.index l [c] = -1
    ·have hi2 : Lib.index (b :: l) [c] = -1 := by simp [Lib.index, hp, hi]
     simp [Lib.splitK, hi, hi2]
    ·have hi2 : Lib.index (b :: l) [c] = Lib.index l [c] + 1 := by simp [Lib.index, hp, hi]
     have hge := Lib.index_ge l [c]
     obtain ⟨i, hi3⟩ := Int.eq_ofNat_of_zero_le (show 0 ≤ Lib.index l [c] by omega)
     rw [hi3] at hi2
     have h1 : ¬ (((i : Int) == -1) = true) := by simp
     have h2 : ¬ ((((i : Int) + 1) == -1) = true) := by simp; omega
     simp only [Lib.splitK, hi2, hi3]
     rw [if_neg h1, if_neg h2]
     have e1 : ((i : Int)).toNat + 0 = i := by omega
     have e2 : ((i : Int) + 1).toNat + 0 = i + 1 := by omega
     have e3 : ((i : Int)).toNat + ([c] : List UInt8).length = i + 1 := by simp
     have e4 : ((i : Int) + 1).toNat + ([c] : List UInt8).length = i + 1 + 1 := by simp
     rw [e1, e2, e3, e4]
     simp
def bs (l : List UInt8) : ByteArray := ⟨l.toArray⟩
theorem bs_list (l : List UInt8) : (bs l).data.toList = l := by simp [bs]
theorem bs_eta (s : ByteArray) : bs s.data.toList = s := by simp [bs]
theorem splitB_cut (c : UInt8) (s : ByteArray) : Lib.splitB ⟨#[c]⟩ 0 (Lib.countB s ⟨#[c]⟩) s = (cut c s.data.toList).map bs := by
 have h := Lib.splitB_data ⟨#[c]⟩ 0 (Lib.countB s ⟨#[c]⟩) s
 have hc : Lib.countB s ⟨#[c]⟩ = s.data.toList.count c := Lib.count_one c s.data.toList
 have hs : (⟨#[c]⟩ : ByteArray).data.toList = [c] := rfl
 rw [hs, hc, split_cut] at h
 rw [hc, ← h, List.map_map]
 have : (bs ∘ fun x : ByteArray => x.data.toList) = id := by funext x; exact bs_eta x
 rw [this, List.map_id]
theorem Split_any (c : UInt8) (s : ByteArray) (m : Int) (w : World) (hs : s.size < 1000000) (hm : w.cell? ⟨0, 0, none⟩ = some (.int .i64 m)) :
  Calls Tryz.prog 44 #[.string s, .string ⟨#[c]⟩] w fun e w' => e = .returned (.slice (some ⟨w.heap.size, 0, none⟩) (cut c s.data.toList).length (cut c s.data.toList).length) ∧ w' = w.alloc (.cells (((cut c s.data.toList).map bs).map Value.string).toArray 9) := by
 refine (Tryz.strings_Split s ⟨#[c]⟩ m w (by omega) hm (Nat.le_refl _)).mono fun e w' h => ?_
 obtain ⟨h1, h2⟩ := h
 have hn : Lib.countB s ⟨#[c]⟩ + 1 = (cut c s.data.toList).length := by
  have := Lib.splitB_all ⟨#[c]⟩ (Nat.le_refl _) 0 _ s rfl
  rw [splitB_cut, List.length_map] at this
  exact this.symm
 rw [hn] at h1
 rw [splitB_cut] at h2
 exact ⟨h1, h2⟩
theorem cut_len (c : UInt8) : ∀ (l x : List UInt8), x ∈ cut c l → x.length ≤ l.length
 | [], x, h => by simp [cut] at h; subst h; simp
 | b :: l, x, h => by
  have ih := cut_len c l
  unfold cut at h
  split at h
  ·rcases List.mem_cons.1 h with rfl | h
   ·simp
   ·have := ih x h; simp; omega
  ·cases hc : cut c l with
   | nil => rw [hc] at h; simp at h; subst h; simp
   | cons y ys =>
    rw [hc] at h
    rcases List.mem_cons.1 h with rfl | h
    ·have := ih y (by rw [hc]; exact List.mem_cons_self); simp; exact this
    ·have := ih x (by rw [hc]; exact List.mem_cons_of_mem _ h); simp; omega
def Good (line : List UInt8) (c : Nat × Nat) (nums : List Int) : Prop := ∃ k ws, cut 32 line = k :: ws ∧ cmdOf (bs k) = some c ∧ ws.length = c.1 ∧ nums = ws.map wnum
def Max (w : World) : Prop := ∃ m : Int, w.cell? ⟨0, 0, none⟩ = some (.int .i64 m)
def ParsePost (w : World) (c : Nat × Nat) (nums : List Int) (e : Ending) (w' : World) : Prop := ∃ A n, e = .returned (.tuple #[cmdVal c, .slice A nums.length n]) ∧ Own w' w.heap.size A nums.length n nums ∧ Below w.heap.size w w'
theorem parseLine_good (line : ByteArray) (c : Nat × Nat) (nums : List Int) (w : World) (hs : line.size ≤ 1000) (hm : Max w) (hg : Good line.data.toList c nums) (hc3 : c.1 ≤ 3) : Calls Tryz.prog 94 #[.string line] w (ParsePost w c nums) := by
 obtain ⟨cn, fid⟩ := c
 obtain ⟨k, ws, hcut, hcmd, hlen, hnums⟩ := hg
 simp only at hc3 hlen
 obtain ⟨m, hm⟩ := hm
 obtain ⟨W, hW⟩ : ∃ W, w.alloc (.cells #[.int .i64 0, .nilFunc] 139) = W := ⟨_, rfl⟩
 have hb2 : Blk W w.heap.size #[.int .i64 0, .nilFunc] 139 := by rw [← hW]; exact Blk.new _ _ _
 have hbl : Below w.heap.size w W := by rw [← hW]; exact (Below.refl _ _).alloc (Nat.le_refl _) _
 have hmW : W.cell? ⟨0, 0, none⟩ = some (.int .i64 m) := by rw [← hW]; exact (World.cell?_alloc_lt w _ _ (World.block_lt_of_cell? w _ hm)).trans hm
 have HW := Hd hW
 have HB2 := Hd hb2
 have HBL := Hd hbl
 have HC := Hd (And.intro hcut hcmd)
 have HN := Hd (And.intro hlen hnums)
 clear hW hb2 hbl hm hcut hcmd hlen hnums
 go_enter Tryz.func94, Tryz.ntmps94
 go_wp2_with fail
 rw [HW.out]
 refine (Split_any 32 line m W (by omega) hmW).mono ?_
 rw [HC.out.1]
 rintro e w1 ⟨rfl, rfl⟩
 have hws : (k :: ws).length = cn + 1 := by simp; exact HN.out.1
 rw [hws]
 obtain ⟨W1, hW1⟩ : ∃ W1, W.alloc (.cells (((k :: ws).map bs).map Value.string).toArray 9) = W1 := ⟨_, rfl⟩
 have hst : Blk W1 W.heap.size (((k :: ws).map bs).map Value.string).toArray 9 := by rw [← hW1]; exact Blk.new _ _ _
 have hb21 : Blk W1 w.heap.size #[.int .i64 0, .nilFunc] 139 := by rw [← hW1]; exact HB2.out.alloc _
 have hbl1 : Below w.heap.size w W1 := by rw [← hW1]; exact HBL.out.alloc HBL.out.size _
 rw [hW1]
 have s0 : W1.cell? ⟨W.heap.size, 0, none⟩ = some (.string (bs k)) := hst.cell rfl
 have hsz : W.heap.size < W1.heap.size := hst.lt
 have HST := Hd hst
 have HB21 := Hd hb21
 have HBL1 := Hd hbl1
 clear hW1 hst hb21 hbl1
 have l1 := lookup_yes HC.out.2 (W1.alloc (.map (E 15) 15)).drew W1.heap.size (heap_alloc_new W1 _)
 have l2 := lookup_yes HC.out.2 ((W1.alloc (.map (E 15) 15)).alloc (.cells #[.int .i64 0, .nilFunc] 139)).drew W1.heap.size ((Below.heap_alloc _ _ W1.heap.size (by simp)).trans (heap_alloc_new W1 _))
 have l3 := lookup_yes HC.out.2 ((W1.alloc (.cells #[.int .i64 0, .nilFunc] 139)).alloc (.map (E 15) 15)).drew (W1.heap.size + 1) (by
  have := heap_alloc_new (W1.alloc (.cells #[.int .i64 0, .nilFunc] 139)) (.map (E 15) 15)
  rw [World.size_alloc] at this
  exact this)
 unfold cmdVal at l1 l2 l3
 obtain ⟨WA, hWA⟩ : ∃ WA, ((W1.alloc (.map (E 15) 15)).alloc (.cells #[.int .i64 (cn : Int), .func (.func fid) #[] #[]] 139)).drew = WA := ⟨_, rfl⟩
 obtain ⟨WB, hWB⟩ : ∃ WB, ((W1.alloc (.cells #[.int .i64 (cn : Int), .func (.func fid) #[] #[]] 139)).alloc (.map (E 15) 15)).drew = WB := ⟨_, rfl⟩
 have QA := Hd (show Blk WA (W1.heap.size + 1) #[.int .i64 (cn : Int), .func (.func fid) #[] #[]] 139 ∧ Below W1.heap.size W1 WA from by
  rw [← hWA]
  have := Blk.new (W1.alloc (.map (E 15) 15)) #[.int .i64 (cn : Int), .func (.func fid) #[] #[]] 139
  rw [World.size_alloc] at this
  exact ⟨this.drew, (((Below.refl _ _).alloc (Nat.le_refl _) _).alloc (by simp) _).drew⟩)
 have QB := Hd (show Blk WB W1.heap.size #[.int .i64 (cn : Int), .func (.func fid) #[] #[]] 139 ∧ Below W1.heap.size W1 WB from by
  rw [← hWB]
  exact ⟨((Blk.new _ _ _).alloc _).drew, (((Below.refl _ _).alloc (Nat.le_refl _) _).alloc (by simp) _).drew⟩)
 have HA := Hd hWA
 have HBB := Hd hWB
 clear hWA hWB
 go_wp2_with fail
 go_region_held3 (fun w' => w'.cell? ⟨W.heap.size, 0, none⟩ = some (.string (bs k))) (first | exact s0 | go_simp | go_keep) ((go_at_call 128; refine (commandsByWord_any _).mono ?_; rintro e w2 ⟨rfl, rfl⟩))
 all_goals (first | (rw [HA.out]; obtain ⟨hq, hqb⟩ := QA.out; obtain ⟨W2, rfl⟩ : ∃ W2, W2 = WA := ⟨WA, rfl⟩) | (rw [HBB.out]; obtain ⟨hq, hqb⟩ := QB.out; obtain ⟨W2, rfl⟩ : ∃ W2, W2 = WB := ⟨WB, rfl⟩))
 all_goals
  have HST2 := Hd (HST.out.next hqb)
  have HB22 := Hd (HB21.out.next hqb)
  have HBL2 := Hd (HBL1.out.trans (hqb.mono HBL1.out.size))
  have d0 := hq.cell (j := 0) (v := .int .i64 (cn : Int)) rfl
  have d1 := hq.cell (j := 1) (v := .func (.func fid) #[] #[]) rfl
  have HQ := Hd hq
  have hb0 := HB22.out
  have m0 := hb0.cell (j := 0) (v := .int .i64 0) rfl
  have m1 := hb0.cell (j := 1) (v := .nilFunc) rfl
  have f0 := hb0.free 0
  have f1 := hb0.free 1
  clear hq hqb l1 l2 l3 s0 hsz hb0
  by_cases hc0 : cn = 0
  ·subst hc0
   have hnn : nums = [] := by
    have h1 := HN.out.1
    have h2 := HN.out.2
    cases ws with
    | nil => exact h2
    | cons _ _ => simp at h1
   have HNN := Hd hnn
   clear hnn
   go_wp2_with fail
   refine wp_loop_rounds 1 ?_
   rw [rounds_succ]
   go_wp2_with fail
   have hf := (HB22.out.set 0 (.int .i64 0)).set 1 (.func (.func fid) #[] #[])
   have g0 := hf.cell (j := 0) (v := .int .i64 0) rfl
   have g1 := hf.cell (j := 1) (v := .func (.func fid) #[] #[]) rfl
   refine bodyPost_ret (v := .tuple #[.agg #[.int .i64 0, .func (.func fid) #[] #[]], .slice none 0 0]) (by simp [results, Tryz.results94, go_sem, g0, g1]) rfl ⟨none, 0, ?_, ?_, ?_⟩
   ·rw [HNN.out]; rfl
   ·rw [HNN.out]; exact Own.nil _ _
   ·exact (HBL2.out.setCell (p := ⟨w.heap.size, 0, none⟩) (Nat.le_refl _) _).setCell (p := ⟨w.heap.size, 1, none⟩) (Nat.le_refl _) _
  ·have hc1 : 1 ≤ cn := by omega
   go_wp2_with fail
   go_loopw [7, 35] (fun sv iv wr => ∃ (j n : Nat) (A : Option Addr), j ≤ cn ∧ iv = .int .i64 (j : Int) ∧ sv = .slice A j n ∧ Own wr W2.heap.size A j n ((ws.take j).map wnum) ∧ Below W2.heap.size W2 wr) (fun _ iv _ => cn - (intOf iv).toNat)
   case atStart => exact ⟨0, 0, none, by omega, rfl, rfl, by simpa using Own.nil _ _, Below.refl _ _⟩
   case round =>
    obtain ⟨j, n, A, hj, rfl, rfl, ho, hb⟩ := hrel
    have HO := Hd ho
    have HB := Hd hb
    clear ho hb
    by_cases hlt : j < cn
    ·obtain ⟨x, hx⟩ : ∃ x, ws[j]? = some x := ⟨_, List.getElem?_eq_getElem (by have := HN.out.1; omega)⟩
     have hst3 := HST2.out.below HB.out HST2.out.lt
     have s1 : wr.cell? ⟨W.heap.size, 1 + j, none⟩ = some (.string (bs x)) := hst3.cell (by
      rw [Nat.add_comm]
      simp [hx])
     have hxs : (bs x).size ≤ 1000000 := by
      have h1 := cut_len 32 line.data.toList x (by rw [HC.out.1]; exact List.mem_cons_of_mem _ (List.mem_of_getElem? hx))
      have h2 : line.data.toList.length = line.size := by simp
      have h3 : (bs x).size = x.length := by show x.toArray.size = _; simp
      omega
     have HX := Hd hx
     clear hst3 hx
     go_wp2_with fail
     refine (wordNumber_any (bs x) wr hxs).mono ?_
     rintro e w' ⟨rfl, rfl⟩
     rw [bs_list]
     go_wp2_with (refine wpList_app rfl _ _ rfl rfl HO.out [wnum x] 1 rfl _ rfl _ rfl (by omega) HB.out.size ?_; intro A2 c2 w4 ho4 hg4)
     refine ⟨⟨j + 1, c2, A2, by omega, by go_num, rfl, ?_, ?_⟩, by simp [intOf]; omega⟩
     ·rw [take_next HX.out, List.map_append, List.map_cons, List.map_nil]; exact ho4
     ·exact HB.out.grown hg4 HB.out.size (fun q hq => (HO.out.blk q hq).1)
    ·have hje : j = cn := by omega
     have hq3 := HQ.out.below HB.out HQ.out.lt
     have hb3 := HB22.out.below HB.out HB22.out.lt
     have d0 := hq3.cell (j := 0) (v := .int .i64 (cn : Int)) rfl
     have d1 := hq3.cell (j := 1) (v := .func (.func fid) #[] #[]) rfl
     have m0 := hb3.cell (j := 0) (v := .int .i64 0) rfl
     have m1 := hb3.cell (j := 1) (v := .nilFunc) rfl
     have f0 := hb3.free 0
     have f1 := hb3.free 1
     have HB3 := Hd hb3
     have hnl : nums.length = j := by rw [HN.out.2, List.length_map, HN.out.1, hje]
     have hnt : (ws.take j).map wnum = nums := by rw [HN.out.2, List.take_of_length_le (by have := HN.out.1; omega)]
     have HNL := Hd (And.intro hnl hnt)
     clear hq3 hb3 hje hnl hnt
     go_wp2_with fail
     have hf := (HB3.out.set 0 (.int .i64 (cn : Int))).set 1 (.func (.func fid) #[] #[])
     have g0 := hf.cell (j := 0) (v := .int .i64 (cn : Int)) rfl
     have g1 := hf.cell (j := 1) (v := .func (.func fid) #[] #[]) rfl
     refine bodyPost_ret (v := .tuple #[.agg #[.int .i64 (cn : Int), .func (.func fid) #[] #[]], .slice A j n]) (by simp [results, Tryz.results94, go_sem, g0, g1]) rfl ⟨A, n, ?_, ?_, ?_⟩
     ·rw [HNL.out.1]; rfl
     ·rw [HNL.out.1]
      have ho := HO.out
      rw [HNL.out.2] at ho
      have hlt2 : w.heap.size < W2.heap.size := HB22.out.lt
      refine (((ho.kept (Blk.grows HB3.out 0 _) (fun q hq e => by have := (HO.out.blk q hq).1; injection e with e; omega)).kept (Blk.grows (HB3.out.set 0 _) 1 _) (fun q hq e => by have := (HO.out.blk q hq).1; injection e with e; omega))).mono (Nat.le_of_lt hlt2)
     ·exact ((HBL2.out.trans (HB.out.mono HBL2.out.size)).setCell (p := ⟨w.heap.size, 0, none⟩) (Nat.le_refl _) _).setCell (p := ⟨w.heap.size, 1, none⟩) (Nat.le_refl _) _
theorem catch_quiet (p : Addr) (w : World) :
  CallsD Tryz.prog 92 #[.pointer (some p)] .returning w fun e u' w' => e = .returned (.tuple #[]) ∧ u' = .returning ∧ w' = w := by
 refine callsD_of_wpS Tryz.func92 rfl fun c₀ cs hu => ?_
 apply wpS_seq
 apply wpS_region
 simp [wpOpsS, go_sem, recoverD, hu, Tryz.ntmps92, Exit.thenS]
 refine wpS_seq ?_
 apply wpS_region
 simp [wpOpsS, go_sem, Exit.thenS]
 refine wpS_cond (t := false) (by simp [Act.eval, Array.replicate]) ?_
 simp only [Bool.false_eq_true, if_false]
 refine wpS_of_wp (wp_skip ?_)
 cases c₀
 simp_all [bodyPostS, results, Tryz.results92]
def LinePost (B0 : Nat) (w : World) (Q : ByteArray → Bool → World → Prop) (e : Ending) (w' : World) : Prop :=
 ∃ s ok w2 x, e = .returned (.string (if ok then s else ⟨#[110, 111, 10]⟩)) ∧ Q s ok w2 ∧ KeptT B0 w w2 ∧ Blk w2 w.heap.size #[.string ⟨#[]⟩] 9 ∧ w' = (w2.setCell ⟨w.heap.size, 0, none⟩ (.string s)).setCell ⟨w.heap.size, 0, none⟩ x
theorem runLine_good (B0 : Nat) (t : Addr) (line : ByteArray) (c : Nat × Nat) (nums : List Int) (w : World) (Q : ByteArray → Bool → World → Prop) (hs : line.size ≤ 1000) (hm : Max w) (hg : Good line.data.toList c nums) (hc3 : c.1 ≤ 3)
  (hcf : ∀ (args : Array Value) (w : World), (callFunc c.2 args).run Tryz.prog w = .ok (.enter c.2 args) w)
  (hr : ∀ (w1 : World) (A : Option Addr) (n : Nat), Own w1 (w.heap.size + 1) A nums.length n nums → Below w.heap.size w w1 → Calls Tryz.prog c.2 #[.pointer (some t), .slice A nums.length n] w1 (CmdPost B0 Q w1)) :
  Calls Tryz.prog 46 #[.pointer (some t), .string line] w (LinePost B0 w Q) := by
 have hmf : ∀ (fn : Fn) (first cap : Array Value) (w : World), (Instr.makeFunc fn first cap).run Tryz.prog w = .ok (.func fn first cap) w := fun _ _ _ _ => rfl
 have HR := Hd hr
 clear hr
 obtain ⟨W, hW⟩ : ∃ W, w.alloc (.cells #[.string ⟨#[]⟩] 9) = W := ⟨_, rfl⟩
 have hb2 : Blk W w.heap.size #[.string ⟨#[]⟩] 9 := by rw [← hW]; exact Blk.new _ _ _
 have hbl : Below w.heap.size w W := by rw [← hW]; exact (Below.refl _ _).alloc (Nat.le_refl _) _
 have hmW : Max W := by obtain ⟨m, hm⟩ := hm; exact ⟨m, by rw [← hW]; exact (World.cell?_alloc_lt w _ _ (World.block_lt_of_cell? w _ hm)).trans hm⟩
 have hsz : W.heap.size = w.heap.size + 1 := by rw [← hW]; simp
 have HW := Hd hW
 have HB2 := Hd hb2
 have HBL := Hd hbl
 clear hW hb2 hbl
 go_enter_defers Tryz.func46, Tryz.ntmps46
 go_wp2_with fail
 rw [HW.out]
 refine (parseLine_good line c nums W hs hmW hg hc3).mono ?_
 rintro e w1 ⟨A, n, rfl, ho, hb⟩
 obtain ⟨cn, fid⟩ := c
 obtain ⟨W2, hW2⟩ : ∃ W2, w1.alloc (.cells #[.int .i64 (cn : Int), .func (.func fid) #[] #[]] 139) = W2 := ⟨_, rfl⟩
 have hst : Blk W2 w1.heap.size #[.int .i64 (cn : Int), .func (.func fid) #[] #[]] 139 := by rw [← hW2]; exact Blk.new _ _ _
 have hb21 : Blk W2 w.heap.size #[.string ⟨#[]⟩] 9 := by rw [← hW2]; exact (HB2.out.next hb).alloc _
 have hbl1 : Below w.heap.size w W2 := by rw [← hW2]; exact (HBL.out.trans (hb.mono HBL.out.size)).alloc (Nat.le_trans HBL.out.size hb.size) _
 have hoo : Own W2 (w.heap.size + 1) A nums.length n nums := by rw [← hW2, ← hsz]; exact ho.alloc _
 have d1 := hst.cell (j := 1) (v := .func (.func fid) #[] #[]) rfl
 have HO := Hd hoo
 have HB21 := Hd hb21
 have HBL1 := Hd hbl1
 have HST := Hd hst
 have HW2 := Hd hW2
 clear ho hb hW2 hst hb21 hbl1 hoo
 simp only [cmdVal]
 go_wp2_with fail
 rw [HW2.out]
 refine (HR.out W2 A n HO.out HBL1.out).mono ?_
 rintro e w3 ⟨s, ok, rfl, hq, hk⟩
 have hb3 : Blk w3 w.heap.size #[.string ⟨#[]⟩] 9 := HB21.out.keptT hk (by decide) (by decide)
 have HK := Hd ((KeptT.of_below (B0 := B0) HBL1.out).trans hk)
 have m0 := hb3.cell (j := 0) (v := .string ⟨#[]⟩) rfl
 have f0 := hb3.free 0
 have HQ := Hd hq
 have HB3 := Hd hb3
 clear hq hk hb3
 cases ok <;> go_wp2_with fail
 all_goals
  refine leaves_cons (f := 92) (args := #[.pointer (some ⟨w.heap.size, 0, none⟩)]) (by simp) (by simp [go_sem]) ?_
  refine (catch_quiet ⟨w.heap.size, 0, none⟩ _).mono ?_
  rintro e u' w4 ⟨rfl, rfl, rfl⟩
 ·have g0 := ((HB3.out.set 0 (.string s)).set 0 (.string ⟨#[110, 111, 10]⟩)).cell (j := 0) (v := .string ⟨#[110, 111, 10]⟩) rfl
  refine ⟨.string ⟨#[110, 111, 10]⟩, ?_, s, false, w3, _, rfl, HQ.out, HK.out, HB3.out, rfl⟩
  simp [results, Tryz.results46, go_sem, g0]
 ·have g0 := ((HB3.out.set 0 (.string s)).set 0 (.string s)).cell (j := 0) (v := .string s) rfl
  refine ⟨.string s, ?_, s, true, w3, _, rfl, HQ.out, HK.out, HB3.out, rfl⟩
  simp [results, Tryz.results46, go_sem, g0]
end Go.Proofs.YthdoofmfigemoaaGreatDoor
