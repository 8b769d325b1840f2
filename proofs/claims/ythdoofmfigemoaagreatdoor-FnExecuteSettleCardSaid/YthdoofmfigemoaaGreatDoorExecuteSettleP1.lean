/-
  Joined texts: TaHeap3, TaHeap4, TaDebts, TaPlain2, TaBal, TaSum, TaBal2, TaPlain4, TaSettle, TaSettle2, ExOwe.
-/
import Derived.Test.YthdoofmfigemoaaGreatDoorBase4
import Derived.Maps.AppendAt
import Derived.Deep.RegionLaw
import Derived.Deep.RegionHeld3

section
/-
  The heap of debts: what goes down.
-/
namespace Go.Proofs.YthdoofmfigemoaaGreatDoor
open Go.RowKit
set_option linter.unusedSimpArgs false

theorem pow_step {i f N : Nat} (h : N < (i + 1) * 2 ^ (f + 1)) : N < (2 * i + 2) * 2 ^ f := by
  have e : (i + 1) * 2 ^ (f + 1) = (2 * i + 2) * 2 ^ f := by
    rw [Nat.pow_succ, Nat.mul_comm (2 ^ f) 2, ← Nat.mul_assoc]
    congr 1
    omega
  rwa [e] at h
set_option maxRecDepth 100000 in
set_option maxHeartbeats 1000000 in
theorem down_any (w : World) (B g n c : Nat) (r : Nat) (xs : List (Nat × Int)) (N f : Nat) (h : Hp w B g (some ⟨r, 0, none⟩) n c xs) (hN : N < n) (hn : n ≤ 1000) (hf : N < 2 ^ f) :
    Calls Tryz.prog 147 #[.iface 162 (.pointer (some ⟨g, 0, none⟩)), .int .i64 0, .int .i64 (N : Int)] w fun e w' => (∃ v, e = .returned v) ∧ Hp w' B g (some ⟨r, 0, none⟩) n c (Ta.downL f xs 0 N) ∧ w.grownBy w' (some r) := by
  have ml := method_less g n c (some ⟨r, 0, none⟩)
  have ms := method_swap g n c (some ⟨r, 0, none⟩)
  obtain ⟨R, hR⟩ : ∃ R, Ta.downL f xs 0 N = R := ⟨_, rfl⟩
  rw [hR]
  have H0 := Lib.hid h
  have HR := Lib.hid hR
  have HF := Lib.hid hf
  clear h hR hf
  go_enter Tryz.func147, Tryz.ntmps147
  go_wp2_with fail
  go_loopw [7] (fun iv wr => ∃ (i f : Nat) (ys : List (Nat × Int)), iv = .int .i64 (i : Int) ∧ i ≤ N ∧ N < (i + 1) * 2 ^ f ∧ Ta.downL f ys i N = R ∧ Hp wr B g (some ⟨r, 0, none⟩) n c ys ∧ w.grownBy wr (some r)) (fun iv _ => N - (intOf iv).toNat)
  case atStart => exact ⟨0, f, xs, rfl, by omega, by simpa using HF.out, HR.out, H0.out, World.grownBy.refl w _⟩
  case round =>
    clear HR HF H0
    obtain ⟨i, f, ys, rfl, hiN, hf, hR, hH, hG⟩ := hrel
    have hcell := hH.cell
    have HH := Lib.hid hH
    have HG := Lib.hid hG
    have HR := Lib.hid hR
    have HF := Lib.hid hf
    clear hH hG hR hf
    have hly := HH.out.len
    by_cases h1 : N ≤ 2 * i + 1
    · have hh : Ta.downL f ys i N = ys := by cases f with | zero => rfl | succ f => simp only [Ta.downL]; rw [if_pos h1]
      have HS := Lib.hid (hh.symm.trans HR.out)
      have g1 : 2 * (i : Int) + 1 ≥ (N : Int) := by omega
      clear hh hly
      go_wp2
      go_ret
      exact ⟨⟨_, rfl⟩, by rw [← HS.out]; exact HH.out, HG.out⟩
    · obtain ⟨f, rfl⟩ : ∃ k, f = k + 1 := ⟨f - 1, by have := HF.out; cases f with | zero => simp at this; omega | succ k => simp⟩
      have hpow := pow_step HF.out
      have HPW := Lib.hid hpow
      clear hpow
      obtain ⟨x, hx⟩ : ∃ x, ys[i]? = some x := ⟨_, List.getElem?_eq_getElem (by omega)⟩
      obtain ⟨y, hy⟩ : ∃ y, ys[2 * i + 1]? = some y := ⟨_, List.getElem?_eq_getElem (by omega)⟩
      have dx : ys.getD i Ta.d0 = x := by rw [List.getD_eq_getElem?_getD, hx]; rfl
      have dy : ys.getD (2 * i + 1) Ta.d0 = y := by rw [List.getD_eq_getElem?_getD, hy]; rfl
      have HX := Lib.hid hx
      have HY := Lib.hid hy
      have DX := Lib.hid dx
      have DY := Lib.hid dy
      clear hx hy dx dy
      have g1 : ¬ (2 * (i : Int) + 1 ≥ (N : Int)) := by omega
      obtain ⟨a, ha⟩ : ∃ a : Nat, a = 2 * i + 1 := ⟨_, rfl⟩
      have HA2 := Lib.hid (show 2 * (i : Int) + 1 = (a : Int) by omega)
      obtain ⟨b, hb⟩ : ∃ b : Nat, b = 2 * i + 2 := ⟨_, rfl⟩
      have HB2 := Lib.hid (show 2 * (i : Int) + 1 + 1 = (b : Int) by omega)
      have HB3 := Lib.hid (show 2 * (i : Int) + 2 = (b : Int) by omega)
      by_cases h2 : 2 * i + 2 < N
      · obtain ⟨z, hz⟩ : ∃ z, ys[2 * i + 2]? = some z := ⟨_, List.getElem?_eq_getElem (by omega)⟩
        have dz : ys.getD (2 * i + 2) Ta.d0 = z := by rw [List.getD_eq_getElem?_getD, hz]; rfl
        have HZ := Lib.hid hz
        have DZ := Lib.hid dz
        clear hz dz hly
        have g2 : 2 * (i : Int) + 1 + 1 < (N : Int) := by omega
        go_wp2_with fail
        (try rw [HB2.out])
        (try rw [HB3.out])
        (try rw [HA2.out])
        refine (Less_any _ n c ys b a z y wr HH.out.own.dbs (hb ▸ HZ.out) (ha ▸ HY.out)).mono ?_
        rintro e w0 ⟨rfl, q0, rfl⟩
        rcases hlz : Ta.less z y with _ | _
        · have HLZ := Lib.hid hlz
          clear hlz
          have hch : Ta.child ys i N = a := by rw [Ta.child, if_neg (by rw [DZ.out, DY.out, HLZ.out]; simp), ha]
          have hdn : Ta.downL (f + 1) ys i N = if Ta.less y x = false then ys else Ta.downL f (Ta.swapL ys i a) a N := by
            simp only [Ta.downL, hch]
            rw [if_neg h1, show ys.getD a Ta.d0 = y from by rw [ha]; exact DY.out]
            rw [DX.out]
          have HDN := Lib.hid hdn
          clear hch hdn
          go_wp2_with fail
          (try rw [HB2.out])
          (try rw [HB3.out])
          (try rw [HA2.out])
          refine (Less_any _ n c ys a i y x (wr.drewN q0) (HH.out.drewN q0).own.dbs (ha ▸ HY.out) HX.out).mono ?_
          rintro e w1 ⟨rfl, q1, rfl⟩
          rcases hls : Ta.less y x with _ | _
          · have HL := Lib.hid hls
            clear hls
            go_wp2
            go_ret
            refine ⟨⟨_, rfl⟩, ?_, ⟨HG.out.os, HG.out.tape, HG.out.output, HG.out.size, HG.out.block⟩⟩
            rw [← HR.out, HDN.out, if_pos HL.out]
            exact (HH.out.drewN (q0 + q1))
          · have HL := Lib.hid hls
            clear hls
            go_wp2_with fail
            (try rw [HB2.out])
            (try rw [HB3.out])
            (try rw [HA2.out])
            refine (Swap_any r n c B ys i a x y (wr.drewN (q0 + q1)) (HH.out.drewN (q0 + q1)).own HX.out (ha ▸ HY.out)).mono ?_
            rintro e w2 ⟨⟨v2, rfl⟩, hO, hG2⟩
            have HH2 := Lib.hid (show Hp w2 B g (some ⟨r, 0, none⟩) n c (Ta.swapL ys i a) from ⟨(HH.out.drewN (q0 + q1)).blk.grown hG2 (by intro e; injection e with e; exact HH.out.ne r rfl e.symm), hO, HH.out.ne⟩)
            have HG2 := Lib.hid ((⟨HG.out.os, HG.out.tape, HG.out.output, HG.out.size, HG.out.block⟩ : w.grownBy (wr.drewN (q0 + q1)) (some r)).then_ hG2 (fun k hk => .inr hk))
            clear hO hG2
            go_wp2
            refine ⟨⟨a, f, _, congrArg (Value.int .i64) (by omega), by omega, ?_, by rw [← HR.out, HDN.out, if_neg (by rw [HL.out]; simp)], HH2.out, HG2.out⟩, ?_⟩
            · have := HPW.out
              refine Nat.lt_of_lt_of_le this (Nat.mul_le_mul_right _ (by omega))
            · simp [intOf]
              omega
        · have HLZ := Lib.hid hlz
          clear hlz
          have hch : Ta.child ys i N = b := by rw [Ta.child, if_pos ⟨h2, by rw [DZ.out, DY.out, HLZ.out]⟩, hb]
          have hdn : Ta.downL (f + 1) ys i N = if Ta.less z x = false then ys else Ta.downL f (Ta.swapL ys i b) b N := by
            simp only [Ta.downL, hch]
            rw [if_neg h1, show ys.getD b Ta.d0 = z from by rw [hb]; exact DZ.out]
            rw [DX.out]
          have HDN := Lib.hid hdn
          clear hch hdn
          go_wp2_with fail
          (try rw [HB2.out])
          (try rw [HB3.out])
          (try rw [HA2.out])
          refine (Less_any _ n c ys b i z x (wr.drewN q0) (HH.out.drewN q0).own.dbs (hb ▸ HZ.out) HX.out).mono ?_
          rintro e w1 ⟨rfl, q1, rfl⟩
          rcases hls : Ta.less z x with _ | _
          · have HL := Lib.hid hls
            clear hls
            go_wp2
            go_ret
            refine ⟨⟨_, rfl⟩, ?_, ⟨HG.out.os, HG.out.tape, HG.out.output, HG.out.size, HG.out.block⟩⟩
            rw [← HR.out, HDN.out, if_pos HL.out]
            exact (HH.out.drewN (q0 + q1))
          · have HL := Lib.hid hls
            clear hls
            go_wp2_with fail
            (try rw [HB2.out])
            (try rw [HB3.out])
            (try rw [HA2.out])
            refine (Swap_any r n c B ys i b x z (wr.drewN (q0 + q1)) (HH.out.drewN (q0 + q1)).own HX.out (hb ▸ HZ.out)).mono ?_
            rintro e w2 ⟨⟨v2, rfl⟩, hO, hG2⟩
            have HH2 := Lib.hid (show Hp w2 B g (some ⟨r, 0, none⟩) n c (Ta.swapL ys i b) from ⟨(HH.out.drewN (q0 + q1)).blk.grown hG2 (by intro e; injection e with e; exact HH.out.ne r rfl e.symm), hO, HH.out.ne⟩)
            have HG2 := Lib.hid ((⟨HG.out.os, HG.out.tape, HG.out.output, HG.out.size, HG.out.block⟩ : w.grownBy (wr.drewN (q0 + q1)) (some r)).then_ hG2 (fun k hk => .inr hk))
            clear hO hG2
            go_wp2
            refine ⟨⟨b, f, _, congrArg (Value.int .i64) (by omega), by omega, ?_, by rw [← HR.out, HDN.out, if_neg (by rw [HL.out]; simp)], HH2.out, HG2.out⟩, ?_⟩
            · have := HPW.out
              refine Nat.lt_of_lt_of_le this (Nat.mul_le_mul_right _ (by omega))
            · simp [intOf]
              omega
      · have g2 : ¬ 2 * (i : Int) + 1 + 1 < (N : Int) := by omega
        clear hly
        have hch : Ta.child ys i N = a := by rw [Ta.child, if_neg (fun h => h2 h.1), ha]
        have hdn : Ta.downL (f + 1) ys i N = if Ta.less y x = false then ys else Ta.downL f (Ta.swapL ys i a) a N := by
          simp only [Ta.downL, hch]
          rw [if_neg h1, show ys.getD a Ta.d0 = y from by rw [ha]; exact DY.out]
          rw [DX.out]
        have HDN := Lib.hid hdn
        clear hch hdn
        go_wp2_with fail
        (try rw [HB2.out])
        (try rw [HB3.out])
        (try rw [HA2.out])
        refine (Less_any _ n c ys a i y x wr HH.out.own.dbs (ha ▸ HY.out) HX.out).mono ?_
        rintro e w1 ⟨rfl, q0, rfl⟩
        rcases hls : Ta.less y x with _ | _
        · have HL := Lib.hid hls
          clear hls
          go_wp2
          go_ret
          refine ⟨⟨_, rfl⟩, ?_, ⟨HG.out.os, HG.out.tape, HG.out.output, HG.out.size, HG.out.block⟩⟩
          rw [← HR.out, HDN.out, if_pos HL.out]
          exact (HH.out.drewN q0)
        · have HL := Lib.hid hls
          clear hls
          go_wp2_with fail
          (try rw [HB2.out])
          (try rw [HB3.out])
          (try rw [HA2.out])
          refine (Swap_any r n c B ys i a x y (wr.drewN q0) (HH.out.drewN q0).own HX.out (ha ▸ HY.out)).mono ?_
          rintro e w2 ⟨⟨v2, rfl⟩, hO, hG2⟩
          have HH2 := Lib.hid (show Hp w2 B g (some ⟨r, 0, none⟩) n c (Ta.swapL ys i a) from ⟨(HH.out.drewN q0).blk.grown hG2 (by intro e; injection e with e; exact HH.out.ne r rfl e.symm), hO, HH.out.ne⟩)
          have HG2 := Lib.hid ((⟨HG.out.os, HG.out.tape, HG.out.output, HG.out.size, HG.out.block⟩ : w.grownBy (wr.drewN q0) (some r)).then_ hG2 (fun k hk => .inr hk))
          clear hO hG2
          go_wp2
          refine ⟨⟨a, f, _, congrArg (Value.int .i64) (by omega), by omega, ?_, by rw [← HR.out, HDN.out, if_neg (by rw [HL.out]; simp)], HH2.out, HG2.out⟩, ?_⟩
          · have := HPW.out
            refine Nat.lt_of_lt_of_le this (Nat.mul_le_mul_right _ (by omega))
          · simp [intOf]
            omega
end Go.Proofs.YthdoofmfigemoaaGreatDoor
end

section
/-
  The heap of debts: Push, Pop, put, take.
-/
namespace Go.Proofs.YthdoofmfigemoaaGreatDoor
open Go.RowKit
set_option linter.unusedSimpArgs false

/-- append(*h, d) in a region: the new debt lies in a block of its own; where the new row lies -/
theorem step_app_h {ops : Array Oper} {o : Oper} {a : Act} {w : World} {K : Act → World → Prop} {Q : Exit → Act → World → Prop} {E : Prop} (hgd : o.guard = none) (s x : Operand)
    (ho : o.op = .call { callee := .builtin .append, args := #[s, x], argTypes := #[116, 116] })
    {B : Nat} {A : Option Addr} {n c : Nat} {ts : List Db} (hs : a.eval s = .slice A n c) (hown : OwnD w B A n c ts) (t : Db) (c0 : Nat)
    (hx : a.eval x = .slice (some ⟨w.heap.size, 0, none⟩) 1 c0) (cs : Array Value) (hcs : cs = t.cells.toArray) (hn : n + 1 ≤ 1000000) (hB : B ≤ w.heap.size)
    (h : ∀ A' c' w', OwnD w' B A' (n + 1) c' (ts ++ [t]) → w.grownBy w' (Value.slice A n c).ownBlock → (∀ k, (Value.slice A' (n + 1) c').ownBlock = some k → (Value.slice A n c).ownBlock = some k ∨ w.heap.size ≤ k) → K (a.put o.dst (.slice A' (n + 1) c')) w') :
    if Region.wanted o (yielded ops a.tmps) = true then Oper.wp Tryz.prog o a (w.alloc (.cells cs 123)) K Q else E := by
  obtain ⟨i0, hi, hz0, hz1, hz2⟩ := info_parts debt_info
  subst hcs
  rw [if_pos (by simp [Region.wanted, hgd])]
  obtain ⟨v', w', hr, hown', hg, _, hat⟩ := run_append_own_at (P := Tryz.prog) (w.alloc (.cells t.cells.toArray 123)) B 116 o.type 123 i0 _ 3 24 Tryz.underlying116 hi hz0 hz1 hz2 rfl (by decide) _ n (DV ts) (hown.1.alloc _)
    ⟨w.heap.size, 0, none⟩ 1 c0 t.cells (by simp [Db.cells]) (by
      intro j u hj
      rw [add_row, cell_of_row _ w.heap.size j _ _ _ (heap_alloc_new w _)]
      simpa using hj) (by rw [← DV_one]; exact DV_oneCell _) (by unfold maxLen; omega) (by omega) (by simp; omega)
  unfold Oper.wp execOp
  simp only [ho, resolve, invoke, builtin, Sem.run_bind, Sem.run_pure, Result.andThen_ok, List.map_toArray, List.map_cons, List.map_nil, hs, hx, hr]
  rw [← DV_one, ← DV_append] at hown'
  obtain ⟨A', c', rfl, h'⟩ := shape_own hown' (by omega)
  refine h A' c' w' h' ⟨hg.os, hg.tape, hg.output, by have := hg.size; simp at this; omega, fun k hk hne => (hg.block k (by simp; omega) hne).trans (Below.heap_alloc w _ k hk)⟩ (fun k hk => ?_)
  rcases hat with hat | hat
  · exact .inl (hat ▸ hk)
  · rw [hat] at hk
    injection hk with hk
    exact .inr (by rw [← hk]; simp)

theorem assert_debt (a b v : Int) (w : World) : (Instr.typeAssert (.iface 123 (.agg #[.int .i64 a, .int .i64 b, .int .i64 v])) 20 123 true).run Tryz.prog w = .ok (.tuple #[.agg #[.int .i64 a, .int .i64 b, .int .i64 v], .bool true]) w := by kernel_rfl
/-- what Push gives -/
def PushPost (w : World) (B g : Nat) (A : Option Addr) (n c : Nat) (ys : List (Nat × Int)) (w' : World) : Prop :=
  ∃ A' c', Hp w' B g A' ys.length c' ys ∧ Kept w w' (Mine g A n c) ∧ (∀ k, (Value.slice A' ys.length c').ownBlock = some k → (Value.slice A n c).ownBlock = some k ∨ w.heap.size ≤ k)
theorem push_out {w W w' : World} {B g n c c' : Nat} {A A' : Option Addr} {xs : List (Nat × Int)} (x : Nat × Int) (hH : Hp W B g A n c xs) (hb : Below w.heap.size w W) (ho : OwnD w' B A' (n + 1) c' (HL xs ++ [hd x]))
    (hg : W.drew.grownBy w' (Value.slice A n c).ownBlock) (hat : ∀ k, (Value.slice A' (n + 1) c').ownBlock = some k → (Value.slice A n c).ownBlock = some k ∨ W.drew.heap.size ≤ k) (hbl : Blk w' g #[.slice A n c] 116) :
    PushPost w B g A n c (xs ++ [x]) (w'.setCell ⟨g, 0, none⟩ (.slice A' (n + 1) c')) := by
  have hl : (xs ++ [x]).length = n + 1 := by rw [List.length_append, hH.len]; rfl
  have hne : ∀ k, (Value.slice A' (n + 1) c').ownBlock = some k → k ≠ g := fun k hk => by
    rcases hat k hk with h1 | h1
    · exact hH.ne k h1
    · have h2 : W.heap.size ≤ k := h1
      have := hH.blk.lt
      omega
  refine ⟨A', c', ?_, ?_, ?_⟩
  · rw [hl]
    refine ⟨by simpa using hbl.set 0 (.slice A' (n + 1) c'), ?_, hne⟩
    have e : HL (xs ++ [x]) = HL xs ++ [hd x] := by simp [HL]
    rw [e]
    exact ho.kept (hbl.grows 0 _) (fun q hq e => by injection e with e; exact hne q hq e.symm)
  · have g2 := hbl.grows 0 (.slice A' (n + 1) c')
    refine ⟨g2.os.trans (hg.os.trans hb.os), g2.tape.trans (hg.tape.trans hb.tape), g2.output.trans (hg.output.trans hb.output), ?_, fun k hk hn => ?_⟩
    · have h1 := hg.size
      have h2 : W.heap.size ≤ w'.heap.size := h1
      have h3 := hb.size
      rw [size_set]
      omega
    · have h3 := hb.size
      have h4 : W.heap.size ≤ w'.heap.size := hg.size
      refine (g2.block k (by omega) (fun e => hn (.inl (Option.some.inj e)))).trans ((hg.block k (by show k < W.heap.size; omega) (fun e => hn (.inr e.symm))).trans (hb.block k hk))
  · rw [hl]
    intro k hk
    rcases hat k hk with h1 | h1
    · exact .inl h1
    · have h2 : W.heap.size ≤ k := h1
      have := hb.size
      exact .inr (by omega)
set_option maxRecDepth 100000 in
set_option maxHeartbeats 1000000 in
theorem PushM_any (w : World) (B g n c : Nat) (A : Option Addr) (xs : List (Nat × Int)) (x : Nat × Int) (h : Hp w B g A n c xs) (hB : B ≤ w.heap.size) (hn : n ≤ 1000) :
    Calls Tryz.prog 261 #[.pointer (some ⟨g, 0, none⟩), .iface 123 (hd x).val] w fun e w' => (∃ v, e = .returned v) ∧ PushPost w B g A n c (xs ++ [x]) w' := by
  obtain ⟨p, v⟩ := x
  show Calls Tryz.prog 261 #[.pointer (some ⟨g, 0, none⟩), .iface 123 (.agg #[.int .i64 (p : Int), .int .i64 (p : Int), .int .i64 v])] w _
  obtain ⟨W, hW⟩ : ∃ W, w.alloc (.cells #[.int .i64 (p : Int), .int .i64 (p : Int), .int .i64 v] 123) = W := ⟨_, rfl⟩
  have hb : Below w.heap.size w W := by rw [← hW]; exact (Below.refl _ _).alloc (Nat.le_refl _) _
  have hHW := h.next hb
  have hbl : Blk W w.heap.size #[.int .i64 (p : Int), .int .i64 (p : Int), .int .i64 v] 123 := by rw [← hW]; exact Blk.new _ _ _
  have k0 := hHW.cell
  have d0 : W.cell? ⟨w.heap.size, 0, none⟩ = some (.int .i64 (p : Int)) := hbl.cell rfl
  have d1 : W.cell? ⟨w.heap.size, 1, none⟩ = some (.int .i64 (p : Int)) := hbl.cell rfl
  have d2 : W.cell? ⟨w.heap.size, 2, none⟩ = some (.int .i64 v) := hbl.cell rfl
  have f0 := hHW.blk.free 0
  have hlt := hHW.blk.lt
  have HH := Lib.hid hHW
  have HBW := Lib.hid hb
  have HW := Lib.hid hW
  have HBB := Lib.hid (show B ≤ W.drew.heap.size from Nat.le_trans hB hb.size)
  have hta := assert_debt p p v
  clear h hb hHW hbl hW
  go_enter Tryz.func261, Tryz.ntmps261
  go_wp2_with fail
  rw [HW.out]
  go_wp2_with fail
  go_region_law (refine step_app_h (w := W.drew) rfl _ _ rfl rfl HH.out.drew.own (hd (p, v)) _ rfl _ rfl (by omega) HBB.out ?_; intro A' c' w' ho' hg' hat'; have hbl' := HH.out.drew.blk.grown hg' (fun e => HH.out.ne g e.symm rfl); have k9 := hbl'.cell (j := 0) rfl; have f9 := hbl'.free 0; have HO' := Lib.hid ho'; have HG' := Lib.hid hg'; have HAT' := Lib.hid hat'; have HBL' := Lib.hid hbl'; clear ho' hg' hat' hbl')
  all_goals (refine bodyPost_end (results_none rfl _ _ _) rfl ?_)
  all_goals exact ⟨⟨_, rfl⟩, push_out (p, v) HH.out HBW.out HO'.out HG'.out HAT'.out HBL'.out⟩
theorem Hp.some_ {w : World} {B g n c : Nat} {A : Option Addr} {xs : List (Nat × Int)} (h : Hp w B g A n c xs) (hn : 0 < n) : ∃ r, A = some ⟨r, 0, none⟩ ∧ B ≤ r ∧ r < w.heap.size := by
  obtain ⟨r, cur, rfl, hb, hg, _⟩ := h.own.blk_ hn
  exact ⟨r, rfl, hb, hg.lt⟩
set_option maxRecDepth 100000 in
set_option maxHeartbeats 1000000 in
theorem hPush_any (w : World) (B g n c : Nat) (A : Option Addr) (xs : List (Nat × Int)) (x : Nat × Int) (h : Hp w B g A n c xs) (hB : B ≤ w.heap.size) (hn : n ≤ 4) :
    Calls Tryz.prog 115 #[.iface 162 (.pointer (some ⟨g, 0, none⟩)), .iface 123 (hd x).val] w fun e w' => (∃ v, e = .returned v) ∧ PushPost w B g A n c (Ta.upL 3 (xs ++ [x]) xs.length) w' := by
  have hl := h.len
  have HL := Lib.hid hl
  have HH := Lib.hid h
  obtain ⟨p, v⟩ := x
  show Calls Tryz.prog 115 #[.iface 162 (.pointer (some ⟨g, 0, none⟩)), .iface 123 (.agg #[.int .i64 (p : Int), .int .i64 (p : Int), .int .i64 v])] w _
  clear h hl
  go_enter Tryz.func115, Tryz.ntmps115
  go_wp2_with fail
  refine (PushM_any w B g n c A xs (p, v) HH.out hB (by omega)).mono ?_
  rintro e w1 ⟨⟨v1, rfl⟩, A', c', hH1, hK1, hat1⟩
  rw [show (xs ++ [(p, v)]).length = n + 1 from by rw [List.length_append, HL.out]; rfl] at hH1 hat1
  obtain ⟨r, rfl, hr0, hr1⟩ := hH1.some_ (by omega)
  have hcell := hH1.cell
  have ml := method_len g (n + 1) c' (some ⟨r, 0, none⟩)
  have HH1 := Lib.hid hH1
  have HK1 := Lib.hid hK1
  have HAT := Lib.hid hat1
  clear hH1 hK1 hat1
  go_wp2_with fail
  refine (Len_any _ (n + 1) c' w1).mono ?_
  rintro e w2 ⟨rfl, rfl⟩
  go_wp2_with fail
  refine (up_any w1 B g (n + 1) c' r (xs ++ [(p, v)]) n 3 HH1.out (by omega) (by omega) (by omega)).mono ?_
  rintro e w3 ⟨⟨v3, rfl⟩, hH3, hG3⟩
  have hlen : (Ta.upL 3 (xs ++ [(p, v)]) n).length = n + 1 := by rw [Ta.upL_length, List.length_append, HL.out]; rfl
  have HP := Lib.hid (show PushPost w B g A n c (Ta.upL 3 (xs ++ [(p, v)]) xs.length) w3 from by
    rw [HL.out]
    refine ⟨_, c', by rw [hlen]; exact hH3, ?_, by rw [hlen]; exact HAT.out⟩
    have hK := HK1.out
    refine ⟨hG3.os.trans hK.os, hG3.tape.trans hK.tape, hG3.output.trans hK.output, Nat.le_trans hK.size hG3.size, fun k hk hn => (hG3.block k (Nat.lt_of_lt_of_le hk hK.size) (fun e => ?_)).trans (hK.block k hk hn)⟩
    have e : k = r := Option.some.inj e
    subst e
    rcases HAT.out k rfl with h1 | h1
    · exact hn (.inr h1)
    · omega)
  clear hH3 hG3 hlen
  go_wp2
  refine bodyPost_end (results_none rfl _ _ _) rfl ⟨⟨_, rfl⟩, HP.out⟩

/-- the row without its last debt -/
theorem OwnD.init {w : World} {B n c g : Nat} {ds : List Db} {d : Db} (h : OwnD w B (some ⟨g, 0, none⟩) (n + 1) c (ds ++ [d])) : OwnD w B (some ⟨g, 0, none⟩) n c ds := by
  have hl := h.dbs.len
  have hl2 : ds.length = n := by simpa using hl
  refine ⟨⟨by rw [DV_length, hl2], ?_⟩, by have := h.2; omega⟩
  rcases h.1.2 with ⟨h1, _⟩ | ⟨g', cap, cur, hv, hb, hg, h1, h2, h3, h4⟩
  · cases h1
  · injection hv with e1 e2 e3
    subst e3
    refine .inr ⟨g', c, cur, by rw [e1], hb, hg, by omega, h2, h3, ?_⟩
    have := congrArg (List.take (n * 3)) h4
    rw [List.take_take, DV_append, List.take_left' (by rw [DV_length, hl2])] at this
    rw [← this, Nat.min_eq_left (by omega)]
/-- what Pop gives -/
def PopPost (w : World) (B g r n c : Nat) (ys : List (Nat × Int)) (w' : World) : Prop := Hp w' B g (some ⟨r, 0, none⟩) n c ys ∧ Kept w w' (fun k => k = g ∨ k = r)
theorem pop_out {w : World} {B g r n c : Nat} {ys : List (Nat × Int)} {z : Nat × Int} {o : Obj} (h : Hp w B g (some ⟨r, 0, none⟩) (n + 1) c (ys ++ [z])) (ho : OwnD w B (some ⟨r, 0, none⟩) n c (HL ys)) :
    PopPost w B g r n c ys ((w.setCell ⟨g, 0, none⟩ (.slice (some ⟨r, 0, none⟩) n c)).alloc o) := by
  have g2 := h.blk.grows 0 (.slice (some ⟨r, 0, none⟩) n c)
  have hrg : r ≠ g := h.ne r rfl
  refine ⟨⟨?_, ?_, fun k hk => h.ne k hk⟩, ?_⟩
  · have := (h.blk.set 0 (.slice (some ⟨r, 0, none⟩) n c)).alloc o
    simpa using this
  · exact (ho.kept g2 (fun q hq e => by injection e with e; injection hq with hq; exact hrg (hq.trans e.symm))).alloc o
  · refine ⟨g2.os, g2.tape, g2.output, by rw [World.size_alloc, size_set]; omega, fun k hk hn => ?_⟩
    exact (Below.heap_alloc _ _ k (by rw [size_set]; exact hk)).trans (g2.block k hk (fun e => hn (.inl (Option.some.inj e))))
set_option maxRecDepth 100000 in
set_option maxHeartbeats 1000000 in
theorem PopM_any (w : World) (B g r n c : Nat) (ys : List (Nat × Int)) (z : Nat × Int) (h : Hp w B g (some ⟨r, 0, none⟩) (n + 1) c (ys ++ [z])) (hn : n ≤ 1000) :
    Calls Tryz.prog 260 #[.pointer (some ⟨g, 0, none⟩)] w fun e w' => e = .returned (.iface 123 (hd z).val) ∧ PopPost w B g r n c ys w' := by
  have hl : ys.length = n := by have := h.len; simpa using this
  have hz : (ys ++ [z])[n]? = some z := by rw [List.getElem?_append_right (by omega), hl]; simp
  obtain ⟨k0, k1, k2⟩ := h.own.cell3 (HL_get hz)
  obtain ⟨p, v⟩ := z
  simp only [hd] at k0 k1 k2
  have hc := h.cell
  have f0 := h.blk.free 0
  have hlt := h.blk.lt
  have hcap := h.own.cap
  have ho : OwnD w B (some ⟨r, 0, none⟩) n c (HL ys) := by
    have := h.own
    rw [show HL (ys ++ [(p, v)]) = HL ys ++ [hd (p, v)] from by simp [HL]] at this
    exact this.init
  have HO := Lib.hid ho
  have HH := Lib.hid h
  clear h hl hz ho
  show Calls Tryz.prog 260 #[.pointer (some ⟨g, 0, none⟩)] w fun e w' => e = .returned (.iface 123 (.agg #[.int .i64 (p : Int), .int .i64 (p : Int), .int .i64 v])) ∧ PopPost w B g r n c ys w'
  go_enter Tryz.func260, Tryz.ntmps260
  go_wp2_with fail
  go_ret
  exact ⟨rfl, pop_out (o := .cells #[.int .i64 (p : Int), .int .i64 (p : Int), .int .i64 v] 123) HH.out HO.out⟩

set_option maxRecDepth 100000 in
set_option maxHeartbeats 1000000 in
theorem hPop_any (w : World) (B g r n c : Nat) (x : Nat × Int) (xs : List (Nat × Int)) (h : Hp w B g (some ⟨r, 0, none⟩) (n + 1) c (x :: xs)) (hh : Ta.Heap (x :: xs)) (hn : n ≤ 4) :
    Calls Tryz.prog 116 #[.iface 162 (.pointer (some ⟨g, 0, none⟩))] w fun e w' => (∃ v, e = .returned v) ∧ ∃ ys, Ta.Heap ys ∧ ys.Perm xs ∧ PopPost w B g r n c ys w' := by
  have hl : xs.length = n := by have := h.len; simpa using this
  obtain ⟨ys, e1, hy, hp, hyl⟩ := Ta.down_ok x xs hh
  rw [hl] at e1
  obtain ⟨z, hz⟩ : ∃ z, (x :: xs)[n]? = some z := ⟨_, List.getElem?_eq_getElem (by simp; omega)⟩
  have hc := h.cell
  have ml := method_len g (n + 1) c (some ⟨r, 0, none⟩)
  have ms := method_swap g (n + 1) c (some ⟨r, 0, none⟩)
  have HH := Lib.hid h
  have HZ := Lib.hid hz
  have HE := Lib.hid e1
  have HY := Lib.hid (And.intro hy hp)
  clear h hh hl hz e1 hy hp hyl
  go_enter Tryz.func116, Tryz.ntmps116
  go_wp2_with fail
  refine (Len_any _ (n + 1) c w).mono ?_
  rintro e w1 ⟨rfl, rfl⟩
  go_wp2_with fail
  refine (Swap_any r (n + 1) c B (x :: xs) 0 n x z w HH.out.own rfl HZ.out).mono ?_
  rintro e w2 ⟨⟨v2, rfl⟩, hO2, hG2⟩
  have hH2 : Hp w2 B g (some ⟨r, 0, none⟩) (n + 1) c (Ta.swapL (x :: xs) 0 n) := ⟨HH.out.blk.grown hG2 (by intro e; injection e with e; exact HH.out.ne r rfl e.symm), hO2, HH.out.ne⟩
  have HH2 := Lib.hid hH2
  have HG2 := Lib.hid hG2
  clear hO2 hG2 hH2
  go_wp2_with fail
  refine (down_any w2 B g (n + 1) c r (Ta.swapL (x :: xs) 0 n) n 3 HH2.out (by omega) (by omega) (by omega)).mono ?_
  rintro e w3 ⟨⟨v3, rfl⟩, hH3, hG3⟩
  rw [HE.out] at hH3
  have HH3 := Lib.hid hH3
  have HG3 := Lib.hid hG3
  clear hH3 hG3
  go_wp2_with fail
  refine (PopM_any w3 B g r n c ys x HH3.out (by omega)).mono ?_
  rintro e w4 ⟨rfl, hP⟩
  have HP := Lib.hid (show PopPost w B g r n c ys w4 from ⟨hP.1, ((Kept.of_grown (HG2.out.then_ HG3.out (fun k hk => .inr hk))).mono (fun k _ hk => .inr (by injection hk with hk; exact hk.symm))).trans (hP.2.mono (fun k _ hk => hk))⟩)
  clear hP
  go_wp2
  go_ret
  exact ⟨⟨_, rfl⟩, ys, HY.out.1, HY.out.2, HP.out⟩
set_option maxRecDepth 100000 in
set_option maxHeartbeats 1000000 in
theorem heap_take_any (w : World) (B g r n c : Nat) (x : Nat × Int) (xs : List (Nat × Int)) (h : Hp w B g (some ⟨r, 0, none⟩) (n + 1) c (x :: xs)) (hh : Ta.Heap (x :: xs)) (hn : n ≤ 4) :
    Calls Tryz.prog 83 #[.pointer (some ⟨g, 0, none⟩)] w fun e w' => e = .returned (hd x).val ∧ ∃ ys, Ta.Heap ys ∧ ys.Perm xs ∧ PopPost w B g r n c ys w' := by
  obtain ⟨p, v⟩ := x
  show Calls Tryz.prog 83 #[.pointer (some ⟨g, 0, none⟩)] w fun e w' => e = .returned (.agg #[.int .i64 (p : Int), .int .i64 (p : Int), .int .i64 v]) ∧ _
  obtain ⟨k0, k1, k2⟩ := h.own.cell3 (i := 0) (d := hd (p, v)) rfl
  simp only [Nat.zero_mul, Nat.zero_add, hd] at k0 k1 k2
  have hc := h.cell
  have hlt := h.blk.lt
  have hrl : r < w.heap.size := (h.own.blk r rfl).2
  obtain ⟨W, hW⟩ : ∃ W, (w.alloc (.cells #[.int .i64 0, .int .i64 0, .int .i64 0] 123)).alloc (.cells #[.int .i64 (p : Int), .int .i64 (p : Int), .int .i64 v] 123) = W := ⟨_, rfl⟩
  have hb : Below w.heap.size w W := by rw [← hW]; exact ((Below.refl _ _).alloc (Nat.le_refl _) _).alloc (by simp) _
  have hHW := h.next hb
  have hsz : W.heap.size = w.heap.size + 2 := by rw [← hW]; simp
  have hb2 : Blk W w.heap.size #[.int .i64 0, .int .i64 0, .int .i64 0] 123 := by rw [← hW]; exact (Blk.new _ _ _).alloc _
  have hb3 : Blk W (w.heap.size + 1) #[.int .i64 (p : Int), .int .i64 (p : Int), .int .i64 v] 123 := by
    rw [← hW]
    have := Blk.new (w.alloc (.cells #[.int .i64 0, .int .i64 0, .int .i64 0] 123)) #[.int .i64 (p : Int), .int .i64 (p : Int), .int .i64 v] 123
    simpa using this
  have HH := Lib.hid hHW
  have HBW := Lib.hid hb
  have HW := Lib.hid hW
  have HB2 := Lib.hid hb2
  have HB3 := Lib.hid hb3
  have HSZ := Lib.hid hsz
  have HHP := Lib.hid hh
  clear h hb hHW hb2 hb3 hsz hW hh
  go_enter Tryz.func83, Tryz.ntmps83
  go_wp2_with fail
  rw [HW.out]
  refine (hPop_any W B g r n c (p, v) xs HH.out HHP.out hn).mono ?_
  rintro e w3 ⟨⟨v3, rfl⟩, ys, hy, hp, hP⟩
  have hsz := HSZ.out
  have q2 := HB2.out.keep (hP.2.block w.heap.size (by omega) (by rintro (e | e) <;> omega))
  have q3 := HB3.out.keep (hP.2.block (w.heap.size + 1) (by omega) (by rintro (e | e) <;> omega))
  have m0 : w3.cell? ⟨w.heap.size, 0, none⟩ = some (.int .i64 0) := q2.cell rfl
  have m1 : w3.cell? ⟨w.heap.size, 1, none⟩ = some (.int .i64 0) := q2.cell rfl
  have m2 : w3.cell? ⟨w.heap.size, 2, none⟩ = some (.int .i64 0) := q2.cell rfl
  have f0 := q2.free 0
  have f1 := q2.free 1
  have f2 := q2.free 2
  have l0 : w3.cell? ⟨w.heap.size + 1, 0, none⟩ = some (.int .i64 (p : Int)) := q3.cell rfl
  have l1 : w3.cell? ⟨w.heap.size + 1, 1, none⟩ = some (.int .i64 (p : Int)) := q3.cell rfl
  have l2 : w3.cell? ⟨w.heap.size + 1, 2, none⟩ = some (.int .i64 v) := q3.cell rfl
  have HP := Lib.hid hP
  have HY := Lib.hid (And.intro hy hp)
  have HQ2 := Lib.hid q2
  clear hP hy hp q2 q3 hsz k0 k1 k2 hc
  go_wp2_with fail
  have hf := HQ2.out.set3 (.int .i64 (p : Int)) (.int .i64 (p : Int)) (.int .i64 v)
  have g0 := hf.cell (j := 0) rfl
  have g1 := hf.cell (j := 1) rfl
  have g2 := hf.cell (j := 2) rfl
  refine bodyPost_ret (v := .agg #[.int .i64 (p : Int), .int .i64 (p : Int), .int .i64 v]) (by simp [results, Tryz.results83, go_sem, g0, g1, g2]) rfl ⟨rfl, ys, HY.out.1, HY.out.2, ?_⟩
  have gg := grown_set3 w3 w.heap.size 0 1 2 (.int .i64 (p : Int)) (.int .i64 (p : Int)) (.int .i64 v)
  have hK := HP.out.2
  have hsz := HSZ.out
  refine ⟨HP.out.1.kept (Kept.of_grown gg) (fun e => by injection e with e; omega) (fun k hk e => by have hk : (some r : Option Nat) = some k := hk; injection hk with hk; injection e with e; omega), ?_⟩
  refine ⟨gg.os.trans (hK.os.trans HBW.out.os), gg.tape.trans (hK.tape.trans HBW.out.tape), gg.output.trans (hK.output.trans HBW.out.output), Nat.le_trans HBW.out.size (Nat.le_trans hK.size gg.size), fun k hk hn => ?_⟩
  exact (gg.block k (Nat.lt_of_lt_of_le (by omega) hK.size) (fun e => by injection e with e; omega)).trans ((hK.block k (by omega) hn).trans (HBW.out.block k hk))

/-- what put gives: the debt is in, or it is worth nothing -/
def PutPost (w : World) (B g : Nat) (A : Option Addr) (n c : Nat) (xs : List (Nat × Int)) (x : Nat × Int) (w' : World) : Prop :=
  PushPost w B g A n c (if 0 < x.2 then Ta.upL 3 (xs ++ [x]) xs.length else xs) w'
set_option maxRecDepth 100000 in
set_option maxHeartbeats 1000000 in
theorem put_any (w : World) (B g n c : Nat) (A : Option Addr) (xs : List (Nat × Int)) (x : Nat × Int) (h : Hp w B g A n c xs) (hB : B ≤ w.heap.size) (hn : n ≤ 4) :
    Calls Tryz.prog 82 #[.pointer (some ⟨g, 0, none⟩), (hd x).val] w fun e w' => (∃ v, e = .returned v) ∧ PutPost w B g A n c xs x w' := by
  have hl := h.len
  obtain ⟨p, v⟩ := x
  show Calls Tryz.prog 82 #[.pointer (some ⟨g, 0, none⟩), .agg #[.int .i64 (p : Int), .int .i64 (p : Int), .int .i64 v]] w _
  obtain ⟨W, hW⟩ : ∃ W, w.alloc (.cells #[.int .i64 (p : Int), .int .i64 (p : Int), .int .i64 v] 123) = W := ⟨_, rfl⟩
  have hb : Below w.heap.size w W := by rw [← hW]; exact (Below.refl _ _).alloc (Nat.le_refl _) _
  have hHW := h.next hb
  have hsz : W.heap.size = w.heap.size + 1 := by rw [← hW]; simp
  have hbl : Blk W w.heap.size #[.int .i64 (p : Int), .int .i64 (p : Int), .int .i64 v] 123 := by rw [← hW]; exact Blk.new _ _ _
  have d0 : W.cell? ⟨w.heap.size, 0, none⟩ = some (.int .i64 (p : Int)) := hbl.cell rfl
  have d1 : W.cell? ⟨w.heap.size, 1, none⟩ = some (.int .i64 (p : Int)) := hbl.cell rfl
  have d2 : W.cell? ⟨w.heap.size, 2, none⟩ = some (.int .i64 v) := hbl.cell rfl
  have HH := Lib.hid hHW
  have H0 := Lib.hid h
  have HBW := Lib.hid hb
  have HW := Lib.hid hW
  have HL := Lib.hid hl
  clear h hb hHW hbl hW hl
  by_cases hv : 0 < v
  · have HPP := Lib.hid (show ∀ w', PushPost W B g A n c (Ta.upL 3 (xs ++ [(p, v)]) xs.length) w' → PutPost w B g A n c xs (p, v) w' from fun w' hP => by
      rw [PutPost, if_pos hv]
      obtain ⟨A', c', h1, h2, h3⟩ := hP
      refine ⟨A', c', h1, ⟨h2.os.trans HBW.out.os, h2.tape.trans HBW.out.tape, h2.output.trans HBW.out.output, Nat.le_trans HBW.out.size h2.size, fun k hk hn => (h2.block k (by omega) hn).trans (HBW.out.block k hk)⟩, fun k hk => ?_⟩
      rcases h3 k hk with h | h
      · exact .inl h
      · exact .inr (by omega))
    have hB' : B ≤ W.heap.size := by omega
    clear hsz
    go_enter Tryz.func82, Tryz.ntmps82
    go_wp2_with fail
    rw [HW.out]
    go_wp2_with fail
    refine (hPush_any W B g n c A xs (p, v) HH.out hB' hn).mono ?_
    rintro e w3 ⟨⟨v3, rfl⟩, hP⟩
    have HP := Lib.hid (HPP.out w3 hP)
    clear hP
    go_wp2
    refine bodyPost_end (results_none rfl _ _ _) rfl ⟨⟨_, rfl⟩, HP.out⟩
  · have HPP := Lib.hid (show PutPost w B g A n c xs (p, v) W from by
      rw [PutPost, if_neg hv]
      refine ⟨A, c, by rw [HL.out]; exact HH.out, ⟨HBW.out.os, HBW.out.tape, HBW.out.output, HBW.out.size, fun k hk _ => HBW.out.block k hk⟩, fun k hk => .inl (by rw [← HL.out]; exact hk)⟩)
    clear hsz
    go_enter Tryz.func82, Tryz.ntmps82
    go_wp2_with fail
    rw [HW.out]
    go_wp2
    refine bodyPost_end (results_none rfl _ _ _) rfl ⟨⟨_, rfl⟩, HPP.out⟩
end Go.Proofs.YthdoofmfigemoaaGreatDoor
end

section
/-
  The debts of a list of tallies, and the balances.
-/
namespace Go.Proofs.YthdoofmfigemoaaGreatDoor
open Go.RowKit
set_option linter.unusedSimpArgs false

def okB (t : Tl) : Bool := matchB t && decide (1 ≤ worthB t.s)
def okL (ts : List Tl) : Bool := decide (ts.length ≤ 12) && ts.all okB
def debtOf (t : Tl) : Db := ⟨t.a, t.c, worthB t.s⟩
/-- the texts of tallies are no greater than memory -/
def Small (ts : List Tl) : Prop := ∀ t ∈ ts, t.s.size ≤ 1099511627776 ∧ t.f.size ≤ 1099511627776
def DebtsPost (w : World) (n : Nat) (ts : List Tl) (e : Ending) (w' : World) : Prop :=
  ((okL ts = true ∧ ∃ A c, e = .returned (.tuple #[.slice A n c, .bool true]) ∧ OwnD w' w.heap.size A n c (ts.map debtOf)) ∨ (okL ts = false ∧ e = .returned (.tuple #[.slice none 0 0, .bool false]))) ∧ Below w.heap.size w w'
theorem okL_no {ts : List Tl} {k : Nat} {t : Tl} (h : ts[k]? = some t) (ht : okB t = false) : okL ts = false := by
  unfold okL
  have : ts.all okB = false := by
    cases hb : ts.all okB with
    | false => rfl
    | true => have := List.all_eq_true.1 hb t (List.mem_of_getElem? h); rw [ht] at this; cases this
  rw [this]; simp
set_option maxRecDepth 100000 in
set_option maxHeartbeats 1000000 in
theorem debtsOf_any (A : Option Addr) (n c : Nat) (ts : List Tl) (w : World) (hr : Tals w w.heap.size A n ts) (hsm : Small ts) : Calls Tryz.prog 80 #[.slice A n c] w (DebtsPost w n ts) := by
  have hl := hr.len
  by_cases h12 : n ≤ 12
  · have HL := Lib.hid hl
    have HR := Lib.hid hr
    have HSM := Lib.hid hsm
    have hn : ¬ (n : Int) > 12 := by omega
    clear hr hl hsm
    go_enter Tryz.func80, Tryz.ntmps80
    go_wp2_with (refine wpList_make_d rfl _ _ rfl (B := w.heap.size) (n : Int) rfl rfl rfl (by omega) (Nat.le_refl _) ?_; intro w1 hown hg)
    go_loopw [4, 16] (fun sv iv wr => ∃ (k c' : Nat) (A' : Option Addr), k ≤ n ∧ iv = .int .i64 (k : Int) ∧ sv = .slice A' k c' ∧ OwnD wr w.heap.size A' k c' ((ts.take k).map debtOf) ∧ Below w.heap.size w wr ∧ (∀ t ∈ ts.take k, okB t = true)) (fun _ iv _ => n - (intOf iv).toNat)
    case atStart => exact ⟨0, n, _, by omega, rfl, rfl, by simpa [DV] using hown, grown_below hg (Nat.le_refl _) (by simp), by simp⟩
    case round =>
      obtain ⟨k, c', A', hk, rfl, rfl, ho, hb, hok⟩ := hrel
      have HO := Lib.hid ho
      have HB := Lib.hid hb
      have HOK := Lib.hid hok
      clear ho hb hok hown hg
      by_cases hlt : k < n
      · obtain ⟨b, off, t, rfl, hlb, ht, k0, k1, k2, k3⟩ := Tals.at_ (show Tals wr w.heap.size A n ts from HR.out.below HB.out) hlt
        have HT := Lib.hid ht
        have hts := HSM.out t (List.mem_of_getElem? ht)
        obtain ⟨a, cc, s, f⟩ := t
        simp only at k0 k1 k2 k3 hts
        obtain ⟨W, hW⟩ : ∃ W, wr.alloc (.cells #[.int .i64 a, .int .i64 cc, .string s, .string f] 52) = W := ⟨_, rfl⟩
        have hbW : Below wr.heap.size wr W := by rw [← hW]; exact (Below.refl _ _).alloc (Nat.le_refl _) _
        have hbl : Blk W wr.heap.size #[.int .i64 a, .int .i64 cc, .string s, .string f] 52 := by rw [← hW]; exact Blk.new _ _ _
        have m2 : W.cell? ⟨wr.heap.size, 2, none⟩ = some (.string s) := hbl.cell rfl
        have HW := Lib.hid hW
        have HBL := Lib.hid hbl
        have HBW := Lib.hid hbW
        clear hW hbl hbW ht
        go_wp2_with fail
        rw [HW.out]
        go_wp2_with fail
        refine (NotchesWorth_any s W hts.1).mono ?_
        rintro e w2 ⟨rfl, hb2⟩
        have hbl2 := HBL.out.next hb2
        have p0 : w2.cell? ⟨wr.heap.size, 0, none⟩ = some (.int .i64 a) := hbl2.cell rfl
        have p1 : w2.cell? ⟨wr.heap.size, 1, none⟩ = some (.int .i64 cc) := hbl2.cell rfl
        have p2 : w2.cell? ⟨wr.heap.size, 2, none⟩ = some (.string s) := hbl2.cell rfl
        have p3 : w2.cell? ⟨wr.heap.size, 3, none⟩ = some (.string f) := hbl2.cell rfl
        have HBL2 := Lib.hid hbl2
        have HB2 := Lib.hid (below_chain HBW.out hb2)
        clear hbl2 hb2 m2 k0 k1 k2 k3
        go_wp2_with fail
        refine (TallyMatches_any ⟨a, cc, s, f⟩ w2 hts.1).mono ?_
        rintro e w3 ⟨rfl, hb3⟩
        have hbl3 := HBL2.out.next hb3
        have q0 : w3.cell? ⟨wr.heap.size, 0, none⟩ = some (.int .i64 a) := hbl3.cell rfl
        have q1 : w3.cell? ⟨wr.heap.size, 1, none⟩ = some (.int .i64 cc) := hbl3.cell rfl
        have HB3 := Lib.hid (below_chain HB2.out hb3)
        clear hb3 hbl3 p0 p1 p2 p3
        obtain ⟨v, hv⟩ : ∃ v, worthB s = v := ⟨_, rfl⟩
        have HV := Lib.hid hv
        rw [hv]
        rcases hm : matchB ⟨a, cc, s, f⟩ with _ | _
        · have HNO := Lib.hid (okL_no HT.out (by simp [okB, hm]))
          clear hm hv
          go_wp2
          go_ret2
          exact ⟨.inr ⟨HNO.out, rfl⟩, HB.out.trans (HB3.out.mono HB.out.size)⟩
        · by_cases h1 : v < 1
          · have HNO := Lib.hid (okL_no HT.out (by simp [okB, hv]; intro _; omega))
            clear hm hv
            go_wp2
            go_ret2
            exact ⟨.inr ⟨HNO.out, rfl⟩, HB.out.trans (HB3.out.mono HB.out.size)⟩
          · have HYES := Lib.hid (show okB ⟨a, cc, s, f⟩ = true by simp [okB, hm, hv]; omega)
            clear hm hv
            go_wp2_with (refine wpList_app_d rfl _ _ rfl rfl (HO.out.next HB3.out) ⟨a, cc, v⟩ _ rfl _ rfl (by omega) (Nat.le_trans HB.out.size HB3.out.size) ?_; intro A2 c2 w4 ho4 hg4)
            refine ⟨⟨k + 1, c2, A2, by omega, by go_num, rfl, ?_, ?_, ?_⟩, ?_⟩
            · rw [take_next HT.out, List.map_append]
              simp only [List.map_cons, List.map_nil, debtOf]
              rw [HV.out]
              exact ho4
            · exact (HB.out.trans (HB3.out.mono HB.out.size)).grown hg4 (Nat.le_trans HB.out.size HB3.out.size) (fun q hq => (HO.out.blk q hq).1)
            · rw [take_next HT.out]
              intro u hu
              rcases List.mem_append.1 hu with h | h
              · exact HOK.out u h
              · obtain rfl := List.mem_singleton.1 h
                exact HYES.out
            · simp [intOf]
              omega
      · obtain rfl : k = n := by omega
        have HYES := Lib.hid (show okL ts = true by
          have h := HOK.out
          rw [List.take_of_length_le (by have := HL.out; omega)] at h
          simp only [okL, Bool.and_eq_true, decide_eq_true_eq, List.all_eq_true]
          exact ⟨by have := HL.out; omega, h⟩)
        go_wp2
        go_ret2
        refine ⟨.inl ⟨HYES.out, A', c', rfl, ?_⟩, HB.out⟩
        have := HO.out
        rwa [List.take_of_length_le (by have := HL.out; omega)] at this
  · have hno : okL ts = false := by simp [okL]; omega
    have hn : (n : Int) > 12 := by omega
    go_enter Tryz.func80, Tryz.ntmps80
    go_wp2
    go_ret2
    exact ⟨.inr ⟨hno, rfl⟩, Below.refl _ _⟩

/-! balances -/
def upd (b : List Int) (d : Db) : List Int := (b.set d.a.toNat (b.getD d.a.toNat 0 - d.v)).set d.c.toNat ((b.set d.a.toNat (b.getD d.a.toNat 0 - d.v)).getD d.c.toNat 0 + d.v)
def bal (ds : List Db) : List Int := ds.foldl upd [0, 0, 0, 0, 0]
/-- debts between people, worth no more than notches are -/
def Fair (ds : List Db) : Prop := ds.length ≤ 12 ∧ ∀ d ∈ ds, Two d.a d.c ∧ 0 ≤ d.v ∧ d.v ≤ 36000
theorem upd_length (b : List Int) (d : Db) : (upd b d).length = b.length := by simp [upd]
theorem bal_length (ds : List Db) : (bal ds).length = 5 := by
  unfold bal
  suffices h : ∀ (ds : List Db) (b : List Int), b.length = 5 → (ds.foldl upd b).length = 5 from h ds _ rfl
  intro ds
  induction ds with
  | nil => intro b h; exact h
  | cons d ds ih => intro b h; exact ih _ (by rw [upd_length, h])
def five (b : List Int) : Array Value := (IV b).toArray
end Go.Proofs.YthdoofmfigemoaaGreatDoor
end

section
/-
  Who pays whom: the greatest debt to the greatest claim each time; what this comes to. No program in sight.
-/
namespace Go.Proofs.YthdoofmfigemoaaGreatDoor.Ta

def lowK (b : List Int) : Nat → Nat
  | 0 => 0
  | k + 1 => if b.getD k 0 < b.getD (lowK b k) 0 then k else lowK b k
def highK (b : List Int) : Nat → Nat
  | 0 => 0
  | k + 1 => if b.getD (highK b k) 0 < b.getD k 0 then k else highK b k
theorem lowK_spec (b : List Int) : ∀ k, (∀ i, i < k → b.getD (lowK b k) 0 ≤ b.getD i 0) ∧ (∀ i, i < lowK b k → b.getD (lowK b k) 0 < b.getD i 0) ∧ (0 < k → lowK b k < k) ∧ lowK b k ≤ k
  | 0 => ⟨fun i hi => by omega, fun i hi => by simp [lowK] at hi, fun h => by omega, Nat.le_refl _⟩
  | k + 1 => by
    obtain ⟨h1, h2, h3, h4⟩ := lowK_spec b k
    unfold lowK
    by_cases hc : b.getD k 0 < b.getD (lowK b k) 0
    · rw [if_pos hc]
      refine ⟨fun i hi => ?_, fun i hi => ?_, fun _ => by omega, by omega⟩
      · by_cases e : i = k
        · subst e; omega
        · have := h1 i (by omega); omega
      · have := h1 i hi; omega
    · rw [if_neg hc]
      refine ⟨fun i hi => ?_, h2, fun _ => by omega, by omega⟩
      by_cases e : i = k
      · subst e; omega
      · exact h1 i (by omega)
theorem highK_spec (b : List Int) : ∀ k, (∀ i, i < k → b.getD i 0 ≤ b.getD (highK b k) 0) ∧ (∀ i, i < highK b k → b.getD i 0 < b.getD (highK b k) 0) ∧ (0 < k → highK b k < k) ∧ highK b k ≤ k
  | 0 => ⟨fun i hi => by omega, fun i hi => by simp [highK] at hi, fun h => by omega, Nat.le_refl _⟩
  | k + 1 => by
    obtain ⟨h1, h2, h3, h4⟩ := highK_spec b k
    unfold highK
    by_cases hc : b.getD (highK b k) 0 < b.getD k 0
    · rw [if_pos hc]
      refine ⟨fun i hi => ?_, fun i hi => ?_, fun _ => by omega, by omega⟩
      · by_cases e : i = k
        · subst e; omega
        · have := h1 i (by omega); omega
      · have := h1 i hi; omega
    · rw [if_neg hc]
      refine ⟨fun i hi => ?_, h2, fun _ => by omega, by omega⟩
      by_cases e : i = k
      · subst e; omega
      · exact h1 i (by omega)
def low (b : List Int) : Nat := lowK b 5
def high (b : List Int) : Nat := highK b 5
def due (b : List Int) : Int := min (b.getD (high b) 0) (0 - b.getD (low b) 0)
def pay (b : List Int) (l h : Nat) (n : Int) : List Int := (b.set l (b.getD l 0 + n)).set h (b.getD h 0 - n)
def settle : Nat → List Int → Option (List (Nat × Nat × Int))
  | 0, _ => some []
  | f + 1, b => if due b = 0 then some [] else if due b < 1 ∨ 9999 < due b then none else (settle f (pay b (low b) (high b) (due b))).map fun r => (low b, high b, due b) :: r

/-! sums over a list -/
def tot (f : Int → Int) : List Int → Int
  | [] => 0
  | x :: xs => f x + tot f xs
theorem tot_set (f : Int → Int) : ∀ (b : List Int) (l : Nat) (v : Int), l < b.length → tot f (b.set l v) = tot f b - f (b.getD l 0) + f v
  | [], _, _, h => by simp at h
  | x :: xs, 0, v, _ => by simp [tot]; omega
  | x :: xs, l + 1, v, h => by
    have := tot_set f xs l v (by simpa using h)
    simp only [List.set_cons_succ, tot, List.getD_cons_succ]
    omega
def one (x : Int) : Int := if x = 0 then 0 else 1
def sum (b : List Int) : Int := tot id b
def nz (b : List Int) : Int := tot one b
def pos (b : List Int) : Int := tot (fun x => max 0 x) b
theorem getD_set (b : List Int) (l i : Nat) (v : Int) (hl : l < b.length) : (b.set l v).getD i 0 = if i = l then v else b.getD i 0 := by
  rw [List.getD_eq_getElem?_getD, List.getD_eq_getElem?_getD, List.getElem?_set]
  by_cases h : l = i
  · subst h; simp [hl]
  · rw [if_neg h, if_neg (Ne.symm h)]
/-- balances that even out -/
def Bal (b : List Int) : Prop := b.length = 5 ∧ sum b = 0
theorem five {b : List Int} (h : b.length = 5) : ∃ a0 a1 a2 a3 a4, b = [a0, a1, a2, a3, a4] := by
  match b, h with
  | [a0, a1, a2, a3, a4], _ => exact ⟨a0, a1, a2, a3, a4, rfl⟩
theorem low_lt (b : List Int) : low b < 5 := (lowK_spec b 5).2.2.1 (by omega)
theorem high_lt (b : List Int) : high b < 5 := (highK_spec b 5).2.2.1 (by omega)
/-- what the greatest and the least come to -/
theorem due_spec {b : List Int} (h : Bal b) : 0 ≤ due b ∧ (due b = 0 → ∀ i, i < 5 → b.getD i 0 = 0) ∧ (due b ≠ 0 → b.getD (low b) 0 < 0 ∧ 0 < b.getD (high b) 0 ∧ low b ≠ high b) := by
  obtain ⟨hl, hs⟩ := h
  obtain ⟨a0, a1, a2, a3, a4, rfl⟩ := five hl
  have l0 := (lowK_spec [a0, a1, a2, a3, a4] 5).1
  have h0 := (highK_spec [a0, a1, a2, a3, a4] 5).1
  have e1 : ∀ x, x = ([a0, a1, a2, a3, a4] : List Int).getD (low [a0, a1, a2, a3, a4]) 0 → x ≤ a0 ∧ x ≤ a1 ∧ x ≤ a2 ∧ x ≤ a3 ∧ x ≤ a4 := fun x hx => by
    subst hx
    exact ⟨l0 0 (by omega), l0 1 (by omega), l0 2 (by omega), l0 3 (by omega), l0 4 (by omega)⟩
  have e2 : ∀ x, x = ([a0, a1, a2, a3, a4] : List Int).getD (high [a0, a1, a2, a3, a4]) 0 → a0 ≤ x ∧ a1 ≤ x ∧ a2 ≤ x ∧ a3 ≤ x ∧ a4 ≤ x := fun x hx => by
    subst hx
    exact ⟨h0 0 (by omega), h0 1 (by omega), h0 2 (by omega), h0 3 (by omega), h0 4 (by omega)⟩
  simp only [sum, tot, id] at hs
  unfold due
  generalize hx : ([a0, a1, a2, a3, a4] : List Int).getD (low [a0, a1, a2, a3, a4]) 0 = x at *
  generalize hy : ([a0, a1, a2, a3, a4] : List Int).getD (high [a0, a1, a2, a3, a4]) 0 = y at *
  obtain ⟨p0, p1, p2, p3, p4⟩ := e1 x rfl
  obtain ⟨q0, q1, q2, q3, q4⟩ := e2 y rfl
  refine ⟨by omega, fun hd i hi => ?_, fun hd => ⟨by omega, by omega, fun e => ?_⟩⟩
  · have : a0 = 0 ∧ a1 = 0 ∧ a2 = 0 ∧ a3 = 0 ∧ a4 = 0 := by omega
    obtain ⟨rfl, rfl, rfl, rfl, rfl⟩ := this
    match i, hi with
    | 0, _ => rfl
    | 1, _ => rfl
    | 2, _ => rfl
    | 3, _ => rfl
    | 4, _ => rfl
  · rw [e] at hx
    rw [hx] at hy
    omega
theorem pay_length (b : List Int) (l h : Nat) (n : Int) : (pay b l h n).length = b.length := by simp [pay]
theorem pay_getD {b : List Int} {l h : Nat} (n : Int) (hl : l < b.length) (hh : h < b.length) (hne : l ≠ h) (i : Nat) : (pay b l h n).getD i 0 = b.getD i 0 + (if i = l then n else 0) - (if i = h then n else 0) := by
  unfold pay
  rw [getD_set _ _ _ _ (by simpa using hh), getD_set _ _ _ _ hl]
  by_cases e1 : i = h
  · subst e1; rw [if_pos rfl, if_pos rfl, if_neg (Ne.symm hne)]; omega
  · rw [if_neg e1, if_neg e1]
    by_cases e2 : i = l
    · subst e2; simp
    · rw [if_neg e2, if_neg e2]; omega
theorem tot_pay (f : Int → Int) {b : List Int} {l h : Nat} (n : Int) (hl : l < b.length) (hh : h < b.length) (hne : l ≠ h) : tot f (pay b l h n) = tot f b - f (b.getD l 0) + f (b.getD l 0 + n) - f (b.getD h 0) + f (b.getD h 0 - n) := by
  unfold pay
  rw [tot_set f _ h _ (by simpa using hh), tot_set f _ l _ hl, getD_set _ _ _ _ hl, if_neg (Ne.symm hne)]
theorem pay_bal {b : List Int} (h : Bal b) (hd : due b ≠ 0) : Bal (pay b (low b) (high b) (due b)) := by
  obtain ⟨_, _, hne⟩ := (due_spec h).2.2 hd
  have hl := h.1
  refine ⟨by rw [pay_length, hl], ?_⟩
  have := h.2
  unfold sum at *
  rw [tot_pay id _ (by rw [hl]; exact low_lt b) (by rw [hl]; exact high_lt b) hne, this]
  simp only [id]
  omega
/-- each payment evens one person out -/
theorem pay_nz {b : List Int} (h : Bal b) (hd : due b ≠ 0) : nz (pay b (low b) (high b) (due b)) ≤ nz b - 1 := by
  obtain ⟨h1, h2, hne⟩ := (due_spec h).2.2 hd
  have hl := h.1
  unfold nz
  rw [tot_pay one _ (by rw [hl]; exact low_lt b) (by rw [hl]; exact high_lt b) hne]
  have e : due b = min (b.getD (high b) 0) (0 - b.getD (low b) 0) := rfl
  generalize b.getD (low b) 0 = x at *
  generalize b.getD (high b) 0 = y at *
  generalize due b = n at *
  have a1 : one x = 1 := by unfold one; rw [if_neg (by omega)]
  have a2 : one y = 1 := by unfold one; rw [if_neg (by omega)]
  have a3 : one (x + n) + one (y - n) ≤ 1 := by
    unfold one
    by_cases hx : x + n = 0
    · rw [if_pos hx]; split <;> omega
    · rw [if_neg hx, if_pos (by omega)]; omega
  omega
theorem nz_nonneg (b : List Int) : 0 ≤ nz b := by
  unfold nz
  induction b with
  | nil => simp [tot]
  | cons x xs ih => simp only [tot]; unfold one at *; split <;> omega
theorem nz_le : ∀ (b : List Int), nz b ≤ b.length
  | [] => by simp [nz, tot]
  | x :: xs => by
    have := nz_le xs
    unfold nz at *
    simp only [tot, List.length_cons]
    have : one x ≤ 1 := by unfold one; split <;> omega
    omega
theorem nz_pos {b : List Int} (h : Bal b) (hd : due b ≠ 0) : 1 ≤ nz b := by
  have := pay_nz h hd
  have := nz_nonneg (pay b (low b) (high b) (due b))
  omega
/-- more rounds change nothing -/
theorem settle_more : ∀ (f : Nat) (b : List Int), Bal b → nz b ≤ f → settle (f + 1) b = settle f b
  | 0, b, h, hn => by
    have hd : due b = 0 := by
      by_cases hd : due b = 0
      · exact hd
      · have := nz_pos h hd; omega
    unfold settle
    rw [if_pos hd]
  | f + 1, b, h, hn => by
    unfold settle
    by_cases hd : due b = 0
    · rw [if_pos hd, if_pos hd]
    · rw [if_neg hd, if_neg hd, settle_more f _ (pay_bal h hd) (by have := pay_nz h hd; omega)]
theorem settle_fuel {f : Nat} {b : List Int} (h : Bal b) (hn : nz b ≤ f) : ∀ g, settle (f + g) b = settle f b
  | 0 => rfl
  | g + 1 => by rw [← Nat.add_assoc, settle_more (f + g) b h (by omega), settle_fuel h hn g]
/-- what payments do to a person's balance -/
def eff : List (Nat × Nat × Int) → Nat → Int
  | [], _ => 0
  | (l, h, n) :: r, p => (if p = h then n else 0) - (if p = l then n else 0) + eff r p
def all : List (Nat × Nat × Int) → Int
  | [] => 0
  | (_, _, n) :: r => n + all r
theorem settle_spec : ∀ (f : Nat) (b : List Int), Bal b → nz b ≤ f → ∀ out, settle f b = some out →
    (∀ t ∈ out, t.1 < 5 ∧ t.2.1 < 5 ∧ t.1 ≠ t.2.1 ∧ 1 ≤ t.2.2 ∧ t.2.2 ≤ 9999 ∧ b.getD t.1 0 < 0 ∧ 0 < b.getD t.2.1 0) ∧ (∀ p, p < 5 → eff out p = b.getD p 0) ∧ all out = pos b ∧ ((out.length : Int) ≤ nz b - 1 ∨ out = [])
  | 0, b, h, hn, out, ho => by
    have hd : due b = 0 := by
      by_cases hd : due b = 0
      · exact hd
      · have := nz_pos h hd; omega
    have hz := (due_spec h).2.1 hd
    obtain rfl : [] = out := by simpa [settle] using ho
    refine ⟨fun t ht => by simp at ht, fun p hp => by rw [hz p hp]; rfl, ?_, .inr rfl⟩
    obtain ⟨a0, a1, a2, a3, a4, rfl⟩ := five h.1
    have z0 := hz 0 (by omega); have z1 := hz 1 (by omega); have z2 := hz 2 (by omega); have z3 := hz 3 (by omega); have z4 := hz 4 (by omega)
    simp at z0 z1 z2 z3 z4
    subst z0 z1 z2 z3 z4
    simp [all, pos, tot]
  | f + 1, b, h, hn, out, ho => by
    unfold settle at ho
    by_cases hd : due b = 0
    · rw [if_pos hd] at ho
      have hz := (due_spec h).2.1 hd
      obtain rfl : [] = out := by simpa using ho
      refine ⟨fun t ht => by simp at ht, fun p hp => by rw [hz p hp]; rfl, ?_, .inr rfl⟩
      obtain ⟨a0, a1, a2, a3, a4, rfl⟩ := five h.1
      have z0 := hz 0 (by omega); have z1 := hz 1 (by omega); have z2 := hz 2 (by omega); have z3 := hz 3 (by omega); have z4 := hz 4 (by omega)
      simp at z0 z1 z2 z3 z4
      subst z0 z1 z2 z3 z4
      simp [all, pos, tot]
    · rw [if_neg hd] at ho
      by_cases hb : due b < 1 ∨ 9999 < due b
      · rw [if_pos hb] at ho; cases ho
      · rw [if_neg hb] at ho
        obtain ⟨h1, h2, hne⟩ := (due_spec h).2.2 hd
        have hl := h.1
        have ll : low b < b.length := by rw [hl]; exact low_lt b
        have lh : high b < b.length := by rw [hl]; exact high_lt b
        have hp := pay_bal h hd
        have hpn := pay_nz h hd
        cases hr : settle f (pay b (low b) (high b) (due b)) with
        | none => rw [hr] at ho; cases ho
        | some r =>
          rw [hr] at ho
          obtain rfl : (low b, high b, due b) :: r = out := by simpa using ho
          obtain ⟨i1, i2, i3, i4⟩ := settle_spec f _ hp (by omega) r hr
          have e : due b = min (b.getD (high b) 0) (0 - b.getD (low b) 0) := rfl
          refine ⟨fun t ht => ?_, fun p hp5 => ?_, ?_, ?_⟩
          · rcases List.mem_cons.1 ht with rfl | ht
            · exact ⟨low_lt b, high_lt b, hne, by show 1 ≤ due b; omega, by show due b ≤ 9999; omega, h1, h2⟩
            · obtain ⟨j1, j2, j3, j4, j5, j6, j7⟩ := i1 t ht
              rw [pay_getD _ ll lh hne] at j6 j7
              refine ⟨j1, j2, j3, j4, j5, ?_, ?_⟩
              · by_cases k1 : t.1 = high b
                · rw [k1, if_neg (Ne.symm hne), if_pos rfl] at j6; omega
                · rw [if_neg k1] at j6
                  by_cases k2 : t.1 = low b
                  · rw [k2]; exact h1
                  · rw [if_neg k2] at j6; omega
              · by_cases k1 : t.2.1 = low b
                · rw [k1, if_pos rfl, if_neg hne] at j7; omega
                · rw [if_neg k1] at j7
                  by_cases k2 : t.2.1 = high b
                  · rw [k2]; exact h2
                  · rw [if_neg k2] at j7; omega
          · have := i2 p hp5
            rw [pay_getD _ ll lh hne] at this
            show (if p = high b then due b else 0) - (if p = low b then due b else 0) + eff r p = b.getD p 0
            rw [this]
            omega
          · show due b + all r = pos b
            rw [i3]
            unfold pos
            rw [tot_pay _ _ ll lh hne]
            generalize b.getD (low b) 0 = x at *
            generalize b.getD (high b) 0 = y at *
            omega
          · refine .inl ?_
            show ((r.length + 1 : Nat) : Int) ≤ nz b - 1
            rcases i4 with i4 | rfl
            · omega
            · have : 2 ≤ nz b := by
                have hq : one (b.getD (low b) 0) = 1 ∧ one (b.getD (high b) 0) = 1 := ⟨by unfold one; rw [if_neg (by omega)], by unfold one; rw [if_neg (by omega)]⟩
                have hw := tot_set one b (low b) 0 ll
                have hw2 := tot_set one (b.set (low b) 0) (high b) 0 (by simpa using lh)
                rw [getD_set _ _ _ _ ll, if_neg (Ne.symm hne)] at hw2
                have h0 : one 0 = 0 := rfl
                have := nz_nonneg ((b.set (low b) 0).set (high b) 0)
                unfold nz at *
                omega
              simp
              omega
end Go.Proofs.YthdoofmfigemoaaGreatDoor.Ta
end

section
/-
  The balances of debts, by the program.
-/
namespace Go.Proofs.YthdoofmfigemoaaGreatDoor
open Go.RowKit
set_option linter.unusedSimpArgs false

theorem five_set (b : List Int) (j : Nat) (u : Int) : (five b).setIfInBounds j (.int .i64 u) = five (b.set j u) := by simp [five, IV, List.map_set]
theorem five_get {b : List Int} {j : Nat} {u : Int} (h : b[j]? = some u) : (five b)[j]? = some (.int .i64 u) := by simp [five, IV, h]
theorem Blk.set5 {w : World} {b : Nat} {ty : TypeId} {a0 a1 a2 a3 a4 : Value} (h : Blk w b #[a0, a1, a2, a3, a4] ty) (x0 x1 x2 x3 x4 : Value) :
    Blk (((((w.setCell ⟨b, 0, none⟩ x0).setCell ⟨b, 1, none⟩ x1).setCell ⟨b, 2, none⟩ x2).setCell ⟨b, 3, none⟩ x3).setCell ⟨b, 4, none⟩ x4) b #[x0, x1, x2, x3, x4] ty := by
  have := ((((h.set 0 x0).set 1 x1).set 2 x2).set 3 x3).set 4 x4
  simpa using this
theorem below_set5 {w0 w : World} {b B : Nat} (h : Below B w0 w) (hb : B ≤ b) (x0 x1 x2 x3 x4 : Value) : Below B w0 (((((w.setCell ⟨b, 0, none⟩ x0).setCell ⟨b, 1, none⟩ x1).setCell ⟨b, 2, none⟩ x2).setCell ⟨b, 3, none⟩ x3).setCell ⟨b, 4, none⟩ x4) :=
  ((((h.setCell (p := ⟨b, 0, none⟩) hb x0).setCell (p := ⟨b, 1, none⟩) hb x1).setCell (p := ⟨b, 2, none⟩) hb x2).setCell (p := ⟨b, 3, none⟩) hb x3).setCell (p := ⟨b, 4, none⟩) hb x4
theorem bal_next {ds : List Db} {k : Nat} {d : Db} (h : ds[k]? = some d) : bal (ds.take (k + 1)) = upd (bal (ds.take k)) d := by
  rw [take_next h, bal, bal, List.foldl_append]; rfl
/-- balances grow no faster than debts -/
def Within (m : Int) (b : List Int) : Prop := b.length = 5 ∧ ∀ (i : Nat) (u : Int), b[i]? = some u → -m ≤ u ∧ u ≤ m
theorem Within.upd {m : Int} {b : List Int} (h : Within m b) {d : Db} (h0 : 0 ≤ d.v) (h1 : d.v ≤ 36000) (ht : Two d.a d.c) : Within (m + 36000) (upd b d) := by
  obtain ⟨hl, hb⟩ := h
  obtain ⟨t0, t1, t2, t3, t4⟩ := ht
  have gd : ∀ j, j < 5 → -m ≤ b.getD j 0 ∧ b.getD j 0 ≤ m := fun j hj => by
    have e : b[j]? = some (b.getD j 0) := by rw [List.getD_eq_getElem?_getD, List.getElem?_eq_getElem (by omega)]; rfl
    exact hb j _ e
  refine ⟨by rw [upd_length, hl], fun i u hu => ?_⟩
  have hi : i < 5 := by have := (List.getElem?_eq_some_iff.1 hu).1; rw [upd_length, hl] at this; exact this
  have e : u = (Go.Proofs.YthdoofmfigemoaaGreatDoor.upd b d).getD i 0 := by rw [List.getD_eq_getElem?_getD, hu]; rfl
  have ga := gd d.a.toNat (by omega)
  have gi := gd i hi
  have gc := gd d.c.toNat (by omega)
  have hne : ¬ d.c.toNat = d.a.toNat := by omega
  rw [e, Go.Proofs.YthdoofmfigemoaaGreatDoor.upd, Ta.getD_set _ _ _ _ (by rw [List.length_set, hl]; omega), Ta.getD_set _ _ _ _ (by omega), Ta.getD_set _ _ _ _ (by omega), if_neg hne]
  split
  · omega
  · split <;> omega
set_option maxRecDepth 100000 in
set_option maxHeartbeats 1000000 in
theorem balances_any (A : Option Addr) (n c : Nat) (ds : List Db) (w : World) (hr : Dbs w w.heap.size A n ds) (hf : Fair ds) : Calls Tryz.prog 81 #[.slice A n c] w fun e w' => e = .returned (.agg (five (bal ds))) ∧ Below w.heap.size w w' := by
  have hl := hr.len
  have h12 : n ≤ 12 := by have := hf.1; omega
  have HL := Lib.hid hl
  have HR := Lib.hid hr
  have HF := Lib.hid hf
  clear hl hr hf
  go_enter Tryz.func81, Tryz.ntmps81
  go_wp2_with fail
  go_loopw [8] (fun iv wr => ∃ (k : Nat), k ≤ n ∧ iv = .int .i64 (k : Int) ∧ Blk wr w.heap.size (five [0, 0, 0, 0, 0]) 117 ∧ Blk wr (w.heap.size + 1) (five (bal (ds.take k))) 117 ∧ Within (36000 * (k : Int)) (bal (ds.take k)) ∧ Below w.heap.size w wr) (fun iv _ => n - (intOf iv).toNat)
  case atStart =>
    refine ⟨0, by omega, rfl, (Blk.new w _ _).alloc _, ?_, ⟨rfl, fun i u hu => ?_⟩, ((Below.refl _ _).alloc (Nat.le_refl _) _).alloc (by simp) _⟩
    · have := Blk.new (w.alloc (.cells (five [0, 0, 0, 0, 0]) 117)) (five [0, 0, 0, 0, 0]) 117
      rw [World.size_alloc] at this
      exact this
    · have h5 : ([0, 0, 0, 0, 0] : List Int)[i]? = some u := hu
      have := List.mem_of_getElem? h5
      simp at this
      omega
  case round =>
    obtain ⟨k, hk, rfl, hz, hb, hw, hbl⟩ := hrel
    have HZ := Lib.hid hz
    have HB := Lib.hid hb
    have HW := Lib.hid hw
    have HBL := Lib.hid hbl
    clear hz hb hw hbl
    by_cases hlt : k < n
    · obtain ⟨b, off, d, rfl, hlb, ht, k0, k1, k2⟩ := Dbs.at_ (show Dbs wr w.heap.size A n ds from HR.out.below HBL.out) hlt
      obtain ⟨⟨t0, t1, t2, t3, t4⟩, v0, v1⟩ := HF.out.2 d (List.mem_of_getElem? ht)
      have HT := Lib.hid ht
      obtain ⟨a, cc, v⟩ := d
      obtain ⟨p, rfl⟩ := Int.eq_ofNat_of_zero_le t0
      obtain ⟨q, rfl⟩ := Int.eq_ofNat_of_zero_le t2
      simp only at k0 k1 k2 t0 t1 t2 t3 t4 v0 v1
      clear ht
      obtain ⟨W, hW⟩ : ∃ W, wr.alloc (.cells #[.int .i64 (p : Int), .int .i64 (q : Int), .int .i64 v] 123) = W := ⟨_, rfl⟩
      have hd : Blk W wr.heap.size #[.int .i64 (p : Int), .int .i64 (q : Int), .int .i64 v] 123 := by rw [← hW]; exact Blk.new _ _ _
      have hB : Blk W (w.heap.size + 1) (five (bal (ds.take k))) 117 := by rw [← hW]; exact HB.out.alloc _
      have hbL := HW.out.1
      obtain ⟨u, hu⟩ : ∃ u, (bal (ds.take k))[p]? = some u := ⟨_, List.getElem?_eq_getElem (by omega)⟩
      have hub := HW.out.2 p u hu
      have m0 : W.cell? ⟨wr.heap.size, 0, none⟩ = some (.int .i64 (p : Int)) := hd.cell rfl
      have m2 : W.cell? ⟨wr.heap.size, 2, none⟩ = some (.int .i64 v) := hd.cell rfl
      have a0 : W.cell? ⟨w.heap.size + 1, p, none⟩ = some (.int .i64 u) := hB.cell (five_get hu)
      have fa := hB.free p
      have hp5 : p < 5 := by omega
      have hq5 : q < 5 := by omega
      have hs1 : w.heap.size + 1 < wr.heap.size := HB.out.lt
      have HWW := Lib.hid hW
      have HD := Lib.hid hd
      have HBB := Lib.hid hB
      have HU := Lib.hid hu
      clear hW hd hB hu
      have w1 : IntKind.i64.wrap (u - v) = u - v := IntWalk.i64_in _ (by omega)
      go_wp2_with fail
      rw [HWW.out]
      obtain ⟨b1, hb1⟩ : ∃ b1, (bal (ds.take k)).set p (u - v) = b1 := ⟨_, rfl⟩
      have hb1l : b1.length = 5 := by rw [← hb1, List.length_set, hbL]
      obtain ⟨u2, hu2⟩ : ∃ u2, b1[q]? = some u2 := ⟨_, List.getElem?_eq_getElem (by omega)⟩
      have hu2b : -(36000 * (k : Int)) ≤ u2 ∧ u2 ≤ 36000 * (k : Int) := by
        rw [← hb1, List.getElem?_set_ne (by omega)] at hu2
        exact HW.out.2 q u2 hu2
      obtain ⟨W2, hW2⟩ : ∃ W2, (W.setCell ⟨w.heap.size + 1, p, none⟩ (.int .i64 (u - v))).drew = W2 := ⟨_, rfl⟩
      have hB2 : Blk W2 (w.heap.size + 1) (five b1) 117 := by
        rw [← hW2, ← hb1, ← five_set]
        exact (HBB.out.set p _).drew
      have hD2 : Blk W2 wr.heap.size #[.int .i64 (p : Int), .int .i64 (q : Int), .int .i64 v] 123 := by
        rw [← hW2]
        exact (HD.out.other (p := ⟨w.heap.size + 1, p, none⟩) (by show ¬ wr.heap.size = w.heap.size + 1; omega) _).drew
      have a2 : W2.cell? ⟨w.heap.size + 1, q, none⟩ = some (.int .i64 u2) := hB2.cell (five_get hu2)
      have fa2 := hB2.free q
      have n1 : W2.cell? ⟨wr.heap.size, 1, none⟩ = some (.int .i64 (q : Int)) := hD2.cell rfl
      have n2 : W2.cell? ⟨wr.heap.size, 2, none⟩ = some (.int .i64 v) := hD2.cell rfl
      have w2 : IntKind.i64.wrap (u2 + v) = u2 + v := IntWalk.i64_in _ (by omega)
      have hZ3 : Blk (W2.setCell ⟨w.heap.size + 1, q, none⟩ (.int .i64 (u2 + v))).drew w.heap.size (five [0, 0, 0, 0, 0]) 117 := by
        have hZ1 : Blk W w.heap.size (five [0, 0, 0, 0, 0]) 117 := by rw [← HWW.out]; exact HZ.out.alloc _
        have hZ2 : Blk W2 w.heap.size (five [0, 0, 0, 0, 0]) 117 := by rw [← hW2]; exact (hZ1.other (p := ⟨w.heap.size + 1, p, none⟩) (by show ¬ w.heap.size = w.heap.size + 1; omega) _).drew
        exact (hZ2.other (p := ⟨w.heap.size + 1, q, none⟩) (by show ¬ w.heap.size = w.heap.size + 1; omega) _).drew
      have hbn : bal (ds.take (k + 1)) = b1.set q (u2 + v) := by
        rw [bal_next HT.out]
        have e1 : (bal (ds.take k)).getD p 0 = u := by rw [List.getD_eq_getElem?_getD, HU.out]; rfl
        have e2 : b1.getD q 0 = u2 := by rw [List.getD_eq_getElem?_getD, hu2]; rfl
        simp only [upd, Int.toNat_natCast]
        rw [e1, hb1, e2]
      have hB3 : Blk (W2.setCell ⟨w.heap.size + 1, q, none⟩ (.int .i64 (u2 + v))).drew (w.heap.size + 1) (five (bal (ds.take (k + 1)))) 117 := by
        rw [hbn, ← five_set]
        exact (hB2.set q _).drew
      have hW3 : Within (36000 * ((k + 1 : Nat) : Int)) (bal (ds.take (k + 1))) := by
        rw [bal_next HT.out]
        have := Within.upd HW.out (d := ⟨(p : Int), (q : Int), v⟩) v0 v1 ⟨t0, t1, t2, t3, t4⟩
        rwa [show 36000 * (k : Int) + 36000 = 36000 * ((k + 1 : Nat) : Int) from by omega] at this
      have hBL3 : Below w.heap.size w (W2.setCell ⟨w.heap.size + 1, q, none⟩ (.int .i64 (u2 + v))).drew := by
        have h1 : Below w.heap.size w W := by rw [← HWW.out]; exact HBL.out.alloc HBL.out.size _
        have h2 : Below w.heap.size w W2 := by rw [← hW2]; exact (h1.setCell (p := ⟨w.heap.size + 1, p, none⟩) (Nat.le_succ _) _).drew
        exact (h2.setCell (p := ⟨w.heap.size + 1, q, none⟩) (Nat.le_succ _) _).drew
      have HREL := Lib.hid (And.intro hZ3 (And.intro hB3 (And.intro hW3 hBL3)))
      clear hZ3 hbn hB3 hW3 hBL3
      have HW2 := Lib.hid hW2
      have HB2 := Lib.hid hB2
      have HB1 := Lib.hid hb1
      have HU2 := Lib.hid hu2
      clear hW2 hB2 hD2 hb1 hu2
      go_region_with (fail)
      all_goals rw [HW2.out]
      all_goals clear m0 m2 a0 fa w1
      all_goals go_wp2_with fail
      all_goals go_region_with (fail)
      all_goals go_wp2_with fail
      all_goals exact ⟨⟨k + 1, by omega, by go_num, HREL.out.1, HREL.out.2.1, HREL.out.2.2.1, HREL.out.2.2.2⟩, by simp [intOf]; omega⟩
    · obtain rfl : k = n := by omega
      have hT : ds.take k = ds := List.take_of_length_le (by have := HL.out; omega)
      have hB := HB.out
      rw [hT] at hB
      obtain ⟨b0, b1, b2, b3, b4, hbe⟩ := Ta.five (bal_length ds)
      have HBE := Lib.hid hbe
      have hz := HZ.out
      rw [hbe] at hB
      have c0 : wr.cell? ⟨w.heap.size + 1, 0, none⟩ = some (.int .i64 b0) := hB.cell (j := 0) rfl
      have c1 : wr.cell? ⟨w.heap.size + 1, 1, none⟩ = some (.int .i64 b1) := hB.cell (j := 1) rfl
      have c2 : wr.cell? ⟨w.heap.size + 1, 2, none⟩ = some (.int .i64 b2) := hB.cell (j := 2) rfl
      have c3 : wr.cell? ⟨w.heap.size + 1, 3, none⟩ = some (.int .i64 b3) := hB.cell (j := 3) rfl
      have c4 : wr.cell? ⟨w.heap.size + 1, 4, none⟩ = some (.int .i64 b4) := hB.cell (j := 4) rfl
      have z0 : wr.cell? ⟨w.heap.size, 0, none⟩ = some (.int .i64 0) := hz.cell (j := 0) rfl
      have z1 : wr.cell? ⟨w.heap.size, 1, none⟩ = some (.int .i64 0) := hz.cell (j := 1) rfl
      have z2 : wr.cell? ⟨w.heap.size, 2, none⟩ = some (.int .i64 0) := hz.cell (j := 2) rfl
      have z3 : wr.cell? ⟨w.heap.size, 3, none⟩ = some (.int .i64 0) := hz.cell (j := 3) rfl
      have z4 : wr.cell? ⟨w.heap.size, 4, none⟩ = some (.int .i64 0) := hz.cell (j := 4) rfl
      have f0 := hz.free 0
      have f1 := hz.free 1
      have f2 := hz.free 2
      have f3 := hz.free 3
      have f4 := hz.free 4
      clear hB hz hbe hT
      go_wp2_with fail
      have hf := Blk.set5 (a0 := .int .i64 0) (a1 := .int .i64 0) (a2 := .int .i64 0) (a3 := .int .i64 0) (a4 := .int .i64 0) HZ.out (.int .i64 b0) (.int .i64 b1) (.int .i64 b2) (.int .i64 b3) (.int .i64 b4)
      have g0 := hf.cell (j := 0) rfl
      have g1 := hf.cell (j := 1) rfl
      have g2 := hf.cell (j := 2) rfl
      have g3 := hf.cell (j := 3) rfl
      have g4 := hf.cell (j := 4) rfl
      exact bodyPost_ret (v := .agg #[.int .i64 b0, .int .i64 b1, .int .i64 b2, .int .i64 b3, .int .i64 b4]) (by simp [results, Tryz.results81, go_sem, g0, g1, g2, g3, g4]) rfl ⟨by rw [HBE.out]; rfl, below_set5 HBL.out (Nat.le_refl _) _ _ _ _ _⟩
end Go.Proofs.YthdoofmfigemoaaGreatDoor
end

section
/-
  The sum of all tallies, by the program.
-/
namespace Go.Proofs.YthdoofmfigemoaaGreatDoor
open Go.RowKit
set_option linter.unusedSimpArgs false

theorem worthB_bd (s : ByteArray) : -1 ≤ worthB s ∧ worthB s ≤ 36000 := by
  unfold worthB
  cases h : Ta.worth s.data.toList with
  | none => simp
  | some v => have := Ta.worth_bd h; simp; omega
theorem fair_of {ts : List Tl} (h : okL ts = true) : Fair (ts.map debtOf) := by
  simp only [okL, Bool.and_eq_true, decide_eq_true_eq, List.all_eq_true] at h
  refine ⟨by rw [List.length_map]; exact h.1, fun d hd => ?_⟩
  obtain ⟨t, ht, rfl⟩ := List.mem_map.1 hd
  have := h.2 t ht
  simp only [okB, matchB, twoB, Bool.and_eq_true, decide_eq_true_eq] at this
  have hb := worthB_bd t.s
  exact ⟨this.1.1, by show 0 ≤ worthB t.s; omega, hb.2⟩
def total (ds : List Db) : Int := ds.foldl (fun a d => a + d.v) 0
theorem total_next {ds : List Db} {k : Nat} {d : Db} (h : ds[k]? = some d) : total (ds.take (k + 1)) = total (ds.take k) + d.v := by
  rw [take_next h, total, total, List.foldl_append]; rfl
end Go.Proofs.YthdoofmfigemoaaGreatDoor
end

section
/-
  The balances of tallies, by the program.
-/
namespace Go.Proofs.YthdoofmfigemoaaGreatDoor
open Go.RowKit
set_option linter.unusedSimpArgs false

theorem run_index_five (b : List Int) (k : Nat) (u : Int) (hl : b.length = 5) (h : b[k]? = some u) (w : World) :
    (Instr.index 117 (.agg (five b)) (.int .i64 (k : Int))).run Tryz.prog w = .ok (.int .i64 u) w := by
  have hk : k < 5 := by have := (List.getElem?_eq_some_iff.1 h).1; omega
  obtain ⟨i0, hi, hz0, hz1, hz2⟩ := info_parts own_int_info
  have hk' : 0 ≤ (k : Int) ∧ (k : Int) < ((5 : Nat) : Int) := by omega
  have hg := five_get h
  simp [Instr.index, run_underlying Tryz.underlying117, asIntOf, go_sem, part, sizeOf, typeInfo, hi, hz1, hg]
  omega
def BalPost (w : World) (ts : List Tl) (e : Ending) (w' : World) : Prop :=
  ((okL ts = true ∧ ∃ A c, e = .returned (.tuple #[.slice A 5 c, .bool true]) ∧ Own w' w.heap.size A 5 c (bal (ts.map debtOf))) ∨ (okL ts = false ∧ e = .returned (.tuple #[.slice none 0 0, .bool false]))) ∧ Below w.heap.size w w'
end Go.Proofs.YthdoofmfigemoaaGreatDoor
end

section
/-
  What the two heaps hold against the balances. No program in sight.
-/
namespace Go.Proofs.YthdoofmfigemoaaGreatDoor.Ta

/-- xs holds each person up to m for whom f is positive, with what it comes to -/
def Holds (f : Nat → Int) (m : Nat) (xs : List (Nat × Int)) : Prop := xs.Nodup ∧ ∀ x : Nat × Int, x ∈ xs ↔ x.1 < m ∧ 0 < f x.1 ∧ x.2 = f x.1
section
variable {f g : Nat → Int} {m : Nat} {xs ys : List (Nat × Int)}
theorem Holds.perm (h : Holds f m xs) (p : ys.Perm xs) : Holds f m ys := ⟨p.nodup_iff.2 h.1, fun x => (p.mem_iff).trans (h.2 x)⟩
theorem Holds.zero (f : Nat → Int) : Holds f 0 [] := ⟨List.nodup_nil, fun x => by simp⟩
theorem nodup_le : ∀ (xs ys : List (Nat × Int)), xs.Nodup → (∀ x ∈ xs, x ∈ ys) → xs.length ≤ ys.length
  | [], ys, _, _ => by simp
  | x :: xs, ys, h, k => by
    have hx := k x List.mem_cons_self
    have h2 := nodup_le xs (ys.erase x) (List.nodup_cons.1 h).2 (fun y hy => (List.mem_erase_of_ne (fun e => (List.nodup_cons.1 h).1 (by rw [← e]; exact hy))).2 (k y (List.mem_cons_of_mem _ hy)))
    rw [List.length_erase_of_mem hx] at h2
    have h3 := List.length_pos_of_mem hx
    simp only [List.length_cons]
    omega
theorem Holds.len (h : Holds f m xs) : xs.length ≤ m := by
  have := nodup_le xs ((List.range m).map (fun i => (i, f i))) h.1 (fun x hx => by
    obtain ⟨h1, _, h2⟩ := (h.2 x).1 hx
    exact List.mem_map.2 ⟨x.1, List.mem_range.2 h1, by rw [← h2]⟩)
  simpa using this
/-- a debt put into a heap if it is worth something -/
def putL (xs : List (Nat × Int)) (x : Nat × Int) : List (Nat × Int) := if 0 < x.2 then upL 3 (xs ++ [x]) xs.length else xs
theorem putL_ok {xs : List (Nat × Int)} {x : Nat × Int} (h : Heap xs) (hl : xs.length ≤ 4) : Heap (putL xs x) ∧ (putL xs x).Perm (if 0 < x.2 then x :: xs else xs) := by
  unfold putL
  by_cases hx : 0 < x.2
  · rw [if_pos hx, if_pos hx]; exact up_ok xs x h hl
  · rw [if_neg hx, if_neg hx]; exact ⟨h, .refl _⟩
theorem Holds.put (h : Holds f m xs) : Holds f (m + 1) (if 0 < f m then (m, f m) :: xs else xs) := by
  by_cases hx : 0 < f m
  · rw [if_pos hx]
    refine ⟨List.nodup_cons.2 ⟨fun hm => by have := ((h.2 _).1 hm).1; simp at this, h.1⟩, fun x => ?_⟩
    rw [List.mem_cons, h.2 x]
    constructor
    · rintro (rfl | ⟨a, b, c⟩)
      · exact ⟨by simp, hx, rfl⟩
      · exact ⟨by omega, b, c⟩
    · rintro ⟨a, b, c⟩
      by_cases e : x.1 = m
      · exact .inl (Prod.ext e (by rw [c, e]))
      · exact .inr ⟨by omega, b, c⟩
  · rw [if_neg hx]
    refine ⟨h.1, fun x => ?_⟩
    rw [h.2 x]
    constructor
    · rintro ⟨a, b, c⟩
      exact ⟨by omega, b, c⟩
    · rintro ⟨a, b, c⟩
      by_cases e : x.1 = m
      · rw [e] at b; exact absurd b hx
      · exact ⟨by omega, b, c⟩
theorem Holds.putL (h : Holds f m xs) (hh : Heap xs) (hm : m ≤ 4) : Holds f (m + 1) (putL xs (m, f m)) ∧ Heap (putL xs (m, f m)) := by
  obtain ⟨h1, h2⟩ := putL_ok (x := (m, f m)) hh (by have := h.len; omega)
  exact ⟨h.put.perm h2, h1⟩
/-- the first one taken and put back with what is left -/
theorem Holds.again {a : Nat × Int} (h : Holds f m (a :: xs)) (hg : ∀ i, i < m → i ≠ a.1 → (0 < g i ↔ 0 < f i) ∧ (0 < g i → g i = f i)) : Holds g m (if 0 < g a.1 then (a.1, g a.1) :: xs else xs) := by
  obtain ⟨a0, a1, a2⟩ := (h.2 a).1 List.mem_cons_self
  obtain ⟨n1, n2⟩ := List.nodup_cons.1 h.1
  have no : ∀ x ∈ xs, x.1 ≠ a.1 := fun x hx e => by
    obtain ⟨_, _, b2⟩ := (h.2 x).1 (List.mem_cons_of_mem _ hx)
    exact n1 ((show x = a from Prod.ext e (by rw [b2, a2, e])) ▸ hx)
  have key : ∀ x : Nat × Int, x ∈ xs ↔ x.1 < m ∧ x.1 ≠ a.1 ∧ 0 < g x.1 ∧ x.2 = g x.1 := fun x => by
    constructor
    · intro hx
      obtain ⟨b0, b1, b2⟩ := (h.2 x).1 (List.mem_cons_of_mem _ hx)
      obtain ⟨q1, q2⟩ := hg x.1 b0 (no x hx)
      have b3 := q1.2 b1
      exact ⟨b0, no x hx, b3, by rw [q2 b3]; exact b2⟩
    · rintro ⟨b0, b1, b2, b3⟩
      obtain ⟨q1, q2⟩ := hg x.1 b0 b1
      rcases List.mem_cons.1 ((h.2 x).2 ⟨b0, q1.1 b2, by rw [b3, q2 b2]⟩) with e | e
      · exact absurd (by rw [e]) b1
      · exact e
  by_cases hx : 0 < g a.1
  · rw [if_pos hx]
    refine ⟨List.nodup_cons.2 ⟨fun hm => no _ hm rfl, n2⟩, fun x => ?_⟩
    rw [List.mem_cons, key x]
    constructor
    · rintro (rfl | ⟨b0, _, b2, b3⟩)
      · exact ⟨a0, hx, rfl⟩
      · exact ⟨b0, b2, b3⟩
    · rintro ⟨b0, b2, b3⟩
      by_cases e : x.1 = a.1
      · exact .inl (Prod.ext e (by rw [b3, e]))
      · exact .inr ⟨b0, e, b2, b3⟩
  · rw [if_neg hx]
    refine ⟨n2, fun x => ?_⟩
    rw [key x]
    constructor
    · rintro ⟨b0, _, b2, b3⟩; exact ⟨b0, b2, b3⟩
    · rintro ⟨b0, b2, b3⟩
      refine ⟨b0, fun e => ?_, b2, b3⟩
      rw [e] at b2; exact hx b2
end
def owe (b : List Int) (i : Nat) : Int := - b.getD i 0
def claim (b : List Int) (i : Nat) : Int := b.getD i 0
/-- the balances and the two heaps -/
def St (b : List Int) (xs ys : List (Nat × Int)) : Prop := Bal b ∧ Heap xs ∧ Heap ys ∧ Holds (owe b) 5 xs ∧ Holds (claim b) 5 ys
theorem root_owe {b : List Int} {a : Nat × Int} {xs : List (Nat × Int)} (hh : Heap (a :: xs)) (h : Holds (owe b) 5 (a :: xs)) : a = (low b, owe b (low b)) := by
  obtain ⟨a0, a1, a2⟩ := (h.2 a).1 List.mem_cons_self
  obtain ⟨l1, l2, l3, _⟩ := lowK_spec b 5
  have l0 : low b < 5 := low_lt b
  have e1 := l1 a.1 a0
  unfold owe at *
  have hm := heap_root hh _ ((h.2 (low b, -b.getD (low b) 0)).2 ⟨l0, by show 0 < -b.getD (low b) 0; unfold low; omega, rfl⟩)
  rw [le_iff] at hm
  have e2 := l2 a.1
  have : a.1 = low b := by unfold low at *; simp only at hm; omega
  exact Prod.ext this (by rw [a2, this])
theorem root_claim {b : List Int} {a : Nat × Int} {xs : List (Nat × Int)} (hh : Heap (a :: xs)) (h : Holds (claim b) 5 (a :: xs)) : a = (high b, claim b (high b)) := by
  obtain ⟨a0, a1, a2⟩ := (h.2 a).1 List.mem_cons_self
  obtain ⟨l1, l2, l3, _⟩ := highK_spec b 5
  have l0 : high b < 5 := high_lt b
  have e1 := l1 a.1 a0
  unfold claim at *
  have hm := heap_root hh _ ((h.2 (high b, b.getD (high b) 0)).2 ⟨l0, by show 0 < b.getD (high b) 0; unfold high; omega, rfl⟩)
  rw [le_iff] at hm
  have e2 := l2 a.1
  have : a.1 = high b := by unfold high at *; simp only at hm; omega
  exact Prod.ext this (by rw [a2, this])
theorem St.done {b : List Int} {xs ys : List (Nat × Int)} (h : St b xs ys) (he : xs = [] ∨ ys = []) : due b = 0 := by
  obtain ⟨hb, _, _, hx, hy⟩ := h
  by_cases hd : due b = 0
  · exact hd
  · obtain ⟨h1, h2, _⟩ := (due_spec hb).2.2 hd
    rcases he with rfl | rfl
    · have := (hx.2 (low b, owe b (low b))).2 ⟨low_lt b, by show 0 < -b.getD (low b) 0; omega, rfl⟩
      simp at this
    · have := (hy.2 (high b, claim b (high b))).2 ⟨high_lt b, by show 0 < b.getD (high b) 0; omega, rfl⟩
      simp at this
theorem St.step {b : List Int} {x y : Nat × Int} {xs ys : List (Nat × Int)} (h : St b (x :: xs) (y :: ys)) :
    x = (low b, owe b (low b)) ∧ y = (high b, claim b (high b)) ∧ due b ≠ 0 ∧ due b = min (owe b (low b)) (claim b (high b)) ∧ 0 < due b ∧
    ∀ xs' ys', xs'.Perm xs → ys'.Perm ys → Heap xs' → Heap ys' →
      St (pay b (low b) (high b) (due b)) (putL xs' (low b, owe b (low b) - due b)) (putL ys' (high b, claim b (high b) - due b)) := by
  obtain ⟨hb, hx, hy, hX, hY⟩ := h
  have ex := root_owe hx hX
  have ey := root_claim hy hY
  subst ex
  subst ey
  obtain ⟨_, p1, _⟩ := (hX.2 _).1 List.mem_cons_self
  obtain ⟨_, q1, _⟩ := (hY.2 _).1 List.mem_cons_self
  have e : due b = min (owe b (low b)) (claim b (high b)) := by unfold due owe claim; omega
  have e0 : 0 < due b := by simp only at p1 q1; omega
  have hd : due b ≠ 0 := by omega
  obtain ⟨_, _, hne⟩ := (due_spec hb).2.2 hd
  have ll : low b < b.length := by rw [hb.1]; exact low_lt b
  have lh : high b < b.length := by rw [hb.1]; exact high_lt b
  have gd := fun i => pay_getD (b := b) (due b) ll lh hne i
  refine ⟨rfl, rfl, hd, e, e0, fun xs' ys' px py hx' hy' => ⟨pay_bal hb hd, ?_⟩⟩
  have lx : xs'.length ≤ 4 := by have := hX.len; rw [px.length_eq]; simp at this; omega
  have ly : ys'.length ≤ 4 := by have := hY.len; rw [py.length_eq]; simp at this; omega
  have ax := hX.again (g := owe (pay b (low b) (high b) (due b))) (fun i hi hne2 => by
    unfold owe at *
    rw [gd i, if_neg hne2]
    by_cases e1 : i = high b
    · rw [if_pos e1]; subst e1; unfold claim at *; simp only at q1 p1; omega
    · rw [if_neg e1]; omega)
  have ay := hY.again (g := claim (pay b (low b) (high b) (due b))) (fun i hi hne2 => by
    unfold claim at *
    rw [gd i, if_neg hne2]
    by_cases e1 : i = low b
    · rw [if_pos e1]; subst e1; unfold owe at *; simp only at q1 p1; omega
    · rw [if_neg e1]; omega)
  have vx : owe (pay b (low b) (high b) (due b)) (low b) = owe b (low b) - due b := by unfold owe; rw [gd, if_pos rfl, if_neg hne]; omega
  have vy : claim (pay b (low b) (high b) (due b)) (high b) = claim b (high b) - due b := by unfold claim; rw [gd, if_pos rfl, if_neg (Ne.symm hne)]; omega
  simp only at ax ay
  rw [vx] at ax
  rw [vy] at ay
  obtain ⟨r1, r2⟩ := putL_ok (x := (low b, owe b (low b) - due b)) hx' lx
  obtain ⟨s1, s2⟩ := putL_ok (x := (high b, claim b (high b) - due b)) hy' ly
  refine ⟨r1, s1, ax.perm (r2.trans ?_), ay.perm (s2.trans ?_)⟩
  · split
    · exact px.cons _
    · exact px
  · split
    · exact py.cons _
    · exact py
/-- balances within bounds -/
def Bd (m : Int) (b : List Int) : Prop := ∀ i, -m ≤ b.getD i 0 ∧ b.getD i 0 ≤ m
theorem Bd.pay {m : Int} {b : List Int} (h : Bd m b) (hb : Bal b) (hd : due b ≠ 0) : Bd m (pay b (low b) (high b) (due b)) := by
  obtain ⟨h1, h2, hne⟩ := (due_spec hb).2.2 hd
  have ll : low b < b.length := by rw [hb.1]; exact low_lt b
  have lh : high b < b.length := by rw [hb.1]; exact high_lt b
  intro i
  have e : due b = min (b.getD (high b) 0) (0 - b.getD (low b) 0) := rfl
  have hi := h i
  have hl := h (low b)
  have hh := h (high b)
  rw [pay_getD _ ll lh hne]
  by_cases e1 : i = low b
  · rw [if_pos e1, if_neg (by rw [e1]; exact hne)]; subst e1; omega
  · rw [if_neg e1]
    by_cases e2 : i = high b
    · rw [if_pos e2]; subst e2; omega
    · rw [if_neg e2]; omega
/-- the payments so far, and those to come -/
def Todo (b0 : List Int) (f : Nat) (b : List Int) (out : List (Nat × Nat × Int)) : Prop := settle 5 b0 = (settle f b).map (out ++ ·) ∧ nz b ≤ f ∧ f + out.length = 5
theorem Todo.start {b : List Int} (h : b.length = 5) : Todo b 5 b [] := ⟨by simp, by have := nz_le b; omega, rfl⟩
theorem Todo.done {b0 b : List Int} {f : Nat} {out : List (Nat × Nat × Int)} (h : Todo b0 f b out) (hd : due b = 0) : settle 5 b0 = some out := by
  rw [h.1]
  cases f with
  | zero => simp [settle]
  | succ f => simp [settle, hd]
theorem Todo.pos {b0 b : List Int} {f : Nat} {out : List (Nat × Nat × Int)} (h : Todo b0 f b out) (hb : Bal b) (hd : due b ≠ 0) : ∃ g, f = g + 1 := by
  have := nz_pos hb hd
  have := h.2.1
  exact ⟨f - 1, by omega⟩
theorem Todo.no {b0 b : List Int} {f : Nat} {out : List (Nat × Nat × Int)} (h : Todo b0 f b out) (hb : Bal b) (hd : due b ≠ 0) (hv : due b < 1 ∨ 9999 < due b) : settle 5 b0 = none := by
  obtain ⟨g, rfl⟩ := h.pos hb hd
  rw [h.1, settle, if_neg hd, if_pos hv]; rfl
theorem Todo.next {b0 b : List Int} {f : Nat} {out : List (Nat × Nat × Int)} (h : Todo b0 (f + 1) b out) (hb : Bal b) (hd : due b ≠ 0) (h1 : 1 ≤ due b) (h9 : due b ≤ 9999) : Todo b0 f (pay b (low b) (high b) (due b)) (out ++ [(low b, high b, due b)]) := by
  refine ⟨?_, by have := pay_nz hb hd; have := h.2.1; omega, by have := h.2.2; simp; omega⟩
  rw [h.1, settle, if_neg hd, if_neg (by omega), Option.map_map]
  congr 1
  funext r
  simp
end Go.Proofs.YthdoofmfigemoaaGreatDoor.Ta
end

section
/-
  The heaps side by side, and the row of tallies that grows beside them; what the balances come to.
-/
namespace Go.Proofs.YthdoofmfigemoaaGreatDoor
open Go.RowKit
set_option linter.unusedSimpArgs false

/-! balances even out -/
theorem sum_upd {b : List Int} {d : Db} (hl : b.length = 5) (ht : Two d.a d.c) : Ta.sum (upd b d) = Ta.sum b := by
  obtain ⟨t0, t1, t2, t3, t4⟩ := ht
  unfold Ta.sum upd
  rw [Ta.tot_set _ _ _ _ (by rw [List.length_set, hl]; omega), Ta.tot_set _ _ _ _ (by omega)]
  simp only [id]
  omega
theorem bal_ok {ds : List Db} (h : Fair ds) : Ta.Bal (bal ds) ∧ Ta.Bd 432000 (bal ds) := by
  suffices H : ∀ (ds : List Db) (b : List Int) (m : Int), Within m b → Ta.sum b = 0 → (∀ d ∈ ds, Two d.a d.c ∧ 0 ≤ d.v ∧ d.v ≤ 36000) → Within (m + 36000 * (ds.length : Int)) (ds.foldl upd b) ∧ Ta.sum (ds.foldl upd b) = 0 by
    have h0 : Within 0 [0, 0, 0, 0, 0] := ⟨rfl, fun i u hu => by have := List.mem_of_getElem? hu; simp at this; omega⟩
    obtain ⟨⟨a1, a2⟩, a3⟩ := H ds _ 0 h0 rfl h.2
    refine ⟨⟨a1, a3⟩, fun i => ?_⟩
    have h12 := h.1
    by_cases hi : i < 5
    · have e : (bal ds)[i]? = some ((bal ds).getD i 0) := by rw [List.getD_eq_getElem?_getD, List.getElem?_eq_getElem (by rw [bal_length]; exact hi)]; rfl
      have := a2 i _ e
      omega
    · rw [List.getD_eq_getElem?_getD, List.getElem?_eq_none (by rw [bal_length]; omega)]
      simp
  intro ds
  induction ds with
  | nil => intro b m h1 h2 _; exact ⟨by simpa using h1, h2⟩
  | cons d ds ih =>
    intro b m h1 h2 h3
    obtain ⟨q1, q2, q3⟩ := h3 d List.mem_cons_self
    have := ih (upd b d) (m + 36000) (h1.upd q2 q3 q1) ((sum_upd h1.1 q1).trans h2) (fun x hx => h3 x (List.mem_cons_of_mem _ hx))
    rw [List.foldl_cons]
    rwa [show m + 36000 + 36000 * (ds.length : Int) = m + 36000 * ((d :: ds).length : Int) from by simp; omega] at this

/-- append(out, t), and where the new row lies -/
theorem wpList_app_t_at {ops : Array Oper} {rest : List Oper} {o : Oper} {a : Act} {w : World} {Q : Exit → Act → World → Prop} (hgd : o.guard = none) (s x : Operand)
    (ho : o.op = .call { callee := .builtin .append, args := #[s, x], argTypes := #[46, 46] })
    {B : Nat} {A : Option Addr} {n c : Nat} {ts : List Tl} (hs : a.eval s = .slice A n c) (hown : OwnT w B A n c ts) (t : Tl) (c0 nb : Nat)
    (hx : a.eval x = .slice (some ⟨nb, 0, none⟩) 1 c0) (hnb : nb = w.heap.size) (cs : Array Value) (hcs : cs = t.cells.toArray) (hn : n + 1 ≤ 1000000) (hB : B ≤ w.heap.size)
    (h : ∀ A' c' w', OwnT w' B A' (n + 1) c' (ts ++ [t]) → w.grownBy w' (Value.slice A n c).ownBlock → (∀ k, (Value.slice A' (n + 1) c').ownBlock = some k → (Value.slice A n c).ownBlock = some k ∨ w.heap.size ≤ k) →
      wpList Tryz.prog ops Q rest (a.put o.dst (.slice A' (n + 1) c')) w') :
    wpList Tryz.prog ops Q (o :: rest) a (w.alloc (.cells cs 52)) := by
  obtain ⟨i0, hi, hz0, hz1, hz2⟩ := info_parts tally_info
  subst hcs
  subst hnb
  refine wpList_append_own_at _ hgd s x 46 ho B 52 i0 _ 4 48 Tryz.underlying46 hi hz0 hz1 hz2 rfl (by decide) _ n (TV ts) hs (hown.1.alloc _)
    ⟨w.heap.size, 0, none⟩ 1 c0 t.cells hx (by simp [Tl.cells]) ?_ (by rw [← TV_one]; exact TV_oneCell _) (by unfold maxLen; omega) (by omega) (by simp; omega) ?_
  · intro j u hj
    rw [add_row, cell_of_row _ w.heap.size j _ _ _ (heap_alloc_new w _)]
    simpa using hj
  · intro v' w' hown' hg _ hat
    rw [← TV_one, ← TV_append] at hown'
    obtain ⟨A', c', rfl, h'⟩ := shape_own hown' (by omega)
    refine h A' c' w' h' ⟨hg.os, hg.tape, hg.output, by have := hg.size; simp at this; omega, fun k hk hne => (hg.block k (by simp; omega) hne).trans (Below.heap_alloc w _ k hk)⟩ (fun k hk => ?_)
    rcases hat with hat | hat
    · exact .inl (hat ▸ hk)
    · rw [hat] at hk
      injection hk with hk
      exact .inr (by rw [← hk]; simp)

/-- two heaps of debts side by side -/
structure Lay (w : World) (B g h : Nat) (A : Option Addr) (n c : Nat) (xs : List (Nat × Int)) (A2 : Option Addr) (n2 c2 : Nat) (ys : List (Nat × Int)) : Prop where
  one : Hp w B g A n c xs
  two : Hp w B h A2 n2 c2 ys
  bg : B ≤ g
  bh : B ≤ h
  gh : g ≠ h
  oh : ∀ k, (Value.slice A n c).ownBlock = some k → k ≠ h
  tg : ∀ k, (Value.slice A2 n2 c2).ownBlock = some k → k ≠ g
  ot : ∀ k, (Value.slice A n c).ownBlock = some k → (Value.slice A2 n2 c2).ownBlock ≠ some k
/-- a row apart from both -/
def Sep (g h : Nat) (A : Option Addr) (n c : Nat) (A2 : Option Addr) (n2 c2 : Nat) (T : Value) : Prop :=
  ∀ k, T.ownBlock = some k → k ≠ g ∧ k ≠ h ∧ (Value.slice A n c).ownBlock ≠ some k ∧ (Value.slice A2 n2 c2).ownBlock ≠ some k
section
variable {w w' : World} {B g h n c n2 c2 : Nat} {A A2 : Option Addr} {xs ys : List (Nat × Int)} {T : Value}
theorem Lay.symm (L : Lay w B g h A n c xs A2 n2 c2 ys) : Lay w B h g A2 n2 c2 ys A n c xs :=
  ⟨L.two, L.one, L.bh, L.bg, L.gh.symm, L.tg, L.oh, fun k h1 h2 => L.ot k h2 h1⟩
theorem Sep.symm (S : Sep g h A n c A2 n2 c2 T) : Sep h g A2 n2 c2 A n c T := fun k hk => by
  obtain ⟨h1, h2, h3, h4⟩ := S k hk
  exact ⟨h2, h1, h4, h3⟩
theorem Lay.next (L : Lay w B g h A n c xs A2 n2 c2 ys) (hb : Below w.heap.size w w') : Lay w' B g h A n c xs A2 n2 c2 ys :=
  ⟨L.one.next hb, L.two.next hb, L.bg, L.bh, L.gh, L.oh, L.tg, L.ot⟩
theorem Lay.drew (L : Lay w B g h A n c xs A2 n2 c2 ys) : Lay w.drew B g h A n c xs A2 n2 c2 ys := ⟨L.one.drew, L.two.drew, L.bg, L.bh, L.gh, L.oh, L.tg, L.ot⟩
/-- one heap changed; a row apart from both stays apart, and what lies apart stays -/
theorem Lay.change {A' : Option Addr} {n' c' : Nat} {xs' : List (Nat × Int)} (L : Lay w B g h A n c xs A2 n2 c2 ys) (h1 : Hp w' B g A' n' c' xs') (h2 : Kept w w' (Mine g A n c))
    (h3 : ∀ k, (Value.slice A' n' c').ownBlock = some k → (Value.slice A n c).ownBlock = some k ∨ w.heap.size ≤ k) :
    Lay w' B g h A' n' c' xs' A2 n2 c2 ys ∧ Below B w w' ∧ ∀ T, Sep g h A n c A2 n2 c2 T → (∀ k, T.ownBlock = some k → k < w.heap.size) → Sep g h A' n' c' A2 n2 c2 T := by
  have hh := L.two.blk.lt
  have no : ∀ k, (Value.slice A2 n2 c2).ownBlock = some k → k < w.heap.size := fun k hk => (L.two.own.blk k hk).2
  refine ⟨⟨h1, L.two.kept h2 ?_ ?_, L.bg, L.bh, L.gh, ?_, L.tg, ?_⟩, h2.below ?_ ?_, fun T S hT k hk => ?_⟩
  · rintro (e | e)
    · exact L.gh e.symm
    · exact L.oh _ e rfl
  · rintro k hk (e | e)
    · exact L.tg k hk e
    · exact L.ot k e hk
  · intro k hk
    rcases h3 k hk with e | e
    · exact L.oh k e
    · omega
  · intro k hk hk2
    rcases h3 k hk with e | e
    · exact L.ot k e hk2
    · have := no k hk2; omega
  · have := L.bg; have := L.one.blk.lt; omega
  · rintro k (e | e)
    · have := L.bg; omega
    · exact (L.one.own.blk k e).1
  · obtain ⟨s1, s2, s3, s4⟩ := S k hk
    refine ⟨s1, s2, fun e => ?_, s4⟩
    rcases h3 k e with e | e
    · exact s3 e
    · have := hT k hk; omega
theorem Lay.put1 {x : Nat × Int} (L : Lay w B g h A n c xs A2 n2 c2 ys) (hP : PutPost w B g A n c xs x w') :
    ∃ A' c', Lay w' B g h A' (Ta.putL xs x).length c' (Ta.putL xs x) A2 n2 c2 ys ∧ Below B w w' ∧ Kept w w' (Mine g A n c) ∧ ∀ T, Sep g h A n c A2 n2 c2 T → (∀ k, T.ownBlock = some k → k < w.heap.size) → Sep g h A' (Ta.putL xs x).length c' A2 n2 c2 T := by
  obtain ⟨A', c', h1, h2, h3⟩ := hP
  obtain ⟨r1, r2, r3⟩ := L.change h1 h2 h3
  exact ⟨A', c', r1, r2, h2, r3⟩
theorem Lay.put2 {y : Nat × Int} (L : Lay w B g h A n c xs A2 n2 c2 ys) (hP : PutPost w B h A2 n2 c2 ys y w') :
    ∃ A' c', Lay w' B g h A n c xs A' (Ta.putL ys y).length c' (Ta.putL ys y) ∧ Below B w w' ∧ Kept w w' (Mine h A2 n2 c2) ∧ ∀ T, Sep g h A n c A2 n2 c2 T → (∀ k, T.ownBlock = some k → k < w.heap.size) → Sep g h A n c A' (Ta.putL ys y).length c' T := by
  obtain ⟨A', c', r1, r2, r3, r4⟩ := L.symm.put1 hP
  exact ⟨A', c', r1.symm, r2, r3, fun T S hT => (r4 T S.symm hT).symm⟩
theorem Lay.take1 {r : Nat} {zs : List (Nat × Int)} (L : Lay w B g h (some ⟨r, 0, none⟩) (n + 1) c xs A2 n2 c2 ys) (hP : PopPost w B g r n c zs w') :
    Lay w' B g h (some ⟨r, 0, none⟩) n c zs A2 n2 c2 ys ∧ Below B w w' ∧ Kept w w' (Mine g (some ⟨r, 0, none⟩) (n + 1) c) ∧ ∀ T, Sep g h (some ⟨r, 0, none⟩) (n + 1) c A2 n2 c2 T → (∀ k, T.ownBlock = some k → k < w.heap.size) → Sep g h (some ⟨r, 0, none⟩) n c A2 n2 c2 T := by
  obtain ⟨h1, h2⟩ := hP
  have h2' : Kept w w' (Mine g (some ⟨r, 0, none⟩) (n + 1) c) := h2.mono fun k _ hk => by
    rcases hk with e | e
    · exact .inl e
    · exact .inr (by rw [e]; rfl)
  obtain ⟨r1, r2, r3⟩ := L.change h1 h2' (fun k hk => .inl hk)
  exact ⟨r1, r2, h2', r3⟩
theorem Lay.take2 {r : Nat} {zs : List (Nat × Int)} (L : Lay w B g h A n c xs (some ⟨r, 0, none⟩) (n2 + 1) c2 ys) (hP : PopPost w B h r n2 c2 zs w') :
    Lay w' B g h A n c xs (some ⟨r, 0, none⟩) n2 c2 zs ∧ Below B w w' ∧ Kept w w' (Mine h (some ⟨r, 0, none⟩) (n2 + 1) c2) ∧ ∀ T, Sep g h A n c (some ⟨r, 0, none⟩) (n2 + 1) c2 T → (∀ k, T.ownBlock = some k → k < w.heap.size) → Sep g h A n c (some ⟨r, 0, none⟩) n2 c2 T := by
  obtain ⟨r1, r2, r3, r4⟩ := L.symm.take1 hP
  exact ⟨r1.symm, r2, r3, fun T S hT => (r4 T S.symm hT).symm⟩
/-- a row of the call's own apart from the heap that changed -/
theorem OwnR.apart {e : TypeId} {k n' c' : Nat} {A' : Option Addr} {vs : List Value} (ho : OwnR w B e k A' n' c' vs) (hk : Kept w w' (Mine g A n c)) (hs : ∀ q, (Value.slice A' n' c').ownBlock = some q → q ≠ g ∧ (Value.slice A n c).ownBlock ≠ some q) : OwnR w' B e k A' n' c' vs := by
  refine ⟨⟨ho.1.1, ?_⟩, ho.2⟩
  rcases ho.1.2 with h0 | ⟨r, cap, cur, hv, hb, hg, rest⟩
  · exact .inl h0
  · refine .inr ⟨r, cap, cur, hv, hb, ?_, rest⟩
    have hq := hs r (by rw [hv]; rfl)
    rw [hk.block r (Array.getElem?_eq_some_iff.1 hg).1 (by rintro (e | e); exact hq.1 e; exact hq.2 e)]
    exact hg
/-- a row that grew: the heaps stay, and stay apart from it -/
theorem Lay.grown {T' : Value} (L : Lay w B g h A n c xs A2 n2 c2 ys) (S : Sep g h A n c A2 n2 c2 T) (hg : w.grownBy w' T.ownBlock) (hat : ∀ k, T'.ownBlock = some k → T.ownBlock = some k ∨ w.heap.size ≤ k) :
    Lay w' B g h A n c xs A2 n2 c2 ys ∧ Sep g h A n c A2 n2 c2 T' := by
  have hk := Kept.of_grown hg
  refine ⟨⟨L.one.kept hk (fun e => (S _ e).1 rfl) (fun k h1 h2 => (S k h2).2.2.1 h1), L.two.kept hk (fun e => (S _ e).2.1 rfl) (fun k h1 h2 => (S k h2).2.2.2 h1), L.bg, L.bh, L.gh, L.oh, L.tg, L.ot⟩, fun k hk => ?_⟩
  rcases hat k hk with e | e
  · exact S k e
  · refine ⟨by have := L.one.blk.lt; omega, by have := L.two.blk.lt; omega, fun h1 => by have := (L.one.own.blk k h1).2; omega, fun h1 => by have := (L.two.own.blk k h1).2; omega⟩
/-- a store into a block made behind the heaps -/
theorem Lay.aside {w0 : World} {z : Nat} (L : Lay w B g h A n c xs A2 n2 c2 ys) (L0 : Lay w0 B g h A n c xs A2 n2 c2 ys) (hz : w0.heap.size ≤ z) (j : Nat) (v : Value) : Lay (w.setCell ⟨z, j, none⟩ v) B g h A n c xs A2 n2 c2 ys := by
  have hg : w.grownBy (w.setCell ⟨z, j, none⟩ v) (Value.slice (some ⟨z, 0, none⟩) 0 0).ownBlock := ⟨rfl, rfl, rfl, by simp [World.setCell], fun k _ hne => heap_setCell_other w _ k _ (fun e => hne (by rw [e]; rfl))⟩
  refine (L.grown (T := .slice (some ⟨z, 0, none⟩) 0 0) (T' := .slice (some ⟨z, 0, none⟩) 0 0) (fun k hk => ?_) hg (fun k hk => .inl hk)).1
  have hk : z = k := by injection hk
  refine ⟨by have := L0.one.blk.lt; omega, by have := L0.two.blk.lt; omega, fun h1 => by have := (L0.one.own.blk k h1).2; omega, fun h1 => by have := (L0.two.own.blk k h1).2; omega⟩
theorem OwnR.aside {e : TypeId} {k n' c' z : Nat} {A' : Option Addr} {vs : List Value} (ho : OwnR w B e k A' n' c' vs) (hz : ∀ q, (Value.slice A' n' c').ownBlock = some q → q ≠ z) (j : Nat) (v : Value) : OwnR (w.setCell ⟨z, j, none⟩ v) B e k A' n' c' vs := by
  have hg : w.grownBy (w.setCell ⟨z, j, none⟩ v) (some z) := ⟨rfl, rfl, rfl, by simp [World.setCell], fun k _ hne => heap_setCell_other w _ k _ (fun e => hne (by rw [e]))⟩
  exact ho.kept hg (fun q hq e => by injection e with e; exact hz q hq e.symm)
end
theorem lit_nil_t (w : World) (B : Nat) (hB : B ≤ w.heap.size) : OwnT (w.alloc (.cells #[] 52)) B (some ⟨w.heap.size, 0, none⟩) 0 0 [] := by
  refine ⟨⟨rfl, .inr ⟨w.heap.size, 0, #[], rfl, hB, heap_alloc_new w _, ?_⟩⟩, by omega⟩
  simp [TV]
end Go.Proofs.YthdoofmfigemoaaGreatDoor
end

section
/-
  The program's TalliesSettle.
-/
namespace Go.Proofs.YthdoofmfigemoaaGreatDoor
open Go.RowKit
set_option linter.unusedSimpArgs false

/-- a payment's tally -/
def payT (t : Nat × Nat × Int) : Tl := tallyOf t.1 t.2.1 t.2.2
def SettlePost (w : World) (ts : List Tl) (e : Ending) (w' : World) : Prop :=
  ((∃ out, okL ts = true ∧ Ta.settle 5 (bal (ts.map debtOf)) = some out ∧ ∃ A c, e = .returned (.tuple #[.slice A out.length c, .bool true]) ∧ OwnT w' w.heap.size A out.length c (out.map payT)) ∨
    ((okL ts = false ∨ Ta.settle 5 (bal (ts.map debtOf)) = none) ∧ e = .returned (.tuple #[.slice none 0 0, .bool false]))) ∧ Below w.heap.size w w'
/-- behind the first loop: both heaps hold the balances up to person k -/
def Filled (w wr : World) (B g h : Nat) (b : List Int) (k : Nat) : Prop :=
  ∃ A n c xs A2 n2 c2 ys, Lay wr B g h A n c xs A2 n2 c2 ys ∧ Ta.Holds (Ta.owe b) k xs ∧ Ta.Heap xs ∧ Ta.Holds (Ta.claim b) k ys ∧ Ta.Heap ys ∧ Below B w wr
theorem lay_start {w1 : World} (B : Nat) (hB : B ≤ w1.heap.size) :
    Lay ((w1.alloc (.cells #[.slice none 0 0] 116)).alloc (.cells #[.slice none 0 0] 116)) B w1.heap.size (w1.heap.size + 1) none 0 0 [] none 0 0 [] := by
  refine ⟨⟨(Blk.new _ _ _).alloc _, OwnR.nil _ _ _ _, fun k hk => (by cases hk)⟩, ⟨?_, OwnR.nil _ _ _ _, fun k hk => (by cases hk)⟩, hB, by omega, by omega, fun k hk => (by cases hk), fun k hk => (by cases hk), fun k hk => (by cases hk)⟩
  have := Blk.new (w1.alloc (.cells #[.slice none 0 0] 116)) #[.slice none 0 0] 116
  rw [World.size_alloc] at this
  exact this
/-- in the second loop: the tallies so far, and what both heaps still hold -/
def Settling (w wr : World) (B g h : Nat) (b0 : List Int) (sv : Value) : Prop :=
  ∃ (b : List Int) (f : Nat) (out : List (Nat × Nat × Int)) (A : Option Addr) (n c : Nat) (xs : List (Nat × Int)) (A2 : Option Addr) (n2 c2 : Nat) (ys : List (Nat × Int)) (AT : Option Addr) (cT : Nat),
    sv = .slice AT out.length cT ∧ Ta.Todo b0 f b out ∧ Ta.Bd 432000 b ∧ Ta.St b xs ys ∧ Lay wr B g h A n c xs A2 n2 c2 ys ∧ OwnT wr B AT out.length cT (out.map payT) ∧ Sep g h A n c A2 n2 c2 (.slice AT out.length cT) ∧ Below B w wr
def rowLen : Value → Nat
  | .slice _ n _ => n
  | _ => 0
theorem neg_in {u : Int} (h : -432000 ≤ u ∧ u ≤ 432000) : IntKind.i64.wrap (-u) = -u := IntWalk.i64_in _ (by omega)
set_option maxRecDepth 100000 in
set_option maxHeartbeats 1000000 in
theorem TalliesSettle_any (A : Option Addr) (n c : Nat) (ts : List Tl) (w : World) (hr : Tals w w.heap.size A n ts) (hsm : Small ts) : Calls Tryz.prog 36 #[.slice A n c] w (SettlePost w ts) := by
  go_enter Tryz.func36, Tryz.ntmps36
  go_wp2_with fail
  refine (debtsOf_any A n c ts w hr hsm).mono ?_
  rintro e w1 ⟨⟨hok, A1, c1, rfl, ho⟩ | ⟨hno, rfl⟩, hb⟩
  rotate_left
  · have HB := Lib.hid hb
    have HNO := Lib.hid hno
    clear hno hb hr hsm
    go_wp2
    go_ret2
    exact ⟨.inr ⟨.inl HNO.out, rfl⟩, HB.out⟩
  obtain ⟨b, hbb⟩ : ∃ b, bal (ts.map debtOf) = b := ⟨_, rfl⟩
  have hF := fair_of hok
  obtain ⟨hbal, hbd⟩ := bal_ok hF
  have hbl := bal_length (ts.map debtOf)
  rw [hbb] at hbal hbd hbl
  have HPS := Lib.hid (show ∀ e w', (((∃ out, Ta.settle 5 b = some out ∧ ∃ A c, e = .returned (.tuple #[.slice A out.length c, .bool true]) ∧ OwnT w' w.heap.size A out.length c (out.map payT)) ∨
    (Ta.settle 5 b = none ∧ e = .returned (.tuple #[.slice none 0 0, .bool false]))) ∧ Below w.heap.size w w') → SettlePost w ts e w' from fun e w' h => by
      unfold SettlePost
      rw [hbb]
      rcases h with ⟨⟨out, h1, h2⟩ | ⟨h1, h2⟩, h3⟩
      · exact ⟨.inl ⟨out, hok, h1, h2⟩, h3⟩
      · exact ⟨.inr ⟨.inr h1, h2⟩, h3⟩)
  obtain ⟨W, hW⟩ : ∃ W, (w1.alloc (.cells #[.slice none 0 0] 116)).alloc (.cells #[.slice none 0 0] 116) = W := ⟨_, rfl⟩
  have hL := lay_start w.heap.size hb.size
  rw [hW] at hL
  have hbW : Below w1.heap.size w1 W := by rw [← hW]; exact ((Below.refl _ _).alloc (Nat.le_refl _) _).alloc (by simp) _
  have HD := Lib.hid (ho.dbs.next hbW)
  have HB := Lib.hid (hb.trans (hbW.mono hb.size))
  have HL0 := Lib.hid hL
  have HW := Lib.hid hW
  have HF := Lib.hid hF
  have HBB := Lib.hid hbb
  have HBAL := Lib.hid hbal
  have HBD := Lib.hid hbd
  clear hok hF hbb hbal hbd hW hL hbW ho hb hr hsm
  go_wp2_with fail
  rw [HW.out]
  refine (balances_any A1 n c1 (ts.map debtOf) W HD.out HF.out).mono ?_
  rintro e w2 ⟨rfl, hb2⟩
  rw [HBB.out]
  have HB2 := Lib.hid (HB.out.trans (hb2.mono HB.out.size))
  have HL2 := Lib.hid (HL0.out.next hb2)
  clear hb2
  go_wp2_with fail
  go_loopw [25] (fun iv wr => ∃ (k : Nat), k ≤ 5 ∧ iv = .int .i64 (k : Int) ∧ Filled w wr w.heap.size w1.heap.size (w1.heap.size + 1) b k) (fun iv _ => 5 - (intOf iv).toNat)
  case atStart => exact ⟨0, by omega, rfl, none, 0, 0, [], none, 0, 0, [], HL2.out, Ta.Holds.zero _, trivial, Ta.Holds.zero _, trivial, HB2.out⟩
  case round =>
    obtain ⟨k, hk, rfl, hfl⟩ := hrel
    have HFL := Lib.hid hfl
    clear hfl
    by_cases hlt : k < 5
    · obtain ⟨u, hu⟩ : ∃ u, b[k]? = some u := ⟨_, List.getElem?_eq_getElem (by omega)⟩
      have hix := run_index_five b k u hbl hu
      have hgu : b.getD k 0 = u := by rw [List.getD_eq_getElem?_getD, hu]; rfl
      have hub := HBD.out k
      rw [hgu] at hub
      have hng := neg_in hub
      have HGU := Lib.hid hgu
      clear hu hgu
      obtain ⟨A3, n3, c3, xs, A4, n4, c4, ys, hL3, hx, hhx, hy, hhy, hb3⟩ := HFL.out
      have lx : n3 ≤ 4 := by rw [← hL3.one.len]; have := hx.len; omega
      have ly : n4 ≤ 4 := by rw [← hL3.two.len]; have := hy.len; omega
      have hxk : Ta.owe b k = -u := by unfold Ta.owe; rw [HGU.out]
      have hyk : Ta.claim b k = u := HGU.out
      have hX := hx.putL hhx (by omega)
      have hY := hy.putL hhy (by omega)
      rw [hxk] at hX
      rw [hyk] at hY
      have HL3 := Lib.hid hL3
      have HX := Lib.hid hX
      have HY := Lib.hid hY
      have HB3 := Lib.hid hb3
      clear hL3 hx hhx hy hhy hb3 hX hY hxk hyk
      go_wp2_with fail
      refine (put_any wr w.heap.size w1.heap.size n3 c3 A3 xs (k, -u) HL3.out.one HB3.out.size lx).mono ?_
      rintro e w3 ⟨⟨v3, rfl⟩, hP⟩
      obtain ⟨A5, c5, hL4, hb4, _, _⟩ := HL3.out.put1 hP
      have HL4 := Lib.hid hL4
      have HB4 := Lib.hid (HB3.out.trans hb4)
      clear hP hL4 hb4
      go_wp2_with fail
      refine (put_any w3 w.heap.size (w1.heap.size + 1) n4 c4 A4 ys (k, u) HL4.out.two HB4.out.size ly).mono ?_
      rintro e w4 ⟨⟨v4, rfl⟩, hP⟩
      obtain ⟨A6, c6, hL5, hb5, _, _⟩ := HL4.out.put2 hP
      have HFI := Lib.hid (show Filled w w4 w.heap.size w1.heap.size (w1.heap.size + 1) b (k + 1) from ⟨A5, _, c5, _, A6, _, c6, _, hL5, HX.out.1, HX.out.2, HY.out.1, HY.out.2, HB4.out.trans hb5⟩)
      clear hP hL5 hb5
      go_wp2_with fail
      exact ⟨⟨k + 1, by omega, by go_num, HFI.out⟩, by simp [intOf]; omega⟩
    · have HFL5 := Lib.hid (show Filled w wr w.heap.size w1.heap.size (w1.heap.size + 1) b 5 from by have := HFL.out; rwa [show k = 5 from by omega] at this)
      go_wp2_with fail
      obtain ⟨A3, n3, c3, xs, A4, n4, c4, ys, hL3, hx, hhx, hy, hhy, hb3⟩ := HFL5.out
      have hST : Settling w (wr.alloc (.cells #[] 52)) w.heap.size w1.heap.size (w1.heap.size + 1) b (.slice (some ⟨wr.heap.size, 0, none⟩) 0 0) := by
        have hbn := (Below.refl wr.heap.size wr).alloc (Nat.le_refl _) (.cells #[] 52)
        refine ⟨b, 5, [], A3, n3, c3, xs, A4, n4, c4, ys, _, _, rfl, Ta.Todo.start hbl, HBD.out, ⟨HBAL.out, hhx, hhy, hx, hy⟩, hL3.next hbn, lit_nil_t wr _ hb3.size, ?_, hb3.trans (hbn.mono hb3.size)⟩
        intro k hk
        have hk : wr.heap.size = k := by injection hk
        exact ⟨by have := hL3.one.blk.lt; omega, by have := hL3.two.blk.lt; omega, fun e => by have := (hL3.one.own.blk _ e).2; omega, fun e => by have := (hL3.two.own.blk _ e).2; omega⟩
      have HST := Lib.hid hST
      clear hST hL3 hx hhx hy hhy hb3
      go_loopw [10] (fun sv wr => Settling w wr w.heap.size w1.heap.size (w1.heap.size + 1) b sv) (fun sv _ => 5 - rowLen sv)
      case atStart => exact HST.out
      case round =>
        obtain ⟨b2, f, out, A5, n5, c5, xs5, A6, n6, c6, ys6, AT, cT, rfl, hT, hBd, hSt, hL5, hoT, hS, hb5⟩ := hrel
        have l5 := hL5.one.len
        have l6 := hL5.two.len
        have k0 := hL5.one.cell
        have k1 := hL5.two.cell
        have HST := Lib.hid (And.intro hT (And.intro hBd hSt))
        have HL5 := Lib.hid hL5
        have HOT := Lib.hid (And.intro hoT hS)
        have HB5 := Lib.hid hb5
        clear hT hBd hSt hL5 hoT hS hb5
        have hquit : (xs5 = [] ∨ ys6 = []) → SettlePost w ts (.returned (.tuple #[.slice AT out.length cT, .bool true])) wr := fun he =>
          HPS.out _ _ ⟨.inl ⟨out, HST.out.1.done (HST.out.2.2.done he), AT, cT, rfl, HOT.out.1⟩, HB5.out⟩
        rcases xs5 with _ | ⟨x, xs5⟩
        · have HQ := Lib.hid (hquit (.inl rfl))
          clear hquit
          simp only [List.length_nil] at l5
          subst l5
          go_wp2
          go_ret2
          exact HQ.out
        rcases ys6 with _ | ⟨y, ys6⟩
        · have HQ := Lib.hid (hquit (.inr rfl))
          clear hquit
          simp only [List.length_nil] at l6
          subst l6
          have h5 : 0 < n5 := by rw [← l5]; simp
          go_wp2
          go_ret2
          exact HQ.out
        clear hquit
        simp only [List.length_cons] at l5 l6
        subst l5
        subst l6
        have n4 : xs5.length ≤ 4 := by have := HST.out.2.2.2.2.2.1.len; simp at this; omega
        have n5 : ys6.length ≤ 4 := by have := HST.out.2.2.2.2.2.2.len; simp at this; omega
        obtain ⟨r, rfl, hr0, hr1⟩ := HL5.out.one.some_ (by omega)
        obtain ⟨q, rfl, hq0, hq1⟩ := HL5.out.two.some_ (by omega)
        obtain ⟨ex, ey, hd0, hdm, hd1, hstep⟩ := HST.out.2.2.step
        have hbd2 := HST.out.2.1
        have bx := hbd2 (Ta.low b2)
        have by_ := hbd2 (Ta.high b2)
        obtain ⟨l, hl⟩ : ∃ l, Ta.low b2 = l := ⟨_, rfl⟩
        obtain ⟨t, ht⟩ : ∃ t, Ta.high b2 = t := ⟨_, rfl⟩
        obtain ⟨u, hu⟩ : ∃ u, Ta.owe b2 l = u := ⟨_, rfl⟩
        obtain ⟨v, hv⟩ : ∃ v, Ta.claim b2 t = v := ⟨_, rfl⟩
        obtain ⟨m, hm⟩ : ∃ m, Ta.due b2 = m := ⟨_, rfl⟩
        rw [hl, hu] at ex
        rw [ht, hv] at ey
        rw [hl] at bx
        rw [ht] at by_
        have hu2 : b2.getD l 0 = -u := by rw [← hu]; unfold Ta.owe; omega
        have hv2 : b2.getD t 0 = v := hv
        rw [hu2] at bx
        rw [hv2] at by_
        rw [hl, ht, hu, hv, hm] at hdm
        rw [hm] at hd0 hd1
        rw [hl, ht, hu, hv, hm] at hstep
        subst ex
        subst ey
        have HSTEP := Lib.hid hstep
        have HEQ := Lib.hid (And.intro hl (And.intro ht hm))
        clear hstep hbd2 hl ht hu hv hu2 hv2 hm
        go_wp2_with fail
        refine (heap_take_any wr w.heap.size w1.heap.size r xs5.length c5 (l, u) xs5 HL5.out.one HST.out.2.2.2.1 n4).mono ?_
        rintro e w3 ⟨he, xs7, hx7, px7, hP⟩
        have he : e = .returned (.agg #[.int .i64 (l : Int), .int .i64 (l : Int), .int .i64 u]) := he
        subst he
        obtain ⟨hL7, hb7, hk7, hs7⟩ := HL5.out.take1 hP
        have HOT7 := Lib.hid (And.intro (HOT.out.1.apart hk7 (fun z hz => ⟨(HOT.out.2 z hz).1, (HOT.out.2 z hz).2.2.1⟩)) (hs7 _ HOT.out.2 (fun z hz => (HOT.out.1.blk z hz).2)))
        have HL7 := Lib.hid hL7
        have HB7 := Lib.hid (HB5.out.trans hb7)
        have HX7 := Lib.hid (And.intro hx7 px7)
        clear hL7 hb7 hk7 hs7 hP hx7 px7
        go_wp2_with fail
        refine (heap_take_any w3 w.heap.size (w1.heap.size + 1) q ys6.length c6 (t, v) ys6 HL7.out.two HST.out.2.2.2.2.1 n5).mono ?_
        rintro e w4 ⟨he, ys7, hy7, py7, hP⟩
        have he : e = .returned (.agg #[.int .i64 (t : Int), .int .i64 (t : Int), .int .i64 v]) := he
        subst he
        obtain ⟨hL8, hb8, hk8, hs8⟩ := HL7.out.take2 hP
        have HOT8 := Lib.hid (And.intro (HOT7.out.1.apart hk8 (fun z hz => ⟨(HOT7.out.2 z hz).2.1, (HOT7.out.2 z hz).2.2.2⟩)) (hs8 _ HOT7.out.2 (fun z hz => (HOT7.out.1.blk z hz).2)))
        have HL8 := Lib.hid hL8
        have HB8 := Lib.hid (HB7.out.trans hb8)
        have HY7 := Lib.hid (And.intro hy7 py7)
        clear hL8 hb8 hk8 hs8 hP hy7 py7
        have hmin : min u v = m := hdm.symm
        have HMIN := Lib.hid hmin
        clear hmin hdm k0 k1
        go_wp2_with fail
        rw [HMIN.out]
        obtain ⟨W5, hW5⟩ : ∃ W5, (((w4.alloc (.cells #[.int .i64 (l : Int), .int .i64 (l : Int), .int .i64 u] 123)).alloc (.cells #[.int .i64 (t : Int), .int .i64 (t : Int), .int .i64 v] 123)).alloc (.cells #[.int .i64 (l : Int), .int .i64 (t : Int), .int .i64 m] 123)) = W5 := ⟨_, rfl⟩
        have hb5 : Below w4.heap.size w4 W5 := by rw [← hW5]; exact (((Below.refl _ _).alloc (Nat.le_refl _) _).alloc (by simp) _).alloc (by simp; omega) _
        have d1 : Blk W5 w4.heap.size #[.int .i64 (l : Int), .int .i64 (l : Int), .int .i64 u] 123 := by rw [← hW5]; exact ((Blk.new _ _ _).alloc _).alloc _
        have d2 : Blk W5 (w4.heap.size + 1) #[.int .i64 (t : Int), .int .i64 (t : Int), .int .i64 v] 123 := by
          rw [← hW5]
          have := Blk.new (w4.alloc (.cells #[.int .i64 (l : Int), .int .i64 (l : Int), .int .i64 u] 123)) #[.int .i64 (t : Int), .int .i64 (t : Int), .int .i64 v] 123
          rw [World.size_alloc] at this
          exact this.alloc _
        have d3 : Blk W5 (w4.heap.size + 1 + 1) #[.int .i64 (l : Int), .int .i64 (t : Int), .int .i64 m] 123 := by
          rw [← hW5]
          have := Blk.new ((w4.alloc (.cells #[.int .i64 (l : Int), .int .i64 (l : Int), .int .i64 u] 123)).alloc (.cells #[.int .i64 (t : Int), .int .i64 (t : Int), .int .i64 v] 123)) #[.int .i64 (l : Int), .int .i64 (t : Int), .int .i64 m] 123
          rw [World.size_alloc, World.size_alloc] at this
          exact this
        rw [hW5]
        have HB5' := Lib.hid (HB8.out.trans (hb5.mono HB8.out.size))
        have HL5' := Lib.hid (HL8.out.next hb5)
        have HOT5 := Lib.hid (And.intro (HOT8.out.1.next hb5) HOT8.out.2)
        have HBW5 := Lib.hid hb5
        have HD5 := Lib.hid (And.intro d1 (And.intro d2 d3))
        clear hW5 hb5 d1 d2 d3
        have hsp := (Ta.due_spec HST.out.2.2.1).2.2 (by rw [HEQ.out.2.2]; exact hd0)
        have hll := Ta.low_lt b2
        have htl := Ta.high_lt b2
        rw [HEQ.out.1, HEQ.out.2.1] at hsp
        rw [HEQ.out.1] at hll
        rw [HEQ.out.2.1] at htl
        have htwo : Two (l : Int) (t : Int) := ⟨by omega, by omega, by omega, by omega, fun e => hsp.2.2 (by omega)⟩
        have HTW := Lib.hid htwo
        clear hsp htwo
        refine (tally_walk (l : Int) (t : Int) m W5).mono ?_
        rintro e w6 ⟨⟨hok, he⟩ | ⟨hno, he⟩, hb6⟩
        rotate_left
        · subst he
          have hm9 : 9999 < m := by
            by_cases h9 : 9999 < m
            · exact h9
            · exact absurd ⟨HTW.out, by omega, by omega⟩ hno
          have HN := Lib.hid (show ∀ o, SettlePost w ts (.returned (.tuple #[.slice none 0 0, .bool false])) (w6.alloc o) from fun o => HPS.out _ _ ⟨.inr ⟨HST.out.1.no HST.out.2.2.1 (by rw [HEQ.out.2.2]; exact hd0) (by rw [HEQ.out.2.2]; exact .inr hm9), rfl⟩,
            (HB5'.out.trans (hb6.mono HB5'.out.size)).alloc (Nat.le_trans HB5'.out.size hb6.size) _⟩)
          clear hb6 hno hm9
          unfold noTl
          go_wp2
          go_ret2
          exact HN.out _
        · have he : e = .returned (.tuple #[.agg #[.int .i64 (l : Int), .int .i64 (t : Int), .string (txt (Ta.ntext m.toNat)), .string (txt (Ta.ntext m.toNat))], .bool true]) := he
          subst he
          obtain ⟨s, hs⟩ : ∃ s, txt (Ta.ntext m.toNat) = s := ⟨_, rfl⟩
          have hpt : payT (l, t, m) = ⟨(l : Int), (t : Int), s, s⟩ := by rw [← hs]; rfl
          rw [hs]
          obtain ⟨W7, hW7⟩ : ∃ W7, w6.alloc (.cells #[.int .i64 (l : Int), .int .i64 (t : Int), .string s, .string s] 52) = W7 := ⟨_, rfl⟩
          have hb7 : Below W5.heap.size W5 W7 := by rw [← hW7]; exact hb6.alloc hb6.size _
          obtain ⟨d1, d2, d3⟩ := HD5.out
          have e1 := d1.next hb7
          have e2 := d2.next hb7
          have e3 := d3.next hb7
          have e4 : Blk W7 w6.heap.size #[.int .i64 (l : Int), .int .i64 (t : Int), .string s, .string s] 52 := by rw [← hW7]; exact Blk.new _ _ _
          have HPT := Lib.hid hpt
          have HM := Lib.hid hok
          have HL7' := Lib.hid (HL5'.out.next hb7)
          have HOT7' := Lib.hid (And.intro (HOT5.out.1.next hb7) HOT5.out.2)
          have HB7' := Lib.hid (HB5'.out.trans (hb7.mono HB5'.out.size))
          have HD7 := Lib.hid (And.intro e1 (And.intro e2 (And.intro e3 e4)))
          obtain ⟨f2, rfl⟩ := HST.out.1.pos HST.out.2.2.1 (by rw [HEQ.out.2.2]; exact hd0)
          have hout : out.length ≤ 4 := by have := HST.out.1.2.2; omega
          have HNB := Lib.hid (show w6.heap.size + 1 = W7.heap.size by rw [← hW7]; simp)
          clear hpt hok hb7 e1 e2 e3 e4 d1 d2 d3 hb6 hs he
          subst hW7
          have HMB := Lib.hid (show m ≤ u ∧ m ≤ v from by have := HMIN.out; omega)
          have hwu : IntKind.i64.wrap (u - m) = u - m := IntWalk.i64_in _ (by have := HMB.out; omega)
          have hwv : IntKind.i64.wrap (v - m) = v - m := IntWalk.i64_in _ (by have := HMB.out; omega)
          clear bx by_
          go_wp2_with (refine wpList_app_t_at rfl _ _ rfl rfl HOT7'.out.1 ⟨(l : Int), (t : Int), s, s⟩ _ _ rfl HNB.out _ rfl (by omega) HB7'.out.size ?_; intro A9 c9 w9 ho9 hg9 hat9; have hne9 : ∀ z, w4.heap.size ≤ z → some z ≠ (Value.slice AT out.length cT).ownBlock := (fun z hz e => by have := (HOT8.out.1.blk z e.symm).2; omega); have j1 := HD7.out.1.grown hg9 (hne9 _ (by omega)); have j2 := HD7.out.2.1.grown hg9 (hne9 _ (by omega)); have j3 := HD7.out.2.2.1.grown hg9 (hne9 _ (by omega)); have x0 : w9.cell? ⟨w4.heap.size, 0, none⟩ = some (.int .i64 (l : Int)) := j1.cell rfl; have x1 : w9.cell? ⟨w4.heap.size, 1, none⟩ = some (.int .i64 (l : Int)) := j1.cell rfl; have x2 : w9.cell? ⟨w4.heap.size, 2, none⟩ = some (.int .i64 u) := j1.cell rfl; have y0 : w9.cell? ⟨w4.heap.size + 1, 0, none⟩ = some (.int .i64 (t : Int)) := j2.cell rfl; have y1 : w9.cell? ⟨w4.heap.size + 1, 1, none⟩ = some (.int .i64 (t : Int)) := j2.cell rfl; have y2 : w9.cell? ⟨w4.heap.size + 1, 2, none⟩ = some (.int .i64 v) := j2.cell rfl; have z2 : w9.cell? ⟨w4.heap.size + 1 + 1, 2, none⟩ = some (.int .i64 m) := j3.cell rfl; have f1 := j1.free 2; have f2 := j2.free 2; have HO9 := Lib.hid ho9; have HG9 := Lib.hid hg9; have HAT9 := Lib.hid hat9; have HJ := Lib.hid (And.intro j1 (And.intro j2 j3)); clear ho9 hg9 hat9 hne9 j1 j2 j3)
          obtain ⟨W10, hW10⟩ : ∃ W10, (w9.setCell ⟨w4.heap.size, 2, none⟩ (.int .i64 (u - m))).setCell ⟨w4.heap.size + 1, 2, none⟩ (.int .i64 (v - m)) = W10 := ⟨_, rfl⟩
          rw [hW10]
          obtain ⟨hL9, hS9⟩ := HL7'.out.grown HOT7'.out.2 HG9.out HAT9.out
          have hL10 := (hL9.aside HL8.out (Nat.le_refl _) 2 (.int .i64 (u - m))).aside HL8.out (Nat.le_succ _) 2 (.int .i64 (v - m))
          rw [hW10] at hL10
          have hq9 : ∀ z, w4.heap.size ≤ z → z ≤ w4.heap.size + 1 → ∀ q, (Value.slice A9 (out.length + 1) c9).ownBlock = some q → q ≠ z := fun z h1 h2 q hq => by
            have hsz := HBW5.out.size
            rcases HAT9.out q hq with e | e
            · have := (HOT8.out.1.blk q e).2; omega
            · have h6 : w4.heap.size + 1 + 1 < w6.heap.size + 1 := by have := HD7.out.2.2.1.lt; simpa using this
              have h7 := HNB.out
              omega
          have hO10 := (HO9.out.aside (hq9 w4.heap.size (Nat.le_refl _) (Nat.le_succ _)) 2 (.int .i64 (u - m))).aside (hq9 (w4.heap.size + 1) (Nat.le_succ _) (Nat.le_refl _)) 2 (.int .i64 (v - m))
          rw [hW10] at hO10
          have hB10 : Below w.heap.size w W10 := by
            rw [← hW10]
            have h4 := HB8.out.size
            exact ((HB7'.out.grown HG9.out HB7'.out.size (fun q hq => (HOT7'.out.1.blk q hq).1)).setCell (p := ⟨w4.heap.size, 2, none⟩) h4 _).setCell (p := ⟨w4.heap.size + 1, 2, none⟩) (Nat.le_succ_of_le h4) _
          have hJ10 : Blk W10 (w4.heap.size + 1) #[.int .i64 (t : Int), .int .i64 (t : Int), .int .i64 (v - m)] 123 := by
            rw [← hW10]
            have := (HJ.out.2.1.other (p := ⟨w4.heap.size, 2, none⟩) (by show ¬ w4.heap.size + 1 = w4.heap.size; omega) (.int .i64 (u - m))).set 2 (.int .i64 (v - m))
            simpa using this
          have HL10 := Lib.hid hL10
          have HO10 := Lib.hid (And.intro hO10 hS9)
          have HB10 := Lib.hid hB10
          have HJ10 := Lib.hid hJ10
          clear hW10 hL9 hS9 hL10 hq9 hO10 hB10 hJ10 x0 x1 x2 y0 y1 y2 z2 f1 f2 hwu hwv
          refine (put_any W10 w.heap.size w1.heap.size xs5.length c5 _ xs7 (l, u - m) HL10.out.one HB10.out.size n4).mono ?_
          rintro e w11 ⟨⟨v11, rfl⟩, hP⟩
          obtain ⟨A11, c11, hL11, hb11, hk11, hs11⟩ := HL10.out.put1 hP
          have hj11 : Blk w11 (w4.heap.size + 1) #[.int .i64 (t : Int), .int .i64 (t : Int), .int .i64 (v - m)] 123 := HJ10.out.keep (hk11.block _ HJ10.out.lt (by
            rintro (e | e)
            · have := HL8.out.one.blk.lt; omega
            · have := (HL8.out.one.own.blk _ e).2; omega))
          have hO11 := HO10.out.1.apart hk11 (fun z hz => ⟨(HO10.out.2 z hz).1, (HO10.out.2 z hz).2.2.1⟩)
          have hS11 := hs11 _ HO10.out.2 (fun z hz => (HO10.out.1.blk z hz).2)
          have y0 : w11.cell? ⟨w4.heap.size + 1, 0, none⟩ = some (.int .i64 (t : Int)) := hj11.cell rfl
          have y1 : w11.cell? ⟨w4.heap.size + 1, 1, none⟩ = some (.int .i64 (t : Int)) := hj11.cell rfl
          have y2 : w11.cell? ⟨w4.heap.size + 1, 2, none⟩ = some (.int .i64 (v - m)) := hj11.cell rfl
          have HL11 := Lib.hid hL11
          have HO11 := Lib.hid (And.intro hO11 hS11)
          have HB11 := Lib.hid (HB10.out.trans hb11)
          clear hP hL11 hb11 hk11 hs11 hj11 hO11 hS11
          go_wp2_with fail
          refine (put_any w11 w.heap.size (w1.heap.size + 1) ys6.length c6 _ ys7 (t, v - m) HL11.out.two HB11.out.size n5).mono ?_
          rintro e w12 ⟨⟨v12, rfl⟩, hP⟩
          obtain ⟨A12, c12, hL12, hb12, hk12, hs12⟩ := HL11.out.put2 hP
          have hO12 := HO11.out.1.apart hk12 (fun z hz => ⟨(HO11.out.2 z hz).2.1, (HO11.out.2 z hz).2.2.2⟩)
          have hS12 := hs12 _ HO11.out.2 (fun z hz => (HO11.out.1.blk z hz).2)
          have hnext := HST.out.1.next HST.out.2.2.1 (by rw [HEQ.out.2.2]; exact hd0) (by rw [HEQ.out.2.2]; exact HM.out.2.1) (by rw [HEQ.out.2.2]; exact HM.out.2.2)
          have hbd3 := HST.out.2.1.pay HST.out.2.2.1 (by rw [HEQ.out.2.2]; exact hd0)
          rw [HEQ.out.1, HEQ.out.2.1, HEQ.out.2.2] at hnext hbd3
          have hlen : (out ++ [(l, t, m)]).length = out.length + 1 := by simp
          have HFIN := Lib.hid (show Settling w w12 w.heap.size w1.heap.size (w1.heap.size + 1) b (.slice A9 (out.length + 1) c9) from by
            refine ⟨_, f2, out ++ [(l, t, m)], A11, _, c11, _, A12, _, c12, _, A9, c9, by rw [hlen], hnext, hbd3, HSTEP.out _ _ HX7.out.2 HY7.out.2 HX7.out.1 HY7.out.1, hL12, ?_, by rw [hlen]; exact hS12, HB11.out.trans hb12⟩
            rw [hlen, List.map_append, List.map_cons, List.map_nil, HPT.out]
            exact hO12)
          clear hP hL12 hb12 hk12 hs12 hO12 hS12 hnext hbd3 hlen y0 y1 y2
          go_wp2_with fail
          exact ⟨HFIN.out, by simp [rowLen]; omega⟩
end Go.Proofs.YthdoofmfigemoaaGreatDoor
end

section
/-
  The commands of tallies: owe, settle.
-/
namespace Go.Proofs.YthdoofmfigemoaaGreatDoor
open Go.RowKit
set_option linter.unusedSimpArgs false
set_option maxRecDepth 100000

set_option maxHeartbeats 2000000 in
theorem TallyNew_any (a c v : Int) (w : World) : Calls Tryz.prog 203 #[.int .i64 a, .int .i64 c, .int .i64 v] w fun e w' =>
    ((DebtOk a c v ∧ e = .returned (.tuple #[(tallyOf a c v).val, .bool true])) ∨ (¬ DebtOk a c v ∧ e = .returned (.tuple #[noTl, .bool false]))) ∧ Below w.heap.size w w' := by
  have hbt : Blk (w.alloc (.cells #[.int .i64 0, .int .i64 0, .string ⟨#[]⟩, .string ⟨#[]⟩] 52)) w.heap.size #[.int .i64 0, .int .i64 0, .string ⟨#[]⟩, .string ⟨#[]⟩] 52 := Blk.new _ _ _
  have hbl : Below w.heap.size w (w.alloc (.cells #[.int .i64 0, .int .i64 0, .string ⟨#[]⟩, .string ⟨#[]⟩] 52)) := (Below.refl _ _).alloc (Nat.le_refl _) _
  have HT := Lib.hid hbt
  have HB := Lib.hid hbl
  clear hbt hbl
  go_enter Tryz.func203, Tryz.ntmps203
  go_wp2_with fail
  refine (tally_walk a c v _).mono ?_
  rintro e w1 ⟨hcase, hb1⟩
  obtain ⟨y0, y1, y2, y3, ok, he, hx⟩ : ∃ y0 y1 y2 y3 ok, e = .returned (.tuple #[.agg #[.int .i64 y0, .int .i64 y1, .string y2, .string y3], .bool ok]) ∧ ((DebtOk a c v ∧ Value.tuple #[.agg #[.int .i64 y0, .int .i64 y1, .string y2, .string y3], .bool ok] = .tuple #[(tallyOf a c v).val, .bool true]) ∨ (¬ DebtOk a c v ∧ Value.tuple #[.agg #[.int .i64 y0, .int .i64 y1, .string y2, .string y3], .bool ok] = .tuple #[noTl, .bool false])) := by
    rcases hcase with ⟨h, rfl⟩ | ⟨h, rfl⟩
    · exact ⟨_, _, _, _, _, rfl, .inl ⟨h, rfl⟩⟩
    · exact ⟨_, _, _, _, _, rfl, .inr ⟨h, rfl⟩⟩
  subst he
  clear hcase
  have hT1 := HT.out.next hb1
  have f0 := hT1.free 0
  have f1 := hT1.free 1
  have f2 := hT1.free 2
  have f3 := hT1.free 3
  have hf := hT1.set4 (.int .i64 y0) (.int .i64 y1) (.string y2) (.string y3)
  have HF := Lib.hid hf
  have HBF := Lib.hid (below_set4 (HB.out.trans (hb1.mono HB.out.size)) (Nat.le_refl w.heap.size) (.int .i64 y0) (.int .i64 y1) (.string y2) (.string y3))
  have t0 := hT1.cell (j := 0) (v := .int .i64 0) rfl
  have t1 := hT1.cell (j := 1) (v := .int .i64 0) rfl
  have t2 := hT1.cell (j := 2) (v := .string ⟨#[]⟩) rfl
  have t3 := hT1.cell (j := 3) (v := .string ⟨#[]⟩) rfl
  have HX := Lib.hid hx
  clear hT1 hf hb1 hx
  go_wp2_with fail
  have g0 := HF.out.cell (j := 0) (v := .int .i64 y0) rfl
  have g1 := HF.out.cell (j := 1) (v := .int .i64 y1) rfl
  have g2 := HF.out.cell (j := 2) (v := .string y2) rfl
  have g3 := HF.out.cell (j := 3) (v := .string y3) rfl
  refine bodyPost_ret (v := .tuple #[.agg #[.int .i64 y0, .int .i64 y1, .string y2, .string y3], .bool ok]) (by simp [results, Tryz.results203, go_sem, g0, g1, g2, g3]) rfl ⟨?_, HBF.out⟩
  rcases HX.out with ⟨h, e⟩ | ⟨h, e⟩
  · exact .inl ⟨h, congrArg _ e⟩
  · exact .inr ⟨h, congrArg _ e⟩
instance (a c v : Int) : Decidable (DebtOk a c v) := by unfold DebtOk; exact inferInstance
/-- can the tally be put behind the others? -/
def oweOk (ts : List Tl) (a c v : Int) : Bool := decide (DebtOk a c v) && decide (ts.length < 12)
def OweCmd (B0 tb : Nat) (bds ds : List Int) (ts' : List Tl) (ok' : Bool) (s : ByteArray) (ok : Bool) (w' : World) : Prop := ok = ok' ∧ (s = if ok' then okT else ⟨#[]⟩) ∧ Tab B0 w' tb bds ds ts'
theorem KeptT.grow {B0 n c : Nat} {w w' : World} {A : Option Addr} {ts : List Tl} (ho : OwnT w B0 A n c ts) (hg : w.grownBy w' (Value.slice A n c).ownBlock) : KeptT B0 w w' :=
  (Kept.of_grown hg).mono fun k _ e => by
    obtain ⟨cur, z, h⟩ := OwnR.ty ho e
    exact ⟨(OwnR.blk ho k e).1, cur, z, _, h, .inr rfl⟩
theorem blk_ty2 {w : World} {k : Nat} {cs cur : Array Value} {T e : TypeId} {z : Nat × Nat} (h : Blk w k cs T) (h1 : w.heap[k]? = some (.cells cur e z)) : e = T := by
  have h2 : some (Obj.cells cur e z) = some (Obj.cells cs T (0, 0)) := h1.symm.trans h
  exact (Obj.cells.inj (Option.some.inj h2)).2.1
/-- the tallies' row grown, and the table's cell set -/
theorem Tab.grow {B0 tb nt ct n' c' : Nat} {w w' : World} {bds ds : List Int} {ts ts' : List Tl} {At A' : Option Addr} (h : Tab B0 w tb bds ds ts) (ho : OwnT w B0 At nt ct ts)
    (hg : w.grownBy w' (Value.slice At nt ct).ownBlock) (ho' : OwnT w' B0 A' n' c' ts') : Tab B0 (w'.setCell ⟨tb, 3, none⟩ (.slice A' n' c')) tb bds ds ts' := by
  obtain ⟨hB, Ab, nb, cb, A1, c1, A2, c2, At0, nt0, ct0, g0, g1, g2, g3, g4⟩ := h
  have hne : some tb ≠ (Value.slice At nt ct).ownBlock := fun e => by
    obtain ⟨cur, z, h1⟩ := OwnR.ty ho e.symm
    exact absurd (blk_ty2 g0 h1) (by decide)
  have g0' := g0.grown hg hne
  have row : ∀ {A : Option Addr} {n c : Nat} {xs : List Int}, Own w B0 A n c xs → Own w' B0 A n c xs := fun hr => (hr.r.kept hg fun q hq e => by
    obtain ⟨cur, z, h1⟩ := OwnR.ty hr.r hq
    obtain ⟨cur2, z2, h2⟩ := OwnR.ty ho e
    rw [h1] at h2
    have := (Obj.cells.inj (Option.some.inj h2)).2.1
    exact absurd this (by decide))
  exact ⟨hB, Ab, nb, cb, A1, c1, A2, c2, A', n', c', g0'.set 3 _, (row g1).r.far g0' (by decide) _ _, (row g2).r.far g0' (by decide) _ _, (row g3).r.far g0' (by decide) _ _, ho'.far g0' (by decide) _ _⟩
theorem tally_cells {t : Tl} {y0 y1 : Int} {y2 y3 : ByteArray} {ok b : Bool} (h : Value.tuple #[.agg #[.int .i64 y0, .int .i64 y1, .string y2, .string y3], .bool ok] = .tuple #[t.val, .bool b]) : t.cells = [.int .i64 y0, .int .i64 y1, .string y2, .string y3] := by
  have h1 := Value.tuple.inj h
  simp [Tl.val] at h1
  obtain ⟨⟨h2, h3, h4, h5⟩, _⟩ := h1
  simp [Tl.cells, h2, h3, h4, h5]
set_option maxHeartbeats 4000000 in
theorem owe_cmd (B0 tb : Nat) (bds ds : List Int) (ts : List Tl) (a c v : Int) (A0 : Option Addr) (n0 : Nat) (w : World) (hn : Own w B0 A0 3 n0 [a, c, v]) (h : Tab B0 w tb bds ds ts) (hw : B0 ≤ w.heap.size) (Q : Ending → World → Prop)
    (hQ : Q = CmdPost B0 (OweCmd B0 tb bds ds (if oweOk ts a c v then ts ++ [tallyOf a c v] else ts) (oweOk ts a c v)) w) :
    Calls Tryz.prog 167 #[.pointer (some ⟨tb, 0, none⟩), .slice A0 3 n0] w Q := by
  obtain ⟨hB0, Ab, nb, cb, A1, c1, A1', c1', At, nt, ct, g0, g1, g2, g3, g4⟩ := id h
  obtain ⟨g, rfl, _, hg, hcell, _⟩ := hn.at_ (by omega)
  have d0 := hcell 0 a rfl
  have d1 := hcell 1 c rfl
  have d2 := hcell 2 v rfl
  have hnt : ts.length = nt := (OwnT.tals g4).len
  have HT := Lib.hid h
  have HG0 := Lib.hid g0
  have HG4 := Lib.hid g4
  have HW := Lib.hid hw
  have HQ := Lib.hid hQ
  have HN := Lib.hid hnt
  have HB0 := Lib.hid hB0
  clear h hB0 g0 g1 g2 g3 g4 hw hQ hn hcell hnt
  go_enter Tryz.func167, Tryz.ntmps167
  go_wp2_with fail
  --<R
  refine wp_region_held_drew (S := (fun w' => w'.cell? ⟨g, 0, none⟩ = some (.int .i64 a) ∧ w'.cell? ⟨g, 1, none⟩ = some (.int .i64 c) ∧ w'.cell? ⟨g, 2, none⟩ = some (.int .i64 v))) (by kernel_rfl) ?_ (fun hHeld => ?_)
  · (try dsimp only)
    all_goals (first | (refine ⟨?_, ?_, ?_⟩ <;> go_simp) | go_keep)
  refine wpAnyH_take (i := 0) (oi := { dst := some 9, op := _, type := _, pos := _, after := _, guard := _ }) (v := ?v1) rfl (by kernel_rfl) (by kernel_rfl) (by kernel_rfl) (fun _ _ _ h => h) (Or.inl ⟨by rfl, ?hy1⟩) (by first | assumption | exact hHeld) ?rest1
  case hy1 => ((intro w0 hSw; (try dsimp only at hSw); go_simp) <;> with_reducible rfl)
  (try simp only [Act.put, List.setIfInBounds_toArray, List.set_cons_zero, List.set_cons_succ])
  refine wpAnyH_take (i := 1) (oi := { dst := some 10, op := _, type := _, pos := _, after := _, guard := _ }) (v := ?v2) rfl (by kernel_rfl) (by kernel_rfl) (by kernel_rfl) (fun _ _ _ h => h) (Or.inl ⟨by rfl, ?hy2⟩) (by first | assumption | exact hHeld) ?rest2
  case hy2 => ((intro w0 hSw; (try dsimp only at hSw); go_simp) <;> with_reducible rfl)
  (try simp only [Act.put, List.setIfInBounds_toArray, List.set_cons_zero, List.set_cons_succ])
  refine wpAnyH_take (i := 2) (oi := { dst := some 11, op := _, type := _, pos := _, after := _, guard := _ }) (v := ?v3) rfl (by kernel_rfl) (by kernel_rfl) (by kernel_rfl) (fun _ _ _ h => h) (Or.inl ⟨by rfl, ?hy3⟩) (by first | assumption | exact hHeld) ?rest3
  case hy3 => ((intro w0 hSw; (try dsimp only at hSw); go_simp) <;> with_reducible rfl)
  (try simp only [Act.put, List.setIfInBounds_toArray, List.set_cons_zero, List.set_cons_succ])
  refine wpAnyH_take (i := 3) (oi := { dst := some 12, op := _, type := _, pos := _, after := _, guard := _ }) (v := ?v4) rfl (by kernel_rfl) (by kernel_rfl) (by kernel_rfl) (fun _ _ _ h => h) (Or.inl ⟨by rfl, ?hy4⟩) (by first | assumption | exact hHeld) ?rest4
  case hy4 => ((intro w0 hSw; (try dsimp only at hSw); go_simp) <;> with_reducible rfl)
  (try simp only [Act.put, List.setIfInBounds_toArray, List.set_cons_zero, List.set_cons_succ])
  refine wpAnyH_take (i := 4) (oi := { dst := some 13, op := _, type := _, pos := _, after := _, guard := _ }) (v := ?v5) rfl (by kernel_rfl) (by kernel_rfl) (by kernel_rfl) (fun _ _ _ h => h) (Or.inl ⟨by rfl, ?hy5⟩) (by first | assumption | exact hHeld) ?rest5
  case hy5 => ((intro w0 hSw; (try dsimp only at hSw); go_simp) <;> with_reducible rfl)
  (try simp only [Act.put, List.setIfInBounds_toArray, List.set_cons_zero, List.set_cons_succ])
  refine wpAnyH_take (i := 5) (oi := { dst := some 14, op := _, type := _, pos := _, after := _, guard := _ }) (v := ?v6) rfl (by kernel_rfl) (by kernel_rfl) (by kernel_rfl) (fun _ _ _ h => h) (Or.inl ⟨by rfl, ?hy6⟩) (by first | assumption | exact hHeld) ?rest6
  case hy6 => ((intro w0 hSw; (try dsimp only at hSw); go_simp) <;> with_reducible rfl)
  (try simp only [Act.put, List.setIfInBounds_toArray, List.set_cons_zero, List.set_cons_succ])
  refine wpAnyH_take (i := 6) (oi := { dst := some 15, op := _, type := _, pos := _, after := _, guard := _ }) (v := ?v7) rfl (by kernel_rfl) (by kernel_rfl) (by kernel_rfl) (fun _ _ _ h => h) (Or.inl ⟨by rfl, ?hy7⟩) (by first | assumption | exact hHeld) ?rest7
  case hy7 => ((intro w0 hSw; (try dsimp only at hSw); go_simp) <;> with_reducible rfl)
  (try simp only [Act.put, List.setIfInBounds_toArray, List.set_cons_zero, List.set_cons_succ])
  refine wpAnyH_take (i := 7) (oi := { dst := some 16, op := _, type := _, pos := _, after := _, guard := _ }) (v := ?v8) rfl (by kernel_rfl) (by kernel_rfl) (by kernel_rfl) (fun _ _ _ h => h) (Or.inl ⟨by rfl, ?hy8⟩) (by first | assumption | exact hHeld) ?rest8
  case hy8 => ((intro w0 hSw; (try dsimp only at hSw); go_simp) <;> with_reducible rfl)
  (try simp only [Act.put, List.setIfInBounds_toArray, List.set_cons_zero, List.set_cons_succ])
  refine wpAnyH_take (i := 8) (oi := { dst := some 17, op := _, type := _, pos := _, after := _, guard := _ }) (v := ?v9) rfl (by kernel_rfl) (by kernel_rfl) (by kernel_rfl) (fun _ _ _ h => h) (Or.inl ⟨by rfl, ?hy9⟩) (by first | assumption | exact hHeld) ?rest9
  case hy9 => ((intro w0 hSw; (try dsimp only at hSw); go_simp) <;> with_reducible rfl)
  (try simp only [Act.put, List.setIfInBounds_toArray, List.set_cons_zero, List.set_cons_succ])
  refine wpAnyH_ready (rs := [9, 13]) (by kernel_rfl) (by simp) ?_
  refine AllReadyH.cons (o := { dst := some 18, op := _, type := _, pos := _, after := _, guard := _ }) rfl (fun K hK => ?_) ?_
  · go_simp
    refine (TallyNew_any a c v _).mono ?_
    rintro e w2 ⟨hcase, hb2⟩
    obtain ⟨y0, y1, y2, y3, ok, he, hx⟩ : ∃ y0 y1 y2 y3 ok, e = .returned (.tuple #[.agg #[.int .i64 y0, .int .i64 y1, .string y2, .string y3], .bool ok]) ∧ ((DebtOk a c v ∧ Value.tuple #[.agg #[.int .i64 y0, .int .i64 y1, .string y2, .string y3], .bool ok] = .tuple #[(tallyOf a c v).val, .bool true]) ∨ (¬ DebtOk a c v ∧ Value.tuple #[.agg #[.int .i64 y0, .int .i64 y1, .string y2, .string y3], .bool ok] = .tuple #[noTl, .bool false])) := by
      rcases hcase with ⟨h, rfl⟩ | ⟨h, rfl⟩
      · exact ⟨_, _, _, _, _, rfl, .inl ⟨h, rfl⟩⟩
      · exact ⟨_, _, _, _, _, rfl, .inr ⟨h, rfl⟩⟩
    subst he
    have HX := Lib.hid hx
    clear hcase hx
    have hbw : Below w.heap.size w w2 := (Below.refl w.heap.size w).drew.trans hb2
    have e0 := (hbw.cell (p := ⟨g, 0, none⟩) hg).trans d0
    have e1 := (hbw.cell (p := ⟨g, 1, none⟩) hg).trans d1
    have e2 := (hbw.cell (p := ⟨g, 2, none⟩) hg).trans d2
    have hg2 : g < w2.heap.size := Nat.lt_of_lt_of_le hg hbw.size
    (try go_wp2_with fail)
    refine hK.out _ _ ?_ (fun hHeld10 => ?_)
    · (try dsimp only)
      all_goals (first | (refine ⟨?_, ?_, ?_⟩ <;> go_simp) | go_keep)
    clear hK K
    (try clear hHeld)
    (try simp only [Act.put, List.setIfInBounds_toArray, List.set_cons_zero, List.set_cons_succ])
    refine wpAnyH_take (i := 10) (oi := { dst := some 8, op := _, type := _, pos := _, after := _, guard := _ }) (v := ?v11) rfl (by kernel_rfl) (by kernel_rfl) (by kernel_rfl) (fun _ _ _ h => h) (Or.inl ⟨by rfl, ?hy11⟩) (by first | assumption | exact hHeld10) ?rest11
    case hy11 => ((intro w0 hSw; (try dsimp only at hSw); go_simp) <;> with_reducible rfl)
    (try simp only [Act.put, List.setIfInBounds_toArray, List.set_cons_zero, List.set_cons_succ])
    refine wpAnyH_take (i := 11) (oi := { dst := some 19, op := _, type := _, pos := _, after := _, guard := _ }) (v := ?v12) rfl (by kernel_rfl) (by kernel_rfl) (by kernel_rfl) (fun _ _ _ h => h) (Or.inl ⟨by rfl, ?hy12⟩) (by first | assumption | exact hHeld10) ?rest12
    case hy12 => ((intro w0 hSw; (try dsimp only at hSw); go_simp) <;> with_reducible rfl)
    (try simp only [Act.put, List.setIfInBounds_toArray, List.set_cons_zero, List.set_cons_succ])
    refine wpAnyH_take (i := 12) (oi := { dst := some 20, op := _, type := _, pos := _, after := _, guard := _ }) (v := ?v13) rfl (by kernel_rfl) (by kernel_rfl) (by kernel_rfl) (fun _ _ _ h => h) (Or.inl ⟨by rfl, ?hy13⟩) (by first | assumption | exact hHeld10) ?rest13
    case hy13 => ((intro w0 hSw; (try dsimp only at hSw); go_simp) <;> with_reducible rfl)
    (try simp only [Act.put, List.setIfInBounds_toArray, List.set_cons_zero, List.set_cons_succ])
    refine wpAnyH_ready (rs := [13]) (by kernel_rfl) (by simp) ?_
    refine AllReadyH.cons (o := { dst := some 6, op := _, type := _, pos := _, after := _, guard := _ }) rfl (fun K hK => ?_) ?_
    · go_simp
      refine hK.out _ _ ?_ (fun hHeld14 => ?_)
      · (try dsimp only)
        all_goals (first | (refine ⟨?_, ?_, ?_⟩ <;> go_simp) | go_keep)
      clear hK K
      (try clear hHeld10)
      (try simp only [Act.put, List.setIfInBounds_toArray, List.set_cons_zero, List.set_cons_succ])
      refine wpAnyH_ready (rs := [14]) (by kernel_rfl) (by simp) ?_
      refine AllReadyH.cons (o := { dst := none, op := _, type := _, pos := _, after := _, guard := _ }) rfl (fun K hK => ?_) ?_
      · go_simp
        refine hK.out _ _ ?_ (fun hHeld15 => ?_)
        · (try dsimp only)
          all_goals (first | (refine ⟨?_, ?_, ?_⟩ <;> go_simp) | go_keep)
        clear hK K
        (try clear hHeld14)
        (try simp only [Act.put, List.setIfInBounds_toArray, List.set_cons_zero, List.set_cons_succ])
        refine wpAnyH_take (i := 15) (oi := { dst := some 7, op := _, type := _, pos := _, after := _, guard := _ }) (v := ?v16) rfl (by kernel_rfl) (by kernel_rfl) (by kernel_rfl) (fun _ _ _ h => h) (Or.inl ⟨by rfl, ?hy16⟩) (by first | assumption | exact hHeld15) ?rest16
        case hy16 => ((intro w0 hSw; (try dsimp only at hSw); go_simp) <;> with_reducible rfl)
        (try simp only [Act.put, List.setIfInBounds_toArray, List.set_cons_zero, List.set_cons_succ])
        refine wpAnyH_done (by kernel_rfl) ?_ _
        obtain ⟨W3, hW3⟩ : ∃ V, w2.alloc (.cells #[.int .i64 y0, .int .i64 y1, .string y2, .string y3] 52) = V := ⟨_, rfl⟩
        have hbox : Blk W3 w2.heap.size #[.int .i64 y0, .int .i64 y1, .string y2, .string y3] 52 := by rw [← hW3]; exact Blk.new _ _ _
        have hbl : Below w.heap.size w W3 := by rw [← hW3]; exact hbw.alloc hbw.size _
        rw [hW3]
        obtain ⟨b, hb⟩ : ∃ b, w2.heap.size = b := ⟨_, rfl⟩
        rw [hb] at hbox ⊢
        have g3 := (HG0.out.next hbl).cell (j := 3) (v := .slice At nt ct) rfl
        have HBX := Lib.hid (And.intro hbox (And.intro hbl trivial))
        clear hbox hbl hbw hb2 hW3 hb e0 e1 e2 hg2
        rcases HX.out with ⟨hdo, hv⟩ | ⟨hdo, hv⟩
        rotate_left
        · have hno : oweOk ts a c v = false := by simp [oweOk, hdo]
          have hok : ok = false := by have h1 := congrArg (fun x : Value => match x with | .tuple t => t[1]? | _ => Option.none) hv; simpa using h1
          subst hok
          have HNO := Lib.hid hno
          clear hno hv hdo
          go_wp2_with fail
          try go_ret2
          rw [HQ.out, HNO.out]
          exact ⟨_, _, rfl, ⟨rfl, rfl, HT.out.next HBX.out.2.1⟩, KeptT.of_below HBX.out.2.1⟩
        have hok : ok = true := by have h1 := congrArg (fun x : Value => match x with | .tuple t => t[1]? | _ => Option.none) hv; simpa using h1
        subst hok
        have HV := Lib.hid hv
        have HDO := Lib.hid hdo
        clear hv hdo
        by_cases hlt : 12 ≤ nt
        · have hno : oweOk ts a c v = false := by have := HN.out; simp [oweOk]; omega
          have HNO := Lib.hid hno
          have h12 : (nt : Int) ≥ 12 := by omega
          clear hno
          go_wp2_with fail
          try go_ret2
          rw [HQ.out, HNO.out]
          exact ⟨_, _, rfl, ⟨rfl, rfl, HT.out.next HBX.out.2.1⟩, KeptT.of_below HBX.out.2.1⟩
        have h12 : ¬ (nt : Int) ≥ 12 := by omega
        have hyes : oweOk ts a c v = true := by have := HN.out; have := HDO.out; simp [oweOk, this]; omega
        have HY := Lib.hid hyes
        clear hyes
        have q0 := HBX.out.1.cell (j := 0) (v := .int .i64 y0) rfl
        have q1 := HBX.out.1.cell (j := 1) (v := .int .i64 y1) rfl
        have q2 := HBX.out.1.cell (j := 2) (v := .string y2) rfl
        have q3 := HBX.out.1.cell (j := 3) (v := .string y3) rfl
        have hblt := HBX.out.1.lt
        have hg3 := HG0.out.next HBX.out.2.1
        have htl := hg3.lt
        go_wp2_with fail
        refine wp_region_held_drew (S := (fun _ => True)) (by kernel_rfl) ?_ (fun hHeld => ?_)
        · (try dsimp only)
          all_goals (exact True.intro)
        refine wpAnyH_take (i := 0) (oi := { dst := some 31, op := _, type := _, pos := _, after := _, guard := _ }) (v := ?v1001) rfl (by kernel_rfl) (by kernel_rfl) (by kernel_rfl) (fun _ _ _ h => h) (Or.inl ⟨by rfl, ?hy1001⟩) (by first | assumption | exact hHeld) ?rest1001
        case hy1001 => ((intro w0 hSw; (try dsimp only at hSw); go_simp) <;> with_reducible rfl)
        (try simp only [Act.put, List.setIfInBounds_toArray, List.set_cons_zero, List.set_cons_succ])
        refine wpAnyH_take (i := 1) (oi := { dst := some 32, op := _, type := _, pos := _, after := _, guard := _ }) (v := ?v1002) rfl (by kernel_rfl) (by kernel_rfl) (by kernel_rfl) (fun _ _ _ h => h) (Or.inl ⟨by rfl, ?hy1002⟩) (by first | assumption | exact hHeld) ?rest1002
        case hy1002 => ((intro w0 hSw; (try dsimp only at hSw); go_simp) <;> with_reducible rfl)
        (try simp only [Act.put, List.setIfInBounds_toArray, List.set_cons_zero, List.set_cons_succ])
        refine wpAnyH_take (i := 2) (oi := { dst := some 33, op := _, type := _, pos := _, after := _, guard := _ }) (v := ?v1003) rfl (by kernel_rfl) (by kernel_rfl) (by kernel_rfl) (fun _ _ _ h => h) (Or.inl ⟨by rfl, ?hy1003⟩) (by first | assumption | exact hHeld) ?rest1003
        case hy1003 => ((intro w0 hSw; (try dsimp only at hSw); go_simp) <;> with_reducible rfl)
        (try simp only [Act.put, List.setIfInBounds_toArray, List.set_cons_zero, List.set_cons_succ])
        refine wpAnyH_take (i := 3) (oi := { dst := some 34, op := _, type := _, pos := _, after := _, guard := _ }) (v := ?v1004) rfl (by kernel_rfl) (by kernel_rfl) (by kernel_rfl) (fun _ _ _ h => h) (Or.inl ⟨by rfl, ?hy1004⟩) (by first | assumption | exact hHeld) ?rest1004
        case hy1004 => ((intro w0 hSw; (try dsimp only at hSw); go_simp) <;> with_reducible rfl)
        (try simp only [Act.put, List.setIfInBounds_toArray, List.set_cons_zero, List.set_cons_succ])
        refine wpAnyH_ready (rs := [4, 5]) (by kernel_rfl) (by simp) ?_
        refine AllReadyH.cons (o := { dst := some 35, op := _, type := _, pos := _, after := _, guard := _ }) rfl (fun K hK => ?_) ?_
        · go_simp
          refine hK.out _ _ ?_ (fun hHeld1005 => ?_)
          · (try dsimp only)
            all_goals (exact True.intro)
          clear hK K
          (try clear hHeld)
          (try simp only [Act.put, List.setIfInBounds_toArray, List.set_cons_zero, List.set_cons_succ])
          refine wpAnyH_ready (rs := [5]) (by kernel_rfl) (by simp) ?_
          refine AllReadyH.cons (o := { dst := some 36, op := _, type := _, pos := _, after := _, guard := _ }) rfl (fun K hK => ?_) ?_
          · go_simp
            refine hK.out _ _ ?_ (fun hHeld1006 => ?_)
            · (try dsimp only)
              all_goals (exact True.intro)
            clear hK K
            (try clear hHeld1005)
            (try simp only [Act.put, List.setIfInBounds_toArray, List.set_cons_zero, List.set_cons_succ])
            refine wpAnyH_ready (rs := [6]) (by kernel_rfl) (by simp) ?_
            refine AllReadyH.cons (o := { dst := some 37, op := _, type := _, pos := _, after := _, guard := _ }) rfl (fun K hK => ?_) ?_
            · go_simp
              refine hK.out _ _ ?_ (fun hHeld1007 => ?_)
              · (try dsimp only)
                all_goals (exact True.intro)
              clear hK K
              (try clear hHeld1006)
              (try simp only [Act.put, List.setIfInBounds_toArray, List.set_cons_zero, List.set_cons_succ])
              refine wpAnyH_ready (rs := [7]) (by kernel_rfl) (by simp) ?_
              refine AllReadyH.cons (o := { dst := some 38, op := _, type := _, pos := _, after := _, guard := _ }) rfl (fun K hK => ?_) ?_
              · rw [if_pos (by rfl)]
                unfold Oper.wp execOp
                simp only [resolve, invoke, builtin, Sem.run_bind, Sem.run_pure, Result.andThen_ok, List.map_toArray, List.map_cons, List.map_nil]
                have ho3 := HG4.out.next HBX.out.2.1
                obtain ⟨i0, hi, hz0, hz1, hz2⟩ := info_parts tally_info
                obtain ⟨v5, w5, hr, ho5, hg5, -⟩ := run_append_own_at (P := Tryz.prog) (W3.alloc (.cells #[.int .i64 y0, .int .i64 y1, .string y2, .string y3] 52)).drew B0 46 46 52 i0 _ 4 48 Tryz.underlying46 hi hz0 hz1 hz2 rfl (by decide) (.slice At nt ct) nt (TV ts) (ho3.alloc _).drew.1 ⟨W3.heap.size, 0, none⟩ 1 1 [.int .i64 y0, .int .i64 y1, .string y2, .string y3] rfl (fun j u hj => by rw [add_row]; have := cell_of_row _ W3.heap.size j _ _ _ (heap_alloc_new W3 (.cells #[.int .i64 y0, .int .i64 y1, .string y2, .string y3] 52)); rw [World.cell?_drew, this]; simpa using hj) (by intro u hu; simp at hu; rcases hu with rfl | rfl | rfl | rfl <;> rfl) (by unfold maxLen; omega) (by omega) (by have := HBX.out.2.1.size; have := HW.out; simp; omega)
                change Oper.upon _ _ _ _ _ ((Sem.run Tryz.prog (Builtin.append_ #[46, 46] 46 #[.slice At nt ct, .slice (some ⟨W3.heap.size, 0, none⟩) 1 1]) (W3.alloc (.cells #[.int .i64 y0, .int .i64 y1, .string y2, .string y3] 52)).drew).andThen _)
                rw [hr]
                simp only [Result.andThen_ok]
                rw [Oper.upon_value]
                have hcs := tally_cells HV.out
                rw [← hcs, ← TV_one, ← TV_append] at ho5
                obtain ⟨A5, c5, rfl, ho5'⟩ := shape_own ho5 (by omega)
                have hg5' : W3.grownBy w5 (Value.slice At nt ct).ownBlock := ⟨hg5.os, hg5.tape, hg5.output, by have := hg5.size; simp at this; omega, fun k hk hne => (hg5.block k (by simp; omega) hne).trans (Below.heap_alloc W3 _ k hk)⟩
                have hfin := Tab.grow (HT.out.next HBX.out.2.1) ho3 hg5' ho5'
                have htb5 : Blk w5 tb #[.slice Ab nb cb, .slice A1 4 c1, .slice A1' 4 c1', .slice At nt ct] 62 := hg3.grown hg5' (fun e => by obtain ⟨cur, z, h1⟩ := OwnR.ty ho3 e.symm; exact absurd (blk_ty2 hg3 h1) (by decide))
                have c53 := htb5.cell (j := 3) (v := .slice At nt ct) rfl
                have f53 := htb5.free 3
                have HFIN := Lib.hid (And.intro hfin (((KeptT.of_below HBX.out.2.1).trans (KeptT.grow ho3 hg5')).trans (KeptT.set htb5 HB0.out 3 (.slice A5 (nt + 1) c5))))
                clear hr ho5 hg5 ho3 ho5' hg5' hfin htb5 hcs
                refine hK.out _ _ ?_ (fun hHeld1008 => ?_)
                · (try dsimp only)
                  all_goals (exact True.intro)
                clear hK K
                (try clear hHeld1007)
                (try simp only [Act.put, List.setIfInBounds_toArray, List.set_cons_zero, List.set_cons_succ])
                refine wpAnyH_take (i := 8) (oi := { dst := some 39, op := _, type := _, pos := _, after := _, guard := _ }) (v := ?v1009) rfl (by kernel_rfl) (by kernel_rfl) (by kernel_rfl) (fun _ _ _ h => h) (Or.inl ⟨by rfl, ?hy1009⟩) (by first | assumption | exact hHeld1008) ?rest1009
                case hy1009 => ((intro w0 hSw; (try dsimp only at hSw); go_simp) <;> with_reducible rfl)
                (try simp only [Act.put, List.setIfInBounds_toArray, List.set_cons_zero, List.set_cons_succ])
                refine wpAnyH_take (i := 9) (oi := { dst := some 40, op := _, type := _, pos := _, after := _, guard := _ }) (v := ?v1010) rfl (by kernel_rfl) (by kernel_rfl) (by kernel_rfl) (fun _ _ _ h => h) (Or.inl ⟨by rfl, ?hy1010⟩) (by first | assumption | exact hHeld1008) ?rest1010
                case hy1010 => ((intro w0 hSw; (try dsimp only at hSw); go_simp) <;> with_reducible rfl)
                (try simp only [Act.put, List.setIfInBounds_toArray, List.set_cons_zero, List.set_cons_succ])
                refine wpAnyH_ready (rs := [10]) (by kernel_rfl) (by simp) ?_
                refine AllReadyH.cons (o := { dst := none, op := _, type := _, pos := _, after := _, guard := _ }) rfl (fun K hK => ?_) ?_
                · go_simp
                  refine hK.out _ _ ?_ (fun hHeld1011 => ?_)
                  · (try dsimp only)
                    all_goals (exact True.intro)
                  clear hK K
                  (try clear hHeld1008)
                  (try simp only [Act.put, List.setIfInBounds_toArray, List.set_cons_zero, List.set_cons_succ])
                  refine wpAnyH_done (by kernel_rfl) ?_ _
                  go_wp2_with fail
                  try go_ret2
                  rw [HQ.out, HY.out]
                  exact ⟨_, _, rfl, ⟨rfl, rfl, HFIN.out.1⟩, HFIN.out.2⟩
                exact AllReadyH.nil
              exact AllReadyH.nil
            exact AllReadyH.nil
          exact AllReadyH.nil
        refine AllReadyH.cons (o := { dst := some 36, op := _, type := _, pos := _, after := _, guard := _ }) rfl (fun K hK => ?_) ?_
        · go_simp
          refine hK.out _ _ ?_ (fun hHeld1012 => ?_)
          · (try dsimp only)
            all_goals (exact True.intro)
          clear hK K
          (try clear hHeld)
          (try simp only [Act.put, List.setIfInBounds_toArray, List.set_cons_zero, List.set_cons_succ])
          refine wpAnyH_ready (rs := [4, 6]) (by kernel_rfl) (by simp) ?_
          refine AllReadyH.cons (o := { dst := some 35, op := _, type := _, pos := _, after := _, guard := _ }) rfl (fun K hK => ?_) ?_
          · go_simp
            refine hK.out _ _ ?_ (fun hHeld1013 => ?_)
            · (try dsimp only)
              all_goals (exact True.intro)
            clear hK K
            (try clear hHeld1012)
            (try simp only [Act.put, List.setIfInBounds_toArray, List.set_cons_zero, List.set_cons_succ])
            refine wpAnyH_ready (rs := [6]) (by kernel_rfl) (by simp) ?_
            refine AllReadyH.cons (o := { dst := some 37, op := _, type := _, pos := _, after := _, guard := _ }) rfl (fun K hK => ?_) ?_
            · go_simp
              refine hK.out _ _ ?_ (fun hHeld1014 => ?_)
              · (try dsimp only)
                all_goals (exact True.intro)
              clear hK K
              (try clear hHeld1013)
              (try simp only [Act.put, List.setIfInBounds_toArray, List.set_cons_zero, List.set_cons_succ])
              refine wpAnyH_ready (rs := [7]) (by kernel_rfl) (by simp) ?_
              refine AllReadyH.cons (o := { dst := some 38, op := _, type := _, pos := _, after := _, guard := _ }) rfl (fun K hK => ?_) ?_
              · rw [if_pos (by rfl)]
                unfold Oper.wp execOp
                simp only [resolve, invoke, builtin, Sem.run_bind, Sem.run_pure, Result.andThen_ok, List.map_toArray, List.map_cons, List.map_nil]
                have ho3 := HG4.out.next HBX.out.2.1
                obtain ⟨i0, hi, hz0, hz1, hz2⟩ := info_parts tally_info
                obtain ⟨v5, w5, hr, ho5, hg5, -⟩ := run_append_own_at (P := Tryz.prog) (W3.alloc (.cells #[.int .i64 y0, .int .i64 y1, .string y2, .string y3] 52)).drew B0 46 46 52 i0 _ 4 48 Tryz.underlying46 hi hz0 hz1 hz2 rfl (by decide) (.slice At nt ct) nt (TV ts) (ho3.alloc _).drew.1 ⟨W3.heap.size, 0, none⟩ 1 1 [.int .i64 y0, .int .i64 y1, .string y2, .string y3] rfl (fun j u hj => by rw [add_row]; have := cell_of_row _ W3.heap.size j _ _ _ (heap_alloc_new W3 (.cells #[.int .i64 y0, .int .i64 y1, .string y2, .string y3] 52)); rw [World.cell?_drew, this]; simpa using hj) (by intro u hu; simp at hu; rcases hu with rfl | rfl | rfl | rfl <;> rfl) (by unfold maxLen; omega) (by omega) (by have := HBX.out.2.1.size; have := HW.out; simp; omega)
                change Oper.upon _ _ _ _ _ ((Sem.run Tryz.prog (Builtin.append_ #[46, 46] 46 #[.slice At nt ct, .slice (some ⟨W3.heap.size, 0, none⟩) 1 1]) (W3.alloc (.cells #[.int .i64 y0, .int .i64 y1, .string y2, .string y3] 52)).drew).andThen _)
                rw [hr]
                simp only [Result.andThen_ok]
                rw [Oper.upon_value]
                have hcs := tally_cells HV.out
                rw [← hcs, ← TV_one, ← TV_append] at ho5
                obtain ⟨A5, c5, rfl, ho5'⟩ := shape_own ho5 (by omega)
                have hg5' : W3.grownBy w5 (Value.slice At nt ct).ownBlock := ⟨hg5.os, hg5.tape, hg5.output, by have := hg5.size; simp at this; omega, fun k hk hne => (hg5.block k (by simp; omega) hne).trans (Below.heap_alloc W3 _ k hk)⟩
                have hfin := Tab.grow (HT.out.next HBX.out.2.1) ho3 hg5' ho5'
                have htb5 : Blk w5 tb #[.slice Ab nb cb, .slice A1 4 c1, .slice A1' 4 c1', .slice At nt ct] 62 := hg3.grown hg5' (fun e => by obtain ⟨cur, z, h1⟩ := OwnR.ty ho3 e.symm; exact absurd (blk_ty2 hg3 h1) (by decide))
                have c53 := htb5.cell (j := 3) (v := .slice At nt ct) rfl
                have f53 := htb5.free 3
                have HFIN := Lib.hid (And.intro hfin (((KeptT.of_below HBX.out.2.1).trans (KeptT.grow ho3 hg5')).trans (KeptT.set htb5 HB0.out 3 (.slice A5 (nt + 1) c5))))
                clear hr ho5 hg5 ho3 ho5' hg5' hfin htb5 hcs
                refine hK.out _ _ ?_ (fun hHeld1015 => ?_)
                · (try dsimp only)
                  all_goals (exact True.intro)
                clear hK K
                (try clear hHeld1014)
                (try simp only [Act.put, List.setIfInBounds_toArray, List.set_cons_zero, List.set_cons_succ])
                refine wpAnyH_take (i := 8) (oi := { dst := some 39, op := _, type := _, pos := _, after := _, guard := _ }) (v := ?v1016) rfl (by kernel_rfl) (by kernel_rfl) (by kernel_rfl) (fun _ _ _ h => h) (Or.inl ⟨by rfl, ?hy1016⟩) (by first | assumption | exact hHeld1015) ?rest1016
                case hy1016 => ((intro w0 hSw; (try dsimp only at hSw); go_simp) <;> with_reducible rfl)
                (try simp only [Act.put, List.setIfInBounds_toArray, List.set_cons_zero, List.set_cons_succ])
                refine wpAnyH_take (i := 9) (oi := { dst := some 40, op := _, type := _, pos := _, after := _, guard := _ }) (v := ?v1017) rfl (by kernel_rfl) (by kernel_rfl) (by kernel_rfl) (fun _ _ _ h => h) (Or.inl ⟨by rfl, ?hy1017⟩) (by first | assumption | exact hHeld1015) ?rest1017
                case hy1017 => ((intro w0 hSw; (try dsimp only at hSw); go_simp) <;> with_reducible rfl)
                (try simp only [Act.put, List.setIfInBounds_toArray, List.set_cons_zero, List.set_cons_succ])
                refine wpAnyH_ready (rs := [10]) (by kernel_rfl) (by simp) ?_
                refine AllReadyH.cons (o := { dst := none, op := _, type := _, pos := _, after := _, guard := _ }) rfl (fun K hK => ?_) ?_
                · go_simp
                  refine hK.out _ _ ?_ (fun hHeld1018 => ?_)
                  · (try dsimp only)
                    all_goals (exact True.intro)
                  clear hK K
                  (try clear hHeld1015)
                  (try simp only [Act.put, List.setIfInBounds_toArray, List.set_cons_zero, List.set_cons_succ])
                  refine wpAnyH_done (by kernel_rfl) ?_ _
                  go_wp2_with fail
                  try go_ret2
                  rw [HQ.out, HY.out]
                  exact ⟨_, _, rfl, ⟨rfl, rfl, HFIN.out.1⟩, HFIN.out.2⟩
                exact AllReadyH.nil
              exact AllReadyH.nil
            exact AllReadyH.nil
          refine AllReadyH.cons (o := { dst := some 37, op := _, type := _, pos := _, after := _, guard := _ }) rfl (fun K hK => ?_) ?_
          · go_simp
            refine hK.out _ _ ?_ (fun hHeld1019 => ?_)
            · (try dsimp only)
              all_goals (exact True.intro)
            clear hK K
            (try clear hHeld1012)
            (try simp only [Act.put, List.setIfInBounds_toArray, List.set_cons_zero, List.set_cons_succ])
            refine wpAnyH_ready (rs := [4]) (by kernel_rfl) (by simp) ?_
            refine AllReadyH.cons (o := { dst := some 35, op := _, type := _, pos := _, after := _, guard := _ }) rfl (fun K hK => ?_) ?_
            · go_simp
              refine hK.out _ _ ?_ (fun hHeld1020 => ?_)
              · (try dsimp only)
                all_goals (exact True.intro)
              clear hK K
              (try clear hHeld1019)
              (try simp only [Act.put, List.setIfInBounds_toArray, List.set_cons_zero, List.set_cons_succ])
              refine wpAnyH_ready (rs := [7]) (by kernel_rfl) (by simp) ?_
              refine AllReadyH.cons (o := { dst := some 38, op := _, type := _, pos := _, after := _, guard := _ }) rfl (fun K hK => ?_) ?_
              · rw [if_pos (by rfl)]
                unfold Oper.wp execOp
                simp only [resolve, invoke, builtin, Sem.run_bind, Sem.run_pure, Result.andThen_ok, List.map_toArray, List.map_cons, List.map_nil]
                have ho3 := HG4.out.next HBX.out.2.1
                obtain ⟨i0, hi, hz0, hz1, hz2⟩ := info_parts tally_info
                obtain ⟨v5, w5, hr, ho5, hg5, -⟩ := run_append_own_at (P := Tryz.prog) (W3.alloc (.cells #[.int .i64 y0, .int .i64 y1, .string y2, .string y3] 52)).drew B0 46 46 52 i0 _ 4 48 Tryz.underlying46 hi hz0 hz1 hz2 rfl (by decide) (.slice At nt ct) nt (TV ts) (ho3.alloc _).drew.1 ⟨W3.heap.size, 0, none⟩ 1 1 [.int .i64 y0, .int .i64 y1, .string y2, .string y3] rfl (fun j u hj => by rw [add_row]; have := cell_of_row _ W3.heap.size j _ _ _ (heap_alloc_new W3 (.cells #[.int .i64 y0, .int .i64 y1, .string y2, .string y3] 52)); rw [World.cell?_drew, this]; simpa using hj) (by intro u hu; simp at hu; rcases hu with rfl | rfl | rfl | rfl <;> rfl) (by unfold maxLen; omega) (by omega) (by have := HBX.out.2.1.size; have := HW.out; simp; omega)
                change Oper.upon _ _ _ _ _ ((Sem.run Tryz.prog (Builtin.append_ #[46, 46] 46 #[.slice At nt ct, .slice (some ⟨W3.heap.size, 0, none⟩) 1 1]) (W3.alloc (.cells #[.int .i64 y0, .int .i64 y1, .string y2, .string y3] 52)).drew).andThen _)
                rw [hr]
                simp only [Result.andThen_ok]
                rw [Oper.upon_value]
                have hcs := tally_cells HV.out
                rw [← hcs, ← TV_one, ← TV_append] at ho5
                obtain ⟨A5, c5, rfl, ho5'⟩ := shape_own ho5 (by omega)
                have hg5' : W3.grownBy w5 (Value.slice At nt ct).ownBlock := ⟨hg5.os, hg5.tape, hg5.output, by have := hg5.size; simp at this; omega, fun k hk hne => (hg5.block k (by simp; omega) hne).trans (Below.heap_alloc W3 _ k hk)⟩
                have hfin := Tab.grow (HT.out.next HBX.out.2.1) ho3 hg5' ho5'
                have htb5 : Blk w5 tb #[.slice Ab nb cb, .slice A1 4 c1, .slice A1' 4 c1', .slice At nt ct] 62 := hg3.grown hg5' (fun e => by obtain ⟨cur, z, h1⟩ := OwnR.ty ho3 e.symm; exact absurd (blk_ty2 hg3 h1) (by decide))
                have c53 := htb5.cell (j := 3) (v := .slice At nt ct) rfl
                have f53 := htb5.free 3
                have HFIN := Lib.hid (And.intro hfin (((KeptT.of_below HBX.out.2.1).trans (KeptT.grow ho3 hg5')).trans (KeptT.set htb5 HB0.out 3 (.slice A5 (nt + 1) c5))))
                clear hr ho5 hg5 ho3 ho5' hg5' hfin htb5 hcs
                refine hK.out _ _ ?_ (fun hHeld1021 => ?_)
                · (try dsimp only)
                  all_goals (exact True.intro)
                clear hK K
                (try clear hHeld1020)
                (try simp only [Act.put, List.setIfInBounds_toArray, List.set_cons_zero, List.set_cons_succ])
                refine wpAnyH_take (i := 8) (oi := { dst := some 39, op := _, type := _, pos := _, after := _, guard := _ }) (v := ?v1022) rfl (by kernel_rfl) (by kernel_rfl) (by kernel_rfl) (fun _ _ _ h => h) (Or.inl ⟨by rfl, ?hy1022⟩) (by first | assumption | exact hHeld1021) ?rest1022
                case hy1022 => ((intro w0 hSw; (try dsimp only at hSw); go_simp) <;> with_reducible rfl)
                (try simp only [Act.put, List.setIfInBounds_toArray, List.set_cons_zero, List.set_cons_succ])
                refine wpAnyH_take (i := 9) (oi := { dst := some 40, op := _, type := _, pos := _, after := _, guard := _ }) (v := ?v1023) rfl (by kernel_rfl) (by kernel_rfl) (by kernel_rfl) (fun _ _ _ h => h) (Or.inl ⟨by rfl, ?hy1023⟩) (by first | assumption | exact hHeld1021) ?rest1023
                case hy1023 => ((intro w0 hSw; (try dsimp only at hSw); go_simp) <;> with_reducible rfl)
                (try simp only [Act.put, List.setIfInBounds_toArray, List.set_cons_zero, List.set_cons_succ])
                refine wpAnyH_ready (rs := [10]) (by kernel_rfl) (by simp) ?_
                refine AllReadyH.cons (o := { dst := none, op := _, type := _, pos := _, after := _, guard := _ }) rfl (fun K hK => ?_) ?_
                · go_simp
                  refine hK.out _ _ ?_ (fun hHeld1024 => ?_)
                  · (try dsimp only)
                    all_goals (exact True.intro)
                  clear hK K
                  (try clear hHeld1021)
                  (try simp only [Act.put, List.setIfInBounds_toArray, List.set_cons_zero, List.set_cons_succ])
                  refine wpAnyH_done (by kernel_rfl) ?_ _
                  go_wp2_with fail
                  try go_ret2
                  rw [HQ.out, HY.out]
                  exact ⟨_, _, rfl, ⟨rfl, rfl, HFIN.out.1⟩, HFIN.out.2⟩
                exact AllReadyH.nil
              exact AllReadyH.nil
            exact AllReadyH.nil
          exact AllReadyH.nil
        exact AllReadyH.nil
      exact AllReadyH.nil
    exact AllReadyH.nil
  refine AllReadyH.cons (o := { dst := some 6, op := _, type := _, pos := _, after := _, guard := _ }) rfl (fun K hK => ?_) ?_
  · go_simp
    refine hK.out _ _ ?_ (fun hHeld17 => ?_)
    · (try dsimp only)
      all_goals (first | (refine ⟨?_, ?_, ?_⟩ <;> go_simp) | go_keep)
    clear hK K
    (try clear hHeld)
    (try simp only [Act.put, List.setIfInBounds_toArray, List.set_cons_zero, List.set_cons_succ])
    refine wpAnyH_ready (rs := [9]) (by kernel_rfl) (by simp) ?_
    refine AllReadyH.cons (o := { dst := some 18, op := _, type := _, pos := _, after := _, guard := _ }) rfl (fun K hK => ?_) ?_
    · go_simp
      refine (TallyNew_any a c v _).mono ?_
      rintro e w2 ⟨hcase, hb2⟩
      obtain ⟨y0, y1, y2, y3, ok, he, hx⟩ : ∃ y0 y1 y2 y3 ok, e = .returned (.tuple #[.agg #[.int .i64 y0, .int .i64 y1, .string y2, .string y3], .bool ok]) ∧ ((DebtOk a c v ∧ Value.tuple #[.agg #[.int .i64 y0, .int .i64 y1, .string y2, .string y3], .bool ok] = .tuple #[(tallyOf a c v).val, .bool true]) ∨ (¬ DebtOk a c v ∧ Value.tuple #[.agg #[.int .i64 y0, .int .i64 y1, .string y2, .string y3], .bool ok] = .tuple #[noTl, .bool false])) := by
        rcases hcase with ⟨h, rfl⟩ | ⟨h, rfl⟩
        · exact ⟨_, _, _, _, _, rfl, .inl ⟨h, rfl⟩⟩
        · exact ⟨_, _, _, _, _, rfl, .inr ⟨h, rfl⟩⟩
      subst he
      have HX := Lib.hid hx
      clear hcase hx
      have hbw : Below w.heap.size w w2 := ((Below.refl w.heap.size w).alloc (Nat.le_refl _) (.cells #[.int .i64 0, .int .i64 0, .string ⟨#[]⟩, .string ⟨#[]⟩] 52)).drew.trans (hb2.mono (by simp))
      have hT1 := (Blk.drew (Blk.new w #[.int .i64 0, .int .i64 0, .string ⟨#[]⟩, .string ⟨#[]⟩] 52)).next hb2
      have f0 := hT1.free 0
      have f1 := hT1.free 1
      have f2 := hT1.free 2
      have f3 := hT1.free 3
      have t0 := hT1.cell (j := 0) (v := .int .i64 0) rfl
      have t1 := hT1.cell (j := 1) (v := .int .i64 0) rfl
      have t2 := hT1.cell (j := 2) (v := .string ⟨#[]⟩) rfl
      have t3 := hT1.cell (j := 3) (v := .string ⟨#[]⟩) rfl
      have e0 := (hbw.cell (p := ⟨g, 0, none⟩) hg).trans d0
      have e1 := (hbw.cell (p := ⟨g, 1, none⟩) hg).trans d1
      have e2 := (hbw.cell (p := ⟨g, 2, none⟩) hg).trans d2
      have hg2 : g < w2.heap.size := Nat.lt_of_lt_of_le hg hbw.size
      (try go_wp2_with fail)
      refine hK.out _ _ ?_ (fun hHeld18 => ?_)
      · (try dsimp only)
        all_goals (first | (refine ⟨?_, ?_, ?_⟩ <;> go_simp) | go_keep)
      clear hK K
      (try clear hHeld17)
      (try simp only [Act.put, List.setIfInBounds_toArray, List.set_cons_zero, List.set_cons_succ])
      refine wpAnyH_take (i := 10) (oi := { dst := some 8, op := _, type := _, pos := _, after := _, guard := _ }) (v := ?v19) rfl (by kernel_rfl) (by kernel_rfl) (by kernel_rfl) (fun _ _ _ h => h) (Or.inl ⟨by rfl, ?hy19⟩) (by first | assumption | exact hHeld18) ?rest19
      case hy19 => ((intro w0 hSw; (try dsimp only at hSw); go_simp) <;> with_reducible rfl)
      (try simp only [Act.put, List.setIfInBounds_toArray, List.set_cons_zero, List.set_cons_succ])
      refine wpAnyH_take (i := 11) (oi := { dst := some 19, op := _, type := _, pos := _, after := _, guard := _ }) (v := ?v20) rfl (by kernel_rfl) (by kernel_rfl) (by kernel_rfl) (fun _ _ _ h => h) (Or.inl ⟨by rfl, ?hy20⟩) (by first | assumption | exact hHeld18) ?rest20
      case hy20 => ((intro w0 hSw; (try dsimp only at hSw); go_simp) <;> with_reducible rfl)
      (try simp only [Act.put, List.setIfInBounds_toArray, List.set_cons_zero, List.set_cons_succ])
      refine wpAnyH_take (i := 12) (oi := { dst := some 20, op := _, type := _, pos := _, after := _, guard := _ }) (v := ?v21) rfl (by kernel_rfl) (by kernel_rfl) (by kernel_rfl) (fun _ _ _ h => h) (Or.inl ⟨by rfl, ?hy21⟩) (by first | assumption | exact hHeld18) ?rest21
      case hy21 => ((intro w0 hSw; (try dsimp only at hSw); go_simp) <;> with_reducible rfl)
      (try simp only [Act.put, List.setIfInBounds_toArray, List.set_cons_zero, List.set_cons_succ])
      refine wpAnyH_ready (rs := [14]) (by kernel_rfl) (by simp) ?_
      refine AllReadyH.cons (o := { dst := none, op := _, type := _, pos := _, after := _, guard := _ }) rfl (fun K hK => ?_) ?_
      · go_simp
        refine hK.out _ _ ?_ (fun hHeld22 => ?_)
        · (try dsimp only)
          all_goals (first | (refine ⟨?_, ?_, ?_⟩ <;> go_simp) | go_keep)
        clear hK K
        (try clear hHeld18)
        (try simp only [Act.put, List.setIfInBounds_toArray, List.set_cons_zero, List.set_cons_succ])
        refine wpAnyH_take (i := 15) (oi := { dst := some 7, op := _, type := _, pos := _, after := _, guard := _ }) (v := ?v23) rfl (by kernel_rfl) (by kernel_rfl) (by kernel_rfl) (fun _ _ _ h => h) (Or.inl ⟨by rfl, ?hy23⟩) (by first | assumption | exact hHeld22) ?rest23
        case hy23 => ((intro w0 hSw; (try dsimp only at hSw); go_simp) <;> with_reducible rfl)
        (try simp only [Act.put, List.setIfInBounds_toArray, List.set_cons_zero, List.set_cons_succ])
        refine wpAnyH_done (by kernel_rfl) ?_ _
        obtain ⟨W3, hW3⟩ : ∃ V, (((w2.setCell ⟨w.heap.size, 0, none⟩ (.int .i64 y0)).setCell ⟨w.heap.size, 1, none⟩ (.int .i64 y1)).setCell ⟨w.heap.size, 2, none⟩ (.string y2)).setCell ⟨w.heap.size, 3, none⟩ (.string y3) = V := ⟨_, rfl⟩
        have hbox : Blk W3 w.heap.size #[.int .i64 y0, .int .i64 y1, .string y2, .string y3] 52 := by rw [← hW3]; exact hT1.set4 (.int .i64 y0) (.int .i64 y1) (.string y2) (.string y3)
        have hbl : Below w.heap.size w W3 := by rw [← hW3]; exact below_set4 hbw (Nat.le_refl _) (.int .i64 y0) (.int .i64 y1) (.string y2) (.string y3)
        rw [hW3]
        clear hT1 f0 f1 f2 f3 t0 t1 t2 t3
        obtain ⟨b, hb⟩ : ∃ b, w.heap.size = b := ⟨_, rfl⟩
        rw [hb] at hbox ⊢
        have g3 := (HG0.out.next hbl).cell (j := 3) (v := .slice At nt ct) rfl
        have HBX := Lib.hid (And.intro hbox (And.intro hbl trivial))
        clear hbox hbl hbw hb2 hW3 hb e0 e1 e2 hg2
        rcases HX.out with ⟨hdo, hv⟩ | ⟨hdo, hv⟩
        rotate_left
        · have hno : oweOk ts a c v = false := by simp [oweOk, hdo]
          have hok : ok = false := by have h1 := congrArg (fun x : Value => match x with | .tuple t => t[1]? | _ => Option.none) hv; simpa using h1
          subst hok
          have HNO := Lib.hid hno
          clear hno hv hdo
          go_wp2_with fail
          try go_ret2
          rw [HQ.out, HNO.out]
          exact ⟨_, _, rfl, ⟨rfl, rfl, HT.out.next HBX.out.2.1⟩, KeptT.of_below HBX.out.2.1⟩
        have hok : ok = true := by have h1 := congrArg (fun x : Value => match x with | .tuple t => t[1]? | _ => Option.none) hv; simpa using h1
        subst hok
        have HV := Lib.hid hv
        have HDO := Lib.hid hdo
        clear hv hdo
        by_cases hlt : 12 ≤ nt
        · have hno : oweOk ts a c v = false := by have := HN.out; simp [oweOk]; omega
          have HNO := Lib.hid hno
          have h12 : (nt : Int) ≥ 12 := by omega
          clear hno
          go_wp2_with fail
          try go_ret2
          rw [HQ.out, HNO.out]
          exact ⟨_, _, rfl, ⟨rfl, rfl, HT.out.next HBX.out.2.1⟩, KeptT.of_below HBX.out.2.1⟩
        have h12 : ¬ (nt : Int) ≥ 12 := by omega
        have hyes : oweOk ts a c v = true := by have := HN.out; have := HDO.out; simp [oweOk, this]; omega
        have HY := Lib.hid hyes
        clear hyes
        have q0 := HBX.out.1.cell (j := 0) (v := .int .i64 y0) rfl
        have q1 := HBX.out.1.cell (j := 1) (v := .int .i64 y1) rfl
        have q2 := HBX.out.1.cell (j := 2) (v := .string y2) rfl
        have q3 := HBX.out.1.cell (j := 3) (v := .string y3) rfl
        have hblt := HBX.out.1.lt
        have hg3 := HG0.out.next HBX.out.2.1
        have htl := hg3.lt
        go_wp2_with fail
        refine wp_region_held_drew (S := (fun _ => True)) (by kernel_rfl) ?_ (fun hHeld => ?_)
        · (try dsimp only)
          all_goals (exact True.intro)
        refine wpAnyH_take (i := 0) (oi := { dst := some 31, op := _, type := _, pos := _, after := _, guard := _ }) (v := ?v1025) rfl (by kernel_rfl) (by kernel_rfl) (by kernel_rfl) (fun _ _ _ h => h) (Or.inl ⟨by rfl, ?hy1025⟩) (by first | assumption | exact hHeld) ?rest1025
        case hy1025 => ((intro w0 hSw; (try dsimp only at hSw); go_simp) <;> with_reducible rfl)
        (try simp only [Act.put, List.setIfInBounds_toArray, List.set_cons_zero, List.set_cons_succ])
        refine wpAnyH_take (i := 1) (oi := { dst := some 32, op := _, type := _, pos := _, after := _, guard := _ }) (v := ?v1026) rfl (by kernel_rfl) (by kernel_rfl) (by kernel_rfl) (fun _ _ _ h => h) (Or.inl ⟨by rfl, ?hy1026⟩) (by first | assumption | exact hHeld) ?rest1026
        case hy1026 => ((intro w0 hSw; (try dsimp only at hSw); go_simp) <;> with_reducible rfl)
        (try simp only [Act.put, List.setIfInBounds_toArray, List.set_cons_zero, List.set_cons_succ])
        refine wpAnyH_take (i := 2) (oi := { dst := some 33, op := _, type := _, pos := _, after := _, guard := _ }) (v := ?v1027) rfl (by kernel_rfl) (by kernel_rfl) (by kernel_rfl) (fun _ _ _ h => h) (Or.inl ⟨by rfl, ?hy1027⟩) (by first | assumption | exact hHeld) ?rest1027
        case hy1027 => ((intro w0 hSw; (try dsimp only at hSw); go_simp) <;> with_reducible rfl)
        (try simp only [Act.put, List.setIfInBounds_toArray, List.set_cons_zero, List.set_cons_succ])
        refine wpAnyH_take (i := 3) (oi := { dst := some 34, op := _, type := _, pos := _, after := _, guard := _ }) (v := ?v1028) rfl (by kernel_rfl) (by kernel_rfl) (by kernel_rfl) (fun _ _ _ h => h) (Or.inl ⟨by rfl, ?hy1028⟩) (by first | assumption | exact hHeld) ?rest1028
        case hy1028 => ((intro w0 hSw; (try dsimp only at hSw); go_simp) <;> with_reducible rfl)
        (try simp only [Act.put, List.setIfInBounds_toArray, List.set_cons_zero, List.set_cons_succ])
        refine wpAnyH_ready (rs := [4, 5]) (by kernel_rfl) (by simp) ?_
        refine AllReadyH.cons (o := { dst := some 35, op := _, type := _, pos := _, after := _, guard := _ }) rfl (fun K hK => ?_) ?_
        · go_simp
          refine hK.out _ _ ?_ (fun hHeld1029 => ?_)
          · (try dsimp only)
            all_goals (exact True.intro)
          clear hK K
          (try clear hHeld)
          (try simp only [Act.put, List.setIfInBounds_toArray, List.set_cons_zero, List.set_cons_succ])
          refine wpAnyH_ready (rs := [5]) (by kernel_rfl) (by simp) ?_
          refine AllReadyH.cons (o := { dst := some 36, op := _, type := _, pos := _, after := _, guard := _ }) rfl (fun K hK => ?_) ?_
          · go_simp
            refine hK.out _ _ ?_ (fun hHeld1030 => ?_)
            · (try dsimp only)
              all_goals (exact True.intro)
            clear hK K
            (try clear hHeld1029)
            (try simp only [Act.put, List.setIfInBounds_toArray, List.set_cons_zero, List.set_cons_succ])
            refine wpAnyH_ready (rs := [6]) (by kernel_rfl) (by simp) ?_
            refine AllReadyH.cons (o := { dst := some 37, op := _, type := _, pos := _, after := _, guard := _ }) rfl (fun K hK => ?_) ?_
            · go_simp
              refine hK.out _ _ ?_ (fun hHeld1031 => ?_)
              · (try dsimp only)
                all_goals (exact True.intro)
              clear hK K
              (try clear hHeld1030)
              (try simp only [Act.put, List.setIfInBounds_toArray, List.set_cons_zero, List.set_cons_succ])
              refine wpAnyH_ready (rs := [7]) (by kernel_rfl) (by simp) ?_
              refine AllReadyH.cons (o := { dst := some 38, op := _, type := _, pos := _, after := _, guard := _ }) rfl (fun K hK => ?_) ?_
              · rw [if_pos (by rfl)]
                unfold Oper.wp execOp
                simp only [resolve, invoke, builtin, Sem.run_bind, Sem.run_pure, Result.andThen_ok, List.map_toArray, List.map_cons, List.map_nil]
                have ho3 := HG4.out.next HBX.out.2.1
                obtain ⟨i0, hi, hz0, hz1, hz2⟩ := info_parts tally_info
                obtain ⟨v5, w5, hr, ho5, hg5, -⟩ := run_append_own_at (P := Tryz.prog) (W3.alloc (.cells #[.int .i64 y0, .int .i64 y1, .string y2, .string y3] 52)).drew B0 46 46 52 i0 _ 4 48 Tryz.underlying46 hi hz0 hz1 hz2 rfl (by decide) (.slice At nt ct) nt (TV ts) (ho3.alloc _).drew.1 ⟨W3.heap.size, 0, none⟩ 1 1 [.int .i64 y0, .int .i64 y1, .string y2, .string y3] rfl (fun j u hj => by rw [add_row]; have := cell_of_row _ W3.heap.size j _ _ _ (heap_alloc_new W3 (.cells #[.int .i64 y0, .int .i64 y1, .string y2, .string y3] 52)); rw [World.cell?_drew, this]; simpa using hj) (by intro u hu; simp at hu; rcases hu with rfl | rfl | rfl | rfl <;> rfl) (by unfold maxLen; omega) (by omega) (by have := HBX.out.2.1.size; have := HW.out; simp; omega)
                change Oper.upon _ _ _ _ _ ((Sem.run Tryz.prog (Builtin.append_ #[46, 46] 46 #[.slice At nt ct, .slice (some ⟨W3.heap.size, 0, none⟩) 1 1]) (W3.alloc (.cells #[.int .i64 y0, .int .i64 y1, .string y2, .string y3] 52)).drew).andThen _)
                rw [hr]
                simp only [Result.andThen_ok]
                rw [Oper.upon_value]
                have hcs := tally_cells HV.out
                rw [← hcs, ← TV_one, ← TV_append] at ho5
                obtain ⟨A5, c5, rfl, ho5'⟩ := shape_own ho5 (by omega)
                have hg5' : W3.grownBy w5 (Value.slice At nt ct).ownBlock := ⟨hg5.os, hg5.tape, hg5.output, by have := hg5.size; simp at this; omega, fun k hk hne => (hg5.block k (by simp; omega) hne).trans (Below.heap_alloc W3 _ k hk)⟩
                have hfin := Tab.grow (HT.out.next HBX.out.2.1) ho3 hg5' ho5'
                have htb5 : Blk w5 tb #[.slice Ab nb cb, .slice A1 4 c1, .slice A1' 4 c1', .slice At nt ct] 62 := hg3.grown hg5' (fun e => by obtain ⟨cur, z, h1⟩ := OwnR.ty ho3 e.symm; exact absurd (blk_ty2 hg3 h1) (by decide))
                have c53 := htb5.cell (j := 3) (v := .slice At nt ct) rfl
                have f53 := htb5.free 3
                have HFIN := Lib.hid (And.intro hfin (((KeptT.of_below HBX.out.2.1).trans (KeptT.grow ho3 hg5')).trans (KeptT.set htb5 HB0.out 3 (.slice A5 (nt + 1) c5))))
                clear hr ho5 hg5 ho3 ho5' hg5' hfin htb5 hcs
                refine hK.out _ _ ?_ (fun hHeld1032 => ?_)
                · (try dsimp only)
                  all_goals (exact True.intro)
                clear hK K
                (try clear hHeld1031)
                (try simp only [Act.put, List.setIfInBounds_toArray, List.set_cons_zero, List.set_cons_succ])
                refine wpAnyH_take (i := 8) (oi := { dst := some 39, op := _, type := _, pos := _, after := _, guard := _ }) (v := ?v1033) rfl (by kernel_rfl) (by kernel_rfl) (by kernel_rfl) (fun _ _ _ h => h) (Or.inl ⟨by rfl, ?hy1033⟩) (by first | assumption | exact hHeld1032) ?rest1033
                case hy1033 => ((intro w0 hSw; (try dsimp only at hSw); go_simp) <;> with_reducible rfl)
                (try simp only [Act.put, List.setIfInBounds_toArray, List.set_cons_zero, List.set_cons_succ])
                refine wpAnyH_take (i := 9) (oi := { dst := some 40, op := _, type := _, pos := _, after := _, guard := _ }) (v := ?v1034) rfl (by kernel_rfl) (by kernel_rfl) (by kernel_rfl) (fun _ _ _ h => h) (Or.inl ⟨by rfl, ?hy1034⟩) (by first | assumption | exact hHeld1032) ?rest1034
                case hy1034 => ((intro w0 hSw; (try dsimp only at hSw); go_simp) <;> with_reducible rfl)
                (try simp only [Act.put, List.setIfInBounds_toArray, List.set_cons_zero, List.set_cons_succ])
                refine wpAnyH_ready (rs := [10]) (by kernel_rfl) (by simp) ?_
                refine AllReadyH.cons (o := { dst := none, op := _, type := _, pos := _, after := _, guard := _ }) rfl (fun K hK => ?_) ?_
                · go_simp
                  refine hK.out _ _ ?_ (fun hHeld1035 => ?_)
                  · (try dsimp only)
                    all_goals (exact True.intro)
                  clear hK K
                  (try clear hHeld1032)
                  (try simp only [Act.put, List.setIfInBounds_toArray, List.set_cons_zero, List.set_cons_succ])
                  refine wpAnyH_done (by kernel_rfl) ?_ _
                  go_wp2_with fail
                  try go_ret2
                  rw [HQ.out, HY.out]
                  exact ⟨_, _, rfl, ⟨rfl, rfl, HFIN.out.1⟩, HFIN.out.2⟩
                exact AllReadyH.nil
              exact AllReadyH.nil
            exact AllReadyH.nil
          exact AllReadyH.nil
        refine AllReadyH.cons (o := { dst := some 36, op := _, type := _, pos := _, after := _, guard := _ }) rfl (fun K hK => ?_) ?_
        · go_simp
          refine hK.out _ _ ?_ (fun hHeld1036 => ?_)
          · (try dsimp only)
            all_goals (exact True.intro)
          clear hK K
          (try clear hHeld)
          (try simp only [Act.put, List.setIfInBounds_toArray, List.set_cons_zero, List.set_cons_succ])
          refine wpAnyH_ready (rs := [4, 6]) (by kernel_rfl) (by simp) ?_
          refine AllReadyH.cons (o := { dst := some 35, op := _, type := _, pos := _, after := _, guard := _ }) rfl (fun K hK => ?_) ?_
          · go_simp
            refine hK.out _ _ ?_ (fun hHeld1037 => ?_)
            · (try dsimp only)
              all_goals (exact True.intro)
            clear hK K
            (try clear hHeld1036)
            (try simp only [Act.put, List.setIfInBounds_toArray, List.set_cons_zero, List.set_cons_succ])
            refine wpAnyH_ready (rs := [6]) (by kernel_rfl) (by simp) ?_
            refine AllReadyH.cons (o := { dst := some 37, op := _, type := _, pos := _, after := _, guard := _ }) rfl (fun K hK => ?_) ?_
            · go_simp
              refine hK.out _ _ ?_ (fun hHeld1038 => ?_)
              · (try dsimp only)
                all_goals (exact True.intro)
              clear hK K
              (try clear hHeld1037)
              (try simp only [Act.put, List.setIfInBounds_toArray, List.set_cons_zero, List.set_cons_succ])
              refine wpAnyH_ready (rs := [7]) (by kernel_rfl) (by simp) ?_
              refine AllReadyH.cons (o := { dst := some 38, op := _, type := _, pos := _, after := _, guard := _ }) rfl (fun K hK => ?_) ?_
              · rw [if_pos (by rfl)]
                unfold Oper.wp execOp
                simp only [resolve, invoke, builtin, Sem.run_bind, Sem.run_pure, Result.andThen_ok, List.map_toArray, List.map_cons, List.map_nil]
                have ho3 := HG4.out.next HBX.out.2.1
                obtain ⟨i0, hi, hz0, hz1, hz2⟩ := info_parts tally_info
                obtain ⟨v5, w5, hr, ho5, hg5, -⟩ := run_append_own_at (P := Tryz.prog) (W3.alloc (.cells #[.int .i64 y0, .int .i64 y1, .string y2, .string y3] 52)).drew B0 46 46 52 i0 _ 4 48 Tryz.underlying46 hi hz0 hz1 hz2 rfl (by decide) (.slice At nt ct) nt (TV ts) (ho3.alloc _).drew.1 ⟨W3.heap.size, 0, none⟩ 1 1 [.int .i64 y0, .int .i64 y1, .string y2, .string y3] rfl (fun j u hj => by rw [add_row]; have := cell_of_row _ W3.heap.size j _ _ _ (heap_alloc_new W3 (.cells #[.int .i64 y0, .int .i64 y1, .string y2, .string y3] 52)); rw [World.cell?_drew, this]; simpa using hj) (by intro u hu; simp at hu; rcases hu with rfl | rfl | rfl | rfl <;> rfl) (by unfold maxLen; omega) (by omega) (by have := HBX.out.2.1.size; have := HW.out; simp; omega)
                change Oper.upon _ _ _ _ _ ((Sem.run Tryz.prog (Builtin.append_ #[46, 46] 46 #[.slice At nt ct, .slice (some ⟨W3.heap.size, 0, none⟩) 1 1]) (W3.alloc (.cells #[.int .i64 y0, .int .i64 y1, .string y2, .string y3] 52)).drew).andThen _)
                rw [hr]
                simp only [Result.andThen_ok]
                rw [Oper.upon_value]
                have hcs := tally_cells HV.out
                rw [← hcs, ← TV_one, ← TV_append] at ho5
                obtain ⟨A5, c5, rfl, ho5'⟩ := shape_own ho5 (by omega)
                have hg5' : W3.grownBy w5 (Value.slice At nt ct).ownBlock := ⟨hg5.os, hg5.tape, hg5.output, by have := hg5.size; simp at this; omega, fun k hk hne => (hg5.block k (by simp; omega) hne).trans (Below.heap_alloc W3 _ k hk)⟩
                have hfin := Tab.grow (HT.out.next HBX.out.2.1) ho3 hg5' ho5'
                have htb5 : Blk w5 tb #[.slice Ab nb cb, .slice A1 4 c1, .slice A1' 4 c1', .slice At nt ct] 62 := hg3.grown hg5' (fun e => by obtain ⟨cur, z, h1⟩ := OwnR.ty ho3 e.symm; exact absurd (blk_ty2 hg3 h1) (by decide))
                have c53 := htb5.cell (j := 3) (v := .slice At nt ct) rfl
                have f53 := htb5.free 3
                have HFIN := Lib.hid (And.intro hfin (((KeptT.of_below HBX.out.2.1).trans (KeptT.grow ho3 hg5')).trans (KeptT.set htb5 HB0.out 3 (.slice A5 (nt + 1) c5))))
                clear hr ho5 hg5 ho3 ho5' hg5' hfin htb5 hcs
                refine hK.out _ _ ?_ (fun hHeld1039 => ?_)
                · (try dsimp only)
                  all_goals (exact True.intro)
                clear hK K
                (try clear hHeld1038)
                (try simp only [Act.put, List.setIfInBounds_toArray, List.set_cons_zero, List.set_cons_succ])
                refine wpAnyH_take (i := 8) (oi := { dst := some 39, op := _, type := _, pos := _, after := _, guard := _ }) (v := ?v1040) rfl (by kernel_rfl) (by kernel_rfl) (by kernel_rfl) (fun _ _ _ h => h) (Or.inl ⟨by rfl, ?hy1040⟩) (by first | assumption | exact hHeld1039) ?rest1040
                case hy1040 => ((intro w0 hSw; (try dsimp only at hSw); go_simp) <;> with_reducible rfl)
                (try simp only [Act.put, List.setIfInBounds_toArray, List.set_cons_zero, List.set_cons_succ])
                refine wpAnyH_take (i := 9) (oi := { dst := some 40, op := _, type := _, pos := _, after := _, guard := _ }) (v := ?v1041) rfl (by kernel_rfl) (by kernel_rfl) (by kernel_rfl) (fun _ _ _ h => h) (Or.inl ⟨by rfl, ?hy1041⟩) (by first | assumption | exact hHeld1039) ?rest1041
                case hy1041 => ((intro w0 hSw; (try dsimp only at hSw); go_simp) <;> with_reducible rfl)
                (try simp only [Act.put, List.setIfInBounds_toArray, List.set_cons_zero, List.set_cons_succ])
                refine wpAnyH_ready (rs := [10]) (by kernel_rfl) (by simp) ?_
                refine AllReadyH.cons (o := { dst := none, op := _, type := _, pos := _, after := _, guard := _ }) rfl (fun K hK => ?_) ?_
                · go_simp
                  refine hK.out _ _ ?_ (fun hHeld1042 => ?_)
                  · (try dsimp only)
                    all_goals (exact True.intro)
                  clear hK K
                  (try clear hHeld1039)
                  (try simp only [Act.put, List.setIfInBounds_toArray, List.set_cons_zero, List.set_cons_succ])
                  refine wpAnyH_done (by kernel_rfl) ?_ _
                  go_wp2_with fail
                  try go_ret2
                  rw [HQ.out, HY.out]
                  exact ⟨_, _, rfl, ⟨rfl, rfl, HFIN.out.1⟩, HFIN.out.2⟩
                exact AllReadyH.nil
              exact AllReadyH.nil
            exact AllReadyH.nil
          refine AllReadyH.cons (o := { dst := some 37, op := _, type := _, pos := _, after := _, guard := _ }) rfl (fun K hK => ?_) ?_
          · go_simp
            refine hK.out _ _ ?_ (fun hHeld1043 => ?_)
            · (try dsimp only)
              all_goals (exact True.intro)
            clear hK K
            (try clear hHeld1036)
            (try simp only [Act.put, List.setIfInBounds_toArray, List.set_cons_zero, List.set_cons_succ])
            refine wpAnyH_ready (rs := [4]) (by kernel_rfl) (by simp) ?_
            refine AllReadyH.cons (o := { dst := some 35, op := _, type := _, pos := _, after := _, guard := _ }) rfl (fun K hK => ?_) ?_
            · go_simp
              refine hK.out _ _ ?_ (fun hHeld1044 => ?_)
              · (try dsimp only)
                all_goals (exact True.intro)
              clear hK K
              (try clear hHeld1043)
              (try simp only [Act.put, List.setIfInBounds_toArray, List.set_cons_zero, List.set_cons_succ])
              refine wpAnyH_ready (rs := [7]) (by kernel_rfl) (by simp) ?_
              refine AllReadyH.cons (o := { dst := some 38, op := _, type := _, pos := _, after := _, guard := _ }) rfl (fun K hK => ?_) ?_
              · rw [if_pos (by rfl)]
                unfold Oper.wp execOp
                simp only [resolve, invoke, builtin, Sem.run_bind, Sem.run_pure, Result.andThen_ok, List.map_toArray, List.map_cons, List.map_nil]
                have ho3 := HG4.out.next HBX.out.2.1
                obtain ⟨i0, hi, hz0, hz1, hz2⟩ := info_parts tally_info
                obtain ⟨v5, w5, hr, ho5, hg5, -⟩ := run_append_own_at (P := Tryz.prog) (W3.alloc (.cells #[.int .i64 y0, .int .i64 y1, .string y2, .string y3] 52)).drew B0 46 46 52 i0 _ 4 48 Tryz.underlying46 hi hz0 hz1 hz2 rfl (by decide) (.slice At nt ct) nt (TV ts) (ho3.alloc _).drew.1 ⟨W3.heap.size, 0, none⟩ 1 1 [.int .i64 y0, .int .i64 y1, .string y2, .string y3] rfl (fun j u hj => by rw [add_row]; have := cell_of_row _ W3.heap.size j _ _ _ (heap_alloc_new W3 (.cells #[.int .i64 y0, .int .i64 y1, .string y2, .string y3] 52)); rw [World.cell?_drew, this]; simpa using hj) (by intro u hu; simp at hu; rcases hu with rfl | rfl | rfl | rfl <;> rfl) (by unfold maxLen; omega) (by omega) (by have := HBX.out.2.1.size; have := HW.out; simp; omega)
                change Oper.upon _ _ _ _ _ ((Sem.run Tryz.prog (Builtin.append_ #[46, 46] 46 #[.slice At nt ct, .slice (some ⟨W3.heap.size, 0, none⟩) 1 1]) (W3.alloc (.cells #[.int .i64 y0, .int .i64 y1, .string y2, .string y3] 52)).drew).andThen _)
                rw [hr]
                simp only [Result.andThen_ok]
                rw [Oper.upon_value]
                have hcs := tally_cells HV.out
                rw [← hcs, ← TV_one, ← TV_append] at ho5
                obtain ⟨A5, c5, rfl, ho5'⟩ := shape_own ho5 (by omega)
                have hg5' : W3.grownBy w5 (Value.slice At nt ct).ownBlock := ⟨hg5.os, hg5.tape, hg5.output, by have := hg5.size; simp at this; omega, fun k hk hne => (hg5.block k (by simp; omega) hne).trans (Below.heap_alloc W3 _ k hk)⟩
                have hfin := Tab.grow (HT.out.next HBX.out.2.1) ho3 hg5' ho5'
                have htb5 : Blk w5 tb #[.slice Ab nb cb, .slice A1 4 c1, .slice A1' 4 c1', .slice At nt ct] 62 := hg3.grown hg5' (fun e => by obtain ⟨cur, z, h1⟩ := OwnR.ty ho3 e.symm; exact absurd (blk_ty2 hg3 h1) (by decide))
                have c53 := htb5.cell (j := 3) (v := .slice At nt ct) rfl
                have f53 := htb5.free 3
                have HFIN := Lib.hid (And.intro hfin (((KeptT.of_below HBX.out.2.1).trans (KeptT.grow ho3 hg5')).trans (KeptT.set htb5 HB0.out 3 (.slice A5 (nt + 1) c5))))
                clear hr ho5 hg5 ho3 ho5' hg5' hfin htb5 hcs
                refine hK.out _ _ ?_ (fun hHeld1045 => ?_)
                · (try dsimp only)
                  all_goals (exact True.intro)
                clear hK K
                (try clear hHeld1044)
                (try simp only [Act.put, List.setIfInBounds_toArray, List.set_cons_zero, List.set_cons_succ])
                refine wpAnyH_take (i := 8) (oi := { dst := some 39, op := _, type := _, pos := _, after := _, guard := _ }) (v := ?v1046) rfl (by kernel_rfl) (by kernel_rfl) (by kernel_rfl) (fun _ _ _ h => h) (Or.inl ⟨by rfl, ?hy1046⟩) (by first | assumption | exact hHeld1045) ?rest1046
                case hy1046 => ((intro w0 hSw; (try dsimp only at hSw); go_simp) <;> with_reducible rfl)
                (try simp only [Act.put, List.setIfInBounds_toArray, List.set_cons_zero, List.set_cons_succ])
                refine wpAnyH_take (i := 9) (oi := { dst := some 40, op := _, type := _, pos := _, after := _, guard := _ }) (v := ?v1047) rfl (by kernel_rfl) (by kernel_rfl) (by kernel_rfl) (fun _ _ _ h => h) (Or.inl ⟨by rfl, ?hy1047⟩) (by first | assumption | exact hHeld1045) ?rest1047
                case hy1047 => ((intro w0 hSw; (try dsimp only at hSw); go_simp) <;> with_reducible rfl)
                (try simp only [Act.put, List.setIfInBounds_toArray, List.set_cons_zero, List.set_cons_succ])
                refine wpAnyH_ready (rs := [10]) (by kernel_rfl) (by simp) ?_
                refine AllReadyH.cons (o := { dst := none, op := _, type := _, pos := _, after := _, guard := _ }) rfl (fun K hK => ?_) ?_
                · go_simp
                  refine hK.out _ _ ?_ (fun hHeld1048 => ?_)
                  · (try dsimp only)
                    all_goals (exact True.intro)
                  clear hK K
                  (try clear hHeld1045)
                  (try simp only [Act.put, List.setIfInBounds_toArray, List.set_cons_zero, List.set_cons_succ])
                  refine wpAnyH_done (by kernel_rfl) ?_ _
                  go_wp2_with fail
                  try go_ret2
                  rw [HQ.out, HY.out]
                  exact ⟨_, _, rfl, ⟨rfl, rfl, HFIN.out.1⟩, HFIN.out.2⟩
                exact AllReadyH.nil
              exact AllReadyH.nil
            exact AllReadyH.nil
          exact AllReadyH.nil
        exact AllReadyH.nil
      exact AllReadyH.nil
    exact AllReadyH.nil
  exact AllReadyH.nil
  --R>
end Go.Proofs.YthdoofmfigemoaaGreatDoor
end
