/-
  The heap of debts: what is put in, and what is taken out.
-/
import Derived.Test.YtogplbnabffcfaaTaHeap
namespace Go.Proofs.Ytogplbnabffcfaa
open Go.RowKit
set_option linter.unusedSimpArgs false

/-- a world that keeps all blocks but some -/
structure Kept (w w' : World) (S : Nat → Prop) : Prop where
  os : w'.os = w.os
  tape : w'.tape = w.tape
  output : w'.output = w.output
  size : w.heap.size ≤ w'.heap.size
  block : ∀ k, k < w.heap.size → ¬ S k → w'.heap[k]? = w.heap[k]?
theorem Kept.refl (w : World) (S : Nat → Prop) : Kept w w S := ⟨rfl, rfl, rfl, Nat.le_refl _, fun _ _ _ => rfl⟩
theorem Kept.trans {a b c : World} {S : Nat → Prop} (h : Kept a b S) (k : Kept b c S) : Kept a c S :=
  ⟨k.os.trans h.os, k.tape.trans h.tape, k.output.trans h.output, Nat.le_trans h.size k.size, fun i hi hn => (k.block i (Nat.lt_of_lt_of_le hi h.size) hn).trans (h.block i hi hn)⟩
theorem Kept.mono {a b : World} {S T : Nat → Prop} (h : Kept a b S) (hST : ∀ k, k < a.heap.size → S k → T k) : Kept a b T :=
  ⟨h.os, h.tape, h.output, h.size, fun i hi hn => h.block i hi fun hs => hn (hST i hi hs)⟩
theorem Kept.of_grown {a b : World} {r : Option Nat} (h : a.grownBy b r) : Kept a b (fun k => r = some k) := ⟨h.os, h.tape, h.output, h.size, fun i hi hn => h.block i hi fun e => hn e.symm⟩
theorem Kept.of_below {a b : World} {B : Nat} (h : Below B a b) : Kept a b (fun k => B ≤ k) := ⟨h.os, h.tape, h.output, h.size, fun i _ hn => h.block i (by omega)⟩
theorem Kept.below {a b : World} {S : Nat → Prop} {B : Nat} (h : Kept a b S) (hB : B ≤ a.heap.size) (hS : ∀ k, S k → B ≤ k) : Below B a b := ⟨h.os, h.tape, h.output, h.size, fun i hi => h.block i (by omega) fun hs => by have := hS i hs; omega⟩
theorem Kept.drew {a b : World} {S : Nat → Prop} (h : Kept a b S) : Kept a b.drew S := ⟨h.os, h.tape, h.output, h.size, h.block⟩
theorem Kept.drewN {a b : World} {S : Nat → Prop} (h : Kept a b S) (q : Nat) : Kept a (b.drewN q) S := ⟨h.os, h.tape, h.output, h.size, h.block⟩

/-- block g holds the header of a heap, whose row is the call's own from block B on -/
structure Hp (w : World) (B g : Nat) (A : Option Addr) (n c : Nat) (xs : List (Nat × Int)) : Prop where
  blk : Blk w g #[.slice A n c] 47
  own : OwnD w B A n c (HL xs)
  ne : ∀ k, (Value.slice A n c).ownBlock = some k → k ≠ g
section
variable {w w' : World} {B g n c : Nat} {A : Option Addr} {xs : List (Nat × Int)}
theorem Hp.len (h : Hp w B g A n c xs) : xs.length = n := by have := h.own.dbs.len; simpa [HL] using this
theorem Hp.cell (h : Hp w B g A n c xs) : w.cell? ⟨g, 0, none⟩ = some (.slice A n c) := h.blk.cell rfl
theorem Hp.drewN (h : Hp w B g A n c xs) (q : Nat) : Hp (w.drewN q) B g A n c xs := ⟨h.blk, h.own, h.ne⟩
theorem Hp.drew (h : Hp w B g A n c xs) : Hp w.drew B g A n c xs := ⟨h.blk, h.own, h.ne⟩
theorem Hp.kept {S : Nat → Prop} (h : Hp w B g A n c xs) (hk : Kept w w' S) (h1 : ¬ S g) (h2 : ∀ k, (Value.slice A n c).ownBlock = some k → ¬ S k) : Hp w' B g A n c xs := by
  refine ⟨h.blk.keep (hk.block g h.blk.lt h1), ⟨⟨h.own.1.1, ?_⟩, h.own.2⟩, h.ne⟩
  rcases h.own.1.2 with h0 | ⟨r, cap, cur, hv, hb, hg, rest⟩
  · exact .inl h0
  · refine .inr ⟨r, cap, cur, hv, hb, ?_, rest⟩
    rw [hk.block r (Array.getElem?_eq_some_iff.1 hg).1 (h2 r (by rw [hv]; rfl))]
    exact hg
theorem Hp.next (h : Hp w B g A n c xs) (hb : Below w.heap.size w w') : Hp w' B g A n c xs :=
  h.kept (Kept.of_below hb) (by have := h.blk.lt; omega) (fun k hk => by have := (h.own.blk k hk).2; omega)
end
theorem wrap64_nat {n : Nat} (h : n ≤ 1000000) : wrap64 (n : Int) = (n : Int) := by unfold wrap64; omega
/-- what lies in the heap's own blocks -/
def Mine (g : Nat) (A : Option Addr) (n c : Nat) (k : Nat) : Prop := k = g ∨ (Value.slice A n c).ownBlock = some k

set_option maxRecDepth 100000 in
set_option maxHeartbeats 1000000 in
theorem up_any (w : World) (B g n c : Nat) (r : Nat) (xs : List (Nat × Int)) (j f : Nat) (h : Hp w B g (some ⟨r, 0, none⟩) n c xs) (hj : j < n) (hn : n ≤ 1000) (hf : j < 2 ^ f) :
    Calls Try.prog 48 #[.iface 71 (.pointer (some ⟨g, 0, none⟩)), .int .i64 (j : Int)] w fun e w' => (∃ v, e = .returned v) ∧ Hp w' B g (some ⟨r, 0, none⟩) n c (Ta.upL f xs j) ∧ w.grownBy w' (some r) := by
  have ml := method_less g n c (some ⟨r, 0, none⟩)
  have ms := method_swap g n c (some ⟨r, 0, none⟩)
  obtain ⟨R, hR⟩ : ∃ R, Ta.upL f xs j = R := ⟨_, rfl⟩
  rw [hR]
  have H0 := Lib.hid h
  have HR := Lib.hid hR
  have HF := Lib.hid hf
  clear h hR hf
  go_enter Try.func48, Try.ntmps48
  go_wp2_with fail
  go_loopw [1] (fun jv wr => ∃ (j f : Nat) (ys : List (Nat × Int)), jv = .int .i64 (j : Int) ∧ j < n ∧ j < 2 ^ f ∧ Ta.upL f ys j = R ∧ Hp wr B g (some ⟨r, 0, none⟩) n c ys ∧ w.grownBy wr (some r)) (fun jv _ => (intOf jv).toNat)
  case atStart => exact ⟨j, f, xs, rfl, hj, HF.out, HR.out, H0.out, World.grownBy.refl w _⟩
  case round =>
    clear HR HF H0 hj
    obtain ⟨j, f, ys, rfl, hj, hf, hR, hH, hG⟩ := hrel
    have hcell := hH.cell
    have HH := Lib.hid hH
    have HG := Lib.hid hG
    have HR := Lib.hid hR
    have HF := Lib.hid hf
    clear hH hG hR hf
    by_cases h0 : j = 0
    · subst h0
      go_wp2
      refine bodyPost_end (results_none rfl _ _ _) rfl ⟨⟨_, rfl⟩, ?_, HG.out⟩
      have : Ta.upL f ys 0 = ys := by cases f with | zero => rfl | succ f => simp [Ta.upL]
      rw [← HR.out, this]
      exact HH.out
    · obtain ⟨i, hi2⟩ : ∃ i : Nat, i = (j - 1) / 2 := ⟨_, rfl⟩
      have hij : ¬ i = j := by omega
      have hij2 : ((i : Int) == (j : Int)) = false := by simp; omega
      have hq : ((j : Int) - 1) / 2 = (i : Int) := by omega
      obtain ⟨f, rfl⟩ : ∃ k, f = k + 1 := ⟨f - 1, by have := HF.out; cases f with | zero => simp at this; omega | succ k => simp⟩
      have hly := HH.out.len
      obtain ⟨x, hx⟩ : ∃ x, ys[j]? = some x := ⟨_, List.getElem?_eq_getElem (by omega)⟩
      obtain ⟨y, hy⟩ : ∃ y, ys[i]? = some y := ⟨_, List.getElem?_eq_getElem (by omega)⟩
      have HX := Lib.hid hx
      have HY := Lib.hid hy
      have HI := Lib.hid hi2
      have dx : ys.getD j Ta.d0 = x := by rw [List.getD_eq_getElem?_getD, hx]; rfl
      have dy : ys.getD i Ta.d0 = y := by rw [List.getD_eq_getElem?_getD, hy]; rfl
      have hup : Ta.upL (f + 1) ys j = if Ta.less x y = false then ys else Ta.upL f (Ta.swapL ys i j) i := by
        simp only [Ta.upL, ← hi2, dx, dy]
        by_cases hz : Ta.less x y = false
        · rw [if_pos (.inr hz), if_pos hz]
        · rw [if_neg (by simp [hij]; simpa using hz), if_neg hz]
      have HUP := Lib.hid hup
      have hi3 : i < n := by omega
      have hfi : i < 2 ^ f := by have := HF.out; rw [Nat.pow_succ] at this; omega
      have HFI := Lib.hid hfi
      clear hx hy hi2 dx dy hup hly hfi
      go_wp2_with fail
      refine (Less_any _ n c ys j i x y wr HH.out.own.dbs HX.out HY.out).mono ?_
      rintro e w1 ⟨rfl, q, rfl⟩
      rcases hls : Ta.less x y with _ | _
      · have HL := Lib.hid hls
        clear hls
        go_wp2
        refine bodyPost_end (results_none rfl _ _ _) rfl ⟨⟨_, rfl⟩, ?_, ?_⟩
        · rw [← HR.out, HUP.out, if_pos HL.out]
          exact HH.out.drewN q
        · exact ⟨HG.out.os, HG.out.tape, HG.out.output, HG.out.size, HG.out.block⟩
      · have HL := Lib.hid hls
        clear hls
        go_wp2_with fail
        refine (Swap_any r n c B ys i j y x (wr.drewN q) (HH.out.drewN q).own HY.out HX.out).mono ?_
        rintro e w2 ⟨⟨v2, rfl⟩, hO, hG2⟩
        have HH2 := Lib.hid (show Hp w2 B g (some ⟨r, 0, none⟩) n c (Ta.swapL ys i j) from ⟨(HH.out.drewN q).blk.grown hG2 (by intro e; injection e with e; exact HH.out.ne r rfl e.symm), hO, HH.out.ne⟩)
        have HG2 := Lib.hid ((⟨HG.out.os, HG.out.tape, HG.out.output, HG.out.size, HG.out.block⟩ : w.grownBy (wr.drewN q) (some r)).then_ hG2 (fun k hk => .inr hk))
        clear hO hG2
        go_wp2
        go_roundw
        case rel => exact ⟨i, f, _, rfl, hi3, HFI.out, by rw [← HR.out, HUP.out, if_neg (by rw [HL.out]; simp)], HH2.out, HG2.out⟩
        case measure => simp [intOf]; have := HI.out; omega
end Go.Proofs.Ytogplbnabffcfaa
