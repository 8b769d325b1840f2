/-
  Joined texts.
-/
import Derived.Test.YthdoofmfigemoaaGreatDoorS1
import Derived.Test.YthdoofmfigemoaaGreatDoorS3
import Derived.Deep.RegionHeld3
import Derived.Deep.RegionLawGrows
import Derived.Deep.DeepCutAuto
set_option linter.unusedSimpArgs false
set_option linter.unusedVariables false
set_option maxRecDepth 100000
set_option maxHeartbeats 4000000
namespace Go.Proofs.YthdoofmfigemoaaGreatDoor
open Go.RowKit
def SB (W w : World) : Prop := Below W.heap.size W w
theorem SB.alloc {W w : World} (h : SB W w) (o : Obj) : SB W (w.alloc o) := Below.alloc h h.size o
theorem SB.drew {W w : World} (h : SB W w) : SB W w.drew := Below.drew h
theorem SB.grown {W w w' : World} (h : SB W w) (hg : w.grownBy w' none) : SB W w' := Below.grown h hg h.size (by simp)
theorem bgrown {w w1 : World} (hg : w.grownBy w1 none) : (∀ b o, b < w.heap.size → w1.cell? ⟨b, o, none⟩ = w.cell? ⟨b, o, none⟩) ∧ (∀ b o, b < w.heap.size → w1.frozen? ⟨b, o, none⟩ = w.frozen? ⟨b, o, none⟩) :=
 bcell ⟨hg.os, hg.tape, hg.output, hg.size, fun k hk => hg.block k hk (by simp)⟩
theorem size_drew_ (w : World) : w.drew.heap.size = w.heap.size := rfl
theorem SB.refl (W : World) : SB W W := Below.refl _ W
theorem step_app_fresh {ops : Array Oper} {o : Oper} {a : Act} {w : World} {K : Act → World → Prop} {Q : Exit → Act → World → Prop} {E : Prop} (hgd : o.guard = none) (s x : Operand)
  (ho : o.op = .call { callee := .builtin .append, args := #[s, x], argTypes := #[28, 28] })
  {p : Addr} (hs : a.eval s = .slice (some p) 0 0) {B m c0 : Nat} {A : Option Addr} {us : List Int}
  (hx : a.eval x = .slice A m c0) (hr : Ints w B A m us) (hm : 0 < m)
  (h : ∀ g c' w', Own w' w.heap.size (some ⟨g, 0, none⟩) m c' us → w.grownBy w' none → K (a.put o.dst (.slice (some ⟨g, 0, none⟩) m c')) w') :
  if Region.wanted o (yielded ops a.tmps) = true then Oper.wp Tryz.prog o a w K Q else E := by
 obtain ⟨i0, hi, hz0, hz1, hz2⟩ := info_parts own_int_info
 have hl := hr.len
 have hb := hr.bound
 obtain ⟨b, off, rfl, hlt, hc⟩ := hr.addr hm
 refine step_append_grows hgd s x 28 ho 3 i0 (.int .i64 0) 1 8 Tryz.underlying28 hi hz0 hz1 hz2 rfl (by decide) (some p) 0 0 [] hs (by simp) rfl (by intro b _ j u hj; simp at hj)
  ⟨b, off, none⟩ m c0 (IV us) hx (by simp [IV, hl]) ?_ (IV_one us) (by omega) (by unfold maxLen; omega) (by omega) ?_
 ·intro j u hj
  have hj' : (us.map (Value.int .i64))[j]? = some u := hj
  rw [List.getElem?_map] at hj'
  obtain ⟨z, hz, rfl⟩ := Option.map_eq_some_iff.1 hj'
  have e : (⟨b, off, none⟩ : Addr).add j = ⟨b, off + j, none⟩ := by unfold Addr.add; split <;> simp_all
  rw [e]
  exact hc j z hz
 ·intro v' w' hown hg
  obtain ⟨A', c', rfl, h'⟩ := Own.of_app (xs := []) us rfl hown (by omega)
  simp only [Nat.zero_add, List.nil_append] at h'
  obtain ⟨g, rfl, _⟩ := h'.at_ hm
  simp only [Nat.zero_add]
  exact h g c' w' h' hg
theorem HiL_set (ds : List Int) (k : Nat) (x : Int) : HiL (ds.set k x) = (HiL ds).set k (x / 5) := by simp [HiL, List.map_set]
theorem LoL_set (ds : List Int) (k : Nat) (x : Int) : LoL (ds.set k x) = (LoL ds).set k (x % 5) := by simp [LoL, List.map_set]
theorem fill2 {wr : World} {B hi lo n c c' k : Nat} {xs ys : List Int} (oh : Own wr B (some ⟨hi, 0, none⟩) n c xs) (ol : Own wr B (some ⟨lo, 0, none⟩) n c' ys) (hne : hi ≠ lo) (u v : Int) :
  Own ((wr.setCell ⟨hi, k, none⟩ (.int .i64 u)).setCell ⟨lo, k, none⟩ (.int .i64 v)) B (some ⟨hi, 0, none⟩) n c (xs.set k u) ∧ Own ((wr.setCell ⟨hi, k, none⟩ (.int .i64 u)).setCell ⟨lo, k, none⟩ (.int .i64 v)) B (some ⟨lo, 0, none⟩) n c' (ys.set k v) := by
 have h1 := oh.store k u
 have h2 := (ol.kept h1.2 (by rintro j e1 e2; injection e1 with e1; injection e2 with e2; exact hne (e2.trans e1.symm))).store k v
 exact ⟨h1.1.kept h2.2 (by rintro j e1 e2; injection e1 with e1; injection e2 with e2; exact hne (e1.trans e2.symm)), h2.1⟩
def L5Q (W : World) (n : Nat) (xs ys : List Int) (s : Value) (wx : World) : Prop :=
 ∃ bx hi lo ch cl : Nat, s = .pointer (some ⟨bx, 0, none⟩) ∧ FBox wx bx (.slice (some ⟨hi, 0, none⟩) n ch) (.slice (some ⟨lo, 0, none⟩) n cl) ∧
  Own wx W.heap.size (some ⟨hi, 0, none⟩) n ch xs ∧ Own wx W.heap.size (some ⟨lo, 0, none⟩) n cl ys ∧ hi ≠ lo ∧ bx ≠ hi ∧ bx ≠ lo ∧ W.heap.size ≤ bx ∧ Below W.heap.size W wx
theorem Own.block {w w' : World} {B g n c : Nat} {xs : List Int} (h : Own w B (some ⟨g, 0, none⟩) n c xs) (e : w'.heap[g]? = w.heap[g]?) : Own w' B (some ⟨g, 0, none⟩) n c xs := by
 refine ⟨⟨h.1.1, ?_⟩, h.2⟩
 rcases h.1.2 with ⟨h0, _⟩ | ⟨g', cap, cur, hv, h1, hg, rest⟩
 ·cases h0
 ·injection hv with e1 e2 e3
  injection e1 with e1
  injection e1 with e1
  subst e1
  subst e3
  exact .inr ⟨g, c, cur, rfl, h1, e.trans hg, rest⟩
theorem l5leafA {W w2 : World} {hi lo n ch cl : Nat} {xs ys : List Int} (h1 : Own w2 W.heap.size (some ⟨hi, 0, none⟩) n ch xs) (h2 : Own w2 W.heap.size (some ⟨lo, 0, none⟩) n cl ys) (hne : hi ≠ lo) (hb : SB W w2) :
  L5Q W n xs ys (.pointer (some ⟨w2.heap.size, 0, none⟩)) (w2.alloc (.cells #[.slice (some ⟨hi, 0, none⟩) n ch, .slice (some ⟨lo, 0, none⟩) n cl] 30)) := by
 have b1 := (h1.blk hi rfl).2
 have b2 := (h2.blk lo rfl).2
 exact ⟨_, hi, lo, ch, cl, rfl, FBox.new w2 _ _, h1.alloc _, h2.alloc _, hne, by omega, by omega, Below.size hb, hb.alloc _⟩
theorem l5leafB {W w2 : World} {bx hi lo n ch cl : Nat} {xs ys : List Int} (h1 : Own w2 W.heap.size (some ⟨hi, 0, none⟩) n ch xs) (h2 : Own w2 W.heap.size (some ⟨lo, 0, none⟩) n cl ys) (hne : hi ≠ lo) (hb : SB W w2)
  (hbx : w2.heap[bx]? = some (.cells #[.slice none 0 0, .slice none 0 0] 30)) (h3 : bx ≠ hi) (h4 : bx ≠ lo) (h5 : W.heap.size ≤ bx) :
  L5Q W n xs ys (.pointer (some ⟨bx, 0, none⟩)) ((w2.setCell ⟨bx, 0, none⟩ (.slice (some ⟨hi, 0, none⟩) n ch)).setCell ⟨bx, 1, none⟩ (.slice (some ⟨lo, 0, none⟩) n cl)) := by
 refine ⟨bx, hi, lo, ch, cl, rfl, FBox.over hbx _ _, h1.block ?_, h2.block ?_, hne, h3, h4, h5, below_over hb h5 _ _⟩
 ·exact (heap_setCell_other _ _ hi _ (fun e => h3 e.symm)).trans (heap_setCell_other _ _ hi _ (fun e => h3 e.symm))
 ·exact (heap_setCell_other _ _ lo _ (fun e => h4 e.symm)).trans (heap_setCell_other _ _ lo _ (fun e => h4 e.symm))
set_option maxHeartbeats 8000000 in
theorem l5Set_any (A A' : Option Addr) (n c c' : Nat) (ds : List Int) (k : Nat) (x : Int) (w : World) (hx : Ints w w.heap.size A n (HiL ds)) (hy : Ints w w.heap.size A' n (LoL ds)) (hk : k < n) (hn : n ≤ 6) (x0 : 0 ≤ x) (x9 : x ≤ 9) :
    Calls Tryz.prog 210 #[.agg #[.slice A n c, .slice A' n c'], .int .i64 (k : Int), .int .i64 x] w fun e w' => (∃ v, e = .returned v ∧ FrOwn w' w.heap.size v (ds.set k x)) ∧ Below w.heap.size w w' := by
  have hl : ds.length = n := by have := hx.len; rwa [HiL_length] at this
  have hpos : 0 < n := by omega
  have HL := Hd hl
  obtain ⟨W, hW⟩ : ∃ W, (w.alloc (.cells #[.slice A n c, .slice A' n c'] 30)).alloc (.cells #[.slice none 0 0, .slice none 0 0] 30) = W := ⟨_, rfl⟩
  have HX := Hd (hW ▸ (hx.al (.cells #[.slice A n c, .slice A' n c'] 30)).al (.cells #[.slice none 0 0, .slice none 0 0] 30))
  have HY := Hd (hW ▸ (hy.al (.cells #[.slice A n c, .slice A' n c'] 30)).al (.cells #[.slice none 0 0, .slice none 0 0] 30))
  have HB := Hd (hW ▸ below_two w (.cells #[.slice A n c, .slice A' n c'] 30) (.cells #[.slice none 0 0, .slice none 0 0] 30))
  have HV := Hd (hW ▸ (FBox.new w (.slice A n c) (.slice A' n c')).alloc (.cells #[.slice none 0 0, .slice none 0 0] 30))
  have HZ := Hd (hW ▸ FBox.new (w.alloc (.cells #[.slice A n c, .slice A' n c'] 30)) (.slice none 0 0) (.slice none 0 0))
  have hsW : W.heap.size = w.heap.size + 1 + 1 := by rw [← hW]; simp
  have HSW := Hd hsW
  have hlW : w.heap.size < W.heap.size := by omega
  have b0 := HV.out.fst
  have b1 := HV.out.snd
  have KS : Hid (∀ w', SB W w' → (w'.cell? ⟨w.heap.size, 0, none⟩ = some (.slice A n c) ∧ w'.cell? ⟨w.heap.size, 1, none⟩ = some (.slice A' n c') ∧ SB W w')) :=
    Hd fun w' h => ⟨(Below.cell h (p := ⟨w.heap.size, 0, none⟩) hlW).trans b0, (Below.cell h (p := ⟨w.heap.size, 1, none⟩) hlW).trans b1, h⟩
  have hsb := SB.refl W
  have HWW := Hd hW
  clear hx hy hl hsW hW
  go_enter Tryz.func210, Tryz.ntmps210
  go_upto_region 1 with fail
  rw [HWW.out]
  go_cut [7] (fun s7 wx => L5Q W n (HiL ds) (LoL ds) s7 wx)
  case first =>
    go_region_held3 (fun w' => w'.cell? ⟨w.heap.size, 0, none⟩ = some (.slice A n c) ∧ w'.cell? ⟨w.heap.size, 1, none⟩ = some (.slice A' n c') ∧ SB W w')
      (first
        | ((try go_split_ands); refine KS.out _ ?_; first | assumption | (exact SB.drew (by assumption)) | (exact SB.alloc (by assumption) _) | (exact SB.grown (by assumption) (by assumption)) | (exact Below.setCell (Below.setCell (by assumption : SB W _) (by first | omega | (simp <;> omega)) _) (by first | omega | (simp <;> omega)) _)))
      (first
        | ((try go_split_ands); (refine step_app_fresh (by rfl) (.tmp 8) (.tmp 10) (by rfl) (by rfl) (by rfl) (HX.out.below (by assumption : SB W _)) hpos ?_; intro hi ch w1 ho1 hg1; obtain ⟨hc1, hf1⟩ := bgrown hg1; have hs1 : SB W w1 := SB.grown (by assumption) hg1; have hz1 := hg1.size; (try simp at hz1); have hy1 := hs1.size; (try have q1 : W.heap.size < w1.heap.size := by omega); (try have q2 : W.heap.size < w1.heap.size + 1 := by omega); (try have q3 : W.heap.size < w1.heap.size + 1 + 1 := by omega); (try have q4 : W.heap.size + 1 < w1.heap.size := by omega); (try have q5 : W.heap.size + 1 < w1.heap.size + 1 := by omega); (try have q6 : W.heap.size + 1 < w1.heap.size + 1 + 1 := by omega); (try have q7 : W.heap.size + 1 + 1 < w1.heap.size := by omega); (try have q8 : W.heap.size + 1 + 1 < w1.heap.size + 1 := by omega); (try have q9 : W.heap.size + 1 + 1 < w1.heap.size + 1 + 1 := by omega)))
        | ((try go_split_ands); (refine step_app_fresh (by rfl) (.tmp 12) (.tmp 14) (by rfl) (by rfl) (by rfl) (HY.out.below (by assumption : SB W _)) hpos ?_; intro lo cl w2 ho2 hg2; obtain ⟨hc2, hf2⟩ := bgrown hg2; have hs2 : SB W w2 := SB.grown (by assumption) hg2; have hz2 := hg2.size; (try simp at hz2); have hy2 := hs2.size)))
    all_goals go_wp2_with fail
    all_goals go_meet
    all_goals
      have v1 := ho1.blk hi rfl
      have v2 := ho2.blk lo rfl
      simp only [World.size_alloc, size_drew_] at v1 v2
      have e12 : w2.heap[hi]? = w1.heap[hi]? := by
        refine (hg2.block hi (by first | omega | (simp <;> omega)) (by simp)).trans ?_
        first
          | rfl
          | exact Below.heap_alloc _ _ _ (by omega)
          | (rw [Below.heap_alloc _ _ _ (by simp <;> omega)]; exact Below.heap_alloc _ _ _ (by omega))
      have o1 := (ho1.block e12).mono (show W.heap.size ≤ _ by first | omega | (simp <;> omega))
      have o2 := ho2.mono (show W.heap.size ≤ _ by first | omega | (simp <;> omega))
      first
        | exact l5leafA o1 o2 (by omega) hs2
        | (refine l5leafB o1 o2 (by omega) hs2 ?_ (by omega) (by omega) (by omega)
           rw [hg2.block _ (by first | omega | (simp <;> omega)) (by simp)]
           repeat (first
             | (simp only [heap_drew, heap_alloc_if, World.size_alloc, if_true]; done)
             | rw [if_pos (by omega)]
             | rw [if_neg (by omega)]
             | simp only [heap_drew, heap_alloc_if, World.size_alloc, if_true]
             | rw [hg1.block _ (by first | omega | (simp <;> omega)) (by simp)]))
  case rest =>
    obtain ⟨bx, hi, lo, ch, cl, rfl, hbx, hoh, hol, d1, d2, d3, d4, hbel⟩ := hcut
    have hbc := FBox.fst hbx
    have hbd := FBox.snd hbx
    have hbl := FBox.lt hbx
    have hln := HL.out
    have hlh := HiL_length ds
    have hll := LoL_length ds
    rw [hln] at hlh hll
    obtain ⟨u, hu⟩ : ∃ u, (HiL ds)[k]? = some u := ⟨_, List.getElem?_eq_getElem (by omega)⟩
    obtain ⟨v, hv⟩ : ∃ v, (LoL ds)[k]? = some v := ⟨_, List.getElem?_eq_getElem (by omega)⟩
    obtain ⟨g7, e7, g70, hil, hc7, hf7⟩ := hoh.at_ (by omega)
    obtain rfl : hi = g7 := by simpa using e7
    have hco := hc7 k u hu
    have hfo := hf7 k
    obtain ⟨g8, e8, g80, lol, hc8, hf8⟩ := hol.at_ (by omega)
    obtain rfl : lo = g8 := by simpa using e8
    have hco' := hc8 k v hv
    have hfo' := hf8 k
    have hzw := HSW.out
    have hzz := FBox.keep HZ.out (hbel.block _ (by rw [World.size_alloc]; omega))
    simp only [World.size_alloc] at hzz
    have hz0 := hzz.fst
    have hz1 := hzz.snd
    have hy0 := hzz.free 0
    have hy1 := hzz.free 1
    have HZ2 := Hd hzz
    have HBX := Hd hbx
    have HOH := Hd hoh
    have HOL := Hd hol
    have HB2 := Hd hbel
    have k0 : (0 : Int) ≤ (k : Int) := by omega
    have k1 : (k : Int) < (n : Int) := by omega
    have hza : w.heap.size + 1 < wc.heap.size := by have := hbel.size; omega
    have n1 : ¬ (w.heap.size + 1 = hi) := by omega
    have n2 : ¬ (w.heap.size + 1 = lo) := by omega
    have n3 : ¬ (w.heap.size + 1 = bx) := by omega
    clear hbx hoh hol hbel hc7 hf7 hc8 hf8 e7 e8 hln hlh hll hu hv hzz hzw b0 b1
    go_wp2
    obtain ⟨q1, q2⟩ := fill2 (k := k) HOH.out HOL.out d1 (x / 5) (x % 5)
    have hz2 := HZ2.out.set2 (p := ⟨hi, k, none⟩) (q := ⟨lo, k, none⟩) n1 n2 (.int .i64 (x / 5)) (.int .i64 (x % 5))
    have hl := HL.out
    subst hl
    refine bodyPost_ret (v := .agg #[.slice (some ⟨hi, 0, none⟩) ds.length ch, .slice (some ⟨lo, 0, none⟩) ds.length cl]) (by simp [results, Tryz.results210, go_sem, over_fst hz2, over_snd hz2]) rfl ⟨⟨_, rfl, ?_⟩, ?_⟩
    · have hso := HSW.out
      refine (FrOwn.over (B := W.heap.size) ⟨some ⟨hi, 0, none⟩, ch, some ⟨lo, 0, none⟩, cl, ?_, ?_, ?_, ?_, ?_⟩ (by omega) _ _).mono (by omega)
      · rw [List.length_set]
      · rw [List.length_set, HiL_set]; exact q1
      · rw [List.length_set, LoL_set]; exact q2
      · exact apart_of d1
      · exact apart_of (Ne.symm d1)
    · have hso := HSW.out
      exact below_over ((HB.out.trans (HB2.out.mono (by omega))).setCell (p := ⟨hi, k, none⟩) (by show w.heap.size ≤ hi; omega) _ |>.setCell (p := ⟨lo, k, none⟩) (by show w.heap.size ≤ lo; omega) _) (by omega) _ _
def FrV (w : World) (v : Value) (hs ls : List Int) : Prop := ∃ A n c A' m c', v = .agg #[.slice A n c, .slice A' m c'] ∧ Ints w w.heap.size A n hs ∧ Ints w w.heap.size A' m ls
theorem FrV.rows {w : World} {A A' : Option Addr} {n m c c' : Nat} {hs ls : List Int} (h : FrV w (.agg #[.slice A n c, .slice A' m c']) hs ls) : Ints w w.heap.size A n hs ∧ Ints w w.heap.size A' m ls := by
 obtain ⟨A2, n2, c2, A3, m3, c3, he, h1, h2⟩ := h
 injection he with he
 have e1 := congrArg (fun a => a.toList) he
 simp only [List.cons.injEq, Value.slice.injEq, and_true] at e1
 obtain ⟨⟨rfl, rfl, rfl⟩, rfl, rfl, rfl⟩ := e1
 exact ⟨h1, h2⟩
def allP (s : Int) (ds : List Int) (k : Nat) (N p : Int) : Option (List Int × Int) := (Fr.allF s (ds.length - k) (ds.drop k) N).map fun q => (ds.take k ++ q.1, p + q.2)
theorem allP_zero (s : Int) (ds : List Int) (N : Int) : allP s ds 0 N 0 = Fr.all s ds N := by
 unfold allP Fr.all
 rw [List.drop_zero, Nat.sub_zero]
 cases Fr.allF s ds.length ds N <;> simp
theorem allP_done (s : Int) (ds : List Int) (k : Nat) (p : Int) : allP s ds k 0 p = some (ds, p) := by
 unfold allP
 cases h : ds.length - k with
 | zero => simp [Fr.allF]
 | succ m => simp [Fr.allF]
theorem chg_upper (s : Int) (ds : List Int) : ∀ g r n, Fr.chg s ds g = some (r, n) → 0 ≤ n ∧ n ≤ 2 * ds.length := by
 induction ds with
 | nil =>
  intro g r n h
  simp only [Fr.chg] at h
  split at h
  ·simp at h; omega
  ·cases h
 | cons d ds ih =>
  intro g r n h
  simp only [Fr.chg] at h
  split at h
  ·simp at h; simp; omega
  ·split at h
   ·simp at h; have := cost_le d (d + s * g); simp; omega
   ·rw [Option.map_eq_some_iff] at h
    obtain ⟨⟨r', n'⟩, hr, h⟩ := h
    simp at h
    have := ih _ _ _ hr
    have := cost_le d (d + s * g - 10 * s)
    simp; omega
theorem chgAt_upper {s : Int} {ds : List Int} {k : Nat} {g : Int} {R : List Int × Int} (h : chgAt s ds k g = some R) : 0 ≤ R.2 ∧ R.2 ≤ 2 * ds.length := by
 unfold chgAt at h
 rw [Option.map_eq_some_iff] at h
 obtain ⟨⟨r', n'⟩, hr, h⟩ := h
 subst h
 have := chg_upper _ _ _ _ _ hr
 simp at this ⊢
 omega
theorem allP_none {s : Int} {ds : List Int} {k : Nat} {N p : Int} (hk : k < ds.length) (hN : N ≠ 0) (h : chgAt s ds k (N % 10) = none) : allP s ds k N p = none := by
 obtain ⟨m, hm⟩ : ∃ m, ds.length - k = m + 1 := ⟨ds.length - k - 1, by omega⟩
 unfold allP
 rw [hm]
 simp only [Fr.allF, if_neg hN]
 unfold chgAt at h
 rw [Option.map_eq_none_iff] at h
 rw [h]
 rfl
theorem allP_some {s : Int} (hs : Fr.Sgn s) {ds es : List Int} {k : Nat} {N p n : Int} (hd : Fr.Digs ds) (hk : k < ds.length) (hN : N ≠ 0) (h : chgAt s ds k (N % 10) = some (es, n)) : allP s ds k N p = allP s es (k + 1) (N / 10) (p + n) := by
 obtain ⟨m, hm⟩ : ∃ m, ds.length - k = m + 1 := ⟨ds.length - k - 1, by omega⟩
 have h' := h
 unfold chgAt at h'
 rw [Option.map_eq_some_iff] at h'
 obtain ⟨⟨r, n'⟩, hr, h'⟩ := h'
 simp only [Prod.mk.injEq] at h'
 obtain ⟨rfl, rfl⟩ := h'
 obtain ⟨c1, c2, _⟩ := Fr.chg_some s hs _ _ _ _ (digs_drop hd k) (Int.emod_nonneg N (by omega)) (by have := Int.emod_lt_of_pos N (b := 10) (by omega); omega) hr
 rw [List.length_drop] at c2
 cases r with
 | nil => simp at c2; omega
 | cons d1 ds1 =>
  have hl : (ds.take k).length = k := by rw [List.length_take]; omega
  have e1 : (ds.take k ++ d1 :: ds1).length - (k + 1) = m := by simp at c2 ⊢; omega
  have e2 : (ds.take k ++ d1 :: ds1).drop (k + 1) = ds1 := by
   rw [List.drop_append, hl, List.drop_of_length_le (by omega), List.nil_append, show k + 1 - k = 1 from by omega]; rfl
  have e3 : (ds.take k ++ d1 :: ds1).take (k + 1) = ds.take k ++ [d1] := by
   rw [List.take_append, hl, List.take_of_length_le (by omega), show k + 1 - k = 1 from by omega]; rfl
  unfold allP
  rw [e1, e2, e3, hm]
  simp only [Fr.allF, if_neg hN, hr]
  cases Fr.allF s m ds1 (N / 10) with
  | none => rfl
  | some q => simp; omega
def frBy (s : Int) (ds : List Int) (N : Int) : Option (List Int × Int) := if 0 ≤ N ∧ N < Fr.ten ds.length then Fr.all s ds N else none
theorem frBy_in {s : Int} {ds : List Int} {N : Int} (h : 0 ≤ N ∧ N < Fr.ten ds.length) : frBy s ds N = Fr.all s ds N := if_pos h
theorem frBy_out {s : Int} {ds : List Int} {N : Int} (h : ¬ (0 ≤ N ∧ N < Fr.ten ds.length)) : frBy s ds N = none := if_neg h
theorem changeByAdd_yes (A A' : Option Addr) (n c c' : Nat) (ds : List Int) (N : Int) (w : World) (hx : Ints w w.heap.size A n (HiL ds)) (hy : Ints w w.heap.size A' n (LoL ds)) (hds : Fr.Digs ds) (h1 : 1 ≤ n) (h6 : n ≤ 6) :
  Calls Tryz.prog 59 #[.agg #[.slice A n c, .slice A' n c'], .int .i64 N, .func (Fn.func 60) #[] #[]] w (FrRes w (frBy 1 ds N)) := by
 have hl : ds.length = n := by have := hx.len; rwa [HiL_length] at this
 have HL := Hd hl
 have HX := Hd hx
 have HY := Hd hy
 have HD := Hd hds
 obtain ⟨R, hR⟩ : ∃ R, frBy 1 ds N = R := ⟨_, rfl⟩
 rw [hR]
 have HE := Hd hR
 have hten := ten_bd n h6
 obtain ⟨T, hT⟩ : ∃ T, Fr.ten n = T := ⟨_, rfl⟩
 rw [hT] at hten
 obtain ⟨t0, t1⟩ := hten
 have HT := Hd hT
 clear hx hy hds hl hR hT
 have hpow : ∀ v, Calls Tryz.prog 56 #[.int .i64 (n : Int)] v fun e w' => e = .returned (.int .i64 T) ∧ v = w' := fun v => by rw [← HT.out]; exact powerOfTen_any n v h6
 have HP := Hd hpow
 clear hpow
 go_enter Tryz.func59, Tryz.ntmps59
 go_wp2_with fail
 refine (rodsOf_yes A A' n c c' ds _ ((HX.out.al _).al _) ((HY.out.al _).al _) HD.out h1 h6).mono ?_
 rintro e w1 ⟨⟨g, h, rfl, hr⟩, hb1⟩
 have hz := ((FBox.new (w.alloc (.cells #[.slice A n c, .slice A' n c'] 30)) (.slice none 0 0) (.slice none 0 0)).next hb1)
 have hz0 := hz.fst
 have hz1 := hz.snd
 have hf0 := hz.free 0
 have hf1 := hz.free 1
 have hsl := hr.slice
 rw [HL.out] at hsl
 simp only [World.size_alloc] at hz hz0 hz1 hf0 hf1
 have HZ := Hd hz
 have HB := Hd ((below_two w _ _).trans (hb1.mono (by simp; omega)))
 have HR := Hd hr
 clear hz hb1 hr
 have hhl := HR.out.hl
 have hgb := HR.out.2.2.2.1
 simp only [World.size_alloc] at hgb
 by_cases hin : 0 ≤ N ∧ N < T
 ·obtain ⟨N0, N1⟩ := hin
  have he := HE.out
  rw [frBy_in (by rw [HL.out, HT.out]; exact ⟨N0, N1⟩), ← allP_zero] at he
  have HA := Hd he
  clear he
  go_wp2_with fail
  refine (HP.out _).mono ?_
  rintro e w2 ⟨rfl, rfl⟩
  go_wp2_with fail
  have HG := Hd (World.grownBy.refl w1 (some h))
  go_loopw [1, 11, 12] (fun nv pv kv wr => ∃ (k : Nat) (M p : Int) (es : List Int), nv = .int .i64 M ∧ pv = .int .i64 p ∧ kv = .int .i64 (k : Int) ∧ k ≤ n ∧ 0 ≤ M ∧ M < Fr.ten (n - k) ∧ M ≤ 1000000 ∧ 0 ≤ p ∧ p ≤ 20 * k ∧ Rods wr (w.heap.size + 1 + 1) g h es ∧ Fr.Digs es ∧ es.length = n ∧ allP 1 es k M p = R ∧ w1.grownBy wr (some h)) (fun nv _ _ _ => (intOf nv).toNat)
  case atStart => exact ⟨0, N, 0, ds, rfl, rfl, rfl, by omega, N0, by rw [Nat.sub_zero, HT.out]; exact N1, by omega, by omega, by omega, by have := HR.out; simpa using this, HD.out, HL.out, HA.out, HG.out⟩
  case round =>
   clear HR HG HA hsl hz0 hz1 hf0 hf1
   obtain ⟨k, M, p, es, rfl, rfl, rfl, hk, M0, M1, M2, p0, p1, hr, hd, hl, hA, hg⟩ := hrel
   have HR := Hd hr
   have HD2 := Hd hd
   have HL2 := Hd hl
   have HA := Hd hA
   have HG := Hd hg
   have HM := Hd M1
   have hsl := hr.slice
   rw [hl] at hsl
   have HZ2 := Hd (HZ.out.grown hg (by intro e; injection e with e; omega))
   have z0 := HZ2.out.fst
   have z1 := HZ2.out.snd
   have f0 := HZ2.out.free 0
   have f1 := HZ2.out.free 1
   have HB2 := Hd (HB.out.grown hg HB.out.size (by rintro q ⟨⟩; omega))
   have hws := HB2.out.size
   clear hr hd hl hA hg M1
   by_cases hM : 0 < M
   ·have hkn : k < n := by
     rcases (show k < n ∨ k = n from by omega) with h | rfl
     ·exact h
     ·have h9 := HM.out; rw [Nat.sub_self] at h9; have h10 : Fr.ten 0 = 1 := rfl; omega
    have m0 : 0 ≤ M % 10 := Int.emod_nonneg M (by omega)
    have m9 : M % 10 ≤ 9 := by have := Int.emod_lt_of_pos M (b := 10) (by omega); omega
    have hcall := add_any wr _ g h es n k (M % 10) HR.out HD2.out HL2.out h6 m0 m9 (by omega)
    obtain ⟨Q, hQ⟩ : ∃ Q, chgAt 1 es k (M % 10) = Q := ⟨_, rfl⟩
    rw [hQ] at hcall
    have HC := Hd hcall
    have HQ := Hd hQ
    clear hcall hQ
    rcases Q with _ | ⟨es0, n0⟩
    ·have he := HA.out
     rw [allP_none (by rw [HL2.out]; exact hkn) (by omega) HQ.out] at he
     subst he
     go_wp2_with fail
     refine HC.out.mono ?_
     rintro e w2 ⟨⟨es, hr2, hd2, hl2, rfl, -⟩, hg2⟩
     have HZ3 := Hd (HZ2.out.grown hg2 (by intro e; injection e with e; omega))
     have z30 := HZ3.out.fst
     have z31 := HZ3.out.snd
     have f30 := HZ3.out.free 0
     have f31 := HZ3.out.free 1
     have HB3 := Hd (HB2.out.grown hg2 HB2.out.size (by rintro q ⟨⟩; omega))
     clear hr2 hg2 hl2 z0 z1 f0 f1
     go_wp2
     exact bodyPost_ret (v := .tuple #[.agg #[.slice none 0 0, .slice none 0 0], .int .i64 0, .bool false]) (by simp [results, Tryz.results59, go_sem, over_fst HZ3.out, over_snd HZ3.out]) rfl (FrRes.none_ (below_over HB3.out (by omega) _ _))
    ·have hup := chgAt_upper HQ.out
     rw [HL2.out] at hup
     simp only at hup
     obtain ⟨u0, u1⟩ := hup
     have u2 : n0 ≤ 12 := by omega
     go_wp2_with fail
     refine HC.out.mono ?_
     rintro e w2 ⟨⟨es2, hr2, hd2, hl2, rfl, hes⟩, hg2⟩
     obtain rfl : es0 = es2 := hes _ rfl
     have HR3 := Hd hr2
     have HD3 := Hd hd2
     have HL3 := Hd hl2
     have HG3 := Hd (HG.out.trans hg2)
     clear hr2 hg2 hl2 hes hd2 z0 z1 f0 f1 u1
     go_wp2
     go_roundw
     case rel =>
      have hA := HA.out
      rw [allP_some (.inl rfl) HD2.out (by rw [HL2.out]; exact hkn) (by omega) HQ.out] at hA
      refine ⟨k + 1, M / 10, p + n0, es0, by go_num, by go_num, by go_num, by omega, by omega, ?_, by omega, by omega, by omega, HR3.out, HD3.out, HL3.out, hA, HG3.out⟩
      have h9 := HM.out
      rw [show n - k = n - (k + 1) + 1 from by omega, Fr.ten_succ] at h9
      omega
     case measure => simp [intOf]; omega
   ·obtain rfl : M = 0 := by omega
    have he := HA.out
    rw [allP_done] at he
    subst he
    go_wp2_with fail
    refine (frame_any wr _ g h es n HR.out HL2.out HD2.out h6).mono ?_
    rintro e w3 ⟨⟨v, rfl, ho⟩, hb3⟩
    have hos := ho.mono (show w.heap.size + 2 ≤ wr.heap.size by have := HR.out.hl; omega)
    obtain ⟨A2, c2, A3, c3, rfl, -⟩ := ho
    have HO := Hd hos
    have HZ3 := Hd (HZ2.out.next hb3)
    have z30 := HZ3.out.fst
    have z31 := HZ3.out.snd
    have f30 := HZ3.out.free 0
    have f31 := HZ3.out.free 1
    have HB3 := Hd (below_chain HB2.out hb3)
    clear hb3 hos z0 z1 f0 f1
    go_wp2
    refine bodyPost_ret (v := .tuple #[.agg #[.slice A2 es.length c2, .slice A3 es.length c3], .int .i64 p, .bool true]) (by simp [results, Tryz.results59, go_sem, over_fst HZ3.out, over_snd HZ3.out]) rfl ⟨⟨_, rfl, ?_⟩, below_over HB3.out (by omega) _ _⟩
    exact (HO.out.over (by omega) _ _).mono (by omega)
 ·have he := HE.out
  rw [frBy_out (by rw [HL.out, HT.out]; exact hin)] at he
  subst he
  rcases (show N < 0 ∨ (0 ≤ N ∧ T ≤ N) from by omega) with q1 | ⟨q1, q2⟩
  ·clear hin
   go_wp2
   exact bodyPost_ret (v := .tuple #[.agg #[.slice none 0 0, .slice none 0 0], .int .i64 0, .bool false]) (by simp [results, Tryz.results59, go_sem, over_fst HZ.out, over_snd HZ.out]) rfl (FrRes.none_ (below_over HB.out (by omega) _ _))
  ·clear hin
   go_wp2_with fail
   refine (HP.out _).mono ?_
   rintro e w2 ⟨rfl, rfl⟩
   go_wp2
   exact bodyPost_ret (v := .tuple #[.agg #[.slice none 0 0, .slice none 0 0], .int .i64 0, .bool false]) (by simp [results, Tryz.results59, go_sem, over_fst HZ.out, over_snd HZ.out]) rfl (FrRes.none_ (below_over HB.out (by omega) _ _))
theorem changeByAdd_no (A A' : Option Addr) (n m c c' : Nat) (hs ls : List Int) (N : Int) (w : World) (hx : Ints w w.heap.size A n hs) (hy : Ints w w.heap.size A' m ls) (hno : ¬ FrOk hs ls) :
  Calls Tryz.prog 59 #[.agg #[.slice A n c, .slice A' m c'], .int .i64 N, .func (Fn.func 60) #[] #[]] w (FrRes w none) := by
 have HX := Hd hx
 have HY := Hd hy
 have HN := Hd hno
 clear hx hy hno
 go_enter Tryz.func59, Tryz.ntmps59
 go_wp2_with fail
 refine (rodsOf_no A A' n m c c' hs ls _ ((HX.out.al _).al _) ((HY.out.al _).al _) HN.out).mono ?_
 rintro e w1 ⟨rfl, hb1⟩
 have hz := ((FBox.new (w.alloc (.cells #[.slice A n c, .slice A' m c'] 30)) (.slice none 0 0) (.slice none 0 0)).next hb1)
 have hz0 := hz.fst
 have hz1 := hz.snd
 have hf0 := hz.free 0
 have hf1 := hz.free 1
 simp only [World.size_alloc] at hz hz0 hz1 hf0 hf1
 have HZ := Hd hz
 have HB := Hd ((below_two w _ _).trans (hb1.mono (by simp; omega)))
 clear hz hb1
 go_wp2
 exact bodyPost_ret (v := .tuple #[.agg #[.slice none 0 0, .slice none 0 0], .int .i64 0, .bool false]) (by simp [results, Tryz.results59, go_sem, over_fst HZ.out, over_snd HZ.out]) rfl (FrRes.none_ (below_over HB.out (by omega) _ _))
theorem changeByAdd_any (A A' : Option Addr) (n m c c' : Nat) (hs ls : List Int) (N : Int) (R : Option (List Int × Int)) (w : World) (hx : Ints w w.heap.size A n hs) (hy : Ints w w.heap.size A' m ls) (hR : frOf hs ls (fun ds => frBy 1 ds N) R) :
  Calls Tryz.prog 59 #[.agg #[.slice A n c, .slice A' m c'], .int .i64 N, .func (Fn.func 60) #[] #[]] w (FrRes w R) := by
 rcases hR with ⟨hno, rfl⟩ | ⟨ds, hd, rfl, rfl, h1, h6, rfl⟩
 ·exact changeByAdd_no A A' n m c c' hs ls N w hx hy hno
 ·have e1 := hx.len
  have e2 := hy.len
  rw [HiL_length] at e1
  rw [LoL_length] at e2
  subst e1
  subst e2
  exact changeByAdd_yes A A' _ c c' ds N w hx hy hd h1 h6
theorem FrameSum_any (A A' : Option Addr) (n m c c' : Nat) (hs ls : List Int) (N : Int) (R : Option (List Int × Int)) (w : World) (hx : Ints w w.heap.size A n hs) (hy : Ints w w.heap.size A' m ls) (hR : frOf hs ls (fun ds => frBy 1 ds N) R) :
  Calls Tryz.prog 19 #[.agg #[.slice A n c, .slice A' m c'], .int .i64 N] w (FrRes w R) := by
 have HX := Hd hx
 have HY := Hd hy
 have HE := Hd hR
 clear hx hy hR
 go_enter Tryz.func19, Tryz.ntmps19
 go_wp2_with fail
 refine (changeByAdd_any A A' n m c c' hs ls N R _ ((HX.out.al _).al _) ((HY.out.al _).al _) HE.out).mono ?_
 rintro e w1 ⟨⟨v, rfl, ho⟩, hb1⟩
 have hz := ((FBox.new (w.alloc (.cells #[.slice A n c, .slice A' m c'] 30)) (.slice none 0 0) (.slice none 0 0)).next hb1)
 have hz0 := hz.fst
 have hz1 := hz.snd
 have hf0 := hz.free 0
 have hf1 := hz.free 1
 simp only [World.size_alloc] at hz hz0 hz1 hf0 hf1 ho
 have HZ := Hd hz
 have HB := Hd ((below_two w _ _).trans (hb1.mono (by simp; omega)))
 have HO := Hd ho
 obtain ⟨A2, c2, A3, c3, rfl, -⟩ := ho
 clear hz hb1
 go_wp2
 refine bodyPost_ret (v := .tuple #[.agg #[.slice A2 (resL R).length c2, .slice A3 (resL R).length c3], .int .i64 (resN R), .bool R.isSome]) (by simp [results, Tryz.results19, go_sem, over_fst HZ.out, over_snd HZ.out]) rfl ⟨⟨_, rfl, ?_⟩, below_over HB.out (by omega) _ _⟩
 exact (HO.out.over (by omega) _ _).mono (by omega)
theorem changeByTake_yes (A A' : Option Addr) (n c c' : Nat) (ds : List Int) (N : Int) (w : World) (hx : Ints w w.heap.size A n (HiL ds)) (hy : Ints w w.heap.size A' n (LoL ds)) (hds : Fr.Digs ds) (h1 : 1 ≤ n) (h6 : n ≤ 6) :
  Calls Tryz.prog 59 #[.agg #[.slice A n c, .slice A' n c'], .int .i64 N, .func (Fn.func 61) #[] #[]] w (FrRes w (frBy (-1) ds N)) := by
 have hl : ds.length = n := by have := hx.len; rwa [HiL_length] at this
 have HL := Hd hl
 have HX := Hd hx
 have HY := Hd hy
 have HD := Hd hds
 obtain ⟨R, hR⟩ : ∃ R, frBy (-1) ds N = R := ⟨_, rfl⟩
 rw [hR]
 have HE := Hd hR
 have hten := ten_bd n h6
 obtain ⟨T, hT⟩ : ∃ T, Fr.ten n = T := ⟨_, rfl⟩
 rw [hT] at hten
 obtain ⟨t0, t1⟩ := hten
 have HT := Hd hT
 clear hx hy hds hl hR hT
 have hpow : ∀ v, Calls Tryz.prog 56 #[.int .i64 (n : Int)] v fun e w' => e = .returned (.int .i64 T) ∧ v = w' := fun v => by rw [← HT.out]; exact powerOfTen_any n v h6
 have HP := Hd hpow
 clear hpow
 go_enter Tryz.func59, Tryz.ntmps59
 go_wp2_with fail
 refine (rodsOf_yes A A' n c c' ds _ ((HX.out.al _).al _) ((HY.out.al _).al _) HD.out h1 h6).mono ?_
 rintro e w1 ⟨⟨g, h, rfl, hr⟩, hb1⟩
 have hz := ((FBox.new (w.alloc (.cells #[.slice A n c, .slice A' n c'] 30)) (.slice none 0 0) (.slice none 0 0)).next hb1)
 have hz0 := hz.fst
 have hz1 := hz.snd
 have hf0 := hz.free 0
 have hf1 := hz.free 1
 have hsl := hr.slice
 rw [HL.out] at hsl
 simp only [World.size_alloc] at hz hz0 hz1 hf0 hf1
 have HZ := Hd hz
 have HB := Hd ((below_two w _ _).trans (hb1.mono (by simp; omega)))
 have HR := Hd hr
 clear hz hb1 hr
 have hhl := HR.out.hl
 have hgb := HR.out.2.2.2.1
 simp only [World.size_alloc] at hgb
 by_cases hin : 0 ≤ N ∧ N < T
 ·obtain ⟨N0, N1⟩ := hin
  have he := HE.out
  rw [frBy_in (by rw [HL.out, HT.out]; exact ⟨N0, N1⟩), ← allP_zero] at he
  have HA := Hd he
  clear he
  go_wp2_with fail
  refine (HP.out _).mono ?_
  rintro e w2 ⟨rfl, rfl⟩
  go_wp2_with fail
  have HG := Hd (World.grownBy.refl w1 (some h))
  go_loopw [1, 11, 12] (fun nv pv kv wr => ∃ (k : Nat) (M p : Int) (es : List Int), nv = .int .i64 M ∧ pv = .int .i64 p ∧ kv = .int .i64 (k : Int) ∧ k ≤ n ∧ 0 ≤ M ∧ M < Fr.ten (n - k) ∧ M ≤ 1000000 ∧ 0 ≤ p ∧ p ≤ 20 * k ∧ Rods wr (w.heap.size + 1 + 1) g h es ∧ Fr.Digs es ∧ es.length = n ∧ allP (-1) es k M p = R ∧ w1.grownBy wr (some h)) (fun nv _ _ _ => (intOf nv).toNat)
  case atStart => exact ⟨0, N, 0, ds, rfl, rfl, rfl, by omega, N0, by rw [Nat.sub_zero, HT.out]; exact N1, by omega, by omega, by omega, by have := HR.out; simpa using this, HD.out, HL.out, HA.out, HG.out⟩
  case round =>
   clear HR HG HA hsl hz0 hz1 hf0 hf1
   obtain ⟨k, M, p, es, rfl, rfl, rfl, hk, M0, M1, M2, p0, p1, hr, hd, hl, hA, hg⟩ := hrel
   have HR := Hd hr
   have HD2 := Hd hd
   have HL2 := Hd hl
   have HA := Hd hA
   have HG := Hd hg
   have HM := Hd M1
   have hsl := hr.slice
   rw [hl] at hsl
   have HZ2 := Hd (HZ.out.grown hg (by intro e; injection e with e; omega))
   have z0 := HZ2.out.fst
   have z1 := HZ2.out.snd
   have f0 := HZ2.out.free 0
   have f1 := HZ2.out.free 1
   have HB2 := Hd (HB.out.grown hg HB.out.size (by rintro q ⟨⟩; omega))
   have hws := HB2.out.size
   clear hr hd hl hA hg M1
   by_cases hM : 0 < M
   ·have hkn : k < n := by
     rcases (show k < n ∨ k = n from by omega) with h | rfl
     ·exact h
     ·have h9 := HM.out; rw [Nat.sub_self] at h9; have h10 : Fr.ten 0 = 1 := rfl; omega
    have m0 : 0 ≤ M % 10 := Int.emod_nonneg M (by omega)
    have m9 : M % 10 ≤ 9 := by have := Int.emod_lt_of_pos M (b := 10) (by omega); omega
    have hcall := take_any wr _ g h es n k (M % 10) HR.out HD2.out HL2.out h6 m0 m9 (by omega)
    obtain ⟨Q, hQ⟩ : ∃ Q, chgAt (-1) es k (M % 10) = Q := ⟨_, rfl⟩
    rw [hQ] at hcall
    have HC := Hd hcall
    have HQ := Hd hQ
    clear hcall hQ
    rcases Q with _ | ⟨es0, n0⟩
    ·have he := HA.out
     rw [allP_none (by rw [HL2.out]; exact hkn) (by omega) HQ.out] at he
     subst he
     go_wp2_with fail
     refine HC.out.mono ?_
     rintro e w2 ⟨⟨es, hr2, hd2, hl2, rfl, -⟩, hg2⟩
     have HZ3 := Hd (HZ2.out.grown hg2 (by intro e; injection e with e; omega))
     have z30 := HZ3.out.fst
     have z31 := HZ3.out.snd
     have f30 := HZ3.out.free 0
     have f31 := HZ3.out.free 1
     have HB3 := Hd (HB2.out.grown hg2 HB2.out.size (by rintro q ⟨⟩; omega))
     clear hr2 hg2 hl2 z0 z1 f0 f1
     go_wp2
     exact bodyPost_ret (v := .tuple #[.agg #[.slice none 0 0, .slice none 0 0], .int .i64 0, .bool false]) (by simp [results, Tryz.results59, go_sem, over_fst HZ3.out, over_snd HZ3.out]) rfl (FrRes.none_ (below_over HB3.out (by omega) _ _))
    ·have hup := chgAt_upper HQ.out
     rw [HL2.out] at hup
     simp only at hup
     obtain ⟨u0, u1⟩ := hup
     have u2 : n0 ≤ 12 := by omega
     go_wp2_with fail
     refine HC.out.mono ?_
     rintro e w2 ⟨⟨es2, hr2, hd2, hl2, rfl, hes⟩, hg2⟩
     obtain rfl : es0 = es2 := hes _ rfl
     have HR3 := Hd hr2
     have HD3 := Hd hd2
     have HL3 := Hd hl2
     have HG3 := Hd (HG.out.trans hg2)
     clear hr2 hg2 hl2 hes hd2 z0 z1 f0 f1 u1
     go_wp2
     go_roundw
     case rel =>
      have hA := HA.out
      rw [allP_some (.inr rfl) HD2.out (by rw [HL2.out]; exact hkn) (by omega) HQ.out] at hA
      refine ⟨k + 1, M / 10, p + n0, es0, by go_num, by go_num, by go_num, by omega, by omega, ?_, by omega, by omega, by omega, HR3.out, HD3.out, HL3.out, hA, HG3.out⟩
      have h9 := HM.out
      rw [show n - k = n - (k + 1) + 1 from by omega, Fr.ten_succ] at h9
      omega
     case measure => simp [intOf]; omega
   ·obtain rfl : M = 0 := by omega
    have he := HA.out
    rw [allP_done] at he
    subst he
    go_wp2_with fail
    refine (frame_any wr _ g h es n HR.out HL2.out HD2.out h6).mono ?_
    rintro e w3 ⟨⟨v, rfl, ho⟩, hb3⟩
    have hos := ho.mono (show w.heap.size + 2 ≤ wr.heap.size by have := HR.out.hl; omega)
    obtain ⟨A2, c2, A3, c3, rfl, -⟩ := ho
    have HO := Hd hos
    have HZ3 := Hd (HZ2.out.next hb3)
    have z30 := HZ3.out.fst
    have z31 := HZ3.out.snd
    have f30 := HZ3.out.free 0
    have f31 := HZ3.out.free 1
    have HB3 := Hd (below_chain HB2.out hb3)
    clear hb3 hos z0 z1 f0 f1
    go_wp2
    refine bodyPost_ret (v := .tuple #[.agg #[.slice A2 es.length c2, .slice A3 es.length c3], .int .i64 p, .bool true]) (by simp [results, Tryz.results59, go_sem, over_fst HZ3.out, over_snd HZ3.out]) rfl ⟨⟨_, rfl, ?_⟩, below_over HB3.out (by omega) _ _⟩
    exact (HO.out.over (by omega) _ _).mono (by omega)
 ·have he := HE.out
  rw [frBy_out (by rw [HL.out, HT.out]; exact hin)] at he
  subst he
  rcases (show N < 0 ∨ (0 ≤ N ∧ T ≤ N) from by omega) with q1 | ⟨q1, q2⟩
  ·clear hin
   go_wp2
   exact bodyPost_ret (v := .tuple #[.agg #[.slice none 0 0, .slice none 0 0], .int .i64 0, .bool false]) (by simp [results, Tryz.results59, go_sem, over_fst HZ.out, over_snd HZ.out]) rfl (FrRes.none_ (below_over HB.out (by omega) _ _))
  ·clear hin
   go_wp2_with fail
   refine (HP.out _).mono ?_
   rintro e w2 ⟨rfl, rfl⟩
   go_wp2
   exact bodyPost_ret (v := .tuple #[.agg #[.slice none 0 0, .slice none 0 0], .int .i64 0, .bool false]) (by simp [results, Tryz.results59, go_sem, over_fst HZ.out, over_snd HZ.out]) rfl (FrRes.none_ (below_over HB.out (by omega) _ _))
theorem changeByTake_no (A A' : Option Addr) (n m c c' : Nat) (hs ls : List Int) (N : Int) (w : World) (hx : Ints w w.heap.size A n hs) (hy : Ints w w.heap.size A' m ls) (hno : ¬ FrOk hs ls) :
  Calls Tryz.prog 59 #[.agg #[.slice A n c, .slice A' m c'], .int .i64 N, .func (Fn.func 61) #[] #[]] w (FrRes w none) := by
 have HX := Hd hx
 have HY := Hd hy
 have HN := Hd hno
 clear hx hy hno
 go_enter Tryz.func59, Tryz.ntmps59
 go_wp2_with fail
 refine (rodsOf_no A A' n m c c' hs ls _ ((HX.out.al _).al _) ((HY.out.al _).al _) HN.out).mono ?_
 rintro e w1 ⟨rfl, hb1⟩
 have hz := ((FBox.new (w.alloc (.cells #[.slice A n c, .slice A' m c'] 30)) (.slice none 0 0) (.slice none 0 0)).next hb1)
 have hz0 := hz.fst
 have hz1 := hz.snd
 have hf0 := hz.free 0
 have hf1 := hz.free 1
 simp only [World.size_alloc] at hz hz0 hz1 hf0 hf1
 have HZ := Hd hz
 have HB := Hd ((below_two w _ _).trans (hb1.mono (by simp; omega)))
 clear hz hb1
 go_wp2
 exact bodyPost_ret (v := .tuple #[.agg #[.slice none 0 0, .slice none 0 0], .int .i64 0, .bool false]) (by simp [results, Tryz.results59, go_sem, over_fst HZ.out, over_snd HZ.out]) rfl (FrRes.none_ (below_over HB.out (by omega) _ _))
theorem changeByTake_any (A A' : Option Addr) (n m c c' : Nat) (hs ls : List Int) (N : Int) (R : Option (List Int × Int)) (w : World) (hx : Ints w w.heap.size A n hs) (hy : Ints w w.heap.size A' m ls) (hR : frOf hs ls (fun ds => frBy (-1) ds N) R) :
  Calls Tryz.prog 59 #[.agg #[.slice A n c, .slice A' m c'], .int .i64 N, .func (Fn.func 61) #[] #[]] w (FrRes w R) := by
 rcases hR with ⟨hno, rfl⟩ | ⟨ds, hd, rfl, rfl, h1, h6, rfl⟩
 ·exact changeByTake_no A A' n m c c' hs ls N w hx hy hno
 ·have e1 := hx.len
  have e2 := hy.len
  rw [HiL_length] at e1
  rw [LoL_length] at e2
  subst e1
  subst e2
  exact changeByTake_yes A A' _ c c' ds N w hx hy hd h1 h6
theorem FrameLess_any (A A' : Option Addr) (n m c c' : Nat) (hs ls : List Int) (N : Int) (R : Option (List Int × Int)) (w : World) (hx : Ints w w.heap.size A n hs) (hy : Ints w w.heap.size A' m ls) (hR : frOf hs ls (fun ds => frBy (-1) ds N) R) :
  Calls Tryz.prog 20 #[.agg #[.slice A n c, .slice A' m c'], .int .i64 N] w (FrRes w R) := by
 have HX := Hd hx
 have HY := Hd hy
 have HE := Hd hR
 clear hx hy hR
 go_enter Tryz.func20, Tryz.ntmps20
 go_wp2_with fail
 refine (changeByTake_any A A' n m c c' hs ls N R _ ((HX.out.al _).al _) ((HY.out.al _).al _) HE.out).mono ?_
 rintro e w1 ⟨⟨v, rfl, ho⟩, hb1⟩
 have hz := ((FBox.new (w.alloc (.cells #[.slice A n c, .slice A' m c'] 30)) (.slice none 0 0) (.slice none 0 0)).next hb1)
 have hz0 := hz.fst
 have hz1 := hz.snd
 have hf0 := hz.free 0
 have hf1 := hz.free 1
 simp only [World.size_alloc] at hz hz0 hz1 hf0 hf1 ho
 have HZ := Hd hz
 have HB := Hd ((below_two w _ _).trans (hb1.mono (by simp; omega)))
 have HO := Hd ho
 obtain ⟨A2, c2, A3, c3, rfl, -⟩ := ho
 clear hz hb1
 go_wp2
 refine bodyPost_ret (v := .tuple #[.agg #[.slice A2 (resL R).length c2, .slice A3 (resL R).length c3], .int .i64 (resN R), .bool R.isSome]) (by simp [results, Tryz.results20, go_sem, over_fst HZ.out, over_snd HZ.out]) rfl ⟨⟨_, rfl, ?_⟩, below_over HB.out (by omega) _ _⟩
 exact (HO.out.over (by omega) _ _).mono (by omega)
theorem frAt_next {s : Int} {es : List Int} {k : Nat} (hk : k ≤ es.length) : frAt s es (k : Int) 1 = chgAt s es k 1 := by
 by_cases h : k < es.length
 ·exact frAt_in s es k 1 h (by omega) (by omega)
 ·rw [frAt_out _ _ _ _ (by omega)]
  have := chgP_out s es k 1 0 (by omega) (by omega)
  rw [chgP_zero] at this
  exact this.symm
theorem chgP_map {s : Int} {ds : List Int} {k : Nat} {g p : Int} {R : Option (List Int × Int)} (h : chgAt s ds k g = R) : chgP s ds k g p = R.map fun q => (q.1, p + q.2) := by rw [chgP, h]
def SG (W : World) (r : Nat) (w : World) : Prop := W.grownBy w (some r)
theorem SG.refl (W : World) (r : Nat) : SG W r W := World.grownBy.refl W _
theorem SG.drew {W w : World} {r : Nat} (h : SG W r w) : SG W r w.drew := grown_drew h
theorem SG.below {W w w' : World} {r : Nat} (h : SG W r w) (hb : Below w.heap.size w w') : SG W r w' := World.grownBy.trans h (grown_of_below hb _)
theorem SG.set2 {W w : World} {r : Nat} (h : SG W r w) (u v : Value) : SG W r ((w.setCell ⟨r, 0, none⟩ u).setCell ⟨r, 1, none⟩ v) := (World.grownBy.trans h (grown_set r 0 u)).trans (grown_set r 1 v)
theorem SG.base {w0 W w : World} {r : Nat} (hb : Below w0.heap.size w0 W) (h : SG W r w) (hr : w0.heap.size ≤ r) : Below w0.heap.size w0 w := hb.grown h hb.size (by rintro q ⟨⟩; exact hr)
theorem SB.below {W w w' : World} (h : SB W w) (hb : Below w.heap.size w w') : SB W w' := below_chain h hb
theorem _root_.Go.RowKit.Below.drew_ {w w' : World} (h : Below w.drew.heap.size w.drew w') : Below w.heap.size w w' := ⟨h.os, h.tape, h.output, h.size, h.block⟩
theorem frAt_upper {s : Int} {ds : List Int} {k x : Int} {R : List Int × Int} (h : frAt s ds k x = some R) : 0 ≤ R.2 ∧ R.2 ≤ 2 * ds.length := by
 unfold frAt at h
 split at h
 ·exact chgAt_upper h
 ·cases h
theorem cell_of_new {X : World} {b j : Nat} {cs : Array Value} {t : TypeId} {v : Value} (hb : X.heap.size = b) (hv : cs[j]? = some v) : (X.alloc (.cells cs t)).drew.cell? ⟨b, j, none⟩ = some v := by
 subst hb
 show (X.alloc (.cells cs t)).cell? _ = _
 rw [cell_of_row _ X.heap.size j _ _ _ (heap_alloc_new X _)]
 exact hv
theorem FrRes.out_ {w w' : World} {R : Option (List Int × Int)} {e : Ending} (h : FrRes w R e w') : ∃ A c A' c', e = .returned (.tuple #[.agg #[.slice A (resL R).length c, .slice A' (resL R).length c'], .int .i64 (resN R), .bool R.isSome]) ∧ FrOwn w' w.heap.size (.agg #[.slice A (resL R).length c, .slice A' (resL R).length c']) (resL R) ∧ Below w.heap.size w w' := by
 obtain ⟨⟨v, rfl, ho⟩, hb⟩ := h
 have ho' := ho
 obtain ⟨A, c, A', c', rfl, -⟩ := ho'
 exact ⟨A, c, A', c', rfl, ho, hb⟩
theorem FrOwn.ints {w : World} {B n m c c' : Nat} {A A' : Option Addr} {ds : List Int} (h : FrOwn w B (.agg #[.slice A n c, .slice A' m c']) ds) : n = ds.length ∧ m = ds.length ∧ Ints w w.heap.size A n (HiL ds) ∧ Ints w w.heap.size A' m (LoL ds) := by
 obtain ⟨A2, c2, A3, c3, he, h1, h2, _⟩ := h
 injection he with he
 have e1 := congrArg (fun a => a.toList) he
 simp only [List.cons.injEq, Value.slice.injEq, and_true] at e1
 obtain ⟨⟨rfl, rfl, rfl⟩, rfl, rfl, rfl⟩ := e1
 exact ⟨rfl, rfl, h1.ints, h2.ints⟩
set_option maxHeartbeats 8000000 in
theorem l5ChangeAdd_yes (m : Nat) : ∀ (A A' : Option Addr) (n c c' : Nat) (ds : List Int) (k x : Int) (w : World), Ints w w.heap.size A n (HiL ds) → Ints w w.heap.size A' n (LoL ds) → Fr.Digs ds → 1 ≤ n → n ≤ 6 → ((n : Int) - k).toNat = m →
  Calls Tryz.prog 212 #[.agg #[.slice A n c, .slice A' n c'], .int .i64 k, .int .i64 x, .int .i64 1] w (FrRes w (frAt 1 ds k x)) := by
 induction m using Nat.strongRecOn with
 | ind m ih =>
  intro A A' n c c' ds k x w hx hy hds h1 h6 hm
  have IH := Hd ih
  have hl : ds.length = n := by have := hx.len; rwa [HiL_length] at this
  have HL := Hd hl
  have HX := Hd hx
  have HY := Hd hy
  have HD := Hd hds
  obtain ⟨R, hR⟩ : ∃ R, frAt 1 ds k x = R := ⟨_, rfl⟩
  rw [hR]
  have HE := Hd hR
  have HM := Hd hm
  clear hx hy hds hl hR ih hm
  go_enter Tryz.func212, Tryz.ntmps212
  go_wp2_with fail
  refine (specFrameValid_yes A A' n c c' ds _ ((HX.out.al _).al _) ((HY.out.al _).al _) HD.out h1 h6).mono ?_
  rintro e w1 ⟨rfl, hb1⟩
  have hz := ((FBox.new (w.alloc (.cells #[.slice A n c, .slice A' n c'] 30)) (.slice none 0 0) (.slice none 0 0)).next hb1)
  have hv := ((FBox.new w (.slice A n c) (.slice A' n c')).alloc (.cells #[.slice none 0 0, .slice none 0 0] 30)).next hb1
  simp only [World.size_alloc] at hz
  have hz0 := hz.fst
  have hz1 := hz.snd
  have hf0 := hz.free 0
  have hf1 := hz.free 1
  have hv0 := hv.fst
  have hv1 := hv.snd
  have HX1 := Hd (((HX.out.al _).al _).next hb1)
  have HY1 := Hd (((HY.out.al _).al _).next hb1)
  have HZ := Hd hz
  have HV := Hd hv
  have HB := Hd ((below_two w _ _).trans (hb1.mono (by simp; omega)))
  have hws : w.heap.size + 1 + 1 ≤ w1.heap.size := by have := hb1.size; simpa using this
  clear hz hv hb1
  by_cases hin : 0 ≤ k ∧ k < (n : Int) ∧ 0 ≤ x ∧ x ≤ 9
  ·obtain ⟨k0, k1, x0, x9⟩ := hin
   obtain ⟨j, rfl⟩ := Int.eq_ofNat_of_zero_le k0
   have hj : j < n := by omega
   obtain ⟨d, hd⟩ : ∃ d, ds[j]? = some d := ⟨_, List.getElem?_eq_getElem (by have := HL.out; omega)⟩
   obtain ⟨d0, d9⟩ := HD.out d (List.mem_of_getElem? hd)
   have he := HE.out
   rw [frAt_in _ _ _ _ (by have := HL.out; omega) x0 x9, ← chgP_zero] at he
   have HE2 := Hd he
   have HDD := Hd hd
   have hdig : ∀ v, Ints v v.heap.size A n (HiL ds) → Ints v v.heap.size A' n (LoL ds) → Calls Tryz.prog 211 #[.agg #[.slice A n c, .slice A' n c'], .int .i64 (j : Int)] v fun e w' => e = .returned (.int .i64 d) ∧ Below v.heap.size v w' :=
    fun v h2 h3 => specFrameDigit_any A A' n n c c' (HiL ds) (LoL ds) j d v h2 h3 (.inr ⟨ds, HD.out, rfl, rfl, by have := HL.out; omega, by have := HL.out; omega, (digAt_in HDD.out).symm⟩)
   have HDG := Hd hdig
   clear HE he hd hdig
   have l3 : (decide (0 ≤ x) && decide (x ≤ 9)) = true := by simp [x0, x9]
   go_wp2_with fail
   refine (l6In_yes (by omega) (by omega) _).mono ?_
   rintro e w' ⟨rfl, rfl⟩
   go_wp2_with fail
   refine (fr_l3Digit_is l3 _).mono ?_
   rintro e w' ⟨rfl, rfl⟩
   clear l3
   by_cases hx0 : x = 0
   ·subst hx0
    have he := HE2.out
    rw [chgP_done] at he
    subst he
    have hdx : ds.set j d = ds := by
     apply List.ext_getElem?
     intro i
     by_cases h : j = i
     ·subst h; rw [List.getElem?_set_self (by have := HL.out; omega), HDD.out]
     ·rw [List.getElem?_set_ne h]
    have HDX := Hd hdx
    have hwl : w.heap.size < w1.heap.size := by omega
    have hwl1 : w.heap.size + 1 < w1.heap.size := by omega
    have KS : Hid (∀ w', SG w1 (w.heap.size + 1) w' → (w'.cell? ⟨w.heap.size, 0, none⟩ = some (.slice A n c) ∧ w'.cell? ⟨w.heap.size, 1, none⟩ = some (.slice A' n c') ∧ SG w1 (w.heap.size + 1) w')) :=
     Hd fun w' h => ⟨(World.cell?_of_block (a := ⟨w.heap.size, 0, none⟩) (World.grownBy.block h w.heap.size hwl (by simp))).trans hv0, (World.cell?_of_block (a := ⟨w.heap.size, 1, none⟩) (World.grownBy.block h w.heap.size hwl (by simp))).trans hv1, h⟩
    have HIX : Hid (∀ v, SG w1 (w.heap.size + 1) v → Ints v v.heap.size A n (HiL ds)) := Hd fun v h => (HX.out.below (SG.base HB.out h (by omega))).mono (SG.base HB.out h (by omega)).size
    have HIY : Hid (∀ v, SG w1 (w.heap.size + 1) v → Ints v v.heap.size A' n (LoL ds)) := Hd fun v h => (HY.out.below (SG.base HB.out h (by omega))).mono (SG.base HB.out h (by omega)).size
    have hsb := SG.refl w1 (w.heap.size + 1)
    clear hdx
    go_wp2_with fail
    go_region_held3 (fun w' => w'.cell? ⟨w.heap.size, 0, none⟩ = some (.slice A n c) ∧ w'.cell? ⟨w.heap.size, 1, none⟩ = some (.slice A' n c') ∧ SG w1 (w.heap.size + 1) w')
     (first
      | ((try go_split_ands); refine KS.out _ ?_; first | assumption | (exact SG.drew (by assumption)) | (exact SG.set2 (by assumption) _ _)))
     (first
      | (go_at_call 211; (try go_split_ands); (refine (HDG.out _ (HIX.out _ (by assumption)) (HIY.out _ (by assumption))).mono ?_; rintro e w2 ⟨rfl, hb2⟩; have hs2 : SG w1 (w.heap.size + 1) w2 := SG.below (by assumption) hb2; have hy2 := hs2.size))
      | (go_at_call 210; (try go_split_ands); (refine (l5Set_any A A' n c c' ds j d _ (HIX.out _ (by assumption)) (HIY.out _ (by assumption)) hj h6 d0 d9).mono ?_; rintro e w3 ⟨⟨v, rfl, ho⟩, hb3⟩; have hs3 : SG w1 (w.heap.size + 1) w3 := SG.below (by assumption) hb3; obtain ⟨A2, c2, A3, c3, rfl, -⟩ := id ho; have hz3 := (HZ.out.next (hb2.drew_)).next hb3; have z30 := hz3.fst; have z31 := hz3.snd; have f30 := hz3.free 0; have f31 := hz3.free 1)))
    rw [HDX.out] at ho
    have HO := Hd (ho.mono (show w.heap.size + 2 ≤ _ by omega))
    have HZ3 := Hd hz3
    have HB3 := Hd (SG.base HB.out hs3 (by omega))
    clear hz3 hs3
    go_wp2
    refine bodyPost_ret (v := .tuple #[.agg #[.slice A2 ds.length c2, .slice A3 ds.length c3], .int .i64 0, .bool true]) (by simp [results, Tryz.results212, go_sem, over_fst HZ3.out, over_snd HZ3.out]) rfl ⟨⟨_, rfl, ?_⟩, below_over HB3.out (by omega) _ _⟩
    exact (HO.out.over (by omega) _ _).mono (by omega)
   ·have hxb : (x == 0) = false := by simpa using hx0
    go_wp2_with fail
    refine (HDG.out _ HX1.out HY1.out).mono ?_
    rintro e w2 ⟨rfl, hb2⟩
    have HZ2 := Hd (HZ.out.next hb2)
    have HV2 := Hd (HV.out.next hb2)
    have HX2 := Hd (HX1.out.next hb2)
    have HY2 := Hd (HY1.out.next hb2)
    have HB2 := Hd (below_chain HB.out hb2)
    have hs2 := hb2.size
    have v0 := HV2.out.fst
    have v1 := HV2.out.snd
    have z0 := HZ2.out.fst
    have z1 := HZ2.out.snd
    have f0 := HZ2.out.free 0
    have f1 := HZ2.out.free 1
    clear hb2 hz0 hz1 hf0 hf1 hv0 hv1
    by_cases hs : d + x ≤ 9
    ·have he := HE2.out
     rw [chgP_in _ _ _ _ _ d hx0 HDD.out (by omega) (by omega), Int.zero_add, Int.one_mul] at he
     subst he
     have l3 : (decide (0 ≤ d + x) && decide (d + x ≤ 9)) = true := by simp; omega
     have HL3 := Hd l3
     clear l3
     go_wp2_with fail
     refine (fr_l3Digit_is HL3.out _).mono ?_
     rintro e w' ⟨rfl, rfl⟩
     go_wp2_with fail
     refine (l5Set_any A A' n c c' ds j (d + x) _ HX2.out HY2.out hj h6 (by omega) (by omega)).mono ?_
     rintro e w3 ⟨⟨v, rfl, ho⟩, hb3⟩
     have hos := ho.mono (show w.heap.size + 2 ≤ w2.heap.size by omega)
     obtain ⟨A2, c2, A3, c3, rfl, -⟩ := ho
     have HO := Hd hos
     have HZ3 := Hd (HZ2.out.next hb3)
     have z30 := HZ3.out.fst
     have z31 := HZ3.out.snd
     have f30 := HZ3.out.free 0
     have f31 := HZ3.out.free 1
     have HB3 := Hd (below_chain HB2.out hb3)
     clear hb3 hos z0 z1 f0 f1
     go_wp2_with fail
     refine (l5Pushes_any d (d + x) _ d0 d9 (by omega) (by omega)).mono ?_
     rintro e w' ⟨rfl, rfl⟩
     go_wp2
     refine bodyPost_ret (v := .tuple #[.agg #[.slice A2 (ds.set j (d + x)).length c2, .slice A3 (ds.set j (d + x)).length c3], .int .i64 (Fr.cost d (d + x)), .bool true]) (by simp [results, Tryz.results212, go_sem, over_fst HZ3.out, over_snd HZ3.out]) rfl ⟨⟨_, rfl, ?_⟩, below_over HB3.out (by omega) _ _⟩
     exact (HO.out.over (by omega) _ _).mono (by omega)
    ·have he := HE2.out
     rw [chgP_over _ _ _ _ _ d hx0 HDD.out (by omega), Int.zero_add, show d + 1 * x - 10 * 1 = d + x - 10 from by omega] at he
     obtain ⟨es, hes⟩ : ∃ es, ds.set j (d + x - 10) = es := ⟨_, rfl⟩
     have hel : es.length = n := by rw [← hes, List.length_set]; exact HL.out
     rw [hes] at he
     obtain ⟨Q, hQ⟩ : ∃ Q, frAt 1 es ((j + 1 : Nat) : Int) 1 = Q := ⟨_, rfl⟩
     rw [frAt_next (by omega)] at hQ
     rw [chgP_map hQ] at he
     have hed : Fr.Digs es := by rw [← hes]; exact digs_set HD.out j (by omega) (by omega)
     have hrec := IH.out ((n : Int) - ((j + 1 : Nat) : Int)).toNat (by have := HM.out; omega)
     have HREC := Hd hrec
     have HES := Hd hes
     have HEL := Hd hel
     have HED := Hd hed
     have HQ := Hd ((frAt_next (s := 1) (es := es) (k := j + 1) (by omega)).trans hQ)
     have HRE := Hd he
     have l3 : (decide (0 ≤ d + x) && decide (d + x ≤ 9)) = false := by simp; omega
     have HL3 := Hd l3
     have hov : 9 < d + x := by omega
     clear l3 hs hes hel hed hrec hQ he
     go_wp2_with fail
     refine (fr_l3Digit_is HL3.out _).mono ?_
     rintro e w' ⟨rfl, rfl⟩
     go_wp2_with fail
     refine (l5Set_any A A' n c c' ds j (d + x - 10) _ HX2.out HY2.out hj h6 (by omega) (by omega)).mono ?_
     rintro e w3 ⟨⟨v, rfl, ho⟩, hb3⟩
     rw [HES.out] at ho
     obtain ⟨A2, c2, A3, c3, rfl, -⟩ := id ho
     obtain ⟨-, -, hi2, hi3⟩ := ho.ints
     rw [HEL.out] at hi2 hi3
     have HI2 := Hd hi2
     have HI3 := Hd hi3
     have HZ3 := Hd (HZ2.out.next hb3)
     have HB3 := Hd (below_chain HB2.out hb3)
     have hs3 := hb3.size
     rw [HEL.out]
     clear hb3 z0 z1 f0 f1 ho hi2 hi3
     go_wp2_with fail
     refine (HREC.out A2 A3 n c2 c3 es ((j + 1 : Nat) : Int) 1 _ HI2.out HI3.out HED.out h1 h6 rfl).mono ?_
     rw [HQ.out]
     rintro e w4 hpost
     obtain ⟨A4, c4, A5, c5, rfl, ho4, hb4⟩ := hpost.out_
     have HO4 := Hd (ho4.mono (show w.heap.size + 2 ≤ w3.heap.size by omega))
     have HZ4 := Hd (HZ3.out.next hb4)
     have z40 := HZ4.out.fst
     have z41 := HZ4.out.snd
     have f40 := HZ4.out.free 0
     have f41 := HZ4.out.free 1
     have HB4 := Hd (below_chain HB3.out hb4)
     have hs4 := hb4.size
     have hza : w.heap.size + 1 < w4.heap.size := by omega
     clear hb4 ho4 hpost
     rcases Q with _ | ⟨es0, p0⟩
     ·have he := HRE.out
      simp only [Option.map_none] at he
      subst he
      go_wp2
      exact bodyPost_ret (v := .tuple #[.agg #[.slice none 0 0, .slice none 0 0], .int .i64 0, .bool false]) (by simp [results, Tryz.results212, go_sem, hza, over_fst HZ4.out, over_snd HZ4.out]) rfl (FrRes.none_ ((below_over HB4.out (by omega) _ _).alloc (by simp; omega) _))
     ·have he := HRE.out
      simp only [Option.map_some] at he
      subst he
      have hup := frAt_upper HQ.out
      rw [HEL.out] at hup
      simp only at hup
      obtain ⟨u0, u1⟩ := hup
      have u2 : p0 ≤ 12 := by omega
      obtain ⟨t0, t1⟩ := cost_le d (d + x - 10)
      have s1 : IntKind.i64.wrap (Fr.cost d (d + x - 10) + p0) = Fr.cost d (d + x - 10) + p0 := IntWalk.i64_in _ (by omega)
      have s2 : resN (some (es0, p0)) = p0 := rfl
      have s3 : resL (some (es0, p0)) = es0 := rfl
      rw [s2, s3]
      rw [s3] at HO4
      clear s2 s3 u1
      go_wp2_with fail
      go_region_held3 (fun w' => w'.cell? ⟨w4.heap.size, 0, none⟩ = some (.slice A4 es0.length c4) ∧ w'.cell? ⟨w4.heap.size, 1, none⟩ = some (.slice A5 es0.length c5))
       (first | exact ⟨cell_of_new (by simp) rfl, cell_of_new (by simp) rfl⟩ | go_keep)
       (first
        | (go_at_call 229; refine (l5Pushes_any d (d + x - 10) _ d0 d9 (by omega) (by omega)).mono ?_; rintro e w' ⟨rfl, rfl⟩))
      go_wp2
      refine bodyPost_ret (v := .tuple #[.agg #[.slice A4 es0.length c4, .slice A5 es0.length c5], .int .i64 (Fr.cost d (d + x - 10) + p0), .bool true]) (by simp [results, Tryz.results212, go_sem, hza, over_fst HZ4.out, over_snd HZ4.out]) rfl ⟨⟨_, rfl, ?_⟩, below_drewN ((below_over HB4.out (by omega) _ _).alloc (by simp; omega) _) 1⟩
      exact (((HO4.out.over (by omega) _ _).mono (by omega)).keep ((Below.refl _ _).alloc (Nat.le_refl _) _)).keep ((Below.refl _ _).drew)
  ·have he := HE.out
   rw [frAt_out _ _ _ _ (by rw [HL.out]; exact hin)] at he
   subst he
   by_cases hk : 0 ≤ k ∧ k ≤ (n : Int) - 1
   ·have l3 : (decide (0 ≤ x) && decide (x ≤ 9)) = false := by simp; omega
    obtain ⟨k0, k1⟩ := hk
    have HL3 := Hd l3
    clear hin l3
    go_wp2_with fail
    refine (l6In_yes k0 k1 _).mono ?_
    rintro e w' ⟨rfl, rfl⟩
    go_wp2_with fail
    refine (fr_l3Digit_is HL3.out _).mono ?_
    rintro e w' ⟨rfl, rfl⟩
    go_wp2
    exact bodyPost_ret (v := .tuple #[.agg #[.slice none 0 0, .slice none 0 0], .int .i64 0, .bool false]) (by simp [results, Tryz.results212, go_sem, over_fst HZ.out, over_snd HZ.out]) rfl (FrRes.none_ (below_over HB.out (by omega) _ _))
   ·have hk' : k < 0 ∨ (n : Int) - 1 < k := by omega
    have HK := Hd hk'
    clear hin hk hk'
    go_wp2_with fail
    refine (l6In_no HK.out _).mono ?_
    rintro e w' ⟨rfl, rfl⟩
    go_wp2
    exact bodyPost_ret (v := .tuple #[.agg #[.slice none 0 0, .slice none 0 0], .int .i64 0, .bool false]) (by simp [results, Tryz.results212, go_sem, over_fst HZ.out, over_snd HZ.out]) rfl (FrRes.none_ (below_over HB.out (by omega) _ _))
set_option maxHeartbeats 8000000 in
theorem l5ChangeTake_yes (m : Nat) : ∀ (A A' : Option Addr) (n c c' : Nat) (ds : List Int) (k x : Int) (w : World), Ints w w.heap.size A n (HiL ds) → Ints w w.heap.size A' n (LoL ds) → Fr.Digs ds → 1 ≤ n → n ≤ 6 → ((n : Int) - k).toNat = m →
  Calls Tryz.prog 212 #[.agg #[.slice A n c, .slice A' n c'], .int .i64 k, .int .i64 x, .int .i64 (-1)] w (FrRes w (frAt (-1) ds k x)) := by
 induction m using Nat.strongRecOn with
 | ind m ih =>
  intro A A' n c c' ds k x w hx hy hds h1 h6 hm
  have IH := Hd ih
  have hl : ds.length = n := by have := hx.len; rwa [HiL_length] at this
  have HL := Hd hl
  have HX := Hd hx
  have HY := Hd hy
  have HD := Hd hds
  obtain ⟨R, hR⟩ : ∃ R, frAt (-1) ds k x = R := ⟨_, rfl⟩
  rw [hR]
  have HE := Hd hR
  have HM := Hd hm
  clear hx hy hds hl hR ih hm
  go_enter Tryz.func212, Tryz.ntmps212
  go_wp2_with fail
  refine (specFrameValid_yes A A' n c c' ds _ ((HX.out.al _).al _) ((HY.out.al _).al _) HD.out h1 h6).mono ?_
  rintro e w1 ⟨rfl, hb1⟩
  have hz := ((FBox.new (w.alloc (.cells #[.slice A n c, .slice A' n c'] 30)) (.slice none 0 0) (.slice none 0 0)).next hb1)
  have hv := ((FBox.new w (.slice A n c) (.slice A' n c')).alloc (.cells #[.slice none 0 0, .slice none 0 0] 30)).next hb1
  simp only [World.size_alloc] at hz
  have hz0 := hz.fst
  have hz1 := hz.snd
  have hf0 := hz.free 0
  have hf1 := hz.free 1
  have hv0 := hv.fst
  have hv1 := hv.snd
  have HX1 := Hd (((HX.out.al _).al _).next hb1)
  have HY1 := Hd (((HY.out.al _).al _).next hb1)
  have HZ := Hd hz
  have HV := Hd hv
  have HB := Hd ((below_two w _ _).trans (hb1.mono (by simp; omega)))
  have hws : w.heap.size + 1 + 1 ≤ w1.heap.size := by have := hb1.size; simpa using this
  clear hz hv hb1
  by_cases hin : 0 ≤ k ∧ k < (n : Int) ∧ 0 ≤ x ∧ x ≤ 9
  ·obtain ⟨k0, k1, x0, x9⟩ := hin
   obtain ⟨j, rfl⟩ := Int.eq_ofNat_of_zero_le k0
   have hj : j < n := by omega
   obtain ⟨d, hd⟩ : ∃ d, ds[j]? = some d := ⟨_, List.getElem?_eq_getElem (by have := HL.out; omega)⟩
   obtain ⟨d0, d9⟩ := HD.out d (List.mem_of_getElem? hd)
   have he := HE.out
   rw [frAt_in _ _ _ _ (by have := HL.out; omega) x0 x9, ← chgP_zero] at he
   have HE2 := Hd he
   have HDD := Hd hd
   have hdig : ∀ v, Ints v v.heap.size A n (HiL ds) → Ints v v.heap.size A' n (LoL ds) → Calls Tryz.prog 211 #[.agg #[.slice A n c, .slice A' n c'], .int .i64 (j : Int)] v fun e w' => e = .returned (.int .i64 d) ∧ Below v.heap.size v w' :=
    fun v h2 h3 => specFrameDigit_any A A' n n c c' (HiL ds) (LoL ds) j d v h2 h3 (.inr ⟨ds, HD.out, rfl, rfl, by have := HL.out; omega, by have := HL.out; omega, (digAt_in HDD.out).symm⟩)
   have HDG := Hd hdig
   clear HE he hd hdig
   have l3 : (decide (0 ≤ x) && decide (x ≤ 9)) = true := by simp [x0, x9]
   go_wp2_with fail
   refine (l6In_yes (by omega) (by omega) _).mono ?_
   rintro e w' ⟨rfl, rfl⟩
   go_wp2_with fail
   refine (fr_l3Digit_is l3 _).mono ?_
   rintro e w' ⟨rfl, rfl⟩
   clear l3
   by_cases hx0 : x = 0
   ·subst hx0
    have he := HE2.out
    rw [chgP_done] at he
    subst he
    have hdx : ds.set j d = ds := by
     apply List.ext_getElem?
     intro i
     by_cases h : j = i
     ·subst h; rw [List.getElem?_set_self (by have := HL.out; omega), HDD.out]
     ·rw [List.getElem?_set_ne h]
    have HDX := Hd hdx
    have hwl : w.heap.size < w1.heap.size := by omega
    have hwl1 : w.heap.size + 1 < w1.heap.size := by omega
    have KS : Hid (∀ w', SG w1 (w.heap.size + 1) w' → (w'.cell? ⟨w.heap.size, 0, none⟩ = some (.slice A n c) ∧ w'.cell? ⟨w.heap.size, 1, none⟩ = some (.slice A' n c') ∧ SG w1 (w.heap.size + 1) w')) :=
     Hd fun w' h => ⟨(World.cell?_of_block (a := ⟨w.heap.size, 0, none⟩) (World.grownBy.block h w.heap.size hwl (by simp))).trans hv0, (World.cell?_of_block (a := ⟨w.heap.size, 1, none⟩) (World.grownBy.block h w.heap.size hwl (by simp))).trans hv1, h⟩
    have HIX : Hid (∀ v, SG w1 (w.heap.size + 1) v → Ints v v.heap.size A n (HiL ds)) := Hd fun v h => (HX.out.below (SG.base HB.out h (by omega))).mono (SG.base HB.out h (by omega)).size
    have HIY : Hid (∀ v, SG w1 (w.heap.size + 1) v → Ints v v.heap.size A' n (LoL ds)) := Hd fun v h => (HY.out.below (SG.base HB.out h (by omega))).mono (SG.base HB.out h (by omega)).size
    have hsb := SG.refl w1 (w.heap.size + 1)
    clear hdx
    go_wp2_with fail
    go_region_held3 (fun w' => w'.cell? ⟨w.heap.size, 0, none⟩ = some (.slice A n c) ∧ w'.cell? ⟨w.heap.size, 1, none⟩ = some (.slice A' n c') ∧ SG w1 (w.heap.size + 1) w')
     (first
      | ((try go_split_ands); refine KS.out _ ?_; first | assumption | (exact SG.drew (by assumption)) | (exact SG.set2 (by assumption) _ _)))
     (first
      | (go_at_call 211; (try go_split_ands); (refine (HDG.out _ (HIX.out _ (by assumption)) (HIY.out _ (by assumption))).mono ?_; rintro e w2 ⟨rfl, hb2⟩; have hs2 : SG w1 (w.heap.size + 1) w2 := SG.below (by assumption) hb2; have hy2 := hs2.size))
      | (go_at_call 210; (try go_split_ands); (refine (l5Set_any A A' n c c' ds j d _ (HIX.out _ (by assumption)) (HIY.out _ (by assumption)) hj h6 d0 d9).mono ?_; rintro e w3 ⟨⟨v, rfl, ho⟩, hb3⟩; have hs3 : SG w1 (w.heap.size + 1) w3 := SG.below (by assumption) hb3; obtain ⟨A2, c2, A3, c3, rfl, -⟩ := id ho; have hz3 := (HZ.out.next (hb2.drew_)).next hb3; have z30 := hz3.fst; have z31 := hz3.snd; have f30 := hz3.free 0; have f31 := hz3.free 1)))
    rw [HDX.out] at ho
    have HO := Hd (ho.mono (show w.heap.size + 2 ≤ _ by omega))
    have HZ3 := Hd hz3
    have HB3 := Hd (SG.base HB.out hs3 (by omega))
    clear hz3 hs3
    go_wp2
    refine bodyPost_ret (v := .tuple #[.agg #[.slice A2 ds.length c2, .slice A3 ds.length c3], .int .i64 0, .bool true]) (by simp [results, Tryz.results212, go_sem, over_fst HZ3.out, over_snd HZ3.out]) rfl ⟨⟨_, rfl, ?_⟩, below_over HB3.out (by omega) _ _⟩
    exact (HO.out.over (by omega) _ _).mono (by omega)
   ·have hxb : (x == 0) = false := by simpa using hx0
    go_wp2_with fail
    refine (HDG.out _ HX1.out HY1.out).mono ?_
    rintro e w2 ⟨rfl, hb2⟩
    have HZ2 := Hd (HZ.out.next hb2)
    have HV2 := Hd (HV.out.next hb2)
    have HX2 := Hd (HX1.out.next hb2)
    have HY2 := Hd (HY1.out.next hb2)
    have HB2 := Hd (below_chain HB.out hb2)
    have hs2 := hb2.size
    have v0 := HV2.out.fst
    have v1 := HV2.out.snd
    have z0 := HZ2.out.fst
    have z1 := HZ2.out.snd
    have f0 := HZ2.out.free 0
    have f1 := HZ2.out.free 1
    clear hb2 hz0 hz1 hf0 hf1 hv0 hv1
    by_cases hs : 0 ≤ d - x
    ·have he := HE2.out
     rw [chgP_in _ _ _ _ _ d hx0 HDD.out (by omega) (by omega), Int.zero_add, show d + -1 * x = d - x from by omega] at he
     subst he
     have l3 : (decide (0 ≤ d - x) && decide (d - x ≤ 9)) = true := by simp; omega
     have HL3 := Hd l3
     clear l3
     go_wp2_with fail
     refine (fr_l3Digit_is HL3.out _).mono ?_
     rintro e w' ⟨rfl, rfl⟩
     go_wp2_with fail
     refine (l5Set_any A A' n c c' ds j (d - x) _ HX2.out HY2.out hj h6 (by omega) (by omega)).mono ?_
     rintro e w3 ⟨⟨v, rfl, ho⟩, hb3⟩
     have hos := ho.mono (show w.heap.size + 2 ≤ w2.heap.size by omega)
     obtain ⟨A2, c2, A3, c3, rfl, -⟩ := ho
     have HO := Hd hos
     have HZ3 := Hd (HZ2.out.next hb3)
     have z30 := HZ3.out.fst
     have z31 := HZ3.out.snd
     have f30 := HZ3.out.free 0
     have f31 := HZ3.out.free 1
     have HB3 := Hd (below_chain HB2.out hb3)
     clear hb3 hos z0 z1 f0 f1
     go_wp2_with fail
     refine (l5Pushes_any d (d - x) _ d0 d9 (by omega) (by omega)).mono ?_
     rintro e w' ⟨rfl, rfl⟩
     go_wp2
     refine bodyPost_ret (v := .tuple #[.agg #[.slice A2 (ds.set j (d - x)).length c2, .slice A3 (ds.set j (d - x)).length c3], .int .i64 (Fr.cost d (d - x)), .bool true]) (by simp [results, Tryz.results212, go_sem, over_fst HZ3.out, over_snd HZ3.out]) rfl ⟨⟨_, rfl, ?_⟩, below_over HB3.out (by omega) _ _⟩
     exact (HO.out.over (by omega) _ _).mono (by omega)
    ·have he := HE2.out
     rw [chgP_over _ _ _ _ _ d hx0 HDD.out (by omega), Int.zero_add, show d + -1 * x - 10 * -1 = d - x + 10 from by omega] at he
     obtain ⟨es, hes⟩ : ∃ es, ds.set j (d - x + 10) = es := ⟨_, rfl⟩
     have hel : es.length = n := by rw [← hes, List.length_set]; exact HL.out
     rw [hes] at he
     obtain ⟨Q, hQ⟩ : ∃ Q, frAt (-1) es ((j + 1 : Nat) : Int) 1 = Q := ⟨_, rfl⟩
     rw [frAt_next (by omega)] at hQ
     rw [chgP_map hQ] at he
     have hed : Fr.Digs es := by rw [← hes]; exact digs_set HD.out j (by omega) (by omega)
     have hrec := IH.out ((n : Int) - ((j + 1 : Nat) : Int)).toNat (by have := HM.out; omega)
     have HREC := Hd hrec
     have HES := Hd hes
     have HEL := Hd hel
     have HED := Hd hed
     have HQ := Hd ((frAt_next (s := -1) (es := es) (k := j + 1) (by omega)).trans hQ)
     have HRE := Hd he
     have l3 : (decide (0 ≤ d - x) && decide (d - x ≤ 9)) = false := by simp; omega
     have HL3 := Hd l3
     have hov : d < x := by omega
     clear l3 hs hes hel hed hrec hQ he
     go_wp2_with fail
     refine (fr_l3Digit_is HL3.out _).mono ?_
     rintro e w' ⟨rfl, rfl⟩
     go_wp2_with fail
     refine (l5Set_any A A' n c c' ds j (d - x + 10) _ HX2.out HY2.out hj h6 (by omega) (by omega)).mono ?_
     rintro e w3 ⟨⟨v, rfl, ho⟩, hb3⟩
     rw [HES.out] at ho
     obtain ⟨A2, c2, A3, c3, rfl, -⟩ := id ho
     obtain ⟨-, -, hi2, hi3⟩ := ho.ints
     rw [HEL.out] at hi2 hi3
     have HI2 := Hd hi2
     have HI3 := Hd hi3
     have HZ3 := Hd (HZ2.out.next hb3)
     have HB3 := Hd (below_chain HB2.out hb3)
     have hs3 := hb3.size
     rw [HEL.out]
     clear hb3 z0 z1 f0 f1 ho hi2 hi3
     go_wp2_with fail
     refine (HREC.out A2 A3 n c2 c3 es ((j + 1 : Nat) : Int) 1 _ HI2.out HI3.out HED.out h1 h6 rfl).mono ?_
     rw [HQ.out]
     rintro e w4 hpost
     obtain ⟨A4, c4, A5, c5, rfl, ho4, hb4⟩ := hpost.out_
     have HO4 := Hd (ho4.mono (show w.heap.size + 2 ≤ w3.heap.size by omega))
     have HZ4 := Hd (HZ3.out.next hb4)
     have z40 := HZ4.out.fst
     have z41 := HZ4.out.snd
     have f40 := HZ4.out.free 0
     have f41 := HZ4.out.free 1
     have HB4 := Hd (below_chain HB3.out hb4)
     have hs4 := hb4.size
     have hza : w.heap.size + 1 < w4.heap.size := by omega
     clear hb4 ho4 hpost
     rcases Q with _ | ⟨es0, p0⟩
     ·have he := HRE.out
      simp only [Option.map_none] at he
      subst he
      go_wp2
      exact bodyPost_ret (v := .tuple #[.agg #[.slice none 0 0, .slice none 0 0], .int .i64 0, .bool false]) (by simp [results, Tryz.results212, go_sem, hza, over_fst HZ4.out, over_snd HZ4.out]) rfl (FrRes.none_ ((below_over HB4.out (by omega) _ _).alloc (by simp; omega) _))
     ·have he := HRE.out
      simp only [Option.map_some] at he
      subst he
      have hup := frAt_upper HQ.out
      rw [HEL.out] at hup
      simp only at hup
      obtain ⟨u0, u1⟩ := hup
      have u2 : p0 ≤ 12 := by omega
      obtain ⟨t0, t1⟩ := cost_le d (d - x + 10)
      have s1 : IntKind.i64.wrap (Fr.cost d (d - x + 10) + p0) = Fr.cost d (d - x + 10) + p0 := IntWalk.i64_in _ (by omega)
      have s2 : resN (some (es0, p0)) = p0 := rfl
      have s3 : resL (some (es0, p0)) = es0 := rfl
      rw [s2, s3]
      rw [s3] at HO4
      clear s2 s3 u1
      go_wp2_with fail
      go_region_held3 (fun w' => w'.cell? ⟨w4.heap.size, 0, none⟩ = some (.slice A4 es0.length c4) ∧ w'.cell? ⟨w4.heap.size, 1, none⟩ = some (.slice A5 es0.length c5))
       (first | exact ⟨cell_of_new (by simp) rfl, cell_of_new (by simp) rfl⟩ | go_keep)
       (first
        | (go_at_call 229; refine (l5Pushes_any d (d - x + 10) _ d0 d9 (by omega) (by omega)).mono ?_; rintro e w' ⟨rfl, rfl⟩))
      go_wp2
      refine bodyPost_ret (v := .tuple #[.agg #[.slice A4 es0.length c4, .slice A5 es0.length c5], .int .i64 (Fr.cost d (d - x + 10) + p0), .bool true]) (by simp [results, Tryz.results212, go_sem, hza, over_fst HZ4.out, over_snd HZ4.out]) rfl ⟨⟨_, rfl, ?_⟩, below_drewN ((below_over HB4.out (by omega) _ _).alloc (by simp; omega) _) 1⟩
      exact (((HO4.out.over (by omega) _ _).mono (by omega)).keep ((Below.refl _ _).alloc (Nat.le_refl _) _)).keep ((Below.refl _ _).drew)
  ·have he := HE.out
   rw [frAt_out _ _ _ _ (by rw [HL.out]; exact hin)] at he
   subst he
   by_cases hk : 0 ≤ k ∧ k ≤ (n : Int) - 1
   ·have l3 : (decide (0 ≤ x) && decide (x ≤ 9)) = false := by simp; omega
    obtain ⟨k0, k1⟩ := hk
    have HL3 := Hd l3
    clear hin l3
    go_wp2_with fail
    refine (l6In_yes k0 k1 _).mono ?_
    rintro e w' ⟨rfl, rfl⟩
    go_wp2_with fail
    refine (fr_l3Digit_is HL3.out _).mono ?_
    rintro e w' ⟨rfl, rfl⟩
    go_wp2
    exact bodyPost_ret (v := .tuple #[.agg #[.slice none 0 0, .slice none 0 0], .int .i64 0, .bool false]) (by simp [results, Tryz.results212, go_sem, over_fst HZ.out, over_snd HZ.out]) rfl (FrRes.none_ (below_over HB.out (by omega) _ _))
   ·have hk' : k < 0 ∨ (n : Int) - 1 < k := by omega
    have HK := Hd hk'
    clear hin hk hk'
    go_wp2_with fail
    refine (l6In_no HK.out _).mono ?_
    rintro e w' ⟨rfl, rfl⟩
    go_wp2
    exact bodyPost_ret (v := .tuple #[.agg #[.slice none 0 0, .slice none 0 0], .int .i64 0, .bool false]) (by simp [results, Tryz.results212, go_sem, over_fst HZ.out, over_snd HZ.out]) rfl (FrRes.none_ (below_over HB.out (by omega) _ _))
theorem FrOwn.parts {w : World} {B n : Nat} {v : Value} {ds : List Int} (h : FrOwn w B v ds) (hl : ds.length = n) (hn : 0 < n) :
  ∃ hi lo ch cl, v = .agg #[.slice (some ⟨hi, 0, none⟩) n ch, .slice (some ⟨lo, 0, none⟩) n cl] ∧ Own w B (some ⟨hi, 0, none⟩) n ch (HiL ds) ∧ Own w B (some ⟨lo, 0, none⟩) n cl (LoL ds) ∧ hi ≠ lo ∧ B ≤ hi ∧ B ≤ lo ∧ hi < w.heap.size ∧ lo < w.heap.size := by
 subst hl
 obtain ⟨A, c, A', c', rfl, h1, h2, h3, h4⟩ := h
 obtain ⟨hi, rfl, b1, b2, _⟩ := h1.at_ hn
 obtain ⟨lo, rfl, b3, b4, _⟩ := h2.at_ hn
 exact ⟨hi, lo, c, c', rfl, h1, h2, fun e => h3 lo rfl (by rw [← e]; rfl), b1, b3, b2, b4⟩
theorem FrOwn.of_parts {w : World} {B n hi lo ch cl : Nat} {ds : List Int} (h1 : Own w B (some ⟨hi, 0, none⟩) n ch (HiL ds)) (h2 : Own w B (some ⟨lo, 0, none⟩) n cl (LoL ds)) (hne : hi ≠ lo) (hl : ds.length = n) : FrOwn w B (.agg #[.slice (some ⟨hi, 0, none⟩) n ch, .slice (some ⟨lo, 0, none⟩) n cl]) ds := by
 subst hl
 exact ⟨_, _, _, _, rfl, h1, h2, apart_of hne, apart_of (Ne.symm hne)⟩
theorem ten_in {N T : Int} {r : Bool} (h : (decide (0 ≤ N) && decide (N ≤ T - 1)) = r) (w : World) : Calls Tryz.prog 67 #[.int .i64 N, .int .i64 0, .int .i64 (T - 1)] w fun e w' => e = .returned (.bool r) ∧ w = w' := l6In_is h w
theorem Own.over2 {w : World} {B b g n c : Nat} {xs : List Int} (h : Own w B (some ⟨g, 0, none⟩) n c xs) (hne : g ≠ b) (x y : Value) : Own ((w.setCell ⟨b, 0, none⟩ x).setCell ⟨b, 1, none⟩ y) B (some ⟨g, 0, none⟩) n c xs :=
 h.block ((heap_setCell_other _ ⟨b, 1, none⟩ g _ hne).trans (heap_setCell_other _ ⟨b, 0, none⟩ g _ hne))
theorem chgAt_digs {s : Int} (hs : Fr.Sgn s) {ds es : List Int} {k : Nat} {g n : Int} (hd : Fr.Digs ds) (h0 : 0 ≤ g) (h9 : g ≤ 9) (h : chgAt s ds k g = some (es, n)) : Fr.Digs es ∧ es.length = ds.length ∧ True := by
 unfold chgAt at h
 rw [Option.map_eq_some_iff] at h
 obtain ⟨⟨r, n'⟩, hr, h'⟩ := h
 simp only [Prod.mk.injEq] at h'
 obtain ⟨rfl, rfl⟩ := h'
 obtain ⟨c1, c2, _⟩ := Fr.chg_some s hs _ _ _ _ (digs_drop hd k) h0 h9 hr
 rw [List.length_drop] at c2
 refine ⟨?_, ?_, trivial⟩
 ·intro d hd'
  rcases List.mem_append.1 hd' with h | h
  ·exact hd d (List.mem_of_mem_take h)
  ·exact c1 d h
 ·simp; omega
set_option maxHeartbeats 8000000 in
theorem l5AllAdd_yes (A A' : Option Addr) (n c c' : Nat) (ds : List Int) (N : Int) (w : World) (hx : Ints w w.heap.size A n (HiL ds)) (hy : Ints w w.heap.size A' n (LoL ds)) (hds : Fr.Digs ds) (h1 : 1 ≤ n) (h6 : n ≤ 6) :
    Calls Tryz.prog 175 #[.agg #[.slice A n c, .slice A' n c'], .int .i64 N, .int .i64 1] w (FrRes w (frBy 1 ds N)) := by
  have hl : ds.length = n := by have := hx.len; rwa [HiL_length] at this
  have HL := Hd hl
  have HX := Hd hx
  have HY := Hd hy
  have HD := Hd hds
  obtain ⟨R, hR⟩ : ∃ R, frBy 1 ds N = R := ⟨_, rfl⟩
  rw [hR]
  have HE := Hd hR
  have hten := ten_bd n h6
  obtain ⟨T, hT⟩ : ∃ T, Fr.ten n = T := ⟨_, rfl⟩
  rw [hT] at hten
  obtain ⟨t0, t1⟩ := hten
  have HT := Hd hT
  clear hx hy hds hl hR hT
  have hpow : ∀ v, Calls Tryz.prog 55 #[.int .i64 (n : Int)] v fun e w' => e = .returned (.int .i64 T) ∧ v = w' := fun v => by rw [← HT.out]; exact l5Ten_any n v h6
  have HP := Hd hpow
  clear hpow
  go_enter Tryz.func175, Tryz.ntmps175
  go_wp2_with fail
  refine (specFrameValid_yes A A' n c c' ds _ ((HX.out.al _).al _) ((HY.out.al _).al _) HD.out h1 h6).mono ?_
  rintro e w1 ⟨rfl, hb1⟩
  have hz := ((FBox.new (w.alloc (.cells #[.slice A n c, .slice A' n c'] 30)) (.slice none 0 0) (.slice none 0 0)).next hb1)
  have hv := ((FBox.new w (.slice A n c) (.slice A' n c')).alloc (.cells #[.slice none 0 0, .slice none 0 0] 30)).next hb1
  simp only [World.size_alloc] at hz
  have hz0 := hz.fst
  have hz1 := hz.snd
  have hf0 := hz.free 0
  have hf1 := hz.free 1
  have hv0 := hv.fst
  have hv1 := hv.snd
  have HX1 := Hd (((HX.out.al _).al _).next hb1)
  have HY1 := Hd (((HY.out.al _).al _).next hb1)
  have HZ := Hd hz
  have HB := Hd ((below_two w _ _).trans (hb1.mono (by simp; omega)))
  have hws : w.heap.size + 1 + 1 ≤ w1.heap.size := by have := hb1.size; simpa using this
  clear hz hv hb1
  by_cases hin : 0 ≤ N ∧ N < T
  · obtain ⟨N0, N1⟩ := hin
    have he := HE.out
    rw [frBy_in (by rw [HL.out, HT.out]; exact ⟨N0, N1⟩), ← allP_zero] at he
    have HA := Hd he
    clear he
    have l3 : (decide (0 ≤ N) && decide (N ≤ T - 1)) = true := by simp; omega
    have HL3 := Hd l3
    obtain ⟨d, hd⟩ : ∃ d, ds[0]? = some d := ⟨_, List.getElem?_eq_getElem (by have := HL.out; omega)⟩
    obtain ⟨d0, d9⟩ := HD.out d (List.mem_of_getElem? hd)
    have hdx : ds.set 0 d = ds := by
      apply List.ext_getElem?
      intro i
      by_cases h : 0 = i
      · subst h; rw [List.getElem?_set_self (by have := HL.out; omega), hd]
      · rw [List.getElem?_set_ne h]
    have HDX := Hd hdx
    have hdig : ∀ v, Ints v v.heap.size A n (HiL ds) → Ints v v.heap.size A' n (LoL ds) → Calls Tryz.prog 211 #[.agg #[.slice A n c, .slice A' n c'], .int .i64 0] v fun e w' => e = .returned (.int .i64 d) ∧ Below v.heap.size v w' :=
      fun v h2 h3 => specFrameDigit_any A A' n n c c' (HiL ds) (LoL ds) 0 d v h2 h3 (.inr ⟨ds, HD.out, rfl, rfl, by have := HL.out; omega, by have := HL.out; omega, (digAt_in (j := 0) hd).symm⟩)
    have HDG := Hd hdig
    clear l3 hd hdx hdig
    have hwl : w.heap.size < w1.heap.size := by omega
    have hwl1 : w.heap.size + 1 < w1.heap.size := by omega
    have KS : Hid (∀ w', SB w1 w' → (w'.cell? ⟨w.heap.size, 0, none⟩ = some (.slice A n c) ∧ w'.cell? ⟨w.heap.size, 1, none⟩ = some (.slice A' n c') ∧ SB w1 w')) :=
      Hd fun w' h => ⟨(Below.cell h (p := ⟨w.heap.size, 0, none⟩) hwl).trans hv0, (Below.cell h (p := ⟨w.heap.size, 1, none⟩) hwl).trans hv1, h⟩
    have hsb := SB.refl w1
    go_wp2_with fail
    refine (HP.out _).mono ?_
    rintro e w2 ⟨rfl, rfl⟩
    go_wp2_with fail
    refine (ten_in HL3.out _).mono ?_
    rintro e w2 ⟨rfl, rfl⟩
    go_upto_region 3 with fail
    go_cut [9] (fun s9 wx => L5Q w1 n (HiL ds) (LoL ds) s9 wx)
    case first =>
      go_region_held3 (fun w' => w'.cell? ⟨w.heap.size, 0, none⟩ = some (.slice A n c) ∧ w'.cell? ⟨w.heap.size, 1, none⟩ = some (.slice A' n c') ∧ SB w1 w')
        (first
          | ((try go_split_ands); refine KS.out _ ?_; first | assumption | (exact SB.drew (by assumption)) | (exact SB.alloc (by assumption) _) | (exact Below.setCell (Below.setCell (by assumption : SB w1 _) (by first | omega | (simp <;> omega)) _) (by first | omega | (simp <;> omega)) _)))
        (first
          | (go_at_call 211; (try go_split_ands); (refine (HDG.out _ (HX1.out.next (by assumption : SB w1 _)) (HY1.out.next (by assumption : SB w1 _))).mono ?_; rintro e w2 ⟨rfl, hb2⟩; have hs2 : SB w1 w2 := SB.below (by assumption) hb2; obtain ⟨hc2, hf2⟩ := bcell hb2; have hy2 := hb2.size; (try simp only [World.size_alloc, size_drew_] at hy2); (try have q1 : w1.heap.size < w2.heap.size := by omega)))
          | (go_at_call 210; (try go_split_ands); (refine (l5Set_any A A' n c c' ds 0 d _ (HX1.out.next (by assumption : SB w1 _)) (HY1.out.next (by assumption : SB w1 _)) (by omega) h6 d0 d9).mono ?_; rintro e w3 ⟨⟨v, rfl, ho⟩, hb3⟩; rw [HDX.out] at ho; obtain ⟨hi, lo, ch, cl, rfl, ho1, ho2, hne, v1, v2, v3, v4⟩ := ho.parts HL.out (by omega); have hs3 : SB w1 w3 := SB.below (by assumption) hb3; obtain ⟨hc3, hf3⟩ := bcell hb3; have hy3 := hb3.size; (try simp only [World.size_alloc] at hy3); (try simp only [World.size_alloc] at v1 v2); (try have q2 : w1.heap.size < w3.heap.size := by omega))))
      all_goals go_wp2_with fail
      all_goals go_meet
      all_goals
        have o1 := ho1.mono (show w1.heap.size ≤ _ by first | omega | (simp <;> omega))
        have o2 := ho2.mono (show w1.heap.size ≤ _ by first | omega | (simp <;> omega))
        first
          | exact l5leafA o1 o2 hne hs3
          | (refine l5leafB o1 o2 hne hs3 ?_ (by omega) (by omega) (by omega)
             rw [hb3.block _ (by first | omega | (simp <;> omega))]
             repeat (first
               | rw [if_true]
               | rw [if_pos (by omega)]
               | rw [if_neg (by omega)]
               | simp only [heap_drew, heap_alloc_if]
               | rw [hb2.block _ (by first | omega | (simp <;> omega))]))
    case rest =>
      obtain ⟨bx, hi, lo, ch, cl, rfl, hbx, hoh, hol, d1, d2, d3, d4, hbel⟩ := hcut
      have HBX := Hd hbx
      have HOH := Hd hoh
      have HOL := Hd hol
      have HBL := Hd hbel
      clear hbx hoh hol hbel hz0 hz1 hf0 hf1 hv0 hv1 hsb
      go_wp2
      go_loopw [1, 10, 11] (fun nv pv kv wr => ∃ (k : Nat) (M p : Int) (es : List Int), ∃ hi lo ch cl : Nat, nv = .int .i64 M ∧ pv = .int .i64 p ∧ kv = .int .i64 (k : Int) ∧ k ≤ n ∧ 0 ≤ M ∧ M < Fr.ten (n - k) ∧ M ≤ 1000000 ∧ 0 ≤ p ∧ p ≤ 20 * k ∧
        FBox wr bx (.slice (some ⟨hi, 0, none⟩) n ch) (.slice (some ⟨lo, 0, none⟩) n cl) ∧ Own wr w1.heap.size (some ⟨hi, 0, none⟩) n ch (HiL es) ∧ Own wr w1.heap.size (some ⟨lo, 0, none⟩) n cl (LoL es) ∧ hi ≠ lo ∧ bx ≠ hi ∧ bx ≠ lo ∧
        Fr.Digs es ∧ es.length = n ∧ allP 1 es k M p = R ∧ Below w1.heap.size w1 wr) (fun nv _ _ _ => (intOf nv).toNat)
      case atStart => exact ⟨0, N, 0, ds, hi, lo, ch, cl, rfl, rfl, rfl, by omega, N0, by rw [Nat.sub_zero, HT.out]; exact N1, by omega, by omega, by omega, HBX.out, HOH.out, HOL.out, d1, d2, d3, HD.out, HL.out, HA.out, HBL.out⟩
      case round =>
        clear HBX HOH HOL HBL HA d1 d2 d3 hi lo ch cl
        obtain ⟨k, M, p, es, hi, lo, ch, cl, rfl, rfl, rfl, hk, M0, M1, M2, p0, p1, hbx, hoh, hol, d1, d2, d3, hd, hl, hA, hbel⟩ := hrel
        have HBX := Hd hbx
        have HD2 := Hd hd
        have HL2 := Hd hl
        have HA := Hd hA
        have HM := Hd M1
        have HBL := Hd hbel
        have HZ2 := Hd (HZ.out.keep (hbel.block _ hwl1))
        have HB2 := Hd (HB.out.trans (hbel.mono HB.out.size))
        have z0 := HZ2.out.fst
        have z1 := HZ2.out.snd
        have f0 := HZ2.out.free 0
        have f1 := HZ2.out.free 1
        have x0 := HBX.out.fst
        have x1 := HBX.out.snd
        have hxl := HBX.out.lt
        have hwr := hbel.size
        have HOH := Hd hoh
        have HOL := Hd hol
        clear hbx hoh hol hd hl hA hbel M1
        by_cases hM : 0 < M
        · have hkn : k < n := by
            rcases (show k < n ∨ k = n from by omega) with h | rfl
            · exact h
            · have h9 := HM.out; rw [Nat.sub_self] at h9; have h10 : Fr.ten 0 = 1 := rfl; omega
          have m0 : 0 ≤ M % 10 := Int.emod_nonneg M (by omega)
          have m9 : M % 10 ≤ 9 := by have := Int.emod_lt_of_pos M (b := 10) (by omega); omega
          obtain ⟨Q, hQ⟩ : ∃ Q, chgAt 1 es k (M % 10) = Q := ⟨_, rfl⟩
          have hcall := l5ChangeAdd_yes _ (some ⟨hi, 0, none⟩) (some ⟨lo, 0, none⟩) n ch cl es (k : Int) (M % 10) wr HOH.out.ints HOL.out.ints HD2.out h1 h6 rfl
          rw [frAt_in _ _ _ _ (by rw [HL2.out]; exact hkn) m0 m9, hQ] at hcall
          have HC := Hd hcall
          have HQ := Hd hQ
          clear hcall hQ
          go_wp2_with fail
          refine HC.out.mono ?_
          rintro e w4 hpost
          obtain ⟨A4, c4, A5, c5, rfl, ho4, hb4⟩ := hpost.out_
          have HO4 := Hd ho4
          have HZ4 := Hd (HZ2.out.next hb4)
          have HX4 := Hd (HBX.out.next hb4)
          have z40 := HZ4.out.fst
          have z41 := HZ4.out.snd
          have f40 := HZ4.out.free 0
          have f41 := HZ4.out.free 1
          have x40 := HX4.out.fst
          have x41 := HX4.out.snd
          have g40 := HX4.out.free 0
          have g41 := HX4.out.free 1
          have hxl4 := HX4.out.lt
          have hs4 := hb4.size
          have hza : w.heap.size + 1 < w4.heap.size := by omega
          have HB4 := Hd (below_chain HB2.out hb4)
          have HBL4 := Hd (HBL.out.trans (hb4.mono hwr))
          clear ho4 hb4 hpost z0 z1 f0 f1 x0 x1
          rcases Q with _ | ⟨es0, n0⟩
          · have he := HA.out
            rw [allP_none (by rw [HL2.out]; exact hkn) (by omega) HQ.out] at he
            subst he
            go_wp2
            exact bodyPost_ret (v := .tuple #[.agg #[.slice none 0 0, .slice none 0 0], .int .i64 0, .bool false]) (by simp [results, Tryz.results175, go_sem, hza, over_fst HZ4.out, over_snd HZ4.out]) rfl (FrRes.none_ ((below_over HB4.out (by omega) _ _).alloc (by simp; omega) _))
          · have hup := chgAt_upper HQ.out
            rw [HL2.out] at hup
            simp only at hup
            obtain ⟨u0, u1⟩ := hup
            have u2 : n0 ≤ 12 := by omega
            have hA2 := HA.out
            rw [allP_some (.inl rfl) HD2.out (by rw [HL2.out]; exact hkn) (by omega) HQ.out] at hA2
            have hq := HQ.out
            obtain ⟨q1, q2, q3⟩ := chgAt_digs (.inl rfl) HD2.out m0 m9 hq
            rw [HL2.out] at q2
            have s2 : resN (some (es0, n0)) = n0 := rfl
            have s3 : resL (some (es0, n0)) = es0 := rfl
            have ho4 := HO4.out
            rw [s3] at ho4
            rw [s2, s3, q2]
            obtain ⟨hi2, lo2, ch2, cl2, he, oh2, ol2, e1, e2, e3, e4, e5⟩ := ho4.parts q2 (by omega)
            rw [q2] at he
            injection he with he
            have he' := congrArg (fun a => a.toList) he
            simp only [List.cons.injEq, Value.slice.injEq, and_true, true_and] at he'
            obtain ⟨⟨rfl, rfl⟩, rfl, rfl⟩ := he'
            have HOH2 := Hd oh2
            have HOL2 := Hd ol2
            have HA2 := Hd hA2
            have HD3 := Hd q1
            have HL3' := Hd q2
            clear hq s2 s3 ho4 he oh2 ol2 hA2 q1 q2 q3 u1 HO4
            go_wp2
            go_roundw
            case rel =>
              refine ⟨k + 1, M / 10, p + n0, es0, hi2, lo2, c4, c5, by go_num, by go_num, by go_num, by omega, by omega, ?_, by omega, by omega, by omega, (HX4.out.over _ _).alloc _, ((HOH2.out.over2 (by omega) _ _).alloc _).mono hwr, ((HOL2.out.over2 (by omega) _ _).alloc _).mono hwr, e1, by omega, by omega, HD3.out, HL3'.out, HA2.out, (below_over HBL4.out d4 _ _).alloc (by simp; omega) _⟩
              have h9 := HM.out
              rw [show n - k = n - (k + 1) + 1 from by omega, Fr.ten_succ] at h9
              omega
            case measure => simp [intOf]; omega
        · obtain rfl : M = 0 := by omega
          have he := HA.out
          rw [allP_done] at he
          subst he
          have HF := Hd (FrOwn.of_parts HOH.out HOL.out d1 HL2.out)
          go_wp2
          refine bodyPost_ret (v := .tuple #[.agg #[.slice (some ⟨hi, 0, none⟩) n ch, .slice (some ⟨lo, 0, none⟩) n cl], .int .i64 p, .bool true]) (by simp [results, Tryz.results175, go_sem, over_fst HZ2.out, over_snd HZ2.out]) rfl ⟨⟨_, rfl, ?_⟩, below_over HB2.out (by omega) _ _⟩
          exact (HF.out.over (by omega) _ _).mono (by omega)
  · have he := HE.out
    rw [frBy_out (by rw [HL.out, HT.out]; exact hin)] at he
    subst he
    have l3 : (decide (0 ≤ N) && decide (N ≤ T - 1)) = false := by simp; omega
    have HL3 := Hd l3
    clear hin l3
    go_wp2_with fail
    refine (HP.out _).mono ?_
    rintro e w2 ⟨rfl, rfl⟩
    go_wp2_with fail
    refine (ten_in HL3.out _).mono ?_
    rintro e w2 ⟨rfl, rfl⟩
    go_wp2
    exact bodyPost_ret (v := .tuple #[.agg #[.slice none 0 0, .slice none 0 0], .int .i64 0, .bool false]) (by simp [results, Tryz.results175, go_sem, over_fst HZ.out, over_snd HZ.out]) rfl (FrRes.none_ (below_over HB.out (by omega) _ _))
theorem l5AllAdd_no (A A' : Option Addr) (n m c c' : Nat) (hs ls : List Int) (N : Int) (w : World) (hx : Ints w w.heap.size A n hs) (hy : Ints w w.heap.size A' m ls) (hno : ¬ FrOk hs ls) :
  Calls Tryz.prog 175 #[.agg #[.slice A n c, .slice A' m c'], .int .i64 N, .int .i64 1] w (FrRes w none) := by
 have HX := Hd hx
 have HY := Hd hy
 have HN := Hd hno
 clear hx hy hno
 go_enter Tryz.func175, Tryz.ntmps175
 go_wp2_with fail
 refine (specFrameValid_no A A' n m c c' hs ls _ ((HX.out.al _).al _) ((HY.out.al _).al _) HN.out).mono ?_
 rintro e w1 ⟨rfl, hb1⟩
 have hz := ((FBox.new (w.alloc (.cells #[.slice A n c, .slice A' m c'] 30)) (.slice none 0 0) (.slice none 0 0)).next hb1)
 have hz0 := hz.fst
 have hz1 := hz.snd
 have hf0 := hz.free 0
 have hf1 := hz.free 1
 simp only [World.size_alloc] at hz hz0 hz1 hf0 hf1
 have HZ := Hd hz
 have HB := Hd ((below_two w _ _).trans (hb1.mono (by simp; omega)))
 clear hz hb1
 go_wp2
 exact bodyPost_ret (v := .tuple #[.agg #[.slice none 0 0, .slice none 0 0], .int .i64 0, .bool false]) (by simp [results, Tryz.results175, go_sem, over_fst HZ.out, over_snd HZ.out]) rfl (FrRes.none_ (below_over HB.out (by omega) _ _))
theorem l5AllAdd_any (A A' : Option Addr) (n m c c' : Nat) (hs ls : List Int) (N : Int) (R : Option (List Int × Int)) (w : World) (hx : Ints w w.heap.size A n hs) (hy : Ints w w.heap.size A' m ls) (hR : frOf hs ls (fun ds => frBy 1 ds N) R) :
  Calls Tryz.prog 175 #[.agg #[.slice A n c, .slice A' m c'], .int .i64 N, .int .i64 1] w (FrRes w R) := by
 rcases hR with ⟨hno, rfl⟩ | ⟨ds, hd, rfl, rfl, h1, h6, rfl⟩
 ·exact l5AllAdd_no A A' n m c c' hs ls N w hx hy hno
 ·have e1 := hx.len
  have e2 := hy.len
  rw [HiL_length] at e1
  rw [LoL_length] at e2
  subst e1
  subst e2
  exact l5AllAdd_yes A A' _ c c' ds N w hx hy hd h1 h6
theorem specFrameSum_any (A A' : Option Addr) (n m c c' : Nat) (hs ls : List Int) (N : Int) (R : Option (List Int × Int)) (w : World) (hx : Ints w w.heap.size A n hs) (hy : Ints w w.heap.size A' m ls) (hR : frOf hs ls (fun ds => frBy 1 ds N) R) :
  Calls Tryz.prog 135 #[.agg #[.slice A n c, .slice A' m c'], .int .i64 N] w (FrRes w R) := by
 have HX := Hd hx
 have HY := Hd hy
 have HE := Hd hR
 clear hx hy hR
 go_enter Tryz.func135, Tryz.ntmps135
 go_wp2_with fail
 refine (l5AllAdd_any A A' n m c c' hs ls N R _ ((HX.out.al _).al _) ((HY.out.al _).al _) HE.out).mono ?_
 rintro e w1 ⟨⟨v, rfl, ho⟩, hb1⟩
 have hz := ((FBox.new (w.alloc (.cells #[.slice A n c, .slice A' m c'] 30)) (.slice none 0 0) (.slice none 0 0)).next hb1)
 have hz0 := hz.fst
 have hz1 := hz.snd
 have hf0 := hz.free 0
 have hf1 := hz.free 1
 simp only [World.size_alloc] at hz hz0 hz1 hf0 hf1 ho
 have HZ := Hd hz
 have HB := Hd ((below_two w _ _).trans (hb1.mono (by simp; omega)))
 have HO := Hd ho
 obtain ⟨A2, c2, A3, c3, rfl, -⟩ := ho
 clear hz hb1
 go_wp2
 refine bodyPost_ret (v := .tuple #[.agg #[.slice A2 (resL R).length c2, .slice A3 (resL R).length c3], .int .i64 (resN R), .bool R.isSome]) (by simp [results, Tryz.results135, go_sem, over_fst HZ.out, over_snd HZ.out]) rfl ⟨⟨_, rfl, ?_⟩, below_over HB.out (by omega) _ _⟩
 exact (HO.out.over (by omega) _ _).mono (by omega)
end Go.Proofs.YthdoofmfigemoaaGreatDoor
