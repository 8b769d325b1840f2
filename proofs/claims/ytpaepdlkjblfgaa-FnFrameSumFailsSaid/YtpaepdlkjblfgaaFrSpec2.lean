/-
  A frame with another digit on a rod: l5Set of the reference.
-/
import Derived.Test.YtpaepdlkjblfgaaFrSpec
import Derived.Deep.RegionHeld3
import Derived.Deep.RegionLawGrows
import Derived.Deep.DeepCutAuto
namespace Go.Proofs.Ytpaepdlkjblfgaa
open Go.RowKit

/-- what was there at W is there -/
def SB (W w : World) : Prop := Below W.heap.size W w
theorem SB.alloc {W w : World} (h : SB W w) (o : Obj) : SB W (w.alloc o) := Below.alloc h h.size o
theorem SB.drew {W w : World} (h : SB W w) : SB W w.drew := Below.drew h
theorem SB.grown {W w w' : World} (h : SB W w) (hg : w.grownBy w' none) : SB W w' := Below.grown h hg h.size (by simp)
theorem bgrown {w w1 : World} (hg : w.grownBy w1 none) : (∀ b o, b < w.heap.size → w1.cell? ⟨b, o, none⟩ = w.cell? ⟨b, o, none⟩) ∧ (∀ b o, b < w.heap.size → w1.frozen? ⟨b, o, none⟩ = w.frozen? ⟨b, o, none⟩) :=
  bcell ⟨hg.os, hg.tape, hg.output, hg.size, fun k hk => hg.block k hk (by simp)⟩
theorem size_drew_ (w : World) : w.drew.heap.size = w.heap.size := rfl
theorem SB.refl (W : World) : SB W W := Below.refl _ W

/-- append([]int{}, us...): a row of its own in a new block -/
theorem step_app_fresh {ops : Array Oper} {o : Oper} {a : Act} {w : World} {K : Act → World → Prop} {Q : Exit → Act → World → Prop} {E : Prop} (hgd : o.guard = none) (s x : Operand)
    (ho : o.op = .call { callee := .builtin .append, args := #[s, x], argTypes := #[23, 23] })
    {p : Addr} (hs : a.eval s = .slice (some p) 0 0) {B m c0 : Nat} {A : Option Addr} {us : List Int}
    (hx : a.eval x = .slice A m c0) (hr : Ints w B A m us) (hm : 0 < m)
    (h : ∀ g c' w', Own w' w.heap.size (some ⟨g, 0, none⟩) m c' us → w.grownBy w' none → K (a.put o.dst (.slice (some ⟨g, 0, none⟩) m c')) w') :
    if Region.wanted o (yielded ops a.tmps) = true then Oper.wp Try.prog o a w K Q else E := by
  obtain ⟨i0, hi, hz0, hz1, hz2⟩ := info_parts own_int_info
  have hl := hr.len
  have hb := hr.bound
  obtain ⟨b, off, rfl, hlt, hc⟩ := hr.addr hm
  refine step_append_grows hgd s x 23 ho 3 i0 (.int .i64 0) 1 8 Try.underlying23 hi hz0 hz1 hz2 rfl (by decide) (some p) 0 0 [] hs (by simp) rfl (by intro b _ j u hj; simp at hj)
    ⟨b, off, none⟩ m c0 (IV us) hx (by simp [IV, hl]) ?_ (IV_one us) (by omega) (by unfold maxLen; omega) (by omega) ?_
  · intro j u hj
    have hj' : (us.map (Value.int .i64))[j]? = some u := hj
    rw [List.getElem?_map] at hj'
    obtain ⟨z, hz, rfl⟩ := Option.map_eq_some_iff.1 hj'
    have e : (⟨b, off, none⟩ : Addr).add j = ⟨b, off + j, none⟩ := by unfold Addr.add; split <;> simp_all
    rw [e]
    exact hc j z hz
  · intro v' w' hown hg
    obtain ⟨A', c', rfl, h'⟩ := Own.of_app (xs := []) us rfl hown (by omega)
    simp only [Nat.zero_add, List.nil_append] at h'
    obtain ⟨g, rfl, _⟩ := h'.at_ hm
    simp only [Nat.zero_add]
    exact h g c' w' h' hg

theorem HiL_set (ds : List Int) (k : Nat) (x : Int) : HiL (ds.set k x) = (HiL ds).set k (x / 5) := by simp [HiL, List.map_set]
theorem LoL_set (ds : List Int) (k : Nat) (x : Int) : LoL (ds.set k x) = (LoL ds).set k (x % 5) := by simp [LoL, List.map_set]
theorem fill2 {wr : World} {B hi lo n c c' k : Nat} {xs ys : List Int} (oh : Own wr B (some ⟨hi, 0, none⟩) n c xs) (ol : Own wr B (some ⟨lo, 0, none⟩) n c' ys) (hne : hi ≠ lo) (u v : Int) :
    Own ((wr.setCell ⟨hi, k, none⟩ (.int .i64 u)).setCell ⟨lo, k, none⟩ (.int .i64 v)) B (some ⟨hi, 0, none⟩) n c (xs.set k u) ∧ Own ((wr.setCell ⟨hi, k, none⟩ (.int .i64 u)).setCell ⟨lo, k, none⟩ (.int .i64 v)) B (some ⟨lo, 0, none⟩) n c' (ys.set k v) := by
  have h1 := oh.store k u
  have h2 := (ol.kept h1.2 (by rintro j e1 e2; injection e1 with e1; injection e2 with e2; exact hne (e2.trans e1.symm))).store k v
  exact ⟨h1.1.kept h2.2 (by rintro j e1 e2; injection e1 with e1; injection e2 with e2; exact hne (e1.trans e2.symm)), h2.1⟩
/-- a new frame over two rows -/
def L5Q (W : World) (n : Nat) (xs ys : List Int) (s : Value) (wx : World) : Prop :=
  ∃ bx hi lo ch cl : Nat, s = .pointer (some ⟨bx, 0, none⟩) ∧ Box wx bx (.slice (some ⟨hi, 0, none⟩) n ch) (.slice (some ⟨lo, 0, none⟩) n cl) ∧
    Own wx W.heap.size (some ⟨hi, 0, none⟩) n ch xs ∧ Own wx W.heap.size (some ⟨lo, 0, none⟩) n cl ys ∧ hi ≠ lo ∧ bx ≠ hi ∧ bx ≠ lo ∧ W.heap.size ≤ bx ∧ Below W.heap.size W wx
theorem Own.block {w w' : World} {B g n c : Nat} {xs : List Int} (h : Own w B (some ⟨g, 0, none⟩) n c xs) (e : w'.heap[g]? = w.heap[g]?) : Own w' B (some ⟨g, 0, none⟩) n c xs := by
  refine ⟨⟨h.1.1, ?_⟩, h.2⟩
  rcases h.1.2 with ⟨h0, _⟩ | ⟨g', cap, cur, hv, h1, hg, rest⟩
  · cases h0
  · injection hv with e1 e2 e3
    injection e1 with e1
    injection e1 with e1
    subst e1
    subst e3
    exact .inr ⟨g, c, cur, rfl, h1, e.trans hg, rest⟩
theorem l5leafA {W w2 : World} {hi lo n ch cl : Nat} {xs ys : List Int} (h1 : Own w2 W.heap.size (some ⟨hi, 0, none⟩) n ch xs) (h2 : Own w2 W.heap.size (some ⟨lo, 0, none⟩) n cl ys) (hne : hi ≠ lo) (hb : SB W w2) :
    L5Q W n xs ys (.pointer (some ⟨w2.heap.size, 0, none⟩)) (w2.alloc (.cells #[.slice (some ⟨hi, 0, none⟩) n ch, .slice (some ⟨lo, 0, none⟩) n cl] 25)) := by
  have b1 := (h1.blk hi rfl).2
  have b2 := (h2.blk lo rfl).2
  exact ⟨_, hi, lo, ch, cl, rfl, Box.new w2 _ _, h1.alloc _, h2.alloc _, hne, by omega, by omega, Below.size hb, hb.alloc _⟩
theorem l5leafB {W w2 : World} {bx hi lo n ch cl : Nat} {xs ys : List Int} (h1 : Own w2 W.heap.size (some ⟨hi, 0, none⟩) n ch xs) (h2 : Own w2 W.heap.size (some ⟨lo, 0, none⟩) n cl ys) (hne : hi ≠ lo) (hb : SB W w2)
    (hbx : w2.heap[bx]? = some (.cells #[.slice none 0 0, .slice none 0 0] 25)) (h3 : bx ≠ hi) (h4 : bx ≠ lo) (h5 : W.heap.size ≤ bx) :
    L5Q W n xs ys (.pointer (some ⟨bx, 0, none⟩)) ((w2.setCell ⟨bx, 0, none⟩ (.slice (some ⟨hi, 0, none⟩) n ch)).setCell ⟨bx, 1, none⟩ (.slice (some ⟨lo, 0, none⟩) n cl)) := by
  refine ⟨bx, hi, lo, ch, cl, rfl, Box.over hbx _ _, h1.block ?_, h2.block ?_, hne, h3, h4, h5, below_over hb h5 _ _⟩
  · exact (heap_setCell_other _ _ hi _ (fun e => h3 e.symm)).trans (heap_setCell_other _ _ hi _ (fun e => h3 e.symm))
  · exact (heap_setCell_other _ _ lo _ (fun e => h4 e.symm)).trans (heap_setCell_other _ _ lo _ (fun e => h4 e.symm))

set_option maxRecDepth 100000 in
set_option maxHeartbeats 8000000 in
theorem l5Set_any (A A' : Option Addr) (n c c' : Nat) (ds : List Int) (k : Nat) (x : Int) (w : World) (hx : Ints w w.heap.size A n (HiL ds)) (hy : Ints w w.heap.size A' n (LoL ds)) (hk : k < n) (hn : n ≤ 6) (x0 : 0 ≤ x) (x9 : x ≤ 9) :
    Calls Try.prog 76 #[.agg #[.slice A n c, .slice A' n c'], .int .i64 (k : Int), .int .i64 x] w fun e w' => (∃ v, e = .returned v ∧ FrOwn w' w.heap.size v (ds.set k x)) ∧ Below w.heap.size w w' := by
  have hl : ds.length = n := by have := hx.len; rwa [HiL_length] at this
  have hpos : 0 < n := by omega
  have HL := Lib.hid hl
  obtain ⟨W, hW⟩ : ∃ W, (w.alloc (.cells #[.slice A n c, .slice A' n c'] 25)).alloc (.cells #[.slice none 0 0, .slice none 0 0] 25) = W := ⟨_, rfl⟩
  have HX := Lib.hid (hW ▸ (hx.al (.cells #[.slice A n c, .slice A' n c'] 25)).al (.cells #[.slice none 0 0, .slice none 0 0] 25))
  have HY := Lib.hid (hW ▸ (hy.al (.cells #[.slice A n c, .slice A' n c'] 25)).al (.cells #[.slice none 0 0, .slice none 0 0] 25))
  have HB := Lib.hid (hW ▸ below_two w (.cells #[.slice A n c, .slice A' n c'] 25) (.cells #[.slice none 0 0, .slice none 0 0] 25))
  have HV := Lib.hid (hW ▸ (Box.new w (.slice A n c) (.slice A' n c')).alloc (.cells #[.slice none 0 0, .slice none 0 0] 25))
  have HZ := Lib.hid (hW ▸ Box.new (w.alloc (.cells #[.slice A n c, .slice A' n c'] 25)) (.slice none 0 0) (.slice none 0 0))
  have hsW : W.heap.size = w.heap.size + 1 + 1 := by rw [← hW]; simp
  have HSW := Lib.hid hsW
  have hlW : w.heap.size < W.heap.size := by omega
  have b0 := HV.out.fst
  have b1 := HV.out.snd
  have KS : Hid (∀ w', SB W w' → (w'.cell? ⟨w.heap.size, 0, none⟩ = some (.slice A n c) ∧ w'.cell? ⟨w.heap.size, 1, none⟩ = some (.slice A' n c') ∧ SB W w')) :=
    Lib.hid fun w' h => ⟨(Below.cell h (p := ⟨w.heap.size, 0, none⟩) hlW).trans b0, (Below.cell h (p := ⟨w.heap.size, 1, none⟩) hlW).trans b1, h⟩
  have hsb := SB.refl W
  have HWW := Lib.hid hW
  clear hx hy hl hsW hW
  go_enter Try.func76, Try.ntmps76
  go_upto_region 1 with fail
  rw [HWW.out]
  go_cut [7] (fun s7 wx => L5Q W n (HiL ds) (LoL ds) s7 wx)
  case first =>
    go_region_held3 (fun w' => w'.cell? ⟨w.heap.size, 0, none⟩ = some (.slice A n c) ∧ w'.cell? ⟨w.heap.size, 1, none⟩ = some (.slice A' n c') ∧ SB W w')
      (first
        | ((try go_split_ands); refine KS.out _ ?_; first | assumption | (exact SB.drew (by assumption)) | (exact SB.alloc (by assumption) _) | (exact SB.grown (by assumption) (by assumption)) | (exact Below.setCell (Below.setCell (by assumption : SB W _) (by first | omega | (simp <;> omega)) _) (by first | omega | (simp <;> omega)) _)))
      (first
        | ((try go_split_ands); (refine step_app_fresh (by rfl) (.tmp 8) (.tmp 10) (by rfl) (by rfl) (by rfl) (HX.out.below (by assumption : SB W _)) hpos ?_; intro hi ch w1 ho1 hg1; obtain ⟨hc1, hf1⟩ := bgrown hg1; have hs1 : SB W w1 := SB.grown (by assumption) hg1; have hz1 := hg1.size; (try simp at hz1); have hy1 := hs1.size; (try have q1 : W.heap.size < w1.heap.size := by omega); (try have q2 : W.heap.size < w1.heap.size + 1 := by omega); (try have q3 : W.heap.size < w1.heap.size + 1 + 1 := by omega); (try have q4 : W.heap.size + 1 < w1.heap.size := by omega); (try have q5 : W.heap.size + 1 < w1.heap.size + 1 := by omega); (try have q6 : W.heap.size + 1 < w1.heap.size + 1 + 1 := by omega); (try have q7 : W.heap.size + 1 + 1 < w1.heap.size := by omega); (try have q8 : W.heap.size + 1 + 1 < w1.heap.size + 1 := by omega); (try have q9 : W.heap.size + 1 + 1 < w1.heap.size + 1 + 1 := by omega)))
        | ((try go_split_ands); (refine step_app_fresh (by rfl) (.tmp 12) (.tmp 14) (by rfl) (by rfl) (by rfl) (HY.out.below (by assumption : SB W _)) hpos ?_; intro lo cl w2 ho2 hg2; obtain ⟨hc2, hf2⟩ := bgrown hg2; have hs2 : SB W w2 := SB.grown (by assumption) hg2; have hz2 := hg2.size; (try simp at hz2); have hy2 := hs2.size)))
    all_goals go_wp2_with fail
    all_goals go_meet
    all_goals
      have v1 := ho1.blk hi rfl
      have v2 := ho2.blk lo rfl
      simp only [World.size_alloc, size_drew_] at v1 v2
      have e12 : w2.heap[hi]? = w1.heap[hi]? := by
        refine (hg2.block hi (by first | omega | (simp <;> omega)) (by simp)).trans ?_
        first
          | rfl
          | exact Below.heap_alloc _ _ _ (by omega)
          | (rw [Below.heap_alloc _ _ _ (by simp <;> omega)]; exact Below.heap_alloc _ _ _ (by omega))
      have o1 := (ho1.block e12).mono (show W.heap.size ≤ _ by first | omega | (simp <;> omega))
      have o2 := ho2.mono (show W.heap.size ≤ _ by first | omega | (simp <;> omega))
      first
        | exact l5leafA o1 o2 (by omega) hs2
        | (refine l5leafB o1 o2 (by omega) hs2 ?_ (by omega) (by omega) (by omega)
           rw [hg2.block _ (by first | omega | (simp <;> omega)) (by simp)]
           repeat (first
             | (simp only [heap_drew, heap_alloc_if, World.size_alloc, if_true]; done)
             | rw [if_pos (by omega)]
             | rw [if_neg (by omega)]
             | simp only [heap_drew, heap_alloc_if, World.size_alloc, if_true]
             | rw [hg1.block _ (by first | omega | (simp <;> omega)) (by simp)]))
  case rest =>
    obtain ⟨bx, hi, lo, ch, cl, rfl, hbx, hoh, hol, d1, d2, d3, d4, hbel⟩ := hcut
    have hbc := Box.fst hbx
    have hbd := Box.snd hbx
    have hbl := Box.lt hbx
    have hln := HL.out
    have hlh := HiL_length ds
    have hll := LoL_length ds
    rw [hln] at hlh hll
    obtain ⟨u, hu⟩ : ∃ u, (HiL ds)[k]? = some u := ⟨_, List.getElem?_eq_getElem (by omega)⟩
    obtain ⟨v, hv⟩ : ∃ v, (LoL ds)[k]? = some v := ⟨_, List.getElem?_eq_getElem (by omega)⟩
    obtain ⟨g7, e7, g70, hil, hc7, hf7⟩ := hoh.at_ (by omega)
    obtain rfl : hi = g7 := by simpa using e7
    have hco := hc7 k u hu
    have hfo := hf7 k
    obtain ⟨g8, e8, g80, lol, hc8, hf8⟩ := hol.at_ (by omega)
    obtain rfl : lo = g8 := by simpa using e8
    have hco' := hc8 k v hv
    have hfo' := hf8 k
    have hzw := HSW.out
    have hzz := Box.keep HZ.out (hbel.block _ (by rw [World.size_alloc]; omega))
    simp only [World.size_alloc] at hzz
    have hz0 := hzz.fst
    have hz1 := hzz.snd
    have hy0 := hzz.free 0
    have hy1 := hzz.free 1
    have HZ2 := Lib.hid hzz
    have HBX := Lib.hid hbx
    have HOH := Lib.hid hoh
    have HOL := Lib.hid hol
    have HB2 := Lib.hid hbel
    have k0 : (0 : Int) ≤ (k : Int) := by omega
    have k1 : (k : Int) < (n : Int) := by omega
    have hza : w.heap.size + 1 < wc.heap.size := by have := hbel.size; omega
    have n1 : ¬ (w.heap.size + 1 = hi) := by omega
    have n2 : ¬ (w.heap.size + 1 = lo) := by omega
    have n3 : ¬ (w.heap.size + 1 = bx) := by omega
    clear hbx hoh hol hbel hc7 hf7 hc8 hf8 e7 e8 hln hlh hll hu hv hzz hzw b0 b1
    go_wp2
    obtain ⟨q1, q2⟩ := fill2 (k := k) HOH.out HOL.out d1 (x / 5) (x % 5)
    have hz2 := HZ2.out.set2 (p := ⟨hi, k, none⟩) (q := ⟨lo, k, none⟩) n1 n2 (.int .i64 (x / 5)) (.int .i64 (x % 5))
    have hl := HL.out
    subst hl
    refine bodyPost_ret (v := .agg #[.slice (some ⟨hi, 0, none⟩) ds.length ch, .slice (some ⟨lo, 0, none⟩) ds.length cl]) (by simp [results, Try.results76, go_sem, over_fst hz2, over_snd hz2]) rfl ⟨⟨_, rfl, ?_⟩, ?_⟩
    · have hso := HSW.out
      refine (FrOwn.over (B := W.heap.size) ⟨some ⟨hi, 0, none⟩, ch, some ⟨lo, 0, none⟩, cl, ?_, ?_, ?_, ?_, ?_⟩ (by omega) _ _).mono (by omega)
      · rw [List.length_set]
      · rw [List.length_set, HiL_set]; exact q1
      · rw [List.length_set, LoL_set]; exact q2
      · exact apart_of d1
      · exact apart_of (Ne.symm d1)
    · have hso := HSW.out
      exact below_over ((HB.out.trans (HB2.out.mono (by omega))).setCell (p := ⟨hi, k, none⟩) (by show w.heap.size ≤ hi; omega) _ |>.setCell (p := ⟨lo, k, none⟩) (by show w.heap.size ≤ lo; omega) _) (by omega) _ _
end Go.Proofs.Ytpaepdlkjblfgaa
