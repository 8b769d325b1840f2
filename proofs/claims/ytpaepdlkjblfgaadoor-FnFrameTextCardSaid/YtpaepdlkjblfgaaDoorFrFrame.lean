/-
  The rods as a new frame.
-/
import Derived.Test.YtpaepdlkjblfgaaDoorFrRods
import Derived.Test.YtpaepdlkjblfgaaDoorExactKit
import Derived.Deep.RegionLaw
import Derived.Deep.DeepCutAuto
namespace Go.Proofs.YtpaepdlkjblfgaaDoor
open Go.RowKit

/-- a frame of the call's own -/
def FrOwn (w : World) (B : Nat) (v : Value) (ds : List Int) : Prop :=
  ∃ A c A' c', v = .agg #[.slice A ds.length c, .slice A' ds.length c'] ∧ Own w B A ds.length c (HiL ds) ∧ Own w B A' ds.length c' (LoL ds) ∧ Apart (.slice A ds.length c) (.slice A' ds.length c') ∧ Apart (.slice A' ds.length c') (.slice A ds.length c)

theorem run_make_ints (w : World) (n : Nat) (hn : n ≤ 1000) :
    (Instr.makeSlice 23 (.int .i64 (n : Int)) (.int .i64 (n : Int))).run Tryd.prog w = .ok (.slice (some ⟨w.heap.size, 0, none⟩) n n) (w.alloc (.cells (IV (List.replicate n 0)).toArray 3)) := by
  obtain ⟨i0, hi, hz0, hz1, hz2⟩ := info_parts own_int_info
  have hr := run_make (P := Tryd.prog) w 23 3 i0 (.int .i64 0) Tryd.underlying23 hi hz0 .i64 .i64 n n (by omega) (Int.le_refl _) (by rw [hz2]; omega) (by omega)
  simp only [Int.toNat_natCast] at hr
  rw [hr]
  have e : madeCells (Value.int .i64 0).cells (n * i0.size) = (IV (List.replicate n 0)).toArray := by
    rw [hz1, Nat.mul_one]
    apply Array.ext'
    exact (toList_madeCells_one _ _).trans (by simp [IV])
  rw [← e]

/-- two new rows and the frame over them -/
def FrNew (W : World) (bx hi lo n : Nat) (wx : World) : Prop :=
  Box wx bx (.slice (some ⟨hi, 0, none⟩) n n) (.slice (some ⟨lo, 0, none⟩) n n) ∧ Box wx W.heap.size (.slice none 0 0) (.slice none 0 0) ∧
  Own wx W.heap.size (some ⟨hi, 0, none⟩) n n (List.replicate n 0) ∧ Own wx W.heap.size (some ⟨lo, 0, none⟩) n n (List.replicate n 0) ∧
  hi ≠ lo ∧ bx ≠ hi ∧ bx ≠ lo ∧ W.heap.size < bx ∧ W.heap.size < hi ∧ W.heap.size < lo ∧ Below W.heap.size W wx
theorem heap_alloc_if (w : World) (o : Obj) (k : Nat) : (w.alloc o).heap[k]? = if k = w.heap.size then some o else w.heap[k]? := by
  by_cases h : k = w.heap.size
  · subst h; rw [if_pos rfl]; exact heap_alloc_new w o
  · rw [if_neg h]
    by_cases hk : k < w.heap.size
    · exact Below.heap_alloc w o k hk
    · rw [Array.getElem?_eq_none (by simp; omega), Array.getElem?_eq_none (by omega)]
theorem heap_drew (w : World) (k : Nat) : w.drew.heap[k]? = w.heap[k]? := rfl
theorem own_lit_at (w' : World) (us : List Int) (B n b : Nat) (hl : us.length = n) (hn : n ≤ 1099511627776) (hB : B ≤ b) (hb : w'.heap[b]? = some (.cells (IV us).toArray 3)) : Own w' B (some ⟨b, 0, none⟩) n n us := by
  refine ⟨⟨by simp [IV, hl], .inr ⟨b, n, (IV us).toArray, rfl, hB, hb, Nat.le_refl _, by unfold maxLen; omega, by simp [IV, hl], ?_⟩⟩, hn⟩
  rw [List.take_of_length_le (by simp [IV, hl])]
theorem apart_of {a b n m c d : Nat} (h : a ≠ b) : Apart (.slice (some ⟨a, 0, none⟩) n c) (.slice (some ⟨b, 0, none⟩) m d) := by
  rintro k e1 e2
  injection e1 with e1
  injection e2 with e2
  exact h (e2.trans e1.symm)
theorem fill_step {wr : World} {B hi lo n c c' k : Nat} {xs ys : List Int} (oh : Own wr B (some ⟨hi, 0, none⟩) n c xs) (ol : Own wr B (some ⟨lo, 0, none⟩) n c' ys) (hne : hi ≠ lo) (u v : Int) (o : Obj) :
    Own (((wr.setCell ⟨hi, k, none⟩ (.int .i64 u)).setCell ⟨lo, k, none⟩ (.int .i64 v)).alloc o) B (some ⟨hi, 0, none⟩) n c (xs.set k u) ∧ Own (((wr.setCell ⟨hi, k, none⟩ (.int .i64 u)).setCell ⟨lo, k, none⟩ (.int .i64 v)).alloc o) B (some ⟨lo, 0, none⟩) n c' (ys.set k v) := by
  have h1 := oh.store k u
  have h2 := (ol.kept h1.2 (by rintro j e1 e2; injection e1 with e1; injection e2 with e2; exact hne (e2.trans e1.symm))).store k v
  exact ⟨(h1.1.kept h2.2 (by rintro j e1 e2; injection e1 with e1; injection e2 with e2; exact hne (e1.trans e2.symm))).alloc o, h2.1.alloc o⟩
theorem Box.set2 {w : World} {b : Nat} {u v : Value} (h : Box w b u v) {p q : Addr} (h1 : b ≠ p.block) (h2 : b ≠ q.block) (x y : Value) : Box ((w.setCell p x).setCell q y) b u v :=
  h.keep ((heap_setCell_other _ q b _ h2).trans (heap_setCell_other _ p b _ h1))
set_option maxRecDepth 100000 in
set_option maxHeartbeats 2000000 in
theorem frame_any (w : World) (B g h : Nat) (ds : List Int) (n : Nat) (hr : Rods w B g h ds) (hn : ds.length = n) (hds : Fr.Digs ds) (h6 : n ≤ 6) :
    Calls Tryd.prog 23 #[.pointer (some ⟨g, 0, none⟩)] w fun e w' => (∃ v, e = .returned v ∧ FrOwn w' w.heap.size v ds) ∧ Below w.heap.size w w' := by
  have hsl := hr.slice
  rw [hn] at hsl
  have hgl := hr.gl
  have hhl := hr.hl
  have HR := Lib.hid hr
  have HD := Lib.hid hds
  have HN := Lib.hid hn
  clear hr hds hn
  go_enter Tryd.func23, Tryd.ntmps23
  go_upto_region 1 with fail
  go_cut [3] (fun s3 wx => ∃ bx hi lo : Nat, s3 = .pointer (some ⟨bx, 0, none⟩) ∧ FrNew w bx hi lo n wx)
  case first =>
    have hmk : ∀ v : World, (Instr.makeSlice 23 (.int .i64 (n : Int)) (.int .i64 (n : Int))).run Tryd.prog v = .ok (.slice (some ⟨v.heap.size, 0, none⟩) n n) (v.alloc (.cells (IV (List.replicate n 0)).toArray 3)) := fun v => run_make_ints v n (by omega)
    have g1 : g < w.heap.size + 1 := by omega
    have g2 : g < w.heap.size + 1 + 1 := by omega
    have g3 : g < w.heap.size + 1 + 1 + 1 := by omega
    have g4 : g < w.heap.size + 1 + 1 + 1 + 1 := by omega
    go_region
    all_goals clear hmk
    all_goals go_wp2_with fail
    all_goals go_meet
    all_goals (first
      | (refine ⟨w.heap.size + 1, w.heap.size + 1 + 1, w.heap.size + 1 + 1 + 1, rfl, ?_, ?_, own_lit_at _ _ _ _ _ (by simp) (by omega) (by omega) ?_, own_lit_at _ _ _ _ _ (by simp) (by omega) (by omega) ?_, by omega, by omega, by omega, by omega, by omega, by omega, ?_⟩; · (simp only [Box, heap_drew, heap_alloc_if, World.size_alloc, if_true]; repeat (first | rw [if_pos (by omega)] | rw [if_neg (by omega)])))
      | (refine ⟨w.heap.size + 1, w.heap.size + 1 + 1 + 1, w.heap.size + 1 + 1, rfl, ?_, ?_, own_lit_at _ _ _ _ _ (by simp) (by omega) (by omega) ?_, own_lit_at _ _ _ _ _ (by simp) (by omega) (by omega) ?_, by omega, by omega, by omega, by omega, by omega, by omega, ?_⟩; · (simp only [Box, heap_drew, heap_alloc_if, World.size_alloc, if_true]; repeat (first | rw [if_pos (by omega)] | rw [if_neg (by omega)])))
      | (refine ⟨w.heap.size + 1 + 1, w.heap.size + 1, w.heap.size + 1 + 1 + 1, rfl, ?_, ?_, own_lit_at _ _ _ _ _ (by simp) (by omega) (by omega) ?_, own_lit_at _ _ _ _ _ (by simp) (by omega) (by omega) ?_, by omega, by omega, by omega, by omega, by omega, by omega, ?_⟩; · (simp only [Box, heap_drew, heap_alloc_if, World.size_alloc, if_true]; repeat (first | rw [if_pos (by omega)] | rw [if_neg (by omega)])))
      | (refine ⟨w.heap.size + 1 + 1, w.heap.size + 1 + 1 + 1, w.heap.size + 1, rfl, ?_, ?_, own_lit_at _ _ _ _ _ (by simp) (by omega) (by omega) ?_, own_lit_at _ _ _ _ _ (by simp) (by omega) (by omega) ?_, by omega, by omega, by omega, by omega, by omega, by omega, ?_⟩; · (simp only [Box, heap_drew, heap_alloc_if, World.size_alloc, if_true]; repeat (first | rw [if_pos (by omega)] | rw [if_neg (by omega)])))
      | (refine ⟨w.heap.size + 1 + 1 + 1, w.heap.size + 1, w.heap.size + 1 + 1, rfl, ?_, ?_, own_lit_at _ _ _ _ _ (by simp) (by omega) (by omega) ?_, own_lit_at _ _ _ _ _ (by simp) (by omega) (by omega) ?_, by omega, by omega, by omega, by omega, by omega, by omega, ?_⟩; · (simp only [Box, heap_drew, heap_alloc_if, World.size_alloc, if_true]; repeat (first | rw [if_pos (by omega)] | rw [if_neg (by omega)])))
      | (refine ⟨w.heap.size + 1 + 1 + 1, w.heap.size + 1 + 1, w.heap.size + 1, rfl, ?_, ?_, own_lit_at _ _ _ _ _ (by simp) (by omega) (by omega) ?_, own_lit_at _ _ _ _ _ (by simp) (by omega) (by omega) ?_, by omega, by omega, by omega, by omega, by omega, by omega, ?_⟩; · (simp only [Box, heap_drew, heap_alloc_if, World.size_alloc, if_true]; repeat (first | rw [if_pos (by omega)] | rw [if_neg (by omega)]))))
    all_goals (first
      | exact ((((((Below.refl _ _).alloc (Nat.le_refl _) _).alloc (by simp) _).alloc (by simp; omega) _).alloc (by simp; omega) _)).drew
      | (simp only [Box, heap_drew, heap_alloc_if, World.size_alloc, if_true]; repeat (first | rw [if_pos (by omega)] | rw [if_neg (by omega)])))
  case rest =>
    obtain ⟨bx, hi, lo, rfl, hbx, hb0, hoh, hol, d1, d2, d3, d4, d5, d6, hbel⟩ := hcut
    have HX0 := Lib.hid hbx
    have HZ0 := Lib.hid hb0
    have HH0 := Lib.hid hoh
    have HL0 := Lib.hid hol
    have HB0 := Lib.hid hbel
    have hslc := ((HR.out.keep (hbel.block g hgl) (hbel.block h hhl)).slice)
    rw [HN.out] at hslc
    clear hbx hb0 hoh hol hbel hsl
    go_wp2
    go_loopw [21] (fun i wr => ∃ k : Nat, k ≤ n ∧ i = .int .i64 (k : Int) ∧ Box wr bx (.slice (some ⟨hi, 0, none⟩) n n) (.slice (some ⟨lo, 0, none⟩) n n) ∧ Box wr w.heap.size (.slice none 0 0) (.slice none 0 0) ∧ Own wr w.heap.size (some ⟨hi, 0, none⟩) n n ((HiL ds).take k ++ List.replicate (n - k) 0) ∧ Own wr w.heap.size (some ⟨lo, 0, none⟩) n n ((LoL ds).take k ++ List.replicate (n - k) 0) ∧ Below w.heap.size w wr) (fun i _ => n - (intOf i).toNat)
    case atStart => exact ⟨0, by omega, rfl, HX0.out, HZ0.out, by simpa using HH0.out, by simpa using HL0.out, HB0.out⟩
    case round =>
      clear HX0 HZ0 HH0 HL0 HB0 hslc
      obtain ⟨k, hk, rfl, hbx, hb0, hoh, hol, hbel⟩ := hrel
      have hbc := hbx.fst
      have hbd := hbx.snd
      have hz0 := hb0.fst
      have hz1 := hb0.snd
      have hbxl := hbx.lt
      have hzl := hb0.lt
      have hfz : ∀ j, wr.frozen? ⟨w.heap.size, j, none⟩ = false := fun j => by have := hb0; unfold Box at this; simp [World.frozen?, this]
      have hf0 := hfz 0
      have hf1 := hfz 1
      have HX := Lib.hid hbx
      have HZ := Lib.hid hb0
      have HB := Lib.hid hbel
      have hszr := hbel.size
      clear hbx hb0 hbel hfz
      by_cases hlt : k < n
      · obtain ⟨d, hd⟩ : ∃ d, ds[k]? = some d := ⟨_, List.getElem?_eq_getElem (by have := HN.out; omega)⟩
        have hrr := HR.out.keep (HB.out.block g hgl) (HB.out.block h hhl)
        have hch := hrr.hi hd
        have hcl := hrr.lo hd
        have HDH := Lib.hid (show (HiL ds)[k]? = some (d / 5) by simp [HiL, hd])
        have HDL := Lib.hid (LoL_get hd)
        have hlh := HiL_length ds
        have hll := LoL_length ds
        rw [HN.out] at hlh hll
        obtain ⟨g7, e7, _, hil, hc7, hf7⟩ := hoh.at_ (by omega)
        obtain rfl : hi = g7 := by simpa using e7
        have hco := hc7 k 0 (fill_at hlt hlh)
        have hfo := hf7 k
        obtain ⟨g8, e8, _, lol, hc8, hf8⟩ := hol.at_ (by omega)
        obtain rfl : lo = g8 := by simpa using e8
        have hco' := hc8 k 0 (fill_at hlt hll)
        have hfo' := hf8 k
        have HOH := Lib.hid hoh
        have HOL := Lib.hid hol
        have HLH := Lib.hid hlh
        have HLL := Lib.hid hll
        clear hrr hd hc7 hf7 hc8 hf8 e7 e8 hoh hol hlh hll
        have k0 : (0 : Int) ≤ (k : Int) := by omega
        have k1 : (k : Int) < (n : Int) := by omega
        go_wp2
        go_roundw
        case rel =>
          obtain ⟨f1, f2⟩ := fill_step (k := k) HOH.out HOL.out d1 (d / 5) (d % 5) (.cells #[.int .i64 (d / 5), .int .i64 (d % 5)] 41)
          rw [fill_next hlt HLH.out HDH.out] at f1
          rw [fill_next hlt HLL.out HDL.out] at f2
          exact ⟨k + 1, by omega, by go_num, (HX.out.set2 d2 d3 _ _).alloc _, (HZ.out.set2 (by show w.heap.size ≠ hi; omega) (by show w.heap.size ≠ lo; omega) _ _).alloc _, f1, f2, (((HB.out.setCell (p := ⟨hi, k, none⟩) (by show w.heap.size ≤ hi; omega) _).setCell (p := ⟨lo, k, none⟩) (by show w.heap.size ≤ lo; omega) _).alloc (by simp; omega) _)⟩
        case measure => simp [intOf]; omega
      · have HOH := Lib.hid hoh
        have HOL := Lib.hid hol
        clear hoh hol
        go_wp2
        obtain rfl : k = n := by omega
        have oh := HOH.out
        have ol := HOL.out
        rw [Nat.sub_self, List.replicate_zero, List.append_nil, List.take_of_length_le (by rw [HiL_length]; have := HN.out; omega)] at oh
        rw [Nat.sub_self, List.replicate_zero, List.append_nil, List.take_of_length_le (by rw [LoL_length]; have := HN.out; omega)] at ol
        have hg := (grown_set (w := wr) w.heap.size 0 (.slice (some ⟨hi, 0, none⟩) k k)).trans (grown_set w.heap.size 1 (.slice (some ⟨lo, 0, none⟩) k k))
        have oh2 := oh.kept hg (by rintro j e1 e2; injection e1 with e1; injection e2 with e2; subst e1; simp only at e2; omega)
        have ol2 := ol.kept hg (by rintro j e1 e2; injection e1 with e1; injection e2 with e2; subst e1; simp only at e2; omega)
        have hn := HN.out
        refine bodyPost_ret (v := .agg #[.slice (some ⟨hi, 0, none⟩) k k, .slice (some ⟨lo, 0, none⟩) k k]) (by simp [results, Tryd.results23, go_sem, World.cell?_setCell_same _ _ _ hz0, World.cell?_setCell_same _ _ _ ((World.cell?_setCell_other wr ⟨w.heap.size, 0, none⟩ ⟨w.heap.size, 1, none⟩ (.slice (some ⟨hi, 0, none⟩) k k) (by simp)).trans hz1)]) rfl ⟨⟨_, rfl, ?_⟩, ?_⟩
        · subst hn
          exact ⟨_, _, _, _, rfl, oh2, ol2, apart_of d1, apart_of (Ne.symm d1)⟩
        · exact (HB.out.setCell (p := ⟨w.heap.size, 0, none⟩) (Nat.le_refl _) _).setCell (p := ⟨w.heap.size, 1, none⟩) (Nat.le_refl _) _
end Go.Proofs.YtpaepdlkjblfgaaDoor
