/-
  Joined texts: FrFrame, FrChange, FrFns, FrFns2, FrSpec, FrSpec2, FrLaw, FrBy, FrSpec3, FrSpec4, FrSpec5, FrSpec6, FrShift, FrPlain2.
-/
import Derived.Test.YthdoofmfigemoaaGreatDoorBase2
import Derived.Deep.RegionLaw
import Derived.Deep.DeepCutAuto
import Derived.Deep.RegionHeld3
import Derived.Deep.RegionLawGrows
import Derived.Laws.CopyOwn

section
/-
  The rods as a new frame.
-/
namespace Go.Proofs.YthdoofmfigemoaaGreatDoor
open Go.RowKit

/-- a frame of the call's own -/
def FrOwn (w : World) (B : Nat) (v : Value) (ds : List Int) : Prop :=
  ∃ A c A' c', v = .agg #[.slice A ds.length c, .slice A' ds.length c'] ∧ Own w B A ds.length c (HiL ds) ∧ Own w B A' ds.length c' (LoL ds) ∧ Apart (.slice A ds.length c) (.slice A' ds.length c') ∧ Apart (.slice A' ds.length c') (.slice A ds.length c)

theorem run_make_ints (w : World) (n : Nat) (hn : n ≤ 1000) :
    (Instr.makeSlice 28 (.int .i64 (n : Int)) (.int .i64 (n : Int))).run Tryz.prog w = .ok (.slice (some ⟨w.heap.size, 0, none⟩) n n) (w.alloc (.cells (IV (List.replicate n 0)).toArray 3)) := by
  obtain ⟨i0, hi, hz0, hz1, hz2⟩ := info_parts own_int_info
  have hr := run_make (P := Tryz.prog) w 28 3 i0 (.int .i64 0) Tryz.underlying28 hi hz0 .i64 .i64 n n (by omega) (Int.le_refl _) (by rw [hz2]; omega) (by omega)
  simp only [Int.toNat_natCast] at hr
  rw [hr]
  have e : madeCells (Value.int .i64 0).cells (n * i0.size) = (IV (List.replicate n 0)).toArray := by
    rw [hz1, Nat.mul_one]
    apply Array.ext'
    exact (toList_madeCells_one _ _).trans (by simp [IV])
  rw [← e]

/-- two new rows and the frame over them -/
def FrNew (W : World) (bx hi lo n : Nat) (wx : World) : Prop :=
  FBox wx bx (.slice (some ⟨hi, 0, none⟩) n n) (.slice (some ⟨lo, 0, none⟩) n n) ∧ FBox wx W.heap.size (.slice none 0 0) (.slice none 0 0) ∧
  Own wx W.heap.size (some ⟨hi, 0, none⟩) n n (List.replicate n 0) ∧ Own wx W.heap.size (some ⟨lo, 0, none⟩) n n (List.replicate n 0) ∧
  hi ≠ lo ∧ bx ≠ hi ∧ bx ≠ lo ∧ W.heap.size < bx ∧ W.heap.size < hi ∧ W.heap.size < lo ∧ Below W.heap.size W wx
theorem heap_alloc_if (w : World) (o : Obj) (k : Nat) : (w.alloc o).heap[k]? = if k = w.heap.size then some o else w.heap[k]? := by
  by_cases h : k = w.heap.size
  · subst h; rw [if_pos rfl]; exact heap_alloc_new w o
  · rw [if_neg h]
    by_cases hk : k < w.heap.size
    · exact Below.heap_alloc w o k hk
    · rw [Array.getElem?_eq_none (by simp; omega), Array.getElem?_eq_none (by omega)]
theorem heap_drew (w : World) (k : Nat) : w.drew.heap[k]? = w.heap[k]? := rfl
theorem own_lit_at (w' : World) (us : List Int) (B n b : Nat) (hl : us.length = n) (hn : n ≤ 1099511627776) (hB : B ≤ b) (hb : w'.heap[b]? = some (.cells (IV us).toArray 3)) : Own w' B (some ⟨b, 0, none⟩) n n us := by
  refine ⟨⟨by simp [IV, hl], .inr ⟨b, n, (IV us).toArray, rfl, hB, hb, Nat.le_refl _, by unfold maxLen; omega, by simp [IV, hl], ?_⟩⟩, hn⟩
  rw [List.take_of_length_le (by simp [IV, hl])]
theorem apart_of {a b n m c d : Nat} (h : a ≠ b) : Apart (.slice (some ⟨a, 0, none⟩) n c) (.slice (some ⟨b, 0, none⟩) m d) := by
  rintro k e1 e2
  injection e1 with e1
  injection e2 with e2
  exact h (e2.trans e1.symm)
theorem fill_step {wr : World} {B hi lo n c c' k : Nat} {xs ys : List Int} (oh : Own wr B (some ⟨hi, 0, none⟩) n c xs) (ol : Own wr B (some ⟨lo, 0, none⟩) n c' ys) (hne : hi ≠ lo) (u v : Int) (o : Obj) :
    Own (((wr.setCell ⟨hi, k, none⟩ (.int .i64 u)).setCell ⟨lo, k, none⟩ (.int .i64 v)).alloc o) B (some ⟨hi, 0, none⟩) n c (xs.set k u) ∧ Own (((wr.setCell ⟨hi, k, none⟩ (.int .i64 u)).setCell ⟨lo, k, none⟩ (.int .i64 v)).alloc o) B (some ⟨lo, 0, none⟩) n c' (ys.set k v) := by
  have h1 := oh.store k u
  have h2 := (ol.kept h1.2 (by rintro j e1 e2; injection e1 with e1; injection e2 with e2; exact hne (e2.trans e1.symm))).store k v
  exact ⟨(h1.1.kept h2.2 (by rintro j e1 e2; injection e1 with e1; injection e2 with e2; exact hne (e1.trans e2.symm))).alloc o, h2.1.alloc o⟩
theorem FBox.set2 {w : World} {b : Nat} {u v : Value} (h : FBox w b u v) {p q : Addr} (h1 : b ≠ p.block) (h2 : b ≠ q.block) (x y : Value) : FBox ((w.setCell p x).setCell q y) b u v :=
  h.keep ((heap_setCell_other _ q b _ h2).trans (heap_setCell_other _ p b _ h1))
set_option maxRecDepth 100000 in
set_option maxHeartbeats 2000000 in
theorem frame_any (w : World) (B g h : Nat) (ds : List Int) (n : Nat) (hr : Rods w B g h ds) (hn : ds.length = n) (hds : Fr.Digs ds) (h6 : n ≤ 6) :
    Calls Tryz.prog 58 #[.pointer (some ⟨g, 0, none⟩)] w fun e w' => (∃ v, e = .returned v ∧ FrOwn w' w.heap.size v ds) ∧ Below w.heap.size w w' := by
  have hsl := hr.slice
  rw [hn] at hsl
  have hgl := hr.gl
  have hhl := hr.hl
  have HR := Lib.hid hr
  have HD := Lib.hid hds
  have HN := Lib.hid hn
  clear hr hds hn
  go_enter Tryz.func58, Tryz.ntmps58
  go_upto_region 1 with fail
  go_cut [3] (fun s3 wx => ∃ bx hi lo : Nat, s3 = .pointer (some ⟨bx, 0, none⟩) ∧ FrNew w bx hi lo n wx)
  case first =>
    have hmk : ∀ v : World, (Instr.makeSlice 28 (.int .i64 (n : Int)) (.int .i64 (n : Int))).run Tryz.prog v = .ok (.slice (some ⟨v.heap.size, 0, none⟩) n n) (v.alloc (.cells (IV (List.replicate n 0)).toArray 3)) := fun v => run_make_ints v n (by omega)
    have g1 : g < w.heap.size + 1 := by omega
    have g2 : g < w.heap.size + 1 + 1 := by omega
    have g3 : g < w.heap.size + 1 + 1 + 1 := by omega
    have g4 : g < w.heap.size + 1 + 1 + 1 + 1 := by omega
    go_region
    all_goals clear hmk
    all_goals go_wp2_with fail
    all_goals go_meet
    all_goals (first
      | (refine ⟨w.heap.size + 1, w.heap.size + 1 + 1, w.heap.size + 1 + 1 + 1, rfl, ?_, ?_, own_lit_at _ _ _ _ _ (by simp) (by omega) (by omega) ?_, own_lit_at _ _ _ _ _ (by simp) (by omega) (by omega) ?_, by omega, by omega, by omega, by omega, by omega, by omega, ?_⟩; · (simp only [FBox, heap_drew, heap_alloc_if, World.size_alloc, if_true]; repeat (first | rw [if_pos (by omega)] | rw [if_neg (by omega)])))
      | (refine ⟨w.heap.size + 1, w.heap.size + 1 + 1 + 1, w.heap.size + 1 + 1, rfl, ?_, ?_, own_lit_at _ _ _ _ _ (by simp) (by omega) (by omega) ?_, own_lit_at _ _ _ _ _ (by simp) (by omega) (by omega) ?_, by omega, by omega, by omega, by omega, by omega, by omega, ?_⟩; · (simp only [FBox, heap_drew, heap_alloc_if, World.size_alloc, if_true]; repeat (first | rw [if_pos (by omega)] | rw [if_neg (by omega)])))
      | (refine ⟨w.heap.size + 1 + 1, w.heap.size + 1, w.heap.size + 1 + 1 + 1, rfl, ?_, ?_, own_lit_at _ _ _ _ _ (by simp) (by omega) (by omega) ?_, own_lit_at _ _ _ _ _ (by simp) (by omega) (by omega) ?_, by omega, by omega, by omega, by omega, by omega, by omega, ?_⟩; · (simp only [FBox, heap_drew, heap_alloc_if, World.size_alloc, if_true]; repeat (first | rw [if_pos (by omega)] | rw [if_neg (by omega)])))
      | (refine ⟨w.heap.size + 1 + 1, w.heap.size + 1 + 1 + 1, w.heap.size + 1, rfl, ?_, ?_, own_lit_at _ _ _ _ _ (by simp) (by omega) (by omega) ?_, own_lit_at _ _ _ _ _ (by simp) (by omega) (by omega) ?_, by omega, by omega, by omega, by omega, by omega, by omega, ?_⟩; · (simp only [FBox, heap_drew, heap_alloc_if, World.size_alloc, if_true]; repeat (first | rw [if_pos (by omega)] | rw [if_neg (by omega)])))
      | (refine ⟨w.heap.size + 1 + 1 + 1, w.heap.size + 1, w.heap.size + 1 + 1, rfl, ?_, ?_, own_lit_at _ _ _ _ _ (by simp) (by omega) (by omega) ?_, own_lit_at _ _ _ _ _ (by simp) (by omega) (by omega) ?_, by omega, by omega, by omega, by omega, by omega, by omega, ?_⟩; · (simp only [FBox, heap_drew, heap_alloc_if, World.size_alloc, if_true]; repeat (first | rw [if_pos (by omega)] | rw [if_neg (by omega)])))
      | (refine ⟨w.heap.size + 1 + 1 + 1, w.heap.size + 1 + 1, w.heap.size + 1, rfl, ?_, ?_, own_lit_at _ _ _ _ _ (by simp) (by omega) (by omega) ?_, own_lit_at _ _ _ _ _ (by simp) (by omega) (by omega) ?_, by omega, by omega, by omega, by omega, by omega, by omega, ?_⟩; · (simp only [FBox, heap_drew, heap_alloc_if, World.size_alloc, if_true]; repeat (first | rw [if_pos (by omega)] | rw [if_neg (by omega)]))))
    all_goals (first
      | exact ((((((Below.refl _ _).alloc (Nat.le_refl _) _).alloc (by simp) _).alloc (by simp; omega) _).alloc (by simp; omega) _)).drew
      | (simp only [FBox, heap_drew, heap_alloc_if, World.size_alloc, if_true]; repeat (first | rw [if_pos (by omega)] | rw [if_neg (by omega)])))
  case rest =>
    obtain ⟨bx, hi, lo, rfl, hbx, hb0, hoh, hol, d1, d2, d3, d4, d5, d6, hbel⟩ := hcut
    have HX0 := Lib.hid hbx
    have HZ0 := Lib.hid hb0
    have HH0 := Lib.hid hoh
    have HL0 := Lib.hid hol
    have HB0 := Lib.hid hbel
    have hslc := ((HR.out.keep (hbel.block g hgl) (hbel.block h hhl)).slice)
    rw [HN.out] at hslc
    clear hbx hb0 hoh hol hbel hsl
    go_wp2
    go_loopw [21] (fun i wr => ∃ k : Nat, k ≤ n ∧ i = .int .i64 (k : Int) ∧ FBox wr bx (.slice (some ⟨hi, 0, none⟩) n n) (.slice (some ⟨lo, 0, none⟩) n n) ∧ FBox wr w.heap.size (.slice none 0 0) (.slice none 0 0) ∧ Own wr w.heap.size (some ⟨hi, 0, none⟩) n n ((HiL ds).take k ++ List.replicate (n - k) 0) ∧ Own wr w.heap.size (some ⟨lo, 0, none⟩) n n ((LoL ds).take k ++ List.replicate (n - k) 0) ∧ Below w.heap.size w wr) (fun i _ => n - (intOf i).toNat)
    case atStart => exact ⟨0, by omega, rfl, HX0.out, HZ0.out, by simpa using HH0.out, by simpa using HL0.out, HB0.out⟩
    case round =>
      clear HX0 HZ0 HH0 HL0 HB0 hslc
      obtain ⟨k, hk, rfl, hbx, hb0, hoh, hol, hbel⟩ := hrel
      have hbc := hbx.fst
      have hbd := hbx.snd
      have hz0 := hb0.fst
      have hz1 := hb0.snd
      have hbxl := hbx.lt
      have hzl := hb0.lt
      have hfz : ∀ j, wr.frozen? ⟨w.heap.size, j, none⟩ = false := fun j => by have := hb0; unfold FBox at this; simp [World.frozen?, this]
      have hf0 := hfz 0
      have hf1 := hfz 1
      have HX := Lib.hid hbx
      have HZ := Lib.hid hb0
      have HB := Lib.hid hbel
      have hszr := hbel.size
      clear hbx hb0 hbel hfz
      by_cases hlt : k < n
      · obtain ⟨d, hd⟩ : ∃ d, ds[k]? = some d := ⟨_, List.getElem?_eq_getElem (by have := HN.out; omega)⟩
        have hrr := HR.out.keep (HB.out.block g hgl) (HB.out.block h hhl)
        have hch := hrr.hi hd
        have hcl := hrr.lo hd
        have HDH := Lib.hid (show (HiL ds)[k]? = some (d / 5) by simp [HiL, hd])
        have HDL := Lib.hid (LoL_get hd)
        have hlh := HiL_length ds
        have hll := LoL_length ds
        rw [HN.out] at hlh hll
        obtain ⟨g7, e7, _, hil, hc7, hf7⟩ := hoh.at_ (by omega)
        obtain rfl : hi = g7 := by simpa using e7
        have hco := hc7 k 0 (fill_at hlt hlh)
        have hfo := hf7 k
        obtain ⟨g8, e8, _, lol, hc8, hf8⟩ := hol.at_ (by omega)
        obtain rfl : lo = g8 := by simpa using e8
        have hco' := hc8 k 0 (fill_at hlt hll)
        have hfo' := hf8 k
        have HOH := Lib.hid hoh
        have HOL := Lib.hid hol
        have HLH := Lib.hid hlh
        have HLL := Lib.hid hll
        clear hrr hd hc7 hf7 hc8 hf8 e7 e8 hoh hol hlh hll
        have k0 : (0 : Int) ≤ (k : Int) := by omega
        have k1 : (k : Int) < (n : Int) := by omega
        go_wp2
        go_roundw
        case rel =>
          obtain ⟨f1, f2⟩ := fill_step (k := k) HOH.out HOL.out d1 (d / 5) (d % 5) (.cells #[.int .i64 (d / 5), .int .i64 (d % 5)] 82)
          rw [fill_next hlt HLH.out HDH.out] at f1
          rw [fill_next hlt HLL.out HDL.out] at f2
          exact ⟨k + 1, by omega, by go_num, (HX.out.set2 d2 d3 _ _).alloc _, (HZ.out.set2 (by show w.heap.size ≠ hi; omega) (by show w.heap.size ≠ lo; omega) _ _).alloc _, f1, f2, (((HB.out.setCell (p := ⟨hi, k, none⟩) (by show w.heap.size ≤ hi; omega) _).setCell (p := ⟨lo, k, none⟩) (by show w.heap.size ≤ lo; omega) _).alloc (by simp; omega) _)⟩
        case measure => simp [intOf]; omega
      · have HOH := Lib.hid hoh
        have HOL := Lib.hid hol
        clear hoh hol
        go_wp2
        obtain rfl : k = n := by omega
        have oh := HOH.out
        have ol := HOL.out
        rw [Nat.sub_self, List.replicate_zero, List.append_nil, List.take_of_length_le (by rw [HiL_length]; have := HN.out; omega)] at oh
        rw [Nat.sub_self, List.replicate_zero, List.append_nil, List.take_of_length_le (by rw [LoL_length]; have := HN.out; omega)] at ol
        have hg := (grown_set (w := wr) w.heap.size 0 (.slice (some ⟨hi, 0, none⟩) k k)).trans (grown_set w.heap.size 1 (.slice (some ⟨lo, 0, none⟩) k k))
        have oh2 := oh.kept hg (by rintro j e1 e2; injection e1 with e1; injection e2 with e2; subst e1; simp only at e2; omega)
        have ol2 := ol.kept hg (by rintro j e1 e2; injection e1 with e1; injection e2 with e2; subst e1; simp only at e2; omega)
        have hn := HN.out
        refine bodyPost_ret (v := .agg #[.slice (some ⟨hi, 0, none⟩) k k, .slice (some ⟨lo, 0, none⟩) k k]) (by simp [results, Tryz.results58, go_sem, World.cell?_setCell_same _ _ _ hz0, World.cell?_setCell_same _ _ _ ((World.cell?_setCell_other wr ⟨w.heap.size, 0, none⟩ ⟨w.heap.size, 1, none⟩ (.slice (some ⟨hi, 0, none⟩) k k) (by simp)).trans hz1)]) rfl ⟨⟨_, rfl, ?_⟩, ?_⟩
        · subst hn
          exact ⟨_, _, _, _, rfl, oh2, ol2, apart_of d1, apart_of (Ne.symm d1)⟩
        · exact (HB.out.setCell (p := ⟨w.heap.size, 0, none⟩) (Nat.le_refl _) _).setCell (p := ⟨w.heap.size, 1, none⟩) (Nat.le_refl _) _
end Go.Proofs.YthdoofmfigemoaaGreatDoor
end

section
/-
  A frame is changed at one rod.
-/
namespace Go.Proofs.YthdoofmfigemoaaGreatDoor
open Go.RowKit

/-- what a change gives back: a frame, the pushes and whether it was done -/
def resL (R : Option (List Int × Int)) : List Int := match R with | some p => p.1 | none => []
def resN (R : Option (List Int × Int)) : Int := match R with | some p => p.2 | none => 0
def FrRes (w : World) (R : Option (List Int × Int)) (e : Ending) (w' : World) : Prop :=
  (∃ v, e = .returned (.tuple #[v, .int .i64 (resN R), .bool R.isSome]) ∧ FrOwn w' w.heap.size v (resL R)) ∧ Below w.heap.size w w'
theorem FrOwn.nil (w : World) (B : Nat) : FrOwn w B (.agg #[.slice none 0 0, .slice none 0 0]) [] :=
  ⟨none, 0, none, 0, rfl, Own.nil _ _, Own.nil _ _, (fun k hk => by cases hk), (fun k hk => by cases hk)⟩
theorem FrOwn.keep {w w' : World} {B : Nat} {v : Value} {ds : List Int} (h : FrOwn w B v ds) (hb : Below w.heap.size w w') : FrOwn w' B v ds := by
  obtain ⟨A, c, A', c', h1, h2, h3, h4, h5⟩ := h
  exact ⟨A, c, A', c', h1, h2.next hb, h3.next hb, h4, h5⟩
theorem FrOwn.mono {w : World} {B B' : Nat} {v : Value} {ds : List Int} (h : FrOwn w B v ds) (hB : B' ≤ B) : FrOwn w B' v ds := by
  obtain ⟨A, c, A', c', h1, h2, h3, h4, h5⟩ := h
  exact ⟨A, c, A', c', h1, h2.mono hB, h3.mono hB, h4, h5⟩
theorem FrOwn.row {w w' : World} {B : Nat} {v : Value} {ds : List Int} (h : FrOwn w B v ds) {r : Nat} (hg : w.grownBy w' (some r)) (hr : r < B) : FrOwn w' B v ds := by
  obtain ⟨A, c, A', c', h1, h2, h3, h4, h5⟩ := h
  exact ⟨A, c, A', c', h1, h2.kept hg (fun k hk e => by have := (h2.blk k hk).1; injection e; omega), h3.kept hg (fun k hk e => by have := (h3.blk k hk).1; injection e; omega), h4, h5⟩

theorem frDigit_any (x : Int) (w : World) : Calls Tryz.prog 238 #[.int .i64 x] w fun e w' => e = .returned (.bool (decide (0 ≤ x) && decide (x ≤ 9))) ∧ w = w' := by
  by_cases h1 : 0 ≤ x <;> by_cases h2 : x ≤ 9
  all_goals
    go_enter Tryz.func238, Tryz.ntmps238
    go_wp2
    go_ret
    exact ⟨ret_bool (by simp [h1, h2]), rfl⟩
theorem frDigit_is {x : Int} {r : Bool} (h : (decide (0 ≤ x) && decide (x ≤ 9)) = r) (w : World) : Calls Tryz.prog 238 #[.int .i64 x] w fun e w' => e = .returned (.bool r) ∧ w = w' := by
  rw [← h]; exact frDigit_any x w

/-- a digit at a rod -/
def frAt (s : Int) (ds : List Int) (k x : Int) : Option (List Int × Int) := if 0 ≤ k ∧ k < ds.length ∧ 0 ≤ x ∧ x ≤ 9 then chgAt s ds k.toNat x else none

theorem frAt_out (s : Int) (ds : List Int) (k x : Int) (h : ¬ (0 ≤ k ∧ k < ds.length ∧ 0 ≤ x ∧ x ≤ 9)) : frAt s ds k x = none := if_neg h
theorem frAt_in (s : Int) (ds : List Int) (j : Nat) (x : Int) (h1 : j < ds.length) (h2 : 0 ≤ x) (h3 : x ≤ 9) : frAt s ds (j : Int) x = chgAt s ds j x := if_pos ⟨by omega, by omega, h2, h3⟩
theorem FrRes.none_ {w w' : World} (hb : Below w.heap.size w w') : FrRes w none (.returned (.tuple #[.agg #[.slice none 0 0, .slice none 0 0], .int .i64 0, .bool false])) w' := ⟨⟨_, rfl, FrOwn.nil _ _⟩, hb⟩
theorem FBox.over {w : World} {b : Nat} {u v : Value} (h : FBox w b u v) (x y : Value) : FBox ((w.setCell ⟨b, 0, none⟩ x).setCell ⟨b, 1, none⟩ y) b x y := by
  have e1 := heap_setCell_same w b 0 _ _ x h
  have e2 := heap_setCell_same _ b 1 _ _ y e1
  unfold FBox
  rw [e2]
  simp
theorem FBox.free {w : World} {b : Nat} {u v : Value} (h : FBox w b u v) (j : Nat) : w.frozen? ⟨b, j, none⟩ = false := by
  unfold FBox at h
  simp [World.frozen?, h]
theorem over_fst {w : World} {b : Nat} {u v : Value} (h : FBox w b u v) : ∀ x, (w.setCell ⟨b, 0, none⟩ x).cell? ⟨b, 0, none⟩ = some x := fun _ => World.cell?_setCell_same _ _ _ h.fst
theorem over_snd {w : World} {b : Nat} {u v : Value} (h : FBox w b u v) : ∀ x y, ((w.setCell ⟨b, 0, none⟩ x).setCell ⟨b, 1, none⟩ y).cell? ⟨b, 1, none⟩ = some y :=
  fun x _ => World.cell?_setCell_same _ _ _ ((World.cell?_setCell_other w ⟨b, 0, none⟩ ⟨b, 1, none⟩ x (by simp)).trans h.snd)
theorem Ints.al {w : World} {n : Nat} {A : Option Addr} {xs : List Int} (h : Ints w w.heap.size A n xs) (o : Obj) : Ints (w.alloc o) (w.alloc o).heap.size A n xs := h.next ((Below.refl _ _).alloc (Nat.le_refl _) o)
theorem below_two (w : World) (o p : Obj) : Below w.heap.size w ((w.alloc o).alloc p) := ((Below.refl _ _).alloc (Nat.le_refl _) o).alloc (by simp) p
theorem below_over {w0 w : World} {b B : Nat} (h : Below B w0 w) (hb : B ≤ b) (x y : Value) : Below B w0 ((w.setCell ⟨b, 0, none⟩ x).setCell ⟨b, 1, none⟩ y) :=
  (h.setCell (p := ⟨b, 0, none⟩) hb x).setCell (p := ⟨b, 1, none⟩) hb y
theorem FrOwn.over {w : World} {b B : Nat} {v : Value} {ds : List Int} (h : FrOwn w B v ds) (hb : b < B) (x y : Value) : FrOwn ((w.setCell ⟨b, 0, none⟩ x).setCell ⟨b, 1, none⟩ y) B v ds :=
  (h.row (grown_set b 0 x) hb).row (grown_set b 1 y) hb

/-- FrameAdd: whatever the frame -/
def frOf (hs ls : List Int) (f : List Int → Option (List Int × Int)) (R : Option (List Int × Int)) : Prop :=
  (¬ FrOk hs ls ∧ R = none) ∨ ∃ ds, Fr.Digs ds ∧ hs = HiL ds ∧ ls = LoL ds ∧ 1 ≤ ds.length ∧ ds.length ≤ 6 ∧ R = f ds
end Go.Proofs.YthdoofmfigemoaaGreatDoor
end

section
/-
  Digit, value and powers of ten of the program.
-/
namespace Go.Proofs.YthdoofmfigemoaaGreatDoor
open Go.RowKit

theorem ten_bd (n : Nat) (h : n ≤ 6) : 1 ≤ Fr.ten n ∧ Fr.ten n ≤ 1000000 := by
  have hn : n = 0 ∨ n = 1 ∨ n = 2 ∨ n = 3 ∨ n = 4 ∨ n = 5 ∨ n = 6 := by omega
  rcases hn with rfl | rfl | rfl | rfl | rfl | rfl | rfl <;> decide
set_option maxHeartbeats 400000 in
theorem powerOfTen_any (n : Nat) (w : World) (hn : n ≤ 6) : Calls Tryz.prog 56 #[.int .i64 (n : Int)] w fun e w' => e = .returned (.int .i64 (Fr.ten n)) ∧ w = w' := by
  go_enter Tryz.func56, Tryz.ntmps56
  go_wp2
  go_loop [0, 3] (fun nv pv => ∃ (j : Nat) (p : Int), j ≤ n ∧ nv = .int .i64 (j : Int) ∧ pv = .int .i64 p ∧ p = Fr.ten (n - j)) (fun nv _ => (intOf nv).toNat)
  case atStart => exact ⟨n, 1, by omega, rfl, rfl, by rw [Nat.sub_self]; rfl⟩
  case round =>
    obtain ⟨j, p, hj, rfl, rfl, hp⟩ := hrel
    have hb := ten_bd (n - j) (by omega)
    rw [← hp] at hb
    obtain ⟨p0, p1⟩ := hb
    have HP := Lib.hid hp
    clear hp
    by_cases h0 : 0 < j
    · go_wp2
      go_round
      case rel =>
        refine ⟨j - 1, p * 10, by omega, ?_, by go_num, ?_⟩
        · go_num
        · rw [show n - (j - 1) = n - j + 1 from by omega, Fr.ten_succ, ← HP.out]; omega
      case measure => simp [intOf]; omega
    · obtain rfl : j = 0 := by omega
      go_wp2
      go_ret
      exact ⟨ret_int (by rw [HP.out, Nat.sub_zero]), rfl⟩

/-- of a frame that is valid, or of another one -/
def frIs {α : Type} (hs ls : List Int) (f : List Int → α) (z R : α) : Prop :=
  (¬ FrOk hs ls ∧ R = z) ∨ ∃ ds, Fr.Digs ds ∧ hs = HiL ds ∧ ls = LoL ds ∧ 1 ≤ ds.length ∧ ds.length ≤ 6 ∧ R = f ds
def digAt (ds : List Int) (k : Int) : Int := if 0 ≤ k ∧ k < ds.length then ds.getD k.toNat 0 else -1
theorem digAt_out {ds : List Int} {k : Int} (h : ¬ (0 ≤ k ∧ k < ds.length)) : digAt ds k = -1 := if_neg h
theorem digAt_in {ds : List Int} {j : Nat} {d : Int} (h : ds[j]? = some d) : digAt ds (j : Int) = d := by
  have := (List.getElem?_eq_some_iff.1 h).1
  rw [digAt, if_pos ⟨by omega, by omega⟩, Int.toNat_natCast, List.getD_eq_getElem?_getD, h]; rfl

theorem val_le6 {ds : List Int} (h : Fr.Digs ds) (h6 : ds.length ≤ 6) : 0 ≤ Fr.val ds ∧ Fr.val ds ≤ 999999 := by
  have := Fr.val_range ds h
  have := ten_bd ds.length h6
  omega
theorem digs_drop {ds : List Int} (h : Fr.Digs ds) (k : Nat) : Fr.Digs (ds.drop k) := fun d hd => h d (List.mem_of_mem_drop hd)
end Go.Proofs.YthdoofmfigemoaaGreatDoor
end

section
/-
  Pushes between frames, and the nines of a frame.
-/
namespace Go.Proofs.YthdoofmfigemoaaGreatDoor
open Go.RowKit

/-- a frame and whether there is one -/
def FrPair (w : World) (ok : Bool) (ds : List Int) (e : Ending) (w' : World) : Prop :=
  (∃ v, e = .returned (.tuple #[v, .bool ok]) ∧ FrOwn w' w.heap.size v (if ok then ds else [])) ∧ Below w.heap.size w w'
theorem FrPair.no {w w' : World} {ds : List Int} (hb : Below w.heap.size w w') : FrPair w false ds (.returned (.tuple #[.agg #[.slice none 0 0, .slice none 0 0], .bool false])) w' := ⟨⟨_, rfl, FrOwn.nil _ _⟩, hb⟩
theorem nines_next {ds : List Int} {k : Nat} {d : Int} (h : ds[k]? = some d) : ((Fr.nines ds).take k ++ ds.drop k).set k (9 - d) = (Fr.nines ds).take (k + 1) ++ ds.drop (k + 1) := by
  have hl := (List.getElem?_eq_some_iff.1 h).1
  have hn : (Fr.nines ds).length = ds.length := by simp [Fr.nines]
  have h2 : (Fr.nines ds)[k]? = some (9 - d) := by simp [Fr.nines, h]
  rw [take_next h2, drop_cons h, List.set_append_right _ _ (by rw [List.length_take]; omega), List.length_take, show k - min k (Fr.nines ds).length = 0 from by omega, List.set_cons_zero, List.append_assoc]
  rfl

theorem dist_next {l bs : List Int} : ∀ {k : Nat} {a b : Int}, l[k]? = some a → bs[k]? = some b → Fr.dist (l.take (k + 1)) (bs.take (k + 1)) = Fr.dist (l.take k) (bs.take k) + Fr.cost a b := by
  induction l generalizing bs with
  | nil => intro k a b h _; simp at h
  | cons x xs ih =>
    intro k a b ha hb
    cases bs with
    | nil => simp at hb
    | cons y ys =>
      cases k with
      | zero => simp at ha hb; subst ha; subst hb; simp [Fr.dist]
      | succ k =>
        have := ih (k := k) (by simpa using ha) (by simpa using hb)
        rw [List.take_succ_cons, List.take_succ_cons, List.take_succ_cons, List.take_succ_cons, Fr.dist, Fr.dist, this]
        omega
theorem dist_bd (l : List Int) : ∀ bs, 0 ≤ Fr.dist l bs ∧ Fr.dist l bs ≤ 2 * l.length := by
  induction l with
  | nil => intro bs; simp [Fr.dist]
  | cons a l ih =>
    intro bs
    cases bs with
    | nil => simp [Fr.dist]; omega
    | cons b bs =>
      have := ih bs
      have := cost_le a b
      simp [Fr.dist]
      omega

end Go.Proofs.YthdoofmfigemoaaGreatDoor
end

section
/-
  Frames of the reference: validity, digits, values, powers of ten, pushes.
-/
namespace Go.Proofs.YthdoofmfigemoaaGreatDoor
open Go.RowKit

set_option maxHeartbeats 400000 in
theorem fr_l3Digit_is {x : Int} {r : Bool} (h : (decide (0 ≤ x) && decide (x ≤ 9)) = r) (w : World) : Calls Tryz.prog 228 #[.int .i64 x] w fun e w' => e = .returned (.bool r) ∧ w = w' := by
  have H := Lib.hid h
  clear h
  go_enter Tryz.func228, Tryz.ntmps228
  go_wp2_with fail
  refine (l6In_is H.out _).mono ?_
  rintro e w' ⟨rfl, rfl⟩
  go_wp2
  go_ret
  exact ⟨rfl, rfl⟩

set_option maxHeartbeats 400000 in
theorem l5Pushes_any (a b : Int) (w : World) (a0 : 0 ≤ a) (a9 : a ≤ 9) (b0 : 0 ≤ b) (b9 : b ≤ 9) : Calls Tryz.prog 229 #[.int .i64 a, .int .i64 b] w fun e w' => e = .returned (.int .i64 (Fr.cost a b)) ∧ w = w' := by
  have e0 : Fr.cost a b = (if a / 5 = b / 5 then 0 else 1) + (if a % 5 = b % 5 then 0 else 1) := rfl
  obtain ⟨r, hr⟩ : ∃ r : Int, (if a / 5 = b / 5 then 0 else 1) = r := ⟨_, rfl⟩
  obtain ⟨s, hs⟩ : ∃ r : Int, (if a % 5 = b % 5 then 0 else 1) = r := ⟨_, rfl⟩
  rw [e0, hr, hs]
  have e1 : ∀ x y : Int, (x != y) = false → (if x = y then (0 : Int) else 1) = 0 := by intro x y h; rw [if_pos (by simpa using h)]
  have e2 : ∀ x y : Int, (x != y) = true → (if x = y then (0 : Int) else 1) = 1 := by intro x y h; rw [if_neg (by simpa using h)]
  rcases hac : (a / 5 != b / 5) with _ | _ <;> rcases hbd : (a % 5 != b % 5) with _ | _
  all_goals
    first | rw [e1 _ _ hac] at hr | rw [e2 _ _ hac] at hr
    first | rw [e1 _ _ hbd] at hs | rw [e2 _ _ hbd] at hs
    subst hr
    subst hs
    clear e1 e2 e0
    go_enter Tryz.func229, Tryz.ntmps229
    go_wp2
    go_ret
    exact ⟨rfl, rfl⟩

set_option maxHeartbeats 400000 in
theorem l5Ten_any (n : Nat) (w : World) (hn : n ≤ 6) : Calls Tryz.prog 55 #[.int .i64 (n : Int)] w fun e w' => e = .returned (.int .i64 (Fr.ten n)) ∧ w = w' := by
  go_enter Tryz.func55, Tryz.ntmps55
  go_wp2
  go_loop [3, 4] (fun pv iv => ∃ (j : Nat) (p : Int), j ≤ n ∧ iv = .int .i64 (j : Int) ∧ pv = .int .i64 p ∧ p = Fr.ten j) (fun _ iv => n - (intOf iv).toNat)
  case atStart => exact ⟨0, 1, by omega, rfl, rfl, rfl⟩
  case round =>
    obtain ⟨j, p, hj, rfl, rfl, hp⟩ := hrel
    have hb := ten_bd j (by omega)
    rw [← hp] at hb
    obtain ⟨p0, p1⟩ := hb
    have HP := Lib.hid hp
    clear hp
    by_cases h0 : j < n
    · go_wp2
      go_round
      case rel => exact ⟨j + 1, 10 * p, by omega, by go_num, by go_num, by rw [Fr.ten_succ, ← HP.out]⟩
      case measure => simp [intOf]; omega
    · obtain rfl : j = n := by omega
      go_wp2
      go_ret
      exact ⟨ret_int HP.out, rfl⟩
set_option maxRecDepth 100000 in
set_option maxHeartbeats 1000000 in
theorem specFrameValid_yes (A A' : Option Addr) (n c c' : Nat) (ds : List Int) (w : World) (hx : Ints w w.heap.size A n (HiL ds)) (hy : Ints w w.heap.size A' n (LoL ds)) (hds : Fr.Digs ds) (h1 : 1 ≤ n) (h6 : n ≤ 6) :
    Calls Tryz.prog 209 #[.agg #[.slice A n c, .slice A' n c']] w fun e w' => e = .returned (.bool true) ∧ Below w.heap.size w w' := by
  have HX := Lib.hid hx
  have HY := Lib.hid hy
  have HD := Lib.hid hds
  have hb0 := FBox.new w (.slice A n c) (.slice A' n c')
  have HB := Lib.hid ((Below.refl w.heap.size w).alloc (Nat.le_refl _) (.cells #[.slice A n c, .slice A' n c'] 30))
  clear hx hy hds hb0
  go_enter Tryz.func209, Tryz.ntmps209
  go_wp2_with fail
  refine (l6In_yes (by omega) (by omega) _).mono ?_
  rintro e w' ⟨rfl, rfl⟩
  go_wp2_with fail
  go_loop [4] (fun iv => ∃ (j : Nat), j ≤ n ∧ iv = .int .i64 (j : Int)) (fun iv => n - (intOf iv).toNat)
  case atStart => exact ⟨0, by omega, rfl⟩
  case round =>
    obtain ⟨j, hj, rfl⟩ := hrel
    by_cases hlt : j < n
    · obtain ⟨b2, off2, u2, rfl, hlb2, hu2, hc2⟩ := (HX.out.al (.cells #[.slice A n c, .slice A' n c'] 30)).at_ hlt
      obtain ⟨d, hd, rfl⟩ := HiL_get hu2
      obtain ⟨b3, off3, u3, rfl, hlb3, hu3, hc3⟩ := (HY.out.al (.cells #[.slice (some ⟨b2, off2, none⟩) n c, .slice A' n c'] 30)).at_ hlt
      rw [LoL_get hd] at hu3
      obtain rfl : d % 5 = u3 := by simpa using hu3
      obtain ⟨d0, d9⟩ := HD.out d (List.mem_of_getElem? hd)
      clear hu2 hu3 hd
      go_wp2_with fail
      refine (l6In_yes (by omega) (by omega) _).mono ?_
      rintro e w' ⟨rfl, rfl⟩
      go_wp2_with fail
      refine (l6In_yes (by omega) (by omega) _).mono ?_
      rintro e w' ⟨rfl, rfl⟩
      go_wp2
      go_round
      case rel => exact ⟨j + 1, by omega, by go_num⟩
      case measure => simp [intOf]; omega
    · go_wp2
      go_ret
      exact ⟨rfl, HB.out⟩
set_option maxRecDepth 100000 in
set_option maxHeartbeats 1000000 in
theorem specFrameValid_no (A A' : Option Addr) (n m c c' : Nat) (hs ls : List Int) (w : World) (hx : Ints w w.heap.size A n hs) (hy : Ints w w.heap.size A' m ls) (hno : ¬ FrOk hs ls) :
    Calls Tryz.prog 209 #[.agg #[.slice A n c, .slice A' m c']] w fun e w' => e = .returned (.bool false) ∧ Below w.heap.size w w' := by
  have hlx := hx.len
  have hly := hy.len
  have hbd := hx.bound
  have HX := Lib.hid hx
  have HY := Lib.hid hy
  have HN := Lib.hid hno
  have HLX := Lib.hid hlx
  have HLY := Lib.hid hly
  have HB := Lib.hid ((Below.refl w.heap.size w).alloc (Nat.le_refl _) (.cells #[.slice A n c, .slice A' m c'] 30))
  clear hx hy hno hlx hly
  by_cases h16 : 1 ≤ n ∧ n ≤ 6
  · obtain ⟨h1, h6⟩ := h16
    by_cases hnm : n = m
    · subst hnm
      go_enter Tryz.func209, Tryz.ntmps209
      go_wp2_with fail
      refine (l6In_yes (by omega) (by omega) _).mono ?_
      rintro e w' ⟨rfl, rfl⟩
      go_wp2_with fail
      go_loop [4] (fun iv => ∃ (j : Nat), j ≤ n ∧ iv = .int .i64 (j : Int) ∧ Hid (∀ i : Nat, i < j → ∀ a b : Int, hs[i]? = some a → ls[i]? = some b → 0 ≤ a ∧ a ≤ 1 ∧ 0 ≤ b ∧ b ≤ 4)) (fun iv => n - (intOf iv).toNat)
      case atStart => exact ⟨0, by omega, rfl, Lib.hid (fun i hi => absurd hi (Nat.not_lt_zero i))⟩
      case round =>
        obtain ⟨j, hj, rfl, HA⟩ := hrel
        by_cases hlt : j < n
        · obtain ⟨b2, off2, u2, rfl, hlb2, hu2, hc2⟩ := (HX.out.al (.cells #[.slice A n c, .slice A' n c'] 30)).at_ hlt
          obtain ⟨b3, off3, u3, rfl, hlb3, hu3, hc3⟩ := (HY.out.al (.cells #[.slice (some ⟨b2, off2, none⟩) n c, .slice A' n c'] 30)).at_ hlt
          have HU2 := Lib.hid hu2
          have HU3 := Lib.hid hu3
          clear hu2 hu3
          by_cases hh : 0 ≤ u2 ∧ u2 ≤ 1
          · obtain ⟨hi0, hi1⟩ := hh
            by_cases hl : 0 ≤ u3 ∧ u3 ≤ 4
            · obtain ⟨lo0, lo1⟩ := hl
              go_wp2_with fail
              refine (l6In_yes (by omega) (by omega) _).mono ?_
              rintro e w' ⟨rfl, rfl⟩
              go_wp2_with fail
              refine (l6In_yes (by omega) (by omega) _).mono ?_
              rintro e w' ⟨rfl, rfl⟩
              go_wp2
              go_round
              case rel =>
                refine ⟨j + 1, by omega, by go_num, Lib.hid fun i hi a b ha hb => ?_⟩
                rcases (show i < j ∨ i = j from by omega) with h | rfl
                · exact HA.out i h a b ha hb
                · rw [HU2.out] at ha
                  rw [HU3.out] at hb
                  injection ha with ha
                  injection hb with hb
                  subst ha
                  subst hb
                  exact ⟨hi0, hi1, lo0, lo1⟩
              case measure => simp [intOf]; omega
            · go_wp2_with fail
              refine (l6In_yes (by omega) (by omega) _).mono ?_
              rintro e w' ⟨rfl, rfl⟩
              go_wp2_with fail
              refine (l6In_no (by omega) _).mono ?_
              rintro e w' ⟨rfl, rfl⟩
              go_wp2
              go_ret
              exact ⟨rfl, HB.out⟩
          · go_wp2_with fail
            refine (l6In_no (by omega) _).mono ?_
            rintro e w' ⟨rfl, rfl⟩
            go_wp2
            go_ret
            exact ⟨rfl, HB.out⟩
        · exfalso
          obtain rfl : j = n := by omega
          exact HN.out (FrOk_of' HLX.out HLY.out h1 h6 HA.out)
    · have hne : ((m : Int) != (n : Int)) = true := by simp; omega
      clear hnm
      go_enter Tryz.func209, Tryz.ntmps209
      go_wp2_with fail
      refine (l6In_yes (by omega) (by omega) _).mono ?_
      rintro e w' ⟨rfl, rfl⟩
      go_wp2
      go_ret
      exact ⟨rfl, HB.out⟩
  · go_enter Tryz.func209, Tryz.ntmps209
    go_wp2_with fail
    refine (l6In_no (by omega) _).mono ?_
    rintro e w' ⟨rfl, rfl⟩
    go_wp2
    go_ret
    exact ⟨rfl, HB.out⟩

set_option maxRecDepth 100000 in
set_option maxHeartbeats 1000000 in
theorem specFrameDigit_any (A A' : Option Addr) (n m c c' : Nat) (hs ls : List Int) (k R : Int) (w : World) (hx : Ints w w.heap.size A n hs) (hy : Ints w w.heap.size A' m ls) (hR : frIs hs ls (fun ds => digAt ds k) (-1) R) :
    Calls Tryz.prog 211 #[.agg #[.slice A n c, .slice A' m c'], .int .i64 k] w fun e w' => e = .returned (.int .i64 R) ∧ Below w.heap.size w w' := by
  rcases hR with ⟨hno, rfl⟩ | ⟨ds, hds, rfl, rfl, h1, h6, rfl⟩
  · have HX := Lib.hid hx
    have HY := Lib.hid hy
    have HN := Lib.hid hno
    clear hx hy hno
    go_enter Tryz.func211, Tryz.ntmps211
    go_wp2_with fail
    refine (specFrameValid_no A A' n m c c' hs ls _ (HX.out.al _) (HY.out.al _) HN.out).mono ?_
    rintro e w1 ⟨rfl, hb1⟩
    have HB := Lib.hid (((Below.refl w.heap.size w).alloc (Nat.le_refl _) _).trans (hb1.mono (by simp)))
    clear hb1
    go_wp2
    go_ret
    exact ⟨rfl, HB.out⟩
  · obtain rfl : ds.length = n := by have := hx.len; rwa [HiL_length] at this
    obtain rfl : ds.length = m := by have := hy.len; rwa [LoL_length] at this
    have HX := Lib.hid hx
    have HY := Lib.hid hy
    have HD := Lib.hid hds
    obtain ⟨n, hn⟩ : ∃ n, ds.length = n := ⟨_, rfl⟩
    rw [hn] at h1 h6
    obtain ⟨R, hR⟩ : ∃ R, digAt ds k = R := ⟨_, rfl⟩
    show Calls _ _ _ _ fun e w' => e = .returned (.int .i64 (digAt ds k)) ∧ Below w.heap.size w w'
    rw [hR, hn]
    rw [hn] at HX HY
    have HN := Lib.hid hn
    have HE := Lib.hid hR
    clear hx hy hds hn hR
    go_enter Tryz.func211, Tryz.ntmps211
    go_wp2_with fail
    refine (specFrameValid_yes A A' n c c' ds _ (HX.out.al _) (HY.out.al _) HD.out h1 h6).mono ?_
    rintro e w1 ⟨rfl, hb1⟩
    have hbx := (FBox.new w (.slice A n c) (.slice A' n c')).next hb1
    have hb0 := hbx.fst
    have hb2 := hbx.snd
    have HX1 := Lib.hid ((HX.out.al _).next hb1)
    have HY1 := Lib.hid ((HY.out.al _).next hb1)
    have HB := Lib.hid (((Below.refl w.heap.size w).alloc (Nat.le_refl _) _).trans (hb1.mono (by simp)))
    clear hb1 hbx
    by_cases hk : 0 ≤ k ∧ k < (n : Int)
    · obtain ⟨k0, k1⟩ := hk
      obtain ⟨j, rfl⟩ := Int.eq_ofNat_of_zero_le k0
      obtain ⟨b2, off2, u2, rfl, hlb2, hu2, hc2⟩ := HX1.out.at_ (k := j) (by omega)
      obtain ⟨d, hd, rfl⟩ := HiL_get hu2
      obtain ⟨b3, off3, u3, rfl, hlb3, hu3, hc3⟩ := HY1.out.at_ (k := j) (by omega)
      rw [LoL_get hd] at hu3
      obtain rfl : d % 5 = u3 := by simpa using hu3
      obtain ⟨d0, d9⟩ := HD.out d (List.mem_of_getElem? hd)
      have he := HE.out
      rw [digAt_in hd] at he
      subst he
      have p0 : 0 ≤ d / 5 ∧ d / 5 ≤ 1 := by omega
      have p1 : 0 ≤ d % 5 ∧ d % 5 ≤ 4 := by omega
      have e0 : 5 * (d / 5) + d % 5 = d := by omega
      obtain ⟨u, hu⟩ : ∃ u, d / 5 = u := ⟨_, rfl⟩
      obtain ⟨v, hv⟩ : ∃ v, d % 5 = v := ⟨_, rfl⟩
      rw [hu] at p0 hc2 e0
      rw [hv] at p1 hc3 e0
      obtain ⟨p00, p01⟩ := p0
      obtain ⟨p10, p11⟩ := p1
      have HE0 := Lib.hid e0
      clear hu hv e0 hu2 hu3 hd HE d0 d9
      have s1 : IntKind.i64.wrap (5 * u) = 5 * u := IntWalk.i64_in _ (by omega)
      have s2 : IntKind.i64.wrap (5 * u + v) = 5 * u + v := IntWalk.i64_in _ (by omega)
      go_wp2_with fail
      refine (l6In_yes (by omega) (by omega) _).mono ?_
      rintro e w' ⟨rfl, rfl⟩
      go_wp2_with fail
      go_quiet (fail)
      go_wp2
      go_ret
      exact ⟨ret_int HE0.out, below_drewN HB.out _⟩
    · have he := HE.out
      rw [digAt_out (by rw [HN.out]; exact hk)] at he
      subst he
      go_wp2_with fail
      refine (l6In_no (by omega) _).mono ?_
      rintro e w' ⟨rfl, rfl⟩
      go_wp2
      go_ret
      exact ⟨rfl, HB.out⟩
end Go.Proofs.YthdoofmfigemoaaGreatDoor
end

section
/-
  A frame with another digit on a rod: l5Set of the reference.
-/
namespace Go.Proofs.YthdoofmfigemoaaGreatDoor
open Go.RowKit

/-- what was there at W is there -/
def SB (W w : World) : Prop := Below W.heap.size W w
theorem SB.alloc {W w : World} (h : SB W w) (o : Obj) : SB W (w.alloc o) := Below.alloc h h.size o
theorem SB.drew {W w : World} (h : SB W w) : SB W w.drew := Below.drew h
theorem SB.grown {W w w' : World} (h : SB W w) (hg : w.grownBy w' none) : SB W w' := Below.grown h hg h.size (by simp)
theorem bgrown {w w1 : World} (hg : w.grownBy w1 none) : (∀ b o, b < w.heap.size → w1.cell? ⟨b, o, none⟩ = w.cell? ⟨b, o, none⟩) ∧ (∀ b o, b < w.heap.size → w1.frozen? ⟨b, o, none⟩ = w.frozen? ⟨b, o, none⟩) :=
  bcell ⟨hg.os, hg.tape, hg.output, hg.size, fun k hk => hg.block k hk (by simp)⟩
theorem size_drew_ (w : World) : w.drew.heap.size = w.heap.size := rfl
theorem SB.refl (W : World) : SB W W := Below.refl _ W

/-- append([]int{}, us...): a row of its own in a new block -/
theorem step_app_fresh {ops : Array Oper} {o : Oper} {a : Act} {w : World} {K : Act → World → Prop} {Q : Exit → Act → World → Prop} {E : Prop} (hgd : o.guard = none) (s x : Operand)
    (ho : o.op = .call { callee := .builtin .append, args := #[s, x], argTypes := #[28, 28] })
    {p : Addr} (hs : a.eval s = .slice (some p) 0 0) {B m c0 : Nat} {A : Option Addr} {us : List Int}
    (hx : a.eval x = .slice A m c0) (hr : Ints w B A m us) (hm : 0 < m)
    (h : ∀ g c' w', Own w' w.heap.size (some ⟨g, 0, none⟩) m c' us → w.grownBy w' none → K (a.put o.dst (.slice (some ⟨g, 0, none⟩) m c')) w') :
    if Region.wanted o (yielded ops a.tmps) = true then Oper.wp Tryz.prog o a w K Q else E := by
  obtain ⟨i0, hi, hz0, hz1, hz2⟩ := info_parts own_int_info
  have hl := hr.len
  have hb := hr.bound
  obtain ⟨b, off, rfl, hlt, hc⟩ := hr.addr hm
  refine step_append_grows hgd s x 28 ho 3 i0 (.int .i64 0) 1 8 Tryz.underlying28 hi hz0 hz1 hz2 rfl (by decide) (some p) 0 0 [] hs (by simp) rfl (by intro b _ j u hj; simp at hj)
    ⟨b, off, none⟩ m c0 (IV us) hx (by simp [IV, hl]) ?_ (IV_one us) (by omega) (by unfold maxLen; omega) (by omega) ?_
  · intro j u hj
    have hj' : (us.map (Value.int .i64))[j]? = some u := hj
    rw [List.getElem?_map] at hj'
    obtain ⟨z, hz, rfl⟩ := Option.map_eq_some_iff.1 hj'
    have e : (⟨b, off, none⟩ : Addr).add j = ⟨b, off + j, none⟩ := by unfold Addr.add; split <;> simp_all
    rw [e]
    exact hc j z hz
  · intro v' w' hown hg
    obtain ⟨A', c', rfl, h'⟩ := Own.of_app (xs := []) us rfl hown (by omega)
    simp only [Nat.zero_add, List.nil_append] at h'
    obtain ⟨g, rfl, _⟩ := h'.at_ hm
    simp only [Nat.zero_add]
    exact h g c' w' h' hg

theorem HiL_set (ds : List Int) (k : Nat) (x : Int) : HiL (ds.set k x) = (HiL ds).set k (x / 5) := by simp [HiL, List.map_set]
theorem LoL_set (ds : List Int) (k : Nat) (x : Int) : LoL (ds.set k x) = (LoL ds).set k (x % 5) := by simp [LoL, List.map_set]
theorem fill2 {wr : World} {B hi lo n c c' k : Nat} {xs ys : List Int} (oh : Own wr B (some ⟨hi, 0, none⟩) n c xs) (ol : Own wr B (some ⟨lo, 0, none⟩) n c' ys) (hne : hi ≠ lo) (u v : Int) :
    Own ((wr.setCell ⟨hi, k, none⟩ (.int .i64 u)).setCell ⟨lo, k, none⟩ (.int .i64 v)) B (some ⟨hi, 0, none⟩) n c (xs.set k u) ∧ Own ((wr.setCell ⟨hi, k, none⟩ (.int .i64 u)).setCell ⟨lo, k, none⟩ (.int .i64 v)) B (some ⟨lo, 0, none⟩) n c' (ys.set k v) := by
  have h1 := oh.store k u
  have h2 := (ol.kept h1.2 (by rintro j e1 e2; injection e1 with e1; injection e2 with e2; exact hne (e2.trans e1.symm))).store k v
  exact ⟨h1.1.kept h2.2 (by rintro j e1 e2; injection e1 with e1; injection e2 with e2; exact hne (e1.trans e2.symm)), h2.1⟩
/-- a new frame over two rows -/
def L5Q (W : World) (n : Nat) (xs ys : List Int) (s : Value) (wx : World) : Prop :=
  ∃ bx hi lo ch cl : Nat, s = .pointer (some ⟨bx, 0, none⟩) ∧ FBox wx bx (.slice (some ⟨hi, 0, none⟩) n ch) (.slice (some ⟨lo, 0, none⟩) n cl) ∧
    Own wx W.heap.size (some ⟨hi, 0, none⟩) n ch xs ∧ Own wx W.heap.size (some ⟨lo, 0, none⟩) n cl ys ∧ hi ≠ lo ∧ bx ≠ hi ∧ bx ≠ lo ∧ W.heap.size ≤ bx ∧ Below W.heap.size W wx
theorem Own.block {w w' : World} {B g n c : Nat} {xs : List Int} (h : Own w B (some ⟨g, 0, none⟩) n c xs) (e : w'.heap[g]? = w.heap[g]?) : Own w' B (some ⟨g, 0, none⟩) n c xs := by
  refine ⟨⟨h.1.1, ?_⟩, h.2⟩
  rcases h.1.2 with ⟨h0, _⟩ | ⟨g', cap, cur, hv, h1, hg, rest⟩
  · cases h0
  · injection hv with e1 e2 e3
    injection e1 with e1
    injection e1 with e1
    subst e1
    subst e3
    exact .inr ⟨g, c, cur, rfl, h1, e.trans hg, rest⟩
theorem l5leafA {W w2 : World} {hi lo n ch cl : Nat} {xs ys : List Int} (h1 : Own w2 W.heap.size (some ⟨hi, 0, none⟩) n ch xs) (h2 : Own w2 W.heap.size (some ⟨lo, 0, none⟩) n cl ys) (hne : hi ≠ lo) (hb : SB W w2) :
    L5Q W n xs ys (.pointer (some ⟨w2.heap.size, 0, none⟩)) (w2.alloc (.cells #[.slice (some ⟨hi, 0, none⟩) n ch, .slice (some ⟨lo, 0, none⟩) n cl] 30)) := by
  have b1 := (h1.blk hi rfl).2
  have b2 := (h2.blk lo rfl).2
  exact ⟨_, hi, lo, ch, cl, rfl, FBox.new w2 _ _, h1.alloc _, h2.alloc _, hne, by omega, by omega, Below.size hb, hb.alloc _⟩
theorem l5leafB {W w2 : World} {bx hi lo n ch cl : Nat} {xs ys : List Int} (h1 : Own w2 W.heap.size (some ⟨hi, 0, none⟩) n ch xs) (h2 : Own w2 W.heap.size (some ⟨lo, 0, none⟩) n cl ys) (hne : hi ≠ lo) (hb : SB W w2)
    (hbx : w2.heap[bx]? = some (.cells #[.slice none 0 0, .slice none 0 0] 30)) (h3 : bx ≠ hi) (h4 : bx ≠ lo) (h5 : W.heap.size ≤ bx) :
    L5Q W n xs ys (.pointer (some ⟨bx, 0, none⟩)) ((w2.setCell ⟨bx, 0, none⟩ (.slice (some ⟨hi, 0, none⟩) n ch)).setCell ⟨bx, 1, none⟩ (.slice (some ⟨lo, 0, none⟩) n cl)) := by
  refine ⟨bx, hi, lo, ch, cl, rfl, FBox.over hbx _ _, h1.block ?_, h2.block ?_, hne, h3, h4, h5, below_over hb h5 _ _⟩
  · exact (heap_setCell_other _ _ hi _ (fun e => h3 e.symm)).trans (heap_setCell_other _ _ hi _ (fun e => h3 e.symm))
  · exact (heap_setCell_other _ _ lo _ (fun e => h4 e.symm)).trans (heap_setCell_other _ _ lo _ (fun e => h4 e.symm))

set_option maxRecDepth 100000 in
set_option maxHeartbeats 8000000 in
theorem l5Set_any (A A' : Option Addr) (n c c' : Nat) (ds : List Int) (k : Nat) (x : Int) (w : World) (hx : Ints w w.heap.size A n (HiL ds)) (hy : Ints w w.heap.size A' n (LoL ds)) (hk : k < n) (hn : n ≤ 6) (x0 : 0 ≤ x) (x9 : x ≤ 9) :
    Calls Tryz.prog 210 #[.agg #[.slice A n c, .slice A' n c'], .int .i64 (k : Int), .int .i64 x] w fun e w' => (∃ v, e = .returned v ∧ FrOwn w' w.heap.size v (ds.set k x)) ∧ Below w.heap.size w w' := by
  have hl : ds.length = n := by have := hx.len; rwa [HiL_length] at this
  have hpos : 0 < n := by omega
  have HL := Lib.hid hl
  obtain ⟨W, hW⟩ : ∃ W, (w.alloc (.cells #[.slice A n c, .slice A' n c'] 30)).alloc (.cells #[.slice none 0 0, .slice none 0 0] 30) = W := ⟨_, rfl⟩
  have HX := Lib.hid (hW ▸ (hx.al (.cells #[.slice A n c, .slice A' n c'] 30)).al (.cells #[.slice none 0 0, .slice none 0 0] 30))
  have HY := Lib.hid (hW ▸ (hy.al (.cells #[.slice A n c, .slice A' n c'] 30)).al (.cells #[.slice none 0 0, .slice none 0 0] 30))
  have HB := Lib.hid (hW ▸ below_two w (.cells #[.slice A n c, .slice A' n c'] 30) (.cells #[.slice none 0 0, .slice none 0 0] 30))
  have HV := Lib.hid (hW ▸ (FBox.new w (.slice A n c) (.slice A' n c')).alloc (.cells #[.slice none 0 0, .slice none 0 0] 30))
  have HZ := Lib.hid (hW ▸ FBox.new (w.alloc (.cells #[.slice A n c, .slice A' n c'] 30)) (.slice none 0 0) (.slice none 0 0))
  have hsW : W.heap.size = w.heap.size + 1 + 1 := by rw [← hW]; simp
  have HSW := Lib.hid hsW
  have hlW : w.heap.size < W.heap.size := by omega
  have b0 := HV.out.fst
  have b1 := HV.out.snd
  have KS : Hid (∀ w', SB W w' → (w'.cell? ⟨w.heap.size, 0, none⟩ = some (.slice A n c) ∧ w'.cell? ⟨w.heap.size, 1, none⟩ = some (.slice A' n c') ∧ SB W w')) :=
    Lib.hid fun w' h => ⟨(Below.cell h (p := ⟨w.heap.size, 0, none⟩) hlW).trans b0, (Below.cell h (p := ⟨w.heap.size, 1, none⟩) hlW).trans b1, h⟩
  have hsb := SB.refl W
  have HWW := Lib.hid hW
  clear hx hy hl hsW hW
  go_enter Tryz.func210, Tryz.ntmps210
  go_upto_region 1 with fail
  rw [HWW.out]
  go_cut [7] (fun s7 wx => L5Q W n (HiL ds) (LoL ds) s7 wx)
  case first =>
    go_region_held3 (fun w' => w'.cell? ⟨w.heap.size, 0, none⟩ = some (.slice A n c) ∧ w'.cell? ⟨w.heap.size, 1, none⟩ = some (.slice A' n c') ∧ SB W w')
      (first
        | ((try go_split_ands); refine KS.out _ ?_; first | assumption | (exact SB.drew (by assumption)) | (exact SB.alloc (by assumption) _) | (exact SB.grown (by assumption) (by assumption)) | (exact Below.setCell (Below.setCell (by assumption : SB W _) (by first | omega | (simp <;> omega)) _) (by first | omega | (simp <;> omega)) _)))
      (first
        | ((try go_split_ands); (refine step_app_fresh (by rfl) (.tmp 8) (.tmp 10) (by rfl) (by rfl) (by rfl) (HX.out.below (by assumption : SB W _)) hpos ?_; intro hi ch w1 ho1 hg1; obtain ⟨hc1, hf1⟩ := bgrown hg1; have hs1 : SB W w1 := SB.grown (by assumption) hg1; have hz1 := hg1.size; (try simp at hz1); have hy1 := hs1.size; (try have q1 : W.heap.size < w1.heap.size := by omega); (try have q2 : W.heap.size < w1.heap.size + 1 := by omega); (try have q3 : W.heap.size < w1.heap.size + 1 + 1 := by omega); (try have q4 : W.heap.size + 1 < w1.heap.size := by omega); (try have q5 : W.heap.size + 1 < w1.heap.size + 1 := by omega); (try have q6 : W.heap.size + 1 < w1.heap.size + 1 + 1 := by omega); (try have q7 : W.heap.size + 1 + 1 < w1.heap.size := by omega); (try have q8 : W.heap.size + 1 + 1 < w1.heap.size + 1 := by omega); (try have q9 : W.heap.size + 1 + 1 < w1.heap.size + 1 + 1 := by omega)))
        | ((try go_split_ands); (refine step_app_fresh (by rfl) (.tmp 12) (.tmp 14) (by rfl) (by rfl) (by rfl) (HY.out.below (by assumption : SB W _)) hpos ?_; intro lo cl w2 ho2 hg2; obtain ⟨hc2, hf2⟩ := bgrown hg2; have hs2 : SB W w2 := SB.grown (by assumption) hg2; have hz2 := hg2.size; (try simp at hz2); have hy2 := hs2.size)))
    all_goals go_wp2_with fail
    all_goals go_meet
    all_goals
      have v1 := ho1.blk hi rfl
      have v2 := ho2.blk lo rfl
      simp only [World.size_alloc, size_drew_] at v1 v2
      have e12 : w2.heap[hi]? = w1.heap[hi]? := by
        refine (hg2.block hi (by first | omega | (simp <;> omega)) (by simp)).trans ?_
        first
          | rfl
          | exact Below.heap_alloc _ _ _ (by omega)
          | (rw [Below.heap_alloc _ _ _ (by simp <;> omega)]; exact Below.heap_alloc _ _ _ (by omega))
      have o1 := (ho1.block e12).mono (show W.heap.size ≤ _ by first | omega | (simp <;> omega))
      have o2 := ho2.mono (show W.heap.size ≤ _ by first | omega | (simp <;> omega))
      first
        | exact l5leafA o1 o2 (by omega) hs2
        | (refine l5leafB o1 o2 (by omega) hs2 ?_ (by omega) (by omega) (by omega)
           rw [hg2.block _ (by first | omega | (simp <;> omega)) (by simp)]
           repeat (first
             | (simp only [heap_drew, heap_alloc_if, World.size_alloc, if_true]; done)
             | rw [if_pos (by omega)]
             | rw [if_neg (by omega)]
             | simp only [heap_drew, heap_alloc_if, World.size_alloc, if_true]
             | rw [hg1.block _ (by first | omega | (simp <;> omega)) (by simp)]))
  case rest =>
    obtain ⟨bx, hi, lo, ch, cl, rfl, hbx, hoh, hol, d1, d2, d3, d4, hbel⟩ := hcut
    have hbc := FBox.fst hbx
    have hbd := FBox.snd hbx
    have hbl := FBox.lt hbx
    have hln := HL.out
    have hlh := HiL_length ds
    have hll := LoL_length ds
    rw [hln] at hlh hll
    obtain ⟨u, hu⟩ : ∃ u, (HiL ds)[k]? = some u := ⟨_, List.getElem?_eq_getElem (by omega)⟩
    obtain ⟨v, hv⟩ : ∃ v, (LoL ds)[k]? = some v := ⟨_, List.getElem?_eq_getElem (by omega)⟩
    obtain ⟨g7, e7, g70, hil, hc7, hf7⟩ := hoh.at_ (by omega)
    obtain rfl : hi = g7 := by simpa using e7
    have hco := hc7 k u hu
    have hfo := hf7 k
    obtain ⟨g8, e8, g80, lol, hc8, hf8⟩ := hol.at_ (by omega)
    obtain rfl : lo = g8 := by simpa using e8
    have hco' := hc8 k v hv
    have hfo' := hf8 k
    have hzw := HSW.out
    have hzz := FBox.keep HZ.out (hbel.block _ (by rw [World.size_alloc]; omega))
    simp only [World.size_alloc] at hzz
    have hz0 := hzz.fst
    have hz1 := hzz.snd
    have hy0 := hzz.free 0
    have hy1 := hzz.free 1
    have HZ2 := Lib.hid hzz
    have HBX := Lib.hid hbx
    have HOH := Lib.hid hoh
    have HOL := Lib.hid hol
    have HB2 := Lib.hid hbel
    have k0 : (0 : Int) ≤ (k : Int) := by omega
    have k1 : (k : Int) < (n : Int) := by omega
    have hza : w.heap.size + 1 < wc.heap.size := by have := hbel.size; omega
    have n1 : ¬ (w.heap.size + 1 = hi) := by omega
    have n2 : ¬ (w.heap.size + 1 = lo) := by omega
    have n3 : ¬ (w.heap.size + 1 = bx) := by omega
    clear hbx hoh hol hbel hc7 hf7 hc8 hf8 e7 e8 hln hlh hll hu hv hzz hzw b0 b1
    go_wp2
    obtain ⟨q1, q2⟩ := fill2 (k := k) HOH.out HOL.out d1 (x / 5) (x % 5)
    have hz2 := HZ2.out.set2 (p := ⟨hi, k, none⟩) (q := ⟨lo, k, none⟩) n1 n2 (.int .i64 (x / 5)) (.int .i64 (x % 5))
    have hl := HL.out
    subst hl
    refine bodyPost_ret (v := .agg #[.slice (some ⟨hi, 0, none⟩) ds.length ch, .slice (some ⟨lo, 0, none⟩) ds.length cl]) (by simp [results, Tryz.results210, go_sem, over_fst hz2, over_snd hz2]) rfl ⟨⟨_, rfl, ?_⟩, ?_⟩
    · have hso := HSW.out
      refine (FrOwn.over (B := W.heap.size) ⟨some ⟨hi, 0, none⟩, ch, some ⟨lo, 0, none⟩, cl, ?_, ?_, ?_, ?_, ?_⟩ (by omega) _ _).mono (by omega)
      · rw [List.length_set]
      · rw [List.length_set, HiL_set]; exact q1
      · rw [List.length_set, LoL_set]; exact q2
      · exact apart_of d1
      · exact apart_of (Ne.symm d1)
    · have hso := HSW.out
      exact below_over ((HB.out.trans (HB2.out.mono (by omega))).setCell (p := ⟨hi, k, none⟩) (by show w.heap.size ≤ hi; omega) _ |>.setCell (p := ⟨lo, k, none⟩) (by show w.heap.size ≤ lo; omega) _) (by omega) _ _
end Go.Proofs.YthdoofmfigemoaaGreatDoor
end

section
/-
  The laws' own words on frames: copies, comparisons, marks.
-/
namespace Go.Proofs.YthdoofmfigemoaaGreatDoor
open Go.RowKit

/-- a frame of the call's own, whatever it shows -/
def GOwn (w : World) (B : Nat) (v : Value) (hs ls : List Int) : Prop :=
  ∃ A n c A' m c', v = .agg #[.slice A n c, .slice A' m c'] ∧ Own w B A n c hs ∧ Own w B A' m c' ls ∧ Apart (.slice A n c) (.slice A' m c') ∧ Apart (.slice A' m c') (.slice A n c)
theorem FrOwn.g {w : World} {B : Nat} {v : Value} {ds : List Int} (h : FrOwn w B v ds) : GOwn w B v (HiL ds) (LoL ds) := by
  obtain ⟨A, c, A', c', rfl, h1, h2, h3, h4⟩ := h
  exact ⟨A, _, c, A', _, c', rfl, h1, h2, h3, h4⟩
theorem GOwn.next {w w' : World} {B : Nat} {v : Value} {hs ls : List Int} (h : GOwn w B v hs ls) (hb : Below w.heap.size w w') : GOwn w' B v hs ls := by
  obtain ⟨A, n, c, A', m, c', rfl, h1, h2, h3, h4⟩ := h
  exact ⟨A, _, c, A', _, c', rfl, h1.next hb, h2.next hb, h3, h4⟩
theorem GOwn.mono {w : World} {B B' : Nat} {v : Value} {hs ls : List Int} (h : GOwn w B v hs ls) (hB : B' ≤ B) : GOwn w B' v hs ls := by
  obtain ⟨A, n, c, A', m, c', rfl, h1, h2, h3, h4⟩ := h
  exact ⟨A, _, c, A', _, c', rfl, h1.mono hB, h2.mono hB, h3, h4⟩
theorem Own.low {w : World} {B b j n c : Nat} {A : Option Addr} {xs : List Int} (h : Own w B A n c xs) (hb : b < B) {u : Value} : Own (w.setCell ⟨b, j, none⟩ u) B A n c xs :=
  h.kept (grown_set b j u) (fun k hk e => by have := (h.blk k hk).1; injection e; omega)
/-- a frame's rows lie in these blocks -/
def BlkIn (v : Value) (lo hi : Nat) : Prop := ∀ A n c A' m c', v = .agg #[.slice A n c, .slice A' m c'] → (∀ k, (Value.slice A n c).ownBlock = some k → lo ≤ k ∧ k < hi) ∧ (∀ k, (Value.slice A' m c').ownBlock = some k → lo ≤ k ∧ k < hi)
theorem GOwn.blkIn {w : World} {B : Nat} {v : Value} {hs ls : List Int} (h : GOwn w B v hs ls) : BlkIn v B w.heap.size := by
  obtain ⟨A, n, c, A', m, c', rfl, h1, h2, h3, h4⟩ := h
  intro A2 n2 c2 A3 m3 c3 e
  injection e with e
  have e' := congrArg (fun a => a.toList) e
  simp only [List.cons.injEq, and_true] at e'
  obtain ⟨e1, e2⟩ := e'
  rw [← e1, ← e2]
  exact ⟨h1.blk, h2.blk⟩
/-- only blocks in this range may have changed -/
def FWithin (lo hi : Nat) (w w' : World) : Prop := w'.os = w.os ∧ w'.tape = w.tape ∧ w'.output = w.output ∧ w.heap.size ≤ w'.heap.size ∧ ∀ k, k < w.heap.size → k < lo ∨ hi ≤ k → w'.heap[k]? = w.heap[k]?
theorem FWithin.below {lo hi B : Nat} {w0 w w' : World} (h : FWithin lo hi w w') (hb : Below B w0 w) (hB : B ≤ lo) (hB2 : B ≤ w.heap.size) : Below B w0 w' := by
  obtain ⟨h1, h2, h3, h4, h5⟩ := h
  exact hb.trans ⟨h1, h2, h3, h4, fun k hk => h5 k (by omega) (.inl (by omega))⟩
theorem FWithin.box {lo hi b : Nat} {w w' : World} {u v : Value} (h : FWithin lo hi w w') (hx : FBox w b u v) (hb : b < lo ∨ hi ≤ b) : FBox w' b u v := hx.keep (h.2.2.2.2 b hx.lt hb)
theorem FWithin.own {lo hi lo2 hi2 B n c : Nat} {w w' : World} {A : Option Addr} {xs : List Int} (h : FWithin lo hi w w') (ho : Own w B A n c xs) (hb : ∀ k, (Value.slice A n c).ownBlock = some k → lo2 ≤ k ∧ k < hi2) (hd : hi2 ≤ lo ∨ hi ≤ lo2) : Own w' B A n c xs := by
  refine ⟨⟨ho.1.1, ?_⟩, ho.2⟩
  rcases ho.1.2 with h0 | ⟨g, cap, cur, hv, h1, hg, rest⟩
  · exact .inl h0
  · have hk := hb g (by rw [hv]; rfl)
    have hl := (Array.getElem?_eq_some_iff.1 hg).1
    exact .inr ⟨g, cap, cur, hv, h1, (h.2.2.2.2 g hl (by omega)).trans hg, rest⟩
theorem FWithin.gown {lo hi lo2 hi2 B : Nat} {w w' : World} {v : Value} {hs ls : List Int} (h : FWithin lo hi w w') (ho : GOwn w B v hs ls) (hb : BlkIn v lo2 hi2) (hd : hi2 ≤ lo ∨ hi ≤ lo2) : GOwn w' B v hs ls := by
  obtain ⟨A, n, c, A', m, c', rfl, h1, h2, h3, h4⟩ := ho
  obtain ⟨b1, b2⟩ := hb _ _ _ _ _ _ rfl
  exact ⟨A, _, c, A', _, c', rfl, h.own h1 b1 hd, h.own h2 b2 hd, h3, h4⟩

/-- a frame that can be read -/
def FrV (w : World) (v : Value) (hs ls : List Int) : Prop := ∃ A n c A' m c', v = .agg #[.slice A n c, .slice A' m c'] ∧ Ints w w.heap.size A n hs ∧ Ints w w.heap.size A' m ls
theorem GOwn.v {w : World} {B : Nat} {v : Value} {hs ls : List Int} (h : GOwn w B v hs ls) : FrV w v hs ls := by
  obtain ⟨A, n, c, A', m, c', rfl, h1, h2, _⟩ := h
  exact ⟨A, n, c, A', m, c', rfl, h1.ints, h2.ints⟩
theorem FrV.rows {w : World} {A A' : Option Addr} {n m c c' : Nat} {hs ls : List Int} (h : FrV w (.agg #[.slice A n c, .slice A' m c']) hs ls) : Ints w w.heap.size A n hs ∧ Ints w w.heap.size A' m ls := by
  obtain ⟨A2, n2, c2, A3, m3, c3, he, h1, h2⟩ := h
  injection he with he
  have e1 := congrArg (fun a => a.toList) he
  simp only [List.cons.injEq, Value.slice.injEq, and_true] at e1
  obtain ⟨⟨rfl, rfl, rfl⟩, rfl, rfl, rfl⟩ := e1
  exact ⟨h1, h2⟩
theorem row_len {k : IntKind} {w : World} {a : Option Addr} {len cap : Nat} {zs : List Int} (h : IsRow k w a len cap zs) : len ≤ 9223372036854775807 := by
  rcases h with ⟨_, rfl, _⟩ | ⟨_, _, h1, h2, _⟩
  · omega
  · unfold maxLen at h2; omega
end Go.Proofs.YthdoofmfigemoaaGreatDoor
end

section
/-
  A frame is changed by a number.
-/
namespace Go.Proofs.YthdoofmfigemoaaGreatDoor
open Go.RowKit

/-- what is left to be done from rod k on, p pushes behind it -/
def allP (s : Int) (ds : List Int) (k : Nat) (N p : Int) : Option (List Int × Int) := (Fr.allF s (ds.length - k) (ds.drop k) N).map fun q => (ds.take k ++ q.1, p + q.2)
theorem allP_zero (s : Int) (ds : List Int) (N : Int) : allP s ds 0 N 0 = Fr.all s ds N := by
  unfold allP Fr.all
  rw [List.drop_zero, Nat.sub_zero]
  cases Fr.allF s ds.length ds N <;> simp
theorem allP_done (s : Int) (ds : List Int) (k : Nat) (p : Int) : allP s ds k 0 p = some (ds, p) := by
  unfold allP
  cases h : ds.length - k with
  | zero => simp [Fr.allF]
  | succ m => simp [Fr.allF]
theorem chg_upper (s : Int) (ds : List Int) : ∀ g r n, Fr.chg s ds g = some (r, n) → 0 ≤ n ∧ n ≤ 2 * ds.length := by
  induction ds with
  | nil =>
    intro g r n h
    simp only [Fr.chg] at h
    split at h
    · simp at h; omega
    · cases h
  | cons d ds ih =>
    intro g r n h
    simp only [Fr.chg] at h
    split at h
    · simp at h; simp; omega
    · split at h
      · simp at h; have := cost_le d (d + s * g); simp; omega
      · rw [Option.map_eq_some_iff] at h
        obtain ⟨⟨r', n'⟩, hr, h⟩ := h
        simp at h
        have := ih _ _ _ hr
        have := cost_le d (d + s * g - 10 * s)
        simp; omega
theorem chgAt_upper {s : Int} {ds : List Int} {k : Nat} {g : Int} {R : List Int × Int} (h : chgAt s ds k g = some R) : 0 ≤ R.2 ∧ R.2 ≤ 2 * ds.length := by
  unfold chgAt at h
  rw [Option.map_eq_some_iff] at h
  obtain ⟨⟨r', n'⟩, hr, h⟩ := h
  subst h
  have := chg_upper _ _ _ _ _ hr
  simp at this ⊢
  omega
/-- one digit more -/
theorem allP_none {s : Int} {ds : List Int} {k : Nat} {N p : Int} (hk : k < ds.length) (hN : N ≠ 0) (h : chgAt s ds k (N % 10) = none) : allP s ds k N p = none := by
  obtain ⟨m, hm⟩ : ∃ m, ds.length - k = m + 1 := ⟨ds.length - k - 1, by omega⟩
  unfold allP
  rw [hm]
  simp only [Fr.allF, if_neg hN]
  unfold chgAt at h
  rw [Option.map_eq_none_iff] at h
  rw [h]
  rfl
theorem allP_some {s : Int} (hs : Fr.Sgn s) {ds es : List Int} {k : Nat} {N p n : Int} (hd : Fr.Digs ds) (hk : k < ds.length) (hN : N ≠ 0) (h : chgAt s ds k (N % 10) = some (es, n)) : allP s ds k N p = allP s es (k + 1) (N / 10) (p + n) := by
  obtain ⟨m, hm⟩ : ∃ m, ds.length - k = m + 1 := ⟨ds.length - k - 1, by omega⟩
  have h' := h
  unfold chgAt at h'
  rw [Option.map_eq_some_iff] at h'
  obtain ⟨⟨r, n'⟩, hr, h'⟩ := h'
  simp only [Prod.mk.injEq] at h'
  obtain ⟨rfl, rfl⟩ := h'
  obtain ⟨c1, c2, _⟩ := Fr.chg_some s hs _ _ _ _ (digs_drop hd k) (Int.emod_nonneg N (by omega)) (by have := Int.emod_lt_of_pos N (b := 10) (by omega); omega) hr
  rw [List.length_drop] at c2
  cases r with
  | nil => simp at c2; omega
  | cons d1 ds1 =>
    have hl : (ds.take k).length = k := by rw [List.length_take]; omega
    have e1 : (ds.take k ++ d1 :: ds1).length - (k + 1) = m := by simp at c2 ⊢; omega
    have e2 : (ds.take k ++ d1 :: ds1).drop (k + 1) = ds1 := by
      rw [List.drop_append, hl, List.drop_of_length_le (by omega), List.nil_append, show k + 1 - k = 1 from by omega]; rfl
    have e3 : (ds.take k ++ d1 :: ds1).take (k + 1) = ds.take k ++ [d1] := by
      rw [List.take_append, hl, List.take_of_length_le (by omega), show k + 1 - k = 1 from by omega]; rfl
    unfold allP
    rw [e1, e2, e3, hm]
    simp only [Fr.allF, if_neg hN, hr]
    cases Fr.allF s m ds1 (N / 10) with
    | none => rfl
    | some q => simp; omega

theorem chgAt_digs' {s : Int} (hs : Fr.Sgn s) {ds es : List Int} {k : Nat} {g n : Int} (hd : Fr.Digs ds) (h0 : 0 ≤ g) (h9 : g ≤ 9) (h : chgAt s ds k g = some (es, n)) : Fr.Digs es ∧ es.length = ds.length := by
  unfold chgAt at h
  rw [Option.map_eq_some_iff] at h
  obtain ⟨⟨r, n'⟩, hr, h'⟩ := h
  simp only [Prod.mk.injEq] at h'
  obtain ⟨rfl, rfl⟩ := h'
  obtain ⟨c1, c2, _⟩ := Fr.chg_some s hs _ _ _ _ (digs_drop hd k) h0 h9 hr
  rw [List.length_drop] at c2
  refine ⟨?_, ?_⟩
  · intro d hd'
    rcases List.mem_append.1 hd' with h | h
    · exact hd d (List.mem_of_mem_take h)
    · exact c1 d h
  · simp; omega

/-- a number in its range -/
def frBy (s : Int) (ds : List Int) (N : Int) : Option (List Int × Int) := if 0 ≤ N ∧ N < Fr.ten ds.length then Fr.all s ds N else none
theorem frBy_in {s : Int} {ds : List Int} {N : Int} (h : 0 ≤ N ∧ N < Fr.ten ds.length) : frBy s ds N = Fr.all s ds N := if_pos h
theorem frBy_out {s : Int} {ds : List Int} {N : Int} (h : ¬ (0 ≤ N ∧ N < Fr.ten ds.length)) : frBy s ds N = none := if_neg h

set_option maxRecDepth 100000 in
set_option maxHeartbeats 4000000 in
theorem changeByAdd_yes (A A' : Option Addr) (n c c' : Nat) (ds : List Int) (N : Int) (w : World) (hx : Ints w w.heap.size A n (HiL ds)) (hy : Ints w w.heap.size A' n (LoL ds)) (hds : Fr.Digs ds) (h1 : 1 ≤ n) (h6 : n ≤ 6) :
    Calls Tryz.prog 59 #[.agg #[.slice A n c, .slice A' n c'], .int .i64 N, .func (Fn.func 60) #[] #[]] w (FrRes w (frBy 1 ds N)) := by
  have hl : ds.length = n := by have := hx.len; rwa [HiL_length] at this
  have HL := Lib.hid hl
  have HX := Lib.hid hx
  have HY := Lib.hid hy
  have HD := Lib.hid hds
  obtain ⟨R, hR⟩ : ∃ R, frBy 1 ds N = R := ⟨_, rfl⟩
  rw [hR]
  have HE := Lib.hid hR
  have hten := ten_bd n h6
  obtain ⟨T, hT⟩ : ∃ T, Fr.ten n = T := ⟨_, rfl⟩
  rw [hT] at hten
  obtain ⟨t0, t1⟩ := hten
  have HT := Lib.hid hT
  clear hx hy hds hl hR hT
  have hpow : ∀ v, Calls Tryz.prog 56 #[.int .i64 (n : Int)] v fun e w' => e = .returned (.int .i64 T) ∧ v = w' := fun v => by rw [← HT.out]; exact powerOfTen_any n v h6
  have HP := Lib.hid hpow
  clear hpow
  go_enter Tryz.func59, Tryz.ntmps59
  go_wp2_with fail
  refine (rodsOf_yes A A' n c c' ds _ ((HX.out.al _).al _) ((HY.out.al _).al _) HD.out h1 h6).mono ?_
  rintro e w1 ⟨⟨g, h, rfl, hr⟩, hb1⟩
  have hz := ((FBox.new (w.alloc (.cells #[.slice A n c, .slice A' n c'] 30)) (.slice none 0 0) (.slice none 0 0)).next hb1)
  have hz0 := hz.fst
  have hz1 := hz.snd
  have hf0 := hz.free 0
  have hf1 := hz.free 1
  have hsl := hr.slice
  rw [HL.out] at hsl
  simp only [World.size_alloc] at hz hz0 hz1 hf0 hf1
  have HZ := Lib.hid hz
  have HB := Lib.hid ((below_two w _ _).trans (hb1.mono (by simp; omega)))
  have HR := Lib.hid hr
  clear hz hb1 hr
  have hhl := HR.out.hl
  have hgb := HR.out.2.2.2.1
  simp only [World.size_alloc] at hgb
  by_cases hin : 0 ≤ N ∧ N < T
  · obtain ⟨N0, N1⟩ := hin
    have he := HE.out
    rw [frBy_in (by rw [HL.out, HT.out]; exact ⟨N0, N1⟩), ← allP_zero] at he
    have HA := Lib.hid he
    clear he
    go_wp2_with fail
    refine (HP.out _).mono ?_
    rintro e w2 ⟨rfl, rfl⟩
    go_wp2_with fail
    have HG := Lib.hid (World.grownBy.refl w1 (some h))
    go_loopw [1, 11, 12] (fun nv pv kv wr => ∃ (k : Nat) (M p : Int) (es : List Int), nv = .int .i64 M ∧ pv = .int .i64 p ∧ kv = .int .i64 (k : Int) ∧ k ≤ n ∧ 0 ≤ M ∧ M < Fr.ten (n - k) ∧ M ≤ 1000000 ∧ 0 ≤ p ∧ p ≤ 20 * k ∧ Rods wr (w.heap.size + 1 + 1) g h es ∧ Fr.Digs es ∧ es.length = n ∧ allP 1 es k M p = R ∧ w1.grownBy wr (some h)) (fun nv _ _ _ => (intOf nv).toNat)
    case atStart => exact ⟨0, N, 0, ds, rfl, rfl, rfl, by omega, N0, by rw [Nat.sub_zero, HT.out]; exact N1, by omega, by omega, by omega, by have := HR.out; simpa using this, HD.out, HL.out, HA.out, HG.out⟩
    case round =>
      clear HR HG HA hsl hz0 hz1 hf0 hf1
      obtain ⟨k, M, p, es, rfl, rfl, rfl, hk, M0, M1, M2, p0, p1, hr, hd, hl, hA, hg⟩ := hrel
      have HR := Lib.hid hr
      have HD2 := Lib.hid hd
      have HL2 := Lib.hid hl
      have HA := Lib.hid hA
      have HG := Lib.hid hg
      have HM := Lib.hid M1
      have hsl := hr.slice
      rw [hl] at hsl
      have HZ2 := Lib.hid (HZ.out.grown hg (by intro e; injection e with e; omega))
      have z0 := HZ2.out.fst
      have z1 := HZ2.out.snd
      have f0 := HZ2.out.free 0
      have f1 := HZ2.out.free 1
      have HB2 := Lib.hid (HB.out.grown hg HB.out.size (by rintro q ⟨⟩; omega))
      have hws := HB2.out.size
      clear hr hd hl hA hg M1
      by_cases hM : 0 < M
      · have hkn : k < n := by
          rcases (show k < n ∨ k = n from by omega) with h | rfl
          · exact h
          · have h9 := HM.out; rw [Nat.sub_self] at h9; have h10 : Fr.ten 0 = 1 := rfl; omega
        have m0 : 0 ≤ M % 10 := Int.emod_nonneg M (by omega)
        have m9 : M % 10 ≤ 9 := by have := Int.emod_lt_of_pos M (b := 10) (by omega); omega
        have hcall := add_any wr _ g h es n k (M % 10) HR.out HD2.out HL2.out h6 m0 m9 (by omega)
        obtain ⟨Q, hQ⟩ : ∃ Q, chgAt 1 es k (M % 10) = Q := ⟨_, rfl⟩
        rw [hQ] at hcall
        have HC := Lib.hid hcall
        have HQ := Lib.hid hQ
        clear hcall hQ
        rcases Q with _ | ⟨es0, n0⟩
        · have he := HA.out
          rw [allP_none (by rw [HL2.out]; exact hkn) (by omega) HQ.out] at he
          subst he
          go_wp2_with fail
          refine HC.out.mono ?_
          rintro e w2 ⟨⟨es, hr2, hd2, hl2, rfl, -⟩, hg2⟩
          have HZ3 := Lib.hid (HZ2.out.grown hg2 (by intro e; injection e with e; omega))
          have z30 := HZ3.out.fst
          have z31 := HZ3.out.snd
          have f30 := HZ3.out.free 0
          have f31 := HZ3.out.free 1
          have HB3 := Lib.hid (HB2.out.grown hg2 HB2.out.size (by rintro q ⟨⟩; omega))
          clear hr2 hg2 hl2 z0 z1 f0 f1
          go_wp2
          exact bodyPost_ret (v := .tuple #[.agg #[.slice none 0 0, .slice none 0 0], .int .i64 0, .bool false]) (by simp [results, Tryz.results59, go_sem, over_fst HZ3.out, over_snd HZ3.out]) rfl (FrRes.none_ (below_over HB3.out (by omega) _ _))
        · have hup := chgAt_upper HQ.out
          rw [HL2.out] at hup
          simp only at hup
          obtain ⟨u0, u1⟩ := hup
          have u2 : n0 ≤ 12 := by omega
          go_wp2_with fail
          refine HC.out.mono ?_
          rintro e w2 ⟨⟨es2, hr2, hd2, hl2, rfl, hes⟩, hg2⟩
          obtain rfl : es0 = es2 := hes _ rfl
          have HR3 := Lib.hid hr2
          have HD3 := Lib.hid hd2
          have HL3 := Lib.hid hl2
          have HG3 := Lib.hid (HG.out.trans hg2)
          clear hr2 hg2 hl2 hes hd2 z0 z1 f0 f1 u1
          go_wp2
          go_roundw
          case rel =>
            have hA := HA.out
            rw [allP_some (.inl rfl) HD2.out (by rw [HL2.out]; exact hkn) (by omega) HQ.out] at hA
            refine ⟨k + 1, M / 10, p + n0, es0, by go_num, by go_num, by go_num, by omega, by omega, ?_, by omega, by omega, by omega, HR3.out, HD3.out, HL3.out, hA, HG3.out⟩
            have h9 := HM.out
            rw [show n - k = n - (k + 1) + 1 from by omega, Fr.ten_succ] at h9
            omega
          case measure => simp [intOf]; omega
      · obtain rfl : M = 0 := by omega
        have he := HA.out
        rw [allP_done] at he
        subst he
        go_wp2_with fail
        refine (frame_any wr _ g h es n HR.out HL2.out HD2.out h6).mono ?_
        rintro e w3 ⟨⟨v, rfl, ho⟩, hb3⟩
        have hos := ho.mono (show w.heap.size + 2 ≤ wr.heap.size by have := HR.out.hl; omega)
        obtain ⟨A2, c2, A3, c3, rfl, -⟩ := ho
        have HO := Lib.hid hos
        have HZ3 := Lib.hid (HZ2.out.next hb3)
        have z30 := HZ3.out.fst
        have z31 := HZ3.out.snd
        have f30 := HZ3.out.free 0
        have f31 := HZ3.out.free 1
        have HB3 := Lib.hid (below_chain HB2.out hb3)
        clear hb3 hos z0 z1 f0 f1
        go_wp2
        refine bodyPost_ret (v := .tuple #[.agg #[.slice A2 es.length c2, .slice A3 es.length c3], .int .i64 p, .bool true]) (by simp [results, Tryz.results59, go_sem, over_fst HZ3.out, over_snd HZ3.out]) rfl ⟨⟨_, rfl, ?_⟩, below_over HB3.out (by omega) _ _⟩
        exact (HO.out.over (by omega) _ _).mono (by omega)
  · have he := HE.out
    rw [frBy_out (by rw [HL.out, HT.out]; exact hin)] at he
    subst he
    rcases (show N < 0 ∨ (0 ≤ N ∧ T ≤ N) from by omega) with q1 | ⟨q1, q2⟩
    · clear hin
      go_wp2
      exact bodyPost_ret (v := .tuple #[.agg #[.slice none 0 0, .slice none 0 0], .int .i64 0, .bool false]) (by simp [results, Tryz.results59, go_sem, over_fst HZ.out, over_snd HZ.out]) rfl (FrRes.none_ (below_over HB.out (by omega) _ _))
    · clear hin
      go_wp2_with fail
      refine (HP.out _).mono ?_
      rintro e w2 ⟨rfl, rfl⟩
      go_wp2
      exact bodyPost_ret (v := .tuple #[.agg #[.slice none 0 0, .slice none 0 0], .int .i64 0, .bool false]) (by simp [results, Tryz.results59, go_sem, over_fst HZ.out, over_snd HZ.out]) rfl (FrRes.none_ (below_over HB.out (by omega) _ _))
set_option maxRecDepth 100000 in
set_option maxHeartbeats 2000000 in
theorem changeByAdd_no (A A' : Option Addr) (n m c c' : Nat) (hs ls : List Int) (N : Int) (w : World) (hx : Ints w w.heap.size A n hs) (hy : Ints w w.heap.size A' m ls) (hno : ¬ FrOk hs ls) :
    Calls Tryz.prog 59 #[.agg #[.slice A n c, .slice A' m c'], .int .i64 N, .func (Fn.func 60) #[] #[]] w (FrRes w none) := by
  have HX := Lib.hid hx
  have HY := Lib.hid hy
  have HN := Lib.hid hno
  clear hx hy hno
  go_enter Tryz.func59, Tryz.ntmps59
  go_wp2_with fail
  refine (rodsOf_no A A' n m c c' hs ls _ ((HX.out.al _).al _) ((HY.out.al _).al _) HN.out).mono ?_
  rintro e w1 ⟨rfl, hb1⟩
  have hz := ((FBox.new (w.alloc (.cells #[.slice A n c, .slice A' m c'] 30)) (.slice none 0 0) (.slice none 0 0)).next hb1)
  have hz0 := hz.fst
  have hz1 := hz.snd
  have hf0 := hz.free 0
  have hf1 := hz.free 1
  simp only [World.size_alloc] at hz hz0 hz1 hf0 hf1
  have HZ := Lib.hid hz
  have HB := Lib.hid ((below_two w _ _).trans (hb1.mono (by simp; omega)))
  clear hz hb1
  go_wp2
  exact bodyPost_ret (v := .tuple #[.agg #[.slice none 0 0, .slice none 0 0], .int .i64 0, .bool false]) (by simp [results, Tryz.results59, go_sem, over_fst HZ.out, over_snd HZ.out]) rfl (FrRes.none_ (below_over HB.out (by omega) _ _))

theorem changeByAdd_any (A A' : Option Addr) (n m c c' : Nat) (hs ls : List Int) (N : Int) (R : Option (List Int × Int)) (w : World) (hx : Ints w w.heap.size A n hs) (hy : Ints w w.heap.size A' m ls) (hR : frOf hs ls (fun ds => frBy 1 ds N) R) :
    Calls Tryz.prog 59 #[.agg #[.slice A n c, .slice A' m c'], .int .i64 N, .func (Fn.func 60) #[] #[]] w (FrRes w R) := by
  rcases hR with ⟨hno, rfl⟩ | ⟨ds, hd, rfl, rfl, h1, h6, rfl⟩
  · exact changeByAdd_no A A' n m c c' hs ls N w hx hy hno
  · have e1 := hx.len
    have e2 := hy.len
    rw [HiL_length] at e1
    rw [LoL_length] at e2
    subst e1
    subst e2
    exact changeByAdd_yes A A' _ c c' ds N w hx hy hd h1 h6
set_option maxRecDepth 100000 in
set_option maxHeartbeats 2000000 in
theorem FrameSum_any (A A' : Option Addr) (n m c c' : Nat) (hs ls : List Int) (N : Int) (R : Option (List Int × Int)) (w : World) (hx : Ints w w.heap.size A n hs) (hy : Ints w w.heap.size A' m ls) (hR : frOf hs ls (fun ds => frBy 1 ds N) R) :
    Calls Tryz.prog 19 #[.agg #[.slice A n c, .slice A' m c'], .int .i64 N] w (FrRes w R) := by
  have HX := Lib.hid hx
  have HY := Lib.hid hy
  have HE := Lib.hid hR
  clear hx hy hR
  go_enter Tryz.func19, Tryz.ntmps19
  go_wp2_with fail
  refine (changeByAdd_any A A' n m c c' hs ls N R _ ((HX.out.al _).al _) ((HY.out.al _).al _) HE.out).mono ?_
  rintro e w1 ⟨⟨v, rfl, ho⟩, hb1⟩
  have hz := ((FBox.new (w.alloc (.cells #[.slice A n c, .slice A' m c'] 30)) (.slice none 0 0) (.slice none 0 0)).next hb1)
  have hz0 := hz.fst
  have hz1 := hz.snd
  have hf0 := hz.free 0
  have hf1 := hz.free 1
  simp only [World.size_alloc] at hz hz0 hz1 hf0 hf1 ho
  have HZ := Lib.hid hz
  have HB := Lib.hid ((below_two w _ _).trans (hb1.mono (by simp; omega)))
  have HO := Lib.hid ho
  obtain ⟨A2, c2, A3, c3, rfl, -⟩ := ho
  clear hz hb1
  go_wp2
  refine bodyPost_ret (v := .tuple #[.agg #[.slice A2 (resL R).length c2, .slice A3 (resL R).length c3], .int .i64 (resN R), .bool R.isSome]) (by simp [results, Tryz.results19, go_sem, over_fst HZ.out, over_snd HZ.out]) rfl ⟨⟨_, rfl, ?_⟩, below_over HB.out (by omega) _ _⟩
  exact (HO.out.over (by omega) _ _).mono (by omega)
set_option maxRecDepth 100000 in
set_option maxHeartbeats 4000000 in
theorem changeByTake_yes (A A' : Option Addr) (n c c' : Nat) (ds : List Int) (N : Int) (w : World) (hx : Ints w w.heap.size A n (HiL ds)) (hy : Ints w w.heap.size A' n (LoL ds)) (hds : Fr.Digs ds) (h1 : 1 ≤ n) (h6 : n ≤ 6) :
    Calls Tryz.prog 59 #[.agg #[.slice A n c, .slice A' n c'], .int .i64 N, .func (Fn.func 61) #[] #[]] w (FrRes w (frBy (-1) ds N)) := by
  have hl : ds.length = n := by have := hx.len; rwa [HiL_length] at this
  have HL := Lib.hid hl
  have HX := Lib.hid hx
  have HY := Lib.hid hy
  have HD := Lib.hid hds
  obtain ⟨R, hR⟩ : ∃ R, frBy (-1) ds N = R := ⟨_, rfl⟩
  rw [hR]
  have HE := Lib.hid hR
  have hten := ten_bd n h6
  obtain ⟨T, hT⟩ : ∃ T, Fr.ten n = T := ⟨_, rfl⟩
  rw [hT] at hten
  obtain ⟨t0, t1⟩ := hten
  have HT := Lib.hid hT
  clear hx hy hds hl hR hT
  have hpow : ∀ v, Calls Tryz.prog 56 #[.int .i64 (n : Int)] v fun e w' => e = .returned (.int .i64 T) ∧ v = w' := fun v => by rw [← HT.out]; exact powerOfTen_any n v h6
  have HP := Lib.hid hpow
  clear hpow
  go_enter Tryz.func59, Tryz.ntmps59
  go_wp2_with fail
  refine (rodsOf_yes A A' n c c' ds _ ((HX.out.al _).al _) ((HY.out.al _).al _) HD.out h1 h6).mono ?_
  rintro e w1 ⟨⟨g, h, rfl, hr⟩, hb1⟩
  have hz := ((FBox.new (w.alloc (.cells #[.slice A n c, .slice A' n c'] 30)) (.slice none 0 0) (.slice none 0 0)).next hb1)
  have hz0 := hz.fst
  have hz1 := hz.snd
  have hf0 := hz.free 0
  have hf1 := hz.free 1
  have hsl := hr.slice
  rw [HL.out] at hsl
  simp only [World.size_alloc] at hz hz0 hz1 hf0 hf1
  have HZ := Lib.hid hz
  have HB := Lib.hid ((below_two w _ _).trans (hb1.mono (by simp; omega)))
  have HR := Lib.hid hr
  clear hz hb1 hr
  have hhl := HR.out.hl
  have hgb := HR.out.2.2.2.1
  simp only [World.size_alloc] at hgb
  by_cases hin : 0 ≤ N ∧ N < T
  · obtain ⟨N0, N1⟩ := hin
    have he := HE.out
    rw [frBy_in (by rw [HL.out, HT.out]; exact ⟨N0, N1⟩), ← allP_zero] at he
    have HA := Lib.hid he
    clear he
    go_wp2_with fail
    refine (HP.out _).mono ?_
    rintro e w2 ⟨rfl, rfl⟩
    go_wp2_with fail
    have HG := Lib.hid (World.grownBy.refl w1 (some h))
    go_loopw [1, 11, 12] (fun nv pv kv wr => ∃ (k : Nat) (M p : Int) (es : List Int), nv = .int .i64 M ∧ pv = .int .i64 p ∧ kv = .int .i64 (k : Int) ∧ k ≤ n ∧ 0 ≤ M ∧ M < Fr.ten (n - k) ∧ M ≤ 1000000 ∧ 0 ≤ p ∧ p ≤ 20 * k ∧ Rods wr (w.heap.size + 1 + 1) g h es ∧ Fr.Digs es ∧ es.length = n ∧ allP (-1) es k M p = R ∧ w1.grownBy wr (some h)) (fun nv _ _ _ => (intOf nv).toNat)
    case atStart => exact ⟨0, N, 0, ds, rfl, rfl, rfl, by omega, N0, by rw [Nat.sub_zero, HT.out]; exact N1, by omega, by omega, by omega, by have := HR.out; simpa using this, HD.out, HL.out, HA.out, HG.out⟩
    case round =>
      clear HR HG HA hsl hz0 hz1 hf0 hf1
      obtain ⟨k, M, p, es, rfl, rfl, rfl, hk, M0, M1, M2, p0, p1, hr, hd, hl, hA, hg⟩ := hrel
      have HR := Lib.hid hr
      have HD2 := Lib.hid hd
      have HL2 := Lib.hid hl
      have HA := Lib.hid hA
      have HG := Lib.hid hg
      have HM := Lib.hid M1
      have hsl := hr.slice
      rw [hl] at hsl
      have HZ2 := Lib.hid (HZ.out.grown hg (by intro e; injection e with e; omega))
      have z0 := HZ2.out.fst
      have z1 := HZ2.out.snd
      have f0 := HZ2.out.free 0
      have f1 := HZ2.out.free 1
      have HB2 := Lib.hid (HB.out.grown hg HB.out.size (by rintro q ⟨⟩; omega))
      have hws := HB2.out.size
      clear hr hd hl hA hg M1
      by_cases hM : 0 < M
      · have hkn : k < n := by
          rcases (show k < n ∨ k = n from by omega) with h | rfl
          · exact h
          · have h9 := HM.out; rw [Nat.sub_self] at h9; have h10 : Fr.ten 0 = 1 := rfl; omega
        have m0 : 0 ≤ M % 10 := Int.emod_nonneg M (by omega)
        have m9 : M % 10 ≤ 9 := by have := Int.emod_lt_of_pos M (b := 10) (by omega); omega
        have hcall := take_any wr _ g h es n k (M % 10) HR.out HD2.out HL2.out h6 m0 m9 (by omega)
        obtain ⟨Q, hQ⟩ : ∃ Q, chgAt (-1) es k (M % 10) = Q := ⟨_, rfl⟩
        rw [hQ] at hcall
        have HC := Lib.hid hcall
        have HQ := Lib.hid hQ
        clear hcall hQ
        rcases Q with _ | ⟨es0, n0⟩
        · have he := HA.out
          rw [allP_none (by rw [HL2.out]; exact hkn) (by omega) HQ.out] at he
          subst he
          go_wp2_with fail
          refine HC.out.mono ?_
          rintro e w2 ⟨⟨es, hr2, hd2, hl2, rfl, -⟩, hg2⟩
          have HZ3 := Lib.hid (HZ2.out.grown hg2 (by intro e; injection e with e; omega))
          have z30 := HZ3.out.fst
          have z31 := HZ3.out.snd
          have f30 := HZ3.out.free 0
          have f31 := HZ3.out.free 1
          have HB3 := Lib.hid (HB2.out.grown hg2 HB2.out.size (by rintro q ⟨⟩; omega))
          clear hr2 hg2 hl2 z0 z1 f0 f1
          go_wp2
          exact bodyPost_ret (v := .tuple #[.agg #[.slice none 0 0, .slice none 0 0], .int .i64 0, .bool false]) (by simp [results, Tryz.results59, go_sem, over_fst HZ3.out, over_snd HZ3.out]) rfl (FrRes.none_ (below_over HB3.out (by omega) _ _))
        · have hup := chgAt_upper HQ.out
          rw [HL2.out] at hup
          simp only at hup
          obtain ⟨u0, u1⟩ := hup
          have u2 : n0 ≤ 12 := by omega
          go_wp2_with fail
          refine HC.out.mono ?_
          rintro e w2 ⟨⟨es2, hr2, hd2, hl2, rfl, hes⟩, hg2⟩
          obtain rfl : es0 = es2 := hes _ rfl
          have HR3 := Lib.hid hr2
          have HD3 := Lib.hid hd2
          have HL3 := Lib.hid hl2
          have HG3 := Lib.hid (HG.out.trans hg2)
          clear hr2 hg2 hl2 hes hd2 z0 z1 f0 f1 u1
          go_wp2
          go_roundw
          case rel =>
            have hA := HA.out
            rw [allP_some (.inr rfl) HD2.out (by rw [HL2.out]; exact hkn) (by omega) HQ.out] at hA
            refine ⟨k + 1, M / 10, p + n0, es0, by go_num, by go_num, by go_num, by omega, by omega, ?_, by omega, by omega, by omega, HR3.out, HD3.out, HL3.out, hA, HG3.out⟩
            have h9 := HM.out
            rw [show n - k = n - (k + 1) + 1 from by omega, Fr.ten_succ] at h9
            omega
          case measure => simp [intOf]; omega
      · obtain rfl : M = 0 := by omega
        have he := HA.out
        rw [allP_done] at he
        subst he
        go_wp2_with fail
        refine (frame_any wr _ g h es n HR.out HL2.out HD2.out h6).mono ?_
        rintro e w3 ⟨⟨v, rfl, ho⟩, hb3⟩
        have hos := ho.mono (show w.heap.size + 2 ≤ wr.heap.size by have := HR.out.hl; omega)
        obtain ⟨A2, c2, A3, c3, rfl, -⟩ := ho
        have HO := Lib.hid hos
        have HZ3 := Lib.hid (HZ2.out.next hb3)
        have z30 := HZ3.out.fst
        have z31 := HZ3.out.snd
        have f30 := HZ3.out.free 0
        have f31 := HZ3.out.free 1
        have HB3 := Lib.hid (below_chain HB2.out hb3)
        clear hb3 hos z0 z1 f0 f1
        go_wp2
        refine bodyPost_ret (v := .tuple #[.agg #[.slice A2 es.length c2, .slice A3 es.length c3], .int .i64 p, .bool true]) (by simp [results, Tryz.results59, go_sem, over_fst HZ3.out, over_snd HZ3.out]) rfl ⟨⟨_, rfl, ?_⟩, below_over HB3.out (by omega) _ _⟩
        exact (HO.out.over (by omega) _ _).mono (by omega)
  · have he := HE.out
    rw [frBy_out (by rw [HL.out, HT.out]; exact hin)] at he
    subst he
    rcases (show N < 0 ∨ (0 ≤ N ∧ T ≤ N) from by omega) with q1 | ⟨q1, q2⟩
    · clear hin
      go_wp2
      exact bodyPost_ret (v := .tuple #[.agg #[.slice none 0 0, .slice none 0 0], .int .i64 0, .bool false]) (by simp [results, Tryz.results59, go_sem, over_fst HZ.out, over_snd HZ.out]) rfl (FrRes.none_ (below_over HB.out (by omega) _ _))
    · clear hin
      go_wp2_with fail
      refine (HP.out _).mono ?_
      rintro e w2 ⟨rfl, rfl⟩
      go_wp2
      exact bodyPost_ret (v := .tuple #[.agg #[.slice none 0 0, .slice none 0 0], .int .i64 0, .bool false]) (by simp [results, Tryz.results59, go_sem, over_fst HZ.out, over_snd HZ.out]) rfl (FrRes.none_ (below_over HB.out (by omega) _ _))
set_option maxRecDepth 100000 in
set_option maxHeartbeats 2000000 in
theorem changeByTake_no (A A' : Option Addr) (n m c c' : Nat) (hs ls : List Int) (N : Int) (w : World) (hx : Ints w w.heap.size A n hs) (hy : Ints w w.heap.size A' m ls) (hno : ¬ FrOk hs ls) :
    Calls Tryz.prog 59 #[.agg #[.slice A n c, .slice A' m c'], .int .i64 N, .func (Fn.func 61) #[] #[]] w (FrRes w none) := by
  have HX := Lib.hid hx
  have HY := Lib.hid hy
  have HN := Lib.hid hno
  clear hx hy hno
  go_enter Tryz.func59, Tryz.ntmps59
  go_wp2_with fail
  refine (rodsOf_no A A' n m c c' hs ls _ ((HX.out.al _).al _) ((HY.out.al _).al _) HN.out).mono ?_
  rintro e w1 ⟨rfl, hb1⟩
  have hz := ((FBox.new (w.alloc (.cells #[.slice A n c, .slice A' m c'] 30)) (.slice none 0 0) (.slice none 0 0)).next hb1)
  have hz0 := hz.fst
  have hz1 := hz.snd
  have hf0 := hz.free 0
  have hf1 := hz.free 1
  simp only [World.size_alloc] at hz hz0 hz1 hf0 hf1
  have HZ := Lib.hid hz
  have HB := Lib.hid ((below_two w _ _).trans (hb1.mono (by simp; omega)))
  clear hz hb1
  go_wp2
  exact bodyPost_ret (v := .tuple #[.agg #[.slice none 0 0, .slice none 0 0], .int .i64 0, .bool false]) (by simp [results, Tryz.results59, go_sem, over_fst HZ.out, over_snd HZ.out]) rfl (FrRes.none_ (below_over HB.out (by omega) _ _))

theorem changeByTake_any (A A' : Option Addr) (n m c c' : Nat) (hs ls : List Int) (N : Int) (R : Option (List Int × Int)) (w : World) (hx : Ints w w.heap.size A n hs) (hy : Ints w w.heap.size A' m ls) (hR : frOf hs ls (fun ds => frBy (-1) ds N) R) :
    Calls Tryz.prog 59 #[.agg #[.slice A n c, .slice A' m c'], .int .i64 N, .func (Fn.func 61) #[] #[]] w (FrRes w R) := by
  rcases hR with ⟨hno, rfl⟩ | ⟨ds, hd, rfl, rfl, h1, h6, rfl⟩
  · exact changeByTake_no A A' n m c c' hs ls N w hx hy hno
  · have e1 := hx.len
    have e2 := hy.len
    rw [HiL_length] at e1
    rw [LoL_length] at e2
    subst e1
    subst e2
    exact changeByTake_yes A A' _ c c' ds N w hx hy hd h1 h6
set_option maxRecDepth 100000 in
set_option maxHeartbeats 2000000 in
theorem FrameLess_any (A A' : Option Addr) (n m c c' : Nat) (hs ls : List Int) (N : Int) (R : Option (List Int × Int)) (w : World) (hx : Ints w w.heap.size A n hs) (hy : Ints w w.heap.size A' m ls) (hR : frOf hs ls (fun ds => frBy (-1) ds N) R) :
    Calls Tryz.prog 20 #[.agg #[.slice A n c, .slice A' m c'], .int .i64 N] w (FrRes w R) := by
  have HX := Lib.hid hx
  have HY := Lib.hid hy
  have HE := Lib.hid hR
  clear hx hy hR
  go_enter Tryz.func20, Tryz.ntmps20
  go_wp2_with fail
  refine (changeByTake_any A A' n m c c' hs ls N R _ ((HX.out.al _).al _) ((HY.out.al _).al _) HE.out).mono ?_
  rintro e w1 ⟨⟨v, rfl, ho⟩, hb1⟩
  have hz := ((FBox.new (w.alloc (.cells #[.slice A n c, .slice A' m c'] 30)) (.slice none 0 0) (.slice none 0 0)).next hb1)
  have hz0 := hz.fst
  have hz1 := hz.snd
  have hf0 := hz.free 0
  have hf1 := hz.free 1
  simp only [World.size_alloc] at hz hz0 hz1 hf0 hf1 ho
  have HZ := Lib.hid hz
  have HB := Lib.hid ((below_two w _ _).trans (hb1.mono (by simp; omega)))
  have HO := Lib.hid ho
  obtain ⟨A2, c2, A3, c3, rfl, -⟩ := ho
  clear hz hb1
  go_wp2
  refine bodyPost_ret (v := .tuple #[.agg #[.slice A2 (resL R).length c2, .slice A3 (resL R).length c3], .int .i64 (resN R), .bool R.isSome]) (by simp [results, Tryz.results20, go_sem, over_fst HZ.out, over_snd HZ.out]) rfl ⟨⟨_, rfl, ?_⟩, below_over HB.out (by omega) _ _⟩
  exact (HO.out.over (by omega) _ _).mono (by omega)
theorem frOf_ex (hs ls : List Int) (f : List Int → Option (List Int × Int)) : ∃ R, frOf hs ls f R := by
  by_cases h : FrOk hs ls
  · obtain ⟨ds, h1, h2, h3, h4, h5⟩ := h
    exact ⟨f ds, .inr ⟨ds, h1, h2, h3, h4, h5, rfl⟩⟩
  · exact ⟨none, .inl ⟨h, rfl⟩⟩
theorem frAt_digs {s : Int} (hs : Fr.Sgn s) {ds : List Int} {k x : Int} {R : List Int × Int} (hd : Fr.Digs ds) (h : frAt s ds k x = some R) : Fr.Digs R.1 ∧ R.1.length = ds.length := by
  unfold frAt at h
  split at h
  · next hk => exact chgAt_digs' hs hd hk.2.2.1 hk.2.2.2 (by rw [h])
  · cases h
theorem frBy_digs {s : Int} (hs : Fr.Sgn s) {ds : List Int} {N : Int} {R : List Int × Int} (hd : Fr.Digs ds) (h : frBy s ds N = some R) : Fr.Digs R.1 ∧ R.1.length = ds.length := by
  unfold frBy at h
  split at h
  · next hk =>
    obtain ⟨a1, a2, _⟩ := Fr.all_some s hs ds N R.1 R.2 hd hk.1 h
    exact ⟨a1, a2⟩
  · cases h
theorem resL_len_at {s : Int} (hsg : Fr.Sgn s) {hs ls : List Int} {k x : Int} {R : Option (List Int × Int)} (h : frOf hs ls (fun ds => frAt s ds k x) R) : (resL R).length ≤ 6 := by
  rcases h with ⟨_, rfl⟩ | ⟨ds, h1, _, _, _, h5, h6⟩
  · simp [resL]
  · cases R with
    | none => simp [resL]
    | some p => have := (frAt_digs hsg h1 h6.symm).2; simp [resL]; omega
theorem resL_len_by {s : Int} (hsg : Fr.Sgn s) {hs ls : List Int} {N : Int} {R : Option (List Int × Int)} (h : frOf hs ls (fun ds => frBy s ds N) R) : (resL R).length ≤ 6 := by
  rcases h with ⟨_, rfl⟩ | ⟨ds, h1, _, _, _, h5, h6⟩
  · simp [resL]
  · cases R with
    | none => simp [resL]
    | some p => have := (frBy_digs hsg h1 h6.symm).2; simp [resL]; omega
end Go.Proofs.YthdoofmfigemoaaGreatDoor
end

section
/-
  l5Change of the reference: a digit is added on a rod or taken from it.
-/
namespace Go.Proofs.YthdoofmfigemoaaGreatDoor
open Go.RowKit

theorem frAt_next {s : Int} {es : List Int} {k : Nat} (hk : k ≤ es.length) : frAt s es (k : Int) 1 = chgAt s es k 1 := by
  by_cases h : k < es.length
  · exact frAt_in s es k 1 h (by omega) (by omega)
  · rw [frAt_out _ _ _ _ (by omega)]
    have := chgP_out s es k 1 0 (by omega) (by omega)
    rw [chgP_zero] at this
    exact this.symm
theorem chgP_map {s : Int} {ds : List Int} {k : Nat} {g p : Int} {R : Option (List Int × Int)} (h : chgAt s ds k g = R) : chgP s ds k g p = R.map fun q => (q.1, p + q.2) := by rw [chgP, h]
/-- what was there at W is there, but block r, which was written -/
def SG (W : World) (r : Nat) (w : World) : Prop := W.grownBy w (some r)
theorem SG.refl (W : World) (r : Nat) : SG W r W := World.grownBy.refl W _
theorem SG.drew {W w : World} {r : Nat} (h : SG W r w) : SG W r w.drew := grown_drew h
theorem SG.below {W w w' : World} {r : Nat} (h : SG W r w) (hb : Below w.heap.size w w') : SG W r w' := World.grownBy.trans h (grown_of_below hb _)
theorem SG.set2 {W w : World} {r : Nat} (h : SG W r w) (u v : Value) : SG W r ((w.setCell ⟨r, 0, none⟩ u).setCell ⟨r, 1, none⟩ v) := (World.grownBy.trans h (grown_set r 0 u)).trans (grown_set r 1 v)
theorem SG.base {w0 W w : World} {r : Nat} (hb : Below w0.heap.size w0 W) (h : SG W r w) (hr : w0.heap.size ≤ r) : Below w0.heap.size w0 w := hb.grown h hb.size (by rintro q ⟨⟩; exact hr)
theorem SB.below {W w w' : World} (h : SB W w) (hb : Below w.heap.size w w') : SB W w' := below_chain h hb
theorem _root_.Go.RowKit.Below.drew_ {w w' : World} (h : Below w.drew.heap.size w.drew w') : Below w.heap.size w w' := ⟨h.os, h.tape, h.output, h.size, h.block⟩
theorem frAt_upper {s : Int} {ds : List Int} {k x : Int} {R : List Int × Int} (h : frAt s ds k x = some R) : 0 ≤ R.2 ∧ R.2 ≤ 2 * ds.length := by
  unfold frAt at h
  split at h
  · exact chgAt_upper h
  · cases h
theorem cell_of_new {X : World} {b j : Nat} {cs : Array Value} {t : TypeId} {v : Value} (hb : X.heap.size = b) (hv : cs[j]? = some v) : (X.alloc (.cells cs t)).drew.cell? ⟨b, j, none⟩ = some v := by
  subst hb
  show (X.alloc (.cells cs t)).cell? _ = _
  rw [cell_of_row _ X.heap.size j _ _ _ (heap_alloc_new X _)]
  exact hv
theorem FrRes.out_ {w w' : World} {R : Option (List Int × Int)} {e : Ending} (h : FrRes w R e w') : ∃ A c A' c', e = .returned (.tuple #[.agg #[.slice A (resL R).length c, .slice A' (resL R).length c'], .int .i64 (resN R), .bool R.isSome]) ∧ FrOwn w' w.heap.size (.agg #[.slice A (resL R).length c, .slice A' (resL R).length c']) (resL R) ∧ Below w.heap.size w w' := by
  obtain ⟨⟨v, rfl, ho⟩, hb⟩ := h
  have ho' := ho
  obtain ⟨A, c, A', c', rfl, -⟩ := ho'
  exact ⟨A, c, A', c', rfl, ho, hb⟩
theorem FrOwn.ints {w : World} {B n m c c' : Nat} {A A' : Option Addr} {ds : List Int} (h : FrOwn w B (.agg #[.slice A n c, .slice A' m c']) ds) : n = ds.length ∧ m = ds.length ∧ Ints w w.heap.size A n (HiL ds) ∧ Ints w w.heap.size A' m (LoL ds) := by
  obtain ⟨A2, c2, A3, c3, he, h1, h2, _⟩ := h
  injection he with he
  have e1 := congrArg (fun a => a.toList) he
  simp only [List.cons.injEq, Value.slice.injEq, and_true] at e1
  obtain ⟨⟨rfl, rfl, rfl⟩, rfl, rfl, rfl⟩ := e1
  exact ⟨rfl, rfl, h1.ints, h2.ints⟩

set_option maxRecDepth 100000 in
set_option maxHeartbeats 8000000 in
theorem l5ChangeAdd_yes (m : Nat) : ∀ (A A' : Option Addr) (n c c' : Nat) (ds : List Int) (k x : Int) (w : World), Ints w w.heap.size A n (HiL ds) → Ints w w.heap.size A' n (LoL ds) → Fr.Digs ds → 1 ≤ n → n ≤ 6 → ((n : Int) - k).toNat = m →
    Calls Tryz.prog 212 #[.agg #[.slice A n c, .slice A' n c'], .int .i64 k, .int .i64 x, .int .i64 1] w (FrRes w (frAt 1 ds k x)) := by
  induction m using Nat.strongRecOn with
  | ind m ih =>
    intro A A' n c c' ds k x w hx hy hds h1 h6 hm
    have IH := Lib.hid ih
    have hl : ds.length = n := by have := hx.len; rwa [HiL_length] at this
    have HL := Lib.hid hl
    have HX := Lib.hid hx
    have HY := Lib.hid hy
    have HD := Lib.hid hds
    obtain ⟨R, hR⟩ : ∃ R, frAt 1 ds k x = R := ⟨_, rfl⟩
    rw [hR]
    have HE := Lib.hid hR
    have HM := Lib.hid hm
    clear hx hy hds hl hR ih hm
    go_enter Tryz.func212, Tryz.ntmps212
    go_wp2_with fail
    refine (specFrameValid_yes A A' n c c' ds _ ((HX.out.al _).al _) ((HY.out.al _).al _) HD.out h1 h6).mono ?_
    rintro e w1 ⟨rfl, hb1⟩
    have hz := ((FBox.new (w.alloc (.cells #[.slice A n c, .slice A' n c'] 30)) (.slice none 0 0) (.slice none 0 0)).next hb1)
    have hv := ((FBox.new w (.slice A n c) (.slice A' n c')).alloc (.cells #[.slice none 0 0, .slice none 0 0] 30)).next hb1
    simp only [World.size_alloc] at hz
    have hz0 := hz.fst
    have hz1 := hz.snd
    have hf0 := hz.free 0
    have hf1 := hz.free 1
    have hv0 := hv.fst
    have hv1 := hv.snd
    have HX1 := Lib.hid (((HX.out.al _).al _).next hb1)
    have HY1 := Lib.hid (((HY.out.al _).al _).next hb1)
    have HZ := Lib.hid hz
    have HV := Lib.hid hv
    have HB := Lib.hid ((below_two w _ _).trans (hb1.mono (by simp; omega)))
    have hws : w.heap.size + 1 + 1 ≤ w1.heap.size := by have := hb1.size; simpa using this
    clear hz hv hb1
    by_cases hin : 0 ≤ k ∧ k < (n : Int) ∧ 0 ≤ x ∧ x ≤ 9
    · obtain ⟨k0, k1, x0, x9⟩ := hin
      obtain ⟨j, rfl⟩ := Int.eq_ofNat_of_zero_le k0
      have hj : j < n := by omega
      obtain ⟨d, hd⟩ : ∃ d, ds[j]? = some d := ⟨_, List.getElem?_eq_getElem (by have := HL.out; omega)⟩
      obtain ⟨d0, d9⟩ := HD.out d (List.mem_of_getElem? hd)
      have he := HE.out
      rw [frAt_in _ _ _ _ (by have := HL.out; omega) x0 x9, ← chgP_zero] at he
      have HE2 := Lib.hid he
      have HDD := Lib.hid hd
      have hdig : ∀ v, Ints v v.heap.size A n (HiL ds) → Ints v v.heap.size A' n (LoL ds) → Calls Tryz.prog 211 #[.agg #[.slice A n c, .slice A' n c'], .int .i64 (j : Int)] v fun e w' => e = .returned (.int .i64 d) ∧ Below v.heap.size v w' :=
        fun v h2 h3 => specFrameDigit_any A A' n n c c' (HiL ds) (LoL ds) j d v h2 h3 (.inr ⟨ds, HD.out, rfl, rfl, by have := HL.out; omega, by have := HL.out; omega, (digAt_in HDD.out).symm⟩)
      have HDG := Lib.hid hdig
      clear HE he hd hdig
      have l3 : (decide (0 ≤ x) && decide (x ≤ 9)) = true := by simp [x0, x9]
      go_wp2_with fail
      refine (l6In_yes (by omega) (by omega) _).mono ?_
      rintro e w' ⟨rfl, rfl⟩
      go_wp2_with fail
      refine (fr_l3Digit_is l3 _).mono ?_
      rintro e w' ⟨rfl, rfl⟩
      clear l3
      by_cases hx0 : x = 0
      · subst hx0
        have he := HE2.out
        rw [chgP_done] at he
        subst he
        have hdx : ds.set j d = ds := by
          apply List.ext_getElem?
          intro i
          by_cases h : j = i
          · subst h; rw [List.getElem?_set_self (by have := HL.out; omega), HDD.out]
          · rw [List.getElem?_set_ne h]
        have HDX := Lib.hid hdx
        have hwl : w.heap.size < w1.heap.size := by omega
        have hwl1 : w.heap.size + 1 < w1.heap.size := by omega
        have KS : Hid (∀ w', SG w1 (w.heap.size + 1) w' → (w'.cell? ⟨w.heap.size, 0, none⟩ = some (.slice A n c) ∧ w'.cell? ⟨w.heap.size, 1, none⟩ = some (.slice A' n c') ∧ SG w1 (w.heap.size + 1) w')) :=
          Lib.hid fun w' h => ⟨(World.cell?_of_block (a := ⟨w.heap.size, 0, none⟩) (World.grownBy.block h w.heap.size hwl (by simp))).trans hv0, (World.cell?_of_block (a := ⟨w.heap.size, 1, none⟩) (World.grownBy.block h w.heap.size hwl (by simp))).trans hv1, h⟩
        have HIX : Hid (∀ v, SG w1 (w.heap.size + 1) v → Ints v v.heap.size A n (HiL ds)) := Lib.hid fun v h => (HX.out.below (SG.base HB.out h (by omega))).mono (SG.base HB.out h (by omega)).size
        have HIY : Hid (∀ v, SG w1 (w.heap.size + 1) v → Ints v v.heap.size A' n (LoL ds)) := Lib.hid fun v h => (HY.out.below (SG.base HB.out h (by omega))).mono (SG.base HB.out h (by omega)).size
        have hsb := SG.refl w1 (w.heap.size + 1)
        clear hdx
        go_wp2_with fail
        go_region_held3 (fun w' => w'.cell? ⟨w.heap.size, 0, none⟩ = some (.slice A n c) ∧ w'.cell? ⟨w.heap.size, 1, none⟩ = some (.slice A' n c') ∧ SG w1 (w.heap.size + 1) w')
          (first
            | ((try go_split_ands); refine KS.out _ ?_; first | assumption | (exact SG.drew (by assumption)) | (exact SG.set2 (by assumption) _ _)))
          (first
            | (go_at_call 211; (try go_split_ands); (refine (HDG.out _ (HIX.out _ (by assumption)) (HIY.out _ (by assumption))).mono ?_; rintro e w2 ⟨rfl, hb2⟩; have hs2 : SG w1 (w.heap.size + 1) w2 := SG.below (by assumption) hb2; have hy2 := hs2.size))
            | (go_at_call 210; (try go_split_ands); (refine (l5Set_any A A' n c c' ds j d _ (HIX.out _ (by assumption)) (HIY.out _ (by assumption)) hj h6 d0 d9).mono ?_; rintro e w3 ⟨⟨v, rfl, ho⟩, hb3⟩; have hs3 : SG w1 (w.heap.size + 1) w3 := SG.below (by assumption) hb3; obtain ⟨A2, c2, A3, c3, rfl, -⟩ := id ho; have hz3 := (HZ.out.next (hb2.drew_)).next hb3; have z30 := hz3.fst; have z31 := hz3.snd; have f30 := hz3.free 0; have f31 := hz3.free 1)))
        rw [HDX.out] at ho
        have HO := Lib.hid (ho.mono (show w.heap.size + 2 ≤ _ by omega))
        have HZ3 := Lib.hid hz3
        have HB3 := Lib.hid (SG.base HB.out hs3 (by omega))
        clear hz3 hs3
        go_wp2
        refine bodyPost_ret (v := .tuple #[.agg #[.slice A2 ds.length c2, .slice A3 ds.length c3], .int .i64 0, .bool true]) (by simp [results, Tryz.results212, go_sem, over_fst HZ3.out, over_snd HZ3.out]) rfl ⟨⟨_, rfl, ?_⟩, below_over HB3.out (by omega) _ _⟩
        exact (HO.out.over (by omega) _ _).mono (by omega)
      · have hxb : (x == 0) = false := by simpa using hx0
        go_wp2_with fail
        refine (HDG.out _ HX1.out HY1.out).mono ?_
        rintro e w2 ⟨rfl, hb2⟩
        have HZ2 := Lib.hid (HZ.out.next hb2)
        have HV2 := Lib.hid (HV.out.next hb2)
        have HX2 := Lib.hid (HX1.out.next hb2)
        have HY2 := Lib.hid (HY1.out.next hb2)
        have HB2 := Lib.hid (below_chain HB.out hb2)
        have hs2 := hb2.size
        have v0 := HV2.out.fst
        have v1 := HV2.out.snd
        have z0 := HZ2.out.fst
        have z1 := HZ2.out.snd
        have f0 := HZ2.out.free 0
        have f1 := HZ2.out.free 1
        clear hb2 hz0 hz1 hf0 hf1 hv0 hv1
        by_cases hs : d + x ≤ 9
        · have he := HE2.out
          rw [chgP_in _ _ _ _ _ d hx0 HDD.out (by omega) (by omega), Int.zero_add, Int.one_mul] at he
          subst he
          have l3 : (decide (0 ≤ d + x) && decide (d + x ≤ 9)) = true := by simp; omega
          have HL3 := Lib.hid l3
          clear l3
          go_wp2_with fail
          refine (fr_l3Digit_is HL3.out _).mono ?_
          rintro e w' ⟨rfl, rfl⟩
          go_wp2_with fail
          refine (l5Set_any A A' n c c' ds j (d + x) _ HX2.out HY2.out hj h6 (by omega) (by omega)).mono ?_
          rintro e w3 ⟨⟨v, rfl, ho⟩, hb3⟩
          have hos := ho.mono (show w.heap.size + 2 ≤ w2.heap.size by omega)
          obtain ⟨A2, c2, A3, c3, rfl, -⟩ := ho
          have HO := Lib.hid hos
          have HZ3 := Lib.hid (HZ2.out.next hb3)
          have z30 := HZ3.out.fst
          have z31 := HZ3.out.snd
          have f30 := HZ3.out.free 0
          have f31 := HZ3.out.free 1
          have HB3 := Lib.hid (below_chain HB2.out hb3)
          clear hb3 hos z0 z1 f0 f1
          go_wp2_with fail
          refine (l5Pushes_any d (d + x) _ d0 d9 (by omega) (by omega)).mono ?_
          rintro e w' ⟨rfl, rfl⟩
          go_wp2
          refine bodyPost_ret (v := .tuple #[.agg #[.slice A2 (ds.set j (d + x)).length c2, .slice A3 (ds.set j (d + x)).length c3], .int .i64 (Fr.cost d (d + x)), .bool true]) (by simp [results, Tryz.results212, go_sem, over_fst HZ3.out, over_snd HZ3.out]) rfl ⟨⟨_, rfl, ?_⟩, below_over HB3.out (by omega) _ _⟩
          exact (HO.out.over (by omega) _ _).mono (by omega)
        · have he := HE2.out
          rw [chgP_over _ _ _ _ _ d hx0 HDD.out (by omega), Int.zero_add, show d + 1 * x - 10 * 1 = d + x - 10 from by omega] at he
          obtain ⟨es, hes⟩ : ∃ es, ds.set j (d + x - 10) = es := ⟨_, rfl⟩
          have hel : es.length = n := by rw [← hes, List.length_set]; exact HL.out
          rw [hes] at he
          obtain ⟨Q, hQ⟩ : ∃ Q, frAt 1 es ((j + 1 : Nat) : Int) 1 = Q := ⟨_, rfl⟩
          rw [frAt_next (by omega)] at hQ
          rw [chgP_map hQ] at he
          have hed : Fr.Digs es := by rw [← hes]; exact digs_set HD.out j (by omega) (by omega)
          have hrec := IH.out ((n : Int) - ((j + 1 : Nat) : Int)).toNat (by have := HM.out; omega)
          have HREC := Lib.hid hrec
          have HES := Lib.hid hes
          have HEL := Lib.hid hel
          have HED := Lib.hid hed
          have HQ := Lib.hid ((frAt_next (s := 1) (es := es) (k := j + 1) (by omega)).trans hQ)
          have HRE := Lib.hid he
          have l3 : (decide (0 ≤ d + x) && decide (d + x ≤ 9)) = false := by simp; omega
          have HL3 := Lib.hid l3
          have hov : 9 < d + x := by omega
          clear l3 hs hes hel hed hrec hQ he
          go_wp2_with fail
          refine (fr_l3Digit_is HL3.out _).mono ?_
          rintro e w' ⟨rfl, rfl⟩
          go_wp2_with fail
          refine (l5Set_any A A' n c c' ds j (d + x - 10) _ HX2.out HY2.out hj h6 (by omega) (by omega)).mono ?_
          rintro e w3 ⟨⟨v, rfl, ho⟩, hb3⟩
          rw [HES.out] at ho
          obtain ⟨A2, c2, A3, c3, rfl, -⟩ := id ho
          obtain ⟨-, -, hi2, hi3⟩ := ho.ints
          rw [HEL.out] at hi2 hi3
          have HI2 := Lib.hid hi2
          have HI3 := Lib.hid hi3
          have HZ3 := Lib.hid (HZ2.out.next hb3)
          have HB3 := Lib.hid (below_chain HB2.out hb3)
          have hs3 := hb3.size
          rw [HEL.out]
          clear hb3 z0 z1 f0 f1 ho hi2 hi3
          go_wp2_with fail
          refine (HREC.out A2 A3 n c2 c3 es ((j + 1 : Nat) : Int) 1 _ HI2.out HI3.out HED.out h1 h6 rfl).mono ?_
          rw [HQ.out]
          rintro e w4 hpost
          obtain ⟨A4, c4, A5, c5, rfl, ho4, hb4⟩ := hpost.out_
          have HO4 := Lib.hid (ho4.mono (show w.heap.size + 2 ≤ w3.heap.size by omega))
          have HZ4 := Lib.hid (HZ3.out.next hb4)
          have z40 := HZ4.out.fst
          have z41 := HZ4.out.snd
          have f40 := HZ4.out.free 0
          have f41 := HZ4.out.free 1
          have HB4 := Lib.hid (below_chain HB3.out hb4)
          have hs4 := hb4.size
          have hza : w.heap.size + 1 < w4.heap.size := by omega
          clear hb4 ho4 hpost
          rcases Q with _ | ⟨es0, p0⟩
          · have he := HRE.out
            simp only [Option.map_none] at he
            subst he
            go_wp2
            exact bodyPost_ret (v := .tuple #[.agg #[.slice none 0 0, .slice none 0 0], .int .i64 0, .bool false]) (by simp [results, Tryz.results212, go_sem, hza, over_fst HZ4.out, over_snd HZ4.out]) rfl (FrRes.none_ ((below_over HB4.out (by omega) _ _).alloc (by simp; omega) _))
          · have he := HRE.out
            simp only [Option.map_some] at he
            subst he
            have hup := frAt_upper HQ.out
            rw [HEL.out] at hup
            simp only at hup
            obtain ⟨u0, u1⟩ := hup
            have u2 : p0 ≤ 12 := by omega
            obtain ⟨t0, t1⟩ := cost_le d (d + x - 10)
            have s1 : IntKind.i64.wrap (Fr.cost d (d + x - 10) + p0) = Fr.cost d (d + x - 10) + p0 := IntWalk.i64_in _ (by omega)
            have s2 : resN (some (es0, p0)) = p0 := rfl
            have s3 : resL (some (es0, p0)) = es0 := rfl
            rw [s2, s3]
            rw [s3] at HO4
            clear s2 s3 u1
            go_wp2_with fail
            go_region_held3 (fun w' => w'.cell? ⟨w4.heap.size, 0, none⟩ = some (.slice A4 es0.length c4) ∧ w'.cell? ⟨w4.heap.size, 1, none⟩ = some (.slice A5 es0.length c5))
              (first | exact ⟨cell_of_new (by simp) rfl, cell_of_new (by simp) rfl⟩ | go_keep)
              (first
                | (go_at_call 229; refine (l5Pushes_any d (d + x - 10) _ d0 d9 (by omega) (by omega)).mono ?_; rintro e w' ⟨rfl, rfl⟩))
            go_wp2
            refine bodyPost_ret (v := .tuple #[.agg #[.slice A4 es0.length c4, .slice A5 es0.length c5], .int .i64 (Fr.cost d (d + x - 10) + p0), .bool true]) (by simp [results, Tryz.results212, go_sem, hza, over_fst HZ4.out, over_snd HZ4.out]) rfl ⟨⟨_, rfl, ?_⟩, below_drewN ((below_over HB4.out (by omega) _ _).alloc (by simp; omega) _) 1⟩
            exact (((HO4.out.over (by omega) _ _).mono (by omega)).keep ((Below.refl _ _).alloc (Nat.le_refl _) _)).keep ((Below.refl _ _).drew)
    · have he := HE.out
      rw [frAt_out _ _ _ _ (by rw [HL.out]; exact hin)] at he
      subst he
      by_cases hk : 0 ≤ k ∧ k ≤ (n : Int) - 1
      · have l3 : (decide (0 ≤ x) && decide (x ≤ 9)) = false := by simp; omega
        obtain ⟨k0, k1⟩ := hk
        have HL3 := Lib.hid l3
        clear hin l3
        go_wp2_with fail
        refine (l6In_yes k0 k1 _).mono ?_
        rintro e w' ⟨rfl, rfl⟩
        go_wp2_with fail
        refine (fr_l3Digit_is HL3.out _).mono ?_
        rintro e w' ⟨rfl, rfl⟩
        go_wp2
        exact bodyPost_ret (v := .tuple #[.agg #[.slice none 0 0, .slice none 0 0], .int .i64 0, .bool false]) (by simp [results, Tryz.results212, go_sem, over_fst HZ.out, over_snd HZ.out]) rfl (FrRes.none_ (below_over HB.out (by omega) _ _))
      · have hk' : k < 0 ∨ (n : Int) - 1 < k := by omega
        have HK := Lib.hid hk'
        clear hin hk hk'
        go_wp2_with fail
        refine (l6In_no HK.out _).mono ?_
        rintro e w' ⟨rfl, rfl⟩
        go_wp2
        exact bodyPost_ret (v := .tuple #[.agg #[.slice none 0 0, .slice none 0 0], .int .i64 0, .bool false]) (by simp [results, Tryz.results212, go_sem, over_fst HZ.out, over_snd HZ.out]) rfl (FrRes.none_ (below_over HB.out (by omega) _ _))
set_option maxRecDepth 100000 in
set_option maxHeartbeats 2000000 in
theorem l5ChangeAdd_no (A A' : Option Addr) (n m c c' : Nat) (hs ls : List Int) (k x : Int) (w : World) (hx : Ints w w.heap.size A n hs) (hy : Ints w w.heap.size A' m ls) (hno : ¬ FrOk hs ls) :
    Calls Tryz.prog 212 #[.agg #[.slice A n c, .slice A' m c'], .int .i64 k, .int .i64 x, .int .i64 1] w (FrRes w none) := by
  have HX := Lib.hid hx
  have HY := Lib.hid hy
  have HN := Lib.hid hno
  clear hx hy hno
  go_enter Tryz.func212, Tryz.ntmps212
  go_wp2_with fail
  refine (specFrameValid_no A A' n m c c' hs ls _ ((HX.out.al _).al _) ((HY.out.al _).al _) HN.out).mono ?_
  rintro e w1 ⟨rfl, hb1⟩
  have hz := ((FBox.new (w.alloc (.cells #[.slice A n c, .slice A' m c'] 30)) (.slice none 0 0) (.slice none 0 0)).next hb1)
  have hz0 := hz.fst
  have hz1 := hz.snd
  have hf0 := hz.free 0
  have hf1 := hz.free 1
  simp only [World.size_alloc] at hz hz0 hz1 hf0 hf1
  have HZ := Lib.hid hz
  have HB := Lib.hid ((below_two w _ _).trans (hb1.mono (by simp; omega)))
  clear hz hb1
  go_wp2
  exact bodyPost_ret (v := .tuple #[.agg #[.slice none 0 0, .slice none 0 0], .int .i64 0, .bool false]) (by simp [results, Tryz.results212, go_sem, over_fst HZ.out, over_snd HZ.out]) rfl (FrRes.none_ (below_over HB.out (by omega) _ _))
theorem l5ChangeAdd_any (A A' : Option Addr) (n m c c' : Nat) (hs ls : List Int) (k x : Int) (R : Option (List Int × Int)) (w : World) (hx : Ints w w.heap.size A n hs) (hy : Ints w w.heap.size A' m ls) (hR : frOf hs ls (fun ds => frAt 1 ds k x) R) :
    Calls Tryz.prog 212 #[.agg #[.slice A n c, .slice A' m c'], .int .i64 k, .int .i64 x, .int .i64 1] w (FrRes w R) := by
  rcases hR with ⟨hno, rfl⟩ | ⟨ds, hd, rfl, rfl, h1, h6, rfl⟩
  · exact l5ChangeAdd_no A A' n m c c' hs ls k x w hx hy hno
  · have e1 := hx.len
    have e2 := hy.len
    rw [HiL_length] at e1
    rw [LoL_length] at e2
    subst e1
    subst e2
    exact l5ChangeAdd_yes _ A A' _ c c' ds k x w hx hy hd h1 h6 rfl
end Go.Proofs.YthdoofmfigemoaaGreatDoor
end

section
/-
  l5Change of the reference: a digit is taken from a rod.
-/
namespace Go.Proofs.YthdoofmfigemoaaGreatDoor
open Go.RowKit

set_option maxRecDepth 100000 in
set_option maxHeartbeats 8000000 in
theorem l5ChangeTake_yes (m : Nat) : ∀ (A A' : Option Addr) (n c c' : Nat) (ds : List Int) (k x : Int) (w : World), Ints w w.heap.size A n (HiL ds) → Ints w w.heap.size A' n (LoL ds) → Fr.Digs ds → 1 ≤ n → n ≤ 6 → ((n : Int) - k).toNat = m →
    Calls Tryz.prog 212 #[.agg #[.slice A n c, .slice A' n c'], .int .i64 k, .int .i64 x, .int .i64 (-1)] w (FrRes w (frAt (-1) ds k x)) := by
  induction m using Nat.strongRecOn with
  | ind m ih =>
    intro A A' n c c' ds k x w hx hy hds h1 h6 hm
    have IH := Lib.hid ih
    have hl : ds.length = n := by have := hx.len; rwa [HiL_length] at this
    have HL := Lib.hid hl
    have HX := Lib.hid hx
    have HY := Lib.hid hy
    have HD := Lib.hid hds
    obtain ⟨R, hR⟩ : ∃ R, frAt (-1) ds k x = R := ⟨_, rfl⟩
    rw [hR]
    have HE := Lib.hid hR
    have HM := Lib.hid hm
    clear hx hy hds hl hR ih hm
    go_enter Tryz.func212, Tryz.ntmps212
    go_wp2_with fail
    refine (specFrameValid_yes A A' n c c' ds _ ((HX.out.al _).al _) ((HY.out.al _).al _) HD.out h1 h6).mono ?_
    rintro e w1 ⟨rfl, hb1⟩
    have hz := ((FBox.new (w.alloc (.cells #[.slice A n c, .slice A' n c'] 30)) (.slice none 0 0) (.slice none 0 0)).next hb1)
    have hv := ((FBox.new w (.slice A n c) (.slice A' n c')).alloc (.cells #[.slice none 0 0, .slice none 0 0] 30)).next hb1
    simp only [World.size_alloc] at hz
    have hz0 := hz.fst
    have hz1 := hz.snd
    have hf0 := hz.free 0
    have hf1 := hz.free 1
    have hv0 := hv.fst
    have hv1 := hv.snd
    have HX1 := Lib.hid (((HX.out.al _).al _).next hb1)
    have HY1 := Lib.hid (((HY.out.al _).al _).next hb1)
    have HZ := Lib.hid hz
    have HV := Lib.hid hv
    have HB := Lib.hid ((below_two w _ _).trans (hb1.mono (by simp; omega)))
    have hws : w.heap.size + 1 + 1 ≤ w1.heap.size := by have := hb1.size; simpa using this
    clear hz hv hb1
    by_cases hin : 0 ≤ k ∧ k < (n : Int) ∧ 0 ≤ x ∧ x ≤ 9
    · obtain ⟨k0, k1, x0, x9⟩ := hin
      obtain ⟨j, rfl⟩ := Int.eq_ofNat_of_zero_le k0
      have hj : j < n := by omega
      obtain ⟨d, hd⟩ : ∃ d, ds[j]? = some d := ⟨_, List.getElem?_eq_getElem (by have := HL.out; omega)⟩
      obtain ⟨d0, d9⟩ := HD.out d (List.mem_of_getElem? hd)
      have he := HE.out
      rw [frAt_in _ _ _ _ (by have := HL.out; omega) x0 x9, ← chgP_zero] at he
      have HE2 := Lib.hid he
      have HDD := Lib.hid hd
      have hdig : ∀ v, Ints v v.heap.size A n (HiL ds) → Ints v v.heap.size A' n (LoL ds) → Calls Tryz.prog 211 #[.agg #[.slice A n c, .slice A' n c'], .int .i64 (j : Int)] v fun e w' => e = .returned (.int .i64 d) ∧ Below v.heap.size v w' :=
        fun v h2 h3 => specFrameDigit_any A A' n n c c' (HiL ds) (LoL ds) j d v h2 h3 (.inr ⟨ds, HD.out, rfl, rfl, by have := HL.out; omega, by have := HL.out; omega, (digAt_in HDD.out).symm⟩)
      have HDG := Lib.hid hdig
      clear HE he hd hdig
      have l3 : (decide (0 ≤ x) && decide (x ≤ 9)) = true := by simp [x0, x9]
      go_wp2_with fail
      refine (l6In_yes (by omega) (by omega) _).mono ?_
      rintro e w' ⟨rfl, rfl⟩
      go_wp2_with fail
      refine (fr_l3Digit_is l3 _).mono ?_
      rintro e w' ⟨rfl, rfl⟩
      clear l3
      by_cases hx0 : x = 0
      · subst hx0
        have he := HE2.out
        rw [chgP_done] at he
        subst he
        have hdx : ds.set j d = ds := by
          apply List.ext_getElem?
          intro i
          by_cases h : j = i
          · subst h; rw [List.getElem?_set_self (by have := HL.out; omega), HDD.out]
          · rw [List.getElem?_set_ne h]
        have HDX := Lib.hid hdx
        have hwl : w.heap.size < w1.heap.size := by omega
        have hwl1 : w.heap.size + 1 < w1.heap.size := by omega
        have KS : Hid (∀ w', SG w1 (w.heap.size + 1) w' → (w'.cell? ⟨w.heap.size, 0, none⟩ = some (.slice A n c) ∧ w'.cell? ⟨w.heap.size, 1, none⟩ = some (.slice A' n c') ∧ SG w1 (w.heap.size + 1) w')) :=
          Lib.hid fun w' h => ⟨(World.cell?_of_block (a := ⟨w.heap.size, 0, none⟩) (World.grownBy.block h w.heap.size hwl (by simp))).trans hv0, (World.cell?_of_block (a := ⟨w.heap.size, 1, none⟩) (World.grownBy.block h w.heap.size hwl (by simp))).trans hv1, h⟩
        have HIX : Hid (∀ v, SG w1 (w.heap.size + 1) v → Ints v v.heap.size A n (HiL ds)) := Lib.hid fun v h => (HX.out.below (SG.base HB.out h (by omega))).mono (SG.base HB.out h (by omega)).size
        have HIY : Hid (∀ v, SG w1 (w.heap.size + 1) v → Ints v v.heap.size A' n (LoL ds)) := Lib.hid fun v h => (HY.out.below (SG.base HB.out h (by omega))).mono (SG.base HB.out h (by omega)).size
        have hsb := SG.refl w1 (w.heap.size + 1)
        clear hdx
        go_wp2_with fail
        go_region_held3 (fun w' => w'.cell? ⟨w.heap.size, 0, none⟩ = some (.slice A n c) ∧ w'.cell? ⟨w.heap.size, 1, none⟩ = some (.slice A' n c') ∧ SG w1 (w.heap.size + 1) w')
          (first
            | ((try go_split_ands); refine KS.out _ ?_; first | assumption | (exact SG.drew (by assumption)) | (exact SG.set2 (by assumption) _ _)))
          (first
            | (go_at_call 211; (try go_split_ands); (refine (HDG.out _ (HIX.out _ (by assumption)) (HIY.out _ (by assumption))).mono ?_; rintro e w2 ⟨rfl, hb2⟩; have hs2 : SG w1 (w.heap.size + 1) w2 := SG.below (by assumption) hb2; have hy2 := hs2.size))
            | (go_at_call 210; (try go_split_ands); (refine (l5Set_any A A' n c c' ds j d _ (HIX.out _ (by assumption)) (HIY.out _ (by assumption)) hj h6 d0 d9).mono ?_; rintro e w3 ⟨⟨v, rfl, ho⟩, hb3⟩; have hs3 : SG w1 (w.heap.size + 1) w3 := SG.below (by assumption) hb3; obtain ⟨A2, c2, A3, c3, rfl, -⟩ := id ho; have hz3 := (HZ.out.next (hb2.drew_)).next hb3; have z30 := hz3.fst; have z31 := hz3.snd; have f30 := hz3.free 0; have f31 := hz3.free 1)))
        rw [HDX.out] at ho
        have HO := Lib.hid (ho.mono (show w.heap.size + 2 ≤ _ by omega))
        have HZ3 := Lib.hid hz3
        have HB3 := Lib.hid (SG.base HB.out hs3 (by omega))
        clear hz3 hs3
        go_wp2
        refine bodyPost_ret (v := .tuple #[.agg #[.slice A2 ds.length c2, .slice A3 ds.length c3], .int .i64 0, .bool true]) (by simp [results, Tryz.results212, go_sem, over_fst HZ3.out, over_snd HZ3.out]) rfl ⟨⟨_, rfl, ?_⟩, below_over HB3.out (by omega) _ _⟩
        exact (HO.out.over (by omega) _ _).mono (by omega)
      · have hxb : (x == 0) = false := by simpa using hx0
        go_wp2_with fail
        refine (HDG.out _ HX1.out HY1.out).mono ?_
        rintro e w2 ⟨rfl, hb2⟩
        have HZ2 := Lib.hid (HZ.out.next hb2)
        have HV2 := Lib.hid (HV.out.next hb2)
        have HX2 := Lib.hid (HX1.out.next hb2)
        have HY2 := Lib.hid (HY1.out.next hb2)
        have HB2 := Lib.hid (below_chain HB.out hb2)
        have hs2 := hb2.size
        have v0 := HV2.out.fst
        have v1 := HV2.out.snd
        have z0 := HZ2.out.fst
        have z1 := HZ2.out.snd
        have f0 := HZ2.out.free 0
        have f1 := HZ2.out.free 1
        clear hb2 hz0 hz1 hf0 hf1 hv0 hv1
        by_cases hs : 0 ≤ d - x
        · have he := HE2.out
          rw [chgP_in _ _ _ _ _ d hx0 HDD.out (by omega) (by omega), Int.zero_add, show d + -1 * x = d - x from by omega] at he
          subst he
          have l3 : (decide (0 ≤ d - x) && decide (d - x ≤ 9)) = true := by simp; omega
          have HL3 := Lib.hid l3
          clear l3
          go_wp2_with fail
          refine (fr_l3Digit_is HL3.out _).mono ?_
          rintro e w' ⟨rfl, rfl⟩
          go_wp2_with fail
          refine (l5Set_any A A' n c c' ds j (d - x) _ HX2.out HY2.out hj h6 (by omega) (by omega)).mono ?_
          rintro e w3 ⟨⟨v, rfl, ho⟩, hb3⟩
          have hos := ho.mono (show w.heap.size + 2 ≤ w2.heap.size by omega)
          obtain ⟨A2, c2, A3, c3, rfl, -⟩ := ho
          have HO := Lib.hid hos
          have HZ3 := Lib.hid (HZ2.out.next hb3)
          have z30 := HZ3.out.fst
          have z31 := HZ3.out.snd
          have f30 := HZ3.out.free 0
          have f31 := HZ3.out.free 1
          have HB3 := Lib.hid (below_chain HB2.out hb3)
          clear hb3 hos z0 z1 f0 f1
          go_wp2_with fail
          refine (l5Pushes_any d (d - x) _ d0 d9 (by omega) (by omega)).mono ?_
          rintro e w' ⟨rfl, rfl⟩
          go_wp2
          refine bodyPost_ret (v := .tuple #[.agg #[.slice A2 (ds.set j (d - x)).length c2, .slice A3 (ds.set j (d - x)).length c3], .int .i64 (Fr.cost d (d - x)), .bool true]) (by simp [results, Tryz.results212, go_sem, over_fst HZ3.out, over_snd HZ3.out]) rfl ⟨⟨_, rfl, ?_⟩, below_over HB3.out (by omega) _ _⟩
          exact (HO.out.over (by omega) _ _).mono (by omega)
        · have he := HE2.out
          rw [chgP_over _ _ _ _ _ d hx0 HDD.out (by omega), Int.zero_add, show d + -1 * x - 10 * -1 = d - x + 10 from by omega] at he
          obtain ⟨es, hes⟩ : ∃ es, ds.set j (d - x + 10) = es := ⟨_, rfl⟩
          have hel : es.length = n := by rw [← hes, List.length_set]; exact HL.out
          rw [hes] at he
          obtain ⟨Q, hQ⟩ : ∃ Q, frAt (-1) es ((j + 1 : Nat) : Int) 1 = Q := ⟨_, rfl⟩
          rw [frAt_next (by omega)] at hQ
          rw [chgP_map hQ] at he
          have hed : Fr.Digs es := by rw [← hes]; exact digs_set HD.out j (by omega) (by omega)
          have hrec := IH.out ((n : Int) - ((j + 1 : Nat) : Int)).toNat (by have := HM.out; omega)
          have HREC := Lib.hid hrec
          have HES := Lib.hid hes
          have HEL := Lib.hid hel
          have HED := Lib.hid hed
          have HQ := Lib.hid ((frAt_next (s := -1) (es := es) (k := j + 1) (by omega)).trans hQ)
          have HRE := Lib.hid he
          have l3 : (decide (0 ≤ d - x) && decide (d - x ≤ 9)) = false := by simp; omega
          have HL3 := Lib.hid l3
          have hov : d < x := by omega
          clear l3 hs hes hel hed hrec hQ he
          go_wp2_with fail
          refine (fr_l3Digit_is HL3.out _).mono ?_
          rintro e w' ⟨rfl, rfl⟩
          go_wp2_with fail
          refine (l5Set_any A A' n c c' ds j (d - x + 10) _ HX2.out HY2.out hj h6 (by omega) (by omega)).mono ?_
          rintro e w3 ⟨⟨v, rfl, ho⟩, hb3⟩
          rw [HES.out] at ho
          obtain ⟨A2, c2, A3, c3, rfl, -⟩ := id ho
          obtain ⟨-, -, hi2, hi3⟩ := ho.ints
          rw [HEL.out] at hi2 hi3
          have HI2 := Lib.hid hi2
          have HI3 := Lib.hid hi3
          have HZ3 := Lib.hid (HZ2.out.next hb3)
          have HB3 := Lib.hid (below_chain HB2.out hb3)
          have hs3 := hb3.size
          rw [HEL.out]
          clear hb3 z0 z1 f0 f1 ho hi2 hi3
          go_wp2_with fail
          refine (HREC.out A2 A3 n c2 c3 es ((j + 1 : Nat) : Int) 1 _ HI2.out HI3.out HED.out h1 h6 rfl).mono ?_
          rw [HQ.out]
          rintro e w4 hpost
          obtain ⟨A4, c4, A5, c5, rfl, ho4, hb4⟩ := hpost.out_
          have HO4 := Lib.hid (ho4.mono (show w.heap.size + 2 ≤ w3.heap.size by omega))
          have HZ4 := Lib.hid (HZ3.out.next hb4)
          have z40 := HZ4.out.fst
          have z41 := HZ4.out.snd
          have f40 := HZ4.out.free 0
          have f41 := HZ4.out.free 1
          have HB4 := Lib.hid (below_chain HB3.out hb4)
          have hs4 := hb4.size
          have hza : w.heap.size + 1 < w4.heap.size := by omega
          clear hb4 ho4 hpost
          rcases Q with _ | ⟨es0, p0⟩
          · have he := HRE.out
            simp only [Option.map_none] at he
            subst he
            go_wp2
            exact bodyPost_ret (v := .tuple #[.agg #[.slice none 0 0, .slice none 0 0], .int .i64 0, .bool false]) (by simp [results, Tryz.results212, go_sem, hza, over_fst HZ4.out, over_snd HZ4.out]) rfl (FrRes.none_ ((below_over HB4.out (by omega) _ _).alloc (by simp; omega) _))
          · have he := HRE.out
            simp only [Option.map_some] at he
            subst he
            have hup := frAt_upper HQ.out
            rw [HEL.out] at hup
            simp only at hup
            obtain ⟨u0, u1⟩ := hup
            have u2 : p0 ≤ 12 := by omega
            obtain ⟨t0, t1⟩ := cost_le d (d - x + 10)
            have s1 : IntKind.i64.wrap (Fr.cost d (d - x + 10) + p0) = Fr.cost d (d - x + 10) + p0 := IntWalk.i64_in _ (by omega)
            have s2 : resN (some (es0, p0)) = p0 := rfl
            have s3 : resL (some (es0, p0)) = es0 := rfl
            rw [s2, s3]
            rw [s3] at HO4
            clear s2 s3 u1
            go_wp2_with fail
            go_region_held3 (fun w' => w'.cell? ⟨w4.heap.size, 0, none⟩ = some (.slice A4 es0.length c4) ∧ w'.cell? ⟨w4.heap.size, 1, none⟩ = some (.slice A5 es0.length c5))
              (first | exact ⟨cell_of_new (by simp) rfl, cell_of_new (by simp) rfl⟩ | go_keep)
              (first
                | (go_at_call 229; refine (l5Pushes_any d (d - x + 10) _ d0 d9 (by omega) (by omega)).mono ?_; rintro e w' ⟨rfl, rfl⟩))
            go_wp2
            refine bodyPost_ret (v := .tuple #[.agg #[.slice A4 es0.length c4, .slice A5 es0.length c5], .int .i64 (Fr.cost d (d - x + 10) + p0), .bool true]) (by simp [results, Tryz.results212, go_sem, hza, over_fst HZ4.out, over_snd HZ4.out]) rfl ⟨⟨_, rfl, ?_⟩, below_drewN ((below_over HB4.out (by omega) _ _).alloc (by simp; omega) _) 1⟩
            exact (((HO4.out.over (by omega) _ _).mono (by omega)).keep ((Below.refl _ _).alloc (Nat.le_refl _) _)).keep ((Below.refl _ _).drew)
    · have he := HE.out
      rw [frAt_out _ _ _ _ (by rw [HL.out]; exact hin)] at he
      subst he
      by_cases hk : 0 ≤ k ∧ k ≤ (n : Int) - 1
      · have l3 : (decide (0 ≤ x) && decide (x ≤ 9)) = false := by simp; omega
        obtain ⟨k0, k1⟩ := hk
        have HL3 := Lib.hid l3
        clear hin l3
        go_wp2_with fail
        refine (l6In_yes k0 k1 _).mono ?_
        rintro e w' ⟨rfl, rfl⟩
        go_wp2_with fail
        refine (fr_l3Digit_is HL3.out _).mono ?_
        rintro e w' ⟨rfl, rfl⟩
        go_wp2
        exact bodyPost_ret (v := .tuple #[.agg #[.slice none 0 0, .slice none 0 0], .int .i64 0, .bool false]) (by simp [results, Tryz.results212, go_sem, over_fst HZ.out, over_snd HZ.out]) rfl (FrRes.none_ (below_over HB.out (by omega) _ _))
      · have hk' : k < 0 ∨ (n : Int) - 1 < k := by omega
        have HK := Lib.hid hk'
        clear hin hk hk'
        go_wp2_with fail
        refine (l6In_no HK.out _).mono ?_
        rintro e w' ⟨rfl, rfl⟩
        go_wp2
        exact bodyPost_ret (v := .tuple #[.agg #[.slice none 0 0, .slice none 0 0], .int .i64 0, .bool false]) (by simp [results, Tryz.results212, go_sem, over_fst HZ.out, over_snd HZ.out]) rfl (FrRes.none_ (below_over HB.out (by omega) _ _))
set_option maxRecDepth 100000 in
set_option maxHeartbeats 2000000 in
theorem l5ChangeTake_no (A A' : Option Addr) (n m c c' : Nat) (hs ls : List Int) (k x : Int) (w : World) (hx : Ints w w.heap.size A n hs) (hy : Ints w w.heap.size A' m ls) (hno : ¬ FrOk hs ls) :
    Calls Tryz.prog 212 #[.agg #[.slice A n c, .slice A' m c'], .int .i64 k, .int .i64 x, .int .i64 (-1)] w (FrRes w none) := by
  have HX := Lib.hid hx
  have HY := Lib.hid hy
  have HN := Lib.hid hno
  clear hx hy hno
  go_enter Tryz.func212, Tryz.ntmps212
  go_wp2_with fail
  refine (specFrameValid_no A A' n m c c' hs ls _ ((HX.out.al _).al _) ((HY.out.al _).al _) HN.out).mono ?_
  rintro e w1 ⟨rfl, hb1⟩
  have hz := ((FBox.new (w.alloc (.cells #[.slice A n c, .slice A' m c'] 30)) (.slice none 0 0) (.slice none 0 0)).next hb1)
  have hz0 := hz.fst
  have hz1 := hz.snd
  have hf0 := hz.free 0
  have hf1 := hz.free 1
  simp only [World.size_alloc] at hz hz0 hz1 hf0 hf1
  have HZ := Lib.hid hz
  have HB := Lib.hid ((below_two w _ _).trans (hb1.mono (by simp; omega)))
  clear hz hb1
  go_wp2
  exact bodyPost_ret (v := .tuple #[.agg #[.slice none 0 0, .slice none 0 0], .int .i64 0, .bool false]) (by simp [results, Tryz.results212, go_sem, over_fst HZ.out, over_snd HZ.out]) rfl (FrRes.none_ (below_over HB.out (by omega) _ _))
theorem l5ChangeTake_any (A A' : Option Addr) (n m c c' : Nat) (hs ls : List Int) (k x : Int) (R : Option (List Int × Int)) (w : World) (hx : Ints w w.heap.size A n hs) (hy : Ints w w.heap.size A' m ls) (hR : frOf hs ls (fun ds => frAt (-1) ds k x) R) :
    Calls Tryz.prog 212 #[.agg #[.slice A n c, .slice A' m c'], .int .i64 k, .int .i64 x, .int .i64 (-1)] w (FrRes w R) := by
  rcases hR with ⟨hno, rfl⟩ | ⟨ds, hd, rfl, rfl, h1, h6, rfl⟩
  · exact l5ChangeTake_no A A' n m c c' hs ls k x w hx hy hno
  · have e1 := hx.len
    have e2 := hy.len
    rw [HiL_length] at e1
    rw [LoL_length] at e2
    subst e1
    subst e2
    exact l5ChangeTake_yes _ A A' _ c c' ds k x w hx hy hd h1 h6 rfl
end Go.Proofs.YthdoofmfigemoaaGreatDoor
end

section
/-
  l5All of the reference: a number is added to a frame.
-/
namespace Go.Proofs.YthdoofmfigemoaaGreatDoor
open Go.RowKit

theorem FrOwn.parts {w : World} {B n : Nat} {v : Value} {ds : List Int} (h : FrOwn w B v ds) (hl : ds.length = n) (hn : 0 < n) :
    ∃ hi lo ch cl, v = .agg #[.slice (some ⟨hi, 0, none⟩) n ch, .slice (some ⟨lo, 0, none⟩) n cl] ∧ Own w B (some ⟨hi, 0, none⟩) n ch (HiL ds) ∧ Own w B (some ⟨lo, 0, none⟩) n cl (LoL ds) ∧ hi ≠ lo ∧ B ≤ hi ∧ B ≤ lo ∧ hi < w.heap.size ∧ lo < w.heap.size := by
  subst hl
  obtain ⟨A, c, A', c', rfl, h1, h2, h3, h4⟩ := h
  obtain ⟨hi, rfl, b1, b2, _⟩ := h1.at_ hn
  obtain ⟨lo, rfl, b3, b4, _⟩ := h2.at_ hn
  exact ⟨hi, lo, c, c', rfl, h1, h2, fun e => h3 lo rfl (by rw [← e]; rfl), b1, b3, b2, b4⟩
theorem FrOwn.of_parts {w : World} {B n hi lo ch cl : Nat} {ds : List Int} (h1 : Own w B (some ⟨hi, 0, none⟩) n ch (HiL ds)) (h2 : Own w B (some ⟨lo, 0, none⟩) n cl (LoL ds)) (hne : hi ≠ lo) (hl : ds.length = n) : FrOwn w B (.agg #[.slice (some ⟨hi, 0, none⟩) n ch, .slice (some ⟨lo, 0, none⟩) n cl]) ds := by
  subst hl
  exact ⟨_, _, _, _, rfl, h1, h2, apart_of hne, apart_of (Ne.symm hne)⟩
theorem ten_in {N T : Int} {r : Bool} (h : (decide (0 ≤ N) && decide (N ≤ T - 1)) = r) (w : World) : Calls Tryz.prog 67 #[.int .i64 N, .int .i64 0, .int .i64 (T - 1)] w fun e w' => e = .returned (.bool r) ∧ w = w' := l6In_is h w

theorem Own.over2 {w : World} {B b g n c : Nat} {xs : List Int} (h : Own w B (some ⟨g, 0, none⟩) n c xs) (hne : g ≠ b) (x y : Value) : Own ((w.setCell ⟨b, 0, none⟩ x).setCell ⟨b, 1, none⟩ y) B (some ⟨g, 0, none⟩) n c xs :=
  h.block ((heap_setCell_other _ ⟨b, 1, none⟩ g _ hne).trans (heap_setCell_other _ ⟨b, 0, none⟩ g _ hne))
theorem chgAt_digs {s : Int} (hs : Fr.Sgn s) {ds es : List Int} {k : Nat} {g n : Int} (hd : Fr.Digs ds) (h0 : 0 ≤ g) (h9 : g ≤ 9) (h : chgAt s ds k g = some (es, n)) : Fr.Digs es ∧ es.length = ds.length ∧ True := by
  unfold chgAt at h
  rw [Option.map_eq_some_iff] at h
  obtain ⟨⟨r, n'⟩, hr, h'⟩ := h
  simp only [Prod.mk.injEq] at h'
  obtain ⟨rfl, rfl⟩ := h'
  obtain ⟨c1, c2, _⟩ := Fr.chg_some s hs _ _ _ _ (digs_drop hd k) h0 h9 hr
  rw [List.length_drop] at c2
  refine ⟨?_, ?_, trivial⟩
  · intro d hd'
    rcases List.mem_append.1 hd' with h | h
    · exact hd d (List.mem_of_mem_take h)
    · exact c1 d h
  · simp; omega

set_option maxRecDepth 100000 in
set_option maxHeartbeats 8000000 in
theorem l5AllAdd_yes (A A' : Option Addr) (n c c' : Nat) (ds : List Int) (N : Int) (w : World) (hx : Ints w w.heap.size A n (HiL ds)) (hy : Ints w w.heap.size A' n (LoL ds)) (hds : Fr.Digs ds) (h1 : 1 ≤ n) (h6 : n ≤ 6) :
    Calls Tryz.prog 175 #[.agg #[.slice A n c, .slice A' n c'], .int .i64 N, .int .i64 1] w (FrRes w (frBy 1 ds N)) := by
  have hl : ds.length = n := by have := hx.len; rwa [HiL_length] at this
  have HL := Lib.hid hl
  have HX := Lib.hid hx
  have HY := Lib.hid hy
  have HD := Lib.hid hds
  obtain ⟨R, hR⟩ : ∃ R, frBy 1 ds N = R := ⟨_, rfl⟩
  rw [hR]
  have HE := Lib.hid hR
  have hten := ten_bd n h6
  obtain ⟨T, hT⟩ : ∃ T, Fr.ten n = T := ⟨_, rfl⟩
  rw [hT] at hten
  obtain ⟨t0, t1⟩ := hten
  have HT := Lib.hid hT
  clear hx hy hds hl hR hT
  have hpow : ∀ v, Calls Tryz.prog 55 #[.int .i64 (n : Int)] v fun e w' => e = .returned (.int .i64 T) ∧ v = w' := fun v => by rw [← HT.out]; exact l5Ten_any n v h6
  have HP := Lib.hid hpow
  clear hpow
  go_enter Tryz.func175, Tryz.ntmps175
  go_wp2_with fail
  refine (specFrameValid_yes A A' n c c' ds _ ((HX.out.al _).al _) ((HY.out.al _).al _) HD.out h1 h6).mono ?_
  rintro e w1 ⟨rfl, hb1⟩
  have hz := ((FBox.new (w.alloc (.cells #[.slice A n c, .slice A' n c'] 30)) (.slice none 0 0) (.slice none 0 0)).next hb1)
  have hv := ((FBox.new w (.slice A n c) (.slice A' n c')).alloc (.cells #[.slice none 0 0, .slice none 0 0] 30)).next hb1
  simp only [World.size_alloc] at hz
  have hz0 := hz.fst
  have hz1 := hz.snd
  have hf0 := hz.free 0
  have hf1 := hz.free 1
  have hv0 := hv.fst
  have hv1 := hv.snd
  have HX1 := Lib.hid (((HX.out.al _).al _).next hb1)
  have HY1 := Lib.hid (((HY.out.al _).al _).next hb1)
  have HZ := Lib.hid hz
  have HB := Lib.hid ((below_two w _ _).trans (hb1.mono (by simp; omega)))
  have hws : w.heap.size + 1 + 1 ≤ w1.heap.size := by have := hb1.size; simpa using this
  clear hz hv hb1
  by_cases hin : 0 ≤ N ∧ N < T
  · obtain ⟨N0, N1⟩ := hin
    have he := HE.out
    rw [frBy_in (by rw [HL.out, HT.out]; exact ⟨N0, N1⟩), ← allP_zero] at he
    have HA := Lib.hid he
    clear he
    have l3 : (decide (0 ≤ N) && decide (N ≤ T - 1)) = true := by simp; omega
    have HL3 := Lib.hid l3
    obtain ⟨d, hd⟩ : ∃ d, ds[0]? = some d := ⟨_, List.getElem?_eq_getElem (by have := HL.out; omega)⟩
    obtain ⟨d0, d9⟩ := HD.out d (List.mem_of_getElem? hd)
    have hdx : ds.set 0 d = ds := by
      apply List.ext_getElem?
      intro i
      by_cases h : 0 = i
      · subst h; rw [List.getElem?_set_self (by have := HL.out; omega), hd]
      · rw [List.getElem?_set_ne h]
    have HDX := Lib.hid hdx
    have hdig : ∀ v, Ints v v.heap.size A n (HiL ds) → Ints v v.heap.size A' n (LoL ds) → Calls Tryz.prog 211 #[.agg #[.slice A n c, .slice A' n c'], .int .i64 0] v fun e w' => e = .returned (.int .i64 d) ∧ Below v.heap.size v w' :=
      fun v h2 h3 => specFrameDigit_any A A' n n c c' (HiL ds) (LoL ds) 0 d v h2 h3 (.inr ⟨ds, HD.out, rfl, rfl, by have := HL.out; omega, by have := HL.out; omega, (digAt_in (j := 0) hd).symm⟩)
    have HDG := Lib.hid hdig
    clear l3 hd hdx hdig
    have hwl : w.heap.size < w1.heap.size := by omega
    have hwl1 : w.heap.size + 1 < w1.heap.size := by omega
    have KS : Hid (∀ w', SB w1 w' → (w'.cell? ⟨w.heap.size, 0, none⟩ = some (.slice A n c) ∧ w'.cell? ⟨w.heap.size, 1, none⟩ = some (.slice A' n c') ∧ SB w1 w')) :=
      Lib.hid fun w' h => ⟨(Below.cell h (p := ⟨w.heap.size, 0, none⟩) hwl).trans hv0, (Below.cell h (p := ⟨w.heap.size, 1, none⟩) hwl).trans hv1, h⟩
    have hsb := SB.refl w1
    go_wp2_with fail
    refine (HP.out _).mono ?_
    rintro e w2 ⟨rfl, rfl⟩
    go_wp2_with fail
    refine (ten_in HL3.out _).mono ?_
    rintro e w2 ⟨rfl, rfl⟩
    go_upto_region 3 with fail
    go_cut [9] (fun s9 wx => L5Q w1 n (HiL ds) (LoL ds) s9 wx)
    case first =>
      go_region_held3 (fun w' => w'.cell? ⟨w.heap.size, 0, none⟩ = some (.slice A n c) ∧ w'.cell? ⟨w.heap.size, 1, none⟩ = some (.slice A' n c') ∧ SB w1 w')
        (first
          | ((try go_split_ands); refine KS.out _ ?_; first | assumption | (exact SB.drew (by assumption)) | (exact SB.alloc (by assumption) _) | (exact Below.setCell (Below.setCell (by assumption : SB w1 _) (by first | omega | (simp <;> omega)) _) (by first | omega | (simp <;> omega)) _)))
        (first
          | (go_at_call 211; (try go_split_ands); (refine (HDG.out _ (HX1.out.next (by assumption : SB w1 _)) (HY1.out.next (by assumption : SB w1 _))).mono ?_; rintro e w2 ⟨rfl, hb2⟩; have hs2 : SB w1 w2 := SB.below (by assumption) hb2; obtain ⟨hc2, hf2⟩ := bcell hb2; have hy2 := hb2.size; (try simp only [World.size_alloc, size_drew_] at hy2); (try have q1 : w1.heap.size < w2.heap.size := by omega)))
          | (go_at_call 210; (try go_split_ands); (refine (l5Set_any A A' n c c' ds 0 d _ (HX1.out.next (by assumption : SB w1 _)) (HY1.out.next (by assumption : SB w1 _)) (by omega) h6 d0 d9).mono ?_; rintro e w3 ⟨⟨v, rfl, ho⟩, hb3⟩; rw [HDX.out] at ho; obtain ⟨hi, lo, ch, cl, rfl, ho1, ho2, hne, v1, v2, v3, v4⟩ := ho.parts HL.out (by omega); have hs3 : SB w1 w3 := SB.below (by assumption) hb3; obtain ⟨hc3, hf3⟩ := bcell hb3; have hy3 := hb3.size; (try simp only [World.size_alloc] at hy3); (try simp only [World.size_alloc] at v1 v2); (try have q2 : w1.heap.size < w3.heap.size := by omega))))
      all_goals go_wp2_with fail
      all_goals go_meet
      all_goals
        have o1 := ho1.mono (show w1.heap.size ≤ _ by first | omega | (simp <;> omega))
        have o2 := ho2.mono (show w1.heap.size ≤ _ by first | omega | (simp <;> omega))
        first
          | exact l5leafA o1 o2 hne hs3
          | (refine l5leafB o1 o2 hne hs3 ?_ (by omega) (by omega) (by omega)
             rw [hb3.block _ (by first | omega | (simp <;> omega))]
             repeat (first
               | rw [if_true]
               | rw [if_pos (by omega)]
               | rw [if_neg (by omega)]
               | simp only [heap_drew, heap_alloc_if]
               | rw [hb2.block _ (by first | omega | (simp <;> omega))]))
    case rest =>
      obtain ⟨bx, hi, lo, ch, cl, rfl, hbx, hoh, hol, d1, d2, d3, d4, hbel⟩ := hcut
      have HBX := Lib.hid hbx
      have HOH := Lib.hid hoh
      have HOL := Lib.hid hol
      have HBL := Lib.hid hbel
      clear hbx hoh hol hbel hz0 hz1 hf0 hf1 hv0 hv1 hsb
      go_wp2
      go_loopw [1, 10, 11] (fun nv pv kv wr => ∃ (k : Nat) (M p : Int) (es : List Int), ∃ hi lo ch cl : Nat, nv = .int .i64 M ∧ pv = .int .i64 p ∧ kv = .int .i64 (k : Int) ∧ k ≤ n ∧ 0 ≤ M ∧ M < Fr.ten (n - k) ∧ M ≤ 1000000 ∧ 0 ≤ p ∧ p ≤ 20 * k ∧
        FBox wr bx (.slice (some ⟨hi, 0, none⟩) n ch) (.slice (some ⟨lo, 0, none⟩) n cl) ∧ Own wr w1.heap.size (some ⟨hi, 0, none⟩) n ch (HiL es) ∧ Own wr w1.heap.size (some ⟨lo, 0, none⟩) n cl (LoL es) ∧ hi ≠ lo ∧ bx ≠ hi ∧ bx ≠ lo ∧
        Fr.Digs es ∧ es.length = n ∧ allP 1 es k M p = R ∧ Below w1.heap.size w1 wr) (fun nv _ _ _ => (intOf nv).toNat)
      case atStart => exact ⟨0, N, 0, ds, hi, lo, ch, cl, rfl, rfl, rfl, by omega, N0, by rw [Nat.sub_zero, HT.out]; exact N1, by omega, by omega, by omega, HBX.out, HOH.out, HOL.out, d1, d2, d3, HD.out, HL.out, HA.out, HBL.out⟩
      case round =>
        clear HBX HOH HOL HBL HA d1 d2 d3 hi lo ch cl
        obtain ⟨k, M, p, es, hi, lo, ch, cl, rfl, rfl, rfl, hk, M0, M1, M2, p0, p1, hbx, hoh, hol, d1, d2, d3, hd, hl, hA, hbel⟩ := hrel
        have HBX := Lib.hid hbx
        have HD2 := Lib.hid hd
        have HL2 := Lib.hid hl
        have HA := Lib.hid hA
        have HM := Lib.hid M1
        have HBL := Lib.hid hbel
        have HZ2 := Lib.hid (HZ.out.keep (hbel.block _ hwl1))
        have HB2 := Lib.hid (HB.out.trans (hbel.mono HB.out.size))
        have z0 := HZ2.out.fst
        have z1 := HZ2.out.snd
        have f0 := HZ2.out.free 0
        have f1 := HZ2.out.free 1
        have x0 := HBX.out.fst
        have x1 := HBX.out.snd
        have hxl := HBX.out.lt
        have hwr := hbel.size
        have HOH := Lib.hid hoh
        have HOL := Lib.hid hol
        clear hbx hoh hol hd hl hA hbel M1
        by_cases hM : 0 < M
        · have hkn : k < n := by
            rcases (show k < n ∨ k = n from by omega) with h | rfl
            · exact h
            · have h9 := HM.out; rw [Nat.sub_self] at h9; have h10 : Fr.ten 0 = 1 := rfl; omega
          have m0 : 0 ≤ M % 10 := Int.emod_nonneg M (by omega)
          have m9 : M % 10 ≤ 9 := by have := Int.emod_lt_of_pos M (b := 10) (by omega); omega
          obtain ⟨Q, hQ⟩ : ∃ Q, chgAt 1 es k (M % 10) = Q := ⟨_, rfl⟩
          have hcall := l5ChangeAdd_yes _ (some ⟨hi, 0, none⟩) (some ⟨lo, 0, none⟩) n ch cl es (k : Int) (M % 10) wr HOH.out.ints HOL.out.ints HD2.out h1 h6 rfl
          rw [frAt_in _ _ _ _ (by rw [HL2.out]; exact hkn) m0 m9, hQ] at hcall
          have HC := Lib.hid hcall
          have HQ := Lib.hid hQ
          clear hcall hQ
          go_wp2_with fail
          refine HC.out.mono ?_
          rintro e w4 hpost
          obtain ⟨A4, c4, A5, c5, rfl, ho4, hb4⟩ := hpost.out_
          have HO4 := Lib.hid ho4
          have HZ4 := Lib.hid (HZ2.out.next hb4)
          have HX4 := Lib.hid (HBX.out.next hb4)
          have z40 := HZ4.out.fst
          have z41 := HZ4.out.snd
          have f40 := HZ4.out.free 0
          have f41 := HZ4.out.free 1
          have x40 := HX4.out.fst
          have x41 := HX4.out.snd
          have g40 := HX4.out.free 0
          have g41 := HX4.out.free 1
          have hxl4 := HX4.out.lt
          have hs4 := hb4.size
          have hza : w.heap.size + 1 < w4.heap.size := by omega
          have HB4 := Lib.hid (below_chain HB2.out hb4)
          have HBL4 := Lib.hid (HBL.out.trans (hb4.mono hwr))
          clear ho4 hb4 hpost z0 z1 f0 f1 x0 x1
          rcases Q with _ | ⟨es0, n0⟩
          · have he := HA.out
            rw [allP_none (by rw [HL2.out]; exact hkn) (by omega) HQ.out] at he
            subst he
            go_wp2
            exact bodyPost_ret (v := .tuple #[.agg #[.slice none 0 0, .slice none 0 0], .int .i64 0, .bool false]) (by simp [results, Tryz.results175, go_sem, hza, over_fst HZ4.out, over_snd HZ4.out]) rfl (FrRes.none_ ((below_over HB4.out (by omega) _ _).alloc (by simp; omega) _))
          · have hup := chgAt_upper HQ.out
            rw [HL2.out] at hup
            simp only at hup
            obtain ⟨u0, u1⟩ := hup
            have u2 : n0 ≤ 12 := by omega
            have hA2 := HA.out
            rw [allP_some (.inl rfl) HD2.out (by rw [HL2.out]; exact hkn) (by omega) HQ.out] at hA2
            have hq := HQ.out
            obtain ⟨q1, q2, q3⟩ := chgAt_digs (.inl rfl) HD2.out m0 m9 hq
            rw [HL2.out] at q2
            have s2 : resN (some (es0, n0)) = n0 := rfl
            have s3 : resL (some (es0, n0)) = es0 := rfl
            have ho4 := HO4.out
            rw [s3] at ho4
            rw [s2, s3, q2]
            obtain ⟨hi2, lo2, ch2, cl2, he, oh2, ol2, e1, e2, e3, e4, e5⟩ := ho4.parts q2 (by omega)
            rw [q2] at he
            injection he with he
            have he' := congrArg (fun a => a.toList) he
            simp only [List.cons.injEq, Value.slice.injEq, and_true, true_and] at he'
            obtain ⟨⟨rfl, rfl⟩, rfl, rfl⟩ := he'
            have HOH2 := Lib.hid oh2
            have HOL2 := Lib.hid ol2
            have HA2 := Lib.hid hA2
            have HD3 := Lib.hid q1
            have HL3' := Lib.hid q2
            clear hq s2 s3 ho4 he oh2 ol2 hA2 q1 q2 q3 u1 HO4
            go_wp2
            go_roundw
            case rel =>
              refine ⟨k + 1, M / 10, p + n0, es0, hi2, lo2, c4, c5, by go_num, by go_num, by go_num, by omega, by omega, ?_, by omega, by omega, by omega, (HX4.out.over _ _).alloc _, ((HOH2.out.over2 (by omega) _ _).alloc _).mono hwr, ((HOL2.out.over2 (by omega) _ _).alloc _).mono hwr, e1, by omega, by omega, HD3.out, HL3'.out, HA2.out, (below_over HBL4.out d4 _ _).alloc (by simp; omega) _⟩
              have h9 := HM.out
              rw [show n - k = n - (k + 1) + 1 from by omega, Fr.ten_succ] at h9
              omega
            case measure => simp [intOf]; omega
        · obtain rfl : M = 0 := by omega
          have he := HA.out
          rw [allP_done] at he
          subst he
          have HF := Lib.hid (FrOwn.of_parts HOH.out HOL.out d1 HL2.out)
          go_wp2
          refine bodyPost_ret (v := .tuple #[.agg #[.slice (some ⟨hi, 0, none⟩) n ch, .slice (some ⟨lo, 0, none⟩) n cl], .int .i64 p, .bool true]) (by simp [results, Tryz.results175, go_sem, over_fst HZ2.out, over_snd HZ2.out]) rfl ⟨⟨_, rfl, ?_⟩, below_over HB2.out (by omega) _ _⟩
          exact (HF.out.over (by omega) _ _).mono (by omega)
  · have he := HE.out
    rw [frBy_out (by rw [HL.out, HT.out]; exact hin)] at he
    subst he
    have l3 : (decide (0 ≤ N) && decide (N ≤ T - 1)) = false := by simp; omega
    have HL3 := Lib.hid l3
    clear hin l3
    go_wp2_with fail
    refine (HP.out _).mono ?_
    rintro e w2 ⟨rfl, rfl⟩
    go_wp2_with fail
    refine (ten_in HL3.out _).mono ?_
    rintro e w2 ⟨rfl, rfl⟩
    go_wp2
    exact bodyPost_ret (v := .tuple #[.agg #[.slice none 0 0, .slice none 0 0], .int .i64 0, .bool false]) (by simp [results, Tryz.results175, go_sem, over_fst HZ.out, over_snd HZ.out]) rfl (FrRes.none_ (below_over HB.out (by omega) _ _))
set_option maxRecDepth 100000 in
set_option maxHeartbeats 2000000 in
theorem l5AllAdd_no (A A' : Option Addr) (n m c c' : Nat) (hs ls : List Int) (N : Int) (w : World) (hx : Ints w w.heap.size A n hs) (hy : Ints w w.heap.size A' m ls) (hno : ¬ FrOk hs ls) :
    Calls Tryz.prog 175 #[.agg #[.slice A n c, .slice A' m c'], .int .i64 N, .int .i64 1] w (FrRes w none) := by
  have HX := Lib.hid hx
  have HY := Lib.hid hy
  have HN := Lib.hid hno
  clear hx hy hno
  go_enter Tryz.func175, Tryz.ntmps175
  go_wp2_with fail
  refine (specFrameValid_no A A' n m c c' hs ls _ ((HX.out.al _).al _) ((HY.out.al _).al _) HN.out).mono ?_
  rintro e w1 ⟨rfl, hb1⟩
  have hz := ((FBox.new (w.alloc (.cells #[.slice A n c, .slice A' m c'] 30)) (.slice none 0 0) (.slice none 0 0)).next hb1)
  have hz0 := hz.fst
  have hz1 := hz.snd
  have hf0 := hz.free 0
  have hf1 := hz.free 1
  simp only [World.size_alloc] at hz hz0 hz1 hf0 hf1
  have HZ := Lib.hid hz
  have HB := Lib.hid ((below_two w _ _).trans (hb1.mono (by simp; omega)))
  clear hz hb1
  go_wp2
  exact bodyPost_ret (v := .tuple #[.agg #[.slice none 0 0, .slice none 0 0], .int .i64 0, .bool false]) (by simp [results, Tryz.results175, go_sem, over_fst HZ.out, over_snd HZ.out]) rfl (FrRes.none_ (below_over HB.out (by omega) _ _))
theorem l5AllAdd_any (A A' : Option Addr) (n m c c' : Nat) (hs ls : List Int) (N : Int) (R : Option (List Int × Int)) (w : World) (hx : Ints w w.heap.size A n hs) (hy : Ints w w.heap.size A' m ls) (hR : frOf hs ls (fun ds => frBy 1 ds N) R) :
    Calls Tryz.prog 175 #[.agg #[.slice A n c, .slice A' m c'], .int .i64 N, .int .i64 1] w (FrRes w R) := by
  rcases hR with ⟨hno, rfl⟩ | ⟨ds, hd, rfl, rfl, h1, h6, rfl⟩
  · exact l5AllAdd_no A A' n m c c' hs ls N w hx hy hno
  · have e1 := hx.len
    have e2 := hy.len
    rw [HiL_length] at e1
    rw [LoL_length] at e2
    subst e1
    subst e2
    exact l5AllAdd_yes A A' _ c c' ds N w hx hy hd h1 h6
set_option maxRecDepth 100000 in
set_option maxHeartbeats 2000000 in
theorem specFrameSum_any (A A' : Option Addr) (n m c c' : Nat) (hs ls : List Int) (N : Int) (R : Option (List Int × Int)) (w : World) (hx : Ints w w.heap.size A n hs) (hy : Ints w w.heap.size A' m ls) (hR : frOf hs ls (fun ds => frBy 1 ds N) R) :
    Calls Tryz.prog 135 #[.agg #[.slice A n c, .slice A' m c'], .int .i64 N] w (FrRes w R) := by
  have HX := Lib.hid hx
  have HY := Lib.hid hy
  have HE := Lib.hid hR
  clear hx hy hR
  go_enter Tryz.func135, Tryz.ntmps135
  go_wp2_with fail
  refine (l5AllAdd_any A A' n m c c' hs ls N R _ ((HX.out.al _).al _) ((HY.out.al _).al _) HE.out).mono ?_
  rintro e w1 ⟨⟨v, rfl, ho⟩, hb1⟩
  have hz := ((FBox.new (w.alloc (.cells #[.slice A n c, .slice A' m c'] 30)) (.slice none 0 0) (.slice none 0 0)).next hb1)
  have hz0 := hz.fst
  have hz1 := hz.snd
  have hf0 := hz.free 0
  have hf1 := hz.free 1
  simp only [World.size_alloc] at hz hz0 hz1 hf0 hf1 ho
  have HZ := Lib.hid hz
  have HB := Lib.hid ((below_two w _ _).trans (hb1.mono (by simp; omega)))
  have HO := Lib.hid ho
  obtain ⟨A2, c2, A3, c3, rfl, -⟩ := ho
  clear hz hb1
  go_wp2
  refine bodyPost_ret (v := .tuple #[.agg #[.slice A2 (resL R).length c2, .slice A3 (resL R).length c3], .int .i64 (resN R), .bool R.isSome]) (by simp [results, Tryz.results135, go_sem, over_fst HZ.out, over_snd HZ.out]) rfl ⟨⟨_, rfl, ?_⟩, below_over HB.out (by omega) _ _⟩
  exact (HO.out.over (by omega) _ _).mono (by omega)
end Go.Proofs.YthdoofmfigemoaaGreatDoor
end

section
/-
  l5All of the reference: a number is taken from a frame.
-/
namespace Go.Proofs.YthdoofmfigemoaaGreatDoor
open Go.RowKit

set_option maxRecDepth 100000 in
set_option maxHeartbeats 8000000 in
theorem l5AllTake_yes (A A' : Option Addr) (n c c' : Nat) (ds : List Int) (N : Int) (w : World) (hx : Ints w w.heap.size A n (HiL ds)) (hy : Ints w w.heap.size A' n (LoL ds)) (hds : Fr.Digs ds) (h1 : 1 ≤ n) (h6 : n ≤ 6) :
    Calls Tryz.prog 175 #[.agg #[.slice A n c, .slice A' n c'], .int .i64 N, .int .i64 (-1)] w (FrRes w (frBy (-1) ds N)) := by
  have hl : ds.length = n := by have := hx.len; rwa [HiL_length] at this
  have HL := Lib.hid hl
  have HX := Lib.hid hx
  have HY := Lib.hid hy
  have HD := Lib.hid hds
  obtain ⟨R, hR⟩ : ∃ R, frBy (-1) ds N = R := ⟨_, rfl⟩
  rw [hR]
  have HE := Lib.hid hR
  have hten := ten_bd n h6
  obtain ⟨T, hT⟩ : ∃ T, Fr.ten n = T := ⟨_, rfl⟩
  rw [hT] at hten
  obtain ⟨t0, t1⟩ := hten
  have HT := Lib.hid hT
  clear hx hy hds hl hR hT
  have hpow : ∀ v, Calls Tryz.prog 55 #[.int .i64 (n : Int)] v fun e w' => e = .returned (.int .i64 T) ∧ v = w' := fun v => by rw [← HT.out]; exact l5Ten_any n v h6
  have HP := Lib.hid hpow
  clear hpow
  go_enter Tryz.func175, Tryz.ntmps175
  go_wp2_with fail
  refine (specFrameValid_yes A A' n c c' ds _ ((HX.out.al _).al _) ((HY.out.al _).al _) HD.out h1 h6).mono ?_
  rintro e w1 ⟨rfl, hb1⟩
  have hz := ((FBox.new (w.alloc (.cells #[.slice A n c, .slice A' n c'] 30)) (.slice none 0 0) (.slice none 0 0)).next hb1)
  have hv := ((FBox.new w (.slice A n c) (.slice A' n c')).alloc (.cells #[.slice none 0 0, .slice none 0 0] 30)).next hb1
  simp only [World.size_alloc] at hz
  have hz0 := hz.fst
  have hz1 := hz.snd
  have hf0 := hz.free 0
  have hf1 := hz.free 1
  have hv0 := hv.fst
  have hv1 := hv.snd
  have HX1 := Lib.hid (((HX.out.al _).al _).next hb1)
  have HY1 := Lib.hid (((HY.out.al _).al _).next hb1)
  have HZ := Lib.hid hz
  have HB := Lib.hid ((below_two w _ _).trans (hb1.mono (by simp; omega)))
  have hws : w.heap.size + 1 + 1 ≤ w1.heap.size := by have := hb1.size; simpa using this
  clear hz hv hb1
  by_cases hin : 0 ≤ N ∧ N < T
  · obtain ⟨N0, N1⟩ := hin
    have he := HE.out
    rw [frBy_in (by rw [HL.out, HT.out]; exact ⟨N0, N1⟩), ← allP_zero] at he
    have HA := Lib.hid he
    clear he
    have l3 : (decide (0 ≤ N) && decide (N ≤ T - 1)) = true := by simp; omega
    have HL3 := Lib.hid l3
    obtain ⟨d, hd⟩ : ∃ d, ds[0]? = some d := ⟨_, List.getElem?_eq_getElem (by have := HL.out; omega)⟩
    obtain ⟨d0, d9⟩ := HD.out d (List.mem_of_getElem? hd)
    have hdx : ds.set 0 d = ds := by
      apply List.ext_getElem?
      intro i
      by_cases h : 0 = i
      · subst h; rw [List.getElem?_set_self (by have := HL.out; omega), hd]
      · rw [List.getElem?_set_ne h]
    have HDX := Lib.hid hdx
    have hdig : ∀ v, Ints v v.heap.size A n (HiL ds) → Ints v v.heap.size A' n (LoL ds) → Calls Tryz.prog 211 #[.agg #[.slice A n c, .slice A' n c'], .int .i64 0] v fun e w' => e = .returned (.int .i64 d) ∧ Below v.heap.size v w' :=
      fun v h2 h3 => specFrameDigit_any A A' n n c c' (HiL ds) (LoL ds) 0 d v h2 h3 (.inr ⟨ds, HD.out, rfl, rfl, by have := HL.out; omega, by have := HL.out; omega, (digAt_in (j := 0) hd).symm⟩)
    have HDG := Lib.hid hdig
    clear l3 hd hdx hdig
    have hwl : w.heap.size < w1.heap.size := by omega
    have hwl1 : w.heap.size + 1 < w1.heap.size := by omega
    have KS : Hid (∀ w', SB w1 w' → (w'.cell? ⟨w.heap.size, 0, none⟩ = some (.slice A n c) ∧ w'.cell? ⟨w.heap.size, 1, none⟩ = some (.slice A' n c') ∧ SB w1 w')) :=
      Lib.hid fun w' h => ⟨(Below.cell h (p := ⟨w.heap.size, 0, none⟩) hwl).trans hv0, (Below.cell h (p := ⟨w.heap.size, 1, none⟩) hwl).trans hv1, h⟩
    have hsb := SB.refl w1
    go_wp2_with fail
    refine (HP.out _).mono ?_
    rintro e w2 ⟨rfl, rfl⟩
    go_wp2_with fail
    refine (ten_in HL3.out _).mono ?_
    rintro e w2 ⟨rfl, rfl⟩
    go_upto_region 3 with fail
    go_cut [9] (fun s9 wx => L5Q w1 n (HiL ds) (LoL ds) s9 wx)
    case first =>
      go_region_held3 (fun w' => w'.cell? ⟨w.heap.size, 0, none⟩ = some (.slice A n c) ∧ w'.cell? ⟨w.heap.size, 1, none⟩ = some (.slice A' n c') ∧ SB w1 w')
        (first
          | ((try go_split_ands); refine KS.out _ ?_; first | assumption | (exact SB.drew (by assumption)) | (exact SB.alloc (by assumption) _) | (exact Below.setCell (Below.setCell (by assumption : SB w1 _) (by first | omega | (simp <;> omega)) _) (by first | omega | (simp <;> omega)) _)))
        (first
          | (go_at_call 211; (try go_split_ands); (refine (HDG.out _ (HX1.out.next (by assumption : SB w1 _)) (HY1.out.next (by assumption : SB w1 _))).mono ?_; rintro e w2 ⟨rfl, hb2⟩; have hs2 : SB w1 w2 := SB.below (by assumption) hb2; obtain ⟨hc2, hf2⟩ := bcell hb2; have hy2 := hb2.size; (try simp only [World.size_alloc, size_drew_] at hy2); (try have q1 : w1.heap.size < w2.heap.size := by omega)))
          | (go_at_call 210; (try go_split_ands); (refine (l5Set_any A A' n c c' ds 0 d _ (HX1.out.next (by assumption : SB w1 _)) (HY1.out.next (by assumption : SB w1 _)) (by omega) h6 d0 d9).mono ?_; rintro e w3 ⟨⟨v, rfl, ho⟩, hb3⟩; rw [HDX.out] at ho; obtain ⟨hi, lo, ch, cl, rfl, ho1, ho2, hne, v1, v2, v3, v4⟩ := ho.parts HL.out (by omega); have hs3 : SB w1 w3 := SB.below (by assumption) hb3; obtain ⟨hc3, hf3⟩ := bcell hb3; have hy3 := hb3.size; (try simp only [World.size_alloc] at hy3); (try simp only [World.size_alloc] at v1 v2); (try have q2 : w1.heap.size < w3.heap.size := by omega))))
      all_goals go_wp2_with fail
      all_goals go_meet
      all_goals
        have o1 := ho1.mono (show w1.heap.size ≤ _ by first | omega | (simp <;> omega))
        have o2 := ho2.mono (show w1.heap.size ≤ _ by first | omega | (simp <;> omega))
        first
          | exact l5leafA o1 o2 hne hs3
          | (refine l5leafB o1 o2 hne hs3 ?_ (by omega) (by omega) (by omega)
             rw [hb3.block _ (by first | omega | (simp <;> omega))]
             repeat (first
               | rw [if_true]
               | rw [if_pos (by omega)]
               | rw [if_neg (by omega)]
               | simp only [heap_drew, heap_alloc_if]
               | rw [hb2.block _ (by first | omega | (simp <;> omega))]))
    case rest =>
      obtain ⟨bx, hi, lo, ch, cl, rfl, hbx, hoh, hol, d1, d2, d3, d4, hbel⟩ := hcut
      have HBX := Lib.hid hbx
      have HOH := Lib.hid hoh
      have HOL := Lib.hid hol
      have HBL := Lib.hid hbel
      clear hbx hoh hol hbel hz0 hz1 hf0 hf1 hv0 hv1 hsb
      go_wp2
      go_loopw [1, 10, 11] (fun nv pv kv wr => ∃ (k : Nat) (M p : Int) (es : List Int), ∃ hi lo ch cl : Nat, nv = .int .i64 M ∧ pv = .int .i64 p ∧ kv = .int .i64 (k : Int) ∧ k ≤ n ∧ 0 ≤ M ∧ M < Fr.ten (n - k) ∧ M ≤ 1000000 ∧ 0 ≤ p ∧ p ≤ 20 * k ∧
        FBox wr bx (.slice (some ⟨hi, 0, none⟩) n ch) (.slice (some ⟨lo, 0, none⟩) n cl) ∧ Own wr w1.heap.size (some ⟨hi, 0, none⟩) n ch (HiL es) ∧ Own wr w1.heap.size (some ⟨lo, 0, none⟩) n cl (LoL es) ∧ hi ≠ lo ∧ bx ≠ hi ∧ bx ≠ lo ∧
        Fr.Digs es ∧ es.length = n ∧ allP (-1) es k M p = R ∧ Below w1.heap.size w1 wr) (fun nv _ _ _ => (intOf nv).toNat)
      case atStart => exact ⟨0, N, 0, ds, hi, lo, ch, cl, rfl, rfl, rfl, by omega, N0, by rw [Nat.sub_zero, HT.out]; exact N1, by omega, by omega, by omega, HBX.out, HOH.out, HOL.out, d1, d2, d3, HD.out, HL.out, HA.out, HBL.out⟩
      case round =>
        clear HBX HOH HOL HBL HA d1 d2 d3 hi lo ch cl
        obtain ⟨k, M, p, es, hi, lo, ch, cl, rfl, rfl, rfl, hk, M0, M1, M2, p0, p1, hbx, hoh, hol, d1, d2, d3, hd, hl, hA, hbel⟩ := hrel
        have HBX := Lib.hid hbx
        have HD2 := Lib.hid hd
        have HL2 := Lib.hid hl
        have HA := Lib.hid hA
        have HM := Lib.hid M1
        have HBL := Lib.hid hbel
        have HZ2 := Lib.hid (HZ.out.keep (hbel.block _ hwl1))
        have HB2 := Lib.hid (HB.out.trans (hbel.mono HB.out.size))
        have z0 := HZ2.out.fst
        have z1 := HZ2.out.snd
        have f0 := HZ2.out.free 0
        have f1 := HZ2.out.free 1
        have x0 := HBX.out.fst
        have x1 := HBX.out.snd
        have hxl := HBX.out.lt
        have hwr := hbel.size
        have HOH := Lib.hid hoh
        have HOL := Lib.hid hol
        clear hbx hoh hol hd hl hA hbel M1
        by_cases hM : 0 < M
        · have hkn : k < n := by
            rcases (show k < n ∨ k = n from by omega) with h | rfl
            · exact h
            · have h9 := HM.out; rw [Nat.sub_self] at h9; have h10 : Fr.ten 0 = 1 := rfl; omega
          have m0 : 0 ≤ M % 10 := Int.emod_nonneg M (by omega)
          have m9 : M % 10 ≤ 9 := by have := Int.emod_lt_of_pos M (b := 10) (by omega); omega
          obtain ⟨Q, hQ⟩ : ∃ Q, chgAt (-1) es k (M % 10) = Q := ⟨_, rfl⟩
          have hcall := l5ChangeTake_yes _ (some ⟨hi, 0, none⟩) (some ⟨lo, 0, none⟩) n ch cl es (k : Int) (M % 10) wr HOH.out.ints HOL.out.ints HD2.out h1 h6 rfl
          rw [frAt_in _ _ _ _ (by rw [HL2.out]; exact hkn) m0 m9, hQ] at hcall
          have HC := Lib.hid hcall
          have HQ := Lib.hid hQ
          clear hcall hQ
          go_wp2_with fail
          refine HC.out.mono ?_
          rintro e w4 hpost
          obtain ⟨A4, c4, A5, c5, rfl, ho4, hb4⟩ := hpost.out_
          have HO4 := Lib.hid ho4
          have HZ4 := Lib.hid (HZ2.out.next hb4)
          have HX4 := Lib.hid (HBX.out.next hb4)
          have z40 := HZ4.out.fst
          have z41 := HZ4.out.snd
          have f40 := HZ4.out.free 0
          have f41 := HZ4.out.free 1
          have x40 := HX4.out.fst
          have x41 := HX4.out.snd
          have g40 := HX4.out.free 0
          have g41 := HX4.out.free 1
          have hxl4 := HX4.out.lt
          have hs4 := hb4.size
          have hza : w.heap.size + 1 < w4.heap.size := by omega
          have HB4 := Lib.hid (below_chain HB2.out hb4)
          have HBL4 := Lib.hid (HBL.out.trans (hb4.mono hwr))
          clear ho4 hb4 hpost z0 z1 f0 f1 x0 x1
          rcases Q with _ | ⟨es0, n0⟩
          · have he := HA.out
            rw [allP_none (by rw [HL2.out]; exact hkn) (by omega) HQ.out] at he
            subst he
            go_wp2
            exact bodyPost_ret (v := .tuple #[.agg #[.slice none 0 0, .slice none 0 0], .int .i64 0, .bool false]) (by simp [results, Tryz.results175, go_sem, hza, over_fst HZ4.out, over_snd HZ4.out]) rfl (FrRes.none_ ((below_over HB4.out (by omega) _ _).alloc (by simp; omega) _))
          · have hup := chgAt_upper HQ.out
            rw [HL2.out] at hup
            simp only at hup
            obtain ⟨u0, u1⟩ := hup
            have u2 : n0 ≤ 12 := by omega
            have hA2 := HA.out
            rw [allP_some (.inr rfl) HD2.out (by rw [HL2.out]; exact hkn) (by omega) HQ.out] at hA2
            have hq := HQ.out
            obtain ⟨q1, q2, q3⟩ := chgAt_digs (.inr rfl) HD2.out m0 m9 hq
            rw [HL2.out] at q2
            have s2 : resN (some (es0, n0)) = n0 := rfl
            have s3 : resL (some (es0, n0)) = es0 := rfl
            have ho4 := HO4.out
            rw [s3] at ho4
            rw [s2, s3, q2]
            obtain ⟨hi2, lo2, ch2, cl2, he, oh2, ol2, e1, e2, e3, e4, e5⟩ := ho4.parts q2 (by omega)
            rw [q2] at he
            injection he with he
            have he' := congrArg (fun a => a.toList) he
            simp only [List.cons.injEq, Value.slice.injEq, and_true, true_and] at he'
            obtain ⟨⟨rfl, rfl⟩, rfl, rfl⟩ := he'
            have HOH2 := Lib.hid oh2
            have HOL2 := Lib.hid ol2
            have HA2 := Lib.hid hA2
            have HD3 := Lib.hid q1
            have HL3' := Lib.hid q2
            clear hq s2 s3 ho4 he oh2 ol2 hA2 q1 q2 q3 u1 HO4
            go_wp2
            go_roundw
            case rel =>
              refine ⟨k + 1, M / 10, p + n0, es0, hi2, lo2, c4, c5, by go_num, by go_num, by go_num, by omega, by omega, ?_, by omega, by omega, by omega, (HX4.out.over _ _).alloc _, ((HOH2.out.over2 (by omega) _ _).alloc _).mono hwr, ((HOL2.out.over2 (by omega) _ _).alloc _).mono hwr, e1, by omega, by omega, HD3.out, HL3'.out, HA2.out, (below_over HBL4.out d4 _ _).alloc (by simp; omega) _⟩
              have h9 := HM.out
              rw [show n - k = n - (k + 1) + 1 from by omega, Fr.ten_succ] at h9
              omega
            case measure => simp [intOf]; omega
        · obtain rfl : M = 0 := by omega
          have he := HA.out
          rw [allP_done] at he
          subst he
          have HF := Lib.hid (FrOwn.of_parts HOH.out HOL.out d1 HL2.out)
          go_wp2
          refine bodyPost_ret (v := .tuple #[.agg #[.slice (some ⟨hi, 0, none⟩) n ch, .slice (some ⟨lo, 0, none⟩) n cl], .int .i64 p, .bool true]) (by simp [results, Tryz.results175, go_sem, over_fst HZ2.out, over_snd HZ2.out]) rfl ⟨⟨_, rfl, ?_⟩, below_over HB2.out (by omega) _ _⟩
          exact (HF.out.over (by omega) _ _).mono (by omega)
  · have he := HE.out
    rw [frBy_out (by rw [HL.out, HT.out]; exact hin)] at he
    subst he
    have l3 : (decide (0 ≤ N) && decide (N ≤ T - 1)) = false := by simp; omega
    have HL3 := Lib.hid l3
    clear hin l3
    go_wp2_with fail
    refine (HP.out _).mono ?_
    rintro e w2 ⟨rfl, rfl⟩
    go_wp2_with fail
    refine (ten_in HL3.out _).mono ?_
    rintro e w2 ⟨rfl, rfl⟩
    go_wp2
    exact bodyPost_ret (v := .tuple #[.agg #[.slice none 0 0, .slice none 0 0], .int .i64 0, .bool false]) (by simp [results, Tryz.results175, go_sem, over_fst HZ.out, over_snd HZ.out]) rfl (FrRes.none_ (below_over HB.out (by omega) _ _))
set_option maxRecDepth 100000 in
set_option maxHeartbeats 2000000 in
theorem l5AllTake_no (A A' : Option Addr) (n m c c' : Nat) (hs ls : List Int) (N : Int) (w : World) (hx : Ints w w.heap.size A n hs) (hy : Ints w w.heap.size A' m ls) (hno : ¬ FrOk hs ls) :
    Calls Tryz.prog 175 #[.agg #[.slice A n c, .slice A' m c'], .int .i64 N, .int .i64 (-1)] w (FrRes w none) := by
  have HX := Lib.hid hx
  have HY := Lib.hid hy
  have HN := Lib.hid hno
  clear hx hy hno
  go_enter Tryz.func175, Tryz.ntmps175
  go_wp2_with fail
  refine (specFrameValid_no A A' n m c c' hs ls _ ((HX.out.al _).al _) ((HY.out.al _).al _) HN.out).mono ?_
  rintro e w1 ⟨rfl, hb1⟩
  have hz := ((FBox.new (w.alloc (.cells #[.slice A n c, .slice A' m c'] 30)) (.slice none 0 0) (.slice none 0 0)).next hb1)
  have hz0 := hz.fst
  have hz1 := hz.snd
  have hf0 := hz.free 0
  have hf1 := hz.free 1
  simp only [World.size_alloc] at hz hz0 hz1 hf0 hf1
  have HZ := Lib.hid hz
  have HB := Lib.hid ((below_two w _ _).trans (hb1.mono (by simp; omega)))
  clear hz hb1
  go_wp2
  exact bodyPost_ret (v := .tuple #[.agg #[.slice none 0 0, .slice none 0 0], .int .i64 0, .bool false]) (by simp [results, Tryz.results175, go_sem, over_fst HZ.out, over_snd HZ.out]) rfl (FrRes.none_ (below_over HB.out (by omega) _ _))
theorem l5AllTake_any (A A' : Option Addr) (n m c c' : Nat) (hs ls : List Int) (N : Int) (R : Option (List Int × Int)) (w : World) (hx : Ints w w.heap.size A n hs) (hy : Ints w w.heap.size A' m ls) (hR : frOf hs ls (fun ds => frBy (-1) ds N) R) :
    Calls Tryz.prog 175 #[.agg #[.slice A n c, .slice A' m c'], .int .i64 N, .int .i64 (-1)] w (FrRes w R) := by
  rcases hR with ⟨hno, rfl⟩ | ⟨ds, hd, rfl, rfl, h1, h6, rfl⟩
  · exact l5AllTake_no A A' n m c c' hs ls N w hx hy hno
  · have e1 := hx.len
    have e2 := hy.len
    rw [HiL_length] at e1
    rw [LoL_length] at e2
    subst e1
    subst e2
    exact l5AllTake_yes A A' _ c c' ds N w hx hy hd h1 h6
set_option maxRecDepth 100000 in
set_option maxHeartbeats 2000000 in
theorem specFrameLess_any (A A' : Option Addr) (n m c c' : Nat) (hs ls : List Int) (N : Int) (R : Option (List Int × Int)) (w : World) (hx : Ints w w.heap.size A n hs) (hy : Ints w w.heap.size A' m ls) (hR : frOf hs ls (fun ds => frBy (-1) ds N) R) :
    Calls Tryz.prog 136 #[.agg #[.slice A n c, .slice A' m c'], .int .i64 N] w (FrRes w R) := by
  have HX := Lib.hid hx
  have HY := Lib.hid hy
  have HE := Lib.hid hR
  clear hx hy hR
  go_enter Tryz.func136, Tryz.ntmps136
  go_wp2_with fail
  refine (l5AllTake_any A A' n m c c' hs ls N R _ ((HX.out.al _).al _) ((HY.out.al _).al _) HE.out).mono ?_
  rintro e w1 ⟨⟨v, rfl, ho⟩, hb1⟩
  have hz := ((FBox.new (w.alloc (.cells #[.slice A n c, .slice A' m c'] 30)) (.slice none 0 0) (.slice none 0 0)).next hb1)
  have hz0 := hz.fst
  have hz1 := hz.snd
  have hf0 := hz.free 0
  have hf1 := hz.free 1
  simp only [World.size_alloc] at hz hz0 hz1 hf0 hf1 ho
  have HZ := Lib.hid hz
  have HB := Lib.hid ((below_two w _ _).trans (hb1.mono (by simp; omega)))
  have HO := Lib.hid ho
  obtain ⟨A2, c2, A3, c3, rfl, -⟩ := ho
  clear hz hb1
  go_wp2
  refine bodyPost_ret (v := .tuple #[.agg #[.slice A2 (resL R).length c2, .slice A3 (resL R).length c3], .int .i64 (resN R), .bool R.isSome]) (by simp [results, Tryz.results136, go_sem, over_fst HZ.out, over_snd HZ.out]) rfl ⟨⟨_, rfl, ?_⟩, below_over HB.out (by omega) _ _⟩
  exact (HO.out.over (by omega) _ _).mono (by omega)
end Go.Proofs.YthdoofmfigemoaaGreatDoor
end

section
/-
  A frame is shifted; the frame of a value.
-/
namespace Go.Proofs.YthdoofmfigemoaaGreatDoor
open Go.RowKit

/-- the digits on the next rod -/
def frShiftL (ds : List Int) : List Int := 0 :: ds.take (ds.length - 1)
def frOkS (ds : List Int) : Bool := decide (ds.getD (ds.length - 1) 0 = 0)
theorem shiftL_length {ds : List Int} (h : 1 ≤ ds.length) : (frShiftL ds).length = ds.length := by simp [frShiftL]; omega
theorem digs_shift {ds : List Int} (h : Fr.Digs ds) : Fr.Digs (frShiftL ds) := by
  intro d hd
  rcases List.mem_cons.1 hd with rfl | hd
  · omega
  · exact h d (List.mem_of_mem_take hd)

theorem RC_append (l r : List Int) : RC (l ++ r) = RC l ++ RC r := by
  induction l with
  | nil => rfl
  | cons a l ih => simp [RC, ih]
theorem RC_one (l : List Int) : ∀ v ∈ RC l, v.oneCell' = true := by
  induction l with
  | nil => intro v h; simp [RC] at h
  | cons a l ih =>
    intro v h
    simp only [RC, List.mem_cons] at h
    rcases h with rfl | rfl | h
    · rfl
    · rfl
    · exact ih v h
theorem grown_setRow (w : World) (g : Nat) (cs : Array Value) : w.grownBy (w.setRow g cs) (some g) :=
  ⟨rfl, rfl, rfl, by simp [World.setRow], fun k _ hne => setRow_other w g k cs (fun e => hne (by rw [e]))⟩
/-- copy(rods[1:], others) as one step of a region -/
theorem step_copy_rods {ops : Array Oper} {o : Oper} {a : Act} {w : World} {K : Act → World → Prop} {Q : Exit → Act → World → Prop} {E : Prop} (hgd : o.guard = none) (d s : Operand)
    (ho : o.op = .call { callee := .builtin .copy, args := #[d, s], argTypes := #[80, 80] })
    {g h m c c' : Nat} {ds : List Int} (hd : a.eval d = .slice (some ⟨g, 2, none⟩) m c) (hs : a.eval s = .slice (some ⟨h, 0, none⟩) (m + 1) c')
    (hg : w.heap[g]? = some (.cells (RC (List.replicate (m + 1) 0)).toArray 82 (0, 0))) (hh : w.heap[h]? = some (.cells (RC ds).toArray 82 (0, 0))) (hl : ds.length = m + 1)
    (hK : ∀ w', w'.heap[g]? = some (.cells (RC (frShiftL ds)).toArray 82 (0, 0)) → w.grownBy w' (some g) → K (a.put o.dst (goInt m)) w') :
    if Region.wanted o (yielded ops a.tmps) = true then Oper.wp Tryz.prog o a w K Q else E := by
  rw [if_pos (by simp [Region.wanted, hgd])]
  obtain ⟨i0, hi, hz0, hz1, hz2⟩ := info_parts rod_info
  have e1 : RC ds = RC (ds.take m) ++ RC (ds.drop m) := by rw [← RC_append, List.take_append_drop]
  have el : (RC (ds.take m)).length = m * 2 := by rw [RC_length, List.length_take]; omega
  have hload := run_loadCells_list (P := Tryz.prog) (w := w) ⟨h, 0, none⟩ (RC (ds.take m)) (by
    intro j v hj
    rw [add_row, cell_of_row _ h j _ _ _ hh]
    simp only [List.getElem?_toArray]
    rw [e1, List.getElem?_append_left (List.getElem?_eq_some_iff.1 hj).1]; exact hj)
  have hst := run_storeCells_at Tryz.prog g 2 82 (RC (ds.take m)) 0 _ w hg (by simp [el, RC_length]; omega) (RC_one _)
  have hmin : Nat.min (m + 1) m = m := by simp
  have hrun : (Builtin.copy_ #[80, 80] o.type #[.slice (some ⟨g, 2, none⟩) m c, .slice (some ⟨h, 0, none⟩) (m + 1) c']).run Tryz.prog w = .ok (goInt m) (w.setRow g (RC (frShiftL ds)).toArray) := by
    rw [el] at hload
    have e2 : (RC (List.replicate (m + 1) 0)).toArray.toList.take (2 + 0) ++ RC (ds.take m) ++ (RC (List.replicate (m + 1) 0)).toArray.toList.drop (2 + 0 + (RC (ds.take m)).length) = RC (frShiftL ds) := by
      rw [List.drop_of_length_le (by simp [RC_length, el]; omega), List.append_nil, List.replicate_succ, frShiftL, hl]
      simp [RC]
    rw [e2] at hst
    simp [Builtin.copy_, run_underlying Tryz.underlying80, Builtin.lenOf, Builtin.firstCells, sizeOf, typeInfo, hi, hz1, hmin, hload, hst]
  unfold Oper.wp
  simp [execOp, ho, resolve, invoke, builtin, hd, hs, hrun, Result.andThen]
  exact hK _ (setRow_heap w g _ _ _ _ hg) (grown_setRow w g _)
/-- copy of nothing -/
theorem step_copy_none {ops : Array Oper} {o : Oper} {a : Act} {w : World} {K : Act → World → Prop} {Q : Exit → Act → World → Prop} {E : Prop} (hgd : o.guard = none) (d s : Operand)
    (ho : o.op = .call { callee := .builtin .copy, args := #[d, s], argTypes := #[80, 80] })
    {h n c c' : Nat} {p : Addr} (hd : a.eval d = .slice (some p) 0 c) (hs : a.eval s = .slice (some ⟨h, 0, none⟩) n c')
    (hK : K (a.put o.dst (goInt (0 : Nat))) w) :
    if Region.wanted o (yielded ops a.tmps) = true then Oper.wp Tryz.prog o a w K Q else E := by
  rw [if_pos (by simp [Region.wanted, hgd])]
  obtain ⟨i0, hi, hz0, hz1, hz2⟩ := info_parts rod_info
  have hrun : (Builtin.copy_ #[80, 80] o.type #[.slice (some p) 0 c, .slice (some ⟨h, 0, none⟩) n c']).run Tryz.prog w = .ok (goInt (0 : Nat)) w := by
    simp [Builtin.copy_, run_underlying Tryz.underlying80, Builtin.lenOf, Builtin.firstCells, sizeOf, typeInfo, hi, loadCells, loadCellsFrom, storeCells]
  unfold Oper.wp
  simp [execOp, ho, resolve, invoke, builtin, hd, hs, hrun, Result.andThen]
  exact hK

/-- the digits of a value -/
def quoK (v : Int) : Nat → Int
  | 0 => v
  | k + 1 => quoK v k / 10
def digitsOf (n : Nat) (v : Int) : List Int := (List.range n).map fun k => quoK v k % 10
theorem digitsOf_length (n : Nat) (v : Int) : (digitsOf n v).length = n := by simp [digitsOf]
theorem digitsOf_get {n k : Nat} (v : Int) (h : k < n) : (digitsOf n v)[k]? = some (quoK v k % 10) := by simp [digitsOf, h]
theorem digs_digitsOf (n : Nat) (v : Int) : Fr.Digs (digitsOf n v) := by
  intro d hd
  simp only [digitsOf, List.mem_map] at hd
  obtain ⟨k, _, rfl⟩ := hd
  exact ⟨Int.emod_nonneg _ (by omega), by have := Int.emod_lt_of_pos (quoK v k) (b := 10) (by omega); omega⟩
theorem quoK_in {v : Int} (h : 0 ≤ v) (k : Nat) : 0 ≤ quoK v k ∧ quoK v k ≤ v := by
  induction k with
  | zero => exact ⟨h, Int.le_refl _⟩
  | succ k ih => simp only [quoK]; omega
theorem quoK_div (v : Int) (k : Nat) : quoK (v / 10) k = quoK v (k + 1) := by
  induction k with
  | zero => rfl
  | succ k ih => rw [quoK, ih]; rfl
theorem digitsOf_succ (n : Nat) (v : Int) : digitsOf (n + 1) v = (v % 10) :: digitsOf n (v / 10) := by
  unfold digitsOf
  rw [List.range_succ_eq_map, List.map_cons, List.map_map]
  congr 1
  apply List.map_congr_left
  intro k _
  show quoK v (k + 1) % 10 = quoK (v / 10) k % 10
  rw [quoK_div]
theorem val_digitsOf (n : Nat) : ∀ v, 0 ≤ v → v < Fr.ten n → Fr.val (digitsOf n v) = v := by
  induction n with
  | zero => intro v h0 h1; have : Fr.ten 0 = 1 := rfl; simp [digitsOf, Fr.val]; omega
  | succ n ih =>
    intro v h0 h1
    rw [Fr.ten_succ] at h1
    rw [digitsOf_succ, Fr.val, ih (v / 10) (by omega) (by omega)]
    omega
def okOf (n v : Int) : Bool := decide (1 ≤ n) && decide (n ≤ 6) && (decide (0 ≤ v) && decide (v < Fr.ten n.toNat))

set_option maxRecDepth 100000 in
set_option maxHeartbeats 2000000 in
theorem FrameOf_yes (n : Nat) (v : Int) (w : World) (h1 : 1 ≤ n) (h6 : n ≤ 6) (v0 : 0 ≤ v) (v1 : v < Fr.ten n) :
    Calls Tryz.prog 18 #[.int .i64 (n : Int), .int .i64 v] w (FrPair w true (digitsOf n v)) := by
  have hten := ten_bd n h6
  obtain ⟨T, hT⟩ : ∃ T, Fr.ten n = T := ⟨_, rfl⟩
  rw [hT] at hten v1
  obtain ⟨t0, t1⟩ := hten
  have HT := Lib.hid hT
  clear hT
  have hpow : ∀ u, Calls Tryz.prog 56 #[.int .i64 (n : Int)] u fun e w' => e = .returned (.int .i64 T) ∧ u = w' := fun u => by rw [← HT.out]; exact powerOfTen_any n u h6
  have HP := Lib.hid hpow
  have HZ := Lib.hid (FBox.new w (.slice none 0 0) (.slice none 0 0))
  have HB := Lib.hid ((Below.refl w.heap.size w).alloc (Nat.le_refl _) (.cells #[.slice none 0 0, .slice none 0 0] 30))
  clear hpow
  go_enter Tryz.func18, Tryz.ntmps18
  go_wp2_with fail
  refine (HP.out _).mono ?_
  rintro e w2 ⟨rfl, rfl⟩
  go_wp2_with (refine wpList_make_rods (n := n) rfl _ _ rfl rfl rfl (by omega) ?_; intro w3 hm3 hg3)
  simp only [World.size_alloc] at hm3
  have hm4 := (Below.heap_alloc w3 (.cells #[.slice (some ⟨w.heap.size + 1, 0, none⟩) n n] 80) (w.heap.size + 1) (Array.getElem?_eq_some_iff.1 hm3).1).trans hm3
  have hh4 := heap_alloc_new w3 (.cells #[.slice (some ⟨w.heap.size + 1, 0, none⟩) n n] 80)
  have hb3 : Below (w.heap.size + 1) (w.alloc (.cells #[.slice none 0 0, .slice none 0 0] 30)) (w3.alloc (.cells #[.slice (some ⟨w.heap.size + 1, 0, none⟩) n n] 80)) := (grown_below hg3 (by simp) (by simp)).alloc (by have := hg3.size; simpa using this) _
  have hlt3 := (Array.getElem?_eq_some_iff.1 hm3).1
  obtain ⟨hb, hhb⟩ : ∃ hb, w3.heap.size = hb := ⟨_, rfl⟩
  rw [hhb] at hh4 hlt3
  rw [hhb]
  generalize w3.alloc (.cells #[.slice (some ⟨w.heap.size + 1, 0, none⟩) n n] 80) = W at *
  have hr0 : Rods W (w.heap.size + 1) hb (w.heap.size + 1) ((digitsOf n v).take 0 ++ List.replicate (n - 0) 0) := ⟨by simpa using hh4, by simpa using hm4, by omega, by omega, by omega⟩
  have HZ4 := Lib.hid (HZ.out.keep (hb3.block _ (Nat.lt_succ_self _)))
  have HB4 := Lib.hid (HB.out.trans (hb3.mono (Nat.le_succ _)))
  have HR4 := Lib.hid hr0
  have HG4 := Lib.hid (World.grownBy.refl W (some (w.heap.size + 1)))
  have hsl4 := hr0.slice
  have hln0 : ((digitsOf n v).take 0 ++ List.replicate (n - 0) 0 : List Int).length = n := by simp
  rw [hln0] at hsl4
  clear hln0
  clear hm3 hg3 hb3 hm4 hh4 hr0 hhb
  go_wp2
  go_loopw [1, 29] (fun vv kv wr => ∃ (k : Nat) (u : Int), vv = .int .i64 u ∧ kv = .int .i64 (k : Int) ∧ k ≤ n ∧ u = quoK v k ∧ Rods wr (w.heap.size + 1) hb (w.heap.size + 1) ((digitsOf n v).take k ++ List.replicate (n - k) 0) ∧ W.grownBy wr (some (w.heap.size + 1))) (fun _ kv _ => n - (intOf kv).toNat)
  case atStart => exact ⟨0, v, rfl, rfl, by omega, rfl, HR4.out, HG4.out⟩
  case round =>
    clear HR4 HG4 hsl4
    obtain ⟨k, u, rfl, rfl, hk, hu, hr, hg⟩ := hrel
    have hln : ((digitsOf n v).take k ++ List.replicate (n - k) 0).length = n := by have := digitsOf_length n v; simp; omega
    have hsl := hr.slice
    rw [hln] at hsl
    have hub := quoK_in v0 k
    rw [← hu] at hub
    obtain ⟨u0, u1⟩ := hub
    have HU := Lib.hid hu
    have HR := Lib.hid hr
    have HG := Lib.hid hg
    have HLN := Lib.hid hln
    have HZ5 := Lib.hid (HZ4.out.grown hg (by intro e; injection e with e; omega))
    have HB5 := Lib.hid (HB4.out.grown hg HB4.out.size (by rintro q ⟨⟩; omega))
    have hws := HB5.out.size
    clear hr hg hln hu
    by_cases hlt : k < n
    · have hold : ((digitsOf n v).take k ++ List.replicate (n - k) 0)[k]? = some 0 := fill_at hlt (digitsOf_length n v)
      have hnx := fill_next hlt (digitsOf_length n v) (digitsOf_get v hlt)
      rw [← HU.out] at hnx
      have m0 : 0 ≤ u % 10 := Int.emod_nonneg u (by omega)
      have m9 : u % 10 ≤ 9 := by have := Int.emod_lt_of_pos u (b := 10) (by omega); omega
      have HO := Lib.hid hold
      have HNX := Lib.hid hnx
      clear hold hnx
      have k0 : (0 : Int) ≤ (k : Int) := by omega
      have k1 : (k : Int) < (n : Int) := by omega
      go_wp2_with fail
      refine (show_any _ _ hb (w.heap.size + 1) _ k 0 (u % 10) HR.out HO.out m0 m9).mono ?_
      rintro e w5 ⟨rfl, hr5, hg5⟩
      rw [HNX.out] at hr5
      have HR5 := Lib.hid hr5
      have HG5 := Lib.hid (HG.out.trans hg5)
      clear hr5 hg5
      go_wp2
      go_roundw
      case rel => exact ⟨k + 1, u / 10, by go_num, by go_num, by omega, by rw [quoK, ← HU.out], HR5.out, HG5.out⟩
      case measure => simp [intOf]; omega
    · obtain rfl : k = n := by omega
      have hr := HR.out
      rw [Nat.sub_self, List.replicate_zero, List.append_nil, List.take_of_length_le (by rw [digitsOf_length]; omega)] at hr
      have HR6 := Lib.hid hr
      clear hr
      go_wp2_with fail
      refine (frame_any wr _ hb (w.heap.size + 1) (digitsOf k v) k HR6.out (digitsOf_length k v) (digs_digitsOf k v) h6).mono ?_
      rintro e w6 ⟨⟨x, rfl, ho⟩, hb6⟩
      have hos := ho.mono (show w.heap.size + 1 ≤ _ by have := HR6.out.hl; omega)
      obtain ⟨A2, c2, A3, c3, rfl, -⟩ := ho
      have HO := Lib.hid hos
      have HZ6 := Lib.hid (HZ5.out.next hb6)
      have z0 := HZ6.out.fst
      have z1 := HZ6.out.snd
      have f0 := HZ6.out.free 0
      have f1 := HZ6.out.free 1
      have HB6 := Lib.hid (below_chain HB5.out hb6)
      clear hb6 hos
      go_wp2
      refine bodyPost_ret (v := .tuple #[.agg #[.slice A2 (digitsOf k v).length c2, .slice A3 (digitsOf k v).length c3], .bool true]) (by simp [results, Tryz.results18, go_sem, over_fst HZ6.out, over_snd HZ6.out]) rfl ⟨⟨_, rfl, ?_⟩, below_over HB6.out (by omega) _ _⟩
      exact (HO.out.over (by omega) _ _).mono (by omega)

set_option maxRecDepth 100000 in
set_option maxHeartbeats 2000000 in
theorem FrameOf_no (n v : Int) (w : World) (h : okOf n v = false) : Calls Tryz.prog 18 #[.int .i64 n, .int .i64 v] w (FrPair w false []) := by
  have HZ := Lib.hid (FBox.new w (.slice none 0 0) (.slice none 0 0))
  have HB := Lib.hid ((Below.refl w.heap.size w).alloc (Nat.le_refl _) (.cells #[.slice none 0 0, .slice none 0 0] 30))
  have z0 := HZ.out.fst
  have z1 := HZ.out.snd
  have f0 := HZ.out.free 0
  have f1 := HZ.out.free 1
  by_cases h16 : 1 ≤ n ∧ n ≤ 6 ∧ 0 ≤ v
  · obtain ⟨h1, h6, v0⟩ := h16
    obtain ⟨k, rfl⟩ := Int.eq_ofNat_of_zero_le (show 0 ≤ n by omega)
    have hten := ten_bd k (by omega)
    obtain ⟨T, hT⟩ : ∃ T, Fr.ten k = T := ⟨_, rfl⟩
    have hv : T ≤ v := by
      rw [okOf] at h
      simp [hT] at h
      omega
    rw [hT] at hten
    obtain ⟨t0, t1⟩ := hten
    have hpow : ∀ u, Calls Tryz.prog 56 #[.int .i64 (k : Int)] u fun e w' => e = .returned (.int .i64 T) ∧ u = w' := fun u => by rw [← hT]; exact powerOfTen_any k u (by omega)
    have HP := Lib.hid hpow
    clear hpow h hT
    go_enter Tryz.func18, Tryz.ntmps18
    go_wp2_with fail
    refine (HP.out _).mono ?_
    rintro e w2 ⟨rfl, rfl⟩
    go_wp2
    exact bodyPost_ret (v := .tuple #[.agg #[.slice none 0 0, .slice none 0 0], .bool false]) (by simp [results, Tryz.results18, go_sem]) rfl (FrPair.no HB.out)
  · clear h
    rcases (show n < 1 ∨ (1 ≤ n ∧ 6 < n) ∨ (1 ≤ n ∧ n ≤ 6 ∧ v < 0) from by omega) with q1 | ⟨q1, q2⟩ | ⟨q1, q2, q3⟩
    all_goals
      clear h16
      go_enter Tryz.func18, Tryz.ntmps18
      go_wp2
      exact bodyPost_ret (v := .tuple #[.agg #[.slice none 0 0, .slice none 0 0], .bool false]) (by simp [results, Tryz.results18, go_sem]) rfl (FrPair.no HB.out)
end Go.Proofs.YthdoofmfigemoaaGreatDoor
end

section
/-
  Digits on a rod that is not the first: value, distance, the way back, nines. No program in sight.
-/
namespace Go.Proofs.YthdoofmfigemoaaGreatDoor
open Go.RowKit

theorem val_append (xs bs : List Int) : Fr.val (xs ++ bs) = Fr.val xs + Fr.ten xs.length * Fr.val bs := by
  induction xs with
  | nil => simp [Fr.val, Fr.ten]
  | cons a l ih => rw [List.cons_append, Fr.val, ih, Fr.val, List.length_cons, Fr.ten_succ, Int.mul_add, Int.mul_assoc]; omega
theorem val_split (ds : List Int) (k : Nat) (hk : k ≤ ds.length) : Fr.val ds = Fr.val (ds.take k) + Fr.ten k * Fr.val (ds.drop k) := by
  conv => lhs; rw [← List.take_append_drop k ds]
  rw [val_append, List.length_take, Nat.min_eq_left hk]
theorem dist_append (xs : List Int) : ∀ bs cs, Fr.dist (xs ++ bs) (xs ++ cs) = Fr.dist bs cs := by
  induction xs with
  | nil => intro bs cs; rfl
  | cons a l ih => intro bs cs; rw [List.cons_append, List.cons_append, Fr.dist, ih, Fr.cost_self]; omega
theorem digs_append {xs bs : List Int} (h : Fr.Digs xs) (k : Fr.Digs bs) : Fr.Digs (xs ++ bs) := by
  intro d hd
  rcases List.mem_append.1 hd with h1 | h1
  · exact h d h1
  · exact k d h1
theorem digs_take {ds : List Int} (h : Fr.Digs ds) (k : Nat) : Fr.Digs (ds.take k) := fun d hd => h d (List.mem_of_mem_take hd)
theorem nines_append (xs bs : List Int) : Fr.nines (xs ++ bs) = Fr.nines xs ++ Fr.nines bs := by simp [Fr.nines]
theorem nines_length (ds : List Int) : (Fr.nines ds).length = ds.length := by simp [Fr.nines]
theorem nines_take (ds : List Int) (k : Nat) : (Fr.nines ds).take k = Fr.nines (ds.take k) := by simp [Fr.nines, List.map_take]
theorem nines_drop (ds : List Int) (k : Nat) : (Fr.nines ds).drop k = Fr.nines (ds.drop k) := by simp [Fr.nines, List.map_drop]

/-- a digit on a rod -/
theorem frAt_some {s : Int} (hs : Fr.Sgn s) {ds r : List Int} {k x n : Int} (hd : Fr.Digs ds) (h : frAt s ds k x = some (r, n)) :
    Fr.Digs r ∧ r.length = ds.length ∧ Fr.val r = Fr.val ds + s * x * Fr.ten k.toNat ∧ Fr.dist ds r = n ∧ 0 ≤ n ∧ frAt (0 - s) r k x = some (ds, n) ∧ frAt (0 - s) (Fr.nines ds) k x = some (Fr.nines r, n) ∧ 0 ≤ k ∧ k < ds.length ∧ 0 ≤ x ∧ x ≤ 9 := by
  unfold frAt at h
  by_cases hc : 0 ≤ k ∧ k < ds.length ∧ 0 ≤ x ∧ x ≤ 9
  · rw [if_pos hc] at h
    obtain ⟨k0, k1, x0, x9⟩ := hc
    obtain ⟨j, rfl⟩ := Int.eq_ofNat_of_zero_le k0
    rw [Int.toNat_natCast] at h ⊢
    have hj : j < ds.length := by omega
    unfold chgAt at h
    cases hq : Fr.chg s (ds.drop j) x with
    | none => rw [hq] at h; cases h
    | some p =>
      obtain ⟨q, m⟩ := p
      rw [hq] at h
      simp only [Option.map_some, Option.some.injEq, Prod.mk.injEq] at h
      obtain ⟨rfl, rfl⟩ := h
      have hdd := digs_drop hd j
      obtain ⟨e1, e2, e3, e4, e5, -⟩ := Fr.chg_some s hs _ x q m hdd x0 x9 hq
      have hb := Fr.chg_back s hs _ x q m hdd x0 x9 hq
      have hn := Fr.chg_nines s hs _ x hdd x0 x9
      rw [hq, Option.map_some] at hn
      have hlen : (ds.take j).length = j := by rw [List.length_take]; omega
      have hl2 : (ds.take j ++ q).length = ds.length := by rw [List.length_append, hlen, e2, List.length_drop]; omega
      refine ⟨digs_append (digs_take hd j) e1, hl2, ?_, ?_, e5, ?_, ?_, k0, k1, x0, x9⟩
      · rw [val_append, hlen, e3, val_split ds j (by omega), Int.mul_add, Int.mul_comm (s * x)]; omega
      · conv => lhs; lhs; rw [← List.take_append_drop j ds]
        rw [dist_append, e4]
      · unfold frAt
        rw [if_pos (by rw [hl2]; omega), Int.toNat_natCast]
        unfold chgAt
        rw [List.drop_append_of_le_length (by omega), show (ds.take j).drop j = [] from List.drop_eq_nil_of_le (by omega), List.nil_append, hb]
        simp only [Option.map_some]
        rw [List.take_append_of_le_length (by omega), List.take_take, Nat.min_self, List.take_append_drop]
      · unfold frAt
        rw [if_pos (by rw [nines_length]; omega), Int.toNat_natCast]
        unfold chgAt
        rw [nines_drop, hn, Option.map_some, nines_take, nines_append]
  · rw [if_neg hc] at h; cases h
/-- a rod filled up to nine -/
theorem frAt_nine {ds : List Int} {j : Nat} {d : Int} (hd : Fr.Digs ds) (h : ds[j]? = some d) : ∃ n, frAt 1 ds (j : Int) (9 - d) = some (ds.set j 9, n) := by
  have hl := (List.getElem?_eq_some_iff.1 h).1
  have hm := hd d (List.mem_of_getElem? h)
  rw [frAt_in 1 ds j (9 - d) hl (by omega) (by omega)]
  by_cases h0 : 9 - d = 0
  · refine ⟨0, ?_⟩
    rw [h0, ← chgP_zero, chgP_done, show (9 : Int) = d from by omega]
    obtain ⟨hl2, rfl⟩ := List.getElem?_eq_some_iff.1 h
    rw [List.set_getElem_self]
  · refine ⟨0 + Fr.cost d (d + 1 * (9 - d)), ?_⟩
    rw [← chgP_zero, chgP_in 1 ds j (9 - d) 0 d h0 h (by omega) (by omega), show d + 1 * (9 - d) = 9 from by omega]
theorem frBy_some {s : Int} (hs : Fr.Sgn s) {ds r : List Int} {N n : Int} (hd : Fr.Digs ds) (h : frBy s ds N = some (r, n)) :
    Fr.Digs r ∧ r.length = ds.length ∧ Fr.val r = Fr.val ds + s * N ∧ Fr.dist ds r ≤ n ∧ 0 ≤ n ∧ (n = 0 ↔ N = 0) ∧ (∃ m, frBy (0 - s) r N = some (ds, m)) ∧ frBy (0 - s) (Fr.nines ds) N = some (Fr.nines r, n) ∧ 0 ≤ N ∧ N < Fr.ten ds.length := by
  unfold frBy at h
  by_cases hc : 0 ≤ N ∧ N < Fr.ten ds.length
  · rw [if_pos hc] at h
    obtain ⟨e1, e2, e3, e4, e5, e6⟩ := Fr.all_some s hs ds N r n hd hc.1 h
    obtain ⟨m, hm⟩ := Fr.all_back s hs ds N r n hd hc.1 h
    have hn := Fr.all_nines' s hs ds N hd hc.1
    rw [h, Option.map_some] at hn
    exact ⟨e1, e2, e3, e4, e5, e6, ⟨m, by rw [frBy_in (by rw [e2]; exact hc), hm]⟩, by rw [frBy_in (by rw [nines_length]; exact hc), hn], hc.1, hc.2⟩
  · rw [if_neg hc] at h; cases h
theorem frBy_is {s : Int} (hs : Fr.Sgn s) {ds : List Int} {N : Int} (hd : Fr.Digs ds) (h0 : 0 ≤ N) (h1 : N < Fr.ten ds.length) : ((frBy s ds N).isSome = true ↔ 0 ≤ Fr.val ds + s * N ∧ Fr.val ds + s * N < Fr.ten ds.length) := by
  rw [frBy_in ⟨h0, h1⟩]
  exact Fr.all_iff s hs ds N hd h0
theorem val_snoc_zero (l : List Int) : Fr.val (l ++ [0]) = Fr.val l := by rw [val_append]; simp [Fr.val]
/-- ten times as much -/
theorem val_shift {ds : List Int} (h1 : 1 ≤ ds.length) (h : frOkS ds = true) : Fr.val (frShiftL ds) = 10 * Fr.val ds := by
  unfold frOkS at h
  have h := of_decide_eq_true h
  have e : ds = ds.take (ds.length - 1) ++ [0] := by
    conv => lhs; rw [← List.take_append_drop (ds.length - 1) ds]
    congr 1
    rw [List.drop_eq_getElem_cons (by omega), List.drop_of_length_le (by omega)]
    rw [List.getD_eq_getElem?_getD, List.getElem?_eq_getElem (by omega)] at h
    exact congrArg (· :: []) h
  rw [frShiftL, Fr.val]
  conv => rhs; rw [e, val_snoc_zero]
  omega
end Go.Proofs.YthdoofmfigemoaaGreatDoor
end
