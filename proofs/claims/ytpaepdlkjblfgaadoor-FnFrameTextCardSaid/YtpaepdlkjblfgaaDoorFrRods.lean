/-
  The rods of a frame: rodsOf of the program.
-/
import Derived.Test.YtpaepdlkjblfgaaDoorFrMem
import Derived.StillTailTactics
namespace Go.Proofs.YtpaepdlkjblfgaaDoor
open Go.RowKit

theorem rod_info : (Tryd.prog.info? 41).map (fun i => (i.zero, i.size, i.bytes)) = some (some (.agg #[.int .i64 0, .int .i64 0]), 2, 16) := by kernel_rfl
theorem RC_zero (n : Nat) : RC (List.replicate n 0) = List.replicate (2 * n) (.int .i64 0) := by
  induction n with
  | zero => rfl
  | succ n ih =>
    rw [List.replicate_succ, show 2 * (n + 1) = 2 * n + 1 + 1 from by omega, List.replicate_succ, List.replicate_succ, RC, ih]
    rfl
theorem madeCells_two (n : Nat) : madeCells (Value.agg #[.int .i64 0, .int .i64 0]).cells (n * 2) = (RC (List.replicate n 0)).toArray := by
  rw [RC_zero]
  apply Array.ext_getElem?
  intro j
  by_cases hj : j < n * 2
  · have h2 : j < 2 * n := by omega
    have e : (Value.agg #[Value.int IntKind.i64 0, Value.int IntKind.i64 0]).cells = #[Value.int .i64 0, Value.int .i64 0] := rfl
    rw [e]
    rcases (show j % 2 = 0 ∨ j % 2 = 1 from by omega) with h | h <;> simp [madeCells, hj, h2, h]
  · have h2 : ¬ j < 2 * n := by omega
    simp [madeCells, hj, h2]
/-- make(beadRods, n) -/
theorem wpList_make_rods {ops : Array Oper} {rest : List Oper} {o : Oper} {a : Act} {w : World} {Q : Exit → Act → World → Prop} (hgd : o.guard = none) (l c : Operand)
    (ho : o.op = .makeSlice 38 l c) {n : Nat} (hl : a.eval l = .int .i64 (n : Int)) (hc : a.eval c = .int .i64 (n : Int)) (hn : n ≤ 1000)
    (h : ∀ w', w'.heap[w.heap.size]? = some (.cells (RC (List.replicate n 0)).toArray 41 (0, 0)) → w.grownBy w' none → wpList Tryd.prog ops Q rest (a.put o.dst (.slice (some ⟨w.heap.size, 0, none⟩) n n)) w') :
    wpList Tryd.prog ops Q (o :: rest) a w := by
  obtain ⟨i0, hi, hz0, hz1, hz2⟩ := info_parts rod_info
  refine wpList_make_full w hgd l c 38 ho 0 41 i0 (.agg #[.int .i64 0, .int .i64 0]) 2 Tryd.underlying38 hi hz0 hz1 .i64 .i64 _ _ n hl hc rfl rfl (by rw [hz2]; omega) (by unfold maxLen; omega) (Nat.zero_le _) ?_
  intro w' hown hg
  refine h w' ?_ hg
  rcases hown.2 with ⟨h1, _⟩ | ⟨g, cap, cur, hv, _, hg', _, _, hs, ht⟩
  · cases h1
  · injection hv with e1 e2 e3
    injection e1 with e1
    injection e1 with e1
    subst e1
    subst e3
    rw [hg']
    have : cur.toList = (madeCells (Value.agg #[.int .i64 0, .int .i64 0]).cells (n * 2)).toList := by
      rw [← ht, List.take_of_length_le (by simp [hs])]
    rw [madeCells_two] at this
    have e : cur = (RC (List.replicate n 0)).toArray := by
      apply Array.ext'
      exact this
    rw [e]

/-- a frame's two slices in a block of its own -/
def Box (w : World) (b : Nat) (u v : Value) : Prop := w.heap[b]? = some (.cells #[u, v] 25 (0, 0))
section
variable {w w' : World} {b : Nat} {u v : Value}
theorem Box.lt (h : Box w b u v) : b < w.heap.size := (Array.getElem?_eq_some_iff.1 h).1
theorem Box.keep (h : Box w b u v) (hb : w'.heap[b]? = w.heap[b]?) : Box w' b u v := hb.trans h
theorem Box.fst (h : Box w b u v) : w.cell? ⟨b, 0, none⟩ = some u := by rw [cell_of_row w b 0 _ _ _ h]; rfl
theorem Box.snd (h : Box w b u v) : w.cell? ⟨b, 1, none⟩ = some v := by rw [cell_of_row w b 1 _ _ _ h]; rfl
theorem Box.new (w : World) (u v : Value) : Box (w.alloc (.cells #[u, v] 25)) w.heap.size u v := heap_alloc_new w _
theorem Box.alloc (h : Box w b u v) (o : Obj) : Box (w.alloc o) b u v := h.keep (Below.heap_alloc w o b h.lt)
theorem Box.drewN (h : Box w b u v) (k : Nat) : Box (w.drewN k) b u v := h
theorem Box.next (h : Box w b u v) (hb : Below w.heap.size w w') : Box w' b u v := h.keep (hb.block b h.lt)
theorem Box.grown (h : Box w b u v) {row : Option Nat} (hg : w.grownBy w' row) (hne : some b ≠ row) : Box w' b u v := h.keep (hg.block b h.lt hne)
end

theorem HiL_get {ds : List Int} {k : Nat} {u : Int} (h : (HiL ds)[k]? = some u) : ∃ d, ds[k]? = some d ∧ u = d / 5 := by
  simp only [HiL, List.getElem?_map, Option.map_eq_some_iff] at h
  obtain ⟨d, h1, h2⟩ := h
  exact ⟨d, h1, h2.symm⟩
theorem LoL_get {ds : List Int} {k : Nat} {d : Int} (h : ds[k]? = some d) : (LoL ds)[k]? = some (d % 5) := by simp [LoL, h]
theorem fill_rods {ds : List Int} {n k : Nat} {u : Int} (hk : k < n) (hl : ds.length = n) (h : ds[k]? = some u) :
    (ds.take k ++ List.replicate (n - k) 0).set k u = ds.take (k + 1) ++ List.replicate (n - (k + 1)) 0 := fill_next hk hl h

set_option maxRecDepth 100000 in
set_option maxHeartbeats 2000000 in
theorem rodsOf_yes (A A' : Option Addr) (n c c' : Nat) (ds : List Int) (w : World) (hx : Ints w w.heap.size A n (HiL ds)) (hy : Ints w w.heap.size A' n (LoL ds)) (hds : Fr.Digs ds) (h1 : 1 ≤ n) (h6 : n ≤ 6) :
    Calls Tryd.prog 10 #[.agg #[.slice A n c, .slice A' n c']] w fun e w' => (∃ g h, e = .returned (.tuple #[.pointer (some ⟨g, 0, none⟩), .bool true]) ∧ Rods w' w.heap.size g h ds) ∧ Below w.heap.size w w' := by
  have hl : ds.length = n := by have := hx.len; rwa [HiL_length] at this
  have HX := Lib.hid hx
  have HY := Lib.hid hy
  have HD := Lib.hid hds
  have HL := Lib.hid hl
  clear hx hy hds hl
  go_enter Tryd.func10, Tryd.ntmps10
  go_wp2_with (refine wpList_make_rods rfl _ _ rfl rfl rfl (by omega) ?_; intro w1 hm1 hg1)
  have hsz1 := hg1.size
  simp only [World.size_alloc] at hm1 hsz1
  have hlt1 := (Array.getElem?_eq_some_iff.1 hm1).1
  have HM1 := Lib.hid hm1
  have HB1 := Lib.hid (grown_below hg1 (by simp) (by simp) : Below (w.heap.size + 1) _ w1)
  clear hm1 hg1
  have hR0 : Rods (w1.alloc (.cells #[.slice (some ⟨w.heap.size + 1, 0, none⟩) n n] 38)) w.heap.size w1.heap.size (w.heap.size + 1) (ds.take 0 ++ List.replicate (n - 0) 0) := by
    refine ⟨?_, ?_, by omega, by omega, by omega⟩
    · rw [heap_alloc_new]; simp
    · rw [Below.heap_alloc _ _ _ (by omega), HM1.out]; simp
  have hX0 := ((Box.new w (.slice A n c) (.slice A' n c')).keep (HB1.out.block w.heap.size (Nat.lt_succ_self _))).alloc (.cells #[.slice (some ⟨w.heap.size + 1, 0, none⟩) n n] 38)
  have hB0 := (((Below.refl w.heap.size w).alloc (Nat.le_refl _) (.cells #[.slice A n c, .slice A' n c'] 25)).trans (HB1.out.mono (Nat.le_succ _))).alloc (by omega) (.cells #[.slice (some ⟨w.heap.size + 1, 0, none⟩) n n] 38)
  have HR0 := Lib.hid hR0
  have HX0 := Lib.hid hX0
  have HB0 := Lib.hid hB0
  clear hR0 hX0 hB0 HM1 HB1
  go_loopw [31] (fun i wr => ∃ k : Nat, k ≤ n ∧ i = .int .i64 (k : Int) ∧ Box wr w.heap.size (.slice A n c) (.slice A' n c') ∧ Rods wr w.heap.size w1.heap.size (w.heap.size + 1) (ds.take k ++ List.replicate (n - k) 0) ∧ Below w.heap.size w wr) (fun i _ => n - (intOf i).toNat)
  case atStart => exact ⟨0, by omega, rfl, HX0.out, HR0.out, HB0.out⟩
  case round =>
    clear HX0 HR0 HB0
    obtain ⟨k, hk, rfl, hbox, hrods, hbel⟩ := hrel
    have hln : (ds.take k ++ List.replicate (n - k) 0).length = n := by have := HL.out; simp; omega
    have hsl := hrods.slice
    rw [hln] at hsl
    have hb0 := hbox.fst
    have hb1 := hbox.snd
    have hszr := hbel.size
    have HBX := Lib.hid hbox
    have HR := Lib.hid hrods
    have HB := Lib.hid hbel
    have HLN := Lib.hid hln
    clear hbox hrods hbel hln
    by_cases hlt : k < n
    · obtain ⟨b2, off2, u2, rfl, hlb2, hu2, hc2⟩ := (HX.out.below HB.out).at_ hlt
      obtain ⟨d, hd, rfl⟩ := HiL_get hu2
      obtain ⟨b3, off3, u3, rfl, hlb3, hu3, hc3⟩ := (HY.out.below HB.out).at_ hlt
      rw [LoL_get hd] at hu3
      obtain rfl : d % 5 = u3 := by simpa using hu3
      have hdd := HD.out d (List.mem_of_getElem? hd)
      have hi0 : 0 ≤ d / 5 ∧ d / 5 ≤ 1 ∧ 0 ≤ d % 5 ∧ d % 5 ≤ 4 := by omega
      obtain ⟨hi0, hi1, lo0, lo1⟩ := hi0
      have hold : (ds.take k ++ List.replicate (n - k) 0)[k]? = some 0 := fill_at hlt HL.out
      have hch := HR.out.hi hold
      have hcl := HR.out.lo hold
      have hf0 := HR.out.free (k * 2)
      have hf1 := HR.out.free (k * 2 + 1)
      have HDD := Lib.hid hd
      clear hu2 hu3 hd hold hdd
      have k0 : (0 : Int) ≤ (k : Int) := by omega
      have k1 : (k : Int) < (n : Int) := by omega
      go_wp2_with fail
      go_still_tail 14, (by kernel_rfl)
      change wpList _ _ _ _ _ wr.drew
      go_wp2
      go_roundw
      case rel =>
        refine ⟨k + 1, by omega, by go_num, HBX.out.keep ?_, ?_, ((HB.out.setCell (p := ⟨w.heap.size + 1, k * 2, none⟩) (by simp) _).setCell (p := ⟨w.heap.size + 1, k * 2 + 1, none⟩) (by simp) _).drew⟩
        · exact (heap_setCell_other _ ⟨w.heap.size + 1, k * 2 + 1, none⟩ w.heap.size _ (by simp)).trans (heap_setCell_other _ ⟨w.heap.size + 1, k * 2, none⟩ w.heap.size _ (by simp))
        · rw [← fill_next hlt HL.out HDD.out]
          exact HR.out.set_ (by rw [HLN.out]; exact hlt) d
      case measure => simp [intOf]; omega
    · go_wp2
      go_ret2
      obtain rfl : k = n := by omega
      refine ⟨⟨w1.heap.size, w.heap.size + 1, rfl, ?_⟩, HB.out⟩
      have := HR.out
      rwa [Nat.sub_self, List.replicate_zero, List.append_nil, List.take_of_length_le (by have := HL.out; omega)] at this

/-- a frame that shows digits -/
def FrOk (hs ls : List Int) : Prop := ∃ ds, Fr.Digs ds ∧ hs = HiL ds ∧ ls = LoL ds ∧ 1 ≤ ds.length ∧ ds.length ≤ 6
theorem FrOk_of : ∀ (hs ls : List Int), hs.length = ls.length → (∀ (k : Nat) (h l : Int), hs[k]? = some h → ls[k]? = some l → 0 ≤ h ∧ h ≤ 1 ∧ 0 ≤ l ∧ l ≤ 4) → ∃ ds, Fr.Digs ds ∧ hs = HiL ds ∧ ls = LoL ds := by
  intro hs
  induction hs with
  | nil =>
    intro ls hl _
    cases ls with
    | nil => exact ⟨[], by simp [Fr.Digs], rfl, rfl⟩
    | cons => simp at hl
  | cons h hs ih =>
    intro ls hl hk
    cases ls with
    | nil => simp at hl
    | cons l ls =>
      obtain ⟨ds, h1, h2, h3⟩ := ih ls (by simpa using hl) (fun k a b ha hb => hk (k + 1) a b (by simpa using ha) (by simpa using hb))
      have := hk 0 h l rfl rfl
      refine ⟨(5 * h + l) :: ds, (Fr.digs_cons _ _).2 ⟨by omega, h1⟩, ?_, ?_⟩
      · rw [HiL, List.map_cons, ← HiL, ← h2, show (5 * h + l) / 5 = h from by omega]
      · rw [LoL, List.map_cons, ← LoL, ← h3, show (5 * h + l) % 5 = l from by omega]
theorem FrOk_of' {hs ls : List Int} {n : Nat} (h1 : hs.length = n) (h2 : ls.length = n) (h3 : 1 ≤ n) (h4 : n ≤ 6) (h : ∀ k : Nat, k < n → ∀ a b : Int, hs[k]? = some a → ls[k]? = some b → 0 ≤ a ∧ a ≤ 1 ∧ 0 ≤ b ∧ b ≤ 4) : FrOk hs ls := by
  obtain ⟨ds, a, b, c⟩ := FrOk_of hs ls (by omega) (fun k x y hx hy => h k (by have := (List.getElem?_eq_some_iff.1 hx).1; omega) x y hx hy)
  have : ds.length = n := by rw [← HiL_length, ← b, h1]
  exact ⟨ds, a, b, c, by omega, by omega⟩

/-- rods whatever they show -/
def RodsAny (w : World) (g h n : Nat) : Prop :=
  w.heap[g]? = some (.cells #[.slice (some ⟨h, 0, none⟩) n n] 38 (0, 0)) ∧ ∃ cs : Array Value, cs.size = 2 * n ∧ w.heap[h]? = some (.cells cs 41 (0, 0))
theorem RodsAny.set_ {w : World} {g h n : Nat} (r : RodsAny w g h n) (hne : g ≠ h) (j k : Nat) (u v : Value) : RodsAny ((w.setCell ⟨h, j, none⟩ u).setCell ⟨h, k, none⟩ v) g h n := by
  obtain ⟨h1, cs, hs, h2⟩ := r
  refine ⟨(heap_setCell_other _ ⟨h, k, none⟩ g _ hne).trans ((heap_setCell_other _ ⟨h, j, none⟩ g _ hne).trans h1), _, ?_, heap_setCell_same _ h k _ _ v (heap_setCell_same w h j _ _ u h2)⟩
  simp [hs]

set_option maxRecDepth 100000 in
set_option maxHeartbeats 2000000 in
theorem rodsOf_no (A A' : Option Addr) (n m c c' : Nat) (hs ls : List Int) (w : World) (hx : Ints w w.heap.size A n hs) (hy : Ints w w.heap.size A' m ls) (hno : ¬ FrOk hs ls) :
    Calls Tryd.prog 10 #[.agg #[.slice A n c, .slice A' m c']] w fun e w' => e = .returned (.tuple #[.pointer none, .bool false]) ∧ Below w.heap.size w w' := by
  have hlx := hx.len
  have hly := hy.len
  have HX := Lib.hid hx
  have HY := Lib.hid hy
  have HN := Lib.hid hno
  have HLX := Lib.hid hlx
  have HLY := Lib.hid hly
  clear hx hy hno hlx hly
  by_cases hnm : n = m
  · subst hnm
    by_cases h16 : 1 ≤ n ∧ n ≤ 6
    · obtain ⟨h1, h6⟩ := h16
      go_enter Tryd.func10, Tryd.ntmps10
      go_wp2_with (refine wpList_make_rods rfl _ _ rfl rfl rfl (by omega) ?_; intro w1 hm1 hg1)
      have hsz1 := hg1.size
      simp only [World.size_alloc] at hm1 hsz1
      have hlt1 := (Array.getElem?_eq_some_iff.1 hm1).1
      have HM1 := Lib.hid hm1
      have HB1 := Lib.hid (grown_below hg1 (by simp) (by simp) : Below (w.heap.size + 1) _ w1)
      clear hm1 hg1
      have hR0 : RodsAny (w1.alloc (.cells #[.slice (some ⟨w.heap.size + 1, 0, none⟩) n n] 38)) w1.heap.size (w.heap.size + 1) n := by
        refine ⟨heap_alloc_new _ _, _, ?_, (Below.heap_alloc _ _ _ (by omega)).trans HM1.out⟩
        simp [RC_length]
      have hX0 := ((Box.new w (.slice A n c) (.slice A' n c')).keep (HB1.out.block w.heap.size (Nat.lt_succ_self _))).alloc (.cells #[.slice (some ⟨w.heap.size + 1, 0, none⟩) n n] 38)
      have hB0 := (((Below.refl w.heap.size w).alloc (Nat.le_refl _) (.cells #[.slice A n c, .slice A' n c'] 25)).trans (HB1.out.mono (Nat.le_succ _))).alloc (by omega) (.cells #[.slice (some ⟨w.heap.size + 1, 0, none⟩) n n] 38)
      have HR0 := Lib.hid hR0
      have HX0 := Lib.hid hX0
      have HB0 := Lib.hid hB0
      clear hR0 hX0 hB0 HM1 HB1
      go_loopw [31] (fun i wr => ∃ k : Nat, k ≤ n ∧ i = .int .i64 (k : Int) ∧ Box wr w.heap.size (.slice A n c) (.slice A' n c') ∧ RodsAny wr w1.heap.size (w.heap.size + 1) n ∧ Below w.heap.size w wr ∧ (∀ j, j < k → ∀ a b, hs[j]? = some a → ls[j]? = some b → 0 ≤ a ∧ a ≤ 1 ∧ 0 ≤ b ∧ b ≤ 4)) (fun i _ => n - (intOf i).toNat)
      case atStart => exact ⟨0, by omega, rfl, HX0.out, HR0.out, HB0.out, fun j hj => absurd hj (Nat.not_lt_zero j)⟩
      case round =>
        clear HX0 HR0 HB0
        obtain ⟨k, hk, rfl, hbox, hrods, hbel, hall⟩ := hrel
        have hsl := cell_of_row wr w1.heap.size 0 _ _ _ hrods.1
        simp only [List.getElem?_toArray, List.getElem?_cons_zero] at hsl
        have hb0 := hbox.fst
        have hb1 := hbox.snd
        have hszr := hbel.size
        have HBX := Lib.hid hbox
        have HR := Lib.hid hrods
        have HB := Lib.hid hbel
        have HA := Lib.hid hall
        clear hbox hrods hbel hall
        by_cases hlt : k < n
        · obtain ⟨b2, off2, u2, rfl, hlb2, hu2, hc2⟩ := (HX.out.below HB.out).at_ hlt
          obtain ⟨b3, off3, u3, rfl, hlb3, hu3, hc3⟩ := (HY.out.below HB.out).at_ hlt
          obtain ⟨-, cs, hcs, hh⟩ := HR.out
          have hch := cell_of_row wr (w.heap.size + 1) (k * 2) _ _ _ hh
          have hcl := cell_of_row wr (w.heap.size + 1) (k * 2 + 1) _ _ _ hh
          rw [Array.getElem?_eq_getElem (by omega)] at hch hcl
          generalize cs[k * 2]'(by omega) = x2 at hch
          generalize cs[k * 2 + 1]'(by omega) = x3 at hcl
          have hf0 : wr.frozen? ⟨w.heap.size + 1, k * 2, none⟩ = false := by simp [World.frozen?, hh]
          have hf1 : wr.frozen? ⟨w.heap.size + 1, k * 2 + 1, none⟩ = false := by simp [World.frozen?, hh]
          have HU2 := Lib.hid hu2
          have HU3 := Lib.hid hu3
          clear hu2 hu3 hh hcs
          have k0 : (0 : Int) ≤ (k : Int) := by omega
          have k1 : (k : Int) < (n : Int) := by omega
          by_cases hgood : 0 ≤ u2 ∧ u2 ≤ 1 ∧ 0 ≤ u3 ∧ u3 ≤ 4
          · obtain ⟨hi0, hi1, lo0, lo1⟩ := hgood
            go_wp2_with fail
            go_still_tail 14, (by kernel_rfl)
            change wpList _ _ _ _ _ wr.drew
            go_wp2
            go_roundw
            case rel =>
              refine ⟨k + 1, by omega, by go_num, HBX.out.keep ?_, ?_, ((HB.out.setCell (p := ⟨w.heap.size + 1, k * 2, none⟩) (by simp) _).setCell (p := ⟨w.heap.size + 1, k * 2 + 1, none⟩) (by simp) _).drew, ?_⟩
              · exact (heap_setCell_other _ ⟨w.heap.size + 1, k * 2 + 1, none⟩ w.heap.size _ (by simp)).trans (heap_setCell_other _ ⟨w.heap.size + 1, k * 2, none⟩ w.heap.size _ (by simp))
              · exact HR.out.set_ (by omega) _ _ _ _
              · intro j hj a b ha hb
                rcases (show j < k ∨ j = k from by omega) with h | rfl
                · exact HA.out j h a b ha hb
                · rw [HU2.out] at ha
                  rw [HU3.out] at hb
                  injection ha with ha
                  injection hb with hb
                  subst ha
                  subst hb
                  exact ⟨hi0, hi1, lo0, lo1⟩
            case measure => simp [intOf]; omega
          · rcases (show u2 < 0 ∨ (0 ≤ u2 ∧ 1 < u2) ∨ (0 ≤ u2 ∧ u2 ≤ 1 ∧ u3 < 0) ∨ (0 ≤ u2 ∧ u2 ≤ 1 ∧ 0 ≤ u3 ∧ 4 < u3) from by omega) with q1 | ⟨q1, q2⟩ | ⟨q1, q2, q3⟩ | ⟨q1, q2, q3, q4⟩
            all_goals
              clear hgood
              go_wp2_with fail
              go_still_tail 14, (by kernel_rfl)
              change wpList _ _ _ _ _ wr.drew
              go_wp2
              go_ret2
              exact ⟨rfl, ((HB.out.setCell (p := ⟨w.heap.size + 1, k * 2, none⟩) (by simp) _).setCell (p := ⟨w.heap.size + 1, k * 2 + 1, none⟩) (by simp) _).drew⟩
        · exfalso
          obtain rfl : k = n := by omega
          exact HN.out (FrOk_of' HLX.out HLY.out h1 h6 HA.out)
    · rcases (show n < 1 ∨ (1 ≤ n ∧ 6 < n) from by omega) with q1 | ⟨q1, q2⟩
      all_goals
        clear h16
        go_enter Tryd.func10, Tryd.ntmps10
        go_wp2
        go_ret2
        exact ⟨rfl, (Below.refl _ _).alloc (Nat.le_refl _) _⟩
  · have hne : ((n : Int) != (m : Int)) = true := by simp; omega
    clear hnm
    go_enter Tryd.func10, Tryd.ntmps10
    go_wp2
    go_ret2
    exact ⟨rfl, (Below.refl _ _).alloc (Nat.le_refl _) _⟩
end Go.Proofs.YtpaepdlkjblfgaaDoor
