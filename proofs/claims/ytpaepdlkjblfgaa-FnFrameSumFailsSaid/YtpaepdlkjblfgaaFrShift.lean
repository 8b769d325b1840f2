/-
  A frame is shifted; the frame of a value.
-/
import Derived.Test.YtpaepdlkjblfgaaFrFns2
import Derived.Deep.RegionLaw
import Derived.Laws.CopyOwn
namespace Go.Proofs.Ytpaepdlkjblfgaa
open Go.RowKit

/-- the digits on the next rod -/
def shiftL (ds : List Int) : List Int := 0 :: ds.take (ds.length - 1)
def okS (ds : List Int) : Bool := decide (ds.getD (ds.length - 1) 0 = 0)
theorem shiftL_length {ds : List Int} (h : 1 ≤ ds.length) : (shiftL ds).length = ds.length := by simp [shiftL]; omega
theorem digs_shift {ds : List Int} (h : Fr.Digs ds) : Fr.Digs (shiftL ds) := by
  intro d hd
  rcases List.mem_cons.1 hd with rfl | hd
  · omega
  · exact h d (List.mem_of_mem_take hd)

theorem RC_append (l r : List Int) : RC (l ++ r) = RC l ++ RC r := by
  induction l with
  | nil => rfl
  | cons a l ih => simp [RC, ih]
theorem RC_one (l : List Int) : ∀ v ∈ RC l, v.oneCell' = true := by
  induction l with
  | nil => intro v h; simp [RC] at h
  | cons a l ih =>
    intro v h
    simp only [RC, List.mem_cons] at h
    rcases h with rfl | rfl | h
    · rfl
    · rfl
    · exact ih v h
theorem grown_setRow (w : World) (g : Nat) (cs : Array Value) : w.grownBy (w.setRow g cs) (some g) :=
  ⟨rfl, rfl, rfl, by simp [World.setRow], fun k _ hne => setRow_other w g k cs (fun e => hne (by rw [e]))⟩
/-- copy(rods[1:], others) as one step of a region -/
theorem step_copy_rods {ops : Array Oper} {o : Oper} {a : Act} {w : World} {K : Act → World → Prop} {Q : Exit → Act → World → Prop} {E : Prop} (hgd : o.guard = none) (d s : Operand)
    (ho : o.op = .call { callee := .builtin .copy, args := #[d, s], argTypes := #[59, 59] })
    {g h m c c' : Nat} {ds : List Int} (hd : a.eval d = .slice (some ⟨g, 2, none⟩) m c) (hs : a.eval s = .slice (some ⟨h, 0, none⟩) (m + 1) c')
    (hg : w.heap[g]? = some (.cells (RC (List.replicate (m + 1) 0)).toArray 61 (0, 0))) (hh : w.heap[h]? = some (.cells (RC ds).toArray 61 (0, 0))) (hl : ds.length = m + 1)
    (hK : ∀ w', w'.heap[g]? = some (.cells (RC (shiftL ds)).toArray 61 (0, 0)) → w.grownBy w' (some g) → K (a.put o.dst (goInt m)) w') :
    if Region.wanted o (yielded ops a.tmps) = true then Oper.wp Try.prog o a w K Q else E := by
  rw [if_pos (by simp [Region.wanted, hgd])]
  obtain ⟨i0, hi, hz0, hz1, hz2⟩ := info_parts rod_info
  have e1 : RC ds = RC (ds.take m) ++ RC (ds.drop m) := by rw [← RC_append, List.take_append_drop]
  have el : (RC (ds.take m)).length = m * 2 := by rw [RC_length, List.length_take]; omega
  have hload := run_loadCells_list (P := Try.prog) (w := w) ⟨h, 0, none⟩ (RC (ds.take m)) (by
    intro j v hj
    rw [add_row, cell_of_row _ h j _ _ _ hh]
    simp only [List.getElem?_toArray]
    rw [e1, List.getElem?_append_left (List.getElem?_eq_some_iff.1 hj).1]; exact hj)
  have hst := run_storeCells_at Try.prog g 2 61 (RC (ds.take m)) 0 _ w hg (by simp [el, RC_length]; omega) (RC_one _)
  have hmin : Nat.min (m + 1) m = m := by simp
  have hrun : (Builtin.copy_ #[59, 59] o.type #[.slice (some ⟨g, 2, none⟩) m c, .slice (some ⟨h, 0, none⟩) (m + 1) c']).run Try.prog w = .ok (goInt m) (w.setRow g (RC (shiftL ds)).toArray) := by
    rw [el] at hload
    have e2 : (RC (List.replicate (m + 1) 0)).toArray.toList.take (2 + 0) ++ RC (ds.take m) ++ (RC (List.replicate (m + 1) 0)).toArray.toList.drop (2 + 0 + (RC (ds.take m)).length) = RC (shiftL ds) := by
      rw [List.drop_of_length_le (by simp [RC_length, el]; omega), List.append_nil, List.replicate_succ, shiftL, hl]
      simp [RC]
    rw [e2] at hst
    simp [Builtin.copy_, run_underlying Try.underlying59, Builtin.lenOf, Builtin.firstCells, sizeOf, typeInfo, hi, hz1, hmin, hload, hst]
  unfold Oper.wp
  simp [execOp, ho, resolve, invoke, builtin, hd, hs, hrun, Result.andThen]
  exact hK _ (setRow_heap w g _ _ _ _ hg) (grown_setRow w g _)
/-- copy of nothing -/
theorem step_copy_none {ops : Array Oper} {o : Oper} {a : Act} {w : World} {K : Act → World → Prop} {Q : Exit → Act → World → Prop} {E : Prop} (hgd : o.guard = none) (d s : Operand)
    (ho : o.op = .call { callee := .builtin .copy, args := #[d, s], argTypes := #[59, 59] })
    {h n c c' : Nat} {p : Addr} (hd : a.eval d = .slice (some p) 0 c) (hs : a.eval s = .slice (some ⟨h, 0, none⟩) n c')
    (hK : K (a.put o.dst (goInt (0 : Nat))) w) :
    if Region.wanted o (yielded ops a.tmps) = true then Oper.wp Try.prog o a w K Q else E := by
  rw [if_pos (by simp [Region.wanted, hgd])]
  obtain ⟨i0, hi, hz0, hz1, hz2⟩ := info_parts rod_info
  have hrun : (Builtin.copy_ #[59, 59] o.type #[.slice (some p) 0 c, .slice (some ⟨h, 0, none⟩) n c']).run Try.prog w = .ok (goInt (0 : Nat)) w := by
    simp [Builtin.copy_, run_underlying Try.underlying59, Builtin.lenOf, Builtin.firstCells, sizeOf, typeInfo, hi, loadCells, loadCellsFrom, storeCells]
  unfold Oper.wp
  simp [execOp, ho, resolve, invoke, builtin, hd, hs, hrun, Result.andThen]
  exact hK

set_option maxRecDepth 100000 in
set_option maxHeartbeats 2000000 in
theorem FrameShift_yes (A A' : Option Addr) (n c c' : Nat) (ds : List Int) (w : World) (hx : Ints w w.heap.size A n (HiL ds)) (hy : Ints w w.heap.size A' n (LoL ds)) (hds : Fr.Digs ds) (h1 : 1 ≤ n) (h6 : n ≤ 6) :
    Calls Try.prog 27 #[.agg #[.slice A n c, .slice A' n c']] w (FrPair w (okS ds) (shiftL ds)) := by
  have hl : ds.length = n := by have := hx.len; rwa [HiL_length] at this
  have HL := Lib.hid hl
  have HX := Lib.hid hx
  have HY := Lib.hid hy
  have HD := Lib.hid hds
  obtain ⟨d, hd⟩ : ∃ d, ds[n - 1]? = some d := ⟨_, List.getElem?_eq_getElem (by omega)⟩
  obtain ⟨d0, d9⟩ := hds d (List.mem_of_getElem? hd)
  have hok : okS ds = decide (d = 0) := by unfold okS; rw [hl, List.getD_eq_getElem?_getD, hd]; rfl
  rw [hok]
  have HDD := Lib.hid hd
  obtain ⟨m, rfl⟩ : ∃ m, n = m + 1 := ⟨n - 1, by omega⟩
  simp only [Nat.add_sub_cancel] at HDD
  clear hx hy hds hl hd hok
  by_cases hd0 : d = 0
  · subst hd0
    rw [decide_eq_true rfl]
    have e1 : ((m + 1 : Nat) : Int) - 1 = (m : Int) := by omega
    go_enter Try.func27, Try.ntmps27
    go_wp2_with fail
    refine (rodsOf_yes A A' _ c c' ds _ ((HX.out.al _).al _) ((HY.out.al _).al _) HD.out h1 h6).mono ?_
    rintro e w1 ⟨⟨g, h, rfl, hr⟩, hb1⟩
    have hz := ((Box.new (w.alloc (.cells #[.slice A (m + 1) c, .slice A' (m + 1) c'] 25)) (.slice none 0 0) (.slice none 0 0)).next hb1)
    have hsl := hr.slice
    rw [HL.out] at hsl
    have hz0 := hz.fst
    have hz1 := hz.snd
    have hf0 := hz.free 0
    have hf1 := hz.free 1
    simp only [World.size_alloc] at hz hz0 hz1 hf0 hf1
    have HZ := Lib.hid hz
    have HB := Lib.hid ((below_two w _ _).trans (hb1.mono (by simp; omega)))
    have HR := Lib.hid hr
    clear hz hb1 hr
    go_wp2_with fail
    refine (rod_digit HR.out HDD.out d0 d9).mono ?_
    rintro e w2 ⟨rfl, q2, rfl⟩
    have HZ2 := Lib.hid (HZ.out.drewN q2)
    have HB2 := Lib.hid (below_drewN HB.out q2)
    have HR2 := Lib.hid (HR.out.drewN q2)
    generalize w1.drewN q2 = w2 at *
    go_wp2_with (refine wpList_make_rods (n := m + 1) rfl _ _ rfl rfl rfl (by omega) ?_; intro w3 hm3 hg3)
    have hgl := HR2.out.gl
    have hhl := HR2.out.hl
    have hgb := HR2.out.2.2.2.1
    simp only [World.size_alloc] at hgb
    have hm4 := (Below.heap_alloc w3 (.cells #[.slice (some ⟨w2.heap.size, 0, none⟩) (m + 1) (m + 1)] 59) w2.heap.size (Array.getElem?_eq_some_iff.1 hm3).1).trans hm3
    have hh4 := heap_alloc_new w3 (.cells #[.slice (some ⟨w2.heap.size, 0, none⟩) (m + 1) (m + 1)] 59)
    have hb3 : Below w2.heap.size w2 (w3.alloc (.cells #[.slice (some ⟨w2.heap.size, 0, none⟩) (m + 1) (m + 1)] 59)) := (grown_below hg3 (Nat.le_refl _) (by simp)).alloc hg3.size _
    have hlt3 := (Array.getElem?_eq_some_iff.1 hm3).1
    obtain ⟨hb, hhb⟩ : ∃ hb, w3.heap.size = hb := ⟨_, rfl⟩
    rw [hhb] at hh4 hlt3
    rw [hhb]
    generalize w3.alloc (.cells #[.slice (some ⟨w2.heap.size, 0, none⟩) (m + 1) (m + 1)] 59) = W at *
    have hr4 := HR2.out.next hb3
    have hsl4 := hr4.slice
    rw [HL.out] at hsl4
    have hhc := cell_of_row W hb 0 _ _ _ hh4
    simp only [List.getElem?_toArray, List.getElem?_cons_zero] at hhc
    have HZ4 := Lib.hid (HZ2.out.next hb3)
    have HR4 := Lib.hid hr4
    have HM4 := Lib.hid hm4
    have HH4 := Lib.hid hh4
    have HB4 := Lib.hid (below_chain HB2.out hb3)
    clear hz0 hz1 hf0 hf1 hsl hm3 hg3 hb3 hm4 hh4 hr4 hhb
    by_cases hm0 : m = 0
    · subst hm0
      have hsh : shiftL ds = [0] := by have := HL.out; simp [shiftL, this]
      have hrs : Rods W (w.heap.size + 2) hb w2.heap.size (shiftL ds) := by
        rw [hsh]
        exact ⟨HH4.out, HM4.out, by omega, by omega, by omega⟩
      have hds : Fr.Digs (shiftL ds) := digs_shift HD.out
      have hll : (shiftL ds).length = 0 + 1 := by rw [shiftL_length (by have := HL.out; omega)]; exact HL.out
      have HRS := Lib.hid hrs
      have HDS := Lib.hid hds
      have HLL := Lib.hid hll
      clear hrs hds hll hsh
      go_region_law (refine step_copy_none rfl _ _ rfl rfl rfl ?_)
      all_goals
        go_wp2_with fail
        refine (frame_any _ _ hb w2.heap.size (shiftL ds) _ (HRS.out.drewN 1) HLL.out HDS.out h6).mono ?_
        rintro e w6 ⟨⟨v, rfl, ho⟩, hb6⟩
        have hos := ho.mono (show w.heap.size + 2 ≤ _ by have := HRS.out.hl; simp; omega)
        obtain ⟨A2, c2, A3, c3, rfl, -⟩ := ho
        have HO := Lib.hid hos
        have HZ6 := Lib.hid ((HZ4.out.drewN 1).next hb6)
        have z0 := HZ6.out.fst
        have z1 := HZ6.out.snd
        have f0 := HZ6.out.free 0
        have f1 := HZ6.out.free 1
        have HB6 := Lib.hid (below_chain (below_drewN HB4.out 1) hb6)
        clear hb6 hos
        go_wp2
        refine bodyPost_ret (v := .tuple #[.agg #[.slice A2 (shiftL ds).length c2, .slice A3 (shiftL ds).length c3], .bool true]) (by simp [results, Try.results27, go_sem, over_fst HZ6.out, over_snd HZ6.out]) rfl ⟨⟨_, rfl, ?_⟩, below_over HB6.out (by omega) _ _⟩
        exact (HO.out.over (by omega) _ _).mono (by omega)
    · have hmc : ¬ (m + 1 = 1) := by omega
      have hme : ¬ (1 = m + 1) := by omega
      have m1 : (1 : Int) ≤ (m : Int) + 1 := by omega
      have m2 : 1 ≤ m + 1 := by omega
      go_region_law (refine step_copy_rods rfl _ _ rfl rfl rfl HM4.out HR4.out.2.1 HL.out ?_; intro w5 hm5 hg5)
      all_goals
        have hrs : Rods w5 (w.heap.size + 2) hb w2.heap.size (shiftL ds) := by
          refine ⟨?_, hm5, by omega, by omega, by omega⟩
          rw [hg5.block hb (by have := (Array.getElem?_eq_some_iff.1 HH4.out).1; exact this) (by intro e; injection e with e; omega), shiftL_length (by have := HL.out; omega), HL.out]
          exact HH4.out
        have hds : Fr.Digs (shiftL ds) := digs_shift HD.out
        have hll : (shiftL ds).length = m + 1 := by rw [shiftL_length (by have := HL.out; omega)]; exact HL.out
        have HRS := Lib.hid hrs
        have HDS := Lib.hid hds
        have HLL := Lib.hid hll
        have HZ5 := Lib.hid (HZ4.out.grown (grown_undrewN (q := 1) hg5) (by intro e; injection e with e; omega))
        have HB5 := Lib.hid (HB4.out.grown (grown_undrewN (q := 1) hg5) HB4.out.size (by rintro q ⟨⟩; omega))
        clear hrs hds hll hm5 hg5
        go_wp2_with fail
        refine (frame_any _ _ hb w2.heap.size (shiftL ds) _ HRS.out HLL.out HDS.out h6).mono ?_
        rintro e w6 ⟨⟨v, rfl, ho⟩, hb6⟩
        have hos := ho.mono (show w.heap.size + 2 ≤ _ by have := HRS.out.hl; omega)
        obtain ⟨A2, c2, A3, c3, rfl, -⟩ := ho
        have HO := Lib.hid hos
        have HZ6 := Lib.hid (HZ5.out.next hb6)
        have z0 := HZ6.out.fst
        have z1 := HZ6.out.snd
        have f0 := HZ6.out.free 0
        have f1 := HZ6.out.free 1
        have HB6 := Lib.hid (below_chain HB5.out hb6)
        clear hb6 hos
        go_wp2
        refine bodyPost_ret (v := .tuple #[.agg #[.slice A2 (shiftL ds).length c2, .slice A3 (shiftL ds).length c3], .bool true]) (by simp [results, Try.results27, go_sem, over_fst HZ6.out, over_snd HZ6.out]) rfl ⟨⟨_, rfl, ?_⟩, below_over HB6.out (by omega) _ _⟩
        exact (HO.out.over (by omega) _ _).mono (by omega)
  · have hdn : (d != 0) = true := by simpa using hd0
    rw [decide_eq_false hd0]
    have e1 : ((m + 1 : Nat) : Int) - 1 = (m : Int) := by omega
    go_enter Try.func27, Try.ntmps27
    go_wp2_with fail
    refine (rodsOf_yes A A' _ c c' ds _ ((HX.out.al _).al _) ((HY.out.al _).al _) HD.out h1 h6).mono ?_
    rintro e w1 ⟨⟨g, h, rfl, hr⟩, hb1⟩
    have hz := ((Box.new (w.alloc (.cells #[.slice A (m + 1) c, .slice A' (m + 1) c'] 25)) (.slice none 0 0) (.slice none 0 0)).next hb1)
    have hsl := hr.slice
    rw [HL.out] at hsl
    have hz0 := hz.fst
    have hz1 := hz.snd
    have hf0 := hz.free 0
    have hf1 := hz.free 1
    simp only [World.size_alloc] at hz hz0 hz1 hf0 hf1
    have HZ := Lib.hid hz
    have HB := Lib.hid ((below_two w _ _).trans (hb1.mono (by simp; omega)))
    have HR := Lib.hid hr
    clear hz hb1 hr
    go_wp2_with fail
    refine (rod_digit HR.out HDD.out d0 d9).mono ?_
    rintro e w2 ⟨rfl, q2, rfl⟩
    have HZ2 := Lib.hid (HZ.out.drewN q2)
    have HB2 := Lib.hid (below_drewN HB.out q2)
    generalize w1.drewN q2 = w2 at *
    have z20 := HZ2.out.fst
    have z21 := HZ2.out.snd
    have f20 := HZ2.out.free 0
    have f21 := HZ2.out.free 1
    go_wp2
    exact bodyPost_ret (v := .tuple #[.agg #[.slice none 0 0, .slice none 0 0], .bool false]) (by simp [results, Try.results27, go_sem, over_fst HZ2.out, over_snd HZ2.out]) rfl (FrPair.no (below_over HB2.out (by omega) _ _))

set_option maxRecDepth 100000 in
set_option maxHeartbeats 2000000 in
theorem FrameShift_no (A A' : Option Addr) (n m c c' : Nat) (hs ls : List Int) (w : World) (hx : Ints w w.heap.size A n hs) (hy : Ints w w.heap.size A' m ls) (hno : ¬ FrOk hs ls) :
    Calls Try.prog 27 #[.agg #[.slice A n c, .slice A' m c']] w (FrPair w false []) := by
  have HX := Lib.hid hx
  have HY := Lib.hid hy
  have HN := Lib.hid hno
  clear hx hy hno
  go_enter Try.func27, Try.ntmps27
  go_wp2_with fail
  refine (rodsOf_no A A' n m c c' hs ls _ ((HX.out.al _).al _) ((HY.out.al _).al _) HN.out).mono ?_
  rintro e w1 ⟨rfl, hb1⟩
  have hz := ((Box.new (w.alloc (.cells #[.slice A n c, .slice A' m c'] 25)) (.slice none 0 0) (.slice none 0 0)).next hb1)
  have hz0 := hz.fst
  have hz1 := hz.snd
  have hf0 := hz.free 0
  have hf1 := hz.free 1
  simp only [World.size_alloc] at hz hz0 hz1 hf0 hf1
  have HZ := Lib.hid hz
  have HB := Lib.hid ((below_two w _ _).trans (hb1.mono (by simp; omega)))
  clear hz hb1
  go_wp2
  exact bodyPost_ret (v := .tuple #[.agg #[.slice none 0 0, .slice none 0 0], .bool false]) (by simp [results, Try.results27, go_sem, over_fst HZ.out, over_snd HZ.out]) rfl (FrPair.no (below_over HB.out (by omega) _ _))

/-- the digits of a value -/
def quoK (v : Int) : Nat → Int
  | 0 => v
  | k + 1 => quoK v k / 10
def digitsOf (n : Nat) (v : Int) : List Int := (List.range n).map fun k => quoK v k % 10
theorem digitsOf_length (n : Nat) (v : Int) : (digitsOf n v).length = n := by simp [digitsOf]
theorem digitsOf_get {n k : Nat} (v : Int) (h : k < n) : (digitsOf n v)[k]? = some (quoK v k % 10) := by simp [digitsOf, h]
theorem digs_digitsOf (n : Nat) (v : Int) : Fr.Digs (digitsOf n v) := by
  intro d hd
  simp only [digitsOf, List.mem_map] at hd
  obtain ⟨k, _, rfl⟩ := hd
  exact ⟨Int.emod_nonneg _ (by omega), by have := Int.emod_lt_of_pos (quoK v k) (b := 10) (by omega); omega⟩
theorem quoK_in {v : Int} (h : 0 ≤ v) (k : Nat) : 0 ≤ quoK v k ∧ quoK v k ≤ v := by
  induction k with
  | zero => exact ⟨h, Int.le_refl _⟩
  | succ k ih => simp only [quoK]; omega
theorem quoK_div (v : Int) (k : Nat) : quoK (v / 10) k = quoK v (k + 1) := by
  induction k with
  | zero => rfl
  | succ k ih => rw [quoK, ih]; rfl
theorem digitsOf_succ (n : Nat) (v : Int) : digitsOf (n + 1) v = (v % 10) :: digitsOf n (v / 10) := by
  unfold digitsOf
  rw [List.range_succ_eq_map, List.map_cons, List.map_map]
  congr 1
  apply List.map_congr_left
  intro k _
  show quoK v (k + 1) % 10 = quoK (v / 10) k % 10
  rw [quoK_div]
theorem val_digitsOf (n : Nat) : ∀ v, 0 ≤ v → v < Fr.ten n → Fr.val (digitsOf n v) = v := by
  induction n with
  | zero => intro v h0 h1; have : Fr.ten 0 = 1 := rfl; simp [digitsOf, Fr.val]; omega
  | succ n ih =>
    intro v h0 h1
    rw [Fr.ten_succ] at h1
    rw [digitsOf_succ, Fr.val, ih (v / 10) (by omega) (by omega)]
    omega
def okOf (n v : Int) : Bool := decide (1 ≤ n) && decide (n ≤ 6) && (decide (0 ≤ v) && decide (v < Fr.ten n.toNat))

set_option maxRecDepth 100000 in
set_option maxHeartbeats 2000000 in
theorem FrameOf_yes (n : Nat) (v : Int) (w : World) (h1 : 1 ≤ n) (h6 : n ≤ 6) (v0 : 0 ≤ v) (v1 : v < Fr.ten n) :
    Calls Try.prog 21 #[.int .i64 (n : Int), .int .i64 v] w (FrPair w true (digitsOf n v)) := by
  have hten := ten_bd n h6
  obtain ⟨T, hT⟩ : ∃ T, Fr.ten n = T := ⟨_, rfl⟩
  rw [hT] at hten v1
  obtain ⟨t0, t1⟩ := hten
  have HT := Lib.hid hT
  clear hT
  have hpow : ∀ u, Calls Try.prog 56 #[.int .i64 (n : Int)] u fun e w' => e = .returned (.int .i64 T) ∧ u = w' := fun u => by rw [← HT.out]; exact powerOfTen_any n u h6
  have HP := Lib.hid hpow
  have HZ := Lib.hid (Box.new w (.slice none 0 0) (.slice none 0 0))
  have HB := Lib.hid ((Below.refl w.heap.size w).alloc (Nat.le_refl _) (.cells #[.slice none 0 0, .slice none 0 0] 25))
  clear hpow
  go_enter Try.func21, Try.ntmps21
  go_wp2_with fail
  refine (HP.out _).mono ?_
  rintro e w2 ⟨rfl, rfl⟩
  go_wp2_with (refine wpList_make_rods (n := n) rfl _ _ rfl rfl rfl (by omega) ?_; intro w3 hm3 hg3)
  simp only [World.size_alloc] at hm3
  have hm4 := (Below.heap_alloc w3 (.cells #[.slice (some ⟨w.heap.size + 1, 0, none⟩) n n] 59) (w.heap.size + 1) (Array.getElem?_eq_some_iff.1 hm3).1).trans hm3
  have hh4 := heap_alloc_new w3 (.cells #[.slice (some ⟨w.heap.size + 1, 0, none⟩) n n] 59)
  have hb3 : Below (w.heap.size + 1) (w.alloc (.cells #[.slice none 0 0, .slice none 0 0] 25)) (w3.alloc (.cells #[.slice (some ⟨w.heap.size + 1, 0, none⟩) n n] 59)) := (grown_below hg3 (by simp) (by simp)).alloc (by have := hg3.size; simpa using this) _
  have hlt3 := (Array.getElem?_eq_some_iff.1 hm3).1
  obtain ⟨hb, hhb⟩ : ∃ hb, w3.heap.size = hb := ⟨_, rfl⟩
  rw [hhb] at hh4 hlt3
  rw [hhb]
  generalize w3.alloc (.cells #[.slice (some ⟨w.heap.size + 1, 0, none⟩) n n] 59) = W at *
  have hr0 : Rods W (w.heap.size + 1) hb (w.heap.size + 1) ((digitsOf n v).take 0 ++ List.replicate (n - 0) 0) := ⟨by simpa using hh4, by simpa using hm4, by omega, by omega, by omega⟩
  have HZ4 := Lib.hid (HZ.out.keep (hb3.block _ (Nat.lt_succ_self _)))
  have HB4 := Lib.hid (HB.out.trans (hb3.mono (Nat.le_succ _)))
  have HR4 := Lib.hid hr0
  have HG4 := Lib.hid (World.grownBy.refl W (some (w.heap.size + 1)))
  have hsl4 := hr0.slice
  have hln0 : ((digitsOf n v).take 0 ++ List.replicate (n - 0) 0 : List Int).length = n := by simp
  rw [hln0] at hsl4
  clear hln0
  clear hm3 hg3 hb3 hm4 hh4 hr0 hhb
  go_wp2
  go_loopw [1, 29] (fun vv kv wr => ∃ (k : Nat) (u : Int), vv = .int .i64 u ∧ kv = .int .i64 (k : Int) ∧ k ≤ n ∧ u = quoK v k ∧ Rods wr (w.heap.size + 1) hb (w.heap.size + 1) ((digitsOf n v).take k ++ List.replicate (n - k) 0) ∧ W.grownBy wr (some (w.heap.size + 1))) (fun _ kv _ => n - (intOf kv).toNat)
  case atStart => exact ⟨0, v, rfl, rfl, by omega, rfl, HR4.out, HG4.out⟩
  case round =>
    clear HR4 HG4 hsl4
    obtain ⟨k, u, rfl, rfl, hk, hu, hr, hg⟩ := hrel
    have hln : ((digitsOf n v).take k ++ List.replicate (n - k) 0).length = n := by have := digitsOf_length n v; simp; omega
    have hsl := hr.slice
    rw [hln] at hsl
    have hub := quoK_in v0 k
    rw [← hu] at hub
    obtain ⟨u0, u1⟩ := hub
    have HU := Lib.hid hu
    have HR := Lib.hid hr
    have HG := Lib.hid hg
    have HLN := Lib.hid hln
    have HZ5 := Lib.hid (HZ4.out.grown hg (by intro e; injection e with e; omega))
    have HB5 := Lib.hid (HB4.out.grown hg HB4.out.size (by rintro q ⟨⟩; omega))
    have hws := HB5.out.size
    clear hr hg hln hu
    by_cases hlt : k < n
    · have hold : ((digitsOf n v).take k ++ List.replicate (n - k) 0)[k]? = some 0 := fill_at hlt (digitsOf_length n v)
      have hnx := fill_next hlt (digitsOf_length n v) (digitsOf_get v hlt)
      rw [← HU.out] at hnx
      have m0 : 0 ≤ u % 10 := Int.emod_nonneg u (by omega)
      have m9 : u % 10 ≤ 9 := by have := Int.emod_lt_of_pos u (b := 10) (by omega); omega
      have HO := Lib.hid hold
      have HNX := Lib.hid hnx
      clear hold hnx
      have k0 : (0 : Int) ≤ (k : Int) := by omega
      have k1 : (k : Int) < (n : Int) := by omega
      go_wp2_with fail
      refine (show_any _ _ hb (w.heap.size + 1) _ k 0 (u % 10) HR.out HO.out m0 m9).mono ?_
      rintro e w5 ⟨rfl, hr5, hg5⟩
      rw [HNX.out] at hr5
      have HR5 := Lib.hid hr5
      have HG5 := Lib.hid (HG.out.trans hg5)
      clear hr5 hg5
      go_wp2
      go_roundw
      case rel => exact ⟨k + 1, u / 10, by go_num, by go_num, by omega, by rw [quoK, ← HU.out], HR5.out, HG5.out⟩
      case measure => simp [intOf]; omega
    · obtain rfl : k = n := by omega
      have hr := HR.out
      rw [Nat.sub_self, List.replicate_zero, List.append_nil, List.take_of_length_le (by rw [digitsOf_length]; omega)] at hr
      have HR6 := Lib.hid hr
      clear hr
      go_wp2_with fail
      refine (frame_any wr _ hb (w.heap.size + 1) (digitsOf k v) k HR6.out (digitsOf_length k v) (digs_digitsOf k v) h6).mono ?_
      rintro e w6 ⟨⟨x, rfl, ho⟩, hb6⟩
      have hos := ho.mono (show w.heap.size + 1 ≤ _ by have := HR6.out.hl; omega)
      obtain ⟨A2, c2, A3, c3, rfl, -⟩ := ho
      have HO := Lib.hid hos
      have HZ6 := Lib.hid (HZ5.out.next hb6)
      have z0 := HZ6.out.fst
      have z1 := HZ6.out.snd
      have f0 := HZ6.out.free 0
      have f1 := HZ6.out.free 1
      have HB6 := Lib.hid (below_chain HB5.out hb6)
      clear hb6 hos
      go_wp2
      refine bodyPost_ret (v := .tuple #[.agg #[.slice A2 (digitsOf k v).length c2, .slice A3 (digitsOf k v).length c3], .bool true]) (by simp [results, Try.results21, go_sem, over_fst HZ6.out, over_snd HZ6.out]) rfl ⟨⟨_, rfl, ?_⟩, below_over HB6.out (by omega) _ _⟩
      exact (HO.out.over (by omega) _ _).mono (by omega)

set_option maxRecDepth 100000 in
set_option maxHeartbeats 2000000 in
theorem FrameOf_no (n v : Int) (w : World) (h : okOf n v = false) : Calls Try.prog 21 #[.int .i64 n, .int .i64 v] w (FrPair w false []) := by
  have HZ := Lib.hid (Box.new w (.slice none 0 0) (.slice none 0 0))
  have HB := Lib.hid ((Below.refl w.heap.size w).alloc (Nat.le_refl _) (.cells #[.slice none 0 0, .slice none 0 0] 25))
  have z0 := HZ.out.fst
  have z1 := HZ.out.snd
  have f0 := HZ.out.free 0
  have f1 := HZ.out.free 1
  by_cases h16 : 1 ≤ n ∧ n ≤ 6 ∧ 0 ≤ v
  · obtain ⟨h1, h6, v0⟩ := h16
    obtain ⟨k, rfl⟩ := Int.eq_ofNat_of_zero_le (show 0 ≤ n by omega)
    have hten := ten_bd k (by omega)
    obtain ⟨T, hT⟩ : ∃ T, Fr.ten k = T := ⟨_, rfl⟩
    have hv : T ≤ v := by
      rw [okOf] at h
      simp [hT] at h
      omega
    rw [hT] at hten
    obtain ⟨t0, t1⟩ := hten
    have hpow : ∀ u, Calls Try.prog 56 #[.int .i64 (k : Int)] u fun e w' => e = .returned (.int .i64 T) ∧ u = w' := fun u => by rw [← hT]; exact powerOfTen_any k u (by omega)
    have HP := Lib.hid hpow
    clear hpow h hT
    go_enter Try.func21, Try.ntmps21
    go_wp2_with fail
    refine (HP.out _).mono ?_
    rintro e w2 ⟨rfl, rfl⟩
    go_wp2
    exact bodyPost_ret (v := .tuple #[.agg #[.slice none 0 0, .slice none 0 0], .bool false]) (by simp [results, Try.results21, go_sem]) rfl (FrPair.no HB.out)
  · clear h
    rcases (show n < 1 ∨ (1 ≤ n ∧ 6 < n) ∨ (1 ≤ n ∧ n ≤ 6 ∧ v < 0) from by omega) with q1 | ⟨q1, q2⟩ | ⟨q1, q2, q3⟩
    all_goals
      clear h16
      go_enter Try.func21, Try.ntmps21
      go_wp2
      exact bodyPost_ret (v := .tuple #[.agg #[.slice none 0 0, .slice none 0 0], .bool false]) (by simp [results, Try.results21, go_sem]) rfl (FrPair.no HB.out)
end Go.Proofs.Ytpaepdlkjblfgaa
