/-
  A frame is changed at one rod.
-/
import Derived.Test.YtpaepdlkjblfgaaDoorFrAdd
import Derived.Test.YtpaepdlkjblfgaaDoorFrFrame
namespace Go.Proofs.YtpaepdlkjblfgaaDoor
open Go.RowKit

/-- what a change gives back: a frame, the pushes and whether it was done -/
def resL (R : Option (List Int × Int)) : List Int := match R with | some p => p.1 | none => []
def resN (R : Option (List Int × Int)) : Int := match R with | some p => p.2 | none => 0
def FrRes (w : World) (R : Option (List Int × Int)) (e : Ending) (w' : World) : Prop :=
  (∃ v, e = .returned (.tuple #[v, .int .i64 (resN R), .bool R.isSome]) ∧ FrOwn w' w.heap.size v (resL R)) ∧ Below w.heap.size w w'
theorem FrOwn.nil (w : World) (B : Nat) : FrOwn w B (.agg #[.slice none 0 0, .slice none 0 0]) [] :=
  ⟨none, 0, none, 0, rfl, Own.nil _ _, Own.nil _ _, (fun k hk => by cases hk), (fun k hk => by cases hk)⟩
theorem FrOwn.keep {w w' : World} {B : Nat} {v : Value} {ds : List Int} (h : FrOwn w B v ds) (hb : Below w.heap.size w w') : FrOwn w' B v ds := by
  obtain ⟨A, c, A', c', h1, h2, h3, h4, h5⟩ := h
  exact ⟨A, c, A', c', h1, h2.next hb, h3.next hb, h4, h5⟩
theorem FrOwn.mono {w : World} {B B' : Nat} {v : Value} {ds : List Int} (h : FrOwn w B v ds) (hB : B' ≤ B) : FrOwn w B' v ds := by
  obtain ⟨A, c, A', c', h1, h2, h3, h4, h5⟩ := h
  exact ⟨A, c, A', c', h1, h2.mono hB, h3.mono hB, h4, h5⟩
theorem FrOwn.row {w w' : World} {B : Nat} {v : Value} {ds : List Int} (h : FrOwn w B v ds) {r : Nat} (hg : w.grownBy w' (some r)) (hr : r < B) : FrOwn w' B v ds := by
  obtain ⟨A, c, A', c', h1, h2, h3, h4, h5⟩ := h
  exact ⟨A, c, A', c', h1, h2.kept hg (fun k hk e => by have := (h2.blk k hk).1; injection e; omega), h3.kept hg (fun k hk e => by have := (h3.blk k hk).1; injection e; omega), h4, h5⟩

theorem isDigit_any (x : Int) (w : World) : Calls Tryd.prog 22 #[.int .i64 x] w fun e w' => e = .returned (.bool (decide (0 ≤ x) && decide (x ≤ 9))) ∧ w = w' := by
  by_cases h1 : 0 ≤ x <;> by_cases h2 : x ≤ 9
  all_goals
    go_enter Tryd.func22, Tryd.ntmps22
    go_wp2
    go_ret
    exact ⟨ret_bool (by simp [h1, h2]), rfl⟩
theorem isDigit_is {x : Int} {r : Bool} (h : (decide (0 ≤ x) && decide (x ≤ 9)) = r) (w : World) : Calls Tryd.prog 22 #[.int .i64 x] w fun e w' => e = .returned (.bool r) ∧ w = w' := by
  rw [← h]; exact isDigit_any x w

/-- a digit at a rod -/
def frAt (s : Int) (ds : List Int) (k x : Int) : Option (List Int × Int) := if 0 ≤ k ∧ k < ds.length ∧ 0 ≤ x ∧ x ≤ 9 then chgAt s ds k.toNat x else none

theorem frAt_out (s : Int) (ds : List Int) (k x : Int) (h : ¬ (0 ≤ k ∧ k < ds.length ∧ 0 ≤ x ∧ x ≤ 9)) : frAt s ds k x = none := if_neg h
theorem frAt_in (s : Int) (ds : List Int) (j : Nat) (x : Int) (h1 : j < ds.length) (h2 : 0 ≤ x) (h3 : x ≤ 9) : frAt s ds (j : Int) x = chgAt s ds j x := if_pos ⟨by omega, by omega, h2, h3⟩
theorem FrRes.none_ {w w' : World} (hb : Below w.heap.size w w') : FrRes w none (.returned (.tuple #[.agg #[.slice none 0 0, .slice none 0 0], .int .i64 0, .bool false])) w' := ⟨⟨_, rfl, FrOwn.nil _ _⟩, hb⟩
theorem Box.over {w : World} {b : Nat} {u v : Value} (h : Box w b u v) (x y : Value) : Box ((w.setCell ⟨b, 0, none⟩ x).setCell ⟨b, 1, none⟩ y) b x y := by
  have e1 := heap_setCell_same w b 0 _ _ x h
  have e2 := heap_setCell_same _ b 1 _ _ y e1
  unfold Box
  rw [e2]
  simp
theorem Box.free {w : World} {b : Nat} {u v : Value} (h : Box w b u v) (j : Nat) : w.frozen? ⟨b, j, none⟩ = false := by
  unfold Box at h
  simp [World.frozen?, h]
theorem over_fst {w : World} {b : Nat} {u v : Value} (h : Box w b u v) : ∀ x, (w.setCell ⟨b, 0, none⟩ x).cell? ⟨b, 0, none⟩ = some x := fun _ => World.cell?_setCell_same _ _ _ h.fst
theorem over_snd {w : World} {b : Nat} {u v : Value} (h : Box w b u v) : ∀ x y, ((w.setCell ⟨b, 0, none⟩ x).setCell ⟨b, 1, none⟩ y).cell? ⟨b, 1, none⟩ = some y :=
  fun x _ => World.cell?_setCell_same _ _ _ ((World.cell?_setCell_other w ⟨b, 0, none⟩ ⟨b, 1, none⟩ x (by simp)).trans h.snd)
theorem Ints.al {w : World} {n : Nat} {A : Option Addr} {xs : List Int} (h : Ints w w.heap.size A n xs) (o : Obj) : Ints (w.alloc o) (w.alloc o).heap.size A n xs := h.next ((Below.refl _ _).alloc (Nat.le_refl _) o)
theorem below_two (w : World) (o p : Obj) : Below w.heap.size w ((w.alloc o).alloc p) := ((Below.refl _ _).alloc (Nat.le_refl _) o).alloc (by simp) p
theorem below_over {w0 w : World} {b B : Nat} (h : Below B w0 w) (hb : B ≤ b) (x y : Value) : Below B w0 ((w.setCell ⟨b, 0, none⟩ x).setCell ⟨b, 1, none⟩ y) :=
  (h.setCell (p := ⟨b, 0, none⟩) hb x).setCell (p := ⟨b, 1, none⟩) hb y
theorem FrOwn.over {w : World} {b B : Nat} {v : Value} {ds : List Int} (h : FrOwn w B v ds) (hb : b < B) (x y : Value) : FrOwn ((w.setCell ⟨b, 0, none⟩ x).setCell ⟨b, 1, none⟩ y) B v ds :=
  (h.row (grown_set b 0 x) hb).row (grown_set b 1 y) hb

set_option maxRecDepth 100000 in
set_option maxHeartbeats 2000000 in
theorem changeAtAdd_yes (A A' : Option Addr) (n c c' : Nat) (ds : List Int) (k x : Int) (w : World) (hx : Ints w w.heap.size A n (HiL ds)) (hy : Ints w w.heap.size A' n (LoL ds)) (hds : Fr.Digs ds) (h1 : 1 ≤ n) (h6 : n ≤ 6) :
    Calls Tryd.prog 16 #[.agg #[.slice A n c, .slice A' n c'], .int .i64 k, .int .i64 x, .func (Fn.func 17) #[] #[]] w (FrRes w (frAt 1 ds k x)) := by
  have hl : ds.length = n := by have := hx.len; rwa [HiL_length] at this
  have HL := Lib.hid hl
  have HX := Lib.hid hx
  have HY := Lib.hid hy
  have HD := Lib.hid hds
  obtain ⟨R, hR⟩ : ∃ R, frAt 1 ds k x = R := ⟨_, rfl⟩
  rw [hR]
  have HE := Lib.hid hR
  clear hx hy hds hl hR
  go_enter Tryd.func16, Tryd.ntmps16
  go_wp2_with fail
  refine (rodsOf_yes A A' n c c' ds _ ((HX.out.al _).al _) ((HY.out.al _).al _) HD.out h1 h6).mono ?_
  rintro e w1 ⟨⟨g, h, rfl, hr⟩, hb1⟩
  have hz := ((Box.new (w.alloc (.cells #[.slice A n c, .slice A' n c'] 25)) (.slice none 0 0) (.slice none 0 0)).next hb1)
  have hz0 := hz.fst
  have hz1 := hz.snd
  have hf0 := hz.free 0
  have hf1 := hz.free 1
  have hsl := hr.slice
  rw [HL.out] at hsl
  simp only [World.size_alloc] at hz hz0 hz1 hf0 hf1
  have HZ := Lib.hid hz
  have HB := Lib.hid ((below_two w _ _).trans (hb1.mono (by simp; omega)))
  have HR := Lib.hid hr
  clear hz hb1 hr
  have hgl := HR.out.hl
  have hgb := HR.out.2.2.2.1
  simp only [World.size_alloc] at hgb
  by_cases hin : 0 ≤ k ∧ k < (n : Int) ∧ 0 ≤ x ∧ x ≤ 9
  · obtain ⟨k0, k1, x0, x9⟩ := hin
    obtain ⟨j, rfl⟩ := Int.eq_ofNat_of_zero_le k0
    have he := HE.out
    rw [frAt_in _ _ _ _ (by rw [HL.out]; omega) x0 x9] at he
    have hcall := add_any w1 _ g h ds n j x HR.out HD.out HL.out h6 x0 x9 (by omega)
    rw [he] at hcall
    have HC := Lib.hid hcall
    clear he hcall
    go_wp2_with fail
    refine (isDigit_is (show (decide (0 ≤ x) && decide (x ≤ 9)) = true by simp [x0, x9]) _).mono ?_
    rintro e w2 ⟨rfl, rfl⟩
    rcases R with _ | ⟨es0, p0⟩
    · go_wp2_with fail
      refine HC.out.mono ?_
      rintro e w2 ⟨⟨es, hr2, hd2, hl2, rfl, -⟩, hg2⟩
      have HZ2 := Lib.hid (HZ.out.grown hg2 (by intro e; injection e with e; omega))
      have z0 := HZ2.out.fst
      have z1 := HZ2.out.snd
      have f0 := HZ2.out.free 0
      have f1 := HZ2.out.free 1
      have HB2 := Lib.hid (HB.out.grown hg2 HB.out.size (by rintro q ⟨⟩; omega))
      clear hr2 hg2
      go_wp2
      exact bodyPost_ret (v := .tuple #[.agg #[.slice none 0 0, .slice none 0 0], .int .i64 0, .bool false]) (by simp [results, Tryd.results16, go_sem, over_fst HZ2.out, over_snd HZ2.out]) rfl (FrRes.none_ (below_over HB2.out (by omega) _ _))
    · go_wp2_with fail
      refine HC.out.mono ?_
      rintro e w2 ⟨⟨es, hr2, hd2, hl2, rfl, hes⟩, hg2⟩
      obtain rfl : es0 = es := hes _ rfl
      have HZ2 := Lib.hid (HZ.out.grown hg2 (by intro e; injection e with e; omega))
      have HB2 := Lib.hid (HB.out.grown hg2 HB.out.size (by rintro q ⟨⟩; omega))
      have HR2 := Lib.hid hr2
      have HS := Lib.hid hg2.size
      have HL2 := Lib.hid hl2
      clear hr2 hg2 hes hl2
      go_wp2_with fail
      refine (frame_any w2 _ g h es0 n HR2.out HL2.out hd2 h6).mono ?_
      rintro e w3 ⟨⟨v, rfl, ho⟩, hb3⟩
      have hos := ho.mono (show w.heap.size + 2 ≤ w2.heap.size by have := HS.out; have := HR.out.hl; omega)
      obtain ⟨A2, c2, A3, c3, rfl, -⟩ := ho
      have HO := Lib.hid hos
      have HZ3 := Lib.hid (HZ2.out.next hb3)
      have z0 := HZ3.out.fst
      have z1 := HZ3.out.snd
      have f0 := HZ3.out.free 0
      have f1 := HZ3.out.free 1
      have HB3 := Lib.hid (below_chain HB2.out hb3)
      clear hb3 hos
      go_wp2
      refine bodyPost_ret (v := .tuple #[.agg #[.slice A2 es0.length c2, .slice A3 es0.length c3], .int .i64 p0, .bool true]) (by simp [results, Tryd.results16, go_sem, over_fst HZ3.out, over_snd HZ3.out]) rfl ⟨⟨_, rfl, ?_⟩, below_over HB3.out (by omega) _ _⟩
      exact (HO.out.over (by omega) _ _).mono (by omega)
  · have he := HE.out
    rw [frAt_out _ _ _ _ (by rw [HL.out]; exact hin)] at he
    subst he
    rcases (show k < 0 ∨ (0 ≤ k ∧ (n : Int) ≤ k) ∨ (0 ≤ k ∧ k < (n : Int) ∧ (decide (0 ≤ x) && decide (x ≤ 9)) = false) from by
      by_cases q1 : k < 0
      · exact .inl q1
      · by_cases q2 : (n : Int) ≤ k
        · exact .inr (.inl ⟨by omega, q2⟩)
        · exact .inr (.inr ⟨by omega, by omega, by simp; omega⟩)) with q1 | ⟨q1, q2⟩ | ⟨q1, q2, q3⟩
    · clear hin
      go_wp2
      exact bodyPost_ret (v := .tuple #[.agg #[.slice none 0 0, .slice none 0 0], .int .i64 0, .bool false]) (by simp [results, Tryd.results16, go_sem, over_fst HZ.out, over_snd HZ.out]) rfl (FrRes.none_ (below_over HB.out (by omega) _ _))
    · clear hin
      go_wp2
      exact bodyPost_ret (v := .tuple #[.agg #[.slice none 0 0, .slice none 0 0], .int .i64 0, .bool false]) (by simp [results, Tryd.results16, go_sem, over_fst HZ.out, over_snd HZ.out]) rfl (FrRes.none_ (below_over HB.out (by omega) _ _))
    · have HQ := Lib.hid q3
      clear q3 hin
      go_wp2_with fail
      refine (isDigit_is HQ.out _).mono ?_
      rintro e w2 ⟨rfl, rfl⟩
      go_wp2
      exact bodyPost_ret (v := .tuple #[.agg #[.slice none 0 0, .slice none 0 0], .int .i64 0, .bool false]) (by simp [results, Tryd.results16, go_sem, over_fst HZ.out, over_snd HZ.out]) rfl (FrRes.none_ (below_over HB.out (by omega) _ _))
set_option maxRecDepth 100000 in
set_option maxHeartbeats 2000000 in
theorem changeAtAdd_no (A A' : Option Addr) (n m c c' : Nat) (hs ls : List Int) (k x : Int) (w : World) (hx : Ints w w.heap.size A n hs) (hy : Ints w w.heap.size A' m ls) (hno : ¬ FrOk hs ls) :
    Calls Tryd.prog 16 #[.agg #[.slice A n c, .slice A' m c'], .int .i64 k, .int .i64 x, .func (Fn.func 17) #[] #[]] w (FrRes w none) := by
  have HX := Lib.hid hx
  have HY := Lib.hid hy
  have HN := Lib.hid hno
  clear hx hy hno
  go_enter Tryd.func16, Tryd.ntmps16
  go_wp2_with fail
  refine (rodsOf_no A A' n m c c' hs ls _ ((HX.out.al _).al _) ((HY.out.al _).al _) HN.out).mono ?_
  rintro e w1 ⟨rfl, hb1⟩
  have hz := ((Box.new (w.alloc (.cells #[.slice A n c, .slice A' m c'] 25)) (.slice none 0 0) (.slice none 0 0)).next hb1)
  have hz0 := hz.fst
  have hz1 := hz.snd
  have hf0 := hz.free 0
  have hf1 := hz.free 1
  simp only [World.size_alloc] at hz hz0 hz1 hf0 hf1
  have HZ := Lib.hid hz
  have HB := Lib.hid ((below_two w _ _).trans (hb1.mono (by simp; omega)))
  clear hz hb1
  go_wp2
  exact bodyPost_ret (v := .tuple #[.agg #[.slice none 0 0, .slice none 0 0], .int .i64 0, .bool false]) (by simp [results, Tryd.results16, go_sem, over_fst HZ.out, over_snd HZ.out]) rfl (FrRes.none_ (below_over HB.out (by omega) _ _))

/-- FrameAdd: whatever the frame -/
def frOf (hs ls : List Int) (f : List Int → Option (List Int × Int)) (R : Option (List Int × Int)) : Prop :=
  (¬ FrOk hs ls ∧ R = none) ∨ ∃ ds, Fr.Digs ds ∧ hs = HiL ds ∧ ls = LoL ds ∧ 1 ≤ ds.length ∧ ds.length ≤ 6 ∧ R = f ds
theorem changeAtAdd_any (A A' : Option Addr) (n m c c' : Nat) (hs ls : List Int) (k x : Int) (R : Option (List Int × Int)) (w : World) (hx : Ints w w.heap.size A n hs) (hy : Ints w w.heap.size A' m ls) (hR : frOf hs ls (fun ds => frAt 1 ds k x) R) :
    Calls Tryd.prog 16 #[.agg #[.slice A n c, .slice A' m c'], .int .i64 k, .int .i64 x, .func (Fn.func 17) #[] #[]] w (FrRes w R) := by
  rcases hR with ⟨hno, rfl⟩ | ⟨ds, hd, rfl, rfl, h1, h6, rfl⟩
  · exact changeAtAdd_no A A' n m c c' hs ls k x w hx hy hno
  · have e1 := hx.len
    have e2 := hy.len
    rw [HiL_length] at e1
    rw [LoL_length] at e2
    subst e1
    subst e2
    exact changeAtAdd_yes A A' _ c c' ds k x w hx hy hd h1 h6
set_option maxRecDepth 100000 in
set_option maxHeartbeats 2000000 in
theorem FrameAdd_any (A A' : Option Addr) (n m c c' : Nat) (hs ls : List Int) (k x : Int) (R : Option (List Int × Int)) (w : World) (hx : Ints w w.heap.size A n hs) (hy : Ints w w.heap.size A' m ls) (hR : frOf hs ls (fun ds => frAt 1 ds k x) R) :
    Calls Tryd.prog 7 #[.agg #[.slice A n c, .slice A' m c'], .int .i64 k, .int .i64 x] w (FrRes w R) := by
  have HX := Lib.hid hx
  have HY := Lib.hid hy
  have HE := Lib.hid hR
  clear hx hy hR
  go_enter Tryd.func7, Tryd.ntmps7
  go_wp2_with fail
  refine (changeAtAdd_any A A' n m c c' hs ls k x R _ ((HX.out.al _).al _) ((HY.out.al _).al _) HE.out).mono ?_
  rintro e w1 ⟨⟨v, rfl, ho⟩, hb1⟩
  have hz := ((Box.new (w.alloc (.cells #[.slice A n c, .slice A' m c'] 25)) (.slice none 0 0) (.slice none 0 0)).next hb1)
  have hz0 := hz.fst
  have hz1 := hz.snd
  have hf0 := hz.free 0
  have hf1 := hz.free 1
  simp only [World.size_alloc] at hz hz0 hz1 hf0 hf1 ho
  have HZ := Lib.hid hz
  have HB := Lib.hid ((below_two w _ _).trans (hb1.mono (by simp; omega)))
  have HO := Lib.hid ho
  obtain ⟨A2, c2, A3, c3, rfl, -⟩ := ho
  clear hz hb1
  go_wp2
  refine bodyPost_ret (v := .tuple #[.agg #[.slice A2 (resL R).length c2, .slice A3 (resL R).length c3], .int .i64 (resN R), .bool R.isSome]) (by simp [results, Tryd.results7, go_sem, over_fst HZ.out, over_snd HZ.out]) rfl ⟨⟨_, rfl, ?_⟩, below_over HB.out (by omega) _ _⟩
  exact (HO.out.over (by omega) _ _).mono (by omega)
end Go.Proofs.YtpaepdlkjblfgaaDoor
