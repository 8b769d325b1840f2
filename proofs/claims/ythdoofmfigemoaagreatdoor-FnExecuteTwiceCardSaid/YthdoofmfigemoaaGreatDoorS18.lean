/-
  Joined texts.
-/
import Derived.Test.YthdoofmfigemoaaGreatDoorS16
import Derived.Test.YthdoofmfigemoaaGreatDoorS17
set_option linter.unusedSimpArgs false
set_option linter.unusedVariables false
set_option maxRecDepth 100000
set_option maxHeartbeats 4000000
namespace Go.Proofs.YthdoofmfigemoaaGreatDoor
open Go.RowKit
theorem l9Ask_any (s : St) (hs : InvS s) (k : List UInt8) (ws : List (List UInt8)) (v : Value) (Aw : Option Addr) (nw cw : Nat) (w : World) (h : AskIn w s k ws v Aw nw cw) :
  Calls Tryz.prog 103 #[v, .slice Aw nw cw] w fun e w' => e = .returned (.string (ask s k (ws.map wnum))) ∧ Below w.heap.size w w' := by
 match ws, h with
 | [], h => exact l9Ask_zero s hs k v Aw nw cw w h
 | [x], h =>
  show Calls Tryz.prog 103 #[v, .slice Aw nw cw] w fun e w' => e = .returned (.string (if k = wRoot then bs (rootT (wnum x).toNat) ++ ⟨#[10]⟩ else whatT)) ∧ Below w.heap.size w w'
  by_cases hk : k = wRoot
  ·rw [if_pos hk]; exact l9Ask_root s k hk x v Aw nw cw w h
  ·rw [if_neg hk]; exact l9Ask_what s k [x] (by simp) (fun h => by simp at h) (fun _ => hk) v Aw nw cw w h
 | [x, y], h =>
  show Calls Tryz.prog 103 #[v, .slice Aw nw cw] w fun e w' => e = .returned (.string (if k = wTimes then timesT (wnum x).toNat (wnum y).toNat else if k = wDouble then doubleT (wnum x).toNat (wnum y).toNat else if k = wUnits then unitsT (unitsR (wnum x).toNat (wnum y).toNat) else whatT)) ∧ Below w.heap.size w w'
  by_cases h1 : k = wTimes
  ·rw [if_pos h1]; exact l9Ask_times s k h1 x y v Aw nw cw w h
  rw [if_neg h1]
  by_cases h2 : k = wDouble
  ·rw [if_pos h2]
   cases hf : facs (wnum x).toNat (wnum y).toNat with
   | true => exact l9Ask_double_yes s k h2 x y hf v Aw nw cw w h
   | false => exact l9Ask_double_no s k h2 x y hf v Aw nw cw w h
  rw [if_neg h2]
  by_cases h3 : k = wUnits
  ·rw [if_pos h3]; exact l9Ask_units s k h3 x y v Aw nw cw w h
  ·rw [if_neg h3]; exact l9Ask_what s k [x, y] (by simp) (fun _ => ⟨h1, h2, h3⟩) (fun h => by simp at h) v Aw nw cw w h
 | x :: y :: z :: r, h => exact l9Ask_what s k (x :: y :: z :: r) (by simp) (fun h => by simp at h) (fun h => by simp at h) v Aw nw cw w h
def Tested (k : List UInt8) (m : Nat) : Prop :=
 (k = wLay ∧ m = 1) ∨ (k = wReduce ∧ m = 0) ∨ (k = wRaise ∧ m = 1) ∨ (k = wAdd ∧ m = 1) ∨ (k = wTake ∧ m = 1) ∨ (k = wOwe ∧ m = 3) ∨ (k = wSettle ∧ m = 0)
theorem step_ask {s : St} {k : List UInt8} {ns : List Int} (h : ¬ Tested k ns.length) : stepW s k ns = (ask s k ns, s) := by
 match ns, h with
 | [], h =>
  show step0 s k = (ask0 s k, s)
  have h1 : k ≠ wReduce := fun e => h (.inr (.inl ⟨e, rfl⟩))
  have h2 : k ≠ wSettle := fun e => h (.inr (.inr (.inr (.inr (.inr (.inr ⟨e, rfl⟩))))))
  unfold step0 ask0
  rw [if_neg h1]
  by_cases k1 : k = wBoard
  ·rw [if_pos k1, if_pos k1]
  rw [if_neg k1, if_neg k1]
  by_cases k2 : k = wValue
  ·rw [if_pos k2, if_pos k2]
  rw [if_neg k2, if_neg k2]
  by_cases k3 : k = wFrame
  ·rw [if_pos k3, if_pos k3]
  rw [if_neg k3, if_neg k3, if_neg h2]
  by_cases k4 : k = wTallies
  ·rw [if_pos k4, if_pos k4]
  ·rw [if_neg k4, if_neg k4]
 | [a], h =>
  show step1 s k a = (if k = wRoot then bs (rootT a.toNat) ++ ⟨#[10]⟩ else whatT, s)
  unfold step1
  rw [if_neg fun e => h (.inl ⟨e, rfl⟩), if_neg fun e => h (.inr (.inr (.inl ⟨e, rfl⟩))), if_neg fun e => h (.inr (.inr (.inr (.inl ⟨e, rfl⟩)))), if_neg fun e => h (.inr (.inr (.inr (.inr (.inl ⟨e, rfl⟩)))))]
  by_cases k1 : k = wRoot
  ·rw [if_pos k1, if_pos k1]
  ·rw [if_neg k1, if_neg k1]
 | [a, b], h =>
  show step2 s k a b = (if k = wTimes then timesT a.toNat b.toNat else if k = wDouble then doubleT a.toNat b.toNat else if k = wUnits then unitsT (unitsR a.toNat b.toNat) else whatT, s)
  unfold step2
  by_cases k1 : k = wTimes
  ·rw [if_pos k1, if_pos k1]
  rw [if_neg k1, if_neg k1]
  by_cases k2 : k = wDouble
  ·rw [if_pos k2, if_pos k2]
  rw [if_neg k2, if_neg k2]
  by_cases k3 : k = wUnits
  ·rw [if_pos k3, if_pos k3]
  ·rw [if_neg k3, if_neg k3]
 | [a, b, c], h =>
  show step3 s k a b c = (whatT, s)
  unfold step3
  rw [if_neg fun e => h (.inr (.inr (.inr (.inr (.inr (.inl ⟨e, rfl⟩))))))]
 | a :: b :: c :: d :: r, _ => rfl
def PI (w w6 : World) (A : Option Addr) (n c : Nat) (xs : List Int) : Prop := Ints w w.heap.size A n xs ∨ ∃ B, Own w6 B A n c xs
def PT (w w6 : World) (A : Option Addr) (n c : Nat) (ts : List Tl) : Prop := Tals w w.heap.size A n ts ∨ ∃ B, OwnT w6 B A n c ts
theorem PI.set {w w6 : World} {A : Option Addr} {n c b : Nat} {xs : List Int} {cs : Array Value} (h : PI w w6 A n c xs) (hz : Blk w6 b cs T75) (j : Nat) (x : Value) : PI w (w6.setCell ⟨b, j, none⟩ x) A n c xs := by
 rcases h with h | ⟨B, h⟩
 ·exact .inl h
 ·exact .inr ⟨B, h.r.far hz (by decide) j x⟩
theorem PT.set {w w6 : World} {A : Option Addr} {n c b : Nat} {xs : List Tl} {cs : Array Value} (h : PT w w6 A n c xs) (hz : Blk w6 b cs T75) (j : Nat) (x : Value) : PT w (w6.setCell ⟨b, j, none⟩ x) A n c xs := by
 rcases h with h | ⟨B, h⟩
 ·exact .inl h
 ·exact .inr ⟨B, OwnR.far h hz (by decide) j x⟩
theorem PI.fin {w w6 : World} {A : Option Addr} {n c : Nat} {xs : List Int} (h : PI w w6 A n c xs) (hb : Below w.heap.size w w6) : Ints w6 w6.heap.size A n xs := by
 rcases h with h | ⟨B, h⟩
 ·exact h.next hb
 ·exact h.ints
theorem PT.fin {w w6 : World} {A : Option Addr} {n c : Nat} {xs : List Tl} (h : PT w w6 A n c xs) (hb : Below w.heap.size w w6) : Tals w6 w6.heap.size A n xs := by
 rcases h with h | ⟨B, h⟩
 ·exact Row.next h hb
 ·exact OwnT.tals h
theorem sval_fin {w w6 : World} {b : Nat} {s : St} {Ab A A' At : Option Addr} {nb cb c c' nt ct : Nat} {y0 y1 y2 y3 : Value} (hz : Blk w6 b #[y0, y1, y2, y3] T75) (hb : Below w.heap.size w w6) (hw : w.heap.size ≤ b)
  (h1 : PI w w6 Ab nb cb s.bs) (h2 : PI w w6 A 4 c (HiL s.ds)) (h3 : PI w w6 A' 4 c' (LoL s.ds)) (h4 : PT w w6 At nt ct s.ts) (x0 x1 x2 x3 : Value) :
  SVal ((((w6.setCell ⟨b, 0, none⟩ x0).setCell ⟨b, 1, none⟩ x1).setCell ⟨b, 2, none⟩ x2).setCell ⟨b, 3, none⟩ x3) s (.agg #[.slice Ab nb cb, .slice A 4 c, .slice A' 4 c', .slice At nt ct]) := by
 have hbl := below_set4 hb hw x0 x1 x2 x3
 have z1 := hz.set 0 x0
 have z2 := z1.set 1 x1
 have z3 := z2.set 2 x2
 exact ⟨Ab, nb, cb, A, c, A', c', At, nt, ct, rfl, ((((h1.set hz 0 x0).set z1 1 x1).set z2 2 x2).set z3 3 x3).fin hbl, ((((h2.set hz 0 x0).set z1 1 x1).set z2 2 x2).set z3 3 x3).fin hbl,
  ((((h3.set hz 0 x0).set z1 1 x1).set z2 2 x2).set z3 3 x3).fin hbl, ((((h4.set hz 0 x0).set z1 1 x1).set z2 2 x2).set z3 3 x3).fin hbl⟩
theorem line_w7 {w w1 : World} {b : Nat} {cs z4 : Array Value} (hx : Blk w1 w.heap.size cs T75) (hz : Blk w1 b z4 T75) (hb : Below w.heap.size w w1) (c7 : Array Value) :
  ∃ W7, w1.alloc (.cells c7 T75) = W7 ∧ Below w1.heap.size w1 W7 ∧ (Blk W7 w.heap.size cs T75 ∧ Blk W7 b z4 T75 ∧ Blk W7 w1.heap.size c7 T75) ∧ Below w.heap.size w W7 := by
 have h1 : Below w1.heap.size w1 (w1.alloc (.cells c7 T75)) := (Below.refl _ _).alloc (Nat.le_refl _) _
 exact ⟨_, rfl, h1, ⟨hx.next h1, hz.next h1, Blk.new _ _ _⟩, hb.trans (h1.mono hb.size)⟩
theorem line_head (w : World) (s4 z4 : Array Value) : ∃ W, (w.alloc (.cells s4 T75)).alloc (.cells z4 T75) = W ∧ Below w.heap.size w W ∧ Blk W w.heap.size s4 T75 ∧ Blk W (w.heap.size + 1) z4 T75 := by
 refine ⟨_, rfl, ((Below.refl _ _).alloc (Nat.le_refl _) _).alloc (by simp) _, (Blk.new _ _ _).alloc _, ?_⟩
 have := Blk.new (w.alloc (.cells s4 T75)) z4 T75
 simpa using this
def LinePost9 (w : World) (r : ByteArray × St) (e : Ending) (w' : World) : Prop := ∃ v, e = .returned (.tuple #[v, .string r.1]) ∧ SVal w' r.2 v ∧ Below w.heap.size w w'
theorem l9Line_lay (s : St) (hs : InvS s) (hk : True) (x : List UInt8) (v : Value) (Aw : Option Addr) (nw cw : Nat) (w : World) (h : AskIn w s wLay [x] v Aw nw cw) (R : ByteArray × St) (OKB : Bool) (XS : List Int) (hok : (okV (wnum x) && layOK s.bs (Bd.D true 10 (wnum x))) = OKB) (hxs : Bd.addL s.bs (Bd.D true 10 (wnum x)) = XS) (hy : OKB = true → R = (okT, { s with bs := XS })) (hno : OKB = false → R = (noT, s)) :
  Calls Tryz.prog 52 #[v, .slice Aw nw cw] w (LinePost9 w R) := by
 have HA := Hd h
 obtain ⟨hv, hw, h1, h2⟩ := h
 have HV := Hd hv
 obtain ⟨Ab, nb, cb, A, c, A', c', At, nt, ct, rfl, i1, i2, i3, i4⟩ := hv
 have hlen := hw.len
 simp only [List.length_cons, List.length_nil] at hlen
 obtain ⟨g, rfl⟩ := OwnR.some2 hw (by omega)
 have d0 := OwnR.cell2 hw (j := 0) rfl
 have HW := Hd hw
 obtain ⟨t, ht⟩ : ∃ t, bs wLay = t := ⟨_, rfl⟩
 rw [ht] at d0
 have hg : g < w.heap.size := World.block_lt_of_cell? w _ d0
 have hW0 : (0 : Int) < (nw : Int) := by omega
 have hW2 : 0 < nw := by omega
 have hW1 : (nw : Int) ≤ 2000 := by omega
 obtain ⟨W, hWW, hbl, x2, x4⟩ := line_head w #[.slice Ab nb cb, .slice A 4 c, .slice A' 4 c', .slice At nt ct] #[.slice none 0 0, .slice none 0 0, .slice none 0 0, .slice none 0 0]
 have HN := Hd (l9Numbers_any (some ⟨g, 0, none⟩) 0 nw cw wLay [x] W (by rw [← hWW]; exact (HW.out.alloc _).alloc _) h1 h2)
 have HI := Hd (And.intro i1 (And.intro i2 (And.intro i3 i4)))
 have HB := Hd hbl
 have HWW := Hd hWW
 have HX := Hd (And.intro x2 x4)
 have HT := Hd ht
 have HLEN := Hd hlen
 have f0 : (t.toList == [108, 97, 121]) = true := (wd_of ht).trans (by decide)
 have f1 : (t.toList == [114, 101, 100, 117, 99, 101]) = false := (wd_of ht).trans (by decide)
 have f2 : (t.toList == [114, 97, 105, 115, 101]) = false := (wd_of ht).trans (by decide)
 have f3 : (t.toList == [97, 100, 100]) = false := (wd_of ht).trans (by decide)
 have f4 : (t.toList == [116, 97, 107, 101]) = false := (wd_of ht).trans (by decide)
 have f5 : (t.toList == [111, 119, 101]) = false := (wd_of ht).trans (by decide)
 have f6 : (t.toList == [115, 101, 116, 116, 108, 101]) = false := (wd_of ht).trans (by decide)
 have HY := Hd hy
 have HNO := Hd hno
 have HCC := Hd (fun w (hx : Ints w w.heap.size Ab nb s.bs) => l9Lay_any Ab nb cb s.bs (wnum x) w hx)
 rw [hok, hxs] at HCC
 clear hy hno hok hxs
 clear hw h1 h2 hbl hWW ht i1 i2 i3 i4 x2 x4 hlen
 go_enter Tryz.func52, Tryz.ntmps52
 go_wp2_with fail
 rw [HWW.out]
 refine HN.out.mono ?_
 rintro e w1 ⟨A5, c5, rfl, ho5, hb5⟩
 obtain ⟨⟨p0, p1, p2, p3⟩, -, ltp⟩ := cells4 (HX.out.1.next hb5)
 obtain ⟨⟨q0, q1, q2, q3⟩, ⟨r0, r1, r2, r3⟩, ltq⟩ := cells4 (HX.out.2.next hb5)
 have HX5 := Hd (And.intro (HX.out.1.next hb5) (HX.out.2.next hb5))
 have HB5 := Hd (below_chain HB.out hb5)
 have e0 := (HB5.out.cell (p := ⟨g, 0, none⟩) hg).trans d0
 have hg1 : g < w1.heap.size := Nat.lt_of_lt_of_le hg HB5.out.size
 have HO5 := Hd ho5
 clear ho5 hb5 d0
 obtain ⟨g5, rfl, -, hg5, hc5, -⟩ := HO5.out.at_ (by simp)
 have n0 := hc5 0 (wnum x) (by simp)
 clear hc5
 simp only [List.length_cons, List.length_nil] at HO5 ⊢
 go_wp2_with fail
 obtain ⟨W7, hW7, hb7, ⟨z2, z4, z7⟩, hbw⟩ := line_w7 HX5.out.1 HX5.out.2 HB5.out #[.slice Ab nb cb, .slice A 4 c, .slice A' 4 c', .slice At nt ct]
 have HZ := Hd (And.intro z2 (And.intro z4 z7))
 have HBW := Hd hbw
 obtain ⟨⟨s0, s1, s2, s3⟩, -, lts⟩ := cells4 z2
 have e7 := (hb7.cell (p := ⟨g, 0, none⟩) hg1).trans e0
 have m0 := (hb7.cell (p := ⟨g5, 0, none⟩) hg5).trans n0
 have hg57 : g5 < W7.heap.size := Nat.lt_of_lt_of_le hg5 hb7.size
 have hg7 : g < W7.heap.size := Nat.lt_of_lt_of_le hg hbw.size
 rw [hW7]
 clear hW7 hb7 z7 z2 z4 hbw
 go_region_with (go_at_call 98; refine (HCC.out _ (HI.out.1.next (show Below w.heap.size w W7.drew from HBW.out.drew))).mono ?_; rintro e w6 ⟨⟨A6, n6, c6, rfl, ho6'⟩, hb6'⟩; have hb6 := (Below.refl W7.heap.size W7).drew.trans hb6'; obtain ⟨⟨t0, t1, t2, t3⟩, -, ltt⟩ := cells4 (HZ.out.1.next hb6); obtain ⟨⟨u0, u1, u2, u3⟩, ⟨v0, v1, v2, v3⟩, ltu⟩ := cells4 (HZ.out.2.1.next hb6); obtain ⟨⟨y0, y1, y2, y3⟩, ⟨a0, a1, a2, a3⟩, lty⟩ := cells4 (HZ.out.2.2.next hb6); have HZ6 := Hd (And.intro (HZ.out.2.1.next hb6) (HZ.out.2.2.next hb6)); have HB6 := Hd (HBW.out.trans (hb6.mono HBW.out.size)); have ho6 : Own w6 W7.heap.size A6 n6 c6 (if OKB = true then XS else []) := ho6'; have HO6 := Hd ho6; clear hb6 hb6' ho6 ho6')
 all_goals
  cases OKB with
  | false =>
   go_wp2_with fail
   have hz6 : Blk (w6.setCell ⟨w1.heap.size, 0, none⟩ (.slice A6 n6 c6)) (w.heap.size + 1) #[.slice none 0 0, .slice none 0 0, .slice none 0 0, .slice none 0 0] T75 := HZ6.out.1.other (by show w.heap.size + 1 ≠ w1.heap.size; omega) _
   have hb6w := HB6.out.setCell (p := ⟨w1.heap.size, 0, none⟩) HB5.out.size (.slice A6 n6 c6)
   obtain ⟨⟨j0, j1, j2, j3⟩, -, -⟩ := cells4 (hz6.set4 (.slice Ab nb cb) (.slice A 4 c) (.slice A' 4 c') (.slice At nt ct))
   refine bodyPost_ret (v := .tuple #[.agg #[.slice Ab nb cb, .slice A 4 c, .slice A' 4 c', .slice At nt ct], .string ⟨#[110, 111, 10]⟩]) (by simp [results, Tryz.results52, go_sem, j0, j1, j2, j3]) rfl ?_
   rw [HNO.out (by trivial)]
   exact ⟨_, rfl, sval_fin hz6 hb6w (by omega) (.inl HI.out.1) (.inl HI.out.2.1) (.inl HI.out.2.2.1) (.inl HI.out.2.2.2) _ _ _ _, below_set4 hb6w (by omega) _ _ _ _⟩
  | true =>
   go_wp2_with fail
   have hz6 : Blk (w6.setCell ⟨w1.heap.size, 0, none⟩ (.slice A6 n6 c6)) (w.heap.size + 1) #[.slice none 0 0, .slice none 0 0, .slice none 0 0, .slice none 0 0] T75 := HZ6.out.1.other (by show w.heap.size + 1 ≠ w1.heap.size; omega) _
   have hb6w := HB6.out.setCell (p := ⟨w1.heap.size, 0, none⟩) HB5.out.size (.slice A6 n6 c6)
   obtain ⟨⟨j0, j1, j2, j3⟩, -, -⟩ := cells4 (hz6.set4 (.slice A6 n6 c6) (.slice A 4 c) (.slice A' 4 c') (.slice At nt ct))
   refine bodyPost_ret (v := .tuple #[.agg #[.slice A6 n6 c6, .slice A 4 c, .slice A' 4 c', .slice At nt ct], .string ⟨#[111, 107, 10]⟩]) (by simp [results, Tryz.results52, go_sem, j0, j1, j2, j3]) rfl ?_
   rw [HY.out (by trivial)]
   exact ⟨_, rfl, sval_fin (s := ⟨XS, s.ds, s.ts⟩) hz6 hb6w (by omega) (PI.set (.inr ⟨_, HO6.out⟩) HZ6.out.2 0 _) (.inl HI.out.2.1) (.inl HI.out.2.2.1) (.inl HI.out.2.2.2) _ _ _ _, below_set4 hb6w (by omega) _ _ _ _⟩
theorem l9Line_reduce (s : St) (hs : InvS s)  (v : Value) (Aw : Option Addr) (nw cw : Nat) (w : World) (h : AskIn w s wReduce [] v Aw nw cw) (R : ByteArray × St) (OKB : Bool) (XS : List Int) (hok : redOK s.bs = OKB) (hxs : redL s.bs = XS) (hy : OKB = true → R = (okT, { s with bs := XS })) (hno : OKB = false → R = (noT, s)) :
  Calls Tryz.prog 52 #[v, .slice Aw nw cw] w (LinePost9 w R) := by
 have HA := Hd h
 obtain ⟨hv, hw, h1, h2⟩ := h
 have HV := Hd hv
 obtain ⟨Ab, nb, cb, A, c, A', c', At, nt, ct, rfl, i1, i2, i3, i4⟩ := hv
 have hlen := hw.len
 simp only [List.length_cons, List.length_nil] at hlen
 obtain ⟨g, rfl⟩ := OwnR.some2 hw (by omega)
 have d0 := OwnR.cell2 hw (j := 0) rfl
 have HW := Hd hw
 obtain ⟨t, ht⟩ : ∃ t, bs wReduce = t := ⟨_, rfl⟩
 rw [ht] at d0
 have hg : g < w.heap.size := World.block_lt_of_cell? w _ d0
 have hW0 : (0 : Int) < (nw : Int) := by omega
 have hW2 : 0 < nw := by omega
 have hW1 : (nw : Int) ≤ 2000 := by omega
 obtain ⟨W, hWW, hbl, x2, x4⟩ := line_head w #[.slice Ab nb cb, .slice A 4 c, .slice A' 4 c', .slice At nt ct] #[.slice none 0 0, .slice none 0 0, .slice none 0 0, .slice none 0 0]
 have HN := Hd (l9Numbers_any (some ⟨g, 0, none⟩) 0 nw cw wReduce [] W (by rw [← hWW]; exact (HW.out.alloc _).alloc _) h1 h2)
 have HI := Hd (And.intro i1 (And.intro i2 (And.intro i3 i4)))
 have HB := Hd hbl
 have HWW := Hd hWW
 have HX := Hd (And.intro x2 x4)
 have HT := Hd ht
 have HLEN := Hd hlen
 have f0 : (t.toList == [108, 97, 121]) = false := (wd_of ht).trans (by decide)
 have f1 : (t.toList == [114, 101, 100, 117, 99, 101]) = true := (wd_of ht).trans (by decide)
 have f2 : (t.toList == [114, 97, 105, 115, 101]) = false := (wd_of ht).trans (by decide)
 have f3 : (t.toList == [97, 100, 100]) = false := (wd_of ht).trans (by decide)
 have f4 : (t.toList == [116, 97, 107, 101]) = false := (wd_of ht).trans (by decide)
 have f5 : (t.toList == [111, 119, 101]) = false := (wd_of ht).trans (by decide)
 have f6 : (t.toList == [115, 101, 116, 116, 108, 101]) = false := (wd_of ht).trans (by decide)
 have HY := Hd hy
 have HNO := Hd hno
 have HCC := Hd (fun w (hx : Ints w w.heap.size Ab nb s.bs) => specBoardReduce_any Ab nb cb s.bs w hx)
 rw [hok, hxs] at HCC
 clear hy hno hok hxs
 clear hw h1 h2 hbl hWW ht i1 i2 i3 i4 x2 x4 hlen
 go_enter Tryz.func52, Tryz.ntmps52
 go_wp2_with fail
 rw [HWW.out]
 refine HN.out.mono ?_
 rintro e w1 ⟨A5, c5, rfl, ho5, hb5⟩
 obtain ⟨⟨p0, p1, p2, p3⟩, -, ltp⟩ := cells4 (HX.out.1.next hb5)
 obtain ⟨⟨q0, q1, q2, q3⟩, ⟨r0, r1, r2, r3⟩, ltq⟩ := cells4 (HX.out.2.next hb5)
 have HX5 := Hd (And.intro (HX.out.1.next hb5) (HX.out.2.next hb5))
 have HB5 := Hd (below_chain HB.out hb5)
 have e0 := (HB5.out.cell (p := ⟨g, 0, none⟩) hg).trans d0
 have hg1 : g < w1.heap.size := Nat.lt_of_lt_of_le hg HB5.out.size
 have HO5 := Hd ho5
 clear ho5 hb5 d0
 simp only [List.length_nil] at HO5 ⊢
 go_wp2_with fail
 obtain ⟨W7, hW7, hb7, ⟨z2, z4, z7⟩, hbw⟩ := line_w7 HX5.out.1 HX5.out.2 HB5.out #[.slice Ab nb cb, .slice A 4 c, .slice A' 4 c', .slice At nt ct]
 have HZ := Hd (And.intro z2 (And.intro z4 z7))
 have HBW := Hd hbw
 obtain ⟨⟨s0, s1, s2, s3⟩, -, lts⟩ := cells4 z2
 have e7 := (hb7.cell (p := ⟨g, 0, none⟩) hg1).trans e0
 have hg7 : g < W7.heap.size := Nat.lt_of_lt_of_le hg hbw.size
 rw [hW7]
 clear hW7 hb7 z7 z2 z4 hbw
 refine (HCC.out _ (HI.out.1.next HBW.out)).mono ?_
 rintro e w6 ⟨⟨A6, n6, c6, rfl, ho6⟩, hb6'⟩
 have hb6 := hb6'
 obtain ⟨⟨t0, t1, t2, t3⟩, -, ltt⟩ := cells4 (HZ.out.1.next hb6)
 obtain ⟨⟨u0, u1, u2, u3⟩, ⟨v0, v1, v2, v3⟩, ltu⟩ := cells4 (HZ.out.2.1.next hb6)
 obtain ⟨⟨y0, y1, y2, y3⟩, ⟨a0, a1, a2, a3⟩, lty⟩ := cells4 (HZ.out.2.2.next hb6)
 have HZ6 := Hd (And.intro (HZ.out.2.1.next hb6) (HZ.out.2.2.next hb6))
 have HB6 := Hd (HBW.out.trans (hb6.mono HBW.out.size))
 have HO6 := Hd ho6
 clear hb6 hb6' ho6
 cases OKB with
 | false =>
  go_wp2_with fail
  have hz6 : Blk (w6.setCell ⟨w1.heap.size, 0, none⟩ (.slice A6 n6 c6)) (w.heap.size + 1) #[.slice none 0 0, .slice none 0 0, .slice none 0 0, .slice none 0 0] T75 := HZ6.out.1.other (by show w.heap.size + 1 ≠ w1.heap.size; omega) _
  have hb6w := HB6.out.setCell (p := ⟨w1.heap.size, 0, none⟩) HB5.out.size (.slice A6 n6 c6)
  obtain ⟨⟨j0, j1, j2, j3⟩, -, -⟩ := cells4 (hz6.set4 (.slice Ab nb cb) (.slice A 4 c) (.slice A' 4 c') (.slice At nt ct))
  refine bodyPost_ret (v := .tuple #[.agg #[.slice Ab nb cb, .slice A 4 c, .slice A' 4 c', .slice At nt ct], .string ⟨#[110, 111, 10]⟩]) (by simp [results, Tryz.results52, go_sem, j0, j1, j2, j3]) rfl ?_
  rw [HNO.out (by trivial)]
  exact ⟨_, rfl, sval_fin hz6 hb6w (by omega) (.inl HI.out.1) (.inl HI.out.2.1) (.inl HI.out.2.2.1) (.inl HI.out.2.2.2) _ _ _ _, below_set4 hb6w (by omega) _ _ _ _⟩
 | true =>
  go_wp2_with fail
  have hz6 : Blk (w6.setCell ⟨w1.heap.size, 0, none⟩ (.slice A6 n6 c6)) (w.heap.size + 1) #[.slice none 0 0, .slice none 0 0, .slice none 0 0, .slice none 0 0] T75 := HZ6.out.1.other (by show w.heap.size + 1 ≠ w1.heap.size; omega) _
  have hb6w := HB6.out.setCell (p := ⟨w1.heap.size, 0, none⟩) HB5.out.size (.slice A6 n6 c6)
  obtain ⟨⟨j0, j1, j2, j3⟩, -, -⟩ := cells4 (hz6.set4 (.slice A6 n6 c6) (.slice A 4 c) (.slice A' 4 c') (.slice At nt ct))
  refine bodyPost_ret (v := .tuple #[.agg #[.slice A6 n6 c6, .slice A 4 c, .slice A' 4 c', .slice At nt ct], .string ⟨#[111, 107, 10]⟩]) (by simp [results, Tryz.results52, go_sem, j0, j1, j2, j3]) rfl ?_
  rw [HY.out (by trivial)]
  exact ⟨_, rfl, sval_fin (s := ⟨XS, s.ds, s.ts⟩) hz6 hb6w (by omega) (PI.set (.inr ⟨_, HO6.out⟩) HZ6.out.2 0 _) (.inl HI.out.2.1) (.inl HI.out.2.2.1) (.inl HI.out.2.2.2) _ _ _ _, below_set4 hb6w (by omega) _ _ _ _⟩
theorem l9Line_raise (s : St) (hs : InvS s) (hk : True) (x : List UInt8) (v : Value) (Aw : Option Addr) (nw cw : Nat) (w : World) (h : AskIn w s wRaise [x] v Aw nw cw) (R : ByteArray × St) (OKB : Bool) (XS : List Int) (hok : raiseOK s.bs (wnum x) = OKB) (hxs : Bd.raiseL s.bs (wnum x).toNat = XS) (hy : OKB = true → R = (okT, { s with bs := XS })) (hno : OKB = false → R = (noT, s)) :
  Calls Tryz.prog 52 #[v, .slice Aw nw cw] w (LinePost9 w R) := by
 have HA := Hd h
 obtain ⟨hv, hw, h1, h2⟩ := h
 have HV := Hd hv
 obtain ⟨Ab, nb, cb, A, c, A', c', At, nt, ct, rfl, i1, i2, i3, i4⟩ := hv
 have hlen := hw.len
 simp only [List.length_cons, List.length_nil] at hlen
 obtain ⟨g, rfl⟩ := OwnR.some2 hw (by omega)
 have d0 := OwnR.cell2 hw (j := 0) rfl
 have HW := Hd hw
 obtain ⟨t, ht⟩ : ∃ t, bs wRaise = t := ⟨_, rfl⟩
 rw [ht] at d0
 have hg : g < w.heap.size := World.block_lt_of_cell? w _ d0
 have hW0 : (0 : Int) < (nw : Int) := by omega
 have hW2 : 0 < nw := by omega
 have hW1 : (nw : Int) ≤ 2000 := by omega
 obtain ⟨W, hWW, hbl, x2, x4⟩ := line_head w #[.slice Ab nb cb, .slice A 4 c, .slice A' 4 c', .slice At nt ct] #[.slice none 0 0, .slice none 0 0, .slice none 0 0, .slice none 0 0]
 have HN := Hd (l9Numbers_any (some ⟨g, 0, none⟩) 0 nw cw wRaise [x] W (by rw [← hWW]; exact (HW.out.alloc _).alloc _) h1 h2)
 have HI := Hd (And.intro i1 (And.intro i2 (And.intro i3 i4)))
 have HB := Hd hbl
 have HWW := Hd hWW
 have HX := Hd (And.intro x2 x4)
 have HT := Hd ht
 have HLEN := Hd hlen
 have f0 : (t.toList == [108, 97, 121]) = false := (wd_of ht).trans (by decide)
 have f1 : (t.toList == [114, 101, 100, 117, 99, 101]) = false := (wd_of ht).trans (by decide)
 have f2 : (t.toList == [114, 97, 105, 115, 101]) = true := (wd_of ht).trans (by decide)
 have f3 : (t.toList == [97, 100, 100]) = false := (wd_of ht).trans (by decide)
 have f4 : (t.toList == [116, 97, 107, 101]) = false := (wd_of ht).trans (by decide)
 have f5 : (t.toList == [111, 119, 101]) = false := (wd_of ht).trans (by decide)
 have f6 : (t.toList == [115, 101, 116, 116, 108, 101]) = false := (wd_of ht).trans (by decide)
 have HY := Hd hy
 have HNO := Hd hno
 have HCC := Hd (fun w (hx : Ints w w.heap.size Ab nb s.bs) => specBoardRaise_any Ab nb cb s.bs (wnum x) w hx)
 rw [hok, hxs] at HCC
 clear hy hno hok hxs
 clear hw h1 h2 hbl hWW ht i1 i2 i3 i4 x2 x4 hlen
 go_enter Tryz.func52, Tryz.ntmps52
 go_wp2_with fail
 rw [HWW.out]
 refine HN.out.mono ?_
 rintro e w1 ⟨A5, c5, rfl, ho5, hb5⟩
 obtain ⟨⟨p0, p1, p2, p3⟩, -, ltp⟩ := cells4 (HX.out.1.next hb5)
 obtain ⟨⟨q0, q1, q2, q3⟩, ⟨r0, r1, r2, r3⟩, ltq⟩ := cells4 (HX.out.2.next hb5)
 have HX5 := Hd (And.intro (HX.out.1.next hb5) (HX.out.2.next hb5))
 have HB5 := Hd (below_chain HB.out hb5)
 have e0 := (HB5.out.cell (p := ⟨g, 0, none⟩) hg).trans d0
 have hg1 : g < w1.heap.size := Nat.lt_of_lt_of_le hg HB5.out.size
 have HO5 := Hd ho5
 clear ho5 hb5 d0
 obtain ⟨g5, rfl, -, hg5, hc5, -⟩ := HO5.out.at_ (by simp)
 have n0 := hc5 0 (wnum x) (by simp)
 clear hc5
 simp only [List.length_cons, List.length_nil] at HO5 ⊢
 go_wp2_with fail
 obtain ⟨W7, hW7, hb7, ⟨z2, z4, z7⟩, hbw⟩ := line_w7 HX5.out.1 HX5.out.2 HB5.out #[.slice Ab nb cb, .slice A 4 c, .slice A' 4 c', .slice At nt ct]
 have HZ := Hd (And.intro z2 (And.intro z4 z7))
 have HBW := Hd hbw
 obtain ⟨⟨s0, s1, s2, s3⟩, -, lts⟩ := cells4 z2
 have e7 := (hb7.cell (p := ⟨g, 0, none⟩) hg1).trans e0
 have m0 := (hb7.cell (p := ⟨g5, 0, none⟩) hg5).trans n0
 have hg57 : g5 < W7.heap.size := Nat.lt_of_lt_of_le hg5 hb7.size
 have hg7 : g < W7.heap.size := Nat.lt_of_lt_of_le hg hbw.size
 rw [hW7]
 clear hW7 hb7 z7 z2 z4 hbw
 go_region_with (go_at_call 100; refine (HCC.out _ (HI.out.1.next (show Below w.heap.size w W7.drew from HBW.out.drew))).mono ?_; rintro e w6 ⟨⟨A6, n6, c6, rfl, ho6'⟩, hb6'⟩; have hb6 := (Below.refl W7.heap.size W7).drew.trans hb6'; obtain ⟨⟨t0, t1, t2, t3⟩, -, ltt⟩ := cells4 (HZ.out.1.next hb6); obtain ⟨⟨u0, u1, u2, u3⟩, ⟨v0, v1, v2, v3⟩, ltu⟩ := cells4 (HZ.out.2.1.next hb6); obtain ⟨⟨y0, y1, y2, y3⟩, ⟨a0, a1, a2, a3⟩, lty⟩ := cells4 (HZ.out.2.2.next hb6); have HZ6 := Hd (And.intro (HZ.out.2.1.next hb6) (HZ.out.2.2.next hb6)); have HB6 := Hd (HBW.out.trans (hb6.mono HBW.out.size)); have ho6 : Own w6 W7.heap.size A6 n6 c6 (if OKB = true then XS else []) := ho6'; have HO6 := Hd ho6; clear hb6 hb6' ho6 ho6')
 all_goals
  cases OKB with
  | false =>
   go_wp2_with fail
   have hz6 : Blk (w6.setCell ⟨w1.heap.size, 0, none⟩ (.slice A6 n6 c6)) (w.heap.size + 1) #[.slice none 0 0, .slice none 0 0, .slice none 0 0, .slice none 0 0] T75 := HZ6.out.1.other (by show w.heap.size + 1 ≠ w1.heap.size; omega) _
   have hb6w := HB6.out.setCell (p := ⟨w1.heap.size, 0, none⟩) HB5.out.size (.slice A6 n6 c6)
   obtain ⟨⟨j0, j1, j2, j3⟩, -, -⟩ := cells4 (hz6.set4 (.slice Ab nb cb) (.slice A 4 c) (.slice A' 4 c') (.slice At nt ct))
   refine bodyPost_ret (v := .tuple #[.agg #[.slice Ab nb cb, .slice A 4 c, .slice A' 4 c', .slice At nt ct], .string ⟨#[110, 111, 10]⟩]) (by simp [results, Tryz.results52, go_sem, j0, j1, j2, j3]) rfl ?_
   rw [HNO.out (by trivial)]
   exact ⟨_, rfl, sval_fin hz6 hb6w (by omega) (.inl HI.out.1) (.inl HI.out.2.1) (.inl HI.out.2.2.1) (.inl HI.out.2.2.2) _ _ _ _, below_set4 hb6w (by omega) _ _ _ _⟩
  | true =>
   go_wp2_with fail
   have hz6 : Blk (w6.setCell ⟨w1.heap.size, 0, none⟩ (.slice A6 n6 c6)) (w.heap.size + 1) #[.slice none 0 0, .slice none 0 0, .slice none 0 0, .slice none 0 0] T75 := HZ6.out.1.other (by show w.heap.size + 1 ≠ w1.heap.size; omega) _
   have hb6w := HB6.out.setCell (p := ⟨w1.heap.size, 0, none⟩) HB5.out.size (.slice A6 n6 c6)
   obtain ⟨⟨j0, j1, j2, j3⟩, -, -⟩ := cells4 (hz6.set4 (.slice A6 n6 c6) (.slice A 4 c) (.slice A' 4 c') (.slice At nt ct))
   refine bodyPost_ret (v := .tuple #[.agg #[.slice A6 n6 c6, .slice A 4 c, .slice A' 4 c', .slice At nt ct], .string ⟨#[111, 107, 10]⟩]) (by simp [results, Tryz.results52, go_sem, j0, j1, j2, j3]) rfl ?_
   rw [HY.out (by trivial)]
   exact ⟨_, rfl, sval_fin (s := ⟨XS, s.ds, s.ts⟩) hz6 hb6w (by omega) (PI.set (.inr ⟨_, HO6.out⟩) HZ6.out.2 0 _) (.inl HI.out.2.1) (.inl HI.out.2.2.1) (.inl HI.out.2.2.2) _ _ _ _, below_set4 hb6w (by omega) _ _ _ _⟩
end Go.Proofs.YthdoofmfigemoaaGreatDoor
