/-
  The laws' own words on frames: copies, comparisons, marks.
-/
import Derived.Test.YtpaepdlkjblfgaaFrSpec2
namespace Go.Proofs.Ytpaepdlkjblfgaa
open Go.RowKit

/-- a frame of the call's own, whatever it shows -/
def GOwn (w : World) (B : Nat) (v : Value) (hs ls : List Int) : Prop :=
  ∃ A n c A' m c', v = .agg #[.slice A n c, .slice A' m c'] ∧ Own w B A n c hs ∧ Own w B A' m c' ls ∧ Apart (.slice A n c) (.slice A' m c') ∧ Apart (.slice A' m c') (.slice A n c)
theorem FrOwn.g {w : World} {B : Nat} {v : Value} {ds : List Int} (h : FrOwn w B v ds) : GOwn w B v (HiL ds) (LoL ds) := by
  obtain ⟨A, c, A', c', rfl, h1, h2, h3, h4⟩ := h
  exact ⟨A, _, c, A', _, c', rfl, h1, h2, h3, h4⟩
theorem GOwn.next {w w' : World} {B : Nat} {v : Value} {hs ls : List Int} (h : GOwn w B v hs ls) (hb : Below w.heap.size w w') : GOwn w' B v hs ls := by
  obtain ⟨A, n, c, A', m, c', rfl, h1, h2, h3, h4⟩ := h
  exact ⟨A, _, c, A', _, c', rfl, h1.next hb, h2.next hb, h3, h4⟩
theorem GOwn.mono {w : World} {B B' : Nat} {v : Value} {hs ls : List Int} (h : GOwn w B v hs ls) (hB : B' ≤ B) : GOwn w B' v hs ls := by
  obtain ⟨A, n, c, A', m, c', rfl, h1, h2, h3, h4⟩ := h
  exact ⟨A, _, c, A', _, c', rfl, h1.mono hB, h2.mono hB, h3, h4⟩
theorem Own.low {w : World} {B b j n c : Nat} {A : Option Addr} {xs : List Int} (h : Own w B A n c xs) (hb : b < B) {u : Value} : Own (w.setCell ⟨b, j, none⟩ u) B A n c xs :=
  h.kept (grown_set b j u) (fun k hk e => by have := (h.blk k hk).1; injection e; omega)
/-- a frame's rows lie in these blocks -/
def BlkIn (v : Value) (lo hi : Nat) : Prop := ∀ A n c A' m c', v = .agg #[.slice A n c, .slice A' m c'] → (∀ k, (Value.slice A n c).ownBlock = some k → lo ≤ k ∧ k < hi) ∧ (∀ k, (Value.slice A' m c').ownBlock = some k → lo ≤ k ∧ k < hi)
theorem GOwn.blkIn {w : World} {B : Nat} {v : Value} {hs ls : List Int} (h : GOwn w B v hs ls) : BlkIn v B w.heap.size := by
  obtain ⟨A, n, c, A', m, c', rfl, h1, h2, h3, h4⟩ := h
  intro A2 n2 c2 A3 m3 c3 e
  injection e with e
  have e' := congrArg (fun a => a.toList) e
  simp only [List.cons.injEq, and_true] at e'
  obtain ⟨e1, e2⟩ := e'
  rw [← e1, ← e2]
  exact ⟨h1.blk, h2.blk⟩
/-- only blocks in this range may have changed -/
def Within (lo hi : Nat) (w w' : World) : Prop := w'.os = w.os ∧ w'.tape = w.tape ∧ w'.output = w.output ∧ w.heap.size ≤ w'.heap.size ∧ ∀ k, k < w.heap.size → k < lo ∨ hi ≤ k → w'.heap[k]? = w.heap[k]?
theorem Within.below {lo hi B : Nat} {w0 w w' : World} (h : Within lo hi w w') (hb : Below B w0 w) (hB : B ≤ lo) (hB2 : B ≤ w.heap.size) : Below B w0 w' := by
  obtain ⟨h1, h2, h3, h4, h5⟩ := h
  exact hb.trans ⟨h1, h2, h3, h4, fun k hk => h5 k (by omega) (.inl (by omega))⟩
theorem Within.box {lo hi b : Nat} {w w' : World} {u v : Value} (h : Within lo hi w w') (hx : Box w b u v) (hb : b < lo ∨ hi ≤ b) : Box w' b u v := hx.keep (h.2.2.2.2 b hx.lt hb)
theorem Within.own {lo hi lo2 hi2 B n c : Nat} {w w' : World} {A : Option Addr} {xs : List Int} (h : Within lo hi w w') (ho : Own w B A n c xs) (hb : ∀ k, (Value.slice A n c).ownBlock = some k → lo2 ≤ k ∧ k < hi2) (hd : hi2 ≤ lo ∨ hi ≤ lo2) : Own w' B A n c xs := by
  refine ⟨⟨ho.1.1, ?_⟩, ho.2⟩
  rcases ho.1.2 with h0 | ⟨g, cap, cur, hv, h1, hg, rest⟩
  · exact .inl h0
  · have hk := hb g (by rw [hv]; rfl)
    have hl := (Array.getElem?_eq_some_iff.1 hg).1
    exact .inr ⟨g, cap, cur, hv, h1, (h.2.2.2.2 g hl (by omega)).trans hg, rest⟩
theorem Within.gown {lo hi lo2 hi2 B : Nat} {w w' : World} {v : Value} {hs ls : List Int} (h : Within lo hi w w') (ho : GOwn w B v hs ls) (hb : BlkIn v lo2 hi2) (hd : hi2 ≤ lo ∨ hi ≤ lo2) : GOwn w' B v hs ls := by
  obtain ⟨A, n, c, A', m, c', rfl, h1, h2, h3, h4⟩ := ho
  obtain ⟨b1, b2⟩ := hb _ _ _ _ _ _ rfl
  exact ⟨A, _, c, A', _, c', rfl, h.own h1 b1 hd, h.own h2 b2 hd, h3, h4⟩

set_option maxRecDepth 100000 in
set_option maxHeartbeats 1000000 in
theorem toFrame_any (A A' : Option Addr) (n m c c' : Nat) (hs ls : List Int) (w : World) (hx : Ints w w.heap.size A n hs) (hy : Ints w w.heap.size A' m ls) :
    Calls Try.prog 31 #[.agg #[.slice A n c, .slice A' m c']] w fun e w' => (∃ v, e = .returned v ∧ GOwn w' w.heap.size v hs ls) ∧ Below w.heap.size w w' := by
  have HX := Lib.hid hx
  have HY := Lib.hid hy
  clear hx hy
  obtain ⟨W, hW⟩ : ∃ W, ((w.alloc (.cells #[.slice A n c, .slice A' m c'] 43)).alloc (.cells #[.slice none 0 0, .slice none 0 0] 25)).alloc (.cells #[.slice none 0 0, .slice none 0 0] 25) = W := ⟨_, rfl⟩
  have hsz : W.heap.size = w.heap.size + 1 + 1 + 1 := by rw [← hW]; simp
  have h0 : W.heap[w.heap.size]? = some (.cells #[.slice A n c, .slice A' m c'] 43 (0, 0)) := by
    rw [← hW, heap_alloc_if, if_neg (by simp; omega), heap_alloc_if, if_neg (by simp), heap_alloc_if, if_pos rfl]
  have h1 : Box W (w.heap.size + 1) (.slice none 0 0) (.slice none 0 0) := by
    unfold Box
    rw [← hW, heap_alloc_if, if_neg (by simp), heap_alloc_if, if_pos (by simp)]
  have h2 : Box W (w.heap.size + 1 + 1) (.slice none 0 0) (.slice none 0 0) := by
    unfold Box
    rw [← hW, heap_alloc_if, if_pos (by simp)]
  have HB := Lib.hid (hW ▸ (below_two w (.cells #[.slice A n c, .slice A' m c'] 43) (.cells #[.slice none 0 0, .slice none 0 0] 25)).alloc (by simp; omega) (.cells #[.slice none 0 0, .slice none 0 0] 25))
  have HX1 := Lib.hid ((HX.out.below HB.out).mono HB.out.size)
  have HY1 := Lib.hid ((HY.out.below HB.out).mono HB.out.size)
  have HW := Lib.hid hW
  have H0 := Lib.hid h0
  have H1 := Lib.hid h1
  have H2 := Lib.hid h2
  clear hW h0 h1 h2
  go_enter Try.func31, Try.ntmps31
  go_wp2_with fail
  rw [HW.out]
  refine (toIntS_any A n c hs _ HX1.out).mono ?_
  rintro e w1 ⟨⟨A1, c1, rfl, ho1⟩, hb1⟩
  have hv0 := cell_of_row w1 w.heap.size 1 _ _ _ ((hb1.block w.heap.size (by omega)).trans H0.out)
  simp only [List.getElem?_toArray, List.getElem?_cons_zero, List.getElem?_cons_succ] at hv0
  have hz2 := H2.out.next hb1
  have z0 := hz2.fst
  have z1 := hz2.snd
  have f0 := hz2.free 0
  have f1 := hz2.free 1
  have hs1 := hb1.size
  have HZ2 := Lib.hid hz2
  have HO1 := Lib.hid ho1
  have HB1 := Lib.hid (HB.out.trans (hb1.mono (by omega)))
  have H11 := Lib.hid (H1.out.next hb1)
  have HY2 := Lib.hid (HY1.out.next hb1)
  clear hz2 ho1 hb1
  obtain ⟨W2, hW2⟩ : ∃ W2, w1.setCell ⟨w.heap.size + 1 + 1, 0, none⟩ (.slice A1 n c1) = W2 := ⟨_, rfl⟩
  have hg2 : w1.grownBy W2 (some (w.heap.size + 1 + 1)) := by rw [← hW2]; exact grown_set _ _ _
  have hz3 : Box W2 (w.heap.size + 1 + 1) (.slice A1 n c1) (.slice none 0 0) := by
    rw [← hW2]
    have := heap_setCell_same w1 (w.heap.size + 1 + 1) 0 _ _ (.slice A1 n c1) HZ2.out
    simpa [Box] using this
  have hs2 := hg2.size
  have HG2 := Lib.hid hg2
  have HW2 := Lib.hid hW2
  have HZ3 := Lib.hid hz3
  have HO2 := Lib.hid (HO1.out.kept hg2 (fun k hk e => by have := (HO1.out.blk k hk).1; injection e; omega))
  have HB2 := Lib.hid (HB1.out.grown hg2 HB1.out.size (by rintro q ⟨⟩; omega))
  have H12 := Lib.hid (H11.out.grown hg2 (by intro e; injection e with e; omega))
  have HY3 := Lib.hid ((HY.out.below HB2.out).mono HB2.out.size)
  clear hg2 hz3 hW2 HY2
  go_wp2_with fail
  rw [HW2.out]
  refine (toIntS_any A' m c' ls _ HY3.out).mono ?_
  rintro e w3 ⟨⟨A3, c3, rfl, ho3⟩, hb3⟩
  have HAP := Lib.hid (HO2.out.apart ho3)
  have HAP' := Lib.hid (HO2.out.apart' ho3)
  have hz4 := HZ3.out.next hb3
  have z40 := hz4.fst
  have z41 := hz4.snd
  have f40 := hz4.free 0
  have f41 := hz4.free 1
  have hy4 := H12.out.next hb3
  have y40 := hy4.fst
  have y41 := hy4.snd
  have g40 := hy4.free 0
  have g41 := hy4.free 1
  have hs3 := hb3.size
  have HO3 := Lib.hid (ho3.mono (show W.heap.size ≤ W2.heap.size by omega))
  have HO4 := Lib.hid (HO2.out.next hb3)
  have HZ4 := Lib.hid hz4
  have HY4 := Lib.hid hy4
  have HB3 := Lib.hid (HB2.out.trans (hb3.mono HB2.out.size))
  clear z0 z1 f0 f1 hv0 hz4 hy4 ho3 hb3
  go_wp2
  have hbx := HY4.out.keep (heap_setCell_other w3 ⟨w.heap.size + 1 + 1, 1, none⟩ (w.heap.size + 1) (.slice A3 m c3) (by simp))
  refine bodyPost_ret (v := .agg #[.slice A1 n c1, .slice A3 m c3]) (by simp [results, Try.results31, go_sem, over_fst hbx, over_snd hbx]) rfl ⟨⟨_, rfl, ?_⟩, ?_⟩
  · exact GOwn.mono ⟨A1, n, c1, A3, m, c3, rfl, ((HO4.out.low (by omega)).low (by omega)).low (by omega), ((HO3.out.low (by omega)).low (by omega)).low (by omega), HAP.out, HAP'.out⟩ (by omega)
  · exact below_over (HB3.out.setCell (p := ⟨w.heap.size + 1 + 1, 1, none⟩) (by show w.heap.size ≤ w.heap.size + 1 + 1; omega) _) (by omega) _ _

/-- a frame that can be read -/
def FrV (w : World) (v : Value) (hs ls : List Int) : Prop := ∃ A n c A' m c', v = .agg #[.slice A n c, .slice A' m c'] ∧ Ints w w.heap.size A n hs ∧ Ints w w.heap.size A' m ls
theorem GOwn.v {w : World} {B : Nat} {v : Value} {hs ls : List Int} (h : GOwn w B v hs ls) : FrV w v hs ls := by
  obtain ⟨A, n, c, A', m, c', rfl, h1, h2, _⟩ := h
  exact ⟨A, n, c, A', m, c', rfl, h1.ints, h2.ints⟩
theorem FrV.rows {w : World} {A A' : Option Addr} {n m c c' : Nat} {hs ls : List Int} (h : FrV w (.agg #[.slice A n c, .slice A' m c']) hs ls) : Ints w w.heap.size A n hs ∧ Ints w w.heap.size A' m ls := by
  obtain ⟨A2, n2, c2, A3, m3, c3, he, h1, h2⟩ := h
  injection he with he
  have e1 := congrArg (fun a => a.toList) he
  simp only [List.cons.injEq, Value.slice.injEq, and_true] at e1
  obtain ⟨⟨rfl, rfl, rfl⟩, rfl, rfl, rfl⟩ := e1
  exact ⟨h1, h2⟩
set_option maxHeartbeats 1000000 in
theorem eqFrame_eq {v u : Value} {hs ls : List Int} {w : World} (hv : FrV w v hs ls) (hu : FrV w u hs ls) :
    Calls Try.prog 32 #[v, u] w fun e w' => e = .returned (.bool true) ∧ Below w.heap.size w w' := by
  obtain ⟨A, n, c, A', m, c', rfl, h1, h2⟩ := hv
  obtain ⟨B, n2, d, B', m2, d', rfl, h3, h4⟩ := hu
  have HB := Lib.hid (below_two w (.cells #[.slice A n c, .slice A' m c'] 25) (.cells #[.slice B n2 d, .slice B' m2 d'] 25))
  have H1 := Lib.hid ((h1.al (.cells #[.slice A n c, .slice A' m c'] 25)).al (.cells #[.slice B n2 d, .slice B' m2 d'] 25))
  have H2 := Lib.hid ((h2.al (.cells #[.slice A n c, .slice A' m c'] 25)).al (.cells #[.slice B n2 d, .slice B' m2 d'] 25))
  have H3 := Lib.hid ((h3.al (.cells #[.slice A n c, .slice A' m c'] 25)).al (.cells #[.slice B n2 d, .slice B' m2 d'] 25))
  have H4 := Lib.hid ((h4.al (.cells #[.slice A n c, .slice A' m c'] 25)).al (.cells #[.slice B n2 d, .slice B' m2 d'] 25))
  clear h1 h2 h3 h4
  go_enter Try.func32, Try.ntmps32
  go_wp2_with fail
  refine (eqIntS_any A B n n2 c d hs hs _ _ _ H1.out H3.out).mono ?_
  rintro e w1 ⟨rfl, q1, rfl⟩
  rw [sameB_self]
  go_wp2_with fail
  refine (eqIntS_any A' B' m m2 c' d' ls ls _ _ _ (H2.out.drewN q1) (H4.out.drewN q1)).mono ?_
  rintro e w1 ⟨rfl, q2, rfl⟩
  rw [sameB_self]
  go_wp2
  go_ret
  first
    | exact ⟨rfl, below_drewN HB.out _⟩
    | exact ⟨rfl, below_drewN (below_drewN HB.out _) _⟩
set_option maxHeartbeats 1000000 in
theorem sameFrame_eq {v u : Value} {hs ls : List Int} {w : World} (hv : FrV w v hs ls) (hu : FrV w u hs ls) :
    Calls Try.prog 23 #[v, u] w fun e w' => e = .returned (.bool true) ∧ Below w.heap.size w w' := by
  obtain ⟨A, n, c, A', m, c', rfl, h1, h2⟩ := hv
  obtain ⟨B, n2, d, B', m2, d', rfl, h3, h4⟩ := hu
  have HB := Lib.hid (below_two w (.cells #[.slice A n c, .slice A' m c'] 25) (.cells #[.slice B n2 d, .slice B' m2 d'] 25))
  have H1 := Lib.hid ((h1.al (.cells #[.slice A n c, .slice A' m c'] 25)).al (.cells #[.slice B n2 d, .slice B' m2 d'] 25))
  have H2 := Lib.hid ((h2.al (.cells #[.slice A n c, .slice A' m c'] 25)).al (.cells #[.slice B n2 d, .slice B' m2 d'] 25))
  have H3 := Lib.hid ((h3.al (.cells #[.slice A n c, .slice A' m c'] 25)).al (.cells #[.slice B n2 d, .slice B' m2 d'] 25))
  have H4 := Lib.hid ((h4.al (.cells #[.slice A n c, .slice A' m c'] 25)).al (.cells #[.slice B n2 d, .slice B' m2 d'] 25))
  clear h1 h2 h3 h4
  go_enter Try.func23, Try.ntmps23
  go_wp2_with fail
  refine (sameInts_any A B n n2 c d hs hs _ _ _ H1.out H3.out).mono ?_
  rintro e w1 ⟨rfl, q1, rfl⟩
  rw [sameB_self]
  go_wp2_with fail
  refine (sameInts_any A' B' m m2 c' d' ls ls _ _ _ (H2.out.drewN q1) (H4.out.drewN q1)).mono ?_
  rintro e w1 ⟨rfl, q2, rfl⟩
  rw [sameB_self]
  go_wp2
  go_ret
  first
    | exact ⟨rfl, below_drewN HB.out _⟩
    | exact ⟨rfl, below_drewN (below_drewN HB.out _) _⟩

set_option maxHeartbeats 1000000 in
theorem szIntS_any (A : Option Addr) (n c : Nat) (l : Int) (w : World) (hn : n ≤ 9223372036854775807) (h0 : 0 ≤ l) (h1 : l ≤ 1099511627776) :
    Calls Try.prog 62 #[.slice A n c, .int .i64 l] w fun e w' => e = .returned (.int .i64 (if l < n then -1 else l - n)) ∧ w = w' := by
  by_cases h : l < (n : Int)
  · rw [if_pos h]
    have h' : l - (n : Int) < 0 := by omega
    go_enter Try.func62, Try.ntmps62
    go_wp2
    go_ret
    exact ⟨rfl, rfl⟩
  · rw [if_neg h]
    have h' : 0 ≤ l - (n : Int) := by omega
    go_enter Try.func62, Try.ntmps62
    go_wp2
    go_ret
    exact ⟨rfl, rfl⟩
set_option maxHeartbeats 1000000 in
theorem szFrame_any (A A' : Option Addr) (n m c c' : Nat) (w : World) (hn : n ≤ 9223372036854775807) (hm : m ≤ 9223372036854775807) :
    Calls Try.prog 29 #[.agg #[.slice A n c, .slice A' m c'], .int .i64 1048576] w fun e w' => e = .returned (.int .i64 (if 1048576 < n + m then -1 else 1048576 - n - m)) ∧ Below w.heap.size w w' := by
  have HB := Lib.hid ((Below.refl w.heap.size w).alloc (Nat.le_refl _) (.cells #[.slice A n c, .slice A' m c'] 43))
  by_cases h1 : (1048576 : Int) < (n : Int)
  · rw [if_pos (by omega)]
    go_enter Try.func29, Try.ntmps29
    go_wp2_with fail
    refine (szIntS_any A n c 1048576 _ hn (by omega) (by omega)).mono ?_
    rw [if_pos h1]
    rintro e w1 ⟨rfl, rfl⟩
    go_wp2
    go_ret
    exact ⟨rfl, HB.out⟩
  · have h1' : (n : Int) ≤ 1048576 := by omega
    by_cases h2 : (1048576 : Int) - (n : Int) < (m : Int)
    · rw [if_pos (by omega)]
      go_enter Try.func29, Try.ntmps29
      go_wp2_with fail
      refine (szIntS_any A n c 1048576 _ hn (by omega) (by omega)).mono ?_
      rw [if_neg (by omega)]
      rintro e w1 ⟨rfl, rfl⟩
      have h3 : ¬ ((1048576 : Int) - (n : Int) < 0) := by omega
      go_wp2_with fail
      refine (szIntS_any A' m c' (1048576 - (n : Int)) _ hm (by omega) (by omega)).mono ?_
      rw [if_pos h2]
      rintro e w1 ⟨rfl, rfl⟩
      go_wp2
      go_ret
      exact ⟨rfl, HB.out⟩
    · rw [if_neg (by omega)]
      go_enter Try.func29, Try.ntmps29
      go_wp2_with fail
      refine (szIntS_any A n c 1048576 _ hn (by omega) (by omega)).mono ?_
      rw [if_neg (by omega)]
      rintro e w1 ⟨rfl, rfl⟩
      have h3 : ¬ ((1048576 : Int) - (n : Int) < 0) := by omega
      go_wp2_with fail
      refine (szIntS_any A' m c' (1048576 - (n : Int)) _ hm (by omega) (by omega)).mono ?_
      rw [if_neg (by omega)]
      rintro e w1 ⟨rfl, rfl⟩
      have h4 : ¬ ((1048576 : Int) - (n : Int) - (m : Int) < 0) := by omega
      go_wp2
      go_ret
      exact ⟨rfl, HB.out⟩

theorem szFrame_big {A A' : Option Addr} {n m c c' : Nat} {w : World} (hn : n ≤ 9223372036854775807) (hm : m ≤ 9223372036854775807) (h : 1048576 < n + m) :
    Calls Try.prog 29 #[.agg #[.slice A n c, .slice A' m c'], .int .i64 1048576] w fun e w' => e = .returned (.int .i64 (-1)) ∧ Below w.heap.size w w' := by
  have := szFrame_any A A' n m c c' w hn hm
  rwa [if_pos h] at this
theorem szFrame_small {A A' : Option Addr} {n m c c' : Nat} {w : World} (h : n + m ≤ 1048576) :
    Calls Try.prog 29 #[.agg #[.slice A n c, .slice A' m c'], .int .i64 1048576] w fun e w' => e = .returned (.int .i64 (1048576 - n - m)) ∧ Below w.heap.size w w' := by
  have := szFrame_any A A' n m c c' w (by omega) (by omega)
  rwa [if_neg (by omega)] at this
theorem row_len {k : IntKind} {w : World} {a : Option Addr} {len cap : Nat} {zs : List Int} (h : IsRow k w a len cap zs) : len ≤ 9223372036854775807 := by
  rcases h with ⟨_, rfl, _⟩ | ⟨_, _, h1, h2, _⟩
  · omega
  · unfold maxLen at h2; omega
set_option maxHeartbeats 1000000 in
theorem markFrame_any {v : Value} {hs ls : List Int} {w : World} {B hi : Nat} (k : Int) (k0 : 0 ≤ k) (k1 : k ≤ 1000000) (hv : GOwn w B v hs ls) (hb : BlkIn v B hi) (hhi : hi ≤ w.heap.size) (hn : hs.length + ls.length ≤ 2000000) :
    Calls Try.prog 33 #[v, .int .i64 k] w fun e w' => e = .returned (.int .i64 (k + hs.length + ls.length)) ∧ GOwn w' B v (upFrom k hs.length) (upFrom (k + hs.length) ls.length) ∧ Within B hi w w' := by
  obtain ⟨A, n, c, A', m, c', rfl, h1, h2, h3, h4⟩ := hv
  obtain ⟨b1, b2⟩ := hb _ _ _ _ _ _ rfl
  obtain rfl : hs.length = n := h1.len
  obtain rfl : ls.length = m := h2.len
  obtain ⟨n, hn1⟩ : ∃ n, hs.length = n := ⟨_, rfl⟩
  obtain ⟨m, hm1⟩ : ∃ m, ls.length = m := ⟨_, rfl⟩
  rw [hn1] at h1 h3 h4 b1 hn ⊢
  rw [hm1] at h2 h3 h4 b2 hn ⊢
  have H1 := Lib.hid (h1.alloc (.cells #[.slice A n c, .slice A' m c'] 25))
  have H2 := Lib.hid (h2.alloc (.cells #[.slice A n c, .slice A' m c'] 25))
  have HB1 := Lib.hid b1
  have HB2 := Lib.hid b2
  have H3 := Lib.hid h3
  have H4 := Lib.hid h4
  have HV := Lib.hid (Box.new w (.slice A n c) (.slice A' m c'))
  clear h1 h2 h3 h4 hn1 hm1 b1 b2 hb
  go_enter Try.func33, Try.ntmps33
  go_wp2_with fail
  refine (markIntS_any A n c hs _ B k k0 (by omega) H1.out).mono ?_
  rintro e w1 ⟨rfl, ho1, hg1⟩
  have hv1 := (HV.out.grown hg1 (by intro e; have := (H1.out.blk w.heap.size e.symm); have := HB1.out w.heap.size e.symm; omega))
  have hc0 := hv1.fst
  have hc1 := hv1.snd
  have HO1 := Lib.hid ho1
  have HG1 := Lib.hid hg1
  have HO2 := Lib.hid (H2.out.kept hg1 H3.out)
  clear hv1 ho1 hg1
  go_wp2_with fail
  refine (markIntS_any A' m c' ls _ B (k + n) (by omega) (by omega) HO2.out).mono ?_
  rintro e w2 ⟨rfl, ho2, hg2⟩
  have HO3 := Lib.hid (HO1.out.kept hg2 H4.out)
  have HO4 := Lib.hid ho2
  have HG2 := Lib.hid hg2
  clear ho2 hg2
  go_wp2
  go_ret
  refine ⟨rfl, ⟨A, n, c, A', m, c', rfl, HO3.out, HO4.out, H3.out, H4.out⟩, ?_⟩
  have g1 := HG1.out
  have g2 := HG2.out
  have hs1 := g1.size
  have hs2 := g2.size
  simp only [World.size_alloc] at hs1
  refine ⟨g2.os.trans g1.os, g2.tape.trans g1.tape, g2.output.trans g1.output, by omega, fun j hj hd => ?_⟩
  rw [g2.block j (by omega) (fun e => by have := HB2.out j e.symm; omega), g1.block j (by simp; omega) (fun e => by have := HB1.out j e.symm; omega)]
  exact Below.heap_alloc w _ j hj

set_option maxHeartbeats 1000000 in
theorem heldFrame_any {v : Value} {n m : Nat} {w : World} (k : Int) (k0 : 0 ≤ k) (k1 : k ≤ 1000000) (hn : n + m ≤ 2000000) (hv : FrV w v (upFrom k n) (upFrom (k + n) m)) :
    Calls Try.prog 34 #[v, .int .i64 k] w fun e w' => e = .returned (.int .i64 (k + n + m)) ∧ Below w.heap.size w w' := by
  obtain ⟨A, n2, c, A', m2, c', rfl, h1, h2⟩ := hv
  obtain rfl : n = n2 := by have := h1.len; rwa [upFrom_length] at this
  obtain rfl : m = m2 := by have := h2.len; rwa [upFrom_length] at this
  have H1 := Lib.hid (h1.al (.cells #[.slice A n c, .slice A' m c'] 25))
  have H2 := Lib.hid (h2.al (.cells #[.slice A n c, .slice A' m c'] 25))
  have HB := Lib.hid ((Below.refl w.heap.size w).alloc (Nat.le_refl _) (.cells #[.slice A n c, .slice A' m c'] 25))
  clear h1 h2
  go_enter Try.func34, Try.ntmps34
  go_wp2_with fail
  refine (heldIntS_any A n c _ _ k k0 (by omega) H1.out).mono ?_
  rintro e w1 ⟨rfl, rfl⟩
  go_wp2_with fail
  refine (heldIntS_any A' m c' _ _ (k + n) (by omega) (by omega) H2.out).mono ?_
  rintro e w1 ⟨rfl, rfl⟩
  go_wp2
  go_ret
  exact ⟨rfl, HB.out⟩
end Go.Proofs.Ytpaepdlkjblfgaa
