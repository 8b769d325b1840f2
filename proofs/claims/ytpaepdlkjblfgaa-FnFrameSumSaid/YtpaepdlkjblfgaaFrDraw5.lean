/-
  The draws of frames: the laws' draws of a frame with a number.
-/
import Derived.Test.YtpaepdlkjblfgaaFrDraw4
import Derived.Test.YtpaepdlkjblfgaaFrSpec7
namespace Go.Proofs.Ytpaepdlkjblfgaa
open Go.RowKit

set_option maxRecDepth 100000 in
set_option maxHeartbeats 1000000 in
theorem DrawFrameSum_any (A : Option Addr) (n c : Nat) (w : World) (h : Bytes w w.heap.size A n c) (hn : n ≤ 1048576) :
    Calls Try.prog 43 #[.slice A n c] w (fun e w' => ∃ v N, e = .returned (.tuple #[v, .int .i64 N]) ∧ -1 ≤ N ∧ N ≤ 1000000 ∧ DrewF w v w') := by
  have H := Lib.hid (h.next (below_al1 w (.cells #[.slice none 0 0, .slice none 0 0] 25)))
  have HZ := Lib.hid (Box.new w (.slice none 0 0) (.slice none 0 0))
  clear h
  go_enter Try.func43, Try.ntmps43
  go_wp2_with fail
  refine (l6Open_any _ _ _ _ H.out hn).mono ?_
  rintro e w0 ⟨rfl, hrd, hb⟩
  simp only [World.size_alloc] at hrd
  have hlt := hrd.lt
  have hsz0 := hb.size
  simp only [World.size_alloc] at hsz0
  have HB := Lib.hid ((below_al1 w (.cells #[.slice none 0 0, .slice none 0 0] 25)).trans (hb.mono (by simp)))
  replace HZ := Lib.hid (HZ.out.next hb)
  have HR := Lib.hid hrd
  clear hrd hb
  go_wp2_with fail
  refine (l92Number_any _ _ _ _ HR.out (by omega)).mono ?_
  rintro e w2 ⟨A, n, c, A', m, c', hs, ls, N, q2, rfl, hx2, hn, hn1, hm, hN1, hN2, -, -, hg2⟩
  have hz2 := HZ.out.grown hg2 (by intro e; injection e; omega)
  have hc0 := hz2.fst
  have hc1 := hz2.snd
  have hf0 := hz2.free 0
  have hf1 := hz2.free 1
  have hzl := hz2.lt
  have hb3 := hz2.over (.slice A n c) (.slice A' m c')
  have hfin := drewF_of (w := w) (c := c) (c' := c') hx2 hz2 hn hn1 hm (HB.out.trans (base_in hg2 (by omega) (by omega))) (Nat.le_refl _)
  have HF := Lib.hid hfin
  have HC3 := Lib.hid hb3.fst
  have HD3 := Lib.hid hb3.snd
  clear hfin hx2 hg2 hz2 hb3
  go_wp2
  exact bodyPost_ret (v := .tuple #[.agg #[.slice A n c, .slice A' m c'], .int .i64 N]) (by simp [results, Try.results43, go_sem, HC3.out, HD3.out]) rfl ⟨_, _, rfl, hN1, hN2, HF.out⟩

/-- the end of DrawFrameLess: the frame is laid into the result's cell -/
theorem drewF_at {w w3 w4 : World} {g n c m c' : Nat} {A A' : Option Addr} {hs ls : List Int} (hx : ∀ v, w3.grownBy v (some g) → Ints v v.heap.size A n hs ∧ Ints v v.heap.size A' m ls) (hb4 : Below w3.heap.size w3 w4) (hz : Box w4 w.heap.size (.slice none 0 0) (.slice none 0 0))
    (hn : n ≤ 6) (hn1 : 1 ≤ n ∧ n ≤ c ∧ m ≤ c') (hm : m ≤ 6) (hB : Below w.heap.size w w4) :
    DrewF w (.agg #[.slice A n c, .slice A' m c']) ((w4.setCell ⟨w.heap.size, 0, none⟩ (.slice A n c)).setCell ⟨w.heap.size, 1, none⟩ (.slice A' m c')) :=
  drewF_of (g := g) (fun v h => hx v ((grown_of_below hb4 _).trans h)) hz hn hn1 hm hB (Nat.le_refl _)
set_option maxRecDepth 100000 in
set_option maxHeartbeats 4000000 in
theorem DrawFrameLess_any (A : Option Addr) (n c : Nat) (w : World) (h : Bytes w w.heap.size A n c) (hn : n ≤ 1048576) :
    Calls Try.prog 44 #[.slice A n c] w (fun e w' => ∃ v N, e = .returned (.tuple #[v, .int .i64 N]) ∧ -1 ≤ N ∧ N ≤ 1000000 ∧ DrewF w v w') := by
  have H := Lib.hid (h.next (below_al1 w (.cells #[.slice none 0 0, .slice none 0 0] 25)))
  have HZ := Lib.hid (Box.new w (.slice none 0 0) (.slice none 0 0))
  clear h
  go_enter Try.func44, Try.ntmps44
  go_wp2_with fail
  refine (l6Open_any _ _ _ _ H.out hn).mono ?_
  rintro e w0 ⟨rfl, hrd, hb⟩
  simp only [World.size_alloc] at hrd
  have hlt := hrd.lt
  have hsz0 := hb.size
  simp only [World.size_alloc] at hsz0
  have HB := Lib.hid ((below_al1 w (.cells #[.slice none 0 0, .slice none 0 0] 25)).trans (hb.mono (by simp)))
  replace HZ := Lib.hid (HZ.out.next hb)
  have HR := Lib.hid hrd
  clear hrd hb
  go_wp2_with fail
  refine (l92Number_any _ _ _ _ HR.out (by omega)).mono ?_
  rintro e w2 ⟨A, n, c, A', m, c', hs, ls, N, q2, rfl, hx2, hn, hn1, hm, hN1, hN2, hrd2, hq2, hg2⟩
  have HNC := Lib.hid hn1
  have hsz2 := hg2.size
  have hz2 := (HZ.out.grown hg2 (by intro e; injection e; omega)).alloc (.cells #[.slice A n c, .slice A' m c'] 25)
  have hx5 := Box.new w2 (.slice A n c) (.slice A' m c')
  have hx50 := hx5.fst
  have hx51 := hx5.snd
  have HZ2 := Lib.hid hz2
  have HX5 := Lib.hid hx5
  have HR5 := Lib.hid (hrd2.alloc (.cells #[.slice A n c, .slice A' m c'] 25))
  have HP := Lib.hid hx2
  replace HB := Lib.hid ((HB.out.trans (base_in hg2 (by omega) (by omega))).trans (((Below.refl w2.heap.size w2).alloc (Nat.le_refl _) (.cells #[.slice A n c, .slice A' m c'] 25)).mono (by omega)))
  clear hx2 hrd2 hg2 hz2 hx5
  go_wp2_with fail
  refine (pick_any _ _ _ _ _ HR5.out (by omega)).mono ?_
  rintro e w3 ⟨v3, rfl, hv3, hrd3, hg3⟩
  obtain ⟨hva3, hvb3⟩ := hv3 (by omega)
  clear hv3
  have hsz3 := hg3.size
  simp only [World.size_alloc] at hsz3
  have hz3 := HZ2.out.grown hg3 (by intro e; injection e; omega)
  have hx3 := HX5.out.grown hg3 (by intro e; injection e; omega)
  have x30 := hx3.fst
  have x31 := hx3.snd
  have x3l := hx3.lt
  have z30 := hz3.fst
  have z31 := hz3.snd
  have y30 := hz3.free 0
  have y31 := hz3.free 1
  have z3l := hz3.lt
  have HZ3 := Lib.hid hz3
  have HX3 := Lib.hid hx3
  replace HP := Lib.hid (fun v h => HP.out v (((World.grownBy_alloc w2 _ _).trans hg3).trans h))
  replace HB := Lib.hid (HB.out.trans (base_in hg3 (by omega) (by simp; omega)))
  clear hrd3 hg3 hz3 hx3 HX5 HZ2 HR5 hx50 hx51
  obtain ⟨hi3, hj3⟩ := HP.out w3 (World.grownBy.refl _ _)
  obtain ⟨V, hV0, hV1, hcall⟩ := specFrameValue_any A A' n m c c' hs ls w3 hi3 hj3
  have HCALL := Lib.hid hcall
  have HPB : Hid (∀ v, Below w3.heap.size w3 v → Ints v v.heap.size A n hs ∧ Ints v v.heap.size A' m ls) := Lib.hid fun v hv => ⟨hi3.next hv, hj3.next hv⟩
  clear hcall hi3 hj3
  by_cases h0 : 0 < v3
  · go_wp2_with fail
    refine (HCALL.out _ (HPB.out _ (Below.refl _ _)).1 (HPB.out _ (Below.refl _ _)).2).mono ?_
    rintro e w4 ⟨rfl, hb4⟩
    have hx4 := HX3.out.next hb4
    have x40 := hx4.fst
    have x41 := hx4.snd
    have x4l := hx4.lt
    have hz4 := HZ3.out.next hb4
    have z40 := hz4.fst
    have z41 := hz4.snd
    have y40 := hz4.free 0
    have y41 := hz4.free 1
    have z4l := hz4.lt
    have hs4 := hb4.size
    have HZ4 := Lib.hid hz4
    have HX4 := Lib.hid hx4
    have HB4 := Lib.hid hb4
    have HBB := Lib.hid (HB.out.trans (hb4.mono HB.out.size))
    clear hx4 hz4 hb4 x30 x31 x3l z30 z31 y30 y31 z3l
    by_cases hp : 0 < V
    · have u1 : IntKind.i64.wrap (V + 1) = V + 1 := IntWalk.i64_in _ (by omega)
      have hne : ¬ V + 1 = 0 := by omega
      have hne2 : ((V + 1) == 0) = false := by simpa using hne
      have zne : w2.heap.size ≠ w.heap.size := by omega
      have zne' : w.heap.size ≠ w2.heap.size := by omega
      go_wp2_with fail
      go_region_held3 (fun w' => w'.cell? ⟨w2.heap.size, 0, none⟩ = some (.slice A n c) ∧ w'.cell? ⟨w2.heap.size, 1, none⟩ = some (.slice A' m c'))
        (first | (constructor <;> go_simp) | go_keep)
        (first
          | (go_at_call 72; (try go_split_ands); (refine (HCALL.out _ (HPB.out _ (below_drewN HB4.out 1)).1 (HPB.out _ (below_drewN HB4.out 1)).2).mono ?_); rintro e w5 ⟨rfl, hb5⟩; have hx5 := HX4.out.next hb5.drew_; have x50 := hx5.fst; have x51 := hx5.snd; have x5l := hx5.lt; have hz5 := HZ4.out.next hb5.drew_; have z50 := hz5.fst; have z51 := hz5.snd; have y50 := hz5.free 0; have y51 := hz5.free 1; have z5l := hz5.lt; have HZ5 := Lib.hid hz5; have HB5 := Lib.hid (below_chain HB4.out hb5.drew_); have HBC := Lib.hid (HBB.out.trans (hb5.drew_.mono HBB.out.size)); clear hx5 hz5 hb5))
      all_goals go_wp2
      all_goals
        have hr0 : -1 ≤ N.tmod (V + 1) := by
          by_cases hq : 0 ≤ N
          · have := Int.tmod_nonneg (V + 1) hq; omega
          · obtain rfl : N = -1 := by omega
            have := Int.lt_tmod_of_pos (-1) (show 0 < V + 1 by omega)
            have h2 : (-1 : Int).tmod (V + 1) = -((1 : Int).tmod (V + 1)) := Int.neg_tmod 1 (V + 1)
            have h3 := Int.tmod_lt_of_pos 1 (show 0 < V + 1 by omega)
            have h4 : (1 : Int).tmod (V + 1) ≤ 1 := by
              by_cases hv1 : V + 1 = 1
              · omega
              · rw [Int.tmod_eq_of_lt (by omega) (by omega)]; omega
            omega
        have hr1 : N.tmod (V + 1) ≤ 1000000 := by have := Int.tmod_lt_of_pos N (show 0 < V + 1 by omega); omega
        have hfin := drewF_at (w := w) (c := c) (c' := c') HP.out HB5.out HZ5.out hn HNC.out hm HBC.out
        have hb3 := HZ5.out.over (.slice A n c) (.slice A' m c')
        have hc3 := hb3.fst
        have hd3 := hb3.snd
        exact bodyPost_ret (v := .tuple #[.agg #[.slice A n c, .slice A' m c'], .int .i64 (N.tmod (V + 1))]) (by simp [results, Try.results44, go_sem, hc3, hd3]) rfl ⟨_, _, rfl, hr0, hr1, hfin⟩
    · have hfin := drewF_at (w := w) (c := c) (c' := c') HP.out HB4.out HZ4.out hn HNC.out hm HBB.out
      have HF := Lib.hid hfin
      have hb3 := HZ4.out.over (.slice A n c) (.slice A' m c')
      have HC3 := Lib.hid hb3.fst
      have HD3 := Lib.hid hb3.snd
      clear hfin hb3
      go_wp2
      exact bodyPost_ret (v := .tuple #[.agg #[.slice A n c, .slice A' m c'], .int .i64 N]) (by simp [results, Try.results44, go_sem, HC3.out, HD3.out]) rfl ⟨_, _, rfl, hN1, hN2, HF.out⟩
  · obtain rfl : v3 = 0 := by omega
    have hfin := drewF_at (w := w) (c := c) (c' := c') HP.out (Below.refl _ _) HZ3.out hn HNC.out hm HB.out
    have HF := Lib.hid hfin
    have hb3 := HZ3.out.over (.slice A n c) (.slice A' m c')
    have HC3 := Lib.hid hb3.fst
    have HD3 := Lib.hid hb3.snd
    clear hfin hb3
    go_wp2
    exact bodyPost_ret (v := .tuple #[.agg #[.slice A n c, .slice A' m c'], .int .i64 N]) (by simp [results, Try.results44, go_sem, HC3.out, HD3.out]) rfl ⟨_, _, rfl, hN1, hN2, HF.out⟩
end Go.Proofs.Ytpaepdlkjblfgaa
