/-
  Joined texts.
-/
import Derived.Test.YthdoofmfigemoaaGreatDoorS18
set_option linter.unusedSimpArgs false
set_option linter.unusedVariables false
set_option maxRecDepth 100000
set_option maxHeartbeats 4000000
namespace Go.Proofs.YthdoofmfigemoaaGreatDoor
open Go.RowKit
theorem AskIn.next {w w' : World} {s : St} {k : List UInt8} {ws : List (List UInt8)} {v : Value} {Aw : Option Addr} {nw cw : Nat} (h : AskIn w s k ws v Aw nw cw) (hb : Below w.heap.size w w') : AskIn w' s k ws v Aw nw cw := ⟨h.hv.next hb, OwnR.next h.hw hb, h.hs, h.hn⟩
theorem l9Line_other (s : St) (hs : InvS s) (k : List UInt8) (ws : List (List UInt8)) (v : Value) (Aw : Option Addr) (nw cw : Nat) (w : World) (h : AskIn w s k ws v Aw nw cw) (R : ByteArray × St) (hR : R = (ask s k (ws.map wnum), s)) (hnt : ¬ Tested k ws.length) :
  Calls Tryz.prog 52 #[v, .slice Aw nw cw] w (LinePost9 w R) := by
 have HA := Hd h
 obtain ⟨hv, hw, h1, h2⟩ := h
 have HV := Hd hv
 obtain ⟨Ab, nb, cb, A, c, A', c', At, nt, ct, rfl, i1, i2, i3, i4⟩ := hv
 have hlen := hw.len
 simp only [List.length_cons, List.length_nil] at hlen
 obtain ⟨g, rfl⟩ := OwnR.some2 hw (by omega)
 have d0 := OwnR.cell2 hw (j := 0) rfl
 have HW := Hd hw
 obtain ⟨t, ht⟩ : ∃ t, bs k = t := ⟨_, rfl⟩
 rw [ht] at d0
 have hg : g < w.heap.size := World.block_lt_of_cell? w _ d0
 have hW0 : (0 : Int) < (nw : Int) := by omega
 have hW2 : 0 < nw := by omega
 have hW1 : (nw : Int) ≤ 2000 := by omega
 obtain ⟨W, hWW, hbl, x2, x4⟩ := line_head w #[.slice Ab nb cb, .slice A 4 c, .slice A' 4 c', .slice At nt ct] #[.slice none 0 0, .slice none 0 0, .slice none 0 0, .slice none 0 0]
 have HN := Hd (l9Numbers_any (some ⟨g, 0, none⟩) 0 nw cw k ws W (by rw [← hWW]; exact (HW.out.alloc _).alloc _) h1 h2)
 have HI := Hd (And.intro i1 (And.intro i2 (And.intro i3 i4)))
 have HB := Hd hbl
 have HWW := Hd hWW
 have HX := Hd (And.intro x2 x4)
 have HT := Hd ht
 have HLEN := Hd hlen
 have HR := Hd hR
 have HNT := Hd hnt
 have HD := Hd (And.intro (fun l (h : k ≠ l) => wd_no ht h) (fun l (h : k = l) => wd_yes ht h))
 have HCC := Hd (fun w h => l9Ask_any s hs k ws (.agg #[.slice Ab nb cb, .slice A 4 c, .slice A' 4 c', .slice At nt ct]) (some ⟨g, 0, none⟩) nw cw w h)
 clear hR hnt
 clear hw h1 h2 hbl hWW ht i1 i2 i3 i4 x2 x4 hlen
 go_enter Tryz.func52, Tryz.ntmps52
 go_wp2_with fail
 rw [HWW.out]
 refine HN.out.mono ?_
 rintro e w1 ⟨A5, c5, rfl, ho5, hb5⟩
 obtain ⟨⟨p0, p1, p2, p3⟩, -, ltp⟩ := cells4 (HX.out.1.next hb5)
 obtain ⟨⟨q0, q1, q2, q3⟩, ⟨r0, r1, r2, r3⟩, ltq⟩ := cells4 (HX.out.2.next hb5)
 have HX5 := Hd (And.intro (HX.out.1.next hb5) (HX.out.2.next hb5))
 have HB5 := Hd (below_chain HB.out hb5)
 have e0 := (HB5.out.cell (p := ⟨g, 0, none⟩) hg).trans d0
 have hg1 : g < w1.heap.size := Nat.lt_of_lt_of_le hg HB5.out.size
 have HO5 := Hd ho5
 clear ho5 hb5 d0
 obtain ⟨m, hm⟩ : ∃ m, ws.length = m := ⟨_, rfl⟩
 rw [hm] at HO5 HNT ⊢
 clear hm
 by_cases hk : k = wLay
 ·have hne : ¬ m = 1 := fun h => HNT.out (.inl ⟨hk, h⟩)
  have i1 : ¬ (m : Int) = 1 := by omega
  have i2 : ((m : Int) == 1) = false := by simpa using i1
  have f0 := HD.out.2 wLay hk
  have f1 := HD.out.1 wReduce (by rw [hk]; decide)
  have f2 := HD.out.1 wRaise (by rw [hk]; decide)
  have f3 := HD.out.1 wAdd (by rw [hk]; decide)
  have f4 := HD.out.1 wTake (by rw [hk]; decide)
  have f5 := HD.out.1 wOwe (by rw [hk]; decide)
  have f6 := HD.out.1 wSettle (by rw [hk]; decide)
  unfold wLay at f0
  unfold wReduce at f1
  unfold wRaise at f2
  unfold wAdd at f3
  unfold wTake at f4
  unfold wOwe at f5
  unfold wSettle at f6
  clear hk hne HD HNT
  go_wp2_with fail
  obtain ⟨W7, hW7, hb7, ⟨z2, z4, z7⟩, hbw⟩ := line_w7 HX5.out.1 HX5.out.2 HB5.out #[.slice Ab nb cb, .slice A 4 c, .slice A' 4 c', .slice At nt ct]
  have HZ := Hd (And.intro z2 (And.intro z4 z7))
  have HBW := Hd hbw
  obtain ⟨⟨s0, s1, s2, s3⟩, -, lts⟩ := cells4 z2
  have e7 := (hb7.cell (p := ⟨g, 0, none⟩) hg1).trans e0
  have hg7 : g < W7.heap.size := Nat.lt_of_lt_of_le hg hbw.size
  rw [hW7]
  clear hW7 hb7 z7 z2 z4 hbw
  refine wp_region_held_drew (S := (fun w' => w'.cell? ⟨w.heap.size, 0, none⟩ = some (.slice Ab nb cb) ∧ w'.cell? ⟨w.heap.size, 1, none⟩ = some (.slice A 4 c) ∧ w'.cell? ⟨w.heap.size, 2, none⟩ = some (.slice A' 4 c') ∧ w'.cell? ⟨w.heap.size, 3, none⟩ = some (.slice At nt ct))) (by kernel_rfl) ?_ (fun hHeld => ?_)
  ·(try dsimp only)
   all_goals (first | (refine ⟨?_, ?_, ?_, ?_⟩ <;> go_simp) | go_keep)
  refine Tk 0 (some 13) (v := ?v1001) rfl (Or.inl ⟨by rfl, ?hy1001⟩) (by first | assumption | exact hHeld) ?rest1001
  case hy1001 => ((intro w0 hSw; (try dsimp only at hSw); go_simp) <;> with_reducible rfl)
  (try simp only [Tp0, Tp1, Tp2, Tp3, Tp4])
  refine Tk 1 (some 14) (v := ?v1002) rfl (Or.inl ⟨by rfl, ?hy1002⟩) (by first | assumption | exact hHeld) ?rest1002
  case hy1002 => ((intro w0 hSw; (try dsimp only at hSw); go_simp) <;> with_reducible rfl)
  (try simp only [Tp0, Tp1, Tp2, Tp3, Tp4])
  refine Tk 2 (some 15) (v := ?v1003) rfl (Or.inl ⟨by rfl, ?hy1003⟩) (by first | assumption | exact hHeld) ?rest1003
  case hy1003 => ((intro w0 hSw; (try dsimp only at hSw); go_simp) <;> with_reducible rfl)
  (try simp only [Tp0, Tp1, Tp2, Tp3, Tp4])
  refine wpAnyH_ready (rs := [3]) (by kernel_rfl) (by simp) ?_
  refine AllReadyH.cons (o := ⟨some 16, _, _, _, _, _⟩) rfl (fun K hK => ?_) ?_
  ·go_simp
   refine (HCC.out _ (HA.out.next (show Below w.heap.size w W7.drew from HBW.out.drew))).mono ?_
   rintro e w6 ⟨rfl, hb6'⟩
   have hb6 := (Below.refl W7.heap.size W7).drew.trans hb6'
   obtain ⟨⟨t0, t1, t2, t3⟩, -, ltt⟩ := cells4 (HZ.out.1.next hb6)
   obtain ⟨⟨u0, u1, u2, u3⟩, ⟨v0, v1, v2, v3⟩, ltu⟩ := cells4 (HZ.out.2.1.next hb6)
   obtain ⟨⟨y0, y1, y2, y3⟩, ⟨a0, a1, a2, a3⟩, lty⟩ := cells4 (HZ.out.2.2.next hb6)
   have HZ6 := Hd (And.intro (HZ.out.2.1.next hb6) (HZ.out.2.2.next hb6))
   have HB6 := Hd (HBW.out.trans (hb6.mono HBW.out.size))
   clear hb6 hb6'
   (try go_wp2_with fail)
   refine hK.out _ _ ?_ (fun hHeld1004 => ?_)
   ·(try dsimp only)
    all_goals (first | (refine ⟨?_, ?_, ?_, ?_⟩ <;> go_simp) | go_keep)
   clear hK K
   (try clear hHeld)
   (try simp only [Tp0, Tp1, Tp2, Tp3, Tp4])
   refine wpAnyH_ready (rs := [4]) (by kernel_rfl) (by simp) ?_
   refine AllReadyH.cons (o := ⟨none, _, _, _, _, _⟩) rfl (fun K hK => ?_) ?_
   ·go_simp
    refine hK.out _ _ ?_ (fun hHeld1005 => ?_)
    ·(try dsimp only)
     all_goals (first | (refine ⟨?_, ?_, ?_, ?_⟩ <;> go_simp) | go_keep)
    clear hK K
    (try clear hHeld1004)
    (try simp only [Tp0, Tp1, Tp2, Tp3, Tp4])
    refine Tk 5 (some 5) (v := ?v1006) rfl (Or.inl ⟨by rfl, ?hy1006⟩) (by first | assumption | exact hHeld1005) ?rest1006
    case hy1006 => ((intro w0 hSw; (try dsimp only at hSw); go_simp) <;> with_reducible rfl)
    (try simp only [Tp0, Tp1, Tp2, Tp3, Tp4])
    refine wpAnyH_done (by kernel_rfl) ?_ _
    go_wp2_with fail
    obtain ⟨⟨j0, j1, j2, j3⟩, -, -⟩ := cells4 (HZ6.out.1.set4 (.slice Ab nb cb) (.slice A 4 c) (.slice A' 4 c') (.slice At nt ct))
    refine bodyPost_ret (v := .tuple #[.agg #[.slice Ab nb cb, .slice A 4 c, .slice A' 4 c', .slice At nt ct], .string (ask s k (ws.map wnum))]) (by simp [results, Tryz.results52, go_sem, j0, j1, j2, j3]) rfl ?_
    rw [HR.out]
    exact ⟨_, rfl, sval_fin HZ6.out.1 HB6.out (by omega) (.inl HI.out.1) (.inl HI.out.2.1) (.inl HI.out.2.2.1) (.inl HI.out.2.2.2) _ _ _ _, below_set4 HB6.out (by omega) _ _ _ _⟩
   exact AllReadyH.nil
  exact AllReadyH.nil
 have h0' := HD.out.1 wLay hk
 clear hk
 by_cases hk : k = wReduce
 ·have hne : ¬ m = 0 := fun h => HNT.out (.inr (.inl ⟨hk, h⟩))
  have i1 : ¬ (m : Int) = 0 := by omega
  have i2 : ((m : Int) == 0) = false := by simpa using i1
  have f0 := HD.out.1 wLay (by rw [hk]; decide)
  have f1 := HD.out.2 wReduce hk
  have f2 := HD.out.1 wRaise (by rw [hk]; decide)
  have f3 := HD.out.1 wAdd (by rw [hk]; decide)
  have f4 := HD.out.1 wTake (by rw [hk]; decide)
  have f5 := HD.out.1 wOwe (by rw [hk]; decide)
  have f6 := HD.out.1 wSettle (by rw [hk]; decide)
  unfold wLay at f0
  unfold wReduce at f1
  unfold wRaise at f2
  unfold wAdd at f3
  unfold wTake at f4
  unfold wOwe at f5
  unfold wSettle at f6
  clear hk hne HD HNT
  go_wp2_with fail
  obtain ⟨W7, hW7, hb7, ⟨z2, z4, z7⟩, hbw⟩ := line_w7 HX5.out.1 HX5.out.2 HB5.out #[.slice Ab nb cb, .slice A 4 c, .slice A' 4 c', .slice At nt ct]
  have HZ := Hd (And.intro z2 (And.intro z4 z7))
  have HBW := Hd hbw
  obtain ⟨⟨s0, s1, s2, s3⟩, -, lts⟩ := cells4 z2
  have e7 := (hb7.cell (p := ⟨g, 0, none⟩) hg1).trans e0
  have hg7 : g < W7.heap.size := Nat.lt_of_lt_of_le hg hbw.size
  rw [hW7]
  clear hW7 hb7 z7 z2 z4 hbw
  refine wp_region_held_drew (S := (fun w' => w'.cell? ⟨w.heap.size, 0, none⟩ = some (.slice Ab nb cb) ∧ w'.cell? ⟨w.heap.size, 1, none⟩ = some (.slice A 4 c) ∧ w'.cell? ⟨w.heap.size, 2, none⟩ = some (.slice A' 4 c') ∧ w'.cell? ⟨w.heap.size, 3, none⟩ = some (.slice At nt ct))) (by kernel_rfl) ?_ (fun hHeld => ?_)
  ·(try dsimp only)
   all_goals (first | (refine ⟨?_, ?_, ?_, ?_⟩ <;> go_simp) | go_keep)
  refine Tk 0 (some 13) (v := ?v2001) rfl (Or.inl ⟨by rfl, ?hy2001⟩) (by first | assumption | exact hHeld) ?rest2001
  case hy2001 => ((intro w0 hSw; (try dsimp only at hSw); go_simp) <;> with_reducible rfl)
  (try simp only [Tp0, Tp1, Tp2, Tp3, Tp4])
  refine Tk 1 (some 14) (v := ?v2002) rfl (Or.inl ⟨by rfl, ?hy2002⟩) (by first | assumption | exact hHeld) ?rest2002
  case hy2002 => ((intro w0 hSw; (try dsimp only at hSw); go_simp) <;> with_reducible rfl)
  (try simp only [Tp0, Tp1, Tp2, Tp3, Tp4])
  refine Tk 2 (some 15) (v := ?v2003) rfl (Or.inl ⟨by rfl, ?hy2003⟩) (by first | assumption | exact hHeld) ?rest2003
  case hy2003 => ((intro w0 hSw; (try dsimp only at hSw); go_simp) <;> with_reducible rfl)
  (try simp only [Tp0, Tp1, Tp2, Tp3, Tp4])
  refine wpAnyH_ready (rs := [3]) (by kernel_rfl) (by simp) ?_
  refine AllReadyH.cons (o := ⟨some 16, _, _, _, _, _⟩) rfl (fun K hK => ?_) ?_
  ·go_simp
   refine (HCC.out _ (HA.out.next (show Below w.heap.size w W7.drew from HBW.out.drew))).mono ?_
   rintro e w6 ⟨rfl, hb6'⟩
   have hb6 := (Below.refl W7.heap.size W7).drew.trans hb6'
   obtain ⟨⟨t0, t1, t2, t3⟩, -, ltt⟩ := cells4 (HZ.out.1.next hb6)
   obtain ⟨⟨u0, u1, u2, u3⟩, ⟨v0, v1, v2, v3⟩, ltu⟩ := cells4 (HZ.out.2.1.next hb6)
   obtain ⟨⟨y0, y1, y2, y3⟩, ⟨a0, a1, a2, a3⟩, lty⟩ := cells4 (HZ.out.2.2.next hb6)
   have HZ6 := Hd (And.intro (HZ.out.2.1.next hb6) (HZ.out.2.2.next hb6))
   have HB6 := Hd (HBW.out.trans (hb6.mono HBW.out.size))
   clear hb6 hb6'
   (try go_wp2_with fail)
   refine hK.out _ _ ?_ (fun hHeld2004 => ?_)
   ·(try dsimp only)
    all_goals (first | (refine ⟨?_, ?_, ?_, ?_⟩ <;> go_simp) | go_keep)
   clear hK K
   (try clear hHeld)
   (try simp only [Tp0, Tp1, Tp2, Tp3, Tp4])
   refine wpAnyH_ready (rs := [4]) (by kernel_rfl) (by simp) ?_
   refine AllReadyH.cons (o := ⟨none, _, _, _, _, _⟩) rfl (fun K hK => ?_) ?_
   ·go_simp
    refine hK.out _ _ ?_ (fun hHeld2005 => ?_)
    ·(try dsimp only)
     all_goals (first | (refine ⟨?_, ?_, ?_, ?_⟩ <;> go_simp) | go_keep)
    clear hK K
    (try clear hHeld2004)
    (try simp only [Tp0, Tp1, Tp2, Tp3, Tp4])
    refine Tk 5 (some 5) (v := ?v2006) rfl (Or.inl ⟨by rfl, ?hy2006⟩) (by first | assumption | exact hHeld2005) ?rest2006
    case hy2006 => ((intro w0 hSw; (try dsimp only at hSw); go_simp) <;> with_reducible rfl)
    (try simp only [Tp0, Tp1, Tp2, Tp3, Tp4])
    refine wpAnyH_done (by kernel_rfl) ?_ _
    go_wp2_with fail
    obtain ⟨⟨j0, j1, j2, j3⟩, -, -⟩ := cells4 (HZ6.out.1.set4 (.slice Ab nb cb) (.slice A 4 c) (.slice A' 4 c') (.slice At nt ct))
    refine bodyPost_ret (v := .tuple #[.agg #[.slice Ab nb cb, .slice A 4 c, .slice A' 4 c', .slice At nt ct], .string (ask s k (ws.map wnum))]) (by simp [results, Tryz.results52, go_sem, j0, j1, j2, j3]) rfl ?_
    rw [HR.out]
    exact ⟨_, rfl, sval_fin HZ6.out.1 HB6.out (by omega) (.inl HI.out.1) (.inl HI.out.2.1) (.inl HI.out.2.2.1) (.inl HI.out.2.2.2) _ _ _ _, below_set4 HB6.out (by omega) _ _ _ _⟩
   exact AllReadyH.nil
  exact AllReadyH.nil
 have h1' := HD.out.1 wReduce hk
 clear hk
 by_cases hk : k = wRaise
 ·have hne : ¬ m = 1 := fun h => HNT.out (.inr (.inr (.inl ⟨hk, h⟩)))
  have i1 : ¬ (m : Int) = 1 := by omega
  have i2 : ((m : Int) == 1) = false := by simpa using i1
  have f0 := HD.out.1 wLay (by rw [hk]; decide)
  have f1 := HD.out.1 wReduce (by rw [hk]; decide)
  have f2 := HD.out.2 wRaise hk
  have f3 := HD.out.1 wAdd (by rw [hk]; decide)
  have f4 := HD.out.1 wTake (by rw [hk]; decide)
  have f5 := HD.out.1 wOwe (by rw [hk]; decide)
  have f6 := HD.out.1 wSettle (by rw [hk]; decide)
  unfold wLay at f0
  unfold wReduce at f1
  unfold wRaise at f2
  unfold wAdd at f3
  unfold wTake at f4
  unfold wOwe at f5
  unfold wSettle at f6
  clear hk hne HD HNT
  go_wp2_with fail
  obtain ⟨W7, hW7, hb7, ⟨z2, z4, z7⟩, hbw⟩ := line_w7 HX5.out.1 HX5.out.2 HB5.out #[.slice Ab nb cb, .slice A 4 c, .slice A' 4 c', .slice At nt ct]
  have HZ := Hd (And.intro z2 (And.intro z4 z7))
  have HBW := Hd hbw
  obtain ⟨⟨s0, s1, s2, s3⟩, -, lts⟩ := cells4 z2
  have e7 := (hb7.cell (p := ⟨g, 0, none⟩) hg1).trans e0
  have hg7 : g < W7.heap.size := Nat.lt_of_lt_of_le hg hbw.size
  rw [hW7]
  clear hW7 hb7 z7 z2 z4 hbw
  refine wp_region_held_drew (S := (fun w' => w'.cell? ⟨w.heap.size, 0, none⟩ = some (.slice Ab nb cb) ∧ w'.cell? ⟨w.heap.size, 1, none⟩ = some (.slice A 4 c) ∧ w'.cell? ⟨w.heap.size, 2, none⟩ = some (.slice A' 4 c') ∧ w'.cell? ⟨w.heap.size, 3, none⟩ = some (.slice At nt ct))) (by kernel_rfl) ?_ (fun hHeld => ?_)
  ·(try dsimp only)
   all_goals (first | (refine ⟨?_, ?_, ?_, ?_⟩ <;> go_simp) | go_keep)
  refine Tk 0 (some 13) (v := ?v3001) rfl (Or.inl ⟨by rfl, ?hy3001⟩) (by first | assumption | exact hHeld) ?rest3001
  case hy3001 => ((intro w0 hSw; (try dsimp only at hSw); go_simp) <;> with_reducible rfl)
  (try simp only [Tp0, Tp1, Tp2, Tp3, Tp4])
  refine Tk 1 (some 14) (v := ?v3002) rfl (Or.inl ⟨by rfl, ?hy3002⟩) (by first | assumption | exact hHeld) ?rest3002
  case hy3002 => ((intro w0 hSw; (try dsimp only at hSw); go_simp) <;> with_reducible rfl)
  (try simp only [Tp0, Tp1, Tp2, Tp3, Tp4])
  refine Tk 2 (some 15) (v := ?v3003) rfl (Or.inl ⟨by rfl, ?hy3003⟩) (by first | assumption | exact hHeld) ?rest3003
  case hy3003 => ((intro w0 hSw; (try dsimp only at hSw); go_simp) <;> with_reducible rfl)
  (try simp only [Tp0, Tp1, Tp2, Tp3, Tp4])
  refine wpAnyH_ready (rs := [3]) (by kernel_rfl) (by simp) ?_
  refine AllReadyH.cons (o := ⟨some 16, _, _, _, _, _⟩) rfl (fun K hK => ?_) ?_
  ·go_simp
   refine (HCC.out _ (HA.out.next (show Below w.heap.size w W7.drew from HBW.out.drew))).mono ?_
   rintro e w6 ⟨rfl, hb6'⟩
   have hb6 := (Below.refl W7.heap.size W7).drew.trans hb6'
   obtain ⟨⟨t0, t1, t2, t3⟩, -, ltt⟩ := cells4 (HZ.out.1.next hb6)
   obtain ⟨⟨u0, u1, u2, u3⟩, ⟨v0, v1, v2, v3⟩, ltu⟩ := cells4 (HZ.out.2.1.next hb6)
   obtain ⟨⟨y0, y1, y2, y3⟩, ⟨a0, a1, a2, a3⟩, lty⟩ := cells4 (HZ.out.2.2.next hb6)
   have HZ6 := Hd (And.intro (HZ.out.2.1.next hb6) (HZ.out.2.2.next hb6))
   have HB6 := Hd (HBW.out.trans (hb6.mono HBW.out.size))
   clear hb6 hb6'
   (try go_wp2_with fail)
   refine hK.out _ _ ?_ (fun hHeld3004 => ?_)
   ·(try dsimp only)
    all_goals (first | (refine ⟨?_, ?_, ?_, ?_⟩ <;> go_simp) | go_keep)
   clear hK K
   (try clear hHeld)
   (try simp only [Tp0, Tp1, Tp2, Tp3, Tp4])
   refine wpAnyH_ready (rs := [4]) (by kernel_rfl) (by simp) ?_
   refine AllReadyH.cons (o := ⟨none, _, _, _, _, _⟩) rfl (fun K hK => ?_) ?_
   ·go_simp
    refine hK.out _ _ ?_ (fun hHeld3005 => ?_)
    ·(try dsimp only)
     all_goals (first | (refine ⟨?_, ?_, ?_, ?_⟩ <;> go_simp) | go_keep)
    clear hK K
    (try clear hHeld3004)
    (try simp only [Tp0, Tp1, Tp2, Tp3, Tp4])
    refine Tk 5 (some 5) (v := ?v3006) rfl (Or.inl ⟨by rfl, ?hy3006⟩) (by first | assumption | exact hHeld3005) ?rest3006
    case hy3006 => ((intro w0 hSw; (try dsimp only at hSw); go_simp) <;> with_reducible rfl)
    (try simp only [Tp0, Tp1, Tp2, Tp3, Tp4])
    refine wpAnyH_done (by kernel_rfl) ?_ _
    go_wp2_with fail
    obtain ⟨⟨j0, j1, j2, j3⟩, -, -⟩ := cells4 (HZ6.out.1.set4 (.slice Ab nb cb) (.slice A 4 c) (.slice A' 4 c') (.slice At nt ct))
    refine bodyPost_ret (v := .tuple #[.agg #[.slice Ab nb cb, .slice A 4 c, .slice A' 4 c', .slice At nt ct], .string (ask s k (ws.map wnum))]) (by simp [results, Tryz.results52, go_sem, j0, j1, j2, j3]) rfl ?_
    rw [HR.out]
    exact ⟨_, rfl, sval_fin HZ6.out.1 HB6.out (by omega) (.inl HI.out.1) (.inl HI.out.2.1) (.inl HI.out.2.2.1) (.inl HI.out.2.2.2) _ _ _ _, below_set4 HB6.out (by omega) _ _ _ _⟩
   exact AllReadyH.nil
  exact AllReadyH.nil
 have h2' := HD.out.1 wRaise hk
 clear hk
 by_cases hk : k = wAdd
 ·have hne : ¬ m = 1 := fun h => HNT.out (.inr (.inr (.inr (.inl ⟨hk, h⟩))))
  have i1 : ¬ (m : Int) = 1 := by omega
  have i2 : ((m : Int) == 1) = false := by simpa using i1
  have f0 := HD.out.1 wLay (by rw [hk]; decide)
  have f1 := HD.out.1 wReduce (by rw [hk]; decide)
  have f2 := HD.out.1 wRaise (by rw [hk]; decide)
  have f3 := HD.out.2 wAdd hk
  have f4 := HD.out.1 wTake (by rw [hk]; decide)
  have f5 := HD.out.1 wOwe (by rw [hk]; decide)
  have f6 := HD.out.1 wSettle (by rw [hk]; decide)
  unfold wLay at f0
  unfold wReduce at f1
  unfold wRaise at f2
  unfold wAdd at f3
  unfold wTake at f4
  unfold wOwe at f5
  unfold wSettle at f6
  clear hk hne HD HNT
  go_wp2_with fail
  obtain ⟨W7, hW7, hb7, ⟨z2, z4, z7⟩, hbw⟩ := line_w7 HX5.out.1 HX5.out.2 HB5.out #[.slice Ab nb cb, .slice A 4 c, .slice A' 4 c', .slice At nt ct]
  have HZ := Hd (And.intro z2 (And.intro z4 z7))
  have HBW := Hd hbw
  obtain ⟨⟨s0, s1, s2, s3⟩, -, lts⟩ := cells4 z2
  have e7 := (hb7.cell (p := ⟨g, 0, none⟩) hg1).trans e0
  have hg7 : g < W7.heap.size := Nat.lt_of_lt_of_le hg hbw.size
  rw [hW7]
  clear hW7 hb7 z7 z2 z4 hbw
  refine wp_region_held_drew (S := (fun w' => w'.cell? ⟨w.heap.size, 0, none⟩ = some (.slice Ab nb cb) ∧ w'.cell? ⟨w.heap.size, 1, none⟩ = some (.slice A 4 c) ∧ w'.cell? ⟨w.heap.size, 2, none⟩ = some (.slice A' 4 c') ∧ w'.cell? ⟨w.heap.size, 3, none⟩ = some (.slice At nt ct))) (by kernel_rfl) ?_ (fun hHeld => ?_)
  ·(try dsimp only)
   all_goals (first | (refine ⟨?_, ?_, ?_, ?_⟩ <;> go_simp) | go_keep)
  refine Tk 0 (some 13) (v := ?v4001) rfl (Or.inl ⟨by rfl, ?hy4001⟩) (by first | assumption | exact hHeld) ?rest4001
  case hy4001 => ((intro w0 hSw; (try dsimp only at hSw); go_simp) <;> with_reducible rfl)
  (try simp only [Tp0, Tp1, Tp2, Tp3, Tp4])
  refine Tk 1 (some 14) (v := ?v4002) rfl (Or.inl ⟨by rfl, ?hy4002⟩) (by first | assumption | exact hHeld) ?rest4002
  case hy4002 => ((intro w0 hSw; (try dsimp only at hSw); go_simp) <;> with_reducible rfl)
  (try simp only [Tp0, Tp1, Tp2, Tp3, Tp4])
  refine Tk 2 (some 15) (v := ?v4003) rfl (Or.inl ⟨by rfl, ?hy4003⟩) (by first | assumption | exact hHeld) ?rest4003
  case hy4003 => ((intro w0 hSw; (try dsimp only at hSw); go_simp) <;> with_reducible rfl)
  (try simp only [Tp0, Tp1, Tp2, Tp3, Tp4])
  refine wpAnyH_ready (rs := [3]) (by kernel_rfl) (by simp) ?_
  refine AllReadyH.cons (o := ⟨some 16, _, _, _, _, _⟩) rfl (fun K hK => ?_) ?_
  ·go_simp
   refine (HCC.out _ (HA.out.next (show Below w.heap.size w W7.drew from HBW.out.drew))).mono ?_
   rintro e w6 ⟨rfl, hb6'⟩
   have hb6 := (Below.refl W7.heap.size W7).drew.trans hb6'
   obtain ⟨⟨t0, t1, t2, t3⟩, -, ltt⟩ := cells4 (HZ.out.1.next hb6)
   obtain ⟨⟨u0, u1, u2, u3⟩, ⟨v0, v1, v2, v3⟩, ltu⟩ := cells4 (HZ.out.2.1.next hb6)
   obtain ⟨⟨y0, y1, y2, y3⟩, ⟨a0, a1, a2, a3⟩, lty⟩ := cells4 (HZ.out.2.2.next hb6)
   have HZ6 := Hd (And.intro (HZ.out.2.1.next hb6) (HZ.out.2.2.next hb6))
   have HB6 := Hd (HBW.out.trans (hb6.mono HBW.out.size))
   clear hb6 hb6'
   (try go_wp2_with fail)
   refine hK.out _ _ ?_ (fun hHeld4004 => ?_)
   ·(try dsimp only)
    all_goals (first | (refine ⟨?_, ?_, ?_, ?_⟩ <;> go_simp) | go_keep)
   clear hK K
   (try clear hHeld)
   (try simp only [Tp0, Tp1, Tp2, Tp3, Tp4])
   refine wpAnyH_ready (rs := [4]) (by kernel_rfl) (by simp) ?_
   refine AllReadyH.cons (o := ⟨none, _, _, _, _, _⟩) rfl (fun K hK => ?_) ?_
   ·go_simp
    refine hK.out _ _ ?_ (fun hHeld4005 => ?_)
    ·(try dsimp only)
     all_goals (first | (refine ⟨?_, ?_, ?_, ?_⟩ <;> go_simp) | go_keep)
    clear hK K
    (try clear hHeld4004)
    (try simp only [Tp0, Tp1, Tp2, Tp3, Tp4])
    refine Tk 5 (some 5) (v := ?v4006) rfl (Or.inl ⟨by rfl, ?hy4006⟩) (by first | assumption | exact hHeld4005) ?rest4006
    case hy4006 => ((intro w0 hSw; (try dsimp only at hSw); go_simp) <;> with_reducible rfl)
    (try simp only [Tp0, Tp1, Tp2, Tp3, Tp4])
    refine wpAnyH_done (by kernel_rfl) ?_ _
    go_wp2_with fail
    obtain ⟨⟨j0, j1, j2, j3⟩, -, -⟩ := cells4 (HZ6.out.1.set4 (.slice Ab nb cb) (.slice A 4 c) (.slice A' 4 c') (.slice At nt ct))
    refine bodyPost_ret (v := .tuple #[.agg #[.slice Ab nb cb, .slice A 4 c, .slice A' 4 c', .slice At nt ct], .string (ask s k (ws.map wnum))]) (by simp [results, Tryz.results52, go_sem, j0, j1, j2, j3]) rfl ?_
    rw [HR.out]
    exact ⟨_, rfl, sval_fin HZ6.out.1 HB6.out (by omega) (.inl HI.out.1) (.inl HI.out.2.1) (.inl HI.out.2.2.1) (.inl HI.out.2.2.2) _ _ _ _, below_set4 HB6.out (by omega) _ _ _ _⟩
   exact AllReadyH.nil
  exact AllReadyH.nil
 have h3' := HD.out.1 wAdd hk
 clear hk
 by_cases hk : k = wTake
 ·have hne : ¬ m = 1 := fun h => HNT.out (.inr (.inr (.inr (.inr (.inl ⟨hk, h⟩)))))
  have i1 : ¬ (m : Int) = 1 := by omega
  have i2 : ((m : Int) == 1) = false := by simpa using i1
  have f0 := HD.out.1 wLay (by rw [hk]; decide)
  have f1 := HD.out.1 wReduce (by rw [hk]; decide)
  have f2 := HD.out.1 wRaise (by rw [hk]; decide)
  have f3 := HD.out.1 wAdd (by rw [hk]; decide)
  have f4 := HD.out.2 wTake hk
  have f5 := HD.out.1 wOwe (by rw [hk]; decide)
  have f6 := HD.out.1 wSettle (by rw [hk]; decide)
  unfold wLay at f0
  unfold wReduce at f1
  unfold wRaise at f2
  unfold wAdd at f3
  unfold wTake at f4
  unfold wOwe at f5
  unfold wSettle at f6
  clear hk hne HD HNT
  go_wp2_with fail
  obtain ⟨W7, hW7, hb7, ⟨z2, z4, z7⟩, hbw⟩ := line_w7 HX5.out.1 HX5.out.2 HB5.out #[.slice Ab nb cb, .slice A 4 c, .slice A' 4 c', .slice At nt ct]
  have HZ := Hd (And.intro z2 (And.intro z4 z7))
  have HBW := Hd hbw
  obtain ⟨⟨s0, s1, s2, s3⟩, -, lts⟩ := cells4 z2
  have e7 := (hb7.cell (p := ⟨g, 0, none⟩) hg1).trans e0
  have hg7 : g < W7.heap.size := Nat.lt_of_lt_of_le hg hbw.size
  rw [hW7]
  clear hW7 hb7 z7 z2 z4 hbw
  refine wp_region_held_drew (S := (fun w' => w'.cell? ⟨w.heap.size, 0, none⟩ = some (.slice Ab nb cb) ∧ w'.cell? ⟨w.heap.size, 1, none⟩ = some (.slice A 4 c) ∧ w'.cell? ⟨w.heap.size, 2, none⟩ = some (.slice A' 4 c') ∧ w'.cell? ⟨w.heap.size, 3, none⟩ = some (.slice At nt ct))) (by kernel_rfl) ?_ (fun hHeld => ?_)
  ·(try dsimp only)
   all_goals (first | (refine ⟨?_, ?_, ?_, ?_⟩ <;> go_simp) | go_keep)
  refine Tk 0 (some 13) (v := ?v5001) rfl (Or.inl ⟨by rfl, ?hy5001⟩) (by first | assumption | exact hHeld) ?rest5001
  case hy5001 => ((intro w0 hSw; (try dsimp only at hSw); go_simp) <;> with_reducible rfl)
  (try simp only [Tp0, Tp1, Tp2, Tp3, Tp4])
  refine Tk 1 (some 14) (v := ?v5002) rfl (Or.inl ⟨by rfl, ?hy5002⟩) (by first | assumption | exact hHeld) ?rest5002
  case hy5002 => ((intro w0 hSw; (try dsimp only at hSw); go_simp) <;> with_reducible rfl)
  (try simp only [Tp0, Tp1, Tp2, Tp3, Tp4])
  refine Tk 2 (some 15) (v := ?v5003) rfl (Or.inl ⟨by rfl, ?hy5003⟩) (by first | assumption | exact hHeld) ?rest5003
  case hy5003 => ((intro w0 hSw; (try dsimp only at hSw); go_simp) <;> with_reducible rfl)
  (try simp only [Tp0, Tp1, Tp2, Tp3, Tp4])
  refine wpAnyH_ready (rs := [3]) (by kernel_rfl) (by simp) ?_
  refine AllReadyH.cons (o := ⟨some 16, _, _, _, _, _⟩) rfl (fun K hK => ?_) ?_
  ·go_simp
   refine (HCC.out _ (HA.out.next (show Below w.heap.size w W7.drew from HBW.out.drew))).mono ?_
   rintro e w6 ⟨rfl, hb6'⟩
   have hb6 := (Below.refl W7.heap.size W7).drew.trans hb6'
   obtain ⟨⟨t0, t1, t2, t3⟩, -, ltt⟩ := cells4 (HZ.out.1.next hb6)
   obtain ⟨⟨u0, u1, u2, u3⟩, ⟨v0, v1, v2, v3⟩, ltu⟩ := cells4 (HZ.out.2.1.next hb6)
   obtain ⟨⟨y0, y1, y2, y3⟩, ⟨a0, a1, a2, a3⟩, lty⟩ := cells4 (HZ.out.2.2.next hb6)
   have HZ6 := Hd (And.intro (HZ.out.2.1.next hb6) (HZ.out.2.2.next hb6))
   have HB6 := Hd (HBW.out.trans (hb6.mono HBW.out.size))
   clear hb6 hb6'
   (try go_wp2_with fail)
   refine hK.out _ _ ?_ (fun hHeld5004 => ?_)
   ·(try dsimp only)
    all_goals (first | (refine ⟨?_, ?_, ?_, ?_⟩ <;> go_simp) | go_keep)
   clear hK K
   (try clear hHeld)
   (try simp only [Tp0, Tp1, Tp2, Tp3, Tp4])
   refine wpAnyH_ready (rs := [4]) (by kernel_rfl) (by simp) ?_
   refine AllReadyH.cons (o := ⟨none, _, _, _, _, _⟩) rfl (fun K hK => ?_) ?_
   ·go_simp
    refine hK.out _ _ ?_ (fun hHeld5005 => ?_)
    ·(try dsimp only)
     all_goals (first | (refine ⟨?_, ?_, ?_, ?_⟩ <;> go_simp) | go_keep)
    clear hK K
    (try clear hHeld5004)
    (try simp only [Tp0, Tp1, Tp2, Tp3, Tp4])
    refine Tk 5 (some 5) (v := ?v5006) rfl (Or.inl ⟨by rfl, ?hy5006⟩) (by first | assumption | exact hHeld5005) ?rest5006
    case hy5006 => ((intro w0 hSw; (try dsimp only at hSw); go_simp) <;> with_reducible rfl)
    (try simp only [Tp0, Tp1, Tp2, Tp3, Tp4])
    refine wpAnyH_done (by kernel_rfl) ?_ _
    go_wp2_with fail
    obtain ⟨⟨j0, j1, j2, j3⟩, -, -⟩ := cells4 (HZ6.out.1.set4 (.slice Ab nb cb) (.slice A 4 c) (.slice A' 4 c') (.slice At nt ct))
    refine bodyPost_ret (v := .tuple #[.agg #[.slice Ab nb cb, .slice A 4 c, .slice A' 4 c', .slice At nt ct], .string (ask s k (ws.map wnum))]) (by simp [results, Tryz.results52, go_sem, j0, j1, j2, j3]) rfl ?_
    rw [HR.out]
    exact ⟨_, rfl, sval_fin HZ6.out.1 HB6.out (by omega) (.inl HI.out.1) (.inl HI.out.2.1) (.inl HI.out.2.2.1) (.inl HI.out.2.2.2) _ _ _ _, below_set4 HB6.out (by omega) _ _ _ _⟩
   exact AllReadyH.nil
  exact AllReadyH.nil
 have h4' := HD.out.1 wTake hk
 clear hk
 by_cases hk : k = wOwe
 ·have hne : ¬ m = 3 := fun h => HNT.out (.inr (.inr (.inr (.inr (.inr (.inl ⟨hk, h⟩))))))
  have i1 : ¬ (m : Int) = 3 := by omega
  have i2 : ((m : Int) == 3) = false := by simpa using i1
  have f0 := HD.out.1 wLay (by rw [hk]; decide)
  have f1 := HD.out.1 wReduce (by rw [hk]; decide)
  have f2 := HD.out.1 wRaise (by rw [hk]; decide)
  have f3 := HD.out.1 wAdd (by rw [hk]; decide)
  have f4 := HD.out.1 wTake (by rw [hk]; decide)
  have f5 := HD.out.2 wOwe hk
  have f6 := HD.out.1 wSettle (by rw [hk]; decide)
  unfold wLay at f0
  unfold wReduce at f1
  unfold wRaise at f2
  unfold wAdd at f3
  unfold wTake at f4
  unfold wOwe at f5
  unfold wSettle at f6
  clear hk hne HD HNT
  go_wp2_with fail
  obtain ⟨W7, hW7, hb7, ⟨z2, z4, z7⟩, hbw⟩ := line_w7 HX5.out.1 HX5.out.2 HB5.out #[.slice Ab nb cb, .slice A 4 c, .slice A' 4 c', .slice At nt ct]
  have HZ := Hd (And.intro z2 (And.intro z4 z7))
  have HBW := Hd hbw
  obtain ⟨⟨s0, s1, s2, s3⟩, -, lts⟩ := cells4 z2
  have e7 := (hb7.cell (p := ⟨g, 0, none⟩) hg1).trans e0
  have hg7 : g < W7.heap.size := Nat.lt_of_lt_of_le hg hbw.size
  rw [hW7]
  clear hW7 hb7 z7 z2 z4 hbw
  refine wp_region_held_drew (S := (fun w' => w'.cell? ⟨w.heap.size, 0, none⟩ = some (.slice Ab nb cb) ∧ w'.cell? ⟨w.heap.size, 1, none⟩ = some (.slice A 4 c) ∧ w'.cell? ⟨w.heap.size, 2, none⟩ = some (.slice A' 4 c') ∧ w'.cell? ⟨w.heap.size, 3, none⟩ = some (.slice At nt ct))) (by kernel_rfl) ?_ (fun hHeld => ?_)
  ·(try dsimp only)
   all_goals (first | (refine ⟨?_, ?_, ?_, ?_⟩ <;> go_simp) | go_keep)
  refine Tk 0 (some 13) (v := ?v6001) rfl (Or.inl ⟨by rfl, ?hy6001⟩) (by first | assumption | exact hHeld) ?rest6001
  case hy6001 => ((intro w0 hSw; (try dsimp only at hSw); go_simp) <;> with_reducible rfl)
  (try simp only [Tp0, Tp1, Tp2, Tp3, Tp4])
  refine Tk 1 (some 14) (v := ?v6002) rfl (Or.inl ⟨by rfl, ?hy6002⟩) (by first | assumption | exact hHeld) ?rest6002
  case hy6002 => ((intro w0 hSw; (try dsimp only at hSw); go_simp) <;> with_reducible rfl)
  (try simp only [Tp0, Tp1, Tp2, Tp3, Tp4])
  refine Tk 2 (some 15) (v := ?v6003) rfl (Or.inl ⟨by rfl, ?hy6003⟩) (by first | assumption | exact hHeld) ?rest6003
  case hy6003 => ((intro w0 hSw; (try dsimp only at hSw); go_simp) <;> with_reducible rfl)
  (try simp only [Tp0, Tp1, Tp2, Tp3, Tp4])
  refine wpAnyH_ready (rs := [3]) (by kernel_rfl) (by simp) ?_
  refine AllReadyH.cons (o := ⟨some 16, _, _, _, _, _⟩) rfl (fun K hK => ?_) ?_
  ·go_simp
   refine (HCC.out _ (HA.out.next (show Below w.heap.size w W7.drew from HBW.out.drew))).mono ?_
   rintro e w6 ⟨rfl, hb6'⟩
   have hb6 := (Below.refl W7.heap.size W7).drew.trans hb6'
   obtain ⟨⟨t0, t1, t2, t3⟩, -, ltt⟩ := cells4 (HZ.out.1.next hb6)
   obtain ⟨⟨u0, u1, u2, u3⟩, ⟨v0, v1, v2, v3⟩, ltu⟩ := cells4 (HZ.out.2.1.next hb6)
   obtain ⟨⟨y0, y1, y2, y3⟩, ⟨a0, a1, a2, a3⟩, lty⟩ := cells4 (HZ.out.2.2.next hb6)
   have HZ6 := Hd (And.intro (HZ.out.2.1.next hb6) (HZ.out.2.2.next hb6))
   have HB6 := Hd (HBW.out.trans (hb6.mono HBW.out.size))
   clear hb6 hb6'
   (try go_wp2_with fail)
   refine hK.out _ _ ?_ (fun hHeld6004 => ?_)
   ·(try dsimp only)
    all_goals (first | (refine ⟨?_, ?_, ?_, ?_⟩ <;> go_simp) | go_keep)
   clear hK K
   (try clear hHeld)
   (try simp only [Tp0, Tp1, Tp2, Tp3, Tp4])
   refine wpAnyH_ready (rs := [4]) (by kernel_rfl) (by simp) ?_
   refine AllReadyH.cons (o := ⟨none, _, _, _, _, _⟩) rfl (fun K hK => ?_) ?_
   ·go_simp
    refine hK.out _ _ ?_ (fun hHeld6005 => ?_)
    ·(try dsimp only)
     all_goals (first | (refine ⟨?_, ?_, ?_, ?_⟩ <;> go_simp) | go_keep)
    clear hK K
    (try clear hHeld6004)
    (try simp only [Tp0, Tp1, Tp2, Tp3, Tp4])
    refine Tk 5 (some 5) (v := ?v6006) rfl (Or.inl ⟨by rfl, ?hy6006⟩) (by first | assumption | exact hHeld6005) ?rest6006
    case hy6006 => ((intro w0 hSw; (try dsimp only at hSw); go_simp) <;> with_reducible rfl)
    (try simp only [Tp0, Tp1, Tp2, Tp3, Tp4])
    refine wpAnyH_done (by kernel_rfl) ?_ _
    go_wp2_with fail
    obtain ⟨⟨j0, j1, j2, j3⟩, -, -⟩ := cells4 (HZ6.out.1.set4 (.slice Ab nb cb) (.slice A 4 c) (.slice A' 4 c') (.slice At nt ct))
    refine bodyPost_ret (v := .tuple #[.agg #[.slice Ab nb cb, .slice A 4 c, .slice A' 4 c', .slice At nt ct], .string (ask s k (ws.map wnum))]) (by simp [results, Tryz.results52, go_sem, j0, j1, j2, j3]) rfl ?_
    rw [HR.out]
    exact ⟨_, rfl, sval_fin HZ6.out.1 HB6.out (by omega) (.inl HI.out.1) (.inl HI.out.2.1) (.inl HI.out.2.2.1) (.inl HI.out.2.2.2) _ _ _ _, below_set4 HB6.out (by omega) _ _ _ _⟩
   exact AllReadyH.nil
  exact AllReadyH.nil
 have h5' := HD.out.1 wOwe hk
 clear hk
 by_cases hk : k = wSettle
 ·have hne : ¬ m = 0 := fun h => HNT.out (.inr (.inr (.inr (.inr (.inr (.inr (⟨hk, h⟩)))))))
  have i1 : ¬ (m : Int) = 0 := by omega
  have i2 : ((m : Int) == 0) = false := by simpa using i1
  have f0 := HD.out.1 wLay (by rw [hk]; decide)
  have f1 := HD.out.1 wReduce (by rw [hk]; decide)
  have f2 := HD.out.1 wRaise (by rw [hk]; decide)
  have f3 := HD.out.1 wAdd (by rw [hk]; decide)
  have f4 := HD.out.1 wTake (by rw [hk]; decide)
  have f5 := HD.out.1 wOwe (by rw [hk]; decide)
  have f6 := HD.out.2 wSettle hk
  unfold wLay at f0
  unfold wReduce at f1
  unfold wRaise at f2
  unfold wAdd at f3
  unfold wTake at f4
  unfold wOwe at f5
  unfold wSettle at f6
  clear hk hne HD HNT
  go_wp2_with fail
  obtain ⟨W7, hW7, hb7, ⟨z2, z4, z7⟩, hbw⟩ := line_w7 HX5.out.1 HX5.out.2 HB5.out #[.slice Ab nb cb, .slice A 4 c, .slice A' 4 c', .slice At nt ct]
  have HZ := Hd (And.intro z2 (And.intro z4 z7))
  have HBW := Hd hbw
  obtain ⟨⟨s0, s1, s2, s3⟩, -, lts⟩ := cells4 z2
  have e7 := (hb7.cell (p := ⟨g, 0, none⟩) hg1).trans e0
  have hg7 : g < W7.heap.size := Nat.lt_of_lt_of_le hg hbw.size
  rw [hW7]
  clear hW7 hb7 z7 z2 z4 hbw
  refine wp_region_held_drew (S := (fun w' => w'.cell? ⟨w.heap.size, 0, none⟩ = some (.slice Ab nb cb) ∧ w'.cell? ⟨w.heap.size, 1, none⟩ = some (.slice A 4 c) ∧ w'.cell? ⟨w.heap.size, 2, none⟩ = some (.slice A' 4 c') ∧ w'.cell? ⟨w.heap.size, 3, none⟩ = some (.slice At nt ct))) (by kernel_rfl) ?_ (fun hHeld => ?_)
  ·(try dsimp only)
   all_goals (first | (refine ⟨?_, ?_, ?_, ?_⟩ <;> go_simp) | go_keep)
  refine Tk 0 (some 13) (v := ?v7001) rfl (Or.inl ⟨by rfl, ?hy7001⟩) (by first | assumption | exact hHeld) ?rest7001
  case hy7001 => ((intro w0 hSw; (try dsimp only at hSw); go_simp) <;> with_reducible rfl)
  (try simp only [Tp0, Tp1, Tp2, Tp3, Tp4])
  refine Tk 1 (some 14) (v := ?v7002) rfl (Or.inl ⟨by rfl, ?hy7002⟩) (by first | assumption | exact hHeld) ?rest7002
  case hy7002 => ((intro w0 hSw; (try dsimp only at hSw); go_simp) <;> with_reducible rfl)
  (try simp only [Tp0, Tp1, Tp2, Tp3, Tp4])
  refine Tk 2 (some 15) (v := ?v7003) rfl (Or.inl ⟨by rfl, ?hy7003⟩) (by first | assumption | exact hHeld) ?rest7003
  case hy7003 => ((intro w0 hSw; (try dsimp only at hSw); go_simp) <;> with_reducible rfl)
  (try simp only [Tp0, Tp1, Tp2, Tp3, Tp4])
  refine wpAnyH_ready (rs := [3]) (by kernel_rfl) (by simp) ?_
  refine AllReadyH.cons (o := ⟨some 16, _, _, _, _, _⟩) rfl (fun K hK => ?_) ?_
  ·go_simp
   refine (HCC.out _ (HA.out.next (show Below w.heap.size w W7.drew from HBW.out.drew))).mono ?_
   rintro e w6 ⟨rfl, hb6'⟩
   have hb6 := (Below.refl W7.heap.size W7).drew.trans hb6'
   obtain ⟨⟨t0, t1, t2, t3⟩, -, ltt⟩ := cells4 (HZ.out.1.next hb6)
   obtain ⟨⟨u0, u1, u2, u3⟩, ⟨v0, v1, v2, v3⟩, ltu⟩ := cells4 (HZ.out.2.1.next hb6)
   obtain ⟨⟨y0, y1, y2, y3⟩, ⟨a0, a1, a2, a3⟩, lty⟩ := cells4 (HZ.out.2.2.next hb6)
   have HZ6 := Hd (And.intro (HZ.out.2.1.next hb6) (HZ.out.2.2.next hb6))
   have HB6 := Hd (HBW.out.trans (hb6.mono HBW.out.size))
   clear hb6 hb6'
   (try go_wp2_with fail)
   refine hK.out _ _ ?_ (fun hHeld7004 => ?_)
   ·(try dsimp only)
    all_goals (first | (refine ⟨?_, ?_, ?_, ?_⟩ <;> go_simp) | go_keep)
   clear hK K
   (try clear hHeld)
   (try simp only [Tp0, Tp1, Tp2, Tp3, Tp4])
   refine wpAnyH_ready (rs := [4]) (by kernel_rfl) (by simp) ?_
   refine AllReadyH.cons (o := ⟨none, _, _, _, _, _⟩) rfl (fun K hK => ?_) ?_
   ·go_simp
    refine hK.out _ _ ?_ (fun hHeld7005 => ?_)
    ·(try dsimp only)
     all_goals (first | (refine ⟨?_, ?_, ?_, ?_⟩ <;> go_simp) | go_keep)
    clear hK K
    (try clear hHeld7004)
    (try simp only [Tp0, Tp1, Tp2, Tp3, Tp4])
    refine Tk 5 (some 5) (v := ?v7006) rfl (Or.inl ⟨by rfl, ?hy7006⟩) (by first | assumption | exact hHeld7005) ?rest7006
    case hy7006 => ((intro w0 hSw; (try dsimp only at hSw); go_simp) <;> with_reducible rfl)
    (try simp only [Tp0, Tp1, Tp2, Tp3, Tp4])
    refine wpAnyH_done (by kernel_rfl) ?_ _
    go_wp2_with fail
    obtain ⟨⟨j0, j1, j2, j3⟩, -, -⟩ := cells4 (HZ6.out.1.set4 (.slice Ab nb cb) (.slice A 4 c) (.slice A' 4 c') (.slice At nt ct))
    refine bodyPost_ret (v := .tuple #[.agg #[.slice Ab nb cb, .slice A 4 c, .slice A' 4 c', .slice At nt ct], .string (ask s k (ws.map wnum))]) (by simp [results, Tryz.results52, go_sem, j0, j1, j2, j3]) rfl ?_
    rw [HR.out]
    exact ⟨_, rfl, sval_fin HZ6.out.1 HB6.out (by omega) (.inl HI.out.1) (.inl HI.out.2.1) (.inl HI.out.2.2.1) (.inl HI.out.2.2.2) _ _ _ _, below_set4 HB6.out (by omega) _ _ _ _⟩
   exact AllReadyH.nil
  exact AllReadyH.nil
 have h6' := HD.out.1 wSettle hk
 clear hk
 have f0 := h0'
 have f1 := h1'
 have f2 := h2'
 have f3 := h3'
 have f4 := h4'
 have f5 := h5'
 have f6 := h6'
 unfold wLay at f0
 unfold wReduce at f1
 unfold wRaise at f2
 unfold wAdd at f3
 unfold wTake at f4
 unfold wOwe at f5
 unfold wSettle at f6
 clear HD HNT h0' h1' h2' h3' h4' h5' h6'
 go_wp2_with fail
 obtain ⟨W7, hW7, hb7, ⟨z2, z4, z7⟩, hbw⟩ := line_w7 HX5.out.1 HX5.out.2 HB5.out #[.slice Ab nb cb, .slice A 4 c, .slice A' 4 c', .slice At nt ct]
 have HZ := Hd (And.intro z2 (And.intro z4 z7))
 have HBW := Hd hbw
 obtain ⟨⟨s0, s1, s2, s3⟩, -, lts⟩ := cells4 z2
 have e7 := (hb7.cell (p := ⟨g, 0, none⟩) hg1).trans e0
 have hg7 : g < W7.heap.size := Nat.lt_of_lt_of_le hg hbw.size
 rw [hW7]
 clear hW7 hb7 z7 z2 z4 hbw
 refine wp_region_held_drew (S := (fun w' => w'.cell? ⟨w.heap.size, 0, none⟩ = some (.slice Ab nb cb) ∧ w'.cell? ⟨w.heap.size, 1, none⟩ = some (.slice A 4 c) ∧ w'.cell? ⟨w.heap.size, 2, none⟩ = some (.slice A' 4 c') ∧ w'.cell? ⟨w.heap.size, 3, none⟩ = some (.slice At nt ct))) (by kernel_rfl) ?_ (fun hHeld => ?_)
 ·(try dsimp only)
  all_goals (first | (refine ⟨?_, ?_, ?_, ?_⟩ <;> go_simp) | go_keep)
 refine Tk 0 (some 13) (v := ?v8001) rfl (Or.inl ⟨by rfl, ?hy8001⟩) (by first | assumption | exact hHeld) ?rest8001
 case hy8001 => ((intro w0 hSw; (try dsimp only at hSw); go_simp) <;> with_reducible rfl)
 (try simp only [Tp0, Tp1, Tp2, Tp3, Tp4])
 refine Tk 1 (some 14) (v := ?v8002) rfl (Or.inl ⟨by rfl, ?hy8002⟩) (by first | assumption | exact hHeld) ?rest8002
 case hy8002 => ((intro w0 hSw; (try dsimp only at hSw); go_simp) <;> with_reducible rfl)
 (try simp only [Tp0, Tp1, Tp2, Tp3, Tp4])
 refine Tk 2 (some 15) (v := ?v8003) rfl (Or.inl ⟨by rfl, ?hy8003⟩) (by first | assumption | exact hHeld) ?rest8003
 case hy8003 => ((intro w0 hSw; (try dsimp only at hSw); go_simp) <;> with_reducible rfl)
 (try simp only [Tp0, Tp1, Tp2, Tp3, Tp4])
 refine wpAnyH_ready (rs := [3]) (by kernel_rfl) (by simp) ?_
 refine AllReadyH.cons (o := ⟨some 16, _, _, _, _, _⟩) rfl (fun K hK => ?_) ?_
 ·go_simp
  refine (HCC.out _ (HA.out.next (show Below w.heap.size w W7.drew from HBW.out.drew))).mono ?_
  rintro e w6 ⟨rfl, hb6'⟩
  have hb6 := (Below.refl W7.heap.size W7).drew.trans hb6'
  obtain ⟨⟨t0, t1, t2, t3⟩, -, ltt⟩ := cells4 (HZ.out.1.next hb6)
  obtain ⟨⟨u0, u1, u2, u3⟩, ⟨v0, v1, v2, v3⟩, ltu⟩ := cells4 (HZ.out.2.1.next hb6)
  obtain ⟨⟨y0, y1, y2, y3⟩, ⟨a0, a1, a2, a3⟩, lty⟩ := cells4 (HZ.out.2.2.next hb6)
  have HZ6 := Hd (And.intro (HZ.out.2.1.next hb6) (HZ.out.2.2.next hb6))
  have HB6 := Hd (HBW.out.trans (hb6.mono HBW.out.size))
  clear hb6 hb6'
  (try go_wp2_with fail)
  refine hK.out _ _ ?_ (fun hHeld8004 => ?_)
  ·(try dsimp only)
   all_goals (first | (refine ⟨?_, ?_, ?_, ?_⟩ <;> go_simp) | go_keep)
  clear hK K
  (try clear hHeld)
  (try simp only [Tp0, Tp1, Tp2, Tp3, Tp4])
  refine wpAnyH_ready (rs := [4]) (by kernel_rfl) (by simp) ?_
  refine AllReadyH.cons (o := ⟨none, _, _, _, _, _⟩) rfl (fun K hK => ?_) ?_
  ·go_simp
   refine hK.out _ _ ?_ (fun hHeld8005 => ?_)
   ·(try dsimp only)
    all_goals (first | (refine ⟨?_, ?_, ?_, ?_⟩ <;> go_simp) | go_keep)
   clear hK K
   (try clear hHeld8004)
   (try simp only [Tp0, Tp1, Tp2, Tp3, Tp4])
   refine Tk 5 (some 5) (v := ?v8006) rfl (Or.inl ⟨by rfl, ?hy8006⟩) (by first | assumption | exact hHeld8005) ?rest8006
   case hy8006 => ((intro w0 hSw; (try dsimp only at hSw); go_simp) <;> with_reducible rfl)
   (try simp only [Tp0, Tp1, Tp2, Tp3, Tp4])
   refine wpAnyH_done (by kernel_rfl) ?_ _
   go_wp2_with fail
   obtain ⟨⟨j0, j1, j2, j3⟩, -, -⟩ := cells4 (HZ6.out.1.set4 (.slice Ab nb cb) (.slice A 4 c) (.slice A' 4 c') (.slice At nt ct))
   refine bodyPost_ret (v := .tuple #[.agg #[.slice Ab nb cb, .slice A 4 c, .slice A' 4 c', .slice At nt ct], .string (ask s k (ws.map wnum))]) (by simp [results, Tryz.results52, go_sem, j0, j1, j2, j3]) rfl ?_
   rw [HR.out]
   exact ⟨_, rfl, sval_fin HZ6.out.1 HB6.out (by omega) (.inl HI.out.1) (.inl HI.out.2.1) (.inl HI.out.2.2.1) (.inl HI.out.2.2.2) _ _ _ _, below_set4 HB6.out (by omega) _ _ _ _⟩
  exact AllReadyH.nil
 exact AllReadyH.nil
def TalP (w : World) (OKB : Bool) (XS : List Tl) (e : Ending) (w' : World) : Prop := ∃ A n cp, e = .returned (.tuple #[.slice A n cp, .bool OKB]) ∧ (OKB = true → OwnT w' w.heap.size A n cp XS) ∧ Below w.heap.size w w'
theorem owe_tp (At : Option Addr) (nt ct : Nat) (ts : List Tl) (a c v : Int) (A0 : Option Addr) (n0 : Nat) (w : World) (h : Tals w w.heap.size At nt ts) (h12 : ts.length ≤ 12) (hn : Own w 0 A0 3 n0 [a, c, v]) :
  Calls Tryz.prog 102 #[.slice At nt ct, .slice A0 3 n0] w (TalP w (oweOk ts a c v) (OweL ts a c v)) := by
 refine (l9Owe_any At nt ct ts a c v A0 n0 w h h12 hn _ rfl).mono ?_
 rintro e w' ⟨⟨A, n, cp, rfl, ho⟩, hb⟩
 exact ⟨A, n, cp, rfl, fun _ => ho, hb⟩
theorem settle_tp (At : Option Addr) (nt ct : Nat) (ts : List Tl) (w : World) (h : Tals w w.heap.size At nt ts) (hsm : Small ts) :
  Calls Tryz.prog 37 #[.slice At nt ct] w (TalP w (settleOf ts).isSome ((settleOf ts).getD [])) := by
 refine (specTalliesSettle_any At nt ct ts w h hsm).mono ?_
 rintro e w' ⟨⟨out, h1, h2, A, c, rfl, ho⟩ | ⟨hno, g, c, rfl⟩, hb⟩
 ·rw [settleOf_yes h1 h2]
  exact ⟨A, out.length, c, rfl, fun _ => ho, hb⟩
 ·rw [settleOf_no hno]
  exact ⟨_, _, _, rfl, fun h => (by cases h), hb⟩
theorem l9Line_owe (s : St) (hs : InvS s) (hk : True) (x y z : List UInt8) (v : Value) (Aw : Option Addr) (nw cw : Nat) (w : World) (h : AskIn w s wOwe [x, y, z] v Aw nw cw) (R : ByteArray × St) (OKB : Bool) (XS : List Tl) (hok : oweOk s.ts (wnum x) (wnum y) (wnum z) = OKB) (hxs : OweL s.ts (wnum x) (wnum y) (wnum z) = XS) (hy : OKB = true → R = (okT, { s with ts := XS })) (hno : OKB = false → R = (noT, s)) :
  Calls Tryz.prog 52 #[v, .slice Aw nw cw] w (LinePost9 w R) := by
 have HA := Hd h
 obtain ⟨hv, hw, h1, h2⟩ := h
 have HV := Hd hv
 obtain ⟨Ab, nb, cb, A, c, A', c', At, nt, ct, rfl, i1, i2, i3, i4⟩ := hv
 have hlen := hw.len
 simp only [List.length_cons, List.length_nil] at hlen
 obtain ⟨g, rfl⟩ := OwnR.some2 hw (by omega)
 have d0 := OwnR.cell2 hw (j := 0) rfl
 have HW := Hd hw
 obtain ⟨t, ht⟩ : ∃ t, bs wOwe = t := ⟨_, rfl⟩
 rw [ht] at d0
 have hg : g < w.heap.size := World.block_lt_of_cell? w _ d0
 have hW0 : (0 : Int) < (nw : Int) := by omega
 have hW2 : 0 < nw := by omega
 have hW1 : (nw : Int) ≤ 2000 := by omega
 obtain ⟨W, hWW, hbl, x2, x4⟩ := line_head w #[.slice Ab nb cb, .slice A 4 c, .slice A' 4 c', .slice At nt ct] #[.slice none 0 0, .slice none 0 0, .slice none 0 0, .slice none 0 0]
 have HN := Hd (l9Numbers_any (some ⟨g, 0, none⟩) 0 nw cw wOwe [x, y, z] W (by rw [← hWW]; exact (HW.out.alloc _).alloc _) h1 h2)
 have HI := Hd (And.intro i1 (And.intro i2 (And.intro i3 i4)))
 have HB := Hd hbl
 have HWW := Hd hWW
 have HX := Hd (And.intro x2 x4)
 have HT := Hd ht
 have HLEN := Hd hlen
 have f0 : (t.toList == [108, 97, 121]) = false := (wd_of ht).trans (by decide)
 have f1 : (t.toList == [114, 101, 100, 117, 99, 101]) = false := (wd_of ht).trans (by decide)
 have f2 : (t.toList == [114, 97, 105, 115, 101]) = false := (wd_of ht).trans (by decide)
 have f3 : (t.toList == [97, 100, 100]) = false := (wd_of ht).trans (by decide)
 have f4 : (t.toList == [116, 97, 107, 101]) = false := (wd_of ht).trans (by decide)
 have f5 : (t.toList == [111, 119, 101]) = true := (wd_of ht).trans (by decide)
 have f6 : (t.toList == [115, 101, 116, 116, 108, 101]) = false := (wd_of ht).trans (by decide)
 have HY := Hd hy
 have HNO := Hd hno
 have HCC := Hd (fun w (hx : Tals w w.heap.size At nt s.ts) A0 n0 (hn : Own w 0 A0 3 n0 [wnum x, wnum y, wnum z]) => owe_tp At nt ct s.ts (wnum x) (wnum y) (wnum z) A0 n0 w hx (okL_told hs.t).1 hn)
 rw [hok, hxs] at HCC
 clear hy hno hok hxs
 clear hw h1 h2 hbl hWW ht i1 i2 i3 i4 x2 x4 hlen
 go_enter Tryz.func52, Tryz.ntmps52
 go_wp2_with fail
 rw [HWW.out]
 refine HN.out.mono ?_
 rintro e w1 ⟨A5, c5, rfl, ho5, hb5⟩
 obtain ⟨⟨p0, p1, p2, p3⟩, -, ltp⟩ := cells4 (HX.out.1.next hb5)
 obtain ⟨⟨q0, q1, q2, q3⟩, ⟨r0, r1, r2, r3⟩, ltq⟩ := cells4 (HX.out.2.next hb5)
 have HX5 := Hd (And.intro (HX.out.1.next hb5) (HX.out.2.next hb5))
 have HB5 := Hd (below_chain HB.out hb5)
 have e0 := (HB5.out.cell (p := ⟨g, 0, none⟩) hg).trans d0
 have hg1 : g < w1.heap.size := Nat.lt_of_lt_of_le hg HB5.out.size
 have HO5 := Hd ho5
 clear ho5 hb5 d0
 simp only [List.length_cons, List.length_nil] at HO5 ⊢
 go_wp2_with fail
 obtain ⟨W7, hW7, hb7, ⟨z2, z4, z7⟩, hbw⟩ := line_w7 HX5.out.1 HX5.out.2 HB5.out #[.slice Ab nb cb, .slice A 4 c, .slice A' 4 c', .slice At nt ct]
 have HZ := Hd (And.intro z2 (And.intro z4 z7))
 have HBW := Hd hbw
 obtain ⟨⟨s0, s1, s2, s3⟩, -, lts⟩ := cells4 z2
 have e7 := (hb7.cell (p := ⟨g, 0, none⟩) hg1).trans e0
 have hg7 : g < W7.heap.size := Nat.lt_of_lt_of_le hg hbw.size
 have HO7 := Hd ((HO5.out.next hb7).mono (Nat.zero_le _))
 rw [hW7]
 clear hW7 hb7 z7 z2 z4 hbw
 refine (HCC.out _ (Row.next HI.out.2.2.2 HBW.out) _ _ HO7.out).mono ?_
 rintro e w6 ⟨A6, n6, c6, rfl, ho6, hb6'⟩
 have hb6 := hb6'
 obtain ⟨⟨t0, t1, t2, t3⟩, -, ltt⟩ := cells4 (HZ.out.1.next hb6)
 obtain ⟨⟨u0, u1, u2, u3⟩, ⟨v0, v1, v2, v3⟩, ltu⟩ := cells4 (HZ.out.2.1.next hb6)
 obtain ⟨⟨y0, y1, y2, y3⟩, ⟨a0, a1, a2, a3⟩, lty⟩ := cells4 (HZ.out.2.2.next hb6)
 have HZ6 := Hd (And.intro (HZ.out.2.1.next hb6) (HZ.out.2.2.next hb6))
 have HB6 := Hd (HBW.out.trans (hb6.mono HBW.out.size))
 have HO6 := Hd ho6
 clear hb6 hb6' ho6
 cases OKB with
 | false =>
  go_wp2_with fail
  have hz6 : Blk (w6.setCell ⟨w1.heap.size, 3, none⟩ (.slice A6 n6 c6)) (w.heap.size + 1) #[.slice none 0 0, .slice none 0 0, .slice none 0 0, .slice none 0 0] T75 := HZ6.out.1.other (by show w.heap.size + 1 ≠ w1.heap.size; omega) _
  have hb6w := HB6.out.setCell (p := ⟨w1.heap.size, 3, none⟩) HB5.out.size (.slice A6 n6 c6)
  obtain ⟨⟨j0, j1, j2, j3⟩, -, -⟩ := cells4 (hz6.set4 (.slice Ab nb cb) (.slice A 4 c) (.slice A' 4 c') (.slice At nt ct))
  refine bodyPost_ret (v := .tuple #[.agg #[.slice Ab nb cb, .slice A 4 c, .slice A' 4 c', .slice At nt ct], .string ⟨#[110, 111, 10]⟩]) (by simp [results, Tryz.results52, go_sem, j0, j1, j2, j3]) rfl ?_
  rw [HNO.out (by trivial)]
  exact ⟨_, rfl, sval_fin hz6 hb6w (by omega) (.inl HI.out.1) (.inl HI.out.2.1) (.inl HI.out.2.2.1) (.inl HI.out.2.2.2) _ _ _ _, below_set4 hb6w (by omega) _ _ _ _⟩
 | true =>
  have HOT := Hd (HO6.out rfl)
  go_wp2_with fail
  have hz6 : Blk (w6.setCell ⟨w1.heap.size, 3, none⟩ (.slice A6 n6 c6)) (w.heap.size + 1) #[.slice none 0 0, .slice none 0 0, .slice none 0 0, .slice none 0 0] T75 := HZ6.out.1.other (by show w.heap.size + 1 ≠ w1.heap.size; omega) _
  have hb6w := HB6.out.setCell (p := ⟨w1.heap.size, 3, none⟩) HB5.out.size (.slice A6 n6 c6)
  obtain ⟨⟨j0, j1, j2, j3⟩, -, -⟩ := cells4 (hz6.set4 (.slice Ab nb cb) (.slice A 4 c) (.slice A' 4 c') (.slice A6 n6 c6))
  refine bodyPost_ret (v := .tuple #[.agg #[.slice Ab nb cb, .slice A 4 c, .slice A' 4 c', .slice A6 n6 c6], .string ⟨#[111, 107, 10]⟩]) (by simp [results, Tryz.results52, go_sem, j0, j1, j2, j3]) rfl ?_
  rw [HY.out (by trivial)]
  exact ⟨_, rfl, sval_fin (s := ⟨s.bs, s.ds, XS⟩) hz6 hb6w (by omega) (.inl HI.out.1) (.inl HI.out.2.1) (.inl HI.out.2.2.1) (PT.set (.inr ⟨_, HOT.out⟩) HZ6.out.2 3 _) _ _ _ _, below_set4 hb6w (by omega) _ _ _ _⟩
theorem l9Line_settle (s : St) (hs : InvS s)  (v : Value) (Aw : Option Addr) (nw cw : Nat) (w : World) (h : AskIn w s wSettle [] v Aw nw cw) (R : ByteArray × St) (OKB : Bool) (XS : List Tl) (hok : (settleOf s.ts).isSome = OKB) (hxs : (settleOf s.ts).getD [] = XS) (hy : OKB = true → R = (okT, { s with ts := XS })) (hno : OKB = false → R = (noT, s)) :
  Calls Tryz.prog 52 #[v, .slice Aw nw cw] w (LinePost9 w R) := by
 have HA := Hd h
 obtain ⟨hv, hw, h1, h2⟩ := h
 have HV := Hd hv
 obtain ⟨Ab, nb, cb, A, c, A', c', At, nt, ct, rfl, i1, i2, i3, i4⟩ := hv
 have hlen := hw.len
 simp only [List.length_cons, List.length_nil] at hlen
 obtain ⟨g, rfl⟩ := OwnR.some2 hw (by omega)
 have d0 := OwnR.cell2 hw (j := 0) rfl
 have HW := Hd hw
 obtain ⟨t, ht⟩ : ∃ t, bs wSettle = t := ⟨_, rfl⟩
 rw [ht] at d0
 have hg : g < w.heap.size := World.block_lt_of_cell? w _ d0
 have hW0 : (0 : Int) < (nw : Int) := by omega
 have hW2 : 0 < nw := by omega
 have hW1 : (nw : Int) ≤ 2000 := by omega
 obtain ⟨W, hWW, hbl, x2, x4⟩ := line_head w #[.slice Ab nb cb, .slice A 4 c, .slice A' 4 c', .slice At nt ct] #[.slice none 0 0, .slice none 0 0, .slice none 0 0, .slice none 0 0]
 have HN := Hd (l9Numbers_any (some ⟨g, 0, none⟩) 0 nw cw wSettle [] W (by rw [← hWW]; exact (HW.out.alloc _).alloc _) h1 h2)
 have HI := Hd (And.intro i1 (And.intro i2 (And.intro i3 i4)))
 have HB := Hd hbl
 have HWW := Hd hWW
 have HX := Hd (And.intro x2 x4)
 have HT := Hd ht
 have HLEN := Hd hlen
 have f0 : (t.toList == [108, 97, 121]) = false := (wd_of ht).trans (by decide)
 have f1 : (t.toList == [114, 101, 100, 117, 99, 101]) = false := (wd_of ht).trans (by decide)
 have f2 : (t.toList == [114, 97, 105, 115, 101]) = false := (wd_of ht).trans (by decide)
 have f3 : (t.toList == [97, 100, 100]) = false := (wd_of ht).trans (by decide)
 have f4 : (t.toList == [116, 97, 107, 101]) = false := (wd_of ht).trans (by decide)
 have f5 : (t.toList == [111, 119, 101]) = false := (wd_of ht).trans (by decide)
 have f6 : (t.toList == [115, 101, 116, 116, 108, 101]) = true := (wd_of ht).trans (by decide)
 have HY := Hd hy
 have HNO := Hd hno
 have HCC := Hd (fun w (hx : Tals w w.heap.size At nt s.ts) => settle_tp At nt ct s.ts w hx (okL_told hs.t).2.2)
 rw [hok, hxs] at HCC
 clear hy hno hok hxs
 clear hw h1 h2 hbl hWW ht i1 i2 i3 i4 x2 x4 hlen
 go_enter Tryz.func52, Tryz.ntmps52
 go_wp2_with fail
 rw [HWW.out]
 refine HN.out.mono ?_
 rintro e w1 ⟨A5, c5, rfl, ho5, hb5⟩
 obtain ⟨⟨p0, p1, p2, p3⟩, -, ltp⟩ := cells4 (HX.out.1.next hb5)
 obtain ⟨⟨q0, q1, q2, q3⟩, ⟨r0, r1, r2, r3⟩, ltq⟩ := cells4 (HX.out.2.next hb5)
 have HX5 := Hd (And.intro (HX.out.1.next hb5) (HX.out.2.next hb5))
 have HB5 := Hd (below_chain HB.out hb5)
 have e0 := (HB5.out.cell (p := ⟨g, 0, none⟩) hg).trans d0
 have hg1 : g < w1.heap.size := Nat.lt_of_lt_of_le hg HB5.out.size
 have HO5 := Hd ho5
 clear ho5 hb5 d0
 simp only [List.length_nil] at HO5 ⊢
 go_wp2_with fail
 obtain ⟨W7, hW7, hb7, ⟨z2, z4, z7⟩, hbw⟩ := line_w7 HX5.out.1 HX5.out.2 HB5.out #[.slice Ab nb cb, .slice A 4 c, .slice A' 4 c', .slice At nt ct]
 have HZ := Hd (And.intro z2 (And.intro z4 z7))
 have HBW := Hd hbw
 obtain ⟨⟨s0, s1, s2, s3⟩, -, lts⟩ := cells4 z2
 have e7 := (hb7.cell (p := ⟨g, 0, none⟩) hg1).trans e0
 have hg7 : g < W7.heap.size := Nat.lt_of_lt_of_le hg hbw.size
 rw [hW7]
 clear hW7 hb7 z7 z2 z4 hbw
 refine (HCC.out _ (Row.next HI.out.2.2.2 HBW.out)).mono ?_
 rintro e w6 ⟨A6, n6, c6, rfl, ho6, hb6'⟩
 have hb6 := hb6'
 obtain ⟨⟨t0, t1, t2, t3⟩, -, ltt⟩ := cells4 (HZ.out.1.next hb6)
 obtain ⟨⟨u0, u1, u2, u3⟩, ⟨v0, v1, v2, v3⟩, ltu⟩ := cells4 (HZ.out.2.1.next hb6)
 obtain ⟨⟨y0, y1, y2, y3⟩, ⟨a0, a1, a2, a3⟩, lty⟩ := cells4 (HZ.out.2.2.next hb6)
 have HZ6 := Hd (And.intro (HZ.out.2.1.next hb6) (HZ.out.2.2.next hb6))
 have HB6 := Hd (HBW.out.trans (hb6.mono HBW.out.size))
 have HO6 := Hd ho6
 clear hb6 hb6' ho6
 cases OKB with
 | false =>
  go_wp2_with fail
  have hz6 : Blk (w6.setCell ⟨w1.heap.size, 3, none⟩ (.slice A6 n6 c6)) (w.heap.size + 1) #[.slice none 0 0, .slice none 0 0, .slice none 0 0, .slice none 0 0] T75 := HZ6.out.1.other (by show w.heap.size + 1 ≠ w1.heap.size; omega) _
  have hb6w := HB6.out.setCell (p := ⟨w1.heap.size, 3, none⟩) HB5.out.size (.slice A6 n6 c6)
  obtain ⟨⟨j0, j1, j2, j3⟩, -, -⟩ := cells4 (hz6.set4 (.slice Ab nb cb) (.slice A 4 c) (.slice A' 4 c') (.slice At nt ct))
  refine bodyPost_ret (v := .tuple #[.agg #[.slice Ab nb cb, .slice A 4 c, .slice A' 4 c', .slice At nt ct], .string ⟨#[110, 111, 10]⟩]) (by simp [results, Tryz.results52, go_sem, j0, j1, j2, j3]) rfl ?_
  rw [HNO.out (by trivial)]
  exact ⟨_, rfl, sval_fin hz6 hb6w (by omega) (.inl HI.out.1) (.inl HI.out.2.1) (.inl HI.out.2.2.1) (.inl HI.out.2.2.2) _ _ _ _, below_set4 hb6w (by omega) _ _ _ _⟩
 | true =>
  have HOT := Hd (HO6.out rfl)
  go_wp2_with fail
  have hz6 : Blk (w6.setCell ⟨w1.heap.size, 3, none⟩ (.slice A6 n6 c6)) (w.heap.size + 1) #[.slice none 0 0, .slice none 0 0, .slice none 0 0, .slice none 0 0] T75 := HZ6.out.1.other (by show w.heap.size + 1 ≠ w1.heap.size; omega) _
  have hb6w := HB6.out.setCell (p := ⟨w1.heap.size, 3, none⟩) HB5.out.size (.slice A6 n6 c6)
  obtain ⟨⟨j0, j1, j2, j3⟩, -, -⟩ := cells4 (hz6.set4 (.slice Ab nb cb) (.slice A 4 c) (.slice A' 4 c') (.slice A6 n6 c6))
  refine bodyPost_ret (v := .tuple #[.agg #[.slice Ab nb cb, .slice A 4 c, .slice A' 4 c', .slice A6 n6 c6], .string ⟨#[111, 107, 10]⟩]) (by simp [results, Tryz.results52, go_sem, j0, j1, j2, j3]) rfl ?_
  rw [HY.out (by trivial)]
  exact ⟨_, rfl, sval_fin (s := ⟨s.bs, s.ds, XS⟩) hz6 hb6w (by omega) (.inl HI.out.1) (.inl HI.out.2.1) (.inl HI.out.2.2.1) (PT.set (.inr ⟨_, HOT.out⟩) HZ6.out.2 3 _) _ _ _ _, below_set4 hb6w (by omega) _ _ _ _⟩
end Go.Proofs.YthdoofmfigemoaaGreatDoor
