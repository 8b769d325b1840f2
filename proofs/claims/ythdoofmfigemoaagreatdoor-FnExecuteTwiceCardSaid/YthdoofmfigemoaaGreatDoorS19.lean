/-
  Joined texts.
-/
import Derived.Test.YthdoofmfigemoaaGreatDoorS18
set_option linter.unusedSimpArgs false
set_option linter.unusedVariables false
set_option maxRecDepth 100000
set_option maxHeartbeats 4000000
namespace Go.Proofs.YthdoofmfigemoaaGreatDoor
open Go.RowKit
theorem l9Line_add (s : St) (hs : InvS s) (hk : True) (x : List UInt8) (v : Value) (Aw : Option Addr) (nw cw : Nat) (w : World) (h : AskIn w s wAdd [x] v Aw nw cw) (R : ByteArray × St) (FR : Option (List Int × Int)) (hfr : frBy 1 s.ds (wnum x) = FR) (hy : ∀ es p, FR = some (es, p) → R = (dec p ++ ⟨#[10]⟩, { s with ds := es })) (hno : FR = none → R = (noT, s)) :
  Calls Tryz.prog 52 #[v, .slice Aw nw cw] w (LinePost9 w R) := by
 have HA := Hd h
 obtain ⟨hv, hw, h1, h2⟩ := h
 have HV := Hd hv
 obtain ⟨Ab, nb, cb, A, c, A', c', At, nt, ct, rfl, i1, i2, i3, i4⟩ := hv
 have hlen := hw.len
 simp only [List.length_cons, List.length_nil] at hlen
 obtain ⟨g, rfl⟩ := OwnR.some2 hw (by omega)
 have d0 := OwnR.cell2 hw (j := 0) rfl
 have HW := Hd hw
 obtain ⟨t, ht⟩ : ∃ t, bs wAdd = t := ⟨_, rfl⟩
 rw [ht] at d0
 have htl : t = ⟨#[97, 100, 100]⟩ := by rw [← ht]; rfl
 subst htl
 have hg : g < w.heap.size := World.block_lt_of_cell? w _ d0
 have hW0 : (0 : Int) < (nw : Int) := by omega
 have hW2 : 0 < nw := by omega
 have hW1 : (nw : Int) ≤ 2000 := by omega
 obtain ⟨W, hWW, hbl, x2, x4⟩ := line_head w #[.slice Ab nb cb, .slice A 4 c, .slice A' 4 c', .slice At nt ct] #[.slice none 0 0, .slice none 0 0, .slice none 0 0, .slice none 0 0]
 have HN := Hd (l9Numbers_any (some ⟨g, 0, none⟩) 0 nw cw wAdd [x] W (by rw [← hWW]; exact (HW.out.alloc _).alloc _) h1 h2)
 have HI := Hd (And.intro i1 (And.intro i2 (And.intro i3 i4)))
 have HB := Hd hbl
 have HWW := Hd hWW
 have HX := Hd (And.intro x2 x4)
 have HT := Hd ht
 have HLEN := Hd hlen
 have HY := Hd hy
 have HNO := Hd hno
 have HCC := Hd (fun w j1 j2 j3 j4 => l9Frame_add s hs.b (wnum x) Ab A A' At nb cb c c' nt ct w j1 j2 j3 j4)
 rw [hfr] at HCC
 clear hy hno hfr
 clear hw h1 h2 hbl hWW ht i1 i2 i3 i4 x2 x4 hlen
 go_enter Tryz.func52, Tryz.ntmps52
 go_wp2_with fail
 rw [HWW.out]
 refine HN.out.mono ?_
 rintro e w1 ⟨A5, c5, rfl, ho5, hb5⟩
 obtain ⟨⟨p0, p1, p2, p3⟩, -, ltp⟩ := cells4 (HX.out.1.next hb5)
 obtain ⟨⟨q0, q1, q2, q3⟩, ⟨r0, r1, r2, r3⟩, ltq⟩ := cells4 (HX.out.2.next hb5)
 have HX5 := Hd (And.intro (HX.out.1.next hb5) (HX.out.2.next hb5))
 have HB5 := Hd (below_chain HB.out hb5)
 have e0 := (HB5.out.cell (p := ⟨g, 0, none⟩) hg).trans d0
 have hg1 : g < w1.heap.size := Nat.lt_of_lt_of_le hg HB5.out.size
 have HO5 := Hd ho5
 clear ho5 hb5 d0
 obtain ⟨g5, rfl, -, hg5, hc5, -⟩ := HO5.out.at_ (by simp)
 have n0 := hc5 0 (wnum x) (by simp)
 clear hc5
 simp only [List.length_cons, List.length_nil] at HO5 ⊢
 go_wp2_with fail
 obtain ⟨W7, hW7, hb7, ⟨z2, z4, z7⟩, hbw⟩ := line_w7 HX5.out.1 HX5.out.2 HB5.out #[.slice Ab nb cb, .slice A 4 c, .slice A' 4 c', .slice At nt ct]
 have HZ := Hd (And.intro z2 (And.intro z4 z7))
 have HBW := Hd hbw
 obtain ⟨⟨s0, s1, s2, s3⟩, -, lts⟩ := cells4 z2
 have e7 := (hb7.cell (p := ⟨g, 0, none⟩) hg1).trans e0
 have m0 := (hb7.cell (p := ⟨g5, 0, none⟩) hg5).trans n0
 have hg57 : g5 < W7.heap.size := Nat.lt_of_lt_of_le hg5 hb7.size
 have hg7 : g < W7.heap.size := Nat.lt_of_lt_of_le hg hbw.size
 rw [hW7]
 clear hW7 hb7 z7 z2 z4 hbw
 refine wp_region_held_drew (S := (fun w' => w'.cell? ⟨w.heap.size, 0, none⟩ = some (.slice Ab nb cb) ∧ w'.cell? ⟨w.heap.size, 1, none⟩ = some (.slice A 4 c) ∧ w'.cell? ⟨w.heap.size, 2, none⟩ = some (.slice A' 4 c') ∧ w'.cell? ⟨w.heap.size, 3, none⟩ = some (.slice At nt ct) ∧ w'.cell? ⟨g, 0, none⟩ = some (.string ⟨#[97, 100, 100]⟩) ∧ w'.cell? ⟨g5, 0, none⟩ = some (.int .i64 (wnum x)))) (by kernel_rfl) ?_ (fun hHeld => ?_)
 ·(try dsimp only)
  all_goals (first | (refine ⟨?_, ?_, ?_, ?_, ?_, ?_⟩ <;> go_simp) | go_keep)
 refine Tk 0 (some 91) (v := ?v1) rfl (Or.inl ⟨by rfl, ?hy1⟩) (by first | assumption | exact hHeld) ?rest1
 case hy1 => ((intro w0 hSw; (try dsimp only at hSw); go_simp) <;> with_reducible rfl)
 (try simp only [Tp0, Tp1, Tp2, Tp3, Tp4])
 refine Tk 1 (some 92) (v := ?v2) rfl (Or.inl ⟨by rfl, ?hy2⟩) (by first | assumption | exact hHeld) ?rest2
 case hy2 => ((intro w0 hSw; (try dsimp only at hSw); go_simp) <;> with_reducible rfl)
 (try simp only [Tp0, Tp1, Tp2, Tp3, Tp4])
 refine Tk 2 (some 93) (v := ?v3) rfl (Or.inl ⟨by rfl, ?hy3⟩) (by first | assumption | exact hHeld) ?rest3
 case hy3 => ((intro w0 hSw; (try dsimp only at hSw); go_simp) <;> with_reducible rfl)
 (try simp only [Tp0, Tp1, Tp2, Tp3, Tp4])
 refine Tk 3 (some 94) (v := ?v4) rfl (Or.inl ⟨by rfl, ?hy4⟩) (by first | assumption | exact hHeld) ?rest4
 case hy4 => ((intro w0 hSw; (try dsimp only at hSw); go_simp) <;> with_reducible rfl)
 (try simp only [Tp0, Tp1, Tp2, Tp3, Tp4])
 refine Tk 4 (some 95) (v := ?v5) rfl (Or.inl ⟨by rfl, ?hy5⟩) (by first | assumption | exact hHeld) ?rest5
 case hy5 => ((intro w0 hSw; (try dsimp only at hSw); go_simp) <;> with_reducible rfl)
 (try simp only [Tp0, Tp1, Tp2, Tp3, Tp4])
 refine Tk 5 (some 96) (v := ?v6) rfl (Or.inl ⟨by rfl, ?hy6⟩) (by first | assumption | exact hHeld) ?rest6
 case hy6 => ((intro w0 hSw; (try dsimp only at hSw); go_simp) <;> with_reducible rfl)
 (try simp only [Tp0, Tp1, Tp2, Tp3, Tp4])
 refine Tk 6 (some 97) (v := ?v7) rfl (Or.inl ⟨by rfl, ?hy7⟩) (by first | assumption | exact hHeld) ?rest7
 case hy7 => ((intro w0 hSw; (try dsimp only at hSw); go_simp) <;> with_reducible rfl)
 (try simp only [Tp0, Tp1, Tp2, Tp3, Tp4])
 refine wpAnyH_ready (rs := [7]) (by kernel_rfl) (by simp) ?_
 refine AllReadyH.cons (o := ⟨some 98, _, _, _, _, _⟩) rfl (fun K hK => ?_) ?_
 ·go_simp
  refine (HCC.out _ (HI.out.1.next (show Below w.heap.size w W7.drew from HBW.out.drew)) (HI.out.2.1.next HBW.out.drew) (HI.out.2.2.1.next HBW.out.drew) (Row.next HI.out.2.2.2 HBW.out.drew)).mono ?_
  rintro e w6 ⟨A2, A3, m4, c2, c3, tt, rfl, hpost, hb6'⟩
  have hb6 := (Below.refl W7.heap.size W7).drew.trans hb6'
  obtain ⟨⟨t0, t1, t2, t3⟩, -, ltt⟩ := cells4 (HZ.out.1.next hb6)
  obtain ⟨⟨u0, u1, u2, u3⟩, ⟨v0, v1, v2, v3⟩, ltu⟩ := cells4 (HZ.out.2.1.next hb6)
  obtain ⟨⟨y0, y1, y2, y3⟩, ⟨a0, a1, a2, a3⟩, lty⟩ := cells4 (HZ.out.2.2.next hb6)
  have HZ6 := Hd (And.intro (HZ.out.2.1.next hb6) (HZ.out.2.2.next hb6))
  have HB6 := Hd (HBW.out.trans (hb6.mono HBW.out.size))
  have e6 := (hb6.cell (p := ⟨g, 0, none⟩) hg7).trans e7
  have m6 := (hb6.cell (p := ⟨g5, 0, none⟩) hg57).trans m0
  have hg6 : g < w6.heap.size := Nat.lt_of_lt_of_le hg7 hb6.size
  have hg56 : g5 < w6.heap.size := Nat.lt_of_lt_of_le hg57 hb6.size
  have HP := Hd hpost
  clear hb6 hb6' hpost
  (try go_wp2_with fail)
  refine hK.out _ _ ?_ (fun hHeld8 => ?_)
  ·(try dsimp only)
   all_goals (first | (refine ⟨?_, ?_, ?_, ?_, ?_, ?_⟩ <;> go_simp) | go_keep)
  clear hK K
  (try clear hHeld)
  (try simp only [Tp0, Tp1, Tp2, Tp3, Tp4])
  refine Tk 8 (some 90) (v := ?v9) rfl (Or.inl ⟨by rfl, ?hy9⟩) (by first | assumption | exact hHeld8) ?rest9
  case hy9 => ((intro w0 hSw; (try dsimp only at hSw); go_simp) <;> with_reducible rfl)
  (try simp only [Tp0, Tp1, Tp2, Tp3, Tp4])
  refine Tk 9 (some 99) (v := ?v10) rfl (Or.inl ⟨by rfl, ?hy10⟩) (by first | assumption | exact hHeld8) ?rest10
  case hy10 => ((intro w0 hSw; (try dsimp only at hSw); go_simp) <;> with_reducible rfl)
  (try simp only [Tp0, Tp1, Tp2, Tp3, Tp4])
  refine Tk 10 (some 100) (v := ?v11) rfl (Or.inl ⟨by rfl, ?hy11⟩) (by first | assumption | exact hHeld8) ?rest11
  case hy11 => ((intro w0 hSw; (try dsimp only at hSw); go_simp) <;> with_reducible rfl)
  (try simp only [Tp0, Tp1, Tp2, Tp3, Tp4])
  refine Tk 11 (some 101) (v := ?v12) rfl (Or.inl ⟨by rfl, ?hy12⟩) (by first | assumption | exact hHeld8) ?rest12
  case hy12 => ((intro w0 hSw; (try dsimp only at hSw); go_simp) <;> with_reducible rfl)
  (try simp only [Tp0, Tp1, Tp2, Tp3, Tp4])
  refine wpAnyH_ready (rs := [12]) (by kernel_rfl) (by simp) ?_
  refine AllReadyH.cons (o := ⟨none, _, _, _, _, _⟩) rfl (fun K hK => ?_) ?_
  ·go_simp
   refine hK.out _ _ ?_ (fun hHeld13 => ?_)
   ·(try dsimp only)
    all_goals (first | (refine ⟨?_, ?_, ?_, ?_, ?_, ?_⟩ <;> go_simp) | go_keep)
   clear hK K
   (try clear hHeld8)
   (try simp only [Tp0, Tp1, Tp2, Tp3, Tp4])
   refine Tk 13 (some 9) (v := ?v14) rfl (Or.inl ⟨by rfl, ?hy14⟩) (by first | assumption | exact hHeld13) ?rest14
   case hy14 => ((intro w0 hSw; (try dsimp only at hSw); go_simp) <;> with_reducible rfl)
   (try simp only [Tp0, Tp1, Tp2, Tp3, Tp4])
   refine Tk 14 (some 8) (v := ?v15) rfl (Or.inl ⟨by rfl, ?hy15⟩) (by first | assumption | exact hHeld13) ?rest15
   case hy15 => ((intro w0 hSw; (try dsimp only at hSw); go_simp) <;> with_reducible rfl)
   (try simp only [Tp0, Tp1, Tp2, Tp3, Tp4])
   refine wpAnyH_done (by kernel_rfl) ?_ _
   cases FR with
   | none =>
    go_wp2_with fail
    have hz6 : Blk ((((w6.setCell ⟨w1.heap.size, 0, none⟩ (.slice Ab nb cb)).setCell ⟨w1.heap.size, 1, none⟩ (.slice A2 m4 c2)).setCell ⟨w1.heap.size, 2, none⟩ (.slice A3 m4 c3)).setCell ⟨w1.heap.size, 3, none⟩ (.slice At nt ct)) (w.heap.size + 1) #[.slice none 0 0, .slice none 0 0, .slice none 0 0, .slice none 0 0] T75 := (((HZ6.out.1.other (p := ⟨w1.heap.size, 0, none⟩) (by show w.heap.size + 1 ≠ w1.heap.size; omega) _).other (p := ⟨w1.heap.size, 1, none⟩) (by show w.heap.size + 1 ≠ w1.heap.size; omega) _).other (p := ⟨w1.heap.size, 2, none⟩) (by show w.heap.size + 1 ≠ w1.heap.size; omega) _).other (p := ⟨w1.heap.size, 3, none⟩) (by show w.heap.size + 1 ≠ w1.heap.size; omega) _
    have hb6w := below_set4 HB6.out HB5.out.size (.slice Ab nb cb) (.slice A2 m4 c2) (.slice A3 m4 c3) (.slice At nt ct)
    obtain ⟨⟨j0, j1, j2, j3⟩, -, -⟩ := cells4 (hz6.set4 (.slice Ab nb cb) (.slice A 4 c) (.slice A' 4 c') (.slice At nt ct))
    refine bodyPost_ret (v := .tuple #[.agg #[.slice Ab nb cb, .slice A 4 c, .slice A' 4 c', .slice At nt ct], .string ⟨#[110, 111, 10]⟩]) (by simp [results, Tryz.results52, go_sem, j0, j1, j2, j3]) rfl ?_
    rw [HNO.out (by trivial)]
    exact ⟨_, rfl, sval_fin hz6 hb6w (by omega) (.inl HI.out.1) (.inl HI.out.2.1) (.inl HI.out.2.2.1) (.inl HI.out.2.2.2) _ _ _ _, below_set4 hb6w (by omega) _ _ _ _⟩
   | some q =>
    obtain ⟨es, p⟩ := q
    obtain ⟨rfl, rfl, o1, o2⟩ := HP.out es p rfl
    have HR := Hd (HY.out es p rfl)
    have HOO := Hd (And.intro o1 o2)
    clear o1 o2 HP HY HNO
    go_wp2_with fail
    have hz6 : Blk ((((w6.setCell ⟨w1.heap.size, 0, none⟩ (.slice Ab nb cb)).setCell ⟨w1.heap.size, 1, none⟩ (.slice A2 4 c2)).setCell ⟨w1.heap.size, 2, none⟩ (.slice A3 4 c3)).setCell ⟨w1.heap.size, 3, none⟩ (.slice At nt ct)) (w.heap.size + 1) #[.slice none 0 0, .slice none 0 0, .slice none 0 0, .slice none 0 0] T75 := (((HZ6.out.1.other (p := ⟨w1.heap.size, 0, none⟩) (by show w.heap.size + 1 ≠ w1.heap.size; omega) _).other (p := ⟨w1.heap.size, 1, none⟩) (by show w.heap.size + 1 ≠ w1.heap.size; omega) _).other (p := ⟨w1.heap.size, 2, none⟩) (by show w.heap.size + 1 ≠ w1.heap.size; omega) _).other (p := ⟨w1.heap.size, 3, none⟩) (by show w.heap.size + 1 ≠ w1.heap.size; omega) _
    have hb6w := below_set4 HB6.out HB5.out.size (.slice Ab nb cb) (.slice A2 4 c2) (.slice A3 4 c3) (.slice At nt ct)
    obtain ⟨⟨j0, j1, j2, j3⟩, -, -⟩ := cells4 (hz6.set4 (.slice Ab nb cb) (.slice A2 4 c2) (.slice A3 4 c3) (.slice At nt ct))
    refine bodyPost_ret (v := .tuple #[.agg #[.slice Ab nb cb, .slice A2 4 c2, .slice A3 4 c3, .slice At nt ct], .string (dec p ++ ⟨#[10]⟩)]) (by simp [results, Tryz.results52, go_sem, j0, j1, j2, j3]) rfl ?_
    rw [HR.out]
    exact ⟨_, rfl, sval_fin (s := ⟨s.bs, es, s.ts⟩) hz6 hb6w (by omega) (.inl HI.out.1) (.inr ⟨_, Own.box4 HZ6.out.2 HOO.out.1 _ _ _ _⟩) (.inr ⟨_, Own.box4 HZ6.out.2 HOO.out.2 _ _ _ _⟩) (.inl HI.out.2.2.2) _ _ _ _, below_set4 hb6w (by omega) _ _ _ _⟩
  exact AllReadyH.nil
 exact AllReadyH.nil
theorem l9Line_take (s : St) (hs : InvS s) (hk : True) (x : List UInt8) (v : Value) (Aw : Option Addr) (nw cw : Nat) (w : World) (h : AskIn w s wTake [x] v Aw nw cw) (R : ByteArray × St) (FR : Option (List Int × Int)) (hfr : frBy (-1) s.ds (wnum x) = FR) (hy : ∀ es p, FR = some (es, p) → R = (dec p ++ ⟨#[10]⟩, { s with ds := es })) (hno : FR = none → R = (noT, s)) :
  Calls Tryz.prog 52 #[v, .slice Aw nw cw] w (LinePost9 w R) := by
 have HA := Hd h
 obtain ⟨hv, hw, h1, h2⟩ := h
 have HV := Hd hv
 obtain ⟨Ab, nb, cb, A, c, A', c', At, nt, ct, rfl, i1, i2, i3, i4⟩ := hv
 have hlen := hw.len
 simp only [List.length_cons, List.length_nil] at hlen
 obtain ⟨g, rfl⟩ := OwnR.some2 hw (by omega)
 have d0 := OwnR.cell2 hw (j := 0) rfl
 have HW := Hd hw
 obtain ⟨t, ht⟩ : ∃ t, bs wTake = t := ⟨_, rfl⟩
 rw [ht] at d0
 have htl : t = ⟨#[116, 97, 107, 101]⟩ := by rw [← ht]; rfl
 subst htl
 have hg : g < w.heap.size := World.block_lt_of_cell? w _ d0
 have hW0 : (0 : Int) < (nw : Int) := by omega
 have hW2 : 0 < nw := by omega
 have hW1 : (nw : Int) ≤ 2000 := by omega
 obtain ⟨W, hWW, hbl, x2, x4⟩ := line_head w #[.slice Ab nb cb, .slice A 4 c, .slice A' 4 c', .slice At nt ct] #[.slice none 0 0, .slice none 0 0, .slice none 0 0, .slice none 0 0]
 have HN := Hd (l9Numbers_any (some ⟨g, 0, none⟩) 0 nw cw wTake [x] W (by rw [← hWW]; exact (HW.out.alloc _).alloc _) h1 h2)
 have HI := Hd (And.intro i1 (And.intro i2 (And.intro i3 i4)))
 have HB := Hd hbl
 have HWW := Hd hWW
 have HX := Hd (And.intro x2 x4)
 have HT := Hd ht
 have HLEN := Hd hlen
 have HY := Hd hy
 have HNO := Hd hno
 have HCC := Hd (fun w j1 j2 j3 j4 => l9Frame_take s hs.b (wnum x) Ab A A' At nb cb c c' nt ct w j1 j2 j3 j4)
 rw [hfr] at HCC
 clear hy hno hfr
 clear hw h1 h2 hbl hWW ht i1 i2 i3 i4 x2 x4 hlen
 go_enter Tryz.func52, Tryz.ntmps52
 go_wp2_with fail
 rw [HWW.out]
 refine HN.out.mono ?_
 rintro e w1 ⟨A5, c5, rfl, ho5, hb5⟩
 obtain ⟨⟨p0, p1, p2, p3⟩, -, ltp⟩ := cells4 (HX.out.1.next hb5)
 obtain ⟨⟨q0, q1, q2, q3⟩, ⟨r0, r1, r2, r3⟩, ltq⟩ := cells4 (HX.out.2.next hb5)
 have HX5 := Hd (And.intro (HX.out.1.next hb5) (HX.out.2.next hb5))
 have HB5 := Hd (below_chain HB.out hb5)
 have e0 := (HB5.out.cell (p := ⟨g, 0, none⟩) hg).trans d0
 have hg1 : g < w1.heap.size := Nat.lt_of_lt_of_le hg HB5.out.size
 have HO5 := Hd ho5
 clear ho5 hb5 d0
 obtain ⟨g5, rfl, -, hg5, hc5, -⟩ := HO5.out.at_ (by simp)
 have n0 := hc5 0 (wnum x) (by simp)
 clear hc5
 simp only [List.length_cons, List.length_nil] at HO5 ⊢
 go_wp2_with fail
 obtain ⟨W7, hW7, hb7, ⟨z2, z4, z7⟩, hbw⟩ := line_w7 HX5.out.1 HX5.out.2 HB5.out #[.slice Ab nb cb, .slice A 4 c, .slice A' 4 c', .slice At nt ct]
 have HZ := Hd (And.intro z2 (And.intro z4 z7))
 have HBW := Hd hbw
 obtain ⟨⟨s0, s1, s2, s3⟩, -, lts⟩ := cells4 z2
 have e7 := (hb7.cell (p := ⟨g, 0, none⟩) hg1).trans e0
 have m0 := (hb7.cell (p := ⟨g5, 0, none⟩) hg5).trans n0
 have hg57 : g5 < W7.heap.size := Nat.lt_of_lt_of_le hg5 hb7.size
 have hg7 : g < W7.heap.size := Nat.lt_of_lt_of_le hg hbw.size
 rw [hW7]
 clear hW7 hb7 z7 z2 z4 hbw
 refine wp_region_held_drew (S := (fun w' => w'.cell? ⟨w.heap.size, 0, none⟩ = some (.slice Ab nb cb) ∧ w'.cell? ⟨w.heap.size, 1, none⟩ = some (.slice A 4 c) ∧ w'.cell? ⟨w.heap.size, 2, none⟩ = some (.slice A' 4 c') ∧ w'.cell? ⟨w.heap.size, 3, none⟩ = some (.slice At nt ct) ∧ w'.cell? ⟨g, 0, none⟩ = some (.string ⟨#[116, 97, 107, 101]⟩) ∧ w'.cell? ⟨g5, 0, none⟩ = some (.int .i64 (wnum x)))) (by kernel_rfl) ?_ (fun hHeld => ?_)
 ·(try dsimp only)
  all_goals (first | (refine ⟨?_, ?_, ?_, ?_, ?_, ?_⟩ <;> go_simp) | go_keep)
 refine Tk 0 (some 91) (v := ?v1) rfl (Or.inl ⟨by rfl, ?hy1⟩) (by first | assumption | exact hHeld) ?rest1
 case hy1 => ((intro w0 hSw; (try dsimp only at hSw); go_simp) <;> with_reducible rfl)
 (try simp only [Tp0, Tp1, Tp2, Tp3, Tp4])
 refine Tk 1 (some 92) (v := ?v2) rfl (Or.inl ⟨by rfl, ?hy2⟩) (by first | assumption | exact hHeld) ?rest2
 case hy2 => ((intro w0 hSw; (try dsimp only at hSw); go_simp) <;> with_reducible rfl)
 (try simp only [Tp0, Tp1, Tp2, Tp3, Tp4])
 refine Tk 2 (some 93) (v := ?v3) rfl (Or.inl ⟨by rfl, ?hy3⟩) (by first | assumption | exact hHeld) ?rest3
 case hy3 => ((intro w0 hSw; (try dsimp only at hSw); go_simp) <;> with_reducible rfl)
 (try simp only [Tp0, Tp1, Tp2, Tp3, Tp4])
 refine Tk 3 (some 94) (v := ?v4) rfl (Or.inl ⟨by rfl, ?hy4⟩) (by first | assumption | exact hHeld) ?rest4
 case hy4 => ((intro w0 hSw; (try dsimp only at hSw); go_simp) <;> with_reducible rfl)
 (try simp only [Tp0, Tp1, Tp2, Tp3, Tp4])
 refine Tk 4 (some 95) (v := ?v5) rfl (Or.inl ⟨by rfl, ?hy5⟩) (by first | assumption | exact hHeld) ?rest5
 case hy5 => ((intro w0 hSw; (try dsimp only at hSw); go_simp) <;> with_reducible rfl)
 (try simp only [Tp0, Tp1, Tp2, Tp3, Tp4])
 refine Tk 5 (some 96) (v := ?v6) rfl (Or.inl ⟨by rfl, ?hy6⟩) (by first | assumption | exact hHeld) ?rest6
 case hy6 => ((intro w0 hSw; (try dsimp only at hSw); go_simp) <;> with_reducible rfl)
 (try simp only [Tp0, Tp1, Tp2, Tp3, Tp4])
 refine Tk 6 (some 97) (v := ?v7) rfl (Or.inl ⟨by rfl, ?hy7⟩) (by first | assumption | exact hHeld) ?rest7
 case hy7 => ((intro w0 hSw; (try dsimp only at hSw); go_simp) <;> with_reducible rfl)
 (try simp only [Tp0, Tp1, Tp2, Tp3, Tp4])
 refine wpAnyH_ready (rs := [7]) (by kernel_rfl) (by simp) ?_
 refine AllReadyH.cons (o := ⟨some 98, _, _, _, _, _⟩) rfl (fun K hK => ?_) ?_
 ·go_simp
  refine (HCC.out _ (HI.out.1.next (show Below w.heap.size w W7.drew from HBW.out.drew)) (HI.out.2.1.next HBW.out.drew) (HI.out.2.2.1.next HBW.out.drew) (Row.next HI.out.2.2.2 HBW.out.drew)).mono ?_
  rintro e w6 ⟨A2, A3, m4, c2, c3, tt, rfl, hpost, hb6'⟩
  have hb6 := (Below.refl W7.heap.size W7).drew.trans hb6'
  obtain ⟨⟨t0, t1, t2, t3⟩, -, ltt⟩ := cells4 (HZ.out.1.next hb6)
  obtain ⟨⟨u0, u1, u2, u3⟩, ⟨v0, v1, v2, v3⟩, ltu⟩ := cells4 (HZ.out.2.1.next hb6)
  obtain ⟨⟨y0, y1, y2, y3⟩, ⟨a0, a1, a2, a3⟩, lty⟩ := cells4 (HZ.out.2.2.next hb6)
  have HZ6 := Hd (And.intro (HZ.out.2.1.next hb6) (HZ.out.2.2.next hb6))
  have HB6 := Hd (HBW.out.trans (hb6.mono HBW.out.size))
  have e6 := (hb6.cell (p := ⟨g, 0, none⟩) hg7).trans e7
  have m6 := (hb6.cell (p := ⟨g5, 0, none⟩) hg57).trans m0
  have hg6 : g < w6.heap.size := Nat.lt_of_lt_of_le hg7 hb6.size
  have hg56 : g5 < w6.heap.size := Nat.lt_of_lt_of_le hg57 hb6.size
  have HP := Hd hpost
  clear hb6 hb6' hpost
  (try go_wp2_with fail)
  refine hK.out _ _ ?_ (fun hHeld8 => ?_)
  ·(try dsimp only)
   all_goals (first | (refine ⟨?_, ?_, ?_, ?_, ?_, ?_⟩ <;> go_simp) | go_keep)
  clear hK K
  (try clear hHeld)
  (try simp only [Tp0, Tp1, Tp2, Tp3, Tp4])
  refine Tk 8 (some 90) (v := ?v9) rfl (Or.inl ⟨by rfl, ?hy9⟩) (by first | assumption | exact hHeld8) ?rest9
  case hy9 => ((intro w0 hSw; (try dsimp only at hSw); go_simp) <;> with_reducible rfl)
  (try simp only [Tp0, Tp1, Tp2, Tp3, Tp4])
  refine Tk 9 (some 99) (v := ?v10) rfl (Or.inl ⟨by rfl, ?hy10⟩) (by first | assumption | exact hHeld8) ?rest10
  case hy10 => ((intro w0 hSw; (try dsimp only at hSw); go_simp) <;> with_reducible rfl)
  (try simp only [Tp0, Tp1, Tp2, Tp3, Tp4])
  refine Tk 10 (some 100) (v := ?v11) rfl (Or.inl ⟨by rfl, ?hy11⟩) (by first | assumption | exact hHeld8) ?rest11
  case hy11 => ((intro w0 hSw; (try dsimp only at hSw); go_simp) <;> with_reducible rfl)
  (try simp only [Tp0, Tp1, Tp2, Tp3, Tp4])
  refine Tk 11 (some 101) (v := ?v12) rfl (Or.inl ⟨by rfl, ?hy12⟩) (by first | assumption | exact hHeld8) ?rest12
  case hy12 => ((intro w0 hSw; (try dsimp only at hSw); go_simp) <;> with_reducible rfl)
  (try simp only [Tp0, Tp1, Tp2, Tp3, Tp4])
  refine wpAnyH_ready (rs := [12]) (by kernel_rfl) (by simp) ?_
  refine AllReadyH.cons (o := ⟨none, _, _, _, _, _⟩) rfl (fun K hK => ?_) ?_
  ·go_simp
   refine hK.out _ _ ?_ (fun hHeld13 => ?_)
   ·(try dsimp only)
    all_goals (first | (refine ⟨?_, ?_, ?_, ?_, ?_, ?_⟩ <;> go_simp) | go_keep)
   clear hK K
   (try clear hHeld8)
   (try simp only [Tp0, Tp1, Tp2, Tp3, Tp4])
   refine Tk 13 (some 9) (v := ?v14) rfl (Or.inl ⟨by rfl, ?hy14⟩) (by first | assumption | exact hHeld13) ?rest14
   case hy14 => ((intro w0 hSw; (try dsimp only at hSw); go_simp) <;> with_reducible rfl)
   (try simp only [Tp0, Tp1, Tp2, Tp3, Tp4])
   refine Tk 14 (some 8) (v := ?v15) rfl (Or.inl ⟨by rfl, ?hy15⟩) (by first | assumption | exact hHeld13) ?rest15
   case hy15 => ((intro w0 hSw; (try dsimp only at hSw); go_simp) <;> with_reducible rfl)
   (try simp only [Tp0, Tp1, Tp2, Tp3, Tp4])
   refine wpAnyH_done (by kernel_rfl) ?_ _
   cases FR with
   | none =>
    go_wp2_with fail
    have hz6 : Blk ((((w6.setCell ⟨w1.heap.size, 0, none⟩ (.slice Ab nb cb)).setCell ⟨w1.heap.size, 1, none⟩ (.slice A2 m4 c2)).setCell ⟨w1.heap.size, 2, none⟩ (.slice A3 m4 c3)).setCell ⟨w1.heap.size, 3, none⟩ (.slice At nt ct)) (w.heap.size + 1) #[.slice none 0 0, .slice none 0 0, .slice none 0 0, .slice none 0 0] T75 := (((HZ6.out.1.other (p := ⟨w1.heap.size, 0, none⟩) (by show w.heap.size + 1 ≠ w1.heap.size; omega) _).other (p := ⟨w1.heap.size, 1, none⟩) (by show w.heap.size + 1 ≠ w1.heap.size; omega) _).other (p := ⟨w1.heap.size, 2, none⟩) (by show w.heap.size + 1 ≠ w1.heap.size; omega) _).other (p := ⟨w1.heap.size, 3, none⟩) (by show w.heap.size + 1 ≠ w1.heap.size; omega) _
    have hb6w := below_set4 HB6.out HB5.out.size (.slice Ab nb cb) (.slice A2 m4 c2) (.slice A3 m4 c3) (.slice At nt ct)
    obtain ⟨⟨j0, j1, j2, j3⟩, -, -⟩ := cells4 (hz6.set4 (.slice Ab nb cb) (.slice A 4 c) (.slice A' 4 c') (.slice At nt ct))
    refine bodyPost_ret (v := .tuple #[.agg #[.slice Ab nb cb, .slice A 4 c, .slice A' 4 c', .slice At nt ct], .string ⟨#[110, 111, 10]⟩]) (by simp [results, Tryz.results52, go_sem, j0, j1, j2, j3]) rfl ?_
    rw [HNO.out (by trivial)]
    exact ⟨_, rfl, sval_fin hz6 hb6w (by omega) (.inl HI.out.1) (.inl HI.out.2.1) (.inl HI.out.2.2.1) (.inl HI.out.2.2.2) _ _ _ _, below_set4 hb6w (by omega) _ _ _ _⟩
   | some q =>
    obtain ⟨es, p⟩ := q
    obtain ⟨rfl, rfl, o1, o2⟩ := HP.out es p rfl
    have HR := Hd (HY.out es p rfl)
    have HOO := Hd (And.intro o1 o2)
    clear o1 o2 HP HY HNO
    go_wp2_with fail
    have hz6 : Blk ((((w6.setCell ⟨w1.heap.size, 0, none⟩ (.slice Ab nb cb)).setCell ⟨w1.heap.size, 1, none⟩ (.slice A2 4 c2)).setCell ⟨w1.heap.size, 2, none⟩ (.slice A3 4 c3)).setCell ⟨w1.heap.size, 3, none⟩ (.slice At nt ct)) (w.heap.size + 1) #[.slice none 0 0, .slice none 0 0, .slice none 0 0, .slice none 0 0] T75 := (((HZ6.out.1.other (p := ⟨w1.heap.size, 0, none⟩) (by show w.heap.size + 1 ≠ w1.heap.size; omega) _).other (p := ⟨w1.heap.size, 1, none⟩) (by show w.heap.size + 1 ≠ w1.heap.size; omega) _).other (p := ⟨w1.heap.size, 2, none⟩) (by show w.heap.size + 1 ≠ w1.heap.size; omega) _).other (p := ⟨w1.heap.size, 3, none⟩) (by show w.heap.size + 1 ≠ w1.heap.size; omega) _
    have hb6w := below_set4 HB6.out HB5.out.size (.slice Ab nb cb) (.slice A2 4 c2) (.slice A3 4 c3) (.slice At nt ct)
    obtain ⟨⟨j0, j1, j2, j3⟩, -, -⟩ := cells4 (hz6.set4 (.slice Ab nb cb) (.slice A2 4 c2) (.slice A3 4 c3) (.slice At nt ct))
    refine bodyPost_ret (v := .tuple #[.agg #[.slice Ab nb cb, .slice A2 4 c2, .slice A3 4 c3, .slice At nt ct], .string (dec p ++ ⟨#[10]⟩)]) (by simp [results, Tryz.results52, go_sem, j0, j1, j2, j3]) rfl ?_
    rw [HR.out]
    exact ⟨_, rfl, sval_fin (s := ⟨s.bs, es, s.ts⟩) hz6 hb6w (by omega) (.inl HI.out.1) (.inr ⟨_, Own.box4 HZ6.out.2 HOO.out.1 _ _ _ _⟩) (.inr ⟨_, Own.box4 HZ6.out.2 HOO.out.2 _ _ _ _⟩) (.inl HI.out.2.2.2) _ _ _ _, below_set4 hb6w (by omega) _ _ _ _⟩
  exact AllReadyH.nil
 exact AllReadyH.nil
end Go.Proofs.YthdoofmfigemoaaGreatDoor
