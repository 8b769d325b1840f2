/-
  The draws of frames: a frame and a number.
-/
import Derived.Test.YtpaepdlkjblfgaaFrDraw2
import Derived.Deep.RegionHeld3
namespace Go.Proofs.Ytpaepdlkjblfgaa
open Go.RowKit
set_option linter.unusedSimpArgs false

/-- a drawn frame and a number -/
def DNumber (w : World) (B g p : Nat) (e : Ending) (w' : World) : Prop :=
  ∃ A n c A' m c' hs ls N q, e = .returned (.tuple #[.agg #[.slice A n c, .slice A' m c'], .int .i64 N]) ∧ (∀ v, w'.grownBy v (some g) → Ints v v.heap.size A n hs ∧ Ints v v.heap.size A' m ls) ∧ n ≤ 6 ∧ (1 ≤ n ∧ n ≤ c ∧ m ≤ c') ∧ m ≤ 6 ∧ -1 ≤ N ∧ N ≤ 1000000 ∧ Rd w' B g q ∧ q ≤ p + 60 ∧ w.grownBy w' (some g)

theorem DNumber.alloc {w w' : World} {B g p : Nat} {e : Ending} (h : DNumber w B g p e w') (o : Obj) : DNumber w B g p e (w'.alloc o) := by
  obtain ⟨A, n, c, A', m, c', hs, ls, N, q, he, hx, h1, h2, h3, h4, h5, hr, hq, hg⟩ := h
  exact ⟨A, n, c, A', m, c', hs, ls, N, q, he, fun v hv => hx v ((World.grownBy_alloc w' o _).trans hv), h1, h2, h3, h4, h5, hr.alloc o, hq, hg.trans (World.grownBy_alloc w' o _)⟩
theorem dnumber_of {w w4 : World} {B g p q n m c c' : Nat} {A A' : Option Addr} {hs ls : List Int} {N : Int} (hp : ∀ v, w4.grownBy v (some g) → Ints v v.heap.size A n hs ∧ Ints v v.heap.size A' m ls) (hz : Box w4 w.heap.size (.slice none 0 0) (.slice none 0 0))
    (hn : n ≤ 6) (hn1 : 1 ≤ n ∧ n ≤ c ∧ m ≤ c') (hm : m ≤ 6) (h0 : -1 ≤ N) (h1 : N ≤ 1000000) (hr : Rd w4 B g q) (hq : q ≤ p + 60) (hg : w.grownBy w4 (some g)) (hgl : g < w.heap.size) :
    DNumber w B g p (.returned (.tuple #[.agg #[.slice A n c, .slice A' m c'], .int .i64 N])) ((w4.setCell ⟨w.heap.size, 0, none⟩ (.slice A n c)).setCell ⟨w.heap.size, 1, none⟩ (.slice A' m c')) := by
  have hg9 := (((grown_set w.heap.size 0 (.slice A n c)).row_in' (w := w4) (N := w.heap.size - 1) (by omega)).trans ((grown_set w.heap.size 1 (.slice A' m c')).row_in' (N := w.heap.size - 1) (by omega))).on_ hg
  have hb := hr.base
  exact ⟨_, _, _, _, _, _, hs, ls, _, q, rfl, fun v hv => ⟨pers_set (fun v h => (hp v h).1) hz v hv, pers_set (fun v h => (hp v h).2) hz v hv⟩, hn, hn1, hm, h0, h1, (hr.far (a := ⟨w.heap.size, 0, none⟩) (by show B ≤ w.heap.size; omega) (by show w.heap.size ≠ g; omega) _).far (a := ⟨w.heap.size, 1, none⟩) (by show B ≤ w.heap.size; omega) (by show w.heap.size ≠ g; omega) _, hq, hg9⟩
set_option maxRecDepth 100000 in
set_option maxHeartbeats 4000000 in
theorem l92Number_any (w : World) (B g p : Nat) (h : Rd w B g p) (hp : p ≤ 800000) :
    Calls Try.prog 71 #[.pointer (some ⟨g, 0, none⟩)] w (DNumber w B g p) := by
  have hlt := h.lt
  have hbs := h.base
  have HR := Lib.hid (h.alloc (.cells #[.slice none 0 0, .slice none 0 0] 25))
  have HZ := Lib.hid (Box.new w (.slice none 0 0) (.slice none 0 0))
  have HB := Lib.hid (World.grownBy_alloc w (.cells #[.slice none 0 0, .slice none 0 0] 25) (some g))
  clear h
  go_enter Try.func71, Try.ntmps71
  go_wp2_with fail
  refine (l92Some_any _ _ _ _ HR.out (by omega)).mono ?_
  rintro e w2 ⟨A, n, c, A', m, c', hs, ls, q2, rfl, hx2, hn, hn1, hm, hrd2, hq2, hg2⟩
  have HNC := Lib.hid hn1
  have hsz2 := hg2.size
  simp only [World.size_alloc] at hsz2
  have hz2 := (HZ.out.grown hg2 (by intro e; injection e; omega)).alloc (.cells #[.slice A n c, .slice A' m c'] 25)
  have hx5 := Box.new w2 (.slice A n c) (.slice A' m c')
  have hx50 := hx5.fst
  have hx51 := hx5.snd
  have HZ2 := Lib.hid hz2
  have HX5 := Lib.hid hx5
  have HR5 := Lib.hid (hrd2.alloc (.cells #[.slice A n c, .slice A' m c'] 25))
  have HP := Lib.hid hx2
  replace HB := Lib.hid ((HB.out.trans hg2).trans (World.grownBy_alloc w2 (.cells #[.slice A n c, .slice A' m c'] 25) (some g)))
  clear hx2 hrd2 hg2 hz2 hx5
  go_wp2_with fail
  refine (pick_any _ _ _ _ _ HR5.out (by omega)).mono ?_
  rintro e w3 ⟨v3, rfl, hv3, hrd3, hg3⟩
  obtain ⟨hva3, hvb3⟩ := hv3 (by omega)
  clear hv3
  have hsz3 := hg3.size
  simp only [World.size_alloc] at hsz3
  have hz3 := HZ2.out.grown hg3 (by intro e; injection e; omega)
  have hx3 := HX5.out.grown hg3 (by intro e; injection e; omega)
  have x30 := hx3.fst
  have x31 := hx3.snd
  have HZ3 := Lib.hid hz3
  have HX3 := Lib.hid hx3
  have HR3 := Lib.hid hrd3
  replace HP := Lib.hid (fun v h => HP.out v (((World.grownBy_alloc w2 _ _).trans hg3).trans h))
  replace HB := Lib.hid (HB.out.trans hg3)
  clear hrd3 hg3 hz3 hx3 HX5 HZ2 HR5 hx50 hx51
  obtain ⟨T, hT⟩ : ∃ T, Fr.ten n = T := ⟨_, rfl⟩
  obtain ⟨T0, T1⟩ := ten_bd n hn
  rw [hT] at T0 T1
  have HTEN := Lib.hid hT
  clear hT
  by_cases h0 : v3 = 0
  · subst h0
    have xl := HX3.out.lt
    have zne : w2.heap.size ≠ w.heap.size := by omega
    have zne' : w.heap.size ≠ w2.heap.size := by omega
    have hT1 : IntKind.i64.wrap (T - 1) = T - 1 := IntWalk.i64_in _ (by omega)
    go_wp2_with fail
    refine wp_region_held_drew (S := (fun w' => w'.cell? ⟨w2.heap.size, 0, none⟩ = some (.slice A n c) ∧ w'.cell? ⟨w2.heap.size, 1, none⟩ = some (.slice A' m c'))) (by kernel_rfl) ?_ (fun hHeld => ?_)
    · (try dsimp only)
      first | (constructor <;> go_simp) | go_keep
    refine wpAnyH_take (i := 0) (oi := { dst := some 14, op := _, type := _, pos := _, after := _, guard := _ }) (v := ?v1) rfl (by kernel_rfl) (by kernel_rfl) (by kernel_rfl) (fun _ _ _ h => h) (Or.inl ⟨by rfl, ?hy1⟩) (by assumption) ?rest1
    case hy1 => ((intro w0 hSw; (try dsimp only at hSw); go_simp) <;> with_reducible rfl)
    (try simp only [Act.put, List.setIfInBounds_toArray, List.set_cons_zero, List.set_cons_succ])
    refine wpAnyH_take (i := 1) (oi := { dst := some 15, op := _, type := _, pos := _, after := _, guard := _ }) (v := ?v2) rfl (by kernel_rfl) (by kernel_rfl) (by kernel_rfl) (fun _ _ _ h => h) (Or.inl ⟨by rfl, ?hy2⟩) (by assumption) ?rest2
    case hy2 => ((intro w0 hSw; (try dsimp only at hSw); go_simp) <;> with_reducible rfl)
    (try simp only [Act.put, List.setIfInBounds_toArray, List.set_cons_zero, List.set_cons_succ])
    refine wpAnyH_take (i := 3) (oi := { dst := some 17, op := _, type := _, pos := _, after := _, guard := _ }) (v := ?v3) rfl (by kernel_rfl) (by kernel_rfl) (by kernel_rfl) (fun _ _ _ h => h) (Or.inl ⟨by rfl, ?hy3⟩) (by assumption) ?rest3
    case hy3 => ((intro w0 hSw; (try dsimp only at hSw); go_simp) <;> with_reducible rfl)
    (try simp only [Act.put, List.setIfInBounds_toArray, List.set_cons_zero, List.set_cons_succ])
    refine wpAnyH_take (i := 7) (oi := { dst := some 21, op := _, type := _, pos := _, after := _, guard := _ }) (v := ?v4) rfl (by kernel_rfl) (by kernel_rfl) (by kernel_rfl) (fun _ _ _ h => h) (Or.inl ⟨by rfl, ?hy4⟩) (by assumption) ?rest4
    case hy4 => ((intro w0 hSw; (try dsimp only at hSw); go_simp) <;> with_reducible rfl)
    (try simp only [Act.put, List.setIfInBounds_toArray, List.set_cons_zero, List.set_cons_succ])
    refine wpAnyH_ready (rs := [2]) (by kernel_rfl) (by simp) ?_
    refine AllReadyH.cons (o := { dst := some 16, op := _, type := _, pos := _, after := _, guard := _ }) rfl (fun K hK => ?_) ?_
    · go_simp
      refine (l5Ten_any n _ hn).mono ?_
      rw [HTEN.out]
      rintro e w9 ⟨rfl, hw9⟩
      subst hw9
      (try go_wp2_with fail)
      refine hK.out _ _ ?_ (fun hHeld5 => ?_)
      · (try dsimp only)
        first | (constructor <;> go_simp) | go_keep
      clear hK K
      (try clear hHeld)
      (try simp only [Act.put, List.setIfInBounds_toArray, List.set_cons_zero, List.set_cons_succ])
      refine wpAnyH_ready (rs := [4]) (by kernel_rfl) (by simp) ?_
      refine AllReadyH.cons (o := { dst := some 18, op := _, type := _, pos := _, after := _, guard := _ }) rfl (fun K hK => ?_) ?_
      · go_simp
        refine (l5Ten_any n _ hn).mono ?_
        rw [HTEN.out]
        rintro e w9 ⟨rfl, hw9⟩
        subst hw9
        (try go_wp2_with fail)
        refine hK.out _ _ ?_ (fun hHeld6 => ?_)
        · (try dsimp only)
          first | (constructor <;> go_simp) | go_keep
        clear hK K
        (try clear hHeld5)
        (try simp only [Act.put, List.setIfInBounds_toArray, List.set_cons_zero, List.set_cons_succ])
        refine wpAnyH_take (i := 5) (oi := { dst := some 19, op := _, type := _, pos := _, after := _, guard := _ }) (v := ?v7) rfl (by kernel_rfl) (by kernel_rfl) (by kernel_rfl) (fun _ _ _ h => h) (Or.inl ⟨by rfl, ?hy7⟩) (by assumption) ?rest7
        case hy7 => ((intro w0 hSw; (try dsimp only at hSw); go_simp) <;> with_reducible rfl)
        (try simp only [Act.put, List.setIfInBounds_toArray, List.set_cons_zero, List.set_cons_succ])
        refine wpAnyH_ready (rs := [6, 8]) (by kernel_rfl) (by simp) ?_
        refine AllReadyH.cons (o := { dst := some 20, op := _, type := _, pos := _, after := _, guard := _ }) rfl (fun K hK => ?_) ?_
        · go_simp
          refine hK.out _ _ ?_ (fun hHeld8 => ?_)
          · (try dsimp only)
            first | (constructor <;> go_simp) | go_keep
          clear hK K
          (try clear hHeld6)
          (try simp only [Act.put, List.setIfInBounds_toArray, List.set_cons_zero, List.set_cons_succ])
          refine wpAnyH_ready (rs := [8]) (by kernel_rfl) (by simp) ?_
          refine AllReadyH.cons (o := { dst := some 22, op := _, type := _, pos := _, after := _, guard := _ }) rfl (fun K hK => ?_) ?_
          · go_simp
            refine (pick_any _ _ _ _ _ (HR3.out.alloc (.cells #[.int .i64 (-1), .int .i64 T, .int .i64 (T - 1)] 3)).drew (by omega)).mono ?_
            rintro e w4 ⟨v4, rfl, hv4, hrd4, hg4'⟩
            obtain ⟨hva4, hvb4⟩ := hv4 (by omega)
            obtain ⟨j4, u4, rfl, hj4, hJ4⟩ := pick_mem (us := [-1, T, T - 1]) (n := 3) rfl (by omega) hva4 hvb4
            have hu4 : -1 ≤ u4 ∧ u4 ≤ 1000000 := by have := List.mem_of_getElem? hj4; simp at this; omega
            have hg4 : w3.grownBy w4 (some g) := (World.grownBy_alloc w3 (.cells #[.int .i64 (-1), .int .i64 T, .int .i64 (T - 1)] 3) _).trans (grown_undrew hg4')
            have hlc : w4.cell? ⟨w3.heap.size, j4, none⟩ = some (.int .i64 u4) := (cell_kept hg4' (by first | omega | (simp <;> omega)) (by first | omega | (simp <;> omega))).trans (hJ4 w3)
            have HJ4 := Lib.hid hJ4
            clear hJ4
            have hx4 := HX3.out.grown hg4 (by intro e; injection e; omega)
            have x40 := hx4.fst
            have x41 := hx4.snd
            have hz4 := HZ3.out.grown hg4 (by intro e; injection e; omega)
            have z40 := hz4.fst
            have z41 := hz4.snd
            have y40 := hz4.free 0
            have y41 := hz4.free 1
            have zl := hz4.lt
            have xl4 := hx4.lt
            have HZ4 := Lib.hid hz4
            have HG4 := Lib.hid hg4
            have HR4 := Lib.hid hrd4
            clear hg4 hg4' hrd4 hx4 hz4
            (try go_wp2_with fail)
            refine hK.out _ _ ?_ (fun hHeld9 => ?_)
            · (try dsimp only)
              first | (constructor <;> go_simp) | go_keep
            clear hK K
            (try clear hHeld8)
            (try simp only [Act.put, List.setIfInBounds_toArray, List.set_cons_zero, List.set_cons_succ])
            refine wpAnyH_take (i := 9) (oi := { dst := some 23, op := _, type := _, pos := _, after := _, guard := _ }) (v := ?v10) rfl (by kernel_rfl) (by kernel_rfl) (by kernel_rfl) (fun _ _ _ h => h) (Or.inl ⟨by rfl, ?hy10⟩) (by assumption) ?rest10
            case hy10 => ((intro w0 hSw; (try dsimp only at hSw); go_simp) <;> with_reducible rfl)
            (try simp only [Act.put, List.setIfInBounds_toArray, List.set_cons_zero, List.set_cons_succ])
            refine wpAnyH_ready (rs := [10, 11]) (by kernel_rfl) (by simp) ?_
            refine AllReadyH.cons (o := { dst := some 24, op := _, type := _, pos := _, after := _, guard := _ }) rfl (fun K hK => ?_) ?_
            · go_simp
              refine hK.out _ _ ?_ (fun hHeld11 => ?_)
              · (try dsimp only)
                first | (constructor <;> go_simp) | go_keep
              clear hK K
              (try clear hHeld9)
              (try simp only [Act.put, List.setIfInBounds_toArray, List.set_cons_zero, List.set_cons_succ])
              refine wpAnyH_ready (rs := [11]) (by kernel_rfl) (by simp) ?_
              refine AllReadyH.cons (o := { dst := none, op := _, type := _, pos := _, after := _, guard := _ }) rfl (fun K hK => ?_) ?_
              · go_simp
                refine hK.out _ _ ?_ (fun hHeld12 => ?_)
                · (try dsimp only)
                  first | (constructor <;> go_simp) | go_keep
                clear hK K
                (try clear hHeld11)
                (try simp only [Act.put, List.setIfInBounds_toArray, List.set_cons_zero, List.set_cons_succ])
                refine wpAnyH_take (i := 12) (oi := { dst := some 3, op := _, type := _, pos := _, after := _, guard := _ }) (v := ?v13) rfl (by kernel_rfl) (by kernel_rfl) (by kernel_rfl) (fun _ _ _ h => h) (Or.inl ⟨by rfl, ?hy13⟩) (by assumption) ?rest13
                case hy13 => ((intro w0 hSw; (try dsimp only at hSw); go_simp) <;> with_reducible rfl)
                (try simp only [Act.put, List.setIfInBounds_toArray, List.set_cons_zero, List.set_cons_succ])
                refine wpAnyH_done (by kernel_rfl) ?_ _
                go_wp2
                have hfin := dnumber_of (p := p) (c := c) (c' := c') (N := u4) (fun v h => HP.out v (HG4.out.trans h)) HZ4.out hn HNC.out hm hu4.1 hu4.2 HR4.out (by omega) (HB.out.trans HG4.out) hlt
                have hb3 := HZ4.out.over (.slice A n c) (.slice A' m c')
                have hc3 := hb3.fst
                have hd3 := hb3.snd
                first
                  | exact bodyPost_ret (v := .tuple #[.agg #[.slice A n c, .slice A' m c'], .int .i64 u4]) (by simp [results, Try.results71, go_sem, hc3, hd3]) rfl hfin
                  | exact bodyPost_ret (v := .tuple #[.agg #[.slice A n c, .slice A' m c'], .int .i64 u4]) (by simp [results, Try.results71, go_sem, (hb3.alloc _).fst, (hb3.alloc _).snd]) rfl (hfin.alloc _)
              exact AllReadyH.nil
            refine AllReadyH.cons (o := { dst := none, op := _, type := _, pos := _, after := _, guard := _ }) rfl (fun K hK => ?_) ?_
            · go_simp
              refine hK.out _ _ ?_ (fun hHeld14 => ?_)
              · (try dsimp only)
                first | (constructor <;> go_simp) | go_keep
              clear hK K
              (try clear hHeld9)
              (try simp only [Act.put, List.setIfInBounds_toArray, List.set_cons_zero, List.set_cons_succ])
              refine wpAnyH_ready (rs := [10]) (by kernel_rfl) (by simp) ?_
              refine AllReadyH.cons (o := { dst := some 24, op := _, type := _, pos := _, after := _, guard := _ }) rfl (fun K hK => ?_) ?_
              · go_simp
                refine hK.out _ _ ?_ (fun hHeld15 => ?_)
                · (try dsimp only)
                  first | (constructor <;> go_simp) | go_keep
                clear hK K
                (try clear hHeld14)
                (try simp only [Act.put, List.setIfInBounds_toArray, List.set_cons_zero, List.set_cons_succ])
                refine wpAnyH_take (i := 12) (oi := { dst := some 3, op := _, type := _, pos := _, after := _, guard := _ }) (v := ?v16) rfl (by kernel_rfl) (by kernel_rfl) (by kernel_rfl) (fun _ _ _ h => h) (Or.inl ⟨by rfl, ?hy16⟩) (by assumption) ?rest16
                case hy16 => ((intro w0 hSw; (try dsimp only at hSw); go_simp) <;> with_reducible rfl)
                (try simp only [Act.put, List.setIfInBounds_toArray, List.set_cons_zero, List.set_cons_succ])
                refine wpAnyH_done (by kernel_rfl) ?_ _
                go_wp2
                have hfin := dnumber_of (p := p) (c := c) (c' := c') (N := u4) (fun v h => HP.out v (HG4.out.trans h)) HZ4.out hn HNC.out hm hu4.1 hu4.2 HR4.out (by omega) (HB.out.trans HG4.out) hlt
                have hb3 := HZ4.out.over (.slice A n c) (.slice A' m c')
                have hc3 := hb3.fst
                have hd3 := hb3.snd
                first
                  | exact bodyPost_ret (v := .tuple #[.agg #[.slice A n c, .slice A' m c'], .int .i64 u4]) (by simp [results, Try.results71, go_sem, hc3, hd3]) rfl hfin
                  | exact bodyPost_ret (v := .tuple #[.agg #[.slice A n c, .slice A' m c'], .int .i64 u4]) (by simp [results, Try.results71, go_sem, (hb3.alloc _).fst, (hb3.alloc _).snd]) rfl (hfin.alloc _)
              exact AllReadyH.nil
            exact AllReadyH.nil
          exact AllReadyH.nil
        refine AllReadyH.cons (o := { dst := some 22, op := _, type := _, pos := _, after := _, guard := _ }) rfl (fun K hK => ?_) ?_
        · go_simp
          refine (pick_any _ _ _ _ _ HR3.out.drew (by omega)).mono ?_
          rintro e w4 ⟨v4, rfl, hv4, hrd4, hg4'⟩
          obtain ⟨hva4, hvb4⟩ := hv4 (by omega)
          obtain ⟨j4, u4, rfl, hj4, hJ4⟩ := pick_mem (us := [-1, T, T - 1]) (n := 3) rfl (by omega) hva4 hvb4
          have hu4 : -1 ≤ u4 ∧ u4 ≤ 1000000 := by have := List.mem_of_getElem? hj4; simp at this; omega
          have hg4 : w3.grownBy w4 (some g) := grown_undrew hg4'
          have hl1 : (w4.alloc (.cells #[.int .i64 (-1), .int .i64 T, .int .i64 (T - 1)] 3)).cell? ⟨w4.heap.size, j4, none⟩ = some (.int .i64 u4) := hJ4 w4
          have hl2 : (((w4.setCell ⟨w.heap.size, 0, none⟩ (.slice A n c)).setCell ⟨w.heap.size, 1, none⟩ (.slice A' m c')).alloc (.cells #[.int .i64 (-1), .int .i64 T, .int .i64 (T - 1)] 3)).cell? ⟨w4.heap.size, j4, none⟩ = some (.int .i64 u4) := by have := hJ4 ((w4.setCell ⟨w.heap.size, 0, none⟩ (.slice A n c)).setCell ⟨w.heap.size, 1, none⟩ (.slice A' m c')); rwa [size_setCell_, size_setCell_] at this
          have HJ4 := Lib.hid hJ4
          clear hJ4
          have hx4 := HX3.out.grown hg4 (by intro e; injection e; omega)
          have x40 := hx4.fst
          have x41 := hx4.snd
          have hz4 := HZ3.out.grown hg4 (by intro e; injection e; omega)
          have z40 := hz4.fst
          have z41 := hz4.snd
          have y40 := hz4.free 0
          have y41 := hz4.free 1
          have zl := hz4.lt
          have xl4 := hx4.lt
          have HZ4 := Lib.hid hz4
          have HG4 := Lib.hid hg4
          have HR4 := Lib.hid hrd4
          clear hg4 hg4' hrd4 hx4 hz4
          (try go_wp2_with fail)
          refine hK.out _ _ ?_ (fun hHeld17 => ?_)
          · (try dsimp only)
            first | (constructor <;> go_simp) | go_keep
          clear hK K
          (try clear hHeld6)
          (try simp only [Act.put, List.setIfInBounds_toArray, List.set_cons_zero, List.set_cons_succ])
          refine wpAnyH_ready (rs := [6, 11]) (by kernel_rfl) (by simp) ?_
          refine AllReadyH.cons (o := { dst := some 20, op := _, type := _, pos := _, after := _, guard := _ }) rfl (fun K hK => ?_) ?_
          · go_simp
            refine hK.out _ _ ?_ (fun hHeld18 => ?_)
            · (try dsimp only)
              first | (constructor <;> go_simp) | go_keep
            clear hK K
            (try clear hHeld17)
            (try simp only [Act.put, List.setIfInBounds_toArray, List.set_cons_zero, List.set_cons_succ])
            refine wpAnyH_take (i := 9) (oi := { dst := some 23, op := _, type := _, pos := _, after := _, guard := _ }) (v := ?v19) rfl (by kernel_rfl) (by kernel_rfl) (by kernel_rfl) (fun _ _ _ h => h) (Or.inl ⟨by rfl, ?hy19⟩) (by assumption) ?rest19
            case hy19 => ((intro w0 hSw; (try dsimp only at hSw); go_simp) <;> with_reducible rfl)
            (try simp only [Act.put, List.setIfInBounds_toArray, List.set_cons_zero, List.set_cons_succ])
            refine wpAnyH_ready (rs := [10, 11]) (by kernel_rfl) (by simp) ?_
            refine AllReadyH.cons (o := { dst := some 24, op := _, type := _, pos := _, after := _, guard := _ }) rfl (fun K hK => ?_) ?_
            · go_simp
              refine hK.out _ _ ?_ (fun hHeld20 => ?_)
              · (try dsimp only)
                first | (constructor <;> go_simp) | go_keep
              clear hK K
              (try clear hHeld18)
              (try simp only [Act.put, List.setIfInBounds_toArray, List.set_cons_zero, List.set_cons_succ])
              refine wpAnyH_ready (rs := [11]) (by kernel_rfl) (by simp) ?_
              refine AllReadyH.cons (o := { dst := none, op := _, type := _, pos := _, after := _, guard := _ }) rfl (fun K hK => ?_) ?_
              · go_simp
                refine hK.out _ _ ?_ (fun hHeld21 => ?_)
                · (try dsimp only)
                  first | (constructor <;> go_simp) | go_keep
                clear hK K
                (try clear hHeld20)
                (try simp only [Act.put, List.setIfInBounds_toArray, List.set_cons_zero, List.set_cons_succ])
                refine wpAnyH_take (i := 12) (oi := { dst := some 3, op := _, type := _, pos := _, after := _, guard := _ }) (v := ?v22) rfl (by kernel_rfl) (by kernel_rfl) (by kernel_rfl) (fun _ _ _ h => h) (Or.inl ⟨by rfl, ?hy22⟩) (by assumption) ?rest22
                case hy22 => ((intro w0 hSw; (try dsimp only at hSw); go_simp) <;> with_reducible rfl)
                (try simp only [Act.put, List.setIfInBounds_toArray, List.set_cons_zero, List.set_cons_succ])
                refine wpAnyH_done (by kernel_rfl) ?_ _
                go_wp2
                have hfin := dnumber_of (p := p) (c := c) (c' := c') (N := u4) (fun v h => HP.out v (HG4.out.trans h)) HZ4.out hn HNC.out hm hu4.1 hu4.2 HR4.out (by omega) (HB.out.trans HG4.out) hlt
                have hb3 := HZ4.out.over (.slice A n c) (.slice A' m c')
                have hc3 := hb3.fst
                have hd3 := hb3.snd
                first
                  | exact bodyPost_ret (v := .tuple #[.agg #[.slice A n c, .slice A' m c'], .int .i64 u4]) (by simp [results, Try.results71, go_sem, hc3, hd3]) rfl hfin
                  | exact bodyPost_ret (v := .tuple #[.agg #[.slice A n c, .slice A' m c'], .int .i64 u4]) (by simp [results, Try.results71, go_sem, (hb3.alloc _).fst, (hb3.alloc _).snd]) rfl (hfin.alloc _)
              exact AllReadyH.nil
            refine AllReadyH.cons (o := { dst := none, op := _, type := _, pos := _, after := _, guard := _ }) rfl (fun K hK => ?_) ?_
            · go_simp
              refine hK.out _ _ ?_ (fun hHeld23 => ?_)
              · (try dsimp only)
                first | (constructor <;> go_simp) | go_keep
              clear hK K
              (try clear hHeld18)
              (try simp only [Act.put, List.setIfInBounds_toArray, List.set_cons_zero, List.set_cons_succ])
              refine wpAnyH_ready (rs := [10]) (by kernel_rfl) (by simp) ?_
              refine AllReadyH.cons (o := { dst := some 24, op := _, type := _, pos := _, after := _, guard := _ }) rfl (fun K hK => ?_) ?_
              · go_simp
                refine hK.out _ _ ?_ (fun hHeld24 => ?_)
                · (try dsimp only)
                  first | (constructor <;> go_simp) | go_keep
                clear hK K
                (try clear hHeld23)
                (try simp only [Act.put, List.setIfInBounds_toArray, List.set_cons_zero, List.set_cons_succ])
                refine wpAnyH_take (i := 12) (oi := { dst := some 3, op := _, type := _, pos := _, after := _, guard := _ }) (v := ?v25) rfl (by kernel_rfl) (by kernel_rfl) (by kernel_rfl) (fun _ _ _ h => h) (Or.inl ⟨by rfl, ?hy25⟩) (by assumption) ?rest25
                case hy25 => ((intro w0 hSw; (try dsimp only at hSw); go_simp) <;> with_reducible rfl)
                (try simp only [Act.put, List.setIfInBounds_toArray, List.set_cons_zero, List.set_cons_succ])
                refine wpAnyH_done (by kernel_rfl) ?_ _
                go_wp2
                have hfin := dnumber_of (p := p) (c := c) (c' := c') (N := u4) (fun v h => HP.out v (HG4.out.trans h)) HZ4.out hn HNC.out hm hu4.1 hu4.2 HR4.out (by omega) (HB.out.trans HG4.out) hlt
                have hb3 := HZ4.out.over (.slice A n c) (.slice A' m c')
                have hc3 := hb3.fst
                have hd3 := hb3.snd
                first
                  | exact bodyPost_ret (v := .tuple #[.agg #[.slice A n c, .slice A' m c'], .int .i64 u4]) (by simp [results, Try.results71, go_sem, hc3, hd3]) rfl hfin
                  | exact bodyPost_ret (v := .tuple #[.agg #[.slice A n c, .slice A' m c'], .int .i64 u4]) (by simp [results, Try.results71, go_sem, (hb3.alloc _).fst, (hb3.alloc _).snd]) rfl (hfin.alloc _)
              exact AllReadyH.nil
            exact AllReadyH.nil
          refine AllReadyH.cons (o := { dst := none, op := _, type := _, pos := _, after := _, guard := _ }) rfl (fun K hK => ?_) ?_
          · go_simp
            refine hK.out _ _ ?_ (fun hHeld26 => ?_)
            · (try dsimp only)
              first | (constructor <;> go_simp) | go_keep
            clear hK K
            (try clear hHeld17)
            (try simp only [Act.put, List.setIfInBounds_toArray, List.set_cons_zero, List.set_cons_succ])
            refine wpAnyH_ready (rs := [6]) (by kernel_rfl) (by simp) ?_
            refine AllReadyH.cons (o := { dst := some 20, op := _, type := _, pos := _, after := _, guard := _ }) rfl (fun K hK => ?_) ?_
            · go_simp
              refine hK.out _ _ ?_ (fun hHeld27 => ?_)
              · (try dsimp only)
                first | (constructor <;> go_simp) | go_keep
              clear hK K
              (try clear hHeld26)
              (try simp only [Act.put, List.setIfInBounds_toArray, List.set_cons_zero, List.set_cons_succ])
              refine wpAnyH_take (i := 9) (oi := { dst := some 23, op := _, type := _, pos := _, after := _, guard := _ }) (v := ?v28) rfl (by kernel_rfl) (by kernel_rfl) (by kernel_rfl) (fun _ _ _ h => h) (Or.inl ⟨by rfl, ?hy28⟩) (by assumption) ?rest28
              case hy28 => ((intro w0 hSw; (try dsimp only at hSw); go_simp) <;> with_reducible rfl)
              (try simp only [Act.put, List.setIfInBounds_toArray, List.set_cons_zero, List.set_cons_succ])
              refine wpAnyH_ready (rs := [10]) (by kernel_rfl) (by simp) ?_
              refine AllReadyH.cons (o := { dst := some 24, op := _, type := _, pos := _, after := _, guard := _ }) rfl (fun K hK => ?_) ?_
              · go_simp
                refine hK.out _ _ ?_ (fun hHeld29 => ?_)
                · (try dsimp only)
                  first | (constructor <;> go_simp) | go_keep
                clear hK K
                (try clear hHeld27)
                (try simp only [Act.put, List.setIfInBounds_toArray, List.set_cons_zero, List.set_cons_succ])
                refine wpAnyH_take (i := 12) (oi := { dst := some 3, op := _, type := _, pos := _, after := _, guard := _ }) (v := ?v30) rfl (by kernel_rfl) (by kernel_rfl) (by kernel_rfl) (fun _ _ _ h => h) (Or.inl ⟨by rfl, ?hy30⟩) (by assumption) ?rest30
                case hy30 => ((intro w0 hSw; (try dsimp only at hSw); go_simp) <;> with_reducible rfl)
                (try simp only [Act.put, List.setIfInBounds_toArray, List.set_cons_zero, List.set_cons_succ])
                refine wpAnyH_done (by kernel_rfl) ?_ _
                go_wp2
                have hfin := dnumber_of (p := p) (c := c) (c' := c') (N := u4) (fun v h => HP.out v (HG4.out.trans h)) HZ4.out hn HNC.out hm hu4.1 hu4.2 HR4.out (by omega) (HB.out.trans HG4.out) hlt
                have hb3 := HZ4.out.over (.slice A n c) (.slice A' m c')
                have hc3 := hb3.fst
                have hd3 := hb3.snd
                first
                  | exact bodyPost_ret (v := .tuple #[.agg #[.slice A n c, .slice A' m c'], .int .i64 u4]) (by simp [results, Try.results71, go_sem, hc3, hd3]) rfl hfin
                  | exact bodyPost_ret (v := .tuple #[.agg #[.slice A n c, .slice A' m c'], .int .i64 u4]) (by simp [results, Try.results71, go_sem, (hb3.alloc _).fst, (hb3.alloc _).snd]) rfl (hfin.alloc _)
              exact AllReadyH.nil
            exact AllReadyH.nil
          exact AllReadyH.nil
        exact AllReadyH.nil
      exact AllReadyH.nil
    exact AllReadyH.nil
  · have h0' : (v3 == 0) = false := by simpa using h0
    have T2 : (T == 0) = false := by simp; omega
    have hmax : (if (1 : Int) < (n : Int) then (n : Int) else 1) = (n : Int) := by split <;> omega
    have hne : ¬ T = 0 := by omega
    go_wp2_with fail
    go_region_held3 (fun w' => w'.cell? ⟨w2.heap.size, 0, none⟩ = some (.slice A n c) ∧ w'.cell? ⟨w2.heap.size, 1, none⟩ = some (.slice A' m c'))
      (first | (constructor <;> go_simp) | go_keep)
      (first
        | (go_at_call 54; (try go_split_ands); (with_reducible refine (pick_any _ _ _ _ _ HR3.out.drew (by omega)).mono ?_); rintro e w4 ⟨v4, rfl, hv4, hrd4, hg4'⟩; obtain ⟨hva4, hvb4⟩ := hv4 (by omega); have hg4 : w3.grownBy w4 (some g) := grown_undrew hg4'; have hx4 := HX3.out.grown hg4 (by intro e; injection e; omega); have x40 := hx4.fst; have x41 := hx4.snd; have hz4 := HZ3.out.grown hg4 (by intro e; injection e; omega); have z40 := hz4.fst; have z41 := hz4.snd; have y40 := hz4.free 0; have y41 := hz4.free 1; have zl := hz4.lt; have xl4 := hx4.lt; have HZ4 := Lib.hid hz4; have HG4 := Lib.hid hg4; have HR4 := Lib.hid hrd4; clear hg4 hg4' hrd4 hx4 hz4)
        | (go_at_call 55; (try go_split_ands); (refine (l5Ten_any n _ hn).mono ?_); rw [HTEN.out]; rintro e w9 ⟨rfl, hw9⟩; subst hw9))
    all_goals go_wp2
    all_goals
      have hr0 : 0 ≤ v4.tmod T := Int.tmod_nonneg _ hva4
      have hr1 : v4.tmod T < T := Int.tmod_lt_of_pos _ (by omega)
      have hfin := dnumber_of (p := p) (c := c) (c' := c') (N := v4.tmod T) (fun v h => HP.out v (HG4.out.trans h)) HZ4.out hn HNC.out hm (by omega) (by omega) HR4.out (by omega) (HB.out.trans HG4.out) hlt
      have hb3 := HZ4.out.over (.slice A n c) (.slice A' m c')
      have hc3 := hb3.fst
      have hd3 := hb3.snd
      exact bodyPost_ret (v := .tuple #[.agg #[.slice A n c, .slice A' m c'], .int .i64 (v4.tmod T)]) (by simp [results, Try.results71, go_sem, hc3, hd3]) rfl hfin
end Go.Proofs.Ytpaepdlkjblfgaa
