/-
  The draw of a number of rods and a value.
-/
import Derived.Test.YtpaepdlkjblfgaaFrDraw4
namespace Go.Proofs.Ytpaepdlkjblfgaa
open Go.RowKit
set_option linter.unusedSimpArgs false

section
variable {P : Program} {md : Region.Mode} {ops : Array Oper} {Q : Exit → Act → World → Prop} {S S' : World → Prop}
/-- more may be held of the world from here on -/
theorem wpAnyH_strong (h : ∀ w, S' w → S w) : ∀ (fuel : Nat) (listed : Array Bool) (a : Act) (w : World), wpAnyH P md ops Q S' fuel listed a w → wpAnyH P md ops Q S fuel listed a w
  | 0, _, _, _, k => k
  | fuel + 1, _, _, _, k => ⟨k.1, fun i hi => wpOp_mono (fun a' w' k' => ⟨h w' k'.1, wpAnyH_strong h fuel _ a' w' k'.2⟩) (k.2 i hi)⟩
end
theorem own_elem {w : World} {B b n c j : Nat} {us : List Int} {u : Int} (h : Own w B (some ⟨b, 0, none⟩) n c us) (hj : us[j]? = some u) : w.cell? ⟨b, j, none⟩ = some (.int .i64 u) := by
  have hjl := (List.getElem?_eq_some_iff.1 hj).1
  obtain ⟨g7, e7, _, _, hc7, _⟩ := h.at_ (by have := h.len; omega)
  obtain rfl : b = g7 := by simpa using e7
  exact hc7 j u hj
theorem l5Ten_at {k T : Int} {n : Nat} (hk : k = (n : Int)) (hn : n ≤ 6) (hT : Fr.ten n = T) (w : World) : Calls Try.prog 55 #[.int .i64 k] w fun e w' => e = .returned (.int .i64 T) ∧ w = w' := by
  subst hk
  exact hT ▸ l5Ten_any n w hn
/-- two drawn numbers -/
def DrewN (w : World) (e : Ending) (w' : World) : Prop := ∃ n v : Int, e = .returned (.tuple #[.int .i64 n, .int .i64 v]) ∧ 0 ≤ n ∧ n ≤ 7 ∧ -1 ≤ v ∧ v ≤ 1000000 ∧ Below w.heap.size w w'
theorem mem_bd {us : List Int} {j : Nat} {u a b : Int} (h : us[j]? = some u) (hb : ∀ x ∈ us, a ≤ x ∧ x ≤ b) : a ≤ u ∧ u ≤ b := hb u (List.mem_of_getElem? h)
set_option maxRecDepth 100000 in
set_option maxHeartbeats 4000000 in
theorem DrawFrameOf_any (A : Option Addr) (n c : Nat) (w : World) (h : Bytes w w.heap.size A n c) (hn : n ≤ 1048576) :
    Calls Try.prog 20 #[.slice A n c] w (DrewN w) := by
  have H := Lib.hid h
  clear h
  go_enter Try.func20, Try.ntmps20
  go_wp2_with fail
  refine (l6Open_any _ _ _ _ H.out hn).mono ?_
  rintro e w0 ⟨rfl, hrd, hb⟩
  obtain ⟨g, hg0⟩ : ∃ g, w.heap.size = g := ⟨_, rfl⟩
  rw [hg0] at hrd hb ⊢
  have HB := Lib.hid hb
  have hlt := hrd.lt
  have HR := Lib.hid hrd
  have HG0 := Lib.hid hg0
  clear hrd hb hg0
  go_wp2_with fail
  refine (pick_any _ _ _ _ _ HR.out (by omega)).mono ?_
  rintro e w1 ⟨v1, rfl, hv1, hrd1, hg1⟩
  obtain ⟨hva1, hvb1⟩ := hv1 (by omega)
  clear hv1
  have hsz1 := hg1.size
  have HG := Lib.hid hg1
  replace HR := Lib.hid hrd1
  clear hrd1 hg1
  obtain ⟨K, hK⟩ : ∃ K : Nat, 1 + v1 = (K : Int) := Int.eq_ofNat_of_zero_le (by omega)
  have hK6 : K ≤ 6 := by omega
  have hK1 : 1 ≤ K := by omega
  obtain ⟨T, hT⟩ : ∃ T, Fr.ten K = T := ⟨_, rfl⟩
  obtain ⟨T0, T1⟩ := ten_bd K hK6
  rw [hT] at T0 T1
  have HK := Lib.hid hK
  have HT := Lib.hid hT
  clear hT hK
  go_wp2_with fail
  refine (pick_any _ _ _ _ _ HR.out (by omega)).mono ?_
  rintro e w2 ⟨v2, rfl, hv2, hrd2, hg2⟩
  obtain ⟨hva2, hvb2⟩ := hv2 (by omega)
  clear hv2
  have hsz2 := hg2.size
  replace HG := Lib.hid (HG.out.trans hg2)
  replace HR := Lib.hid hrd2
  clear hrd2 hg2
  by_cases h0 : v2 = 0
  · subst h0
    have hT1 : IntKind.i64.wrap (T - 1) = T - 1 := IntWalk.i64_in _ (by omega)
    go_wp2_with fail
    refine wp_region_held_drew (S := (fun _ => True)) (by kernel_rfl) ?_ (fun hHeld => ?_)
    · (try dsimp only)
      all_goals (((repeat' apply And.intro) <;> first | trivial | assumption | (exact (World.cell?_alloc_lt _ _ _ (by first | omega | (simp <;> omega) | (simp only; omega))).trans (by assumption)) | go_simp | go_keep))
    refine wpAnyH_take (i := 0) (oi := { dst := some 14, op := _, type := _, pos := _, after := _, guard := _ }) (v := ?v1) rfl (by kernel_rfl) (by kernel_rfl) (by kernel_rfl) (fun _ _ _ h => h) (Or.inl ⟨by rfl, ?hy1⟩) (by first | assumption | exact hHeld) ?rest1
    case hy1 => ((intro w0 hSw; (try dsimp only at hSw); go_simp) <;> with_reducible rfl)
    (try simp only [Act.put, List.setIfInBounds_toArray, List.set_cons_zero, List.set_cons_succ])
    refine wpAnyH_take (i := 2) (oi := { dst := some 16, op := _, type := _, pos := _, after := _, guard := _ }) (v := ?v2) rfl (by kernel_rfl) (by kernel_rfl) (by kernel_rfl) (fun _ _ _ h => h) (Or.inl ⟨by rfl, ?hy2⟩) (by first | assumption | exact hHeld) ?rest2
    case hy2 => ((intro w0 hSw; (try dsimp only at hSw); go_simp) <;> with_reducible rfl)
    (try simp only [Act.put, List.setIfInBounds_toArray, List.set_cons_zero, List.set_cons_succ])
    refine wpAnyH_take (i := 6) (oi := { dst := some 20, op := _, type := _, pos := _, after := _, guard := _ }) (v := ?v3) rfl (by kernel_rfl) (by kernel_rfl) (by kernel_rfl) (fun _ _ _ h => h) (Or.inl ⟨by rfl, ?hy3⟩) (by first | assumption | exact hHeld) ?rest3
    case hy3 => ((intro w0 hSw; (try dsimp only at hSw); go_simp) <;> with_reducible rfl)
    (try simp only [Act.put, List.setIfInBounds_toArray, List.set_cons_zero, List.set_cons_succ])
    refine wpAnyH_take (i := 8) (oi := { dst := some 22, op := _, type := _, pos := _, after := _, guard := _ }) (v := ?v4) rfl (by kernel_rfl) (by kernel_rfl) (by kernel_rfl) (fun _ _ _ h => h) (Or.inl ⟨by rfl, ?hy4⟩) (by first | assumption | exact hHeld) ?rest4
    case hy4 => ((intro w0 hSw; (try dsimp only at hSw); go_simp) <;> with_reducible rfl)
    (try simp only [Act.put, List.setIfInBounds_toArray, List.set_cons_zero, List.set_cons_succ])
    refine wpAnyH_take (i := 12) (oi := { dst := some 26, op := _, type := _, pos := _, after := _, guard := _ }) (v := ?v5) rfl (by kernel_rfl) (by kernel_rfl) (by kernel_rfl) (fun _ _ _ h => h) (Or.inl ⟨by rfl, ?hy5⟩) (by first | assumption | exact hHeld) ?rest5
    case hy5 => ((intro w0 hSw; (try dsimp only at hSw); go_simp) <;> with_reducible rfl)
    (try simp only [Act.put, List.setIfInBounds_toArray, List.set_cons_zero, List.set_cons_succ])
    refine wpAnyH_ready (rs := [1, 3]) (by kernel_rfl) (by simp) ?_
    refine AllReadyH.cons (o := { dst := some 15, op := _, type := _, pos := _, after := _, guard := _ }) rfl (fun K hK => ?_) ?_
    · go_simp
      refine hK.out _ _ ?_ (fun hHeld6 => ?_)
      · (try dsimp only)
        all_goals (((repeat' apply And.intro) <;> first | trivial | assumption | (exact (World.cell?_alloc_lt _ _ _ (by first | omega | (simp <;> omega) | (simp only; omega))).trans (by assumption)) | go_simp | go_keep))
      clear hK K
      (try clear hHeld)
      (try simp only [Act.put, List.setIfInBounds_toArray, List.set_cons_zero, List.set_cons_succ])
      refine wpAnyH_ready (rs := [3]) (by kernel_rfl) (by simp) ?_
      refine AllReadyH.cons (o := { dst := some 17, op := _, type := _, pos := _, after := _, guard := _ }) rfl (fun K hK => ?_) ?_
      · go_simp
        refine (pick_any _ _ _ _ _ ((HR.out).alloc (.cells #[.int .i64 0, .int .i64 7, .int .i64 (1 + v1)] 3)).drew (by omega)).mono ?_
        rintro e w3 ⟨v3, rfl, hv3, hrd3, hg3'⟩
        obtain ⟨hva3, hvb3⟩ := hv3 (by omega)
        clear hv3
        obtain ⟨j3, u3, rfl, hj3, -⟩ := pick_mem (us := [0, 7, 1 + v1]) (n := 3) rfl (by omega) hva3 hvb3
        have HJ3 := Lib.hid hj3
        have hg3 : (w2.alloc (.cells #[.int .i64 0, .int .i64 7, .int .i64 (1 + v1)] 3)).grownBy w3 (some g) := ⟨hg3'.os, hg3'.tape, hg3'.output, hg3'.size, hg3'.block⟩
        have hsz3 := hg3.size
        (try simp only [World.size_alloc] at hsz3)
        have HR3 := Lib.hid hrd3
        have HG3 := Lib.hid (((HG.out).trans (World.grownBy_alloc _ (.cells #[.int .i64 0, .int .i64 7, .int .i64 (1 + v1)] 3) _)).trans hg3)
        have ho3_1 := own_pick2 (own_lit w2 [0, 7, 1 + v1] (g + 1) 3 rfl (by omega) (by first | omega | (simp; omega))) hg3 (by omega)
        (try simp only [World.size_alloc] at ho3_1)
        have HO3_1 := Lib.hid ho3_1
        clear ho3_1
        have hc3_5 : w3.cell? ⟨w2.heap.size, j3, none⟩ = some (.int .i64 u3) := own_elem HO3_1.out HJ3.out
        clear hrd3 hg3 hg3'
        clear hj3
        (try go_wp2_with fail)
        refine hK.out _ _ ?_ (fun hHeld7 => ?_)
        · (try dsimp only)
          all_goals (((repeat' apply And.intro) <;> first | trivial | assumption | (exact (World.cell?_alloc_lt _ _ _ (by first | omega | (simp <;> omega) | (simp only; omega))).trans (by assumption)) | go_simp | go_keep))
        clear hK K
        (try clear hHeld6)
        (try simp only [Act.put, List.setIfInBounds_toArray, List.set_cons_zero, List.set_cons_succ])
        refine wpAnyH_take (i := 4) (oi := { dst := some 18, op := _, type := _, pos := _, after := _, guard := _ }) (v := ?v8) rfl (by kernel_rfl) (by kernel_rfl) (by kernel_rfl) (fun _ _ _ h => h) (Or.inl ⟨by rfl, ?hy8⟩) (by first | assumption | exact hHeld7) ?rest8
        case hy8 => ((intro w0 hSw; (try dsimp only at hSw); go_simp) <;> with_reducible rfl)
        (try simp only [Act.put, List.setIfInBounds_toArray, List.set_cons_zero, List.set_cons_succ])
        have hs5 : (w3).cell? ⟨w2.heap.size, j3, none⟩ = some (.int .i64 u3) := by have := HO3_1.out; (try simp only [World.size_alloc] at this); exact own_elem this HJ3.out
        refine wpAnyH_strong (S' := (fun w' => w'.cell? ⟨w2.heap.size, j3, none⟩ = some (.int .i64 u3) ∧ ((fun _ => True) w'))) (fun _ h => h.2) _ _ _ _ ?_
        have hHeld9 := And.intro hs5 hHeld7
        refine wpAnyH_take (i := 5) (oi := { dst := some 19, op := _, type := _, pos := _, after := _, guard := _ }) (v := ?v10) rfl (by kernel_rfl) (by kernel_rfl) (by kernel_rfl) (fun _ _ _ h => h) (Or.inl ⟨by rfl, ?hy10⟩) (by first | assumption | exact hHeld9) ?rest10
        case hy10 => ((intro w0 hSw; (try dsimp only at hSw); go_simp) <;> with_reducible rfl)
        (try simp only [Act.put, List.setIfInBounds_toArray, List.set_cons_zero, List.set_cons_succ])
        refine wpAnyH_ready (rs := [7]) (by kernel_rfl) (by simp) ?_
        refine AllReadyH.cons (o := { dst := some 21, op := _, type := _, pos := _, after := _, guard := _ }) rfl (fun K hK => ?_) ?_
        · go_simp
          refine (l5Ten_at HK.out hK6 HT.out _).mono ?_
          rintro e w9 ⟨rfl, hw9⟩
          subst hw9
          (try go_wp2_with fail)
          refine hK.out _ _ ?_ (fun hHeld11 => ?_)
          · (try dsimp only)
            all_goals (((repeat' apply And.intro) <;> first | trivial | assumption | (exact (World.cell?_alloc_lt _ _ _ (by first | omega | (simp <;> omega) | (simp only; omega))).trans (by assumption)) | go_simp | go_keep))
          clear hK K
          (try clear hHeld9)
          (try simp only [Act.put, List.setIfInBounds_toArray, List.set_cons_zero, List.set_cons_succ])
          refine wpAnyH_ready (rs := [9]) (by kernel_rfl) (by simp) ?_
          refine AllReadyH.cons (o := { dst := some 23, op := _, type := _, pos := _, after := _, guard := _ }) rfl (fun K hK => ?_) ?_
          · go_simp
            refine (l5Ten_at HK.out hK6 HT.out _).mono ?_
            rintro e w9 ⟨rfl, hw9⟩
            subst hw9
            (try go_wp2_with fail)
            refine hK.out _ _ ?_ (fun hHeld12 => ?_)
            · (try dsimp only)
              all_goals (((repeat' apply And.intro) <;> first | trivial | assumption | (exact (World.cell?_alloc_lt _ _ _ (by first | omega | (simp <;> omega) | (simp only; omega))).trans (by assumption)) | go_simp | go_keep))
            clear hK K
            (try clear hHeld11)
            (try simp only [Act.put, List.setIfInBounds_toArray, List.set_cons_zero, List.set_cons_succ])
            refine wpAnyH_take (i := 10) (oi := { dst := some 24, op := _, type := _, pos := _, after := _, guard := _ }) (v := ?v13) rfl (by kernel_rfl) (by kernel_rfl) (by kernel_rfl) (fun _ _ _ h => h) (Or.inl ⟨by rfl, ?hy13⟩) (by first | assumption | exact hHeld12) ?rest13
            case hy13 => ((intro w0 hSw; (try dsimp only at hSw); go_simp) <;> with_reducible rfl)
            (try simp only [Act.put, List.setIfInBounds_toArray, List.set_cons_zero, List.set_cons_succ])
            refine wpAnyH_ready (rs := [11, 13]) (by kernel_rfl) (by simp) ?_
            refine AllReadyH.cons (o := { dst := some 25, op := _, type := _, pos := _, after := _, guard := _ }) rfl (fun K hK => ?_) ?_
            · go_simp
              refine hK.out _ _ ?_ (fun hHeld14 => ?_)
              · (try dsimp only)
                all_goals (((repeat' apply And.intro) <;> first | trivial | assumption | (exact (World.cell?_alloc_lt _ _ _ (by first | omega | (simp <;> omega) | (simp only; omega))).trans (by assumption)) | go_simp | go_keep))
              clear hK K
              (try clear hHeld12)
              (try simp only [Act.put, List.setIfInBounds_toArray, List.set_cons_zero, List.set_cons_succ])
              refine wpAnyH_ready (rs := [13]) (by kernel_rfl) (by simp) ?_
              refine AllReadyH.cons (o := { dst := some 27, op := _, type := _, pos := _, after := _, guard := _ }) rfl (fun K hK => ?_) ?_
              · go_simp
                refine (pick_any _ _ _ _ _ ((HR3.out).alloc (.cells #[.int .i64 (-1), .int .i64 T, .int .i64 (T - 1)] 3)) (by omega)).mono ?_
                rintro e w13 ⟨v13, rfl, hv13, hrd13, hg13'⟩
                obtain ⟨hva13, hvb13⟩ := hv13 (by omega)
                clear hv13
                obtain ⟨j13, u13, rfl, hj13, -⟩ := pick_mem (us := [-1, T, T - 1]) (n := 3) rfl (by omega) hva13 hvb13
                have HJ13 := Lib.hid hj13
                have hg13 : (w3.alloc (.cells #[.int .i64 (-1), .int .i64 T, .int .i64 (T - 1)] 3)).grownBy w13 (some g) := ⟨hg13'.os, hg13'.tape, hg13'.output, hg13'.size, hg13'.block⟩
                have hsz13 := hg13.size
                (try simp only [World.size_alloc] at hsz13)
                have HR13 := Lib.hid hrd13
                have HG13 := Lib.hid (((HG3.out).trans (World.grownBy_alloc _ (.cells #[.int .i64 (-1), .int .i64 T, .int .i64 (T - 1)] 3) _)).trans hg13)
                have ho13_1 := own_pick2 ((HO3_1.out).alloc (.cells #[.int .i64 (-1), .int .i64 T, .int .i64 (T - 1)] 3)) hg13 (by omega)
                (try simp only [World.size_alloc] at ho13_1)
                have HO13_1 := Lib.hid ho13_1
                have hc13_5 : w13.cell? ⟨w2.heap.size, j3, none⟩ = some (.int .i64 u3) := own_elem ho13_1 HJ3.out
                clear ho13_1
                have ho13_11 := own_pick2 (own_lit w3 [-1, T, T - 1] (g + 1) 3 rfl (by omega) (by first | omega | (simp; omega))) hg13 (by omega)
                (try simp only [World.size_alloc] at ho13_11)
                have HO13_11 := Lib.hid ho13_11
                clear ho13_11
                have hc13_15 : w13.cell? ⟨w3.heap.size, j13, none⟩ = some (.int .i64 u13) := own_elem HO13_11.out HJ13.out
                clear hrd13 hg13 hg13'
                clear hj13
                (try go_wp2_with fail)
                refine hK.out _ _ ?_ (fun hHeld15 => ?_)
                · (try dsimp only)
                  all_goals (((repeat' apply And.intro) <;> first | trivial | assumption | (exact (World.cell?_alloc_lt _ _ _ (by first | omega | (simp <;> omega) | (simp only; omega))).trans (by assumption)) | go_simp | go_keep))
                clear hK K
                (try clear hHeld14)
                (try simp only [Act.put, List.setIfInBounds_toArray, List.set_cons_zero, List.set_cons_succ])
                refine wpAnyH_take (i := 14) (oi := { dst := some 28, op := _, type := _, pos := _, after := _, guard := _ }) (v := ?v16) rfl (by kernel_rfl) (by kernel_rfl) (by kernel_rfl) (fun _ _ _ h => h) (Or.inl ⟨by rfl, ?hy16⟩) (by first | assumption | exact hHeld15) ?rest16
                case hy16 => ((intro w0 hSw; (try dsimp only at hSw); go_simp) <;> with_reducible rfl)
                (try simp only [Act.put, List.setIfInBounds_toArray, List.set_cons_zero, List.set_cons_succ])
                have hs15 : (w13).cell? ⟨w3.heap.size, j13, none⟩ = some (.int .i64 u13) := by have := HO13_11.out; (try simp only [World.size_alloc] at this); exact own_elem this HJ13.out
                refine wpAnyH_strong (S' := (fun w' => w'.cell? ⟨w3.heap.size, j13, none⟩ = some (.int .i64 u13) ∧ ((fun w' => w'.cell? ⟨w2.heap.size, j3, none⟩ = some (.int .i64 u3) ∧ ((fun _ => True) w')) w'))) (fun _ h => h.2) _ _ _ _ ?_
                have hHeld17 := And.intro hs15 hHeld15
                refine wpAnyH_take (i := 15) (oi := { dst := some 29, op := _, type := _, pos := _, after := _, guard := _ }) (v := ?v18) rfl (by kernel_rfl) (by kernel_rfl) (by kernel_rfl) (fun _ _ _ h => h) (Or.inl ⟨by rfl, ?hy18⟩) (by first | assumption | exact hHeld17) ?rest18
                case hy18 => ((intro w0 hSw; (try dsimp only at hSw); go_simp) <;> with_reducible rfl)
                (try simp only [Act.put, List.setIfInBounds_toArray, List.set_cons_zero, List.set_cons_succ])
                refine wpAnyH_take (i := 16) (oi := { dst := some 2, op := _, type := _, pos := _, after := _, guard := _ }) (v := ?v19) rfl (by kernel_rfl) (by kernel_rfl) (by kernel_rfl) (fun _ _ _ h => h) (Or.inl ⟨by rfl, ?hy19⟩) (by first | assumption | exact hHeld17) ?rest19
                case hy19 => ((intro w0 hSw; (try dsimp only at hSw); go_simp) <;> with_reducible rfl)
                (try simp only [Act.put, List.setIfInBounds_toArray, List.set_cons_zero, List.set_cons_succ])
                refine wpAnyH_take (i := 17) (oi := { dst := some 3, op := _, type := _, pos := _, after := _, guard := _ }) (v := ?v20) rfl (by kernel_rfl) (by kernel_rfl) (by kernel_rfl) (fun _ _ _ h => h) (Or.inl ⟨by rfl, ?hy20⟩) (by first | assumption | exact hHeld17) ?rest20
                case hy20 => ((intro w0 hSw; (try dsimp only at hSw); go_simp) <;> with_reducible rfl)
                (try simp only [Act.put, List.setIfInBounds_toArray, List.set_cons_zero, List.set_cons_succ])
                refine wpAnyH_done (by kernel_rfl) ?_ _
                go_wp2
                go_ret2
                obtain ⟨m1, m2⟩ := mem_bd (a := 0) (b := 7) HJ3.out (by intro x hx; simp at hx; omega)
                obtain ⟨m3, m4⟩ := mem_bd (a := -1) (b := 1000000) HJ13.out (by intro x hx; simp at hx; omega)
                exact ⟨_, _, rfl, m1, m2, m3, m4, by have hh := HG0.out; rw [hh]; exact HB.out.trans ((base_in (HG13.out) (Nat.le_refl _) (by omega)))⟩
              exact AllReadyH.nil
            refine AllReadyH.cons (o := { dst := some 27, op := _, type := _, pos := _, after := _, guard := _ }) rfl (fun K hK => ?_) ?_
            · go_simp
              refine (pick_any _ _ _ _ _ (HR3.out) (by omega)).mono ?_
              rintro e w13 ⟨v13, rfl, hv13, hrd13, hg13'⟩
              obtain ⟨hva13, hvb13⟩ := hv13 (by omega)
              clear hv13
              obtain ⟨j13, u13, rfl, hj13, -⟩ := pick_mem (us := [-1, T, T - 1]) (n := 3) rfl (by omega) hva13 hvb13
              have HJ13 := Lib.hid hj13
              have hg13 : (w3).grownBy w13 (some g) := ⟨hg13'.os, hg13'.tape, hg13'.output, hg13'.size, hg13'.block⟩
              have hsz13 := hg13.size
              (try simp only [World.size_alloc] at hsz13)
              have HR13 := Lib.hid hrd13
              have HG13 := Lib.hid ((HG3.out).trans hg13)
              have ho13_1 := own_pick2 (HO3_1.out) hg13 (by omega)
              (try simp only [World.size_alloc] at ho13_1)
              have HO13_1 := Lib.hid ho13_1
              have hc13_5 : w13.cell? ⟨w2.heap.size, j3, none⟩ = some (.int .i64 u3) := own_elem ho13_1 HJ3.out
              clear ho13_1
              clear hrd13 hg13 hg13'
              clear hj13
              (try go_wp2_with fail)
              refine hK.out _ _ ?_ (fun hHeld21 => ?_)
              · (try dsimp only)
                all_goals (((repeat' apply And.intro) <;> first | trivial | assumption | (exact (World.cell?_alloc_lt _ _ _ (by first | omega | (simp <;> omega) | (simp only; omega))).trans (by assumption)) | go_simp | go_keep))
              clear hK K
              (try clear hHeld12)
              (try simp only [Act.put, List.setIfInBounds_toArray, List.set_cons_zero, List.set_cons_succ])
              refine wpAnyH_take (i := 16) (oi := { dst := some 2, op := _, type := _, pos := _, after := _, guard := _ }) (v := ?v22) rfl (by kernel_rfl) (by kernel_rfl) (by kernel_rfl) (fun _ _ _ h => h) (Or.inl ⟨by rfl, ?hy22⟩) (by first | assumption | exact hHeld21) ?rest22
              case hy22 => ((intro w0 hSw; (try dsimp only at hSw); go_simp) <;> with_reducible rfl)
              (try simp only [Act.put, List.setIfInBounds_toArray, List.set_cons_zero, List.set_cons_succ])
              refine wpAnyH_ready (rs := [11]) (by kernel_rfl) (by simp) ?_
              refine AllReadyH.cons (o := { dst := some 25, op := _, type := _, pos := _, after := _, guard := _ }) rfl (fun K hK => ?_) ?_
              · go_simp
                refine hK.out _ _ ?_ (fun hHeld23 => ?_)
                · (try dsimp only)
                  all_goals (((repeat' apply And.intro) <;> first | trivial | assumption | (exact (World.cell?_alloc_lt _ _ _ (by first | omega | (simp <;> omega) | (simp only; omega))).trans (by assumption)) | go_simp | go_keep))
                clear hK K
                (try clear hHeld21)
                (try simp only [Act.put, List.setIfInBounds_toArray, List.set_cons_zero, List.set_cons_succ])
                refine wpAnyH_take (i := 14) (oi := { dst := some 28, op := _, type := _, pos := _, after := _, guard := _ }) (v := ?v24) rfl (by kernel_rfl) (by kernel_rfl) (by kernel_rfl) (fun _ _ _ h => h) (Or.inl ⟨by rfl, ?hy24⟩) (by first | assumption | exact hHeld23) ?rest24
                case hy24 => ((intro w0 hSw; (try dsimp only at hSw); go_simp) <;> with_reducible rfl)
                (try simp only [Act.put, List.setIfInBounds_toArray, List.set_cons_zero, List.set_cons_succ])
                have hs15 : (w13.alloc (.cells #[.int .i64 (-1), .int .i64 T, .int .i64 (T - 1)] 3)).cell? ⟨w13.heap.size, j13, none⟩ = some (.int .i64 u13) := by have := own_lit w13 [-1, T, T - 1] (g + 1) 3 rfl (by omega) (by first | omega | (simp; omega)); (try simp only [World.size_alloc] at this); exact own_elem this HJ13.out
                refine wpAnyH_strong (S' := (fun w' => w'.cell? ⟨w13.heap.size, j13, none⟩ = some (.int .i64 u13) ∧ ((fun w' => w'.cell? ⟨w2.heap.size, j3, none⟩ = some (.int .i64 u3) ∧ ((fun _ => True) w')) w'))) (fun _ h => h.2) _ _ _ _ ?_
                have hHeld25 := And.intro hs15 hHeld23
                refine wpAnyH_take (i := 15) (oi := { dst := some 29, op := _, type := _, pos := _, after := _, guard := _ }) (v := ?v26) rfl (by kernel_rfl) (by kernel_rfl) (by kernel_rfl) (fun _ _ _ h => h) (Or.inl ⟨by rfl, ?hy26⟩) (by first | assumption | exact hHeld25) ?rest26
                case hy26 => ((intro w0 hSw; (try dsimp only at hSw); go_simp) <;> with_reducible rfl)
                (try simp only [Act.put, List.setIfInBounds_toArray, List.set_cons_zero, List.set_cons_succ])
                refine wpAnyH_take (i := 17) (oi := { dst := some 3, op := _, type := _, pos := _, after := _, guard := _ }) (v := ?v27) rfl (by kernel_rfl) (by kernel_rfl) (by kernel_rfl) (fun _ _ _ h => h) (Or.inl ⟨by rfl, ?hy27⟩) (by first | assumption | exact hHeld25) ?rest27
                case hy27 => ((intro w0 hSw; (try dsimp only at hSw); go_simp) <;> with_reducible rfl)
                (try simp only [Act.put, List.setIfInBounds_toArray, List.set_cons_zero, List.set_cons_succ])
                refine wpAnyH_done (by kernel_rfl) ?_ _
                go_wp2
                go_ret2
                obtain ⟨m1, m2⟩ := mem_bd (a := 0) (b := 7) HJ3.out (by intro x hx; simp at hx; omega)
                obtain ⟨m3, m4⟩ := mem_bd (a := -1) (b := 1000000) HJ13.out (by intro x hx; simp at hx; omega)
                exact ⟨_, _, rfl, m1, m2, m3, m4, by have hh := HG0.out; rw [hh]; exact HB.out.trans ((base_in ((HG13.out).trans (World.grownBy_alloc _ (.cells #[.int .i64 (-1), .int .i64 T, .int .i64 (T - 1)] 3) _)) (Nat.le_refl _) (by omega)))⟩
              exact AllReadyH.nil
            exact AllReadyH.nil
          exact AllReadyH.nil
        exact AllReadyH.nil
      exact AllReadyH.nil
    refine AllReadyH.cons (o := { dst := some 17, op := _, type := _, pos := _, after := _, guard := _ }) rfl (fun K hK => ?_) ?_
    · go_simp
      refine (pick_any _ _ _ _ _ (HR.out).drew (by omega)).mono ?_
      rintro e w3 ⟨v3, rfl, hv3, hrd3, hg3'⟩
      obtain ⟨hva3, hvb3⟩ := hv3 (by omega)
      clear hv3
      obtain ⟨j3, u3, rfl, hj3, -⟩ := pick_mem (us := [0, 7, 1 + v1]) (n := 3) rfl (by omega) hva3 hvb3
      have HJ3 := Lib.hid hj3
      have hg3 : (w2).grownBy w3 (some g) := ⟨hg3'.os, hg3'.tape, hg3'.output, hg3'.size, hg3'.block⟩
      have hsz3 := hg3.size
      (try simp only [World.size_alloc] at hsz3)
      have HR3 := Lib.hid hrd3
      have HG3 := Lib.hid ((HG.out).trans hg3)
      clear hrd3 hg3 hg3'
      clear hj3
      (try go_wp2_with fail)
      refine hK.out _ _ ?_ (fun hHeld28 => ?_)
      · (try dsimp only)
        all_goals (((repeat' apply And.intro) <;> first | trivial | assumption | (exact (World.cell?_alloc_lt _ _ _ (by first | omega | (simp <;> omega) | (simp only; omega))).trans (by assumption)) | go_simp | go_keep))
      clear hK K
      (try clear hHeld)
      (try simp only [Act.put, List.setIfInBounds_toArray, List.set_cons_zero, List.set_cons_succ])
      refine wpAnyH_ready (rs := [1, 7]) (by kernel_rfl) (by simp) ?_
      refine AllReadyH.cons (o := { dst := some 15, op := _, type := _, pos := _, after := _, guard := _ }) rfl (fun K hK => ?_) ?_
      · go_simp
        refine hK.out _ _ ?_ (fun hHeld29 => ?_)
        · (try dsimp only)
          all_goals (((repeat' apply And.intro) <;> first | trivial | assumption | (exact (World.cell?_alloc_lt _ _ _ (by first | omega | (simp <;> omega) | (simp only; omega))).trans (by assumption)) | go_simp | go_keep))
        clear hK K
        (try clear hHeld28)
        (try simp only [Act.put, List.setIfInBounds_toArray, List.set_cons_zero, List.set_cons_succ])
        refine wpAnyH_take (i := 4) (oi := { dst := some 18, op := _, type := _, pos := _, after := _, guard := _ }) (v := ?v30) rfl (by kernel_rfl) (by kernel_rfl) (by kernel_rfl) (fun _ _ _ h => h) (Or.inl ⟨by rfl, ?hy30⟩) (by first | assumption | exact hHeld29) ?rest30
        case hy30 => ((intro w0 hSw; (try dsimp only at hSw); go_simp) <;> with_reducible rfl)
        (try simp only [Act.put, List.setIfInBounds_toArray, List.set_cons_zero, List.set_cons_succ])
        have hs5 : (w3.alloc (.cells #[.int .i64 0, .int .i64 7, .int .i64 (1 + v1)] 3)).cell? ⟨w3.heap.size, j3, none⟩ = some (.int .i64 u3) := by have := own_lit w3 [0, 7, 1 + v1] (g + 1) 3 rfl (by omega) (by first | omega | (simp; omega)); (try simp only [World.size_alloc] at this); exact own_elem this HJ3.out
        refine wpAnyH_strong (S' := (fun w' => w'.cell? ⟨w3.heap.size, j3, none⟩ = some (.int .i64 u3) ∧ ((fun _ => True) w'))) (fun _ h => h.2) _ _ _ _ ?_
        have hHeld31 := And.intro hs5 hHeld29
        refine wpAnyH_take (i := 5) (oi := { dst := some 19, op := _, type := _, pos := _, after := _, guard := _ }) (v := ?v32) rfl (by kernel_rfl) (by kernel_rfl) (by kernel_rfl) (fun _ _ _ h => h) (Or.inl ⟨by rfl, ?hy32⟩) (by first | assumption | exact hHeld31) ?rest32
        case hy32 => ((intro w0 hSw; (try dsimp only at hSw); go_simp) <;> with_reducible rfl)
        (try simp only [Act.put, List.setIfInBounds_toArray, List.set_cons_zero, List.set_cons_succ])
        refine wpAnyH_ready (rs := [7]) (by kernel_rfl) (by simp) ?_
        refine AllReadyH.cons (o := { dst := some 21, op := _, type := _, pos := _, after := _, guard := _ }) rfl (fun K hK => ?_) ?_
        · go_simp
          refine (l5Ten_at HK.out hK6 HT.out _).mono ?_
          rintro e w9 ⟨rfl, hw9⟩
          subst hw9
          (try go_wp2_with fail)
          refine hK.out _ _ ?_ (fun hHeld33 => ?_)
          · (try dsimp only)
            all_goals (((repeat' apply And.intro) <;> first | trivial | assumption | (exact (World.cell?_alloc_lt _ _ _ (by first | omega | (simp <;> omega) | (simp only; omega))).trans (by assumption)) | go_simp | go_keep))
          clear hK K
          (try clear hHeld31)
          (try simp only [Act.put, List.setIfInBounds_toArray, List.set_cons_zero, List.set_cons_succ])
          refine wpAnyH_ready (rs := [9]) (by kernel_rfl) (by simp) ?_
          refine AllReadyH.cons (o := { dst := some 23, op := _, type := _, pos := _, after := _, guard := _ }) rfl (fun K hK => ?_) ?_
          · go_simp
            refine (l5Ten_at HK.out hK6 HT.out _).mono ?_
            rintro e w9 ⟨rfl, hw9⟩
            subst hw9
            (try go_wp2_with fail)
            refine hK.out _ _ ?_ (fun hHeld34 => ?_)
            · (try dsimp only)
              all_goals (((repeat' apply And.intro) <;> first | trivial | assumption | (exact (World.cell?_alloc_lt _ _ _ (by first | omega | (simp <;> omega) | (simp only; omega))).trans (by assumption)) | go_simp | go_keep))
            clear hK K
            (try clear hHeld33)
            (try simp only [Act.put, List.setIfInBounds_toArray, List.set_cons_zero, List.set_cons_succ])
            refine wpAnyH_take (i := 10) (oi := { dst := some 24, op := _, type := _, pos := _, after := _, guard := _ }) (v := ?v35) rfl (by kernel_rfl) (by kernel_rfl) (by kernel_rfl) (fun _ _ _ h => h) (Or.inl ⟨by rfl, ?hy35⟩) (by first | assumption | exact hHeld34) ?rest35
            case hy35 => ((intro w0 hSw; (try dsimp only at hSw); go_simp) <;> with_reducible rfl)
            (try simp only [Act.put, List.setIfInBounds_toArray, List.set_cons_zero, List.set_cons_succ])
            refine wpAnyH_ready (rs := [11, 13]) (by kernel_rfl) (by simp) ?_
            refine AllReadyH.cons (o := { dst := some 25, op := _, type := _, pos := _, after := _, guard := _ }) rfl (fun K hK => ?_) ?_
            · go_simp
              refine hK.out _ _ ?_ (fun hHeld36 => ?_)
              · (try dsimp only)
                all_goals (((repeat' apply And.intro) <;> first | trivial | assumption | (exact (World.cell?_alloc_lt _ _ _ (by first | omega | (simp <;> omega) | (simp only; omega))).trans (by assumption)) | go_simp | go_keep))
              clear hK K
              (try clear hHeld34)
              (try simp only [Act.put, List.setIfInBounds_toArray, List.set_cons_zero, List.set_cons_succ])
              refine wpAnyH_ready (rs := [13]) (by kernel_rfl) (by simp) ?_
              refine AllReadyH.cons (o := { dst := some 27, op := _, type := _, pos := _, after := _, guard := _ }) rfl (fun K hK => ?_) ?_
              · go_simp
                refine (pick_any _ _ _ _ _ (((HR3.out).alloc (.cells #[.int .i64 0, .int .i64 7, .int .i64 (1 + v1)] 3)).alloc (.cells #[.int .i64 (-1), .int .i64 T, .int .i64 (T - 1)] 3)) (by omega)).mono ?_
                rintro e w13 ⟨v13, rfl, hv13, hrd13, hg13'⟩
                obtain ⟨hva13, hvb13⟩ := hv13 (by omega)
                clear hv13
                obtain ⟨j13, u13, rfl, hj13, -⟩ := pick_mem (us := [-1, T, T - 1]) (n := 3) rfl (by omega) hva13 hvb13
                have HJ13 := Lib.hid hj13
                have hg13 : ((w3.alloc (.cells #[.int .i64 0, .int .i64 7, .int .i64 (1 + v1)] 3)).alloc (.cells #[.int .i64 (-1), .int .i64 T, .int .i64 (T - 1)] 3)).grownBy w13 (some g) := ⟨hg13'.os, hg13'.tape, hg13'.output, hg13'.size, hg13'.block⟩
                have hsz13 := hg13.size
                (try simp only [World.size_alloc] at hsz13)
                have HR13 := Lib.hid hrd13
                have HG13 := Lib.hid ((((HG3.out).trans (World.grownBy_alloc _ (.cells #[.int .i64 0, .int .i64 7, .int .i64 (1 + v1)] 3) _)).trans (World.grownBy_alloc _ (.cells #[.int .i64 (-1), .int .i64 T, .int .i64 (T - 1)] 3) _)).trans hg13)
                have ho13_1 := own_pick2 ((own_lit w3 [0, 7, 1 + v1] (g + 1) 3 rfl (by omega) (by first | omega | (simp; omega))).alloc (.cells #[.int .i64 (-1), .int .i64 T, .int .i64 (T - 1)] 3)) hg13 (by omega)
                (try simp only [World.size_alloc] at ho13_1)
                have HO13_1 := Lib.hid ho13_1
                have hc13_5 : w13.cell? ⟨w3.heap.size, j3, none⟩ = some (.int .i64 u3) := own_elem ho13_1 HJ3.out
                clear ho13_1
                have ho13_11 := own_pick2 (own_lit (w3.alloc (.cells #[.int .i64 0, .int .i64 7, .int .i64 (1 + v1)] 3)) [-1, T, T - 1] (g + 1) 3 rfl (by omega) (by first | omega | (simp; omega))) hg13 (by omega)
                (try simp only [World.size_alloc] at ho13_11)
                have HO13_11 := Lib.hid ho13_11
                clear ho13_11
                have hc13_15 : w13.cell? ⟨w3.heap.size + 1, j13, none⟩ = some (.int .i64 u13) := own_elem HO13_11.out HJ13.out
                clear hrd13 hg13 hg13'
                clear hj13
                (try go_wp2_with fail)
                refine hK.out _ _ ?_ (fun hHeld37 => ?_)
                · (try dsimp only)
                  all_goals (((repeat' apply And.intro) <;> first | trivial | assumption | (exact (World.cell?_alloc_lt _ _ _ (by first | omega | (simp <;> omega) | (simp only; omega))).trans (by assumption)) | go_simp | go_keep))
                clear hK K
                (try clear hHeld36)
                (try simp only [Act.put, List.setIfInBounds_toArray, List.set_cons_zero, List.set_cons_succ])
                refine wpAnyH_take (i := 14) (oi := { dst := some 28, op := _, type := _, pos := _, after := _, guard := _ }) (v := ?v38) rfl (by kernel_rfl) (by kernel_rfl) (by kernel_rfl) (fun _ _ _ h => h) (Or.inl ⟨by rfl, ?hy38⟩) (by first | assumption | exact hHeld37) ?rest38
                case hy38 => ((intro w0 hSw; (try dsimp only at hSw); go_simp) <;> with_reducible rfl)
                (try simp only [Act.put, List.setIfInBounds_toArray, List.set_cons_zero, List.set_cons_succ])
                have hs15 : (w13).cell? ⟨w3.heap.size + 1, j13, none⟩ = some (.int .i64 u13) := by have := HO13_11.out; (try simp only [World.size_alloc] at this); exact own_elem this HJ13.out
                refine wpAnyH_strong (S' := (fun w' => w'.cell? ⟨w3.heap.size + 1, j13, none⟩ = some (.int .i64 u13) ∧ ((fun w' => w'.cell? ⟨w3.heap.size, j3, none⟩ = some (.int .i64 u3) ∧ ((fun _ => True) w')) w'))) (fun _ h => h.2) _ _ _ _ ?_
                have hHeld39 := And.intro hs15 hHeld37
                refine wpAnyH_take (i := 15) (oi := { dst := some 29, op := _, type := _, pos := _, after := _, guard := _ }) (v := ?v40) rfl (by kernel_rfl) (by kernel_rfl) (by kernel_rfl) (fun _ _ _ h => h) (Or.inl ⟨by rfl, ?hy40⟩) (by first | assumption | exact hHeld39) ?rest40
                case hy40 => ((intro w0 hSw; (try dsimp only at hSw); go_simp) <;> with_reducible rfl)
                (try simp only [Act.put, List.setIfInBounds_toArray, List.set_cons_zero, List.set_cons_succ])
                refine wpAnyH_take (i := 16) (oi := { dst := some 2, op := _, type := _, pos := _, after := _, guard := _ }) (v := ?v41) rfl (by kernel_rfl) (by kernel_rfl) (by kernel_rfl) (fun _ _ _ h => h) (Or.inl ⟨by rfl, ?hy41⟩) (by first | assumption | exact hHeld39) ?rest41
                case hy41 => ((intro w0 hSw; (try dsimp only at hSw); go_simp) <;> with_reducible rfl)
                (try simp only [Act.put, List.setIfInBounds_toArray, List.set_cons_zero, List.set_cons_succ])
                refine wpAnyH_take (i := 17) (oi := { dst := some 3, op := _, type := _, pos := _, after := _, guard := _ }) (v := ?v42) rfl (by kernel_rfl) (by kernel_rfl) (by kernel_rfl) (fun _ _ _ h => h) (Or.inl ⟨by rfl, ?hy42⟩) (by first | assumption | exact hHeld39) ?rest42
                case hy42 => ((intro w0 hSw; (try dsimp only at hSw); go_simp) <;> with_reducible rfl)
                (try simp only [Act.put, List.setIfInBounds_toArray, List.set_cons_zero, List.set_cons_succ])
                refine wpAnyH_done (by kernel_rfl) ?_ _
                go_wp2
                go_ret2
                obtain ⟨m1, m2⟩ := mem_bd (a := 0) (b := 7) HJ3.out (by intro x hx; simp at hx; omega)
                obtain ⟨m3, m4⟩ := mem_bd (a := -1) (b := 1000000) HJ13.out (by intro x hx; simp at hx; omega)
                exact ⟨_, _, rfl, m1, m2, m3, m4, by have hh := HG0.out; rw [hh]; exact HB.out.trans ((base_in (HG13.out) (Nat.le_refl _) (by omega)))⟩
              exact AllReadyH.nil
            refine AllReadyH.cons (o := { dst := some 27, op := _, type := _, pos := _, after := _, guard := _ }) rfl (fun K hK => ?_) ?_
            · go_simp
              refine (pick_any _ _ _ _ _ ((HR3.out).alloc (.cells #[.int .i64 0, .int .i64 7, .int .i64 (1 + v1)] 3)) (by omega)).mono ?_
              rintro e w13 ⟨v13, rfl, hv13, hrd13, hg13'⟩
              obtain ⟨hva13, hvb13⟩ := hv13 (by omega)
              clear hv13
              obtain ⟨j13, u13, rfl, hj13, -⟩ := pick_mem (us := [-1, T, T - 1]) (n := 3) rfl (by omega) hva13 hvb13
              have HJ13 := Lib.hid hj13
              have hg13 : (w3.alloc (.cells #[.int .i64 0, .int .i64 7, .int .i64 (1 + v1)] 3)).grownBy w13 (some g) := ⟨hg13'.os, hg13'.tape, hg13'.output, hg13'.size, hg13'.block⟩
              have hsz13 := hg13.size
              (try simp only [World.size_alloc] at hsz13)
              have HR13 := Lib.hid hrd13
              have HG13 := Lib.hid (((HG3.out).trans (World.grownBy_alloc _ (.cells #[.int .i64 0, .int .i64 7, .int .i64 (1 + v1)] 3) _)).trans hg13)
              have ho13_1 := own_pick2 (own_lit w3 [0, 7, 1 + v1] (g + 1) 3 rfl (by omega) (by first | omega | (simp; omega))) hg13 (by omega)
              (try simp only [World.size_alloc] at ho13_1)
              have HO13_1 := Lib.hid ho13_1
              have hc13_5 : w13.cell? ⟨w3.heap.size, j3, none⟩ = some (.int .i64 u3) := own_elem ho13_1 HJ3.out
              clear ho13_1
              clear hrd13 hg13 hg13'
              clear hj13
              (try go_wp2_with fail)
              refine hK.out _ _ ?_ (fun hHeld43 => ?_)
              · (try dsimp only)
                all_goals (((repeat' apply And.intro) <;> first | trivial | assumption | (exact (World.cell?_alloc_lt _ _ _ (by first | omega | (simp <;> omega) | (simp only; omega))).trans (by assumption)) | go_simp | go_keep))
              clear hK K
              (try clear hHeld34)
              (try simp only [Act.put, List.setIfInBounds_toArray, List.set_cons_zero, List.set_cons_succ])
              refine wpAnyH_take (i := 16) (oi := { dst := some 2, op := _, type := _, pos := _, after := _, guard := _ }) (v := ?v44) rfl (by kernel_rfl) (by kernel_rfl) (by kernel_rfl) (fun _ _ _ h => h) (Or.inl ⟨by rfl, ?hy44⟩) (by first | assumption | exact hHeld43) ?rest44
              case hy44 => ((intro w0 hSw; (try dsimp only at hSw); go_simp) <;> with_reducible rfl)
              (try simp only [Act.put, List.setIfInBounds_toArray, List.set_cons_zero, List.set_cons_succ])
              refine wpAnyH_ready (rs := [11]) (by kernel_rfl) (by simp) ?_
              refine AllReadyH.cons (o := { dst := some 25, op := _, type := _, pos := _, after := _, guard := _ }) rfl (fun K hK => ?_) ?_
              · go_simp
                refine hK.out _ _ ?_ (fun hHeld45 => ?_)
                · (try dsimp only)
                  all_goals (((repeat' apply And.intro) <;> first | trivial | assumption | (exact (World.cell?_alloc_lt _ _ _ (by first | omega | (simp <;> omega) | (simp only; omega))).trans (by assumption)) | go_simp | go_keep))
                clear hK K
                (try clear hHeld43)
                (try simp only [Act.put, List.setIfInBounds_toArray, List.set_cons_zero, List.set_cons_succ])
                refine wpAnyH_take (i := 14) (oi := { dst := some 28, op := _, type := _, pos := _, after := _, guard := _ }) (v := ?v46) rfl (by kernel_rfl) (by kernel_rfl) (by kernel_rfl) (fun _ _ _ h => h) (Or.inl ⟨by rfl, ?hy46⟩) (by first | assumption | exact hHeld45) ?rest46
                case hy46 => ((intro w0 hSw; (try dsimp only at hSw); go_simp) <;> with_reducible rfl)
                (try simp only [Act.put, List.setIfInBounds_toArray, List.set_cons_zero, List.set_cons_succ])
                have hs15 : (w13.alloc (.cells #[.int .i64 (-1), .int .i64 T, .int .i64 (T - 1)] 3)).cell? ⟨w13.heap.size, j13, none⟩ = some (.int .i64 u13) := by have := own_lit w13 [-1, T, T - 1] (g + 1) 3 rfl (by omega) (by first | omega | (simp; omega)); (try simp only [World.size_alloc] at this); exact own_elem this HJ13.out
                refine wpAnyH_strong (S' := (fun w' => w'.cell? ⟨w13.heap.size, j13, none⟩ = some (.int .i64 u13) ∧ ((fun w' => w'.cell? ⟨w3.heap.size, j3, none⟩ = some (.int .i64 u3) ∧ ((fun _ => True) w')) w'))) (fun _ h => h.2) _ _ _ _ ?_
                have hHeld47 := And.intro hs15 hHeld45
                refine wpAnyH_take (i := 15) (oi := { dst := some 29, op := _, type := _, pos := _, after := _, guard := _ }) (v := ?v48) rfl (by kernel_rfl) (by kernel_rfl) (by kernel_rfl) (fun _ _ _ h => h) (Or.inl ⟨by rfl, ?hy48⟩) (by first | assumption | exact hHeld47) ?rest48
                case hy48 => ((intro w0 hSw; (try dsimp only at hSw); go_simp) <;> with_reducible rfl)
                (try simp only [Act.put, List.setIfInBounds_toArray, List.set_cons_zero, List.set_cons_succ])
                refine wpAnyH_take (i := 17) (oi := { dst := some 3, op := _, type := _, pos := _, after := _, guard := _ }) (v := ?v49) rfl (by kernel_rfl) (by kernel_rfl) (by kernel_rfl) (fun _ _ _ h => h) (Or.inl ⟨by rfl, ?hy49⟩) (by first | assumption | exact hHeld47) ?rest49
                case hy49 => ((intro w0 hSw; (try dsimp only at hSw); go_simp) <;> with_reducible rfl)
                (try simp only [Act.put, List.setIfInBounds_toArray, List.set_cons_zero, List.set_cons_succ])
                refine wpAnyH_done (by kernel_rfl) ?_ _
                go_wp2
                go_ret2
                obtain ⟨m1, m2⟩ := mem_bd (a := 0) (b := 7) HJ3.out (by intro x hx; simp at hx; omega)
                obtain ⟨m3, m4⟩ := mem_bd (a := -1) (b := 1000000) HJ13.out (by intro x hx; simp at hx; omega)
                exact ⟨_, _, rfl, m1, m2, m3, m4, by have hh := HG0.out; rw [hh]; exact HB.out.trans ((base_in ((HG13.out).trans (World.grownBy_alloc _ (.cells #[.int .i64 (-1), .int .i64 T, .int .i64 (T - 1)] 3) _)) (Nat.le_refl _) (by omega)))⟩
              exact AllReadyH.nil
            exact AllReadyH.nil
          exact AllReadyH.nil
        exact AllReadyH.nil
      refine AllReadyH.cons (o := { dst := some 21, op := _, type := _, pos := _, after := _, guard := _ }) rfl (fun K hK => ?_) ?_
      · go_simp
        refine (l5Ten_at HK.out hK6 HT.out _).mono ?_
        rintro e w9 ⟨rfl, hw9⟩
        subst hw9
        (try go_wp2_with fail)
        refine hK.out _ _ ?_ (fun hHeld50 => ?_)
        · (try dsimp only)
          all_goals (((repeat' apply And.intro) <;> first | trivial | assumption | (exact (World.cell?_alloc_lt _ _ _ (by first | omega | (simp <;> omega) | (simp only; omega))).trans (by assumption)) | go_simp | go_keep))
        clear hK K
        (try clear hHeld28)
        (try simp only [Act.put, List.setIfInBounds_toArray, List.set_cons_zero, List.set_cons_succ])
        refine wpAnyH_ready (rs := [1, 9]) (by kernel_rfl) (by simp) ?_
        refine AllReadyH.cons (o := { dst := some 15, op := _, type := _, pos := _, after := _, guard := _ }) rfl (fun K hK => ?_) ?_
        · go_simp
          refine hK.out _ _ ?_ (fun hHeld51 => ?_)
          · (try dsimp only)
            all_goals (((repeat' apply And.intro) <;> first | trivial | assumption | (exact (World.cell?_alloc_lt _ _ _ (by first | omega | (simp <;> omega) | (simp only; omega))).trans (by assumption)) | go_simp | go_keep))
          clear hK K
          (try clear hHeld50)
          (try simp only [Act.put, List.setIfInBounds_toArray, List.set_cons_zero, List.set_cons_succ])
          refine wpAnyH_take (i := 4) (oi := { dst := some 18, op := _, type := _, pos := _, after := _, guard := _ }) (v := ?v52) rfl (by kernel_rfl) (by kernel_rfl) (by kernel_rfl) (fun _ _ _ h => h) (Or.inl ⟨by rfl, ?hy52⟩) (by first | assumption | exact hHeld51) ?rest52
          case hy52 => ((intro w0 hSw; (try dsimp only at hSw); go_simp) <;> with_reducible rfl)
          (try simp only [Act.put, List.setIfInBounds_toArray, List.set_cons_zero, List.set_cons_succ])
          have hs5 : (w3.alloc (.cells #[.int .i64 0, .int .i64 7, .int .i64 (1 + v1)] 3)).cell? ⟨w3.heap.size, j3, none⟩ = some (.int .i64 u3) := by have := own_lit w3 [0, 7, 1 + v1] (g + 1) 3 rfl (by omega) (by first | omega | (simp; omega)); (try simp only [World.size_alloc] at this); exact own_elem this HJ3.out
          refine wpAnyH_strong (S' := (fun w' => w'.cell? ⟨w3.heap.size, j3, none⟩ = some (.int .i64 u3) ∧ ((fun _ => True) w'))) (fun _ h => h.2) _ _ _ _ ?_
          have hHeld53 := And.intro hs5 hHeld51
          refine wpAnyH_take (i := 5) (oi := { dst := some 19, op := _, type := _, pos := _, after := _, guard := _ }) (v := ?v54) rfl (by kernel_rfl) (by kernel_rfl) (by kernel_rfl) (fun _ _ _ h => h) (Or.inl ⟨by rfl, ?hy54⟩) (by first | assumption | exact hHeld53) ?rest54
          case hy54 => ((intro w0 hSw; (try dsimp only at hSw); go_simp) <;> with_reducible rfl)
          (try simp only [Act.put, List.setIfInBounds_toArray, List.set_cons_zero, List.set_cons_succ])
          refine wpAnyH_ready (rs := [9]) (by kernel_rfl) (by simp) ?_
          refine AllReadyH.cons (o := { dst := some 23, op := _, type := _, pos := _, after := _, guard := _ }) rfl (fun K hK => ?_) ?_
          · go_simp
            refine (l5Ten_at HK.out hK6 HT.out _).mono ?_
            rintro e w9 ⟨rfl, hw9⟩
            subst hw9
            (try go_wp2_with fail)
            refine hK.out _ _ ?_ (fun hHeld55 => ?_)
            · (try dsimp only)
              all_goals (((repeat' apply And.intro) <;> first | trivial | assumption | (exact (World.cell?_alloc_lt _ _ _ (by first | omega | (simp <;> omega) | (simp only; omega))).trans (by assumption)) | go_simp | go_keep))
            clear hK K
            (try clear hHeld53)
            (try simp only [Act.put, List.setIfInBounds_toArray, List.set_cons_zero, List.set_cons_succ])
            refine wpAnyH_take (i := 10) (oi := { dst := some 24, op := _, type := _, pos := _, after := _, guard := _ }) (v := ?v56) rfl (by kernel_rfl) (by kernel_rfl) (by kernel_rfl) (fun _ _ _ h => h) (Or.inl ⟨by rfl, ?hy56⟩) (by first | assumption | exact hHeld55) ?rest56
            case hy56 => ((intro w0 hSw; (try dsimp only at hSw); go_simp) <;> with_reducible rfl)
            (try simp only [Act.put, List.setIfInBounds_toArray, List.set_cons_zero, List.set_cons_succ])
            refine wpAnyH_ready (rs := [11, 13]) (by kernel_rfl) (by simp) ?_
            refine AllReadyH.cons (o := { dst := some 25, op := _, type := _, pos := _, after := _, guard := _ }) rfl (fun K hK => ?_) ?_
            · go_simp
              refine hK.out _ _ ?_ (fun hHeld57 => ?_)
              · (try dsimp only)
                all_goals (((repeat' apply And.intro) <;> first | trivial | assumption | (exact (World.cell?_alloc_lt _ _ _ (by first | omega | (simp <;> omega) | (simp only; omega))).trans (by assumption)) | go_simp | go_keep))
              clear hK K
              (try clear hHeld55)
              (try simp only [Act.put, List.setIfInBounds_toArray, List.set_cons_zero, List.set_cons_succ])
              refine wpAnyH_ready (rs := [13]) (by kernel_rfl) (by simp) ?_
              refine AllReadyH.cons (o := { dst := some 27, op := _, type := _, pos := _, after := _, guard := _ }) rfl (fun K hK => ?_) ?_
              · go_simp
                refine (pick_any _ _ _ _ _ (((HR3.out).alloc (.cells #[.int .i64 0, .int .i64 7, .int .i64 (1 + v1)] 3)).alloc (.cells #[.int .i64 (-1), .int .i64 T, .int .i64 (T - 1)] 3)) (by omega)).mono ?_
                rintro e w13 ⟨v13, rfl, hv13, hrd13, hg13'⟩
                obtain ⟨hva13, hvb13⟩ := hv13 (by omega)
                clear hv13
                obtain ⟨j13, u13, rfl, hj13, -⟩ := pick_mem (us := [-1, T, T - 1]) (n := 3) rfl (by omega) hva13 hvb13
                have HJ13 := Lib.hid hj13
                have hg13 : ((w3.alloc (.cells #[.int .i64 0, .int .i64 7, .int .i64 (1 + v1)] 3)).alloc (.cells #[.int .i64 (-1), .int .i64 T, .int .i64 (T - 1)] 3)).grownBy w13 (some g) := ⟨hg13'.os, hg13'.tape, hg13'.output, hg13'.size, hg13'.block⟩
                have hsz13 := hg13.size
                (try simp only [World.size_alloc] at hsz13)
                have HR13 := Lib.hid hrd13
                have HG13 := Lib.hid ((((HG3.out).trans (World.grownBy_alloc _ (.cells #[.int .i64 0, .int .i64 7, .int .i64 (1 + v1)] 3) _)).trans (World.grownBy_alloc _ (.cells #[.int .i64 (-1), .int .i64 T, .int .i64 (T - 1)] 3) _)).trans hg13)
                have ho13_1 := own_pick2 ((own_lit w3 [0, 7, 1 + v1] (g + 1) 3 rfl (by omega) (by first | omega | (simp; omega))).alloc (.cells #[.int .i64 (-1), .int .i64 T, .int .i64 (T - 1)] 3)) hg13 (by omega)
                (try simp only [World.size_alloc] at ho13_1)
                have HO13_1 := Lib.hid ho13_1
                have hc13_5 : w13.cell? ⟨w3.heap.size, j3, none⟩ = some (.int .i64 u3) := own_elem ho13_1 HJ3.out
                clear ho13_1
                have ho13_11 := own_pick2 (own_lit (w3.alloc (.cells #[.int .i64 0, .int .i64 7, .int .i64 (1 + v1)] 3)) [-1, T, T - 1] (g + 1) 3 rfl (by omega) (by first | omega | (simp; omega))) hg13 (by omega)
                (try simp only [World.size_alloc] at ho13_11)
                have HO13_11 := Lib.hid ho13_11
                clear ho13_11
                have hc13_15 : w13.cell? ⟨w3.heap.size + 1, j13, none⟩ = some (.int .i64 u13) := own_elem HO13_11.out HJ13.out
                clear hrd13 hg13 hg13'
                clear hj13
                (try go_wp2_with fail)
                refine hK.out _ _ ?_ (fun hHeld58 => ?_)
                · (try dsimp only)
                  all_goals (((repeat' apply And.intro) <;> first | trivial | assumption | (exact (World.cell?_alloc_lt _ _ _ (by first | omega | (simp <;> omega) | (simp only; omega))).trans (by assumption)) | go_simp | go_keep))
                clear hK K
                (try clear hHeld57)
                (try simp only [Act.put, List.setIfInBounds_toArray, List.set_cons_zero, List.set_cons_succ])
                refine wpAnyH_take (i := 14) (oi := { dst := some 28, op := _, type := _, pos := _, after := _, guard := _ }) (v := ?v59) rfl (by kernel_rfl) (by kernel_rfl) (by kernel_rfl) (fun _ _ _ h => h) (Or.inl ⟨by rfl, ?hy59⟩) (by first | assumption | exact hHeld58) ?rest59
                case hy59 => ((intro w0 hSw; (try dsimp only at hSw); go_simp) <;> with_reducible rfl)
                (try simp only [Act.put, List.setIfInBounds_toArray, List.set_cons_zero, List.set_cons_succ])
                have hs15 : (w13).cell? ⟨w3.heap.size + 1, j13, none⟩ = some (.int .i64 u13) := by have := HO13_11.out; (try simp only [World.size_alloc] at this); exact own_elem this HJ13.out
                refine wpAnyH_strong (S' := (fun w' => w'.cell? ⟨w3.heap.size + 1, j13, none⟩ = some (.int .i64 u13) ∧ ((fun w' => w'.cell? ⟨w3.heap.size, j3, none⟩ = some (.int .i64 u3) ∧ ((fun _ => True) w')) w'))) (fun _ h => h.2) _ _ _ _ ?_
                have hHeld60 := And.intro hs15 hHeld58
                refine wpAnyH_take (i := 15) (oi := { dst := some 29, op := _, type := _, pos := _, after := _, guard := _ }) (v := ?v61) rfl (by kernel_rfl) (by kernel_rfl) (by kernel_rfl) (fun _ _ _ h => h) (Or.inl ⟨by rfl, ?hy61⟩) (by first | assumption | exact hHeld60) ?rest61
                case hy61 => ((intro w0 hSw; (try dsimp only at hSw); go_simp) <;> with_reducible rfl)
                (try simp only [Act.put, List.setIfInBounds_toArray, List.set_cons_zero, List.set_cons_succ])
                refine wpAnyH_take (i := 16) (oi := { dst := some 2, op := _, type := _, pos := _, after := _, guard := _ }) (v := ?v62) rfl (by kernel_rfl) (by kernel_rfl) (by kernel_rfl) (fun _ _ _ h => h) (Or.inl ⟨by rfl, ?hy62⟩) (by first | assumption | exact hHeld60) ?rest62
                case hy62 => ((intro w0 hSw; (try dsimp only at hSw); go_simp) <;> with_reducible rfl)
                (try simp only [Act.put, List.setIfInBounds_toArray, List.set_cons_zero, List.set_cons_succ])
                refine wpAnyH_take (i := 17) (oi := { dst := some 3, op := _, type := _, pos := _, after := _, guard := _ }) (v := ?v63) rfl (by kernel_rfl) (by kernel_rfl) (by kernel_rfl) (fun _ _ _ h => h) (Or.inl ⟨by rfl, ?hy63⟩) (by first | assumption | exact hHeld60) ?rest63
                case hy63 => ((intro w0 hSw; (try dsimp only at hSw); go_simp) <;> with_reducible rfl)
                (try simp only [Act.put, List.setIfInBounds_toArray, List.set_cons_zero, List.set_cons_succ])
                refine wpAnyH_done (by kernel_rfl) ?_ _
                go_wp2
                go_ret2
                obtain ⟨m1, m2⟩ := mem_bd (a := 0) (b := 7) HJ3.out (by intro x hx; simp at hx; omega)
                obtain ⟨m3, m4⟩ := mem_bd (a := -1) (b := 1000000) HJ13.out (by intro x hx; simp at hx; omega)
                exact ⟨_, _, rfl, m1, m2, m3, m4, by have hh := HG0.out; rw [hh]; exact HB.out.trans ((base_in (HG13.out) (Nat.le_refl _) (by omega)))⟩
              exact AllReadyH.nil
            refine AllReadyH.cons (o := { dst := some 27, op := _, type := _, pos := _, after := _, guard := _ }) rfl (fun K hK => ?_) ?_
            · go_simp
              refine (pick_any _ _ _ _ _ ((HR3.out).alloc (.cells #[.int .i64 0, .int .i64 7, .int .i64 (1 + v1)] 3)) (by omega)).mono ?_
              rintro e w13 ⟨v13, rfl, hv13, hrd13, hg13'⟩
              obtain ⟨hva13, hvb13⟩ := hv13 (by omega)
              clear hv13
              obtain ⟨j13, u13, rfl, hj13, -⟩ := pick_mem (us := [-1, T, T - 1]) (n := 3) rfl (by omega) hva13 hvb13
              have HJ13 := Lib.hid hj13
              have hg13 : (w3.alloc (.cells #[.int .i64 0, .int .i64 7, .int .i64 (1 + v1)] 3)).grownBy w13 (some g) := ⟨hg13'.os, hg13'.tape, hg13'.output, hg13'.size, hg13'.block⟩
              have hsz13 := hg13.size
              (try simp only [World.size_alloc] at hsz13)
              have HR13 := Lib.hid hrd13
              have HG13 := Lib.hid (((HG3.out).trans (World.grownBy_alloc _ (.cells #[.int .i64 0, .int .i64 7, .int .i64 (1 + v1)] 3) _)).trans hg13)
              have ho13_1 := own_pick2 (own_lit w3 [0, 7, 1 + v1] (g + 1) 3 rfl (by omega) (by first | omega | (simp; omega))) hg13 (by omega)
              (try simp only [World.size_alloc] at ho13_1)
              have HO13_1 := Lib.hid ho13_1
              have hc13_5 : w13.cell? ⟨w3.heap.size, j3, none⟩ = some (.int .i64 u3) := own_elem ho13_1 HJ3.out
              clear ho13_1
              clear hrd13 hg13 hg13'
              clear hj13
              (try go_wp2_with fail)
              refine hK.out _ _ ?_ (fun hHeld64 => ?_)
              · (try dsimp only)
                all_goals (((repeat' apply And.intro) <;> first | trivial | assumption | (exact (World.cell?_alloc_lt _ _ _ (by first | omega | (simp <;> omega) | (simp only; omega))).trans (by assumption)) | go_simp | go_keep))
              clear hK K
              (try clear hHeld55)
              (try simp only [Act.put, List.setIfInBounds_toArray, List.set_cons_zero, List.set_cons_succ])
              refine wpAnyH_take (i := 16) (oi := { dst := some 2, op := _, type := _, pos := _, after := _, guard := _ }) (v := ?v65) rfl (by kernel_rfl) (by kernel_rfl) (by kernel_rfl) (fun _ _ _ h => h) (Or.inl ⟨by rfl, ?hy65⟩) (by first | assumption | exact hHeld64) ?rest65
              case hy65 => ((intro w0 hSw; (try dsimp only at hSw); go_simp) <;> with_reducible rfl)
              (try simp only [Act.put, List.setIfInBounds_toArray, List.set_cons_zero, List.set_cons_succ])
              refine wpAnyH_ready (rs := [11]) (by kernel_rfl) (by simp) ?_
              refine AllReadyH.cons (o := { dst := some 25, op := _, type := _, pos := _, after := _, guard := _ }) rfl (fun K hK => ?_) ?_
              · go_simp
                refine hK.out _ _ ?_ (fun hHeld66 => ?_)
                · (try dsimp only)
                  all_goals (((repeat' apply And.intro) <;> first | trivial | assumption | (exact (World.cell?_alloc_lt _ _ _ (by first | omega | (simp <;> omega) | (simp only; omega))).trans (by assumption)) | go_simp | go_keep))
                clear hK K
                (try clear hHeld64)
                (try simp only [Act.put, List.setIfInBounds_toArray, List.set_cons_zero, List.set_cons_succ])
                refine wpAnyH_take (i := 14) (oi := { dst := some 28, op := _, type := _, pos := _, after := _, guard := _ }) (v := ?v67) rfl (by kernel_rfl) (by kernel_rfl) (by kernel_rfl) (fun _ _ _ h => h) (Or.inl ⟨by rfl, ?hy67⟩) (by first | assumption | exact hHeld66) ?rest67
                case hy67 => ((intro w0 hSw; (try dsimp only at hSw); go_simp) <;> with_reducible rfl)
                (try simp only [Act.put, List.setIfInBounds_toArray, List.set_cons_zero, List.set_cons_succ])
                have hs15 : (w13.alloc (.cells #[.int .i64 (-1), .int .i64 T, .int .i64 (T - 1)] 3)).cell? ⟨w13.heap.size, j13, none⟩ = some (.int .i64 u13) := by have := own_lit w13 [-1, T, T - 1] (g + 1) 3 rfl (by omega) (by first | omega | (simp; omega)); (try simp only [World.size_alloc] at this); exact own_elem this HJ13.out
                refine wpAnyH_strong (S' := (fun w' => w'.cell? ⟨w13.heap.size, j13, none⟩ = some (.int .i64 u13) ∧ ((fun w' => w'.cell? ⟨w3.heap.size, j3, none⟩ = some (.int .i64 u3) ∧ ((fun _ => True) w')) w'))) (fun _ h => h.2) _ _ _ _ ?_
                have hHeld68 := And.intro hs15 hHeld66
                refine wpAnyH_take (i := 15) (oi := { dst := some 29, op := _, type := _, pos := _, after := _, guard := _ }) (v := ?v69) rfl (by kernel_rfl) (by kernel_rfl) (by kernel_rfl) (fun _ _ _ h => h) (Or.inl ⟨by rfl, ?hy69⟩) (by first | assumption | exact hHeld68) ?rest69
                case hy69 => ((intro w0 hSw; (try dsimp only at hSw); go_simp) <;> with_reducible rfl)
                (try simp only [Act.put, List.setIfInBounds_toArray, List.set_cons_zero, List.set_cons_succ])
                refine wpAnyH_take (i := 17) (oi := { dst := some 3, op := _, type := _, pos := _, after := _, guard := _ }) (v := ?v70) rfl (by kernel_rfl) (by kernel_rfl) (by kernel_rfl) (fun _ _ _ h => h) (Or.inl ⟨by rfl, ?hy70⟩) (by first | assumption | exact hHeld68) ?rest70
                case hy70 => ((intro w0 hSw; (try dsimp only at hSw); go_simp) <;> with_reducible rfl)
                (try simp only [Act.put, List.setIfInBounds_toArray, List.set_cons_zero, List.set_cons_succ])
                refine wpAnyH_done (by kernel_rfl) ?_ _
                go_wp2
                go_ret2
                obtain ⟨m1, m2⟩ := mem_bd (a := 0) (b := 7) HJ3.out (by intro x hx; simp at hx; omega)
                obtain ⟨m3, m4⟩ := mem_bd (a := -1) (b := 1000000) HJ13.out (by intro x hx; simp at hx; omega)
                exact ⟨_, _, rfl, m1, m2, m3, m4, by have hh := HG0.out; rw [hh]; exact HB.out.trans ((base_in ((HG13.out).trans (World.grownBy_alloc _ (.cells #[.int .i64 (-1), .int .i64 T, .int .i64 (T - 1)] 3) _)) (Nat.le_refl _) (by omega)))⟩
              exact AllReadyH.nil
            exact AllReadyH.nil
          exact AllReadyH.nil
        refine AllReadyH.cons (o := { dst := some 23, op := _, type := _, pos := _, after := _, guard := _ }) rfl (fun K hK => ?_) ?_
        · go_simp
          refine (l5Ten_at HK.out hK6 HT.out _).mono ?_
          rintro e w9 ⟨rfl, hw9⟩
          subst hw9
          (try go_wp2_with fail)
          refine hK.out _ _ ?_ (fun hHeld71 => ?_)
          · (try dsimp only)
            all_goals (((repeat' apply And.intro) <;> first | trivial | assumption | (exact (World.cell?_alloc_lt _ _ _ (by first | omega | (simp <;> omega) | (simp only; omega))).trans (by assumption)) | go_simp | go_keep))
          clear hK K
          (try clear hHeld50)
          (try simp only [Act.put, List.setIfInBounds_toArray, List.set_cons_zero, List.set_cons_succ])
          refine wpAnyH_take (i := 10) (oi := { dst := some 24, op := _, type := _, pos := _, after := _, guard := _ }) (v := ?v72) rfl (by kernel_rfl) (by kernel_rfl) (by kernel_rfl) (fun _ _ _ h => h) (Or.inl ⟨by rfl, ?hy72⟩) (by first | assumption | exact hHeld71) ?rest72
          case hy72 => ((intro w0 hSw; (try dsimp only at hSw); go_simp) <;> with_reducible rfl)
          (try simp only [Act.put, List.setIfInBounds_toArray, List.set_cons_zero, List.set_cons_succ])
          refine wpAnyH_ready (rs := [1, 11, 13]) (by kernel_rfl) (by simp) ?_
          refine AllReadyH.cons (o := { dst := some 15, op := _, type := _, pos := _, after := _, guard := _ }) rfl (fun K hK => ?_) ?_
          · go_simp
            refine hK.out _ _ ?_ (fun hHeld73 => ?_)
            · (try dsimp only)
              all_goals (((repeat' apply And.intro) <;> first | trivial | assumption | (exact (World.cell?_alloc_lt _ _ _ (by first | omega | (simp <;> omega) | (simp only; omega))).trans (by assumption)) | go_simp | go_keep))
            clear hK K
            (try clear hHeld71)
            (try simp only [Act.put, List.setIfInBounds_toArray, List.set_cons_zero, List.set_cons_succ])
            refine wpAnyH_take (i := 4) (oi := { dst := some 18, op := _, type := _, pos := _, after := _, guard := _ }) (v := ?v74) rfl (by kernel_rfl) (by kernel_rfl) (by kernel_rfl) (fun _ _ _ h => h) (Or.inl ⟨by rfl, ?hy74⟩) (by first | assumption | exact hHeld73) ?rest74
            case hy74 => ((intro w0 hSw; (try dsimp only at hSw); go_simp) <;> with_reducible rfl)
            (try simp only [Act.put, List.setIfInBounds_toArray, List.set_cons_zero, List.set_cons_succ])
            have hs5 : (w3.alloc (.cells #[.int .i64 0, .int .i64 7, .int .i64 (1 + v1)] 3)).cell? ⟨w3.heap.size, j3, none⟩ = some (.int .i64 u3) := by have := own_lit w3 [0, 7, 1 + v1] (g + 1) 3 rfl (by omega) (by first | omega | (simp; omega)); (try simp only [World.size_alloc] at this); exact own_elem this HJ3.out
            refine wpAnyH_strong (S' := (fun w' => w'.cell? ⟨w3.heap.size, j3, none⟩ = some (.int .i64 u3) ∧ ((fun _ => True) w'))) (fun _ h => h.2) _ _ _ _ ?_
            have hHeld75 := And.intro hs5 hHeld73
            refine wpAnyH_take (i := 5) (oi := { dst := some 19, op := _, type := _, pos := _, after := _, guard := _ }) (v := ?v76) rfl (by kernel_rfl) (by kernel_rfl) (by kernel_rfl) (fun _ _ _ h => h) (Or.inl ⟨by rfl, ?hy76⟩) (by first | assumption | exact hHeld75) ?rest76
            case hy76 => ((intro w0 hSw; (try dsimp only at hSw); go_simp) <;> with_reducible rfl)
            (try simp only [Act.put, List.setIfInBounds_toArray, List.set_cons_zero, List.set_cons_succ])
            refine wpAnyH_ready (rs := [11, 13]) (by kernel_rfl) (by simp) ?_
            refine AllReadyH.cons (o := { dst := some 25, op := _, type := _, pos := _, after := _, guard := _ }) rfl (fun K hK => ?_) ?_
            · go_simp
              refine hK.out _ _ ?_ (fun hHeld77 => ?_)
              · (try dsimp only)
                all_goals (((repeat' apply And.intro) <;> first | trivial | assumption | (exact (World.cell?_alloc_lt _ _ _ (by first | omega | (simp <;> omega) | (simp only; omega))).trans (by assumption)) | go_simp | go_keep))
              clear hK K
              (try clear hHeld75)
              (try simp only [Act.put, List.setIfInBounds_toArray, List.set_cons_zero, List.set_cons_succ])
              refine wpAnyH_ready (rs := [13]) (by kernel_rfl) (by simp) ?_
              refine AllReadyH.cons (o := { dst := some 27, op := _, type := _, pos := _, after := _, guard := _ }) rfl (fun K hK => ?_) ?_
              · go_simp
                refine (pick_any _ _ _ _ _ (((HR3.out).alloc (.cells #[.int .i64 0, .int .i64 7, .int .i64 (1 + v1)] 3)).alloc (.cells #[.int .i64 (-1), .int .i64 T, .int .i64 (T - 1)] 3)) (by omega)).mono ?_
                rintro e w13 ⟨v13, rfl, hv13, hrd13, hg13'⟩
                obtain ⟨hva13, hvb13⟩ := hv13 (by omega)
                clear hv13
                obtain ⟨j13, u13, rfl, hj13, -⟩ := pick_mem (us := [-1, T, T - 1]) (n := 3) rfl (by omega) hva13 hvb13
                have HJ13 := Lib.hid hj13
                have hg13 : ((w3.alloc (.cells #[.int .i64 0, .int .i64 7, .int .i64 (1 + v1)] 3)).alloc (.cells #[.int .i64 (-1), .int .i64 T, .int .i64 (T - 1)] 3)).grownBy w13 (some g) := ⟨hg13'.os, hg13'.tape, hg13'.output, hg13'.size, hg13'.block⟩
                have hsz13 := hg13.size
                (try simp only [World.size_alloc] at hsz13)
                have HR13 := Lib.hid hrd13
                have HG13 := Lib.hid ((((HG3.out).trans (World.grownBy_alloc _ (.cells #[.int .i64 0, .int .i64 7, .int .i64 (1 + v1)] 3) _)).trans (World.grownBy_alloc _ (.cells #[.int .i64 (-1), .int .i64 T, .int .i64 (T - 1)] 3) _)).trans hg13)
                have ho13_1 := own_pick2 ((own_lit w3 [0, 7, 1 + v1] (g + 1) 3 rfl (by omega) (by first | omega | (simp; omega))).alloc (.cells #[.int .i64 (-1), .int .i64 T, .int .i64 (T - 1)] 3)) hg13 (by omega)
                (try simp only [World.size_alloc] at ho13_1)
                have HO13_1 := Lib.hid ho13_1
                have hc13_5 : w13.cell? ⟨w3.heap.size, j3, none⟩ = some (.int .i64 u3) := own_elem ho13_1 HJ3.out
                clear ho13_1
                have ho13_11 := own_pick2 (own_lit (w3.alloc (.cells #[.int .i64 0, .int .i64 7, .int .i64 (1 + v1)] 3)) [-1, T, T - 1] (g + 1) 3 rfl (by omega) (by first | omega | (simp; omega))) hg13 (by omega)
                (try simp only [World.size_alloc] at ho13_11)
                have HO13_11 := Lib.hid ho13_11
                clear ho13_11
                have hc13_15 : w13.cell? ⟨w3.heap.size + 1, j13, none⟩ = some (.int .i64 u13) := own_elem HO13_11.out HJ13.out
                clear hrd13 hg13 hg13'
                clear hj13
                (try go_wp2_with fail)
                refine hK.out _ _ ?_ (fun hHeld78 => ?_)
                · (try dsimp only)
                  all_goals (((repeat' apply And.intro) <;> first | trivial | assumption | (exact (World.cell?_alloc_lt _ _ _ (by first | omega | (simp <;> omega) | (simp only; omega))).trans (by assumption)) | go_simp | go_keep))
                clear hK K
                (try clear hHeld77)
                (try simp only [Act.put, List.setIfInBounds_toArray, List.set_cons_zero, List.set_cons_succ])
                refine wpAnyH_take (i := 14) (oi := { dst := some 28, op := _, type := _, pos := _, after := _, guard := _ }) (v := ?v79) rfl (by kernel_rfl) (by kernel_rfl) (by kernel_rfl) (fun _ _ _ h => h) (Or.inl ⟨by rfl, ?hy79⟩) (by first | assumption | exact hHeld78) ?rest79
                case hy79 => ((intro w0 hSw; (try dsimp only at hSw); go_simp) <;> with_reducible rfl)
                (try simp only [Act.put, List.setIfInBounds_toArray, List.set_cons_zero, List.set_cons_succ])
                have hs15 : (w13).cell? ⟨w3.heap.size + 1, j13, none⟩ = some (.int .i64 u13) := by have := HO13_11.out; (try simp only [World.size_alloc] at this); exact own_elem this HJ13.out
                refine wpAnyH_strong (S' := (fun w' => w'.cell? ⟨w3.heap.size + 1, j13, none⟩ = some (.int .i64 u13) ∧ ((fun w' => w'.cell? ⟨w3.heap.size, j3, none⟩ = some (.int .i64 u3) ∧ ((fun _ => True) w')) w'))) (fun _ h => h.2) _ _ _ _ ?_
                have hHeld80 := And.intro hs15 hHeld78
                refine wpAnyH_take (i := 15) (oi := { dst := some 29, op := _, type := _, pos := _, after := _, guard := _ }) (v := ?v81) rfl (by kernel_rfl) (by kernel_rfl) (by kernel_rfl) (fun _ _ _ h => h) (Or.inl ⟨by rfl, ?hy81⟩) (by first | assumption | exact hHeld80) ?rest81
                case hy81 => ((intro w0 hSw; (try dsimp only at hSw); go_simp) <;> with_reducible rfl)
                (try simp only [Act.put, List.setIfInBounds_toArray, List.set_cons_zero, List.set_cons_succ])
                refine wpAnyH_take (i := 16) (oi := { dst := some 2, op := _, type := _, pos := _, after := _, guard := _ }) (v := ?v82) rfl (by kernel_rfl) (by kernel_rfl) (by kernel_rfl) (fun _ _ _ h => h) (Or.inl ⟨by rfl, ?hy82⟩) (by first | assumption | exact hHeld80) ?rest82
                case hy82 => ((intro w0 hSw; (try dsimp only at hSw); go_simp) <;> with_reducible rfl)
                (try simp only [Act.put, List.setIfInBounds_toArray, List.set_cons_zero, List.set_cons_succ])
                refine wpAnyH_take (i := 17) (oi := { dst := some 3, op := _, type := _, pos := _, after := _, guard := _ }) (v := ?v83) rfl (by kernel_rfl) (by kernel_rfl) (by kernel_rfl) (fun _ _ _ h => h) (Or.inl ⟨by rfl, ?hy83⟩) (by first | assumption | exact hHeld80) ?rest83
                case hy83 => ((intro w0 hSw; (try dsimp only at hSw); go_simp) <;> with_reducible rfl)
                (try simp only [Act.put, List.setIfInBounds_toArray, List.set_cons_zero, List.set_cons_succ])
                refine wpAnyH_done (by kernel_rfl) ?_ _
                go_wp2
                go_ret2
                obtain ⟨m1, m2⟩ := mem_bd (a := 0) (b := 7) HJ3.out (by intro x hx; simp at hx; omega)
                obtain ⟨m3, m4⟩ := mem_bd (a := -1) (b := 1000000) HJ13.out (by intro x hx; simp at hx; omega)
                exact ⟨_, _, rfl, m1, m2, m3, m4, by have hh := HG0.out; rw [hh]; exact HB.out.trans ((base_in (HG13.out) (Nat.le_refl _) (by omega)))⟩
              exact AllReadyH.nil
            refine AllReadyH.cons (o := { dst := some 27, op := _, type := _, pos := _, after := _, guard := _ }) rfl (fun K hK => ?_) ?_
            · go_simp
              refine (pick_any _ _ _ _ _ ((HR3.out).alloc (.cells #[.int .i64 0, .int .i64 7, .int .i64 (1 + v1)] 3)) (by omega)).mono ?_
              rintro e w13 ⟨v13, rfl, hv13, hrd13, hg13'⟩
              obtain ⟨hva13, hvb13⟩ := hv13 (by omega)
              clear hv13
              obtain ⟨j13, u13, rfl, hj13, -⟩ := pick_mem (us := [-1, T, T - 1]) (n := 3) rfl (by omega) hva13 hvb13
              have HJ13 := Lib.hid hj13
              have hg13 : (w3.alloc (.cells #[.int .i64 0, .int .i64 7, .int .i64 (1 + v1)] 3)).grownBy w13 (some g) := ⟨hg13'.os, hg13'.tape, hg13'.output, hg13'.size, hg13'.block⟩
              have hsz13 := hg13.size
              (try simp only [World.size_alloc] at hsz13)
              have HR13 := Lib.hid hrd13
              have HG13 := Lib.hid (((HG3.out).trans (World.grownBy_alloc _ (.cells #[.int .i64 0, .int .i64 7, .int .i64 (1 + v1)] 3) _)).trans hg13)
              have ho13_1 := own_pick2 (own_lit w3 [0, 7, 1 + v1] (g + 1) 3 rfl (by omega) (by first | omega | (simp; omega))) hg13 (by omega)
              (try simp only [World.size_alloc] at ho13_1)
              have HO13_1 := Lib.hid ho13_1
              have hc13_5 : w13.cell? ⟨w3.heap.size, j3, none⟩ = some (.int .i64 u3) := own_elem ho13_1 HJ3.out
              clear ho13_1
              clear hrd13 hg13 hg13'
              clear hj13
              (try go_wp2_with fail)
              refine hK.out _ _ ?_ (fun hHeld84 => ?_)
              · (try dsimp only)
                all_goals (((repeat' apply And.intro) <;> first | trivial | assumption | (exact (World.cell?_alloc_lt _ _ _ (by first | omega | (simp <;> omega) | (simp only; omega))).trans (by assumption)) | go_simp | go_keep))
              clear hK K
              (try clear hHeld75)
              (try simp only [Act.put, List.setIfInBounds_toArray, List.set_cons_zero, List.set_cons_succ])
              refine wpAnyH_take (i := 16) (oi := { dst := some 2, op := _, type := _, pos := _, after := _, guard := _ }) (v := ?v85) rfl (by kernel_rfl) (by kernel_rfl) (by kernel_rfl) (fun _ _ _ h => h) (Or.inl ⟨by rfl, ?hy85⟩) (by first | assumption | exact hHeld84) ?rest85
              case hy85 => ((intro w0 hSw; (try dsimp only at hSw); go_simp) <;> with_reducible rfl)
              (try simp only [Act.put, List.setIfInBounds_toArray, List.set_cons_zero, List.set_cons_succ])
              refine wpAnyH_ready (rs := [11]) (by kernel_rfl) (by simp) ?_
              refine AllReadyH.cons (o := { dst := some 25, op := _, type := _, pos := _, after := _, guard := _ }) rfl (fun K hK => ?_) ?_
              · go_simp
                refine hK.out _ _ ?_ (fun hHeld86 => ?_)
                · (try dsimp only)
                  all_goals (((repeat' apply And.intro) <;> first | trivial | assumption | (exact (World.cell?_alloc_lt _ _ _ (by first | omega | (simp <;> omega) | (simp only; omega))).trans (by assumption)) | go_simp | go_keep))
                clear hK K
                (try clear hHeld84)
                (try simp only [Act.put, List.setIfInBounds_toArray, List.set_cons_zero, List.set_cons_succ])
                refine wpAnyH_take (i := 14) (oi := { dst := some 28, op := _, type := _, pos := _, after := _, guard := _ }) (v := ?v87) rfl (by kernel_rfl) (by kernel_rfl) (by kernel_rfl) (fun _ _ _ h => h) (Or.inl ⟨by rfl, ?hy87⟩) (by first | assumption | exact hHeld86) ?rest87
                case hy87 => ((intro w0 hSw; (try dsimp only at hSw); go_simp) <;> with_reducible rfl)
                (try simp only [Act.put, List.setIfInBounds_toArray, List.set_cons_zero, List.set_cons_succ])
                have hs15 : (w13.alloc (.cells #[.int .i64 (-1), .int .i64 T, .int .i64 (T - 1)] 3)).cell? ⟨w13.heap.size, j13, none⟩ = some (.int .i64 u13) := by have := own_lit w13 [-1, T, T - 1] (g + 1) 3 rfl (by omega) (by first | omega | (simp; omega)); (try simp only [World.size_alloc] at this); exact own_elem this HJ13.out
                refine wpAnyH_strong (S' := (fun w' => w'.cell? ⟨w13.heap.size, j13, none⟩ = some (.int .i64 u13) ∧ ((fun w' => w'.cell? ⟨w3.heap.size, j3, none⟩ = some (.int .i64 u3) ∧ ((fun _ => True) w')) w'))) (fun _ h => h.2) _ _ _ _ ?_
                have hHeld88 := And.intro hs15 hHeld86
                refine wpAnyH_take (i := 15) (oi := { dst := some 29, op := _, type := _, pos := _, after := _, guard := _ }) (v := ?v89) rfl (by kernel_rfl) (by kernel_rfl) (by kernel_rfl) (fun _ _ _ h => h) (Or.inl ⟨by rfl, ?hy89⟩) (by first | assumption | exact hHeld88) ?rest89
                case hy89 => ((intro w0 hSw; (try dsimp only at hSw); go_simp) <;> with_reducible rfl)
                (try simp only [Act.put, List.setIfInBounds_toArray, List.set_cons_zero, List.set_cons_succ])
                refine wpAnyH_take (i := 17) (oi := { dst := some 3, op := _, type := _, pos := _, after := _, guard := _ }) (v := ?v90) rfl (by kernel_rfl) (by kernel_rfl) (by kernel_rfl) (fun _ _ _ h => h) (Or.inl ⟨by rfl, ?hy90⟩) (by first | assumption | exact hHeld88) ?rest90
                case hy90 => ((intro w0 hSw; (try dsimp only at hSw); go_simp) <;> with_reducible rfl)
                (try simp only [Act.put, List.setIfInBounds_toArray, List.set_cons_zero, List.set_cons_succ])
                refine wpAnyH_done (by kernel_rfl) ?_ _
                go_wp2
                go_ret2
                obtain ⟨m1, m2⟩ := mem_bd (a := 0) (b := 7) HJ3.out (by intro x hx; simp at hx; omega)
                obtain ⟨m3, m4⟩ := mem_bd (a := -1) (b := 1000000) HJ13.out (by intro x hx; simp at hx; omega)
                exact ⟨_, _, rfl, m1, m2, m3, m4, by have hh := HG0.out; rw [hh]; exact HB.out.trans ((base_in ((HG13.out).trans (World.grownBy_alloc _ (.cells #[.int .i64 (-1), .int .i64 T, .int .i64 (T - 1)] 3) _)) (Nat.le_refl _) (by omega)))⟩
              exact AllReadyH.nil
            exact AllReadyH.nil
          refine AllReadyH.cons (o := { dst := some 25, op := _, type := _, pos := _, after := _, guard := _ }) rfl (fun K hK => ?_) ?_
          · go_simp
            refine hK.out _ _ ?_ (fun hHeld91 => ?_)
            · (try dsimp only)
              all_goals (((repeat' apply And.intro) <;> first | trivial | assumption | (exact (World.cell?_alloc_lt _ _ _ (by first | omega | (simp <;> omega) | (simp only; omega))).trans (by assumption)) | go_simp | go_keep))
            clear hK K
            (try clear hHeld71)
            (try simp only [Act.put, List.setIfInBounds_toArray, List.set_cons_zero, List.set_cons_succ])
            refine wpAnyH_ready (rs := [1, 13]) (by kernel_rfl) (by simp) ?_
            refine AllReadyH.cons (o := { dst := some 15, op := _, type := _, pos := _, after := _, guard := _ }) rfl (fun K hK => ?_) ?_
            · go_simp
              refine hK.out _ _ ?_ (fun hHeld92 => ?_)
              · (try dsimp only)
                all_goals (((repeat' apply And.intro) <;> first | trivial | assumption | (exact (World.cell?_alloc_lt _ _ _ (by first | omega | (simp <;> omega) | (simp only; omega))).trans (by assumption)) | go_simp | go_keep))
              clear hK K
              (try clear hHeld91)
              (try simp only [Act.put, List.setIfInBounds_toArray, List.set_cons_zero, List.set_cons_succ])
              refine wpAnyH_take (i := 4) (oi := { dst := some 18, op := _, type := _, pos := _, after := _, guard := _ }) (v := ?v93) rfl (by kernel_rfl) (by kernel_rfl) (by kernel_rfl) (fun _ _ _ h => h) (Or.inl ⟨by rfl, ?hy93⟩) (by first | assumption | exact hHeld92) ?rest93
              case hy93 => ((intro w0 hSw; (try dsimp only at hSw); go_simp) <;> with_reducible rfl)
              (try simp only [Act.put, List.setIfInBounds_toArray, List.set_cons_zero, List.set_cons_succ])
              have hs5 : ((w3.alloc (.cells #[.int .i64 (-1), .int .i64 T, .int .i64 (T - 1)] 3)).alloc (.cells #[.int .i64 0, .int .i64 7, .int .i64 (1 + v1)] 3)).cell? ⟨w3.heap.size + 1, j3, none⟩ = some (.int .i64 u3) := by have := own_lit (w3.alloc (.cells #[.int .i64 (-1), .int .i64 T, .int .i64 (T - 1)] 3)) [0, 7, 1 + v1] (g + 1) 3 rfl (by omega) (by first | omega | (simp; omega)); (try simp only [World.size_alloc] at this); exact own_elem this HJ3.out
              refine wpAnyH_strong (S' := (fun w' => w'.cell? ⟨w3.heap.size + 1, j3, none⟩ = some (.int .i64 u3) ∧ ((fun _ => True) w'))) (fun _ h => h.2) _ _ _ _ ?_
              have hHeld94 := And.intro hs5 hHeld92
              refine wpAnyH_take (i := 5) (oi := { dst := some 19, op := _, type := _, pos := _, after := _, guard := _ }) (v := ?v95) rfl (by kernel_rfl) (by kernel_rfl) (by kernel_rfl) (fun _ _ _ h => h) (Or.inl ⟨by rfl, ?hy95⟩) (by first | assumption | exact hHeld94) ?rest95
              case hy95 => ((intro w0 hSw; (try dsimp only at hSw); go_simp) <;> with_reducible rfl)
              (try simp only [Act.put, List.setIfInBounds_toArray, List.set_cons_zero, List.set_cons_succ])
              refine wpAnyH_ready (rs := [13]) (by kernel_rfl) (by simp) ?_
              refine AllReadyH.cons (o := { dst := some 27, op := _, type := _, pos := _, after := _, guard := _ }) rfl (fun K hK => ?_) ?_
              · go_simp
                refine (pick_any _ _ _ _ _ (((HR3.out).alloc (.cells #[.int .i64 (-1), .int .i64 T, .int .i64 (T - 1)] 3)).alloc (.cells #[.int .i64 0, .int .i64 7, .int .i64 (1 + v1)] 3)) (by omega)).mono ?_
                rintro e w13 ⟨v13, rfl, hv13, hrd13, hg13'⟩
                obtain ⟨hva13, hvb13⟩ := hv13 (by omega)
                clear hv13
                obtain ⟨j13, u13, rfl, hj13, -⟩ := pick_mem (us := [-1, T, T - 1]) (n := 3) rfl (by omega) hva13 hvb13
                have HJ13 := Lib.hid hj13
                have hg13 : ((w3.alloc (.cells #[.int .i64 (-1), .int .i64 T, .int .i64 (T - 1)] 3)).alloc (.cells #[.int .i64 0, .int .i64 7, .int .i64 (1 + v1)] 3)).grownBy w13 (some g) := ⟨hg13'.os, hg13'.tape, hg13'.output, hg13'.size, hg13'.block⟩
                have hsz13 := hg13.size
                (try simp only [World.size_alloc] at hsz13)
                have HR13 := Lib.hid hrd13
                have HG13 := Lib.hid ((((HG3.out).trans (World.grownBy_alloc _ (.cells #[.int .i64 (-1), .int .i64 T, .int .i64 (T - 1)] 3) _)).trans (World.grownBy_alloc _ (.cells #[.int .i64 0, .int .i64 7, .int .i64 (1 + v1)] 3) _)).trans hg13)
                have ho13_11 := own_pick2 ((own_lit w3 [-1, T, T - 1] (g + 1) 3 rfl (by omega) (by first | omega | (simp; omega))).alloc (.cells #[.int .i64 0, .int .i64 7, .int .i64 (1 + v1)] 3)) hg13 (by omega)
                (try simp only [World.size_alloc] at ho13_11)
                have HO13_11 := Lib.hid ho13_11
                clear ho13_11
                have ho13_1 := own_pick2 (own_lit (w3.alloc (.cells #[.int .i64 (-1), .int .i64 T, .int .i64 (T - 1)] 3)) [0, 7, 1 + v1] (g + 1) 3 rfl (by omega) (by first | omega | (simp; omega))) hg13 (by omega)
                (try simp only [World.size_alloc] at ho13_1)
                have HO13_1 := Lib.hid ho13_1
                have hc13_5 : w13.cell? ⟨w3.heap.size + 1, j3, none⟩ = some (.int .i64 u3) := own_elem ho13_1 HJ3.out
                clear ho13_1
                have hc13_15 : w13.cell? ⟨w3.heap.size, j13, none⟩ = some (.int .i64 u13) := own_elem HO13_11.out HJ13.out
                clear hrd13 hg13 hg13'
                clear hj13
                (try go_wp2_with fail)
                refine hK.out _ _ ?_ (fun hHeld96 => ?_)
                · (try dsimp only)
                  all_goals (((repeat' apply And.intro) <;> first | trivial | assumption | (exact (World.cell?_alloc_lt _ _ _ (by first | omega | (simp <;> omega) | (simp only; omega))).trans (by assumption)) | go_simp | go_keep))
                clear hK K
                (try clear hHeld94)
                (try simp only [Act.put, List.setIfInBounds_toArray, List.set_cons_zero, List.set_cons_succ])
                refine wpAnyH_take (i := 14) (oi := { dst := some 28, op := _, type := _, pos := _, after := _, guard := _ }) (v := ?v97) rfl (by kernel_rfl) (by kernel_rfl) (by kernel_rfl) (fun _ _ _ h => h) (Or.inl ⟨by rfl, ?hy97⟩) (by first | assumption | exact hHeld96) ?rest97
                case hy97 => ((intro w0 hSw; (try dsimp only at hSw); go_simp) <;> with_reducible rfl)
                (try simp only [Act.put, List.setIfInBounds_toArray, List.set_cons_zero, List.set_cons_succ])
                have hs15 : (w13).cell? ⟨w3.heap.size, j13, none⟩ = some (.int .i64 u13) := by have := HO13_11.out; (try simp only [World.size_alloc] at this); exact own_elem this HJ13.out
                refine wpAnyH_strong (S' := (fun w' => w'.cell? ⟨w3.heap.size, j13, none⟩ = some (.int .i64 u13) ∧ ((fun w' => w'.cell? ⟨w3.heap.size + 1, j3, none⟩ = some (.int .i64 u3) ∧ ((fun _ => True) w')) w'))) (fun _ h => h.2) _ _ _ _ ?_
                have hHeld98 := And.intro hs15 hHeld96
                refine wpAnyH_take (i := 15) (oi := { dst := some 29, op := _, type := _, pos := _, after := _, guard := _ }) (v := ?v99) rfl (by kernel_rfl) (by kernel_rfl) (by kernel_rfl) (fun _ _ _ h => h) (Or.inl ⟨by rfl, ?hy99⟩) (by first | assumption | exact hHeld98) ?rest99
                case hy99 => ((intro w0 hSw; (try dsimp only at hSw); go_simp) <;> with_reducible rfl)
                (try simp only [Act.put, List.setIfInBounds_toArray, List.set_cons_zero, List.set_cons_succ])
                refine wpAnyH_take (i := 16) (oi := { dst := some 2, op := _, type := _, pos := _, after := _, guard := _ }) (v := ?v100) rfl (by kernel_rfl) (by kernel_rfl) (by kernel_rfl) (fun _ _ _ h => h) (Or.inl ⟨by rfl, ?hy100⟩) (by first | assumption | exact hHeld98) ?rest100
                case hy100 => ((intro w0 hSw; (try dsimp only at hSw); go_simp) <;> with_reducible rfl)
                (try simp only [Act.put, List.setIfInBounds_toArray, List.set_cons_zero, List.set_cons_succ])
                refine wpAnyH_take (i := 17) (oi := { dst := some 3, op := _, type := _, pos := _, after := _, guard := _ }) (v := ?v101) rfl (by kernel_rfl) (by kernel_rfl) (by kernel_rfl) (fun _ _ _ h => h) (Or.inl ⟨by rfl, ?hy101⟩) (by first | assumption | exact hHeld98) ?rest101
                case hy101 => ((intro w0 hSw; (try dsimp only at hSw); go_simp) <;> with_reducible rfl)
                (try simp only [Act.put, List.setIfInBounds_toArray, List.set_cons_zero, List.set_cons_succ])
                refine wpAnyH_done (by kernel_rfl) ?_ _
                go_wp2
                go_ret2
                obtain ⟨m1, m2⟩ := mem_bd (a := 0) (b := 7) HJ3.out (by intro x hx; simp at hx; omega)
                obtain ⟨m3, m4⟩ := mem_bd (a := -1) (b := 1000000) HJ13.out (by intro x hx; simp at hx; omega)
                exact ⟨_, _, rfl, m1, m2, m3, m4, by have hh := HG0.out; rw [hh]; exact HB.out.trans ((base_in (HG13.out) (Nat.le_refl _) (by omega)))⟩
              exact AllReadyH.nil
            refine AllReadyH.cons (o := { dst := some 27, op := _, type := _, pos := _, after := _, guard := _ }) rfl (fun K hK => ?_) ?_
            · go_simp
              refine (pick_any _ _ _ _ _ ((HR3.out).alloc (.cells #[.int .i64 (-1), .int .i64 T, .int .i64 (T - 1)] 3)) (by omega)).mono ?_
              rintro e w13 ⟨v13, rfl, hv13, hrd13, hg13'⟩
              obtain ⟨hva13, hvb13⟩ := hv13 (by omega)
              clear hv13
              obtain ⟨j13, u13, rfl, hj13, -⟩ := pick_mem (us := [-1, T, T - 1]) (n := 3) rfl (by omega) hva13 hvb13
              have HJ13 := Lib.hid hj13
              have hg13 : (w3.alloc (.cells #[.int .i64 (-1), .int .i64 T, .int .i64 (T - 1)] 3)).grownBy w13 (some g) := ⟨hg13'.os, hg13'.tape, hg13'.output, hg13'.size, hg13'.block⟩
              have hsz13 := hg13.size
              (try simp only [World.size_alloc] at hsz13)
              have HR13 := Lib.hid hrd13
              have HG13 := Lib.hid (((HG3.out).trans (World.grownBy_alloc _ (.cells #[.int .i64 (-1), .int .i64 T, .int .i64 (T - 1)] 3) _)).trans hg13)
              have ho13_11 := own_pick2 (own_lit w3 [-1, T, T - 1] (g + 1) 3 rfl (by omega) (by first | omega | (simp; omega))) hg13 (by omega)
              (try simp only [World.size_alloc] at ho13_11)
              have HO13_11 := Lib.hid ho13_11
              clear ho13_11
              have hc13_15 : w13.cell? ⟨w3.heap.size, j13, none⟩ = some (.int .i64 u13) := own_elem HO13_11.out HJ13.out
              clear hrd13 hg13 hg13'
              clear hj13
              (try go_wp2_with fail)
              refine hK.out _ _ ?_ (fun hHeld102 => ?_)
              · (try dsimp only)
                all_goals (((repeat' apply And.intro) <;> first | trivial | assumption | (exact (World.cell?_alloc_lt _ _ _ (by first | omega | (simp <;> omega) | (simp only; omega))).trans (by assumption)) | go_simp | go_keep))
              clear hK K
              (try clear hHeld91)
              (try simp only [Act.put, List.setIfInBounds_toArray, List.set_cons_zero, List.set_cons_succ])
              refine wpAnyH_take (i := 14) (oi := { dst := some 28, op := _, type := _, pos := _, after := _, guard := _ }) (v := ?v103) rfl (by kernel_rfl) (by kernel_rfl) (by kernel_rfl) (fun _ _ _ h => h) (Or.inl ⟨by rfl, ?hy103⟩) (by first | assumption | exact hHeld102) ?rest103
              case hy103 => ((intro w0 hSw; (try dsimp only at hSw); go_simp) <;> with_reducible rfl)
              (try simp only [Act.put, List.setIfInBounds_toArray, List.set_cons_zero, List.set_cons_succ])
              have hs15 : (w13).cell? ⟨w3.heap.size, j13, none⟩ = some (.int .i64 u13) := by have := HO13_11.out; (try simp only [World.size_alloc] at this); exact own_elem this HJ13.out
              refine wpAnyH_strong (S' := (fun w' => w'.cell? ⟨w3.heap.size, j13, none⟩ = some (.int .i64 u13) ∧ ((fun _ => True) w'))) (fun _ h => h.2) _ _ _ _ ?_
              have hHeld104 := And.intro hs15 hHeld102
              refine wpAnyH_take (i := 15) (oi := { dst := some 29, op := _, type := _, pos := _, after := _, guard := _ }) (v := ?v105) rfl (by kernel_rfl) (by kernel_rfl) (by kernel_rfl) (fun _ _ _ h => h) (Or.inl ⟨by rfl, ?hy105⟩) (by first | assumption | exact hHeld104) ?rest105
              case hy105 => ((intro w0 hSw; (try dsimp only at hSw); go_simp) <;> with_reducible rfl)
              (try simp only [Act.put, List.setIfInBounds_toArray, List.set_cons_zero, List.set_cons_succ])
              refine wpAnyH_ready (rs := [1]) (by kernel_rfl) (by simp) ?_
              refine AllReadyH.cons (o := { dst := some 15, op := _, type := _, pos := _, after := _, guard := _ }) rfl (fun K hK => ?_) ?_
              · go_simp
                refine hK.out _ _ ?_ (fun hHeld106 => ?_)
                · (try dsimp only)
                  all_goals (((repeat' apply And.intro) <;> first | trivial | assumption | (exact (World.cell?_alloc_lt _ _ _ (by first | omega | (simp <;> omega) | (simp only; omega))).trans (by assumption)) | go_simp | go_keep))
                clear hK K
                (try clear hHeld104)
                (try simp only [Act.put, List.setIfInBounds_toArray, List.set_cons_zero, List.set_cons_succ])
                refine wpAnyH_take (i := 4) (oi := { dst := some 18, op := _, type := _, pos := _, after := _, guard := _ }) (v := ?v107) rfl (by kernel_rfl) (by kernel_rfl) (by kernel_rfl) (fun _ _ _ h => h) (Or.inl ⟨by rfl, ?hy107⟩) (by first | assumption | exact hHeld106) ?rest107
                case hy107 => ((intro w0 hSw; (try dsimp only at hSw); go_simp) <;> with_reducible rfl)
                (try simp only [Act.put, List.setIfInBounds_toArray, List.set_cons_zero, List.set_cons_succ])
                have hs5 : (w13.alloc (.cells #[.int .i64 0, .int .i64 7, .int .i64 (1 + v1)] 3)).cell? ⟨w13.heap.size, j3, none⟩ = some (.int .i64 u3) := by have := own_lit w13 [0, 7, 1 + v1] (g + 1) 3 rfl (by omega) (by first | omega | (simp; omega)); (try simp only [World.size_alloc] at this); exact own_elem this HJ3.out
                refine wpAnyH_strong (S' := (fun w' => w'.cell? ⟨w13.heap.size, j3, none⟩ = some (.int .i64 u3) ∧ ((fun w' => w'.cell? ⟨w3.heap.size, j13, none⟩ = some (.int .i64 u13) ∧ ((fun _ => True) w')) w'))) (fun _ h => h.2) _ _ _ _ ?_
                have hHeld108 := And.intro hs5 hHeld106
                refine wpAnyH_take (i := 5) (oi := { dst := some 19, op := _, type := _, pos := _, after := _, guard := _ }) (v := ?v109) rfl (by kernel_rfl) (by kernel_rfl) (by kernel_rfl) (fun _ _ _ h => h) (Or.inl ⟨by rfl, ?hy109⟩) (by first | assumption | exact hHeld108) ?rest109
                case hy109 => ((intro w0 hSw; (try dsimp only at hSw); go_simp) <;> with_reducible rfl)
                (try simp only [Act.put, List.setIfInBounds_toArray, List.set_cons_zero, List.set_cons_succ])
                refine wpAnyH_take (i := 16) (oi := { dst := some 2, op := _, type := _, pos := _, after := _, guard := _ }) (v := ?v110) rfl (by kernel_rfl) (by kernel_rfl) (by kernel_rfl) (fun _ _ _ h => h) (Or.inl ⟨by rfl, ?hy110⟩) (by first | assumption | exact hHeld108) ?rest110
                case hy110 => ((intro w0 hSw; (try dsimp only at hSw); go_simp) <;> with_reducible rfl)
                (try simp only [Act.put, List.setIfInBounds_toArray, List.set_cons_zero, List.set_cons_succ])
                refine wpAnyH_take (i := 17) (oi := { dst := some 3, op := _, type := _, pos := _, after := _, guard := _ }) (v := ?v111) rfl (by kernel_rfl) (by kernel_rfl) (by kernel_rfl) (fun _ _ _ h => h) (Or.inl ⟨by rfl, ?hy111⟩) (by first | assumption | exact hHeld108) ?rest111
                case hy111 => ((intro w0 hSw; (try dsimp only at hSw); go_simp) <;> with_reducible rfl)
                (try simp only [Act.put, List.setIfInBounds_toArray, List.set_cons_zero, List.set_cons_succ])
                refine wpAnyH_done (by kernel_rfl) ?_ _
                go_wp2
                go_ret2
                obtain ⟨m1, m2⟩ := mem_bd (a := 0) (b := 7) HJ3.out (by intro x hx; simp at hx; omega)
                obtain ⟨m3, m4⟩ := mem_bd (a := -1) (b := 1000000) HJ13.out (by intro x hx; simp at hx; omega)
                exact ⟨_, _, rfl, m1, m2, m3, m4, by have hh := HG0.out; rw [hh]; exact HB.out.trans ((base_in ((HG13.out).trans (World.grownBy_alloc _ (.cells #[.int .i64 0, .int .i64 7, .int .i64 (1 + v1)] 3) _)) (Nat.le_refl _) (by omega)))⟩
              exact AllReadyH.nil
            exact AllReadyH.nil
          refine AllReadyH.cons (o := { dst := some 27, op := _, type := _, pos := _, after := _, guard := _ }) rfl (fun K hK => ?_) ?_
          · go_simp
            refine (pick_any _ _ _ _ _ (HR3.out) (by omega)).mono ?_
            rintro e w13 ⟨v13, rfl, hv13, hrd13, hg13'⟩
            obtain ⟨hva13, hvb13⟩ := hv13 (by omega)
            clear hv13
            obtain ⟨j13, u13, rfl, hj13, -⟩ := pick_mem (us := [-1, T, T - 1]) (n := 3) rfl (by omega) hva13 hvb13
            have HJ13 := Lib.hid hj13
            have hg13 : (w3).grownBy w13 (some g) := ⟨hg13'.os, hg13'.tape, hg13'.output, hg13'.size, hg13'.block⟩
            have hsz13 := hg13.size
            (try simp only [World.size_alloc] at hsz13)
            have HR13 := Lib.hid hrd13
            have HG13 := Lib.hid ((HG3.out).trans hg13)
            clear hrd13 hg13 hg13'
            clear hj13
            (try go_wp2_with fail)
            refine hK.out _ _ ?_ (fun hHeld112 => ?_)
            · (try dsimp only)
              all_goals (((repeat' apply And.intro) <;> first | trivial | assumption | (exact (World.cell?_alloc_lt _ _ _ (by first | omega | (simp <;> omega) | (simp only; omega))).trans (by assumption)) | go_simp | go_keep))
            clear hK K
            (try clear hHeld71)
            (try simp only [Act.put, List.setIfInBounds_toArray, List.set_cons_zero, List.set_cons_succ])
            refine wpAnyH_ready (rs := [1, 11]) (by kernel_rfl) (by simp) ?_
            refine AllReadyH.cons (o := { dst := some 15, op := _, type := _, pos := _, after := _, guard := _ }) rfl (fun K hK => ?_) ?_
            · go_simp
              refine hK.out _ _ ?_ (fun hHeld113 => ?_)
              · (try dsimp only)
                all_goals (((repeat' apply And.intro) <;> first | trivial | assumption | (exact (World.cell?_alloc_lt _ _ _ (by first | omega | (simp <;> omega) | (simp only; omega))).trans (by assumption)) | go_simp | go_keep))
              clear hK K
              (try clear hHeld112)
              (try simp only [Act.put, List.setIfInBounds_toArray, List.set_cons_zero, List.set_cons_succ])
              refine wpAnyH_take (i := 4) (oi := { dst := some 18, op := _, type := _, pos := _, after := _, guard := _ }) (v := ?v114) rfl (by kernel_rfl) (by kernel_rfl) (by kernel_rfl) (fun _ _ _ h => h) (Or.inl ⟨by rfl, ?hy114⟩) (by first | assumption | exact hHeld113) ?rest114
              case hy114 => ((intro w0 hSw; (try dsimp only at hSw); go_simp) <;> with_reducible rfl)
              (try simp only [Act.put, List.setIfInBounds_toArray, List.set_cons_zero, List.set_cons_succ])
              have hs5 : (w13.alloc (.cells #[.int .i64 0, .int .i64 7, .int .i64 (1 + v1)] 3)).cell? ⟨w13.heap.size, j3, none⟩ = some (.int .i64 u3) := by have := own_lit w13 [0, 7, 1 + v1] (g + 1) 3 rfl (by omega) (by first | omega | (simp; omega)); (try simp only [World.size_alloc] at this); exact own_elem this HJ3.out
              refine wpAnyH_strong (S' := (fun w' => w'.cell? ⟨w13.heap.size, j3, none⟩ = some (.int .i64 u3) ∧ ((fun _ => True) w'))) (fun _ h => h.2) _ _ _ _ ?_
              have hHeld115 := And.intro hs5 hHeld113
              refine wpAnyH_take (i := 5) (oi := { dst := some 19, op := _, type := _, pos := _, after := _, guard := _ }) (v := ?v116) rfl (by kernel_rfl) (by kernel_rfl) (by kernel_rfl) (fun _ _ _ h => h) (Or.inl ⟨by rfl, ?hy116⟩) (by first | assumption | exact hHeld115) ?rest116
              case hy116 => ((intro w0 hSw; (try dsimp only at hSw); go_simp) <;> with_reducible rfl)
              (try simp only [Act.put, List.setIfInBounds_toArray, List.set_cons_zero, List.set_cons_succ])
              refine wpAnyH_take (i := 16) (oi := { dst := some 2, op := _, type := _, pos := _, after := _, guard := _ }) (v := ?v117) rfl (by kernel_rfl) (by kernel_rfl) (by kernel_rfl) (fun _ _ _ h => h) (Or.inl ⟨by rfl, ?hy117⟩) (by first | assumption | exact hHeld115) ?rest117
              case hy117 => ((intro w0 hSw; (try dsimp only at hSw); go_simp) <;> with_reducible rfl)
              (try simp only [Act.put, List.setIfInBounds_toArray, List.set_cons_zero, List.set_cons_succ])
              refine wpAnyH_ready (rs := [11]) (by kernel_rfl) (by simp) ?_
              refine AllReadyH.cons (o := { dst := some 25, op := _, type := _, pos := _, after := _, guard := _ }) rfl (fun K hK => ?_) ?_
              · go_simp
                refine hK.out _ _ ?_ (fun hHeld118 => ?_)
                · (try dsimp only)
                  all_goals (((repeat' apply And.intro) <;> first | trivial | assumption | (exact (World.cell?_alloc_lt _ _ _ (by first | omega | (simp <;> omega) | (simp only; omega))).trans (by assumption)) | go_simp | go_keep))
                clear hK K
                (try clear hHeld115)
                (try simp only [Act.put, List.setIfInBounds_toArray, List.set_cons_zero, List.set_cons_succ])
                refine wpAnyH_take (i := 14) (oi := { dst := some 28, op := _, type := _, pos := _, after := _, guard := _ }) (v := ?v119) rfl (by kernel_rfl) (by kernel_rfl) (by kernel_rfl) (fun _ _ _ h => h) (Or.inl ⟨by rfl, ?hy119⟩) (by first | assumption | exact hHeld118) ?rest119
                case hy119 => ((intro w0 hSw; (try dsimp only at hSw); go_simp) <;> with_reducible rfl)
                (try simp only [Act.put, List.setIfInBounds_toArray, List.set_cons_zero, List.set_cons_succ])
                have hs15 : ((w13.alloc (.cells #[.int .i64 0, .int .i64 7, .int .i64 (1 + v1)] 3)).alloc (.cells #[.int .i64 (-1), .int .i64 T, .int .i64 (T - 1)] 3)).cell? ⟨w13.heap.size + 1, j13, none⟩ = some (.int .i64 u13) := by have := own_lit (w13.alloc (.cells #[.int .i64 0, .int .i64 7, .int .i64 (1 + v1)] 3)) [-1, T, T - 1] (g + 1) 3 rfl (by omega) (by first | omega | (simp; omega)); (try simp only [World.size_alloc] at this); exact own_elem this HJ13.out
                refine wpAnyH_strong (S' := (fun w' => w'.cell? ⟨w13.heap.size + 1, j13, none⟩ = some (.int .i64 u13) ∧ ((fun w' => w'.cell? ⟨w13.heap.size, j3, none⟩ = some (.int .i64 u3) ∧ ((fun _ => True) w')) w'))) (fun _ h => h.2) _ _ _ _ ?_
                have hHeld120 := And.intro hs15 hHeld118
                refine wpAnyH_take (i := 15) (oi := { dst := some 29, op := _, type := _, pos := _, after := _, guard := _ }) (v := ?v121) rfl (by kernel_rfl) (by kernel_rfl) (by kernel_rfl) (fun _ _ _ h => h) (Or.inl ⟨by rfl, ?hy121⟩) (by first | assumption | exact hHeld120) ?rest121
                case hy121 => ((intro w0 hSw; (try dsimp only at hSw); go_simp) <;> with_reducible rfl)
                (try simp only [Act.put, List.setIfInBounds_toArray, List.set_cons_zero, List.set_cons_succ])
                refine wpAnyH_take (i := 17) (oi := { dst := some 3, op := _, type := _, pos := _, after := _, guard := _ }) (v := ?v122) rfl (by kernel_rfl) (by kernel_rfl) (by kernel_rfl) (fun _ _ _ h => h) (Or.inl ⟨by rfl, ?hy122⟩) (by first | assumption | exact hHeld120) ?rest122
                case hy122 => ((intro w0 hSw; (try dsimp only at hSw); go_simp) <;> with_reducible rfl)
                (try simp only [Act.put, List.setIfInBounds_toArray, List.set_cons_zero, List.set_cons_succ])
                refine wpAnyH_done (by kernel_rfl) ?_ _
                go_wp2
                go_ret2
                obtain ⟨m1, m2⟩ := mem_bd (a := 0) (b := 7) HJ3.out (by intro x hx; simp at hx; omega)
                obtain ⟨m3, m4⟩ := mem_bd (a := -1) (b := 1000000) HJ13.out (by intro x hx; simp at hx; omega)
                exact ⟨_, _, rfl, m1, m2, m3, m4, by have hh := HG0.out; rw [hh]; exact HB.out.trans ((base_in (((HG13.out).trans (World.grownBy_alloc _ (.cells #[.int .i64 0, .int .i64 7, .int .i64 (1 + v1)] 3) _)).trans (World.grownBy_alloc _ (.cells #[.int .i64 (-1), .int .i64 T, .int .i64 (T - 1)] 3) _)) (Nat.le_refl _) (by omega)))⟩
              exact AllReadyH.nil
            refine AllReadyH.cons (o := { dst := some 25, op := _, type := _, pos := _, after := _, guard := _ }) rfl (fun K hK => ?_) ?_
            · go_simp
              refine hK.out _ _ ?_ (fun hHeld123 => ?_)
              · (try dsimp only)
                all_goals (((repeat' apply And.intro) <;> first | trivial | assumption | (exact (World.cell?_alloc_lt _ _ _ (by first | omega | (simp <;> omega) | (simp only; omega))).trans (by assumption)) | go_simp | go_keep))
              clear hK K
              (try clear hHeld112)
              (try simp only [Act.put, List.setIfInBounds_toArray, List.set_cons_zero, List.set_cons_succ])
              refine wpAnyH_take (i := 14) (oi := { dst := some 28, op := _, type := _, pos := _, after := _, guard := _ }) (v := ?v124) rfl (by kernel_rfl) (by kernel_rfl) (by kernel_rfl) (fun _ _ _ h => h) (Or.inl ⟨by rfl, ?hy124⟩) (by first | assumption | exact hHeld123) ?rest124
              case hy124 => ((intro w0 hSw; (try dsimp only at hSw); go_simp) <;> with_reducible rfl)
              (try simp only [Act.put, List.setIfInBounds_toArray, List.set_cons_zero, List.set_cons_succ])
              have hs15 : (w13.alloc (.cells #[.int .i64 (-1), .int .i64 T, .int .i64 (T - 1)] 3)).cell? ⟨w13.heap.size, j13, none⟩ = some (.int .i64 u13) := by have := own_lit w13 [-1, T, T - 1] (g + 1) 3 rfl (by omega) (by first | omega | (simp; omega)); (try simp only [World.size_alloc] at this); exact own_elem this HJ13.out
              refine wpAnyH_strong (S' := (fun w' => w'.cell? ⟨w13.heap.size, j13, none⟩ = some (.int .i64 u13) ∧ ((fun _ => True) w'))) (fun _ h => h.2) _ _ _ _ ?_
              have hHeld125 := And.intro hs15 hHeld123
              refine wpAnyH_take (i := 15) (oi := { dst := some 29, op := _, type := _, pos := _, after := _, guard := _ }) (v := ?v126) rfl (by kernel_rfl) (by kernel_rfl) (by kernel_rfl) (fun _ _ _ h => h) (Or.inl ⟨by rfl, ?hy126⟩) (by first | assumption | exact hHeld125) ?rest126
              case hy126 => ((intro w0 hSw; (try dsimp only at hSw); go_simp) <;> with_reducible rfl)
              (try simp only [Act.put, List.setIfInBounds_toArray, List.set_cons_zero, List.set_cons_succ])
              refine wpAnyH_ready (rs := [1]) (by kernel_rfl) (by simp) ?_
              refine AllReadyH.cons (o := { dst := some 15, op := _, type := _, pos := _, after := _, guard := _ }) rfl (fun K hK => ?_) ?_
              · go_simp
                refine hK.out _ _ ?_ (fun hHeld127 => ?_)
                · (try dsimp only)
                  all_goals (((repeat' apply And.intro) <;> first | trivial | assumption | (exact (World.cell?_alloc_lt _ _ _ (by first | omega | (simp <;> omega) | (simp only; omega))).trans (by assumption)) | go_simp | go_keep))
                clear hK K
                (try clear hHeld125)
                (try simp only [Act.put, List.setIfInBounds_toArray, List.set_cons_zero, List.set_cons_succ])
                refine wpAnyH_take (i := 4) (oi := { dst := some 18, op := _, type := _, pos := _, after := _, guard := _ }) (v := ?v128) rfl (by kernel_rfl) (by kernel_rfl) (by kernel_rfl) (fun _ _ _ h => h) (Or.inl ⟨by rfl, ?hy128⟩) (by first | assumption | exact hHeld127) ?rest128
                case hy128 => ((intro w0 hSw; (try dsimp only at hSw); go_simp) <;> with_reducible rfl)
                (try simp only [Act.put, List.setIfInBounds_toArray, List.set_cons_zero, List.set_cons_succ])
                have hs5 : ((w13.alloc (.cells #[.int .i64 (-1), .int .i64 T, .int .i64 (T - 1)] 3)).alloc (.cells #[.int .i64 0, .int .i64 7, .int .i64 (1 + v1)] 3)).cell? ⟨w13.heap.size + 1, j3, none⟩ = some (.int .i64 u3) := by have := own_lit (w13.alloc (.cells #[.int .i64 (-1), .int .i64 T, .int .i64 (T - 1)] 3)) [0, 7, 1 + v1] (g + 1) 3 rfl (by omega) (by first | omega | (simp; omega)); (try simp only [World.size_alloc] at this); exact own_elem this HJ3.out
                refine wpAnyH_strong (S' := (fun w' => w'.cell? ⟨w13.heap.size + 1, j3, none⟩ = some (.int .i64 u3) ∧ ((fun w' => w'.cell? ⟨w13.heap.size, j13, none⟩ = some (.int .i64 u13) ∧ ((fun _ => True) w')) w'))) (fun _ h => h.2) _ _ _ _ ?_
                have hHeld129 := And.intro hs5 hHeld127
                refine wpAnyH_take (i := 5) (oi := { dst := some 19, op := _, type := _, pos := _, after := _, guard := _ }) (v := ?v130) rfl (by kernel_rfl) (by kernel_rfl) (by kernel_rfl) (fun _ _ _ h => h) (Or.inl ⟨by rfl, ?hy130⟩) (by first | assumption | exact hHeld129) ?rest130
                case hy130 => ((intro w0 hSw; (try dsimp only at hSw); go_simp) <;> with_reducible rfl)
                (try simp only [Act.put, List.setIfInBounds_toArray, List.set_cons_zero, List.set_cons_succ])
                refine wpAnyH_take (i := 16) (oi := { dst := some 2, op := _, type := _, pos := _, after := _, guard := _ }) (v := ?v131) rfl (by kernel_rfl) (by kernel_rfl) (by kernel_rfl) (fun _ _ _ h => h) (Or.inl ⟨by rfl, ?hy131⟩) (by first | assumption | exact hHeld129) ?rest131
                case hy131 => ((intro w0 hSw; (try dsimp only at hSw); go_simp) <;> with_reducible rfl)
                (try simp only [Act.put, List.setIfInBounds_toArray, List.set_cons_zero, List.set_cons_succ])
                refine wpAnyH_take (i := 17) (oi := { dst := some 3, op := _, type := _, pos := _, after := _, guard := _ }) (v := ?v132) rfl (by kernel_rfl) (by kernel_rfl) (by kernel_rfl) (fun _ _ _ h => h) (Or.inl ⟨by rfl, ?hy132⟩) (by first | assumption | exact hHeld129) ?rest132
                case hy132 => ((intro w0 hSw; (try dsimp only at hSw); go_simp) <;> with_reducible rfl)
                (try simp only [Act.put, List.setIfInBounds_toArray, List.set_cons_zero, List.set_cons_succ])
                refine wpAnyH_done (by kernel_rfl) ?_ _
                go_wp2
                go_ret2
                obtain ⟨m1, m2⟩ := mem_bd (a := 0) (b := 7) HJ3.out (by intro x hx; simp at hx; omega)
                obtain ⟨m3, m4⟩ := mem_bd (a := -1) (b := 1000000) HJ13.out (by intro x hx; simp at hx; omega)
                exact ⟨_, _, rfl, m1, m2, m3, m4, by have hh := HG0.out; rw [hh]; exact HB.out.trans ((base_in (((HG13.out).trans (World.grownBy_alloc _ (.cells #[.int .i64 (-1), .int .i64 T, .int .i64 (T - 1)] 3) _)).trans (World.grownBy_alloc _ (.cells #[.int .i64 0, .int .i64 7, .int .i64 (1 + v1)] 3) _)) (Nat.le_refl _) (by omega)))⟩
              exact AllReadyH.nil
            exact AllReadyH.nil
          exact AllReadyH.nil
        exact AllReadyH.nil
      exact AllReadyH.nil
    exact AllReadyH.nil
  · have h0' : (v2 == 0) = false := by simpa using h0
    have hne : ¬ T = 0 := by omega
    have T2 : (T == 0) = false := by simp; omega
    go_wp2_with fail
    refine wp_region_held_drew (S := (fun _ => True)) (by kernel_rfl) ?_ (fun hHeld => ?_)
    · (try dsimp only)
      all_goals (((repeat' apply And.intro) <;> first | trivial | assumption | (exact (World.cell?_alloc_lt _ _ _ (by first | omega | (simp <;> omega) | (simp only; omega))).trans (by assumption)) | go_simp | go_keep))
    refine wpAnyH_take (i := 0) (oi := { dst := some 30, op := _, type := _, pos := _, after := _, guard := _ }) (v := ?v9001) rfl (by kernel_rfl) (by kernel_rfl) (by kernel_rfl) (fun _ _ _ h => h) (Or.inl ⟨by rfl, ?hy9001⟩) (by first | assumption | exact hHeld) ?rest9001
    case hy9001 => ((intro w0 hSw; (try dsimp only at hSw); go_simp) <;> with_reducible rfl)
    (try simp only [Act.put, List.setIfInBounds_toArray, List.set_cons_zero, List.set_cons_succ])
    refine wpAnyH_take (i := 1) (oi := { dst := some 31, op := _, type := _, pos := _, after := _, guard := _ }) (v := ?v9002) rfl (by kernel_rfl) (by kernel_rfl) (by kernel_rfl) (fun _ _ _ h => h) (Or.inl ⟨by rfl, ?hy9002⟩) (by first | assumption | exact hHeld) ?rest9002
    case hy9002 => ((intro w0 hSw; (try dsimp only at hSw); go_simp) <;> with_reducible rfl)
    (try simp only [Act.put, List.setIfInBounds_toArray, List.set_cons_zero, List.set_cons_succ])
    refine wpAnyH_take (i := 3) (oi := { dst := some 33, op := _, type := _, pos := _, after := _, guard := _ }) (v := ?v9003) rfl (by kernel_rfl) (by kernel_rfl) (by kernel_rfl) (fun _ _ _ h => h) (Or.inl ⟨by rfl, ?hy9003⟩) (by first | assumption | exact hHeld) ?rest9003
    case hy9003 => ((intro w0 hSw; (try dsimp only at hSw); go_simp) <;> with_reducible rfl)
    (try simp only [Act.put, List.setIfInBounds_toArray, List.set_cons_zero, List.set_cons_succ])
    refine wpAnyH_ready (rs := [2]) (by kernel_rfl) (by simp) ?_
    refine AllReadyH.cons (o := { dst := some 32, op := _, type := _, pos := _, after := _, guard := _ }) rfl (fun K hK => ?_) ?_
    · go_simp
      refine (pick_any _ _ _ _ _ (HR.out).drew (by omega)).mono ?_
      rintro e wb2 ⟨v2, rfl, hv2, hrd2, hg2'⟩
      obtain ⟨hva2, hvb2⟩ := hv2 (by omega)
      clear hv2
      have hg2 : (w2).grownBy wb2 (some g) := ⟨hg2'.os, hg2'.tape, hg2'.output, hg2'.size, hg2'.block⟩
      have hsz2 := hg2.size
      (try simp only [World.size_alloc] at hsz2)
      have HRb2 := Lib.hid hrd2
      have HGb2 := Lib.hid ((HG.out).trans hg2)
      clear hrd2 hg2 hg2'
      skip
      (try go_wp2_with fail)
      refine hK.out _ _ ?_ (fun hHeld9004 => ?_)
      · (try dsimp only)
        all_goals (((repeat' apply And.intro) <;> first | trivial | assumption | (exact (World.cell?_alloc_lt _ _ _ (by first | omega | (simp <;> omega) | (simp only; omega))).trans (by assumption)) | go_simp | go_keep))
      clear hK K
      (try clear hHeld)
      (try simp only [Act.put, List.setIfInBounds_toArray, List.set_cons_zero, List.set_cons_succ])
      refine wpAnyH_ready (rs := [4]) (by kernel_rfl) (by simp) ?_
      refine AllReadyH.cons (o := { dst := some 34, op := _, type := _, pos := _, after := _, guard := _ }) rfl (fun K hK => ?_) ?_
      · go_simp
        refine (l5Ten_at HK.out hK6 HT.out _).mono ?_
        rintro e w9 ⟨rfl, hw9⟩
        subst hw9
        (try go_wp2_with fail)
        refine hK.out _ _ ?_ (fun hHeld9005 => ?_)
        · (try dsimp only)
          all_goals (((repeat' apply And.intro) <;> first | trivial | assumption | (exact (World.cell?_alloc_lt _ _ _ (by first | omega | (simp <;> omega) | (simp only; omega))).trans (by assumption)) | go_simp | go_keep))
        clear hK K
        (try clear hHeld9004)
        (try simp only [Act.put, List.setIfInBounds_toArray, List.set_cons_zero, List.set_cons_succ])
        refine wpAnyH_take (i := 5) (oi := { dst := some 35, op := _, type := _, pos := _, after := _, guard := _ }) (v := ?v9006) rfl (by kernel_rfl) (by kernel_rfl) (by kernel_rfl) (fun _ _ _ h => h) (Or.inl ⟨by rfl, ?hy9006⟩) (by first | assumption | exact hHeld9005) ?rest9006
        case hy9006 => ((intro w0 hSw; (try dsimp only at hSw); go_simp) <;> with_reducible rfl)
        (try simp only [Act.put, List.setIfInBounds_toArray, List.set_cons_zero, List.set_cons_succ])
        refine wpAnyH_take (i := 6) (oi := { dst := some 2, op := _, type := _, pos := _, after := _, guard := _ }) (v := ?v9007) rfl (by kernel_rfl) (by kernel_rfl) (by kernel_rfl) (fun _ _ _ h => h) (Or.inl ⟨by rfl, ?hy9007⟩) (by first | assumption | exact hHeld9005) ?rest9007
        case hy9007 => ((intro w0 hSw; (try dsimp only at hSw); go_simp) <;> with_reducible rfl)
        (try simp only [Act.put, List.setIfInBounds_toArray, List.set_cons_zero, List.set_cons_succ])
        refine wpAnyH_take (i := 7) (oi := { dst := some 3, op := _, type := _, pos := _, after := _, guard := _ }) (v := ?v9008) rfl (by kernel_rfl) (by kernel_rfl) (by kernel_rfl) (fun _ _ _ h => h) (Or.inl ⟨by rfl, ?hy9008⟩) (by first | assumption | exact hHeld9005) ?rest9008
        case hy9008 => ((intro w0 hSw; (try dsimp only at hSw); go_simp) <;> with_reducible rfl)
        (try simp only [Act.put, List.setIfInBounds_toArray, List.set_cons_zero, List.set_cons_succ])
        refine wpAnyH_done (by kernel_rfl) ?_ _
        go_wp2
        go_ret2
        have hr0 : 0 ≤ v2.tmod T := Int.tmod_nonneg _ hva2
        have hr1 : v2.tmod T < T := Int.tmod_lt_of_pos _ (by omega)
        exact ⟨_, _, rfl, by omega, by omega, by omega, by omega, by have hh := HG0.out; rw [hh]; exact HB.out.trans ((base_in (HGb2.out) (Nat.le_refl _) (by omega)))⟩
      exact AllReadyH.nil
    exact AllReadyH.nil
end Go.Proofs.Ytpaepdlkjblfgaa
