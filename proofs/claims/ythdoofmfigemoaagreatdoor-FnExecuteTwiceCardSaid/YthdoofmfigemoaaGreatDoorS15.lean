/-
  Joined texts.
-/
import Derived.Test.YthdoofmfigemoaaGreatDoorS11
import Derived.Test.YthdoofmfigemoaaGreatDoorS12
import Derived.Test.YthdoofmfigemoaaGreatDoorS13
set_option linter.unusedSimpArgs false
set_option linter.unusedVariables false
set_option maxRecDepth 100000
set_option maxHeartbeats 4000000
namespace Go.Proofs.YthdoofmfigemoaaGreatDoor
open Go.RowKit
theorem tl_grow (T : List UInt8) (t : Tl) : ((((((bs T ++ dec t.a) ++ ⟨#[62]⟩) ++ dec t.c) ++ ⟨#[32]⟩) ++ t.s) ++ ⟨#[10]⟩) = bs (T ++ tlLine t) := by
 rw [← bs_append, ← tlLine_eq]
 simp only [ByteArray.append_assoc]
theorem l6Dec_int (v : Int) (h0 : 0 ≤ v) (h1 : v ≤ 1000000000000000) (w : World) : Calls Tryz.prog 53 #[.int .i64 v] w fun e w' => e = .returned (.string (dec v)) ∧ Below w.heap.size w w' := by
 obtain ⟨n, rfl⟩ := Int.eq_ofNat_of_zero_le h0
 exact l6Dec_any n (by omega) w
theorem l9Tallies_any (A : Option Addr) (n c : Nat) (ts : List Tl) (w : World) (hr : Tals w w.heap.size A n ts) (h12 : ts.length ≤ 12) (hta : ∀ t ∈ ts, Told t) :
  Calls Tryz.prog 178 #[.slice A n c] w fun e w' => e = .returned (.string (bs (tlText ts))) ∧ Below w.heap.size w w' := by
 have hnt : ts.length = n := hr.len
 have HI := Hd hr
 have HN := Hd (And.intro hnt (And.intro h12 hta))
 have hn0 : (0 : Int) ≤ (n : Int) := by omega
 have hn9 : (n : Int) ≤ 12 := by omega
 clear hr hnt h12 hta
 go_enter Tryz.func178, Tryz.ntmps178
 go_wp2_with fail
 go_loopw [3, 4] (fun ov iv wr => ∃ (i : Nat), i ≤ n ∧ iv = .int .i64 (i : Int) ∧ ov = .string (bs (tlText (ts.take i))) ∧ Below w.heap.size w wr) (fun _ iv _ => n - (intOf iv).toNat)
 case atStart => exact ⟨0, by omega, rfl, rfl, Below.refl _ _⟩
 case round =>
  obtain ⟨i, hi, rfl, rfl, hbel⟩ := hrel
  have hsz := hbel.size
  by_cases hlt : i < n
  ·obtain ⟨bk, off, t, rfl, hbk, ht, k0, k1, k2, k3⟩ := HI.out.at_ hlt
   have hto := HN.out.2.2 t (List.mem_of_getElem? ht)
   have m0 := (hbel.cell (p := ⟨bk, off + i * 4, none⟩) hbk).trans k0
   have m1 := (hbel.cell (p := ⟨bk, off + i * 4 + 1, none⟩) hbk).trans k1
   have m2 := (hbel.cell (p := ⟨bk, off + i * 4 + 2, none⟩) hbk).trans k2
   have hi0 : (0 : Int) ≤ (i : Int) := by omega
   have hi1 : (i : Int) < (n : Int) := by omega
   have hLEN : (tlText (ts.take i)).length ≤ 1080 := by
    have h1 := tlText_len (ts := ts.take i) (fun u hu => HN.out.2.2 u (List.mem_of_mem_take hu))
    have e2 : (ts.take i).length ≤ 12 := by have := HN.out.1; have := HN.out.2.1; rw [List.length_take]; omega
    omega
   obtain ⟨a0, a1, b0, b1, hs⟩ := hto
   have hgrow := tl_grow (tlText (ts.take i)) t
   have hT : (bs (tlText (ts.take i))).size ≤ 1080 := by
    have e : (bs (tlText (ts.take i))).size = (tlText (ts.take i)).length := by show (tlText (ts.take i)).toArray.size = _; simp
    omega
   have hnext : tlText (ts.take i) ++ tlLine t = tlText (ts.take (i + 1)) := by rw [take_next ht, tlText_snoc]
   rw [hnext] at hgrow
   obtain ⟨T, hTT⟩ : ∃ T, bs (tlText (ts.take i)) = T := ⟨_, rfl⟩
   rw [hTT] at hT hgrow ⊢
   have d1 := dec_size t.a (by omega) (by omega)
   have d2 := dec_size t.c (by omega) (by omega)
   have l1 := no_long (n := T.size) (by omega) (dec t.a).size (by omega)
   have l2 := no_long (n := T.size + (dec t.a).size) (by omega) 1 (by omega)
   have l3 := no_long (n := T.size + (dec t.a).size + 1) (by omega) (dec t.c).size (by omega)
   have l4 := no_long (n := T.size + (dec t.a).size + 1 + (dec t.c).size) (by omega) 1 (by omega)
   have l5 := no_long (n := T.size + (dec t.a).size + 1 + (dec t.c).size + 1) (by omega) t.s.size (by omega)
   have l6 := no_long (n := T.size + (dec t.a).size + 1 + (dec t.c).size + 1 + t.s.size) (by omega) 1 (by omega)
   have HG := Hd hgrow
   have HB := Hd hbel
   have HD1 := Hd (fun w => l6Dec_int t.a (by omega) (by omega) w)
   have HD2 := Hd (fun w => l6Dec_int t.c (by omega) (by omega) w)
   have hbw : bk < wr.heap.size := by omega
   clear hbel ht k0 k1 k2 k3 hLEN hTT hnext hgrow
   go_wp2_with fail
   refine wp_region_held_drew (S := (fun w' => w'.cell? ⟨bk, off + i * 4, none⟩ = some (.int .i64 t.a) ∧ w'.cell? ⟨bk, off + i * 4 + 1, none⟩ = some (.int .i64 t.c) ∧ w'.cell? ⟨bk, off + i * 4 + 2, none⟩ = some (.string t.s))) (by kernel_rfl) ?_ (fun hHeld => ?_)
   ·(try dsimp only)
    all_goals (first | (refine ⟨?_, ?_, ?_⟩ <;> go_simp) | go_keep)
   refine Tk 0 (some 11) (v := ?v1) rfl (Or.inl ⟨by rfl, ?hy1⟩) (by first | assumption | exact hHeld) ?rest1
   case hy1 => ((intro w0 hSw; (try dsimp only at hSw); go_simp) <;> with_reducible rfl)
   (try simp only [Tp0, Tp1, Tp2, Tp3, Tp4])
   refine Tk 1 (some 12) (v := ?v2) rfl (Or.inl ⟨by rfl, ?hy2⟩) (by first | assumption | exact hHeld) ?rest2
   case hy2 => ((intro w0 hSw; (try dsimp only at hSw); go_simp) <;> with_reducible rfl)
   (try simp only [Tp0, Tp1, Tp2, Tp3, Tp4])
   refine Tk 2 (some 13) (v := ?v3) rfl (Or.inl ⟨by rfl, ?hy3⟩) (by first | assumption | exact hHeld) ?rest3
   case hy3 => ((intro w0 hSw; (try dsimp only at hSw); go_simp) <;> with_reducible rfl)
   (try simp only [Tp0, Tp1, Tp2, Tp3, Tp4])
   refine Tk 3 (some 14) (v := ?v4) rfl (Or.inl ⟨by rfl, ?hy4⟩) (by first | assumption | exact hHeld) ?rest4
   case hy4 => ((intro w0 hSw; (try dsimp only at hSw); go_simp) <;> with_reducible rfl)
   (try simp only [Tp0, Tp1, Tp2, Tp3, Tp4])
   refine Tk 4 (some 15) (v := ?v5) rfl (Or.inl ⟨by rfl, ?hy5⟩) (by first | assumption | exact hHeld) ?rest5
   case hy5 => ((intro w0 hSw; (try dsimp only at hSw); go_simp) <;> with_reducible rfl)
   (try simp only [Tp0, Tp1, Tp2, Tp3, Tp4])
   refine Tk 5 (some 16) (v := ?v6) rfl (Or.inl ⟨by rfl, ?hy6⟩) (by first | assumption | exact hHeld) ?rest6
   case hy6 => ((intro w0 hSw; (try dsimp only at hSw); go_simp) <;> with_reducible rfl)
   (try simp only [Tp0, Tp1, Tp2, Tp3, Tp4])
   refine Tk 9 (some 20) (v := ?v7) rfl (Or.inl ⟨by rfl, ?hy7⟩) (by first | assumption | exact hHeld) ?rest7
   case hy7 => ((intro w0 hSw; (try dsimp only at hSw); go_simp) <;> with_reducible rfl)
   (try simp only [Tp0, Tp1, Tp2, Tp3, Tp4])
   refine Tk 10 (some 21) (v := ?v8) rfl (Or.inl ⟨by rfl, ?hy8⟩) (by first | assumption | exact hHeld) ?rest8
   case hy8 => ((intro w0 hSw; (try dsimp only at hSw); go_simp) <;> with_reducible rfl)
   (try simp only [Tp0, Tp1, Tp2, Tp3, Tp4])
   refine Tk 11 (some 22) (v := ?v9) rfl (Or.inl ⟨by rfl, ?hy9⟩) (by first | assumption | exact hHeld) ?rest9
   case hy9 => ((intro w0 hSw; (try dsimp only at hSw); go_simp) <;> with_reducible rfl)
   (try simp only [Tp0, Tp1, Tp2, Tp3, Tp4])
   refine Tk 12 (some 23) (v := ?v10) rfl (Or.inl ⟨by rfl, ?hy10⟩) (by first | assumption | exact hHeld) ?rest10
   case hy10 => ((intro w0 hSw; (try dsimp only at hSw); go_simp) <;> with_reducible rfl)
   (try simp only [Tp0, Tp1, Tp2, Tp3, Tp4])
   refine Tk 13 (some 24) (v := ?v11) rfl (Or.inl ⟨by rfl, ?hy11⟩) (by first | assumption | exact hHeld) ?rest11
   case hy11 => ((intro w0 hSw; (try dsimp only at hSw); go_simp) <;> with_reducible rfl)
   (try simp only [Tp0, Tp1, Tp2, Tp3, Tp4])
   refine Tk 17 (some 28) (v := ?v12) rfl (Or.inl ⟨by rfl, ?hy12⟩) (by first | assumption | exact hHeld) ?rest12
   case hy12 => ((intro w0 hSw; (try dsimp only at hSw); go_simp) <;> with_reducible rfl)
   (try simp only [Tp0, Tp1, Tp2, Tp3, Tp4])
   refine Tk 18 (some 29) (v := ?v13) rfl (Or.inl ⟨by rfl, ?hy13⟩) (by first | assumption | exact hHeld) ?rest13
   case hy13 => ((intro w0 hSw; (try dsimp only at hSw); go_simp) <;> with_reducible rfl)
   (try simp only [Tp0, Tp1, Tp2, Tp3, Tp4])
   refine Tk 19 (some 30) (v := ?v14) rfl (Or.inl ⟨by rfl, ?hy14⟩) (by first | assumption | exact hHeld) ?rest14
   case hy14 => ((intro w0 hSw; (try dsimp only at hSw); go_simp) <;> with_reducible rfl)
   (try simp only [Tp0, Tp1, Tp2, Tp3, Tp4])
   refine Tk 20 (some 31) (v := ?v15) rfl (Or.inl ⟨by rfl, ?hy15⟩) (by first | assumption | exact hHeld) ?rest15
   case hy15 => ((intro w0 hSw; (try dsimp only at hSw); go_simp) <;> with_reducible rfl)
   (try simp only [Tp0, Tp1, Tp2, Tp3, Tp4])
   refine Tk 21 (some 32) (v := ?v16) rfl (Or.inl ⟨by rfl, ?hy16⟩) (by first | assumption | exact hHeld) ?rest16
   case hy16 => ((intro w0 hSw; (try dsimp only at hSw); go_simp) <;> with_reducible rfl)
   (try simp only [Tp0, Tp1, Tp2, Tp3, Tp4])
   refine wpAnyH_ready (rs := [6]) (by kernel_rfl) (by simp) ?_
   refine AllReadyH.cons (o := ⟨some 17, _, _, _, _, _⟩) rfl (fun K hK => ?_) ?_
   ·go_simp
    refine (HD1.out _).mono ?_
    rintro e w5 ⟨rfl, hb5'⟩
    have hb5 := (Below.refl wr.heap.size wr).drew.trans hb5'
    have n0 := (hb5.cell (p := ⟨bk, off + i * 4, none⟩) hbw).trans m0
    have n1 := (hb5.cell (p := ⟨bk, off + i * 4 + 1, none⟩) hbw).trans m1
    have n2 := (hb5.cell (p := ⟨bk, off + i * 4 + 2, none⟩) hbw).trans m2
    have HB5 := Hd hb5
    clear hb5 hb5'
    (try go_wp2_with fail)
    refine hK.out _ _ ?_ (fun hHeld17 => ?_)
    ·(try dsimp only)
     all_goals (first | (refine ⟨?_, ?_, ?_⟩ <;> go_simp) | go_keep)
    clear hK K
    (try clear hHeld)
    (try simp only [Tp0, Tp1, Tp2, Tp3, Tp4])
    refine Tk 7 (some 18) (v := ?v18) rfl (Or.inl ⟨by rfl, ?hy18⟩) (by first | assumption | exact hHeld17) ?rest18
    case hy18 => ((intro w0 hSw; (try dsimp only at hSw); go_simp) <;> with_reducible rfl)
    (try simp only [Tp0, Tp1, Tp2, Tp3, Tp4])
    refine Tk 8 (some 19) (v := ?v19) rfl (Or.inl ⟨by rfl, ?hy19⟩) (by first | assumption | exact hHeld17) ?rest19
    case hy19 => ((intro w0 hSw; (try dsimp only at hSw); go_simp) <;> with_reducible rfl)
    (try simp only [Tp0, Tp1, Tp2, Tp3, Tp4])
    refine wpAnyH_ready (rs := [14]) (by kernel_rfl) (by simp) ?_
    refine AllReadyH.cons (o := ⟨some 25, _, _, _, _, _⟩) rfl (fun K hK => ?_) ?_
    ·go_simp
     refine (HD2.out _).mono ?_
     rintro e w6 ⟨rfl, hb6'⟩
     have hb6 := HB5.out.trans (hb6'.mono HB5.out.size)
     have p0 := (hb6.cell (p := ⟨bk, off + i * 4, none⟩) hbw).trans m0
     have p1 := (hb6.cell (p := ⟨bk, off + i * 4 + 1, none⟩) hbw).trans m1
     have p2 := (hb6.cell (p := ⟨bk, off + i * 4 + 2, none⟩) hbw).trans m2
     have HB6 := Hd (HB.out.trans (hb6.mono HB.out.size))
     clear hb6 hb6'
     (try go_wp2_with fail)
     refine hK.out _ _ ?_ (fun hHeld20 => ?_)
     ·(try dsimp only)
      all_goals (first | (refine ⟨?_, ?_, ?_⟩ <;> go_simp) | go_keep)
     clear hK K
     (try clear hHeld17)
     (try simp only [Tp0, Tp1, Tp2, Tp3, Tp4])
     refine Tk 15 (some 26) (v := ?v21) rfl (Or.inl ⟨by rfl, ?hy21⟩) (by first | assumption | exact hHeld20) ?rest21
     case hy21 => ((intro w0 hSw; (try dsimp only at hSw); go_simp) <;> with_reducible rfl)
     (try simp only [Tp0, Tp1, Tp2, Tp3, Tp4])
     refine Tk 16 (some 27) (v := ?v22) rfl (Or.inl ⟨by rfl, ?hy22⟩) (by first | assumption | exact hHeld20) ?rest22
     case hy22 => ((intro w0 hSw; (try dsimp only at hSw); go_simp) <;> with_reducible rfl)
     (try simp only [Tp0, Tp1, Tp2, Tp3, Tp4])
     refine Tk 22 (some 33) (v := ?v23) rfl (Or.inl ⟨by rfl, ?hy23⟩) (by first | assumption | exact hHeld20) ?rest23
     case hy23 => ((intro w0 hSw; (try dsimp only at hSw); go_simp) <;> with_reducible rfl)
     (try simp only [Tp0, Tp1, Tp2, Tp3, Tp4])
     refine Tk 23 (some 34) (v := ?v24) rfl (Or.inl ⟨by rfl, ?hy24⟩) (by first | assumption | exact hHeld20) ?rest24
     case hy24 => ((intro w0 hSw; (try dsimp only at hSw); go_simp) <;> with_reducible rfl)
     (try simp only [Tp0, Tp1, Tp2, Tp3, Tp4])
     refine Tk 24 (some 3) (v := ?v25) rfl (Or.inl ⟨by rfl, ?hy25⟩) (by first | assumption | exact hHeld20) ?rest25
     case hy25 => ((intro w0 hSw; (try dsimp only at hSw); go_simp) <;> with_reducible rfl)
     (try simp only [Tp0, Tp1, Tp2, Tp3, Tp4])
     refine wpAnyH_done (by kernel_rfl) ?_ _
     go_wp2_with fail
     exact ⟨⟨i + 1, by omega, by go_num, by rw [HG.out], HB6.out⟩, by simp [intOf]; omega⟩
    exact AllReadyH.nil
   exact AllReadyH.nil
  ·obtain rfl : i = n := by omega
   have htk : ts.take i = ts := List.take_of_length_le (by have := HN.out.1; omega)
   rw [htk]
   have HB := Hd hbel
   clear hbel htk
   go_wp2_with fail
   go_ret
   exact ⟨rfl, HB.out⟩
theorem worthB_txt {n : Nat} (h : n ≤ 9999) : worthB (txt (Ta.ntext n)) = (n : Int) := by unfold worthB; rw [txt_list, Ta.worth_ntext h]; rfl
theorem validB_txt {n : Nat} (h : n ≤ 9999) : validB (txt (Ta.ntext n)) = true := by unfold validB; rw [txt_list, Ta.worth_ntext h]; rfl
theorem tallyOf_ok {a c v : Int} (h : DebtOk a c v) : okB (tallyOf a c v) = true ∧ debtOf (tallyOf a c v) = ⟨a, c, v⟩ := by
 obtain ⟨h1, h2, h3⟩ := h
 obtain ⟨n, rfl⟩ := Int.eq_ofNat_of_zero_le (show 0 ≤ v by omega)
 have hw := worthB_txt (n := n) (by omega)
 have hv := validB_txt (n := n) (by omega)
 refine ⟨?_, ?_⟩
 ·simp only [okB, matchB, tallyOf, Int.toNat_natCast, hw, hv, twoB_yes h1, Bool.true_and, Bool.and_true, decide_true, decide_eq_true_eq]
  exact h2
 ·simp only [debtOf, tallyOf, Int.toNat_natCast, hw]
def payD (t : Nat × Nat × Int) : Db := ⟨(t.1 : Int), (t.2.1 : Int), t.2.2⟩
theorem bal_eff : ∀ (out : List (Nat × Nat × Int)) (b : List Int), b.length = 5 → (∀ t ∈ out, t.1 < 5 ∧ t.2.1 < 5) → ∀ p, p < 5 → ((out.map payD).foldl upd b).getD p 0 = b.getD p 0 + Ta.eff out p
 | [], b, _, _, p, _ => by simp [Ta.eff]
 | (l, h, n) :: r, b, hl, hs, p, hp => by
  obtain ⟨h1, h2⟩ := hs (l, h, n) List.mem_cons_self
  have ih := bal_eff r (upd b (payD (l, h, n))) (by rw [upd_length, hl]) (fun t ht => hs t (List.mem_cons_of_mem _ ht)) p hp
  rw [List.map_cons, List.foldl_cons, ih]
  simp only at h1 h2
  have e : (upd b (payD (l, h, n))).getD p 0 = b.getD p 0 + ((if p = h then n else 0) - (if p = l then n else 0)) := by
   simp only [upd, payD, Int.toNat_natCast]
   rw [Ta.getD_set _ _ _ _ (by rw [List.length_set, hl]; omega), Ta.getD_set _ _ _ _ (by omega), Ta.getD_set _ _ _ _ (by omega)]
   by_cases e1 : p = h
   ·subst e1
    rw [if_pos rfl, if_pos rfl]
    by_cases e2 : p = l
    ·subst e2; rw [if_pos rfl, if_pos rfl]; omega
    ·rw [if_neg e2, if_neg e2]; omega
   ·rw [if_neg e1, if_neg e1]
    by_cases e2 : p = l
    ·subst e2; rw [if_pos rfl, if_pos rfl]; omega
    ·rw [if_neg e2, if_neg e2]; omega
  rw [e]
  simp only [Ta.eff]
  omega
theorem total_all : ∀ (out : List (Nat × Nat × Int)) (a : Int), (out.map payD).foldl (fun a d => a + d.v) a = a + Ta.all out
 | [], a => by simp [Ta.all]
 | (l, h, n) :: r, a => by
  rw [List.map_cons, List.foldl_cons, total_all r]
  simp only [payD, Ta.all]
  omega
theorem pos_upd {b : List Int} {d : Db} (hl : b.length = 5) (ht : Two d.a d.c) (hv : 0 ≤ d.v) : Ta.pos (upd b d) ≤ Ta.pos b + d.v := by
 obtain ⟨t0, t1, t2, t3, t4⟩ := ht
 unfold Ta.pos upd
 rw [Ta.tot_set _ _ _ _ (by rw [List.length_set, hl]; omega), Ta.tot_set _ _ _ _ (by omega)]
 omega
theorem pos_total : ∀ (ds : List Db) (b : List Int) (a : Int), b.length = 5 → (∀ d ∈ ds, Two d.a d.c ∧ 0 ≤ d.v ∧ d.v ≤ 36000) → Ta.pos b ≤ a → Ta.pos (ds.foldl upd b) ≤ ds.foldl (fun a d => a + d.v) a
 | [], _, _, _, _, h => h
 | d :: ds, b, a, hl, hs, h => by
  obtain ⟨h1, h2, h3⟩ := hs d List.mem_cons_self
  rw [List.foldl_cons, List.foldl_cons]
  exact pos_total ds _ _ (by rw [upd_length, hl]) (fun x hx => hs x (List.mem_cons_of_mem _ hx)) (by have := pos_upd hl h1 h2; omega)
theorem ext5 {b c : List Int} (hb : b.length = 5) (hc : c.length = 5) (h : ∀ p, p < 5 → b.getD p 0 = c.getD p 0) : b = c := by
 obtain ⟨a0, a1, a2, a3, a4, rfl⟩ := Ta.five hb
 obtain ⟨c0, c1, c2, c3, c4, rfl⟩ := Ta.five hc
 obtain rfl : a0 = c0 := h 0 (by omega)
 obtain rfl : a1 = c1 := h 1 (by omega)
 obtain rfl : a2 = c2 := h 2 (by omega)
 obtain rfl : a3 = c3 := h 3 (by omega)
 obtain rfl : a4 = c4 := h 4 (by omega)
 rfl
structure Settled (ts : List Tl) (out : List (Nat × Nat × Int)) : Prop where
 ok : okL (out.map payT) = true
 bal : bal ((out.map payT).map debtOf) = Go.Proofs.YthdoofmfigemoaaGreatDoor.bal (ts.map debtOf)
 total : total ((out.map payT).map debtOf) = Ta.pos (Go.Proofs.YthdoofmfigemoaaGreatDoor.bal (ts.map debtOf))
 less : Ta.pos (Go.Proofs.YthdoofmfigemoaaGreatDoor.bal (ts.map debtOf)) ≤ Go.Proofs.YthdoofmfigemoaaGreatDoor.total (ts.map debtOf)
 apart : ∀ t ∈ out, ∀ u ∈ out, t.1 ≠ u.2.1
 few : out.length < 5
theorem settled {ts : List Tl} {out : List (Nat × Nat × Int)} (hok : okL ts = true) (h : Ta.settle 5 (bal (ts.map debtOf)) = some out) : Settled ts out := by
 have hF := fair_of hok
 obtain ⟨hbal, hbd⟩ := bal_ok hF
 have hbl := bal_length (ts.map debtOf)
 have hnz := Ta.nz_le (bal (ts.map debtOf))
 obtain ⟨s1, s2, s3, s4⟩ := Ta.settle_spec 5 _ hbal (by omega) out h
 have hlen : out.length < 5 := by
  rcases s4 with s4 | rfl
  ·omega
  ·simp
 have hD : (out.map payT).map debtOf = out.map payD := by
  rw [List.map_map]
  refine List.map_congr_left fun t ht => ?_
  obtain ⟨a1, a2, a3, a4, a5, _, _⟩ := s1 t ht
  exact (tallyOf_ok ⟨⟨by omega, by omega, by omega, by omega, by omega⟩, a4, a5⟩).2
 have h0 : Ta.pos [0, 0, 0, 0, 0] = 0 := rfl
 refine ⟨?_, ?_, ?_, ?_, fun t ht u hu e => ?_, hlen⟩
 ·simp only [okL, Bool.and_eq_true, decide_eq_true_eq, List.all_eq_true, List.length_map]
  refine ⟨by omega, fun x hx => ?_⟩
  obtain ⟨t, ht, rfl⟩ := List.mem_map.1 hx
  obtain ⟨a1, a2, a3, a4, a5, _, _⟩ := s1 t ht
  exact (tallyOf_ok ⟨⟨by omega, by omega, by omega, by omega, by omega⟩, a4, a5⟩).1
 ·rw [hD]
  refine ext5 (bal_length _) hbl fun p hp => ?_
  have := bal_eff out [0, 0, 0, 0, 0] rfl (fun t ht => ⟨(s1 t ht).1, (s1 t ht).2.1⟩) p hp
  rw [Go.Proofs.YthdoofmfigemoaaGreatDoor.bal, this, s2 p hp]
  have : ([0, 0, 0, 0, 0] : List Int).getD p 0 = 0 := by
   match p, hp with
   | 0, _ => rfl
   | 1, _ => rfl
   | 2, _ => rfl
   | 3, _ => rfl
   | 4, _ => rfl
  omega
 ·rw [hD, Go.Proofs.YthdoofmfigemoaaGreatDoor.total, total_all, s3]; omega
 ·exact pos_total _ _ 0 rfl hF.2 (by rw [h0]; omega)
 ·have := (s1 t ht).2.2.2.2.2.1
  have := (s1 u hu).2.2.2.2.2.2
  rw [e] at *
  omega
def belowW (k : Nat) : Int := if k = 0 then 111 else if k = 1 then 11 else if k = 2 then 1 else 0
theorem scan_cap : ∀ (s : List UInt8) (r m : Nat) (t v : Int), r < 4 → m ≤ 9 → Ta.scan s r m t = some v → v ≤ t + (9 - (m : Int)) * Ta.weight r + 9 * belowW r
 | [], r, m, t, v, hr, hm, h => by
  simp [Ta.scan] at h
  subst h
  have h1 := Ta.weight_bd r
  have h2 : 0 ≤ (9 - (m : Int)) * Ta.weight r := Int.mul_nonneg (by omega) (by omega)
  have h3 : 0 ≤ belowW r := by unfold belowW; repeat' split <;> omega
  omega
 | c :: cs, r, m, t, v, hr, hm, h => by
  cases hk : Ta.rank c with
  | none => rw [Ta.scan_none hk] at h; cases h
  | some k =>
   by_cases h1 : k < r
   ·rw [Ta.scan_back hk h1] at h; cases h
   ·by_cases h2 : 9 < (if k = r then m + 1 else 1)
    ·rw [Ta.scan_many hk h1 h2] at h; cases h
    ·rw [Ta.scan_on hk h1 h2] at h
     have hk4 := Ta.rank_lt hk
     have ih := scan_cap cs k _ _ v hk4 (by omega) h
     by_cases e : k = r
     ·subst e
      rw [if_pos rfl] at ih h2
      have e2 : ((m + 1 : Nat) : Int) = (m : Int) + 1 := by omega
      rw [e2] at ih
      have e3 : (9 - ((m : Int) + 1)) * Ta.weight k = (9 - (m : Int)) * Ta.weight k - Ta.weight k := by
       rw [show 9 - ((m : Int) + 1) = (9 - (m : Int)) - 1 by omega, Int.sub_mul, Int.one_mul]
      omega
     ·rw [if_neg e] at ih
      have h3 : 0 ≤ (9 - (m : Int)) * Ta.weight r := Int.mul_nonneg (by omega) (by have := Ta.weight_bd r; omega)
      have h4 : 9 * Ta.weight k + 9 * belowW k ≤ 9 * belowW r := by
       have hr4 : r = 0 ∨ r = 1 ∨ r = 2 ∨ r = 3 := by omega
       have hk5 : k = 0 ∨ k = 1 ∨ k = 2 ∨ k = 3 := by omega
       rcases hr4 with rfl | rfl | rfl | rfl <;> rcases hk5 with rfl | rfl | rfl | rfl <;> first | (exfalso; omega) | decide
      have e5 : (9 - ((1 : Nat) : Int)) * Ta.weight k = 8 * Ta.weight k := by rfl
      rw [e5] at ih
      omega
theorem worthB_cap (s : ByteArray) : worthB s ≤ 9999 := by
 unfold worthB
 cases h : Ta.worth s.data.toList with
 | none => simp
 | some v =>
  have := scan_cap _ 0 0 0 v (by omega) (by omega) h
  simp [Ta.weight, belowW] at this ⊢
  omega
theorem ok_debt {t : Tl} (h : okB t = true) : DebtOk t.a t.c (worthB t.s) := by
 simp only [okB, matchB, Bool.and_eq_true, decide_eq_true_eq, twoB] at h
 exact ⟨h.1.1, h.2, worthB_cap _⟩
theorem ok_told {t : Tl} (h : okB t = true) : Told t := by
 have h2 := ok_debt h
 simp only [okB, matchB, Bool.and_eq_true, decide_eq_true_eq, twoB] at h
 have h3 := valid_size h.1.2.1
 obtain ⟨⟨a0, a1, c0, c1, _⟩, _⟩ := h2
 exact ⟨a0, by omega, c0, by omega, h3⟩
def wOwe : List UInt8 := [111, 119, 101]
def wSettle : List UInt8 := [115, 101, 116, 116, 108, 101]
def wTallies : List UInt8 := [116, 97, 108, 108, 105, 101, 115]
def SSettlePost (w : World) (ts : List Tl) (e : Ending) (w' : World) : Prop :=
 ((∃ out, okL ts = true ∧ Ta.settle 5 (bal (ts.map debtOf)) = some out ∧ ∃ A c, e = .returned (.tuple #[.slice A out.length c, .bool true]) ∧ OwnT w' w.heap.size A out.length c (out.map payT)) ∨
  ((okL ts = false ∨ Ta.settle 5 (bal (ts.map debtOf)) = none) ∧ ∃ g c, e = .returned (.tuple #[.slice (some ⟨g, 0, none⟩) 0 c, .bool false]))) ∧ Below w.heap.size w w'
def SSettling (w wr : World) (B g : Nat) (b0 : List Int) (k : Nat) (sv : Value) : Prop :=
 ∃ (b : List Int) (f : Nat) (out : List (Nat × Nat × Int)) (AT : Option Addr) (cT : Nat),
  k = out.length ∧ sv = .slice AT out.length cT ∧ Ta.Todo b0 f b out ∧ Ta.Bal b ∧ Ta.Bd 432000 b ∧ Own wr B (some ⟨g, 0, none⟩) 5 5 b ∧ OwnT wr B AT out.length cT (out.map payT) ∧ (∀ q, (Value.slice AT out.length cT).ownBlock = some q → q ≠ g) ∧ Below B w wr
theorem getD_some {b : List Int} {k : Nat} (h : k < b.length) : b[k]? = some (b.getD k 0) := by rw [List.getD_eq_getElem?_getD, List.getElem?_eq_getElem h]; rfl
theorem specTalliesSettle_any (A : Option Addr) (n c : Nat) (ts : List Tl) (w : World) (hr : Tals w w.heap.size A n ts) (hsm : Small ts) : Calls Tryz.prog 37 #[.slice A n c] w (SSettlePost w ts) := by
 obtain ⟨W, hW⟩ : ∃ W, w.alloc (.cells #[] 52) = W := ⟨_, rfl⟩
 have hb0 : Below w.heap.size w W := by rw [← hW]; exact (Below.refl _ _).alloc (Nat.le_refl _) _
 have hsz : W.heap.size = w.heap.size + 1 := by rw [← hW]; simp
 have hT0 : OwnT W w.heap.size (some ⟨w.heap.size, 0, none⟩) 0 0 [] := by rw [← hW]; exact lit_nil_t w _ (Nat.le_refl _)
 have HR := Hd (show Tals W W.heap.size A n ts from Row.next hr hb0)
 have HB0 := Hd hb0
 have HT0 := Hd hT0
 have HW := Hd hW
 have HSM := Hd hsm
 have HSZ := Hd hsz
 clear hr hsm hb0 hT0 hW hsz
 go_enter Tryz.func37, Tryz.ntmps37
 go_wp2_with fail
 rw [HW.out]
 refine (specTalliesBalance_any A n c ts W HR.out HSM.out).mono ?_
 rintro e w1 ⟨⟨hok, g, hgW, rfl, ho⟩ | ⟨hno, g, rfl⟩, hb⟩
 rotate_left
 ·have HB := Hd (HB0.out.trans (hb.mono HB0.out.size))
  have HNO := Hd hno
  clear hno hb
  go_wp2
  go_ret2
  exact ⟨.inr ⟨.inl HNO.out, _, _, rfl⟩, HB.out⟩
 obtain ⟨b, hbb⟩ : ∃ b, bal (ts.map debtOf) = b := ⟨_, rfl⟩
 obtain ⟨hbal, hbd⟩ := bal_ok (fair_of hok)
 have hbl := bal_length (ts.map debtOf)
 rw [hbb] at hbal hbd hbl ho
 have HPS := Hd (show ∀ e w', (((∃ out, Ta.settle 5 b = some out ∧ ∃ A c, e = .returned (.tuple #[.slice A out.length c, .bool true]) ∧ OwnT w' w.heap.size A out.length c (out.map payT)) ∨
  (Ta.settle 5 b = none ∧ ∃ g c, e = .returned (.tuple #[.slice (some ⟨g, 0, none⟩) 0 c, .bool false]))) ∧ Below w.heap.size w w') → SSettlePost w ts e w' from fun e w' h => by
   unfold SSettlePost
   rw [hbb]
   rcases h with ⟨⟨out, h1, h2⟩ | ⟨h1, h2⟩, h3⟩
   ·exact ⟨.inl ⟨out, hok, h1, h2⟩, h3⟩
   ·exact ⟨.inr ⟨.inr h1, h2⟩, h3⟩)
 have HST := Hd (show SSettling w w1 w.heap.size g b 0 (.slice (some ⟨w.heap.size, 0, none⟩) 0 0) from by
  refine ⟨b, 5, [], _, _, rfl, rfl, Ta.Todo.start hbl, hbal, hbd, ho.mono HB0.out.size, HT0.out.next hb, fun q hq => ?_, HB0.out.trans (hb.mono HB0.out.size)⟩
  have hq : w.heap.size = q := by injection hq
  have := HSZ.out
  omega)
 have HG := Hd hgW
 clear hok hbb hbal hbd hbl ho hb hgW
 go_wp2_with fail
 go_loopw [4, 7] (fun sv iv wr => ∃ (k : Nat), k ≤ 5 ∧ iv = .int .i64 (k : Int) ∧ SSettling w wr w.heap.size g b k sv) (fun _ iv _ => 5 - (intOf iv).toNat)
 case atStart => exact ⟨0, by omega, rfl, HST.out⟩
 case round =>
  obtain ⟨k, hk, rfl, b2, f, out, AT, cT, hko, rfl, hT, hbal, hbd, ho, hot, hsep, hb⟩ := hrel
  have HTD := Hd (And.intro hT (And.intro hbal hbd))
  have HO := Hd ho
  have HOT := Hd (And.intro hot hsep)
  have HB := Hd hb
  have HKO := Hd hko
  have hbl2 := hbal.1
  clear hT hbal hbd ho hot hsep hb hko
  obtain ⟨wo, hwo⟩ : ∃ wo, wo = wr := ⟨_, rfl⟩
  subst hwo
  by_cases hlt : k < 5
  ·have hltI : (k : Int) < 5 := by omega
   go_wp2_with fail
   go_loopw [8, 9, 10] (fun lv hv iv wq => ∃ (i q : Nat), i ≤ 5 ∧ iv = .int .i64 (i : Int) ∧ lv = .int .i64 (Ta.lowK b2 i : Int) ∧ hv = .int .i64 (Ta.highK b2 i : Int) ∧ wq = wo.drewN q) (fun _ _ iv _ => 5 - (intOf iv).toNat)
   case atStart => exact ⟨0, 0, by omega, rfl, rfl, rfl, rfl⟩
   case round =>
    obtain ⟨i, q, hi, rfl, rfl, rfl, hwq⟩ := hrel
    have HWQ := Hd hwq
    clear hwq
    by_cases hi5 : i < 5
    ·have hoq : Own wr w.heap.size (some ⟨g, 0, none⟩) 5 5 b2 := by rw [HWQ.out]; exact HO.out.drewN q
     obtain ⟨g', hge, _, _, hcell, _⟩ := hoq.at_ (by omega)
     injection hge with hge
     injection hge with hge
     subst hge
     have hLi := (Ta.lowK_spec b2 i).2.2.2
     have hHi := (Ta.highK_spec b2 i).2.2.2
     have eL : Ta.lowK b2 (i + 1) = if b2.getD i 0 < b2.getD (Ta.lowK b2 i) 0 then i else Ta.lowK b2 i := rfl
     have eH : Ta.highK b2 (i + 1) = if b2.getD (Ta.highK b2 i) 0 < b2.getD i 0 then i else Ta.highK b2 i := rfl
     obtain ⟨L, hL⟩ : ∃ L, Ta.lowK b2 i = L := ⟨_, rfl⟩
     obtain ⟨H, hH⟩ : ∃ H, Ta.highK b2 i = H := ⟨_, rfl⟩
     rw [hL] at hLi eL ⊢
     rw [hH] at hHi eH ⊢
     have ci := hcell i _ (getD_some (by omega))
     have cl := hcell L _ (getD_some (by omega))
     have ch := hcell H _ (getD_some (by omega))
     obtain ⟨x, hx⟩ : ∃ x, b2.getD i 0 = x := ⟨_, rfl⟩
     obtain ⟨y, hy⟩ : ∃ y, b2.getD L 0 = y := ⟨_, rfl⟩
     obtain ⟨z, hz⟩ : ∃ z, b2.getD H 0 = z := ⟨_, rfl⟩
     rw [hx] at ci eL eH
     rw [hy] at cl eL
     rw [hz] at ch eH
     clear hoq hcell hL hH hx hy hz
     by_cases h1 : x < y
     ·rw [if_pos h1] at eL
      by_cases h2 : z < x
      ·rw [if_pos h2] at eH
       have HE := Hd (And.intro eL eH)
       clear eL eH
       go_wp2_with fail
       go_quiet (fail)
       go_wp2_with fail
       go_quiet (fail)
       go_wp2_with fail
       exact ⟨⟨i + 1, _, by omega, by go_num, by rw [HE.out.1], by rw [HE.out.2], by rw [HWQ.out]; simp only [World.drewN_drewN]; exact rfl⟩, by simp [intOf]; omega⟩
      ·rw [if_neg h2] at eH
       have HE := Hd (And.intro eL eH)
       clear eL eH
       go_wp2_with fail
       go_quiet (fail)
       go_wp2_with fail
       go_quiet (fail)
       go_wp2_with fail
       exact ⟨⟨i + 1, _, by omega, by go_num, by rw [HE.out.1], by rw [HE.out.2], by rw [HWQ.out]; simp only [World.drewN_drewN]; exact rfl⟩, by simp [intOf]; omega⟩
     ·rw [if_neg h1] at eL
      by_cases h2 : z < x
      ·rw [if_pos h2] at eH
       have HE := Hd (And.intro eL eH)
       clear eL eH
       go_wp2_with fail
       go_quiet (fail)
       go_wp2_with fail
       go_quiet (fail)
       go_wp2_with fail
       exact ⟨⟨i + 1, _, by omega, by go_num, by rw [HE.out.1], by rw [HE.out.2], by rw [HWQ.out]; simp only [World.drewN_drewN]; exact rfl⟩, by simp [intOf]; omega⟩
      ·rw [if_neg h2] at eH
       have HE := Hd (And.intro eL eH)
       clear eL eH
       go_wp2_with fail
       go_quiet (fail)
       go_wp2_with fail
       go_quiet (fail)
       go_wp2_with fail
       exact ⟨⟨i + 1, _, by omega, by go_num, by rw [HE.out.1], by rw [HE.out.2], by rw [HWQ.out]; simp only [World.drewN_drewN]; exact rfl⟩, by simp [intOf]; omega⟩
    ·have h5 : i = 5 := by omega
     have HO' := Hd (show Own wr w.heap.size (some ⟨g, 0, none⟩) 5 5 b2 by rw [HWQ.out]; exact HO.out.drewN q)
     have HOT' := Hd (show OwnT wr w.heap.size AT out.length cT (out.map payT) by rw [HWQ.out]; exact HOT.out.1.drewN q)
     have HB' := Hd (show Below w.heap.size w wr by rw [HWQ.out]; exact below_drewN HB.out q)
     obtain ⟨L, hL⟩ : ∃ L, Ta.low b2 = L := ⟨_, rfl⟩
     obtain ⟨H, hH⟩ : ∃ H, Ta.high b2 = H := ⟨_, rfl⟩
     have eL : Ta.lowK b2 i = L := by rw [h5]; exact hL
     have eH : Ta.highK b2 i = H := by rw [h5]; exact hH
     rw [eL, eH]
     have L5 : L < 5 := by rw [← hL]; exact Ta.low_lt b2
     have H5 : H < 5 := by rw [← hH]; exact Ta.high_lt b2
     obtain ⟨y, hy⟩ : ∃ y, b2.getD L 0 = y := ⟨_, rfl⟩
     obtain ⟨z, hz⟩ : ∃ z, b2.getD H 0 = z := ⟨_, rfl⟩
     obtain ⟨m, hm⟩ : ∃ m, Ta.due b2 = m := ⟨_, rfl⟩
     have hmin : min z (-y) = m := by rw [← hm, Ta.due, hL, hH, hy, hz]; omega
     obtain ⟨g', hge, _, hgl, hcell, hfree⟩ := HO'.out.at_ (by omega)
     injection hge with hge
     injection hge with hge
     subst hge
     have cl := hcell L _ (getD_some (by omega))
     have ch := hcell H _ (getD_some (by omega))
     rw [hy] at cl
     rw [hz] at ch
     have by_ := HTD.out.2.2 L
     rw [hy] at by_
     have bz := HTD.out.2.2 H
     rw [hz] at bz
     have hneg : IntKind.i64.wrap (-y) = -y := neg_in by_
     have HEQ := Hd (And.intro hL (And.intro hH (And.intro hm (And.intro hy hz))))
     have HMIN := Hd hmin
     have hspec := Ta.due_spec HTD.out.2.1
     rw [hL, hH, hm, hy, hz] at hspec
     have HSP := Hd hspec
     have HF := Hd hfree
     clear h5 hL hH eL eH hy hz hm hmin hcell hfree hspec
     go_wp2_with fail
     go_quiet (fail)
     rw [HMIN.out]
     by_cases hm0 : m = 0
     ·have HFIN := Hd (show ∀ q, SSettlePost w ts (.returned (.tuple #[.slice AT out.length cT, .bool true])) (wr.drewN q) from fun q => HPS.out _ _ ⟨.inl ⟨out, HTD.out.1.done (by rw [HEQ.out.2.2.1]; exact hm0), AT, cT, rfl, HOT'.out.drewN q⟩, below_drewN HB'.out q⟩)
      subst hm0
      go_wp2
      go_ret2
      exact HFIN.out _
     have hmz : (m == 0) = false := by simpa using hm0
     have HM0 := Hd hm0
     clear hm0
     go_wp2_with fail
     refine (specTallyNew_any (L : Int) (H : Int) m _).mono ?_
     rintro e w6 ⟨⟨hok, he⟩ | ⟨hno, he⟩, hb6⟩
     rotate_left
     ·subst he
      have hb6' : Below wr.heap.size wr w6 := (below_drewN (Below.refl wr.heap.size wr) _).trans hb6
      have hm9 : 9999 < m := by
       by_cases h9 : 9999 < m
       ·exact h9
       ·obtain ⟨s0, _, s2⟩ := HSP.out
        have := s2 HM0.out
        exact absurd ⟨⟨by omega, by omega, by omega, by omega, fun e => this.2.2 (by omega)⟩, by have := HM0.out; omega, by omega⟩ hno
      have HN := Hd (show ∀ o o' g c, SSettlePost w ts (.returned (.tuple #[.slice (some ⟨g, 0, none⟩) 0 c, .bool false])) ((w6.alloc o).alloc o') from fun o o' g c => HPS.out _ _ ⟨.inr ⟨HTD.out.1.no HTD.out.2.1 (by rw [HEQ.out.2.2.1]; exact HM0.out) (by rw [HEQ.out.2.2.1]; exact .inr hm9), g, c, rfl⟩,
       ((HB'.out.trans (hb6'.mono HB'.out.size)).alloc (Nat.le_trans HB'.out.size hb6'.size) _).alloc (by simp; have := HB'.out.size; have := hb6'.size; omega) _⟩)
      clear hb6 hb6' hno hm9
      unfold noTl
      go_wp2
      go_ret2
      exact HN.out _ _ _ _
     ·have hb6' : Below wr.heap.size wr w6 := (below_drewN (Below.refl wr.heap.size wr) _).trans hb6
      have he : e = .returned (.tuple #[.agg #[.int .i64 (L : Int), .int .i64 (H : Int), .string (txt (Ta.ntext m.toNat)), .string (txt (Ta.ntext m.toNat))], .bool true]) := he
      subst he
      obtain ⟨s, hs⟩ : ∃ s, txt (Ta.ntext m.toNat) = s := ⟨_, rfl⟩
      have hpt : payT (L, H, m) = ⟨(L : Int), (H : Int), s, s⟩ := by rw [← hs]; rfl
      rw [hs]
      obtain ⟨W7, hW7⟩ : ∃ W7, w6.alloc (.cells #[.int .i64 (L : Int), .int .i64 (H : Int), .string s, .string s] 52) = W7 := ⟨_, rfl⟩
      have hb7 : Below wr.heap.size wr W7 := by rw [← hW7]; exact hb6'.alloc hb6'.size _
      have HPT := Hd hpt
      have HM := Hd hok
      have HO7 := Hd (HO'.out.next hb7)
      have HOT7 := Hd (HOT'.out.next hb7)
      have HB7 := Hd (HB'.out.trans (hb7.mono HB'.out.size))
      have hglt : g < W7.heap.size := Nat.lt_of_lt_of_le hgl hb7.size
      have HGL := Hd hglt
      obtain ⟨f2, rfl⟩ := HTD.out.1.pos HTD.out.2.1 (by rw [HEQ.out.2.2.1]; exact HM0.out)
      have hout : out.length ≤ 4 := by have := HTD.out.1.2.2; omega
      have HNB := Hd (show w6.heap.size + 1 = W7.heap.size by rw [← hW7]; simp)
      have hspec := HSP.out
      have hLH : ¬ L = H := (hspec.2.2 HM0.out).2.2
      have hHL : ¬ H = L := fun e => hLH e.symm
      have wy : IntKind.i64.wrap (y + m) = y + m := IntWalk.i64_in _ (by have := HMIN.out; have := hspec.1; omega)
      have wz : IntKind.i64.wrap (z - m) = z - m := IntWalk.i64_in _ (by have := HMIN.out; have := hspec.1; omega)
      clear hpt hok hb7 hb6 hb6' hs cl ch hneg hspec hgl hglt by_ bz
      subst hW7
      go_wp2_with (refine wpList_app_t_at rfl _ _ rfl rfl HOT7.out ⟨(L : Int), (H : Int), s, s⟩ _ _ rfl HNB.out _ rfl (by omega) HB7.out.size ?_; intro A9 c9 w9 ho9 hg9 hat9; have hO9 := HO7.out.kept hg9 (fun q hq e => HOT.out.2 q e (by have hq : g = q := (by injection hq); exact hq.symm)); have HO9 := Hd hO9; obtain ⟨g9, hge9, _, hgl9, hcell9, hfree9⟩ := hO9.at_ (by omega); injection hge9 with hge9; injection hge9 with hge9; subst hge9; have cl9 : w9.cell? ⟨g, L, none⟩ = some (.int .i64 y) := (by rw [← HEQ.out.2.2.2.1]; exact hcell9 L _ (getD_some (by omega))); have ch9 : w9.cell? ⟨g, H, none⟩ = some (.int .i64 z) := (by rw [← HEQ.out.2.2.2.2]; exact hcell9 H _ (getD_some (by omega))); have fl9 := hfree9 L; have fh9 := hfree9 H; have HOT9 := Hd ho9; have HG9 := Hd hg9; have HAT9 := Hd hat9; clear hO9 hcell9 hfree9 ho9 hg9 hat9)
      have hnext := HTD.out.1.next HTD.out.2.1 (by rw [HEQ.out.2.2.1]; exact HM0.out) (by rw [HEQ.out.2.2.1]; exact HM.out.2.1) (by rw [HEQ.out.2.2.1]; exact HM.out.2.2)
      have hbal3 := Ta.pay_bal HTD.out.2.1 (by rw [HEQ.out.2.2.1]; exact HM0.out)
      have hbd3 := HTD.out.2.2.pay HTD.out.2.1 (by rw [HEQ.out.2.2.1]; exact HM0.out)
      rw [HEQ.out.1, HEQ.out.2.1, HEQ.out.2.2.1] at hnext hbal3 hbd3
      have hpay : Ta.pay b2 L H m = (b2.set L (y + m)).set H (z - m) := by unfold Ta.pay; rw [HEQ.out.2.2.2.1, HEQ.out.2.2.2.2]
      have hO10 := ((HO9.out.store L (y + m)).1.store H (z - m)).1
      rw [← hpay] at hO10
      have hsep9 : ∀ q, (Value.slice A9 (out.length + 1) c9).ownBlock = some q → q ≠ g := fun q hq => by
       rcases HAT9.out q hq with e | e
       ·exact HOT.out.2 q e
       ·have := HGL.out; omega
      have hOT10 := (HOT9.out.aside hsep9 L (.int .i64 (y + m))).aside hsep9 H (.int .i64 (z - m))
      have hgB : w.heap.size ≤ g := by have := HG.out; have := HSZ.out; omega
      have hB10 := ((HB7.out.grown HG9.out HB7.out.size (fun q hq => (HOT7.out.blk q hq).1)).setCell (p := ⟨g, L, none⟩) hgB (.int .i64 (y + m))).setCell (p := ⟨g, H, none⟩) hgB (.int .i64 (z - m))
      have hlen : (out ++ [(L, H, m)]).length = out.length + 1 := by simp
      refine ⟨⟨k + 1, by omega, by go_num, _, f2, out ++ [(L, H, m)], A9, c9, by rw [hlen, HKO.out], by rw [hlen], hnext, hbal3, hbd3, hO10, ?_, by rw [hlen]; exact hsep9, hB10⟩, by simp [intOf]; omega⟩
      rw [hlen, List.map_append, List.map_cons, List.map_nil, HPT.out]
      exact hOT10
  ·have hk5 : k = 5 := by omega
   have hf0 : f = 0 := by have := HTD.out.1.2.2; have := HKO.out; omega
   have hset : Ta.settle 5 b = some out := by rw [HTD.out.1.1, hf0]; simp [Ta.settle]
   have HFIN := Hd (show SSettlePost w ts (.returned (.tuple #[.slice AT out.length cT, .bool true])) wo from HPS.out _ _ ⟨.inl ⟨out, hset, AT, cT, rfl, HOT.out.1⟩, HB.out⟩)
   clear hk5 hf0 hset
   go_wp2
   go_ret2
   exact HFIN.out
theorem l9Lay_any (A : Option Addr) (n c : Nat) (xs : List Int) (v : Int) (w : World) (hx : Ints w w.heap.size A n xs) :
  Calls Tryz.prog 98 #[.slice A n c, .int .i64 v] w (BoardPost w (okV v && layOK xs (Bd.D true 10 v)) (Bd.addL xs (Bd.D true 10 v))) := by
 have HX := Hd hx
 clear hx
 rcases hok : okV v with _ | _
 ·have HOK := Hd hok
  go_enter Tryz.func98, Tryz.ntmps98
  go_wp2_with fail
  have hcall := fun w => specBoardOf_any v w
  rw [HOK.out] at hcall
  refine (hcall _).mono ?_
  clear hcall
  rintro e w1 ⟨⟨A1, n1, c1, rfl, ho1⟩, hb1⟩
  have HB1 := Hd hb1
  clear ho1 hb1
  have H0 := Hd (lit_nil w1)
  go_wp2_with fail
  go_ret2
  exact ⟨⟨_, _, _, rfl, by simpa using H0.out.mono HB1.out.size⟩, HB1.out.alloc HB1.out.size _⟩
 ·have HOK := Hd hok
  go_enter Tryz.func98, Tryz.ntmps98
  go_wp2_with fail
  have hcall := fun w => specBoardOf_any v w
  rw [HOK.out] at hcall
  refine (hcall _).mono ?_
  clear hcall
  rintro e w1 ⟨⟨A1, n1, c1, rfl, ho1⟩, hb1⟩
  simp only [if_true] at ho1
  have HB1 := Hd hb1
  have HX1 := Hd (HX.out.next hb1)
  have HO1 := Hd ho1.ints
  clear ho1 hb1
  go_wp2_with fail
  refine (specBoardLay_any _ _ _ _ _ _ _ _ _ HX1.out HO1.out).mono ?_
  rintro e w2 ⟨⟨A2, n2, c2, rfl, ho2⟩, hb2⟩
  have HB2 := Hd (below_chain HB1.out hb2)
  have HO2 := Hd (ho2.mono HB1.out.size)
  clear ho2 hb2
  go_wp2_with fail
  go_ret2
  exact ⟨⟨_, _, _, rfl, by simpa using HO2.out⟩, HB2.out⟩
theorem l9Root_any (n : Nat) (hn : n ≤ 1000000000) (w : World) :
  Calls Tryz.prog 141 #[.int .i64 (n : Int)] w fun e w' => e = .returned (.string (bs (rootT n) ++ ⟨#[10]⟩)) ∧ Below w.heap.size w w' := by
 obtain ⟨r0, r1, s0, s1⟩ := root_bd hn
 obtain ⟨R, hR⟩ : ∃ R, Gl.rtR n = R := ⟨_, rfl⟩
 obtain ⟨S, hS⟩ : ∃ S, Gl.rtS n = S := ⟨_, rfl⟩
 have hroot := fun w => specRootOf_yes n w hn
 have hT : (dec R ++ ⟨#[32]⟩) ++ dec S = bs (rootT n) := by
  show (bs (Lib.itoa R) ++ bs [32]) ++ bs (Lib.itoa S) = _
  rw [bs_append, bs_append]
  simp [rootT, hR, hS]
 rw [hR, hS] at hroot
 rw [hR] at r0 r1
 rw [hS] at s0 s1
 have hz1 := dec_size R (by omega) (by omega)
 have hz2 := dec_size S (by omega) (by omega)
 have hl1 := no_long (n := (dec R).size) (by omega) 1 (by omega)
 have hl2 := no_long (n := (dec R).size + 1) (by omega) (dec S).size (by omega)
 obtain ⟨P, rfl⟩ := Int.eq_ofNat_of_zero_le r0
 obtain ⟨Q, rfl⟩ := Int.eq_ofNat_of_zero_le s0
 have hzz : ((dec (P : Int) ++ ⟨#[32]⟩) ++ dec (Q : Int)).size ≤ 100000 := by
  rw [ByteArray.size_append, ByteArray.size_append]
  show _ + 1 + _ ≤ _
  omega
 have HZ := Hd hzz
 have HR := Hd hroot
 have HTT := Hd hT
 have HP := Hd (fun w => l6Dec_any P (by omega) w)
 have HQ := Hd (fun w => l6Dec_any Q (by omega) w)
 clear hroot hT hz1 hz2 hR hS hzz r0 r1 s0 s1
 go_enter Tryz.func141, Tryz.ntmps141
 go_wp2_with fail
 refine (HR.out _).mono ?_
 rintro e w1 ⟨rfl, rfl⟩
 go_wp2_with fail
 refine (HP.out _).mono ?_
 rintro e w2 ⟨rfl, hb2⟩
 have HB2 := Hd hb2
 clear hb2
 go_wp2_with fail
 refine (HQ.out _).mono ?_
 rintro e w3 ⟨rfl, hb3⟩
 have HB3 := Hd (below_chain HB2.out hb3)
 clear hb3
 go_wp2_with fail
 refine (l9Said_yes _ _ HZ.out).mono ?_
 rintro e w4 ⟨rfl, rfl⟩
 rw [HTT.out]
 go_wp2_with fail
 go_ret
 exact ⟨rfl, HB3.out⟩
theorem run_append_ts {w : World} {B : Nat} {A : Option Addr} {n c : Nat} {xs : List Tl} (ty : TypeId) (hown : OwnT w B A n c xs) {B2 m c0 : Nat} {A2 : Option Addr} {us : List Tl}
  (hr : Tals w B2 A2 m us) (N : Nat) (hN : N = n + m) (hn : N ≤ 1000000) (hB : B ≤ w.heap.size) :
  ∃ A' c' w', (Builtin.append_ #[46, 46] ty #[.slice A n c, .slice A2 m c0]).run Tryz.prog w = .ok (.slice A' N c') w' ∧ OwnT w' B A' N c' (xs ++ us) ∧ w.grownBy w' (Value.slice A n c).ownBlock ∧ ((Value.slice A' N c').ownBlock = (Value.slice A n c).ownBlock ∨ (Value.slice A' N c').ownBlock = some w.heap.size) := by
 subst hN
 obtain ⟨i0, hi, hz0, hz1, hz2⟩ := info_parts tally_info
 have hl := hr.len
 have key : ∀ (ad : Addr) (vs : List Value), vs = TV us → (∀ j u, vs[j]? = some u → w.cell? (ad.add j) = some u) → ∃ A' c' w', (Builtin.append_ #[46, 46] ty #[.slice A n c, .slice (some ad) m c0]).run Tryz.prog w = .ok (.slice A' (n + m) c') w' ∧ OwnT w' B A' (n + m) c' (xs ++ us) ∧ w.grownBy w' (Value.slice A n c).ownBlock ∧ ((Value.slice A' (n + m) c').ownBlock = (Value.slice A n c).ownBlock ∨ (Value.slice A' (n + m) c').ownBlock = some w.heap.size) := by
  intro ad vs hvs hc
  obtain ⟨v5, w5, h1, ho5, hg5, -, hat⟩ := run_append_own_at (P := Tryz.prog) w B 46 ty 52 i0 _ 4 48 Tryz.underlying46 hi hz0 hz1 hz2 rfl (by decide) (.slice A n c) n (TV xs) hown.1 ad m c0 vs (by rw [hvs, TV_length, hl]) hc (by rw [hvs]; exact TV_oneCell _) (by unfold maxLen; omega) (by omega) hB
  rw [hvs, ← TV_append] at ho5
  obtain ⟨A', c', rfl, h'⟩ := shape_own ho5 (by omega)
  exact ⟨A', c', w5, h1, h', hg5, hat⟩
 by_cases hm : 0 < m
 ·obtain ⟨b, off, rfl, hb, hc⟩ := hr.2.2 hm
  refine key ⟨b, off, none⟩ _ rfl fun j u hj => ?_
  have e : (⟨b, off, none⟩ : Addr).add j = ⟨b, off + j, none⟩ := by unfold Addr.add; split <;> simp_all
  rw [e]
  exact hc j u hj
 ·obtain rfl : m = 0 := by omega
  obtain rfl := List.eq_nil_of_length_eq_zero hl
  rcases A2 with _ | ad
  ·refine ⟨A, c, w, ?_, by simpa using hown, World.grownBy.refl w _, .inl rfl⟩
   rcases hown.1.2 with ⟨h1, rfl⟩ | ⟨g, cap, cur, h1, _, _, hnc, _⟩
   ·rw [h1]; simp [Builtin.append_, run_underlying Tryz.underlying46, sizeOf, typeInfo, hi, Builtin.lenOf, Builtin.firstCells]
   ·injection h1 with e1 e2 e3
    subst e1
    subst e3
    simp [Builtin.append_, run_underlying Tryz.underlying46, sizeOf, typeInfo, hi, Builtin.lenOf, Builtin.firstCells, hnc, storeCells]
  ·exact key ad [] rfl (fun j u hj => by simp at hj)
theorem blk_tals {w : World} {b : Nat} {t : Tl} {y0 y1 : Int} {y2 y3 : ByteArray} {ty : TypeId} (h : Blk w b #[.int .i64 y0, .int .i64 y1, .string y2, .string y3] ty) (ht : t.cells = [.int .i64 y0, .int .i64 y1, .string y2, .string y3]) : Tals w w.heap.size (some ⟨b, 0, none⟩) 1 [t] := by
 refine ⟨by rw [TV_length]; rfl, by omega, fun _ => ⟨b, 0, rfl, h.lt, fun j u hj => ?_⟩⟩
 rw [TV_one, ht] at hj
 rw [Nat.zero_add]
 exact h.cell (j := j) (v := u) (by simpa using hj)
end Go.Proofs.YthdoofmfigemoaaGreatDoor
