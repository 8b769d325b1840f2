/-
  Joined texts.
-/
import Derived.Test.YthdoofmfigemoaaGreatDoorS15
set_option linter.unusedSimpArgs false
set_option linter.unusedVariables false
set_option maxRecDepth 100000
set_option maxHeartbeats 4000000
namespace Go.Proofs.YthdoofmfigemoaaGreatDoor
open Go.RowKit
def OweL (ts : List Tl) (a c v : Int) : List Tl := if oweOk ts a c v then ts ++ [tallyOf a c v] else []
def OwePost (w : World) (ts : List Tl) (a c v : Int) (e : Ending) (w' : World) : Prop :=
 (∃ A n cp, e = .returned (.tuple #[.slice A n cp, .bool (oweOk ts a c v)]) ∧ OwnT w' w.heap.size A n cp (OweL ts a c v)) ∧ Below w.heap.size w w'
theorem l9Owe_any (At : Option Addr) (nt ct : Nat) (ts : List Tl) (a c v : Int) (A0 : Option Addr) (n0 : Nat) (w : World) (h : Tals w w.heap.size At nt ts) (h12 : ts.length ≤ 12) (hn : Own w 0 A0 3 n0 [a, c, v]) (Q : Ending → World → Prop) (hQ : Q = OwePost w ts a c v) :
  Calls Tryz.prog 102 #[.slice At nt ct, .slice A0 3 n0] w Q := by
 obtain ⟨g, rfl, _, hg, hcell, _⟩ := hn.at_ (by omega)
 have d0 := hcell 0 a rfl
 have d1 := hcell 1 c rfl
 have d2 := hcell 2 v rfl
 have hnt : ts.length = nt := h.len
 have HI := Hd h
 have HQ := Hd hQ
 have HN := Hd hnt
 have hnt12 : nt ≤ 12 := by omega
 clear h hQ hn hcell hnt h12
 go_enter Tryz.func102, Tryz.ntmps102
 go_wp2_with fail
 refine wp_region_held_drew (S := (fun w' => w'.cell? ⟨g, 0, none⟩ = some (.int .i64 a) ∧ w'.cell? ⟨g, 1, none⟩ = some (.int .i64 c) ∧ w'.cell? ⟨g, 2, none⟩ = some (.int .i64 v))) (by kernel_rfl) ?_ (fun hHeld => ?_)
 ·(try dsimp only)
  all_goals (first | (refine ⟨?_, ?_, ?_⟩ <;> go_simp) | go_keep)
 refine Tk 0 (some 9) (v := ?v1) rfl (Or.inl ⟨by rfl, ?hy1⟩) (by first | assumption | exact hHeld) ?rest1
 case hy1 => ((intro w0 hSw; (try dsimp only at hSw); go_simp) <;> with_reducible rfl)
 (try simp only [Tp0, Tp1, Tp2, Tp3, Tp4])
 refine Tk 1 (some 10) (v := ?v2) rfl (Or.inl ⟨by rfl, ?hy2⟩) (by first | assumption | exact hHeld) ?rest2
 case hy2 => ((intro w0 hSw; (try dsimp only at hSw); go_simp) <;> with_reducible rfl)
 (try simp only [Tp0, Tp1, Tp2, Tp3, Tp4])
 refine Tk 2 (some 11) (v := ?v3) rfl (Or.inl ⟨by rfl, ?hy3⟩) (by first | assumption | exact hHeld) ?rest3
 case hy3 => ((intro w0 hSw; (try dsimp only at hSw); go_simp) <;> with_reducible rfl)
 (try simp only [Tp0, Tp1, Tp2, Tp3, Tp4])
 refine Tk 3 (some 12) (v := ?v4) rfl (Or.inl ⟨by rfl, ?hy4⟩) (by first | assumption | exact hHeld) ?rest4
 case hy4 => ((intro w0 hSw; (try dsimp only at hSw); go_simp) <;> with_reducible rfl)
 (try simp only [Tp0, Tp1, Tp2, Tp3, Tp4])
 refine Tk 4 (some 13) (v := ?v5) rfl (Or.inl ⟨by rfl, ?hy5⟩) (by first | assumption | exact hHeld) ?rest5
 case hy5 => ((intro w0 hSw; (try dsimp only at hSw); go_simp) <;> with_reducible rfl)
 (try simp only [Tp0, Tp1, Tp2, Tp3, Tp4])
 refine Tk 5 (some 14) (v := ?v6) rfl (Or.inl ⟨by rfl, ?hy6⟩) (by first | assumption | exact hHeld) ?rest6
 case hy6 => ((intro w0 hSw; (try dsimp only at hSw); go_simp) <;> with_reducible rfl)
 (try simp only [Tp0, Tp1, Tp2, Tp3, Tp4])
 refine Tk 6 (some 15) (v := ?v7) rfl (Or.inl ⟨by rfl, ?hy7⟩) (by first | assumption | exact hHeld) ?rest7
 case hy7 => ((intro w0 hSw; (try dsimp only at hSw); go_simp) <;> with_reducible rfl)
 (try simp only [Tp0, Tp1, Tp2, Tp3, Tp4])
 refine Tk 7 (some 16) (v := ?v8) rfl (Or.inl ⟨by rfl, ?hy8⟩) (by first | assumption | exact hHeld) ?rest8
 case hy8 => ((intro w0 hSw; (try dsimp only at hSw); go_simp) <;> with_reducible rfl)
 (try simp only [Tp0, Tp1, Tp2, Tp3, Tp4])
 refine Tk 8 (some 17) (v := ?v9) rfl (Or.inl ⟨by rfl, ?hy9⟩) (by first | assumption | exact hHeld) ?rest9
 case hy9 => ((intro w0 hSw; (try dsimp only at hSw); go_simp) <;> with_reducible rfl)
 (try simp only [Tp0, Tp1, Tp2, Tp3, Tp4])
 refine wpAnyH_ready (rs := [9, 13]) (by kernel_rfl) (by simp) ?_
 refine AllReadyH.cons (o := ⟨some 18, _, _, _, _, _⟩) rfl (fun K hK => ?_) ?_
 ·go_simp
  refine (specTallyNew_any a c v _).mono ?_
  rintro e w2 ⟨hcase, hb2⟩
  obtain ⟨y0, y1, y2, y3, ok, rfl, hx⟩ := tal_res hcase
  have HX := Hd hx
  clear hcase hx
  have hbw : Below w.heap.size w w2 := (Below.refl w.heap.size w).drew.trans hb2
  have e0 := (hbw.cell (p := ⟨g, 0, none⟩) hg).trans d0
  have e1 := (hbw.cell (p := ⟨g, 1, none⟩) hg).trans d1
  have e2 := (hbw.cell (p := ⟨g, 2, none⟩) hg).trans d2
  have hg2 : g < w2.heap.size := Nat.lt_of_lt_of_le hg hbw.size
  (try go_wp2_with fail)
  refine hK.out _ _ ?_ (fun hHeld10 => ?_)
  ·(try dsimp only)
   all_goals (first | (refine ⟨?_, ?_, ?_⟩ <;> go_simp) | go_keep)
  clear hK K
  (try clear hHeld)
  (try simp only [Tp0, Tp1, Tp2, Tp3, Tp4])
  refine Tk 10 (some 8) (v := ?v11) rfl (Or.inl ⟨by rfl, ?hy11⟩) (by first | assumption | exact hHeld10) ?rest11
  case hy11 => ((intro w0 hSw; (try dsimp only at hSw); go_simp) <;> with_reducible rfl)
  (try simp only [Tp0, Tp1, Tp2, Tp3, Tp4])
  refine Tk 11 (some 19) (v := ?v12) rfl (Or.inl ⟨by rfl, ?hy12⟩) (by first | assumption | exact hHeld10) ?rest12
  case hy12 => ((intro w0 hSw; (try dsimp only at hSw); go_simp) <;> with_reducible rfl)
  (try simp only [Tp0, Tp1, Tp2, Tp3, Tp4])
  refine Tk 12 (some 20) (v := ?v13) rfl (Or.inl ⟨by rfl, ?hy13⟩) (by first | assumption | exact hHeld10) ?rest13
  case hy13 => ((intro w0 hSw; (try dsimp only at hSw); go_simp) <;> with_reducible rfl)
  (try simp only [Tp0, Tp1, Tp2, Tp3, Tp4])
  refine wpAnyH_ready (rs := [13]) (by kernel_rfl) (by simp) ?_
  refine AllReadyH.cons (o := ⟨some 6, _, _, _, _, _⟩) rfl (fun K hK => ?_) ?_
  ·go_simp
   refine hK.out _ _ ?_ (fun hHeld14 => ?_)
   ·(try dsimp only)
    all_goals (first | (refine ⟨?_, ?_, ?_⟩ <;> go_simp) | go_keep)
   clear hK K
   (try clear hHeld10)
   (try simp only [Tp0, Tp1, Tp2, Tp3, Tp4])
   refine wpAnyH_ready (rs := [14]) (by kernel_rfl) (by simp) ?_
   refine AllReadyH.cons (o := ⟨none, _, _, _, _, _⟩) rfl (fun K hK => ?_) ?_
   ·go_simp
    refine hK.out _ _ ?_ (fun hHeld15 => ?_)
    ·(try dsimp only)
     all_goals (first | (refine ⟨?_, ?_, ?_⟩ <;> go_simp) | go_keep)
    clear hK K
    (try clear hHeld14)
    (try simp only [Tp0, Tp1, Tp2, Tp3, Tp4])
    refine Tk 15 (some 7) (v := ?v16) rfl (Or.inl ⟨by rfl, ?hy16⟩) (by first | assumption | exact hHeld15) ?rest16
    case hy16 => ((intro w0 hSw; (try dsimp only at hSw); go_simp) <;> with_reducible rfl)
    (try simp only [Tp0, Tp1, Tp2, Tp3, Tp4])
    refine wpAnyH_done (by kernel_rfl) ?_ _
    obtain ⟨W3, hW3⟩ : ∃ V, w2.alloc (.cells #[.int .i64 y0, .int .i64 y1, .string y2, .string y3] 52) = V := ⟨_, rfl⟩
    have hbox : Blk W3 w2.heap.size #[.int .i64 y0, .int .i64 y1, .string y2, .string y3] 52 := by rw [← hW3]; exact Blk.new _ _ _
    have hbl : Below w.heap.size w W3 := by rw [← hW3]; exact hbw.alloc hbw.size _
    rw [hW3]
    obtain ⟨b, hb⟩ : ∃ b, w2.heap.size = b := ⟨_, rfl⟩
    rw [hb] at hbox ⊢
    have HBX := Hd (And.intro hbox (And.intro hbl trivial))
    clear hbox hbl hbw hb2 hW3 hb e0 e1 e2 hg2
    rcases HX.out with ⟨hdo, hv⟩ | ⟨hdo, hv⟩
    rotate_left
    ·have hno : oweOk ts a c v = false := by simp [oweOk, hdo]
     have hok : ok = false := by have h1 := congrArg (fun x : Value => match x with | .tuple t => t[1]? | _ => Option.none) hv; simpa using h1
     subst hok
     have HNO := Hd hno
     clear hno hv hdo
     go_wp2_with fail
     have hnil := lit_nil_t W3 w.heap.size HBX.out.2.1.size
     have hbn := HBX.out.2.1.alloc HBX.out.2.1.size (.cells #[] 52)
     try go_ret2
     rw [HQ.out]
     exact ⟨⟨_, _, _, by rw [HNO.out]; rfl, by rw [OweL, if_neg (by rw [HNO.out]; decide)]; exact hnil⟩, hbn⟩
    have hok : ok = true := by have h1 := congrArg (fun x : Value => match x with | .tuple t => t[1]? | _ => Option.none) hv; simpa using h1
    subst hok
    have HCS := Hd (tally_cells hv)
    have HDO := Hd hdo
    clear hv hdo
    by_cases hlt : nt = 12
    ·have hno : oweOk ts a c v = false := by have := HN.out; simp [oweOk]; omega
     have HNO := Hd hno
     subst hlt
     clear hno
     go_wp2_with fail
     have hnil := lit_nil_t W3 w.heap.size HBX.out.2.1.size
     have hbn := HBX.out.2.1.alloc HBX.out.2.1.size (.cells #[] 52)
     try go_ret2
     rw [HQ.out]
     exact ⟨⟨_, _, _, by rw [HNO.out]; rfl, by rw [OweL, if_neg (by rw [HNO.out]; decide)]; exact hnil⟩, hbn⟩
    have h12 : ¬ (nt : Int) = 12 := by omega
    have hyes : oweOk ts a c v = true := by have := HN.out; have := HDO.out; simp [oweOk, this]; omega
    have HY := Hd hyes
    clear hyes
    have q0 := HBX.out.1.cell (j := 0) (v := .int .i64 y0) rfl
    have q1 := HBX.out.1.cell (j := 1) (v := .int .i64 y1) rfl
    have q2 := HBX.out.1.cell (j := 2) (v := .string y2) rfl
    have q3 := HBX.out.1.cell (j := 3) (v := .string y3) rfl
    have hblt := HBX.out.1.lt
    go_wp2_with fail
    refine wp_region_held_drew (S := (fun w' => w'.cell? ⟨b, 0, none⟩ = some (.int .i64 y0) ∧ w'.cell? ⟨b, 1, none⟩ = some (.int .i64 y1) ∧ w'.cell? ⟨b, 2, none⟩ = some (.string y2) ∧ w'.cell? ⟨b, 3, none⟩ = some (.string y3))) (by kernel_rfl) ?_ (fun hHeld => ?_)
    ·(try dsimp only)
     all_goals (first | (refine ⟨?_, ?_, ?_, ?_⟩ <;> go_simp) | go_keep)
    refine Tk 1 (some 30) (v := ?v1001) rfl (Or.inl ⟨by rfl, ?hy1001⟩) (by first | assumption | exact hHeld) ?rest1001
    case hy1001 => ((intro w0 hSw; (try dsimp only at hSw); go_simp) <;> with_reducible rfl)
    (try simp only [Tp0, Tp1, Tp2, Tp3, Tp4])
    refine Tk 3 (some 32) (v := ?v1002) rfl (Or.inl ⟨by rfl, ?hy1002⟩) (by first | assumption | exact hHeld) ?rest1002
    case hy1002 => ((intro w0 hSw; (try dsimp only at hSw); go_simp) <;> with_reducible rfl)
    (try simp only [Tp0, Tp1, Tp2, Tp3, Tp4])
    refine wpAnyH_ready (rs := [0, 4]) (by kernel_rfl) (by simp) ?_
    refine AllReadyH.cons (o := ⟨some 29, _, _, _, _, _⟩) rfl (fun K hK => ?_) ?_
    ·go_simp
     refine hK.out _ _ ?_ (fun hHeld1003 => ?_)
     ·(try dsimp only)
      all_goals (first | (refine ⟨?_, ?_, ?_, ?_⟩ <;> go_simp) | go_keep)
     clear hK K
     (try clear hHeld)
     (try simp only [Tp0, Tp1, Tp2, Tp3, Tp4])
     refine wpAnyH_ready (rs := [2, 4]) (by kernel_rfl) (by simp) ?_
     refine AllReadyH.cons (o := ⟨some 31, _, _, _, _, _⟩) rfl (fun K hK => ?_) ?_
     ·rw [if_pos (by rfl)]
      unfold Oper.wp execOp
      simp only [resolve, invoke, builtin, Sem.run_bind, Sem.run_pure, Result.andThen_ok, List.map_toArray, List.map_cons, List.map_nil]
      have hX : Below w.heap.size w ((W3.alloc (.cells #[] 52)).drew) := (HBX.out.2.1.alloc HBX.out.2.1.size (.cells #[] 52)).drew
      have hO : OwnT ((W3.alloc (.cells #[] 52)).drew) w.heap.size (some ⟨W3.heap.size, 0, none⟩) 0 0 [] := by have := (lit_nil_t W3 w.heap.size HBX.out.2.1.size).drew; simpa using this
      obtain ⟨A5, c5, w5, hr, ho5, hg5, hat5⟩ := run_append_ts (c0 := ct) 46 hO (HI.out.next hX) nt (by omega) (by omega) hX.size
      change Oper.upon _ _ _ _ _ ((Sem.run Tryz.prog (Builtin.append_ #[46, 46] 46 #[.slice (some ⟨W3.heap.size, 0, none⟩) 0 0, .slice At nt ct]) ((W3.alloc (.cells #[] 52)).drew)).andThen _)
      rw [hr]
      simp only [Result.andThen_ok]
      rw [Oper.upon_value]
      have hb5 : Below w.heap.size w w5 := hX.grown hg5 hX.size (fun q hq => (hO.blk q hq).1)
      rw [List.nil_append] at ho5
      have hk5 := Blk.grown (HBX.out.1.alloc (.cells #[] 52)).drew hg5 (by intro e; have e : some _ = some _ := e; injection e with e; (try dsimp only at e); omega)
      have hap5 : ∀ q, (Value.slice A5 nt c5).ownBlock = some q → W3.heap.size ≤ q := by
       intro q hq
       have hsz3 := HBX.out.2.1.size
       rcases hat5 with e | e
       ·rw [e] at hq; have hq : some _ = some _ := hq; injection hq with hq; (try dsimp only at hq); omega
       ·rw [e] at hq; injection hq with hq; simp at hq; omega
      have q50 := hk5.cell (j := 0) (v := .int .i64 y0) rfl
      have q51 := hk5.cell (j := 1) (v := .int .i64 y1) rfl
      have q52 := hk5.cell (j := 2) (v := .string y2) rfl
      have q53 := hk5.cell (j := 3) (v := .string y3) rfl
      have hb5lt := hk5.lt
      have HK5 := Hd (And.intro hk5 hap5)
      have HB5 := Hd hb5
      have HO5 := Hd ho5
      clear hX hO hr ho5 hg5 hb5 hk5 hap5 hat5
      refine hK.out _ _ ?_ (fun hHeld1004 => ?_)
      ·(try dsimp only)
       all_goals (first | (refine ⟨?_, ?_, ?_, ?_⟩ <;> go_simp) | go_keep)
      clear hK K
      (try clear hHeld1003)
      (try simp only [Tp0, Tp1, Tp2, Tp3, Tp4])
      refine wpAnyH_ready (rs := [4]) (by kernel_rfl) (by simp) ?_
      refine AllReadyH.cons (o := ⟨some 33, _, _, _, _, _⟩) rfl (fun K hK => ?_) ?_
      ·go_simp
       refine hK.out _ _ ?_ (fun hHeld1005 => ?_)
       ·(try dsimp only)
        all_goals (first | (refine ⟨?_, ?_, ?_, ?_⟩ <;> go_simp) | go_keep)
       clear hK K
       (try clear hHeld1004)
       (try simp only [Tp0, Tp1, Tp2, Tp3, Tp4])
       refine wpAnyH_ready (rs := [5]) (by kernel_rfl) (by simp) ?_
       refine AllReadyH.cons (o := ⟨some 34, _, _, _, _, _⟩) rfl (fun K hK => ?_) ?_
       ·rw [if_pos (by rfl)]
        unfold Oper.wp execOp
        simp only [resolve, invoke, builtin, Sem.run_bind, Sem.run_pure, Result.andThen_ok, List.map_toArray, List.map_cons, List.map_nil]
        have hx := blk_tals (Blk.new w5 #[.int .i64 y0, .int .i64 y1, .string y2, .string y3] 52) HCS.out
        have hbx : Below w.heap.size w (w5.alloc (.cells #[.int .i64 y0, .int .i64 y1, .string y2, .string y3] 52)) := HB5.out.alloc HB5.out.size _
        have hox := HO5.out.alloc (.cells #[.int .i64 y0, .int .i64 y1, .string y2, .string y3] 52)
        obtain ⟨A6, c6, w6, hr, ho6, hg6, -⟩ := run_append_ts (c0 := 1) 46 hox hx (nt + 1) (by omega) (by omega) hbx.size
        have hk6 := Blk.grown (HK5.out.1.alloc (.cells #[.int .i64 y0, .int .i64 y1, .string y2, .string y3] 52)) hg6 (by intro e; have := HK5.out.2 _ e.symm; omega)
        have q60 := hk6.cell (j := 0) (v := .int .i64 y0) rfl
        have q61 := hk6.cell (j := 1) (v := .int .i64 y1) rfl
        have q62 := hk6.cell (j := 2) (v := .string y2) rfl
        have q63 := hk6.cell (j := 3) (v := .string y3) rfl
        clear hk6
        change Oper.upon _ _ _ _ _ ((Sem.run Tryz.prog (Builtin.append_ #[46, 46] 46 #[.slice A5 nt c5, .slice (some ⟨w5.heap.size, 0, none⟩) 1 1]) (w5.alloc (.cells #[.int .i64 y0, .int .i64 y1, .string y2, .string y3] 52))).andThen _)
        rw [hr]
        simp only [Result.andThen_ok]
        rw [Oper.upon_value]
        have hb6 : Below w.heap.size w w6 := hbx.grown hg6 hbx.size (fun q hq => (hox.blk q hq).1)
        have HFIN := Hd (And.intro ho6 hb6)
        clear hr ho6 hg6 hb6 hx hbx hox
        refine hK.out _ _ ?_ (fun hHeld1006 => ?_)
        ·(try dsimp only)
         all_goals (first | (refine ⟨?_, ?_, ?_, ?_⟩ <;> go_simp) | go_keep)
        clear hK K
        (try clear hHeld1005)
        (try simp only [Tp0, Tp1, Tp2, Tp3, Tp4])
        refine Tk 6 (some 4) (v := ?v1007) rfl (Or.inl ⟨by rfl, ?hy1007⟩) (by first | assumption | exact hHeld1006) ?rest1007
        case hy1007 => ((intro w0 hSw; (try dsimp only at hSw); go_simp) <;> with_reducible rfl)
        (try simp only [Tp0, Tp1, Tp2, Tp3, Tp4])
        refine Tk 7 (some 5) (v := ?v1008) rfl (Or.inl ⟨by rfl, ?hy1008⟩) (by first | assumption | exact hHeld1006) ?rest1008
        case hy1008 => ((intro w0 hSw; (try dsimp only at hSw); go_simp) <;> with_reducible rfl)
        (try simp only [Tp0, Tp1, Tp2, Tp3, Tp4])
        refine wpAnyH_done (by kernel_rfl) ?_ _
        go_wp2_with fail
        try go_ret2
        rw [HQ.out]
        exact ⟨⟨_, _, _, by rw [HY.out]; rfl, by rw [OweL, if_pos HY.out]; exact HFIN.out.1⟩, HFIN.out.2⟩
       exact AllReadyH.nil
      exact AllReadyH.nil
     refine AllReadyH.cons (o := ⟨some 33, _, _, _, _, _⟩) rfl (fun K hK => ?_) ?_
     ·go_simp
      refine hK.out _ _ ?_ (fun hHeld1009 => ?_)
      ·(try dsimp only)
       all_goals (first | (refine ⟨?_, ?_, ?_, ?_⟩ <;> go_simp) | go_keep)
      clear hK K
      (try clear hHeld1003)
      (try simp only [Tp0, Tp1, Tp2, Tp3, Tp4])
      refine wpAnyH_ready (rs := [2]) (by kernel_rfl) (by simp) ?_
      refine AllReadyH.cons (o := ⟨some 31, _, _, _, _, _⟩) rfl (fun K hK => ?_) ?_
      ·rw [if_pos (by rfl)]
       unfold Oper.wp execOp
       simp only [resolve, invoke, builtin, Sem.run_bind, Sem.run_pure, Result.andThen_ok, List.map_toArray, List.map_cons, List.map_nil]
       have hX : Below w.heap.size w (((W3.alloc (.cells #[] 52)).alloc (.cells #[.int .i64 y0, .int .i64 y1, .string y2, .string y3] 52)).drew) := ((HBX.out.2.1.alloc HBX.out.2.1.size (.cells #[] 52)).alloc (by have := HBX.out.2.1.size; simp; omega) (.cells #[.int .i64 y0, .int .i64 y1, .string y2, .string y3] 52)).drew
       have hO : OwnT (((W3.alloc (.cells #[] 52)).alloc (.cells #[.int .i64 y0, .int .i64 y1, .string y2, .string y3] 52)).drew) w.heap.size (some ⟨W3.heap.size, 0, none⟩) 0 0 [] := by have := ((lit_nil_t W3 w.heap.size HBX.out.2.1.size).alloc (.cells #[.int .i64 y0, .int .i64 y1, .string y2, .string y3] 52)).drew; simpa using this
       have hKb : Blk (((W3.alloc (.cells #[] 52)).alloc (.cells #[.int .i64 y0, .int .i64 y1, .string y2, .string y3] 52)).drew) (W3.heap.size + 1) #[.int .i64 y0, .int .i64 y1, .string y2, .string y3] 52 := by have := (Blk.new (W3.alloc (.cells #[] 52)) #[.int .i64 y0, .int .i64 y1, .string y2, .string y3] 52).drew; simpa using this
       obtain ⟨A5, c5, w5, hr, ho5, hg5, hat5⟩ := run_append_ts (c0 := ct) 46 hO (HI.out.next hX) nt (by omega) (by omega) hX.size
       change Oper.upon _ _ _ _ _ ((Sem.run Tryz.prog (Builtin.append_ #[46, 46] 46 #[.slice (some ⟨W3.heap.size, 0, none⟩) 0 0, .slice At nt ct]) (((W3.alloc (.cells #[] 52)).alloc (.cells #[.int .i64 y0, .int .i64 y1, .string y2, .string y3] 52)).drew)).andThen _)
       rw [hr]
       simp only [Result.andThen_ok]
       rw [Oper.upon_value]
       have hb5 : Below w.heap.size w w5 := hX.grown hg5 hX.size (fun q hq => (hO.blk q hq).1)
       rw [List.nil_append] at ho5
       have hx5 := hKb.grown hg5 (by intro e; have e : some _ = some _ := e; injection e with e; (try dsimp only at e); omega)
       have HX5 := Hd hx5
       clear hx5 hKb
       have hk5 := Blk.grown ((HBX.out.1.alloc (.cells #[] 52)).alloc (.cells #[.int .i64 y0, .int .i64 y1, .string y2, .string y3] 52)).drew hg5 (by intro e; have e : some _ = some _ := e; injection e with e; (try dsimp only at e); omega)
       have hap5 : ∀ q, (Value.slice A5 nt c5).ownBlock = some q → W3.heap.size ≤ q := by
        intro q hq
        have hsz3 := HBX.out.2.1.size
        rcases hat5 with e | e
        ·rw [e] at hq; have hq : some _ = some _ := hq; injection hq with hq; (try dsimp only at hq); omega
        ·rw [e] at hq; injection hq with hq; simp at hq; omega
       have q50 := hk5.cell (j := 0) (v := .int .i64 y0) rfl
       have q51 := hk5.cell (j := 1) (v := .int .i64 y1) rfl
       have q52 := hk5.cell (j := 2) (v := .string y2) rfl
       have q53 := hk5.cell (j := 3) (v := .string y3) rfl
       have hb5lt := hk5.lt
       have HK5 := Hd (And.intro hk5 hap5)
       have HB5 := Hd hb5
       have HO5 := Hd ho5
       clear hX hO hr ho5 hg5 hb5 hk5 hap5 hat5
       refine hK.out _ _ ?_ (fun hHeld1010 => ?_)
       ·(try dsimp only)
        all_goals (first | (refine ⟨?_, ?_, ?_, ?_⟩ <;> go_simp) | go_keep)
       clear hK K
       (try clear hHeld1009)
       (try simp only [Tp0, Tp1, Tp2, Tp3, Tp4])
       refine wpAnyH_ready (rs := [5]) (by kernel_rfl) (by simp) ?_
       refine AllReadyH.cons (o := ⟨some 34, _, _, _, _, _⟩) rfl (fun K hK => ?_) ?_
       ·rw [if_pos (by rfl)]
        unfold Oper.wp execOp
        simp only [resolve, invoke, builtin, Sem.run_bind, Sem.run_pure, Result.andThen_ok, List.map_toArray, List.map_cons, List.map_nil]
        have hx := blk_tals HX5.out HCS.out
        have hbx := HB5.out
        have hox := HO5.out
        obtain ⟨A6, c6, w6, hr, ho6, hg6, -⟩ := run_append_ts (c0 := 1) 46 hox hx (nt + 1) (by omega) (by omega) hbx.size
        have hk6 := Blk.grown HK5.out.1 hg6 (by intro e; have := HK5.out.2 _ e.symm; omega)
        have q60 := hk6.cell (j := 0) (v := .int .i64 y0) rfl
        have q61 := hk6.cell (j := 1) (v := .int .i64 y1) rfl
        have q62 := hk6.cell (j := 2) (v := .string y2) rfl
        have q63 := hk6.cell (j := 3) (v := .string y3) rfl
        clear hk6
        change Oper.upon _ _ _ _ _ ((Sem.run Tryz.prog (Builtin.append_ #[46, 46] 46 #[.slice A5 nt c5, .slice (some ⟨(W3.heap.size + 1), 0, none⟩) 1 1]) w5).andThen _)
        rw [hr]
        simp only [Result.andThen_ok]
        rw [Oper.upon_value]
        have hb6 : Below w.heap.size w w6 := hbx.grown hg6 hbx.size (fun q hq => (hox.blk q hq).1)
        have HFIN := Hd (And.intro ho6 hb6)
        clear hr ho6 hg6 hb6 hx hbx hox
        refine hK.out _ _ ?_ (fun hHeld1011 => ?_)
        ·(try dsimp only)
         all_goals (first | (refine ⟨?_, ?_, ?_, ?_⟩ <;> go_simp) | go_keep)
        clear hK K
        (try clear hHeld1010)
        (try simp only [Tp0, Tp1, Tp2, Tp3, Tp4])
        refine Tk 6 (some 4) (v := ?v1012) rfl (Or.inl ⟨by rfl, ?hy1012⟩) (by first | assumption | exact hHeld1011) ?rest1012
        case hy1012 => ((intro w0 hSw; (try dsimp only at hSw); go_simp) <;> with_reducible rfl)
        (try simp only [Tp0, Tp1, Tp2, Tp3, Tp4])
        refine Tk 7 (some 5) (v := ?v1013) rfl (Or.inl ⟨by rfl, ?hy1013⟩) (by first | assumption | exact hHeld1011) ?rest1013
        case hy1013 => ((intro w0 hSw; (try dsimp only at hSw); go_simp) <;> with_reducible rfl)
        (try simp only [Tp0, Tp1, Tp2, Tp3, Tp4])
        refine wpAnyH_done (by kernel_rfl) ?_ _
        go_wp2_with fail
        try go_ret2
        rw [HQ.out]
        exact ⟨⟨_, _, _, by rw [HY.out]; rfl, by rw [OweL, if_pos HY.out]; exact HFIN.out.1⟩, HFIN.out.2⟩
       exact AllReadyH.nil
      exact AllReadyH.nil
     exact AllReadyH.nil
    refine AllReadyH.cons (o := ⟨some 33, _, _, _, _, _⟩) rfl (fun K hK => ?_) ?_
    ·go_simp
     refine hK.out _ _ ?_ (fun hHeld1014 => ?_)
     ·(try dsimp only)
      all_goals (first | (refine ⟨?_, ?_, ?_, ?_⟩ <;> go_simp) | go_keep)
     clear hK K
     (try clear hHeld)
     (try simp only [Tp0, Tp1, Tp2, Tp3, Tp4])
     refine wpAnyH_ready (rs := [0]) (by kernel_rfl) (by simp) ?_
     refine AllReadyH.cons (o := ⟨some 29, _, _, _, _, _⟩) rfl (fun K hK => ?_) ?_
     ·go_simp
      refine hK.out _ _ ?_ (fun hHeld1015 => ?_)
      ·(try dsimp only)
       all_goals (first | (refine ⟨?_, ?_, ?_, ?_⟩ <;> go_simp) | go_keep)
      clear hK K
      (try clear hHeld1014)
      (try simp only [Tp0, Tp1, Tp2, Tp3, Tp4])
      refine wpAnyH_ready (rs := [2]) (by kernel_rfl) (by simp) ?_
      refine AllReadyH.cons (o := ⟨some 31, _, _, _, _, _⟩) rfl (fun K hK => ?_) ?_
      ·rw [if_pos (by rfl)]
       unfold Oper.wp execOp
       simp only [resolve, invoke, builtin, Sem.run_bind, Sem.run_pure, Result.andThen_ok, List.map_toArray, List.map_cons, List.map_nil]
       have hX : Below w.heap.size w (((W3.alloc (.cells #[.int .i64 y0, .int .i64 y1, .string y2, .string y3] 52)).alloc (.cells #[] 52)).drew) := ((HBX.out.2.1.alloc HBX.out.2.1.size (.cells #[.int .i64 y0, .int .i64 y1, .string y2, .string y3] 52)).alloc (by have := HBX.out.2.1.size; simp; omega) (.cells #[] 52)).drew
       have hO : OwnT (((W3.alloc (.cells #[.int .i64 y0, .int .i64 y1, .string y2, .string y3] 52)).alloc (.cells #[] 52)).drew) w.heap.size (some ⟨(W3.heap.size + 1), 0, none⟩) 0 0 [] := by have := (lit_nil_t (W3.alloc (.cells #[.int .i64 y0, .int .i64 y1, .string y2, .string y3] 52)) w.heap.size (by have := HBX.out.2.1.size; simp; omega)).drew; simpa using this
       have hKb : Blk (((W3.alloc (.cells #[.int .i64 y0, .int .i64 y1, .string y2, .string y3] 52)).alloc (.cells #[] 52)).drew) W3.heap.size #[.int .i64 y0, .int .i64 y1, .string y2, .string y3] 52 := by have := ((Blk.new W3 #[.int .i64 y0, .int .i64 y1, .string y2, .string y3] 52).alloc (.cells #[] 52)).drew; simpa using this
       obtain ⟨A5, c5, w5, hr, ho5, hg5, hat5⟩ := run_append_ts (c0 := ct) 46 hO (HI.out.next hX) nt (by omega) (by omega) hX.size
       change Oper.upon _ _ _ _ _ ((Sem.run Tryz.prog (Builtin.append_ #[46, 46] 46 #[.slice (some ⟨(W3.heap.size + 1), 0, none⟩) 0 0, .slice At nt ct]) (((W3.alloc (.cells #[.int .i64 y0, .int .i64 y1, .string y2, .string y3] 52)).alloc (.cells #[] 52)).drew)).andThen _)
       rw [hr]
       simp only [Result.andThen_ok]
       rw [Oper.upon_value]
       have hb5 : Below w.heap.size w w5 := hX.grown hg5 hX.size (fun q hq => (hO.blk q hq).1)
       rw [List.nil_append] at ho5
       have hx5 := hKb.grown hg5 (by intro e; have e : some _ = some _ := e; injection e with e; (try dsimp only at e); omega)
       have HX5 := Hd hx5
       clear hx5 hKb
       have hk5 := Blk.grown ((HBX.out.1.alloc (.cells #[.int .i64 y0, .int .i64 y1, .string y2, .string y3] 52)).alloc (.cells #[] 52)).drew hg5 (by intro e; have e : some _ = some _ := e; injection e with e; (try dsimp only at e); omega)
       have hap5 : ∀ q, (Value.slice A5 nt c5).ownBlock = some q → W3.heap.size ≤ q := by
        intro q hq
        have hsz3 := HBX.out.2.1.size
        rcases hat5 with e | e
        ·rw [e] at hq; have hq : some _ = some _ := hq; injection hq with hq; (try dsimp only at hq); omega
        ·rw [e] at hq; injection hq with hq; simp at hq; omega
       have q50 := hk5.cell (j := 0) (v := .int .i64 y0) rfl
       have q51 := hk5.cell (j := 1) (v := .int .i64 y1) rfl
       have q52 := hk5.cell (j := 2) (v := .string y2) rfl
       have q53 := hk5.cell (j := 3) (v := .string y3) rfl
       have hb5lt := hk5.lt
       have HK5 := Hd (And.intro hk5 hap5)
       have HB5 := Hd hb5
       have HO5 := Hd ho5
       clear hX hO hr ho5 hg5 hb5 hk5 hap5 hat5
       refine hK.out _ _ ?_ (fun hHeld1016 => ?_)
       ·(try dsimp only)
        all_goals (first | (refine ⟨?_, ?_, ?_, ?_⟩ <;> go_simp) | go_keep)
       clear hK K
       (try clear hHeld1015)
       (try simp only [Tp0, Tp1, Tp2, Tp3, Tp4])
       refine wpAnyH_ready (rs := [5]) (by kernel_rfl) (by simp) ?_
       refine AllReadyH.cons (o := ⟨some 34, _, _, _, _, _⟩) rfl (fun K hK => ?_) ?_
       ·rw [if_pos (by rfl)]
        unfold Oper.wp execOp
        simp only [resolve, invoke, builtin, Sem.run_bind, Sem.run_pure, Result.andThen_ok, List.map_toArray, List.map_cons, List.map_nil]
        have hx := blk_tals HX5.out HCS.out
        have hbx := HB5.out
        have hox := HO5.out
        obtain ⟨A6, c6, w6, hr, ho6, hg6, -⟩ := run_append_ts (c0 := 1) 46 hox hx (nt + 1) (by omega) (by omega) hbx.size
        have hk6 := Blk.grown HK5.out.1 hg6 (by intro e; have := HK5.out.2 _ e.symm; omega)
        have q60 := hk6.cell (j := 0) (v := .int .i64 y0) rfl
        have q61 := hk6.cell (j := 1) (v := .int .i64 y1) rfl
        have q62 := hk6.cell (j := 2) (v := .string y2) rfl
        have q63 := hk6.cell (j := 3) (v := .string y3) rfl
        clear hk6
        change Oper.upon _ _ _ _ _ ((Sem.run Tryz.prog (Builtin.append_ #[46, 46] 46 #[.slice A5 nt c5, .slice (some ⟨W3.heap.size, 0, none⟩) 1 1]) w5).andThen _)
        rw [hr]
        simp only [Result.andThen_ok]
        rw [Oper.upon_value]
        have hb6 : Below w.heap.size w w6 := hbx.grown hg6 hbx.size (fun q hq => (hox.blk q hq).1)
        have HFIN := Hd (And.intro ho6 hb6)
        clear hr ho6 hg6 hb6 hx hbx hox
        refine hK.out _ _ ?_ (fun hHeld1017 => ?_)
        ·(try dsimp only)
         all_goals (first | (refine ⟨?_, ?_, ?_, ?_⟩ <;> go_simp) | go_keep)
        clear hK K
        (try clear hHeld1016)
        (try simp only [Tp0, Tp1, Tp2, Tp3, Tp4])
        refine Tk 6 (some 4) (v := ?v1018) rfl (Or.inl ⟨by rfl, ?hy1018⟩) (by first | assumption | exact hHeld1017) ?rest1018
        case hy1018 => ((intro w0 hSw; (try dsimp only at hSw); go_simp) <;> with_reducible rfl)
        (try simp only [Tp0, Tp1, Tp2, Tp3, Tp4])
        refine Tk 7 (some 5) (v := ?v1019) rfl (Or.inl ⟨by rfl, ?hy1019⟩) (by first | assumption | exact hHeld1017) ?rest1019
        case hy1019 => ((intro w0 hSw; (try dsimp only at hSw); go_simp) <;> with_reducible rfl)
        (try simp only [Tp0, Tp1, Tp2, Tp3, Tp4])
        refine wpAnyH_done (by kernel_rfl) ?_ _
        go_wp2_with fail
        try go_ret2
        rw [HQ.out]
        exact ⟨⟨_, _, _, by rw [HY.out]; rfl, by rw [OweL, if_pos HY.out]; exact HFIN.out.1⟩, HFIN.out.2⟩
       exact AllReadyH.nil
      exact AllReadyH.nil
     exact AllReadyH.nil
    exact AllReadyH.nil
   exact AllReadyH.nil
  exact AllReadyH.nil
 refine AllReadyH.cons (o := ⟨some 6, _, _, _, _, _⟩) rfl (fun K hK => ?_) ?_
 ·go_simp
  refine hK.out _ _ ?_ (fun hHeld17 => ?_)
  ·(try dsimp only)
   all_goals (first | (refine ⟨?_, ?_, ?_⟩ <;> go_simp) | go_keep)
  clear hK K
  (try clear hHeld)
  (try simp only [Tp0, Tp1, Tp2, Tp3, Tp4])
  refine wpAnyH_ready (rs := [9]) (by kernel_rfl) (by simp) ?_
  refine AllReadyH.cons (o := ⟨some 18, _, _, _, _, _⟩) rfl (fun K hK => ?_) ?_
  ·go_simp
   refine (specTallyNew_any a c v _).mono ?_
   rintro e w2 ⟨hcase, hb2⟩
   obtain ⟨y0, y1, y2, y3, ok, rfl, hx⟩ := tal_res hcase
   have HX := Hd hx
   clear hcase hx
   have hbw : Below w.heap.size w w2 := ((Below.refl w.heap.size w).alloc (Nat.le_refl _) (.cells #[.int .i64 0, .int .i64 0, .string ⟨#[]⟩, .string ⟨#[]⟩] 52)).drew.trans (hb2.mono (by simp))
   have hT1 := (Blk.drew (Blk.new w #[.int .i64 0, .int .i64 0, .string ⟨#[]⟩, .string ⟨#[]⟩] 52)).next hb2
   have f0 := hT1.free 0
   have f1 := hT1.free 1
   have f2 := hT1.free 2
   have f3 := hT1.free 3
   have t0 := hT1.cell (j := 0) (v := .int .i64 0) rfl
   have t1 := hT1.cell (j := 1) (v := .int .i64 0) rfl
   have t2 := hT1.cell (j := 2) (v := .string ⟨#[]⟩) rfl
   have t3 := hT1.cell (j := 3) (v := .string ⟨#[]⟩) rfl
   have e0 := (hbw.cell (p := ⟨g, 0, none⟩) hg).trans d0
   have e1 := (hbw.cell (p := ⟨g, 1, none⟩) hg).trans d1
   have e2 := (hbw.cell (p := ⟨g, 2, none⟩) hg).trans d2
   have hg2 : g < w2.heap.size := Nat.lt_of_lt_of_le hg hbw.size
   (try go_wp2_with fail)
   refine hK.out _ _ ?_ (fun hHeld18 => ?_)
   ·(try dsimp only)
    all_goals (first | (refine ⟨?_, ?_, ?_⟩ <;> go_simp) | go_keep)
   clear hK K
   (try clear hHeld17)
   (try simp only [Tp0, Tp1, Tp2, Tp3, Tp4])
   refine Tk 10 (some 8) (v := ?v19) rfl (Or.inl ⟨by rfl, ?hy19⟩) (by first | assumption | exact hHeld18) ?rest19
   case hy19 => ((intro w0 hSw; (try dsimp only at hSw); go_simp) <;> with_reducible rfl)
   (try simp only [Tp0, Tp1, Tp2, Tp3, Tp4])
   refine Tk 11 (some 19) (v := ?v20) rfl (Or.inl ⟨by rfl, ?hy20⟩) (by first | assumption | exact hHeld18) ?rest20
   case hy20 => ((intro w0 hSw; (try dsimp only at hSw); go_simp) <;> with_reducible rfl)
   (try simp only [Tp0, Tp1, Tp2, Tp3, Tp4])
   refine Tk 12 (some 20) (v := ?v21) rfl (Or.inl ⟨by rfl, ?hy21⟩) (by first | assumption | exact hHeld18) ?rest21
   case hy21 => ((intro w0 hSw; (try dsimp only at hSw); go_simp) <;> with_reducible rfl)
   (try simp only [Tp0, Tp1, Tp2, Tp3, Tp4])
   refine wpAnyH_ready (rs := [14]) (by kernel_rfl) (by simp) ?_
   refine AllReadyH.cons (o := ⟨none, _, _, _, _, _⟩) rfl (fun K hK => ?_) ?_
   ·go_simp
    refine hK.out _ _ ?_ (fun hHeld22 => ?_)
    ·(try dsimp only)
     all_goals (first | (refine ⟨?_, ?_, ?_⟩ <;> go_simp) | go_keep)
    clear hK K
    (try clear hHeld18)
    (try simp only [Tp0, Tp1, Tp2, Tp3, Tp4])
    refine Tk 15 (some 7) (v := ?v23) rfl (Or.inl ⟨by rfl, ?hy23⟩) (by first | assumption | exact hHeld22) ?rest23
    case hy23 => ((intro w0 hSw; (try dsimp only at hSw); go_simp) <;> with_reducible rfl)
    (try simp only [Tp0, Tp1, Tp2, Tp3, Tp4])
    refine wpAnyH_done (by kernel_rfl) ?_ _
    obtain ⟨W3, hW3⟩ : ∃ V, (((w2.setCell ⟨w.heap.size, 0, none⟩ (.int .i64 y0)).setCell ⟨w.heap.size, 1, none⟩ (.int .i64 y1)).setCell ⟨w.heap.size, 2, none⟩ (.string y2)).setCell ⟨w.heap.size, 3, none⟩ (.string y3) = V := ⟨_, rfl⟩
    have hbox : Blk W3 w.heap.size #[.int .i64 y0, .int .i64 y1, .string y2, .string y3] 52 := by rw [← hW3]; exact hT1.set4 (.int .i64 y0) (.int .i64 y1) (.string y2) (.string y3)
    have hbl : Below w.heap.size w W3 := by rw [← hW3]; exact below_set4 hbw (Nat.le_refl _) (.int .i64 y0) (.int .i64 y1) (.string y2) (.string y3)
    rw [hW3]
    clear hT1 f0 f1 f2 f3 t0 t1 t2 t3
    obtain ⟨b, hb⟩ : ∃ b, w.heap.size = b := ⟨_, rfl⟩
    rw [hb] at hbox ⊢
    have HBX := Hd (And.intro hbox (And.intro hbl trivial))
    clear hbox hbl hbw hb2 hW3 hb e0 e1 e2 hg2
    rcases HX.out with ⟨hdo, hv⟩ | ⟨hdo, hv⟩
    rotate_left
    ·have hno : oweOk ts a c v = false := by simp [oweOk, hdo]
     have hok : ok = false := by have h1 := congrArg (fun x : Value => match x with | .tuple t => t[1]? | _ => Option.none) hv; simpa using h1
     subst hok
     have HNO := Hd hno
     clear hno hv hdo
     go_wp2_with fail
     have hnil := lit_nil_t W3 w.heap.size HBX.out.2.1.size
     have hbn := HBX.out.2.1.alloc HBX.out.2.1.size (.cells #[] 52)
     try go_ret2
     rw [HQ.out]
     exact ⟨⟨_, _, _, by rw [HNO.out]; rfl, by rw [OweL, if_neg (by rw [HNO.out]; decide)]; exact hnil⟩, hbn⟩
    have hok : ok = true := by have h1 := congrArg (fun x : Value => match x with | .tuple t => t[1]? | _ => Option.none) hv; simpa using h1
    subst hok
    have HCS := Hd (tally_cells hv)
    have HDO := Hd hdo
    clear hv hdo
    by_cases hlt : nt = 12
    ·have hno : oweOk ts a c v = false := by have := HN.out; simp [oweOk]; omega
     have HNO := Hd hno
     subst hlt
     clear hno
     go_wp2_with fail
     have hnil := lit_nil_t W3 w.heap.size HBX.out.2.1.size
     have hbn := HBX.out.2.1.alloc HBX.out.2.1.size (.cells #[] 52)
     try go_ret2
     rw [HQ.out]
     exact ⟨⟨_, _, _, by rw [HNO.out]; rfl, by rw [OweL, if_neg (by rw [HNO.out]; decide)]; exact hnil⟩, hbn⟩
    have h12 : ¬ (nt : Int) = 12 := by omega
    have hyes : oweOk ts a c v = true := by have := HN.out; have := HDO.out; simp [oweOk, this]; omega
    have HY := Hd hyes
    clear hyes
    have q0 := HBX.out.1.cell (j := 0) (v := .int .i64 y0) rfl
    have q1 := HBX.out.1.cell (j := 1) (v := .int .i64 y1) rfl
    have q2 := HBX.out.1.cell (j := 2) (v := .string y2) rfl
    have q3 := HBX.out.1.cell (j := 3) (v := .string y3) rfl
    have hblt := HBX.out.1.lt
    go_wp2_with fail
    refine wp_region_held_drew (S := (fun w' => w'.cell? ⟨b, 0, none⟩ = some (.int .i64 y0) ∧ w'.cell? ⟨b, 1, none⟩ = some (.int .i64 y1) ∧ w'.cell? ⟨b, 2, none⟩ = some (.string y2) ∧ w'.cell? ⟨b, 3, none⟩ = some (.string y3))) (by kernel_rfl) ?_ (fun hHeld => ?_)
    ·(try dsimp only)
     all_goals (first | (refine ⟨?_, ?_, ?_, ?_⟩ <;> go_simp) | go_keep)
    refine Tk 1 (some 30) (v := ?v1020) rfl (Or.inl ⟨by rfl, ?hy1020⟩) (by first | assumption | exact hHeld) ?rest1020
    case hy1020 => ((intro w0 hSw; (try dsimp only at hSw); go_simp) <;> with_reducible rfl)
    (try simp only [Tp0, Tp1, Tp2, Tp3, Tp4])
    refine Tk 3 (some 32) (v := ?v1021) rfl (Or.inl ⟨by rfl, ?hy1021⟩) (by first | assumption | exact hHeld) ?rest1021
    case hy1021 => ((intro w0 hSw; (try dsimp only at hSw); go_simp) <;> with_reducible rfl)
    (try simp only [Tp0, Tp1, Tp2, Tp3, Tp4])
    refine wpAnyH_ready (rs := [0, 4]) (by kernel_rfl) (by simp) ?_
    refine AllReadyH.cons (o := ⟨some 29, _, _, _, _, _⟩) rfl (fun K hK => ?_) ?_
    ·go_simp
     refine hK.out _ _ ?_ (fun hHeld1022 => ?_)
     ·(try dsimp only)
      all_goals (first | (refine ⟨?_, ?_, ?_, ?_⟩ <;> go_simp) | go_keep)
     clear hK K
     (try clear hHeld)
     (try simp only [Tp0, Tp1, Tp2, Tp3, Tp4])
     refine wpAnyH_ready (rs := [2, 4]) (by kernel_rfl) (by simp) ?_
     refine AllReadyH.cons (o := ⟨some 31, _, _, _, _, _⟩) rfl (fun K hK => ?_) ?_
     ·rw [if_pos (by rfl)]
      unfold Oper.wp execOp
      simp only [resolve, invoke, builtin, Sem.run_bind, Sem.run_pure, Result.andThen_ok, List.map_toArray, List.map_cons, List.map_nil]
      have hX : Below w.heap.size w ((W3.alloc (.cells #[] 52)).drew) := (HBX.out.2.1.alloc HBX.out.2.1.size (.cells #[] 52)).drew
      have hO : OwnT ((W3.alloc (.cells #[] 52)).drew) w.heap.size (some ⟨W3.heap.size, 0, none⟩) 0 0 [] := by have := (lit_nil_t W3 w.heap.size HBX.out.2.1.size).drew; simpa using this
      obtain ⟨A5, c5, w5, hr, ho5, hg5, hat5⟩ := run_append_ts (c0 := ct) 46 hO (HI.out.next hX) nt (by omega) (by omega) hX.size
      change Oper.upon _ _ _ _ _ ((Sem.run Tryz.prog (Builtin.append_ #[46, 46] 46 #[.slice (some ⟨W3.heap.size, 0, none⟩) 0 0, .slice At nt ct]) ((W3.alloc (.cells #[] 52)).drew)).andThen _)
      rw [hr]
      simp only [Result.andThen_ok]
      rw [Oper.upon_value]
      have hb5 : Below w.heap.size w w5 := hX.grown hg5 hX.size (fun q hq => (hO.blk q hq).1)
      rw [List.nil_append] at ho5
      have hk5 := Blk.grown (HBX.out.1.alloc (.cells #[] 52)).drew hg5 (by intro e; have e : some _ = some _ := e; injection e with e; (try dsimp only at e); omega)
      have hap5 : ∀ q, (Value.slice A5 nt c5).ownBlock = some q → W3.heap.size ≤ q := by
       intro q hq
       have hsz3 := HBX.out.2.1.size
       rcases hat5 with e | e
       ·rw [e] at hq; have hq : some _ = some _ := hq; injection hq with hq; (try dsimp only at hq); omega
       ·rw [e] at hq; injection hq with hq; simp at hq; omega
      have q50 := hk5.cell (j := 0) (v := .int .i64 y0) rfl
      have q51 := hk5.cell (j := 1) (v := .int .i64 y1) rfl
      have q52 := hk5.cell (j := 2) (v := .string y2) rfl
      have q53 := hk5.cell (j := 3) (v := .string y3) rfl
      have hb5lt := hk5.lt
      have HK5 := Hd (And.intro hk5 hap5)
      have HB5 := Hd hb5
      have HO5 := Hd ho5
      clear hX hO hr ho5 hg5 hb5 hk5 hap5 hat5
      refine hK.out _ _ ?_ (fun hHeld1023 => ?_)
      ·(try dsimp only)
       all_goals (first | (refine ⟨?_, ?_, ?_, ?_⟩ <;> go_simp) | go_keep)
      clear hK K
      (try clear hHeld1022)
      (try simp only [Tp0, Tp1, Tp2, Tp3, Tp4])
      refine wpAnyH_ready (rs := [4]) (by kernel_rfl) (by simp) ?_
      refine AllReadyH.cons (o := ⟨some 33, _, _, _, _, _⟩) rfl (fun K hK => ?_) ?_
      ·go_simp
       refine hK.out _ _ ?_ (fun hHeld1024 => ?_)
       ·(try dsimp only)
        all_goals (first | (refine ⟨?_, ?_, ?_, ?_⟩ <;> go_simp) | go_keep)
       clear hK K
       (try clear hHeld1023)
       (try simp only [Tp0, Tp1, Tp2, Tp3, Tp4])
       refine wpAnyH_ready (rs := [5]) (by kernel_rfl) (by simp) ?_
       refine AllReadyH.cons (o := ⟨some 34, _, _, _, _, _⟩) rfl (fun K hK => ?_) ?_
       ·rw [if_pos (by rfl)]
        unfold Oper.wp execOp
        simp only [resolve, invoke, builtin, Sem.run_bind, Sem.run_pure, Result.andThen_ok, List.map_toArray, List.map_cons, List.map_nil]
        have hx := blk_tals (Blk.new w5 #[.int .i64 y0, .int .i64 y1, .string y2, .string y3] 52) HCS.out
        have hbx : Below w.heap.size w (w5.alloc (.cells #[.int .i64 y0, .int .i64 y1, .string y2, .string y3] 52)) := HB5.out.alloc HB5.out.size _
        have hox := HO5.out.alloc (.cells #[.int .i64 y0, .int .i64 y1, .string y2, .string y3] 52)
        obtain ⟨A6, c6, w6, hr, ho6, hg6, -⟩ := run_append_ts (c0 := 1) 46 hox hx (nt + 1) (by omega) (by omega) hbx.size
        have hk6 := Blk.grown (HK5.out.1.alloc (.cells #[.int .i64 y0, .int .i64 y1, .string y2, .string y3] 52)) hg6 (by intro e; have := HK5.out.2 _ e.symm; omega)
        have q60 := hk6.cell (j := 0) (v := .int .i64 y0) rfl
        have q61 := hk6.cell (j := 1) (v := .int .i64 y1) rfl
        have q62 := hk6.cell (j := 2) (v := .string y2) rfl
        have q63 := hk6.cell (j := 3) (v := .string y3) rfl
        clear hk6
        change Oper.upon _ _ _ _ _ ((Sem.run Tryz.prog (Builtin.append_ #[46, 46] 46 #[.slice A5 nt c5, .slice (some ⟨w5.heap.size, 0, none⟩) 1 1]) (w5.alloc (.cells #[.int .i64 y0, .int .i64 y1, .string y2, .string y3] 52))).andThen _)
        rw [hr]
        simp only [Result.andThen_ok]
        rw [Oper.upon_value]
        have hb6 : Below w.heap.size w w6 := hbx.grown hg6 hbx.size (fun q hq => (hox.blk q hq).1)
        have HFIN := Hd (And.intro ho6 hb6)
        clear hr ho6 hg6 hb6 hx hbx hox
        refine hK.out _ _ ?_ (fun hHeld1025 => ?_)
        ·(try dsimp only)
         all_goals (first | (refine ⟨?_, ?_, ?_, ?_⟩ <;> go_simp) | go_keep)
        clear hK K
        (try clear hHeld1024)
        (try simp only [Tp0, Tp1, Tp2, Tp3, Tp4])
        refine Tk 6 (some 4) (v := ?v1026) rfl (Or.inl ⟨by rfl, ?hy1026⟩) (by first | assumption | exact hHeld1025) ?rest1026
        case hy1026 => ((intro w0 hSw; (try dsimp only at hSw); go_simp) <;> with_reducible rfl)
        (try simp only [Tp0, Tp1, Tp2, Tp3, Tp4])
        refine Tk 7 (some 5) (v := ?v1027) rfl (Or.inl ⟨by rfl, ?hy1027⟩) (by first | assumption | exact hHeld1025) ?rest1027
        case hy1027 => ((intro w0 hSw; (try dsimp only at hSw); go_simp) <;> with_reducible rfl)
        (try simp only [Tp0, Tp1, Tp2, Tp3, Tp4])
        refine wpAnyH_done (by kernel_rfl) ?_ _
        go_wp2_with fail
        try go_ret2
        rw [HQ.out]
        exact ⟨⟨_, _, _, by rw [HY.out]; rfl, by rw [OweL, if_pos HY.out]; exact HFIN.out.1⟩, HFIN.out.2⟩
       exact AllReadyH.nil
      exact AllReadyH.nil
     refine AllReadyH.cons (o := ⟨some 33, _, _, _, _, _⟩) rfl (fun K hK => ?_) ?_
     ·go_simp
      refine hK.out _ _ ?_ (fun hHeld1028 => ?_)
      ·(try dsimp only)
       all_goals (first | (refine ⟨?_, ?_, ?_, ?_⟩ <;> go_simp) | go_keep)
      clear hK K
      (try clear hHeld1022)
      (try simp only [Tp0, Tp1, Tp2, Tp3, Tp4])
      refine wpAnyH_ready (rs := [2]) (by kernel_rfl) (by simp) ?_
      refine AllReadyH.cons (o := ⟨some 31, _, _, _, _, _⟩) rfl (fun K hK => ?_) ?_
      ·rw [if_pos (by rfl)]
       unfold Oper.wp execOp
       simp only [resolve, invoke, builtin, Sem.run_bind, Sem.run_pure, Result.andThen_ok, List.map_toArray, List.map_cons, List.map_nil]
       have hX : Below w.heap.size w (((W3.alloc (.cells #[] 52)).alloc (.cells #[.int .i64 y0, .int .i64 y1, .string y2, .string y3] 52)).drew) := ((HBX.out.2.1.alloc HBX.out.2.1.size (.cells #[] 52)).alloc (by have := HBX.out.2.1.size; simp; omega) (.cells #[.int .i64 y0, .int .i64 y1, .string y2, .string y3] 52)).drew
       have hO : OwnT (((W3.alloc (.cells #[] 52)).alloc (.cells #[.int .i64 y0, .int .i64 y1, .string y2, .string y3] 52)).drew) w.heap.size (some ⟨W3.heap.size, 0, none⟩) 0 0 [] := by have := ((lit_nil_t W3 w.heap.size HBX.out.2.1.size).alloc (.cells #[.int .i64 y0, .int .i64 y1, .string y2, .string y3] 52)).drew; simpa using this
       have hKb : Blk (((W3.alloc (.cells #[] 52)).alloc (.cells #[.int .i64 y0, .int .i64 y1, .string y2, .string y3] 52)).drew) (W3.heap.size + 1) #[.int .i64 y0, .int .i64 y1, .string y2, .string y3] 52 := by have := (Blk.new (W3.alloc (.cells #[] 52)) #[.int .i64 y0, .int .i64 y1, .string y2, .string y3] 52).drew; simpa using this
       obtain ⟨A5, c5, w5, hr, ho5, hg5, hat5⟩ := run_append_ts (c0 := ct) 46 hO (HI.out.next hX) nt (by omega) (by omega) hX.size
       change Oper.upon _ _ _ _ _ ((Sem.run Tryz.prog (Builtin.append_ #[46, 46] 46 #[.slice (some ⟨W3.heap.size, 0, none⟩) 0 0, .slice At nt ct]) (((W3.alloc (.cells #[] 52)).alloc (.cells #[.int .i64 y0, .int .i64 y1, .string y2, .string y3] 52)).drew)).andThen _)
       rw [hr]
       simp only [Result.andThen_ok]
       rw [Oper.upon_value]
       have hb5 : Below w.heap.size w w5 := hX.grown hg5 hX.size (fun q hq => (hO.blk q hq).1)
       rw [List.nil_append] at ho5
       have hx5 := hKb.grown hg5 (by intro e; have e : some _ = some _ := e; injection e with e; (try dsimp only at e); omega)
       have HX5 := Hd hx5
       clear hx5 hKb
       have hk5 := Blk.grown ((HBX.out.1.alloc (.cells #[] 52)).alloc (.cells #[.int .i64 y0, .int .i64 y1, .string y2, .string y3] 52)).drew hg5 (by intro e; have e : some _ = some _ := e; injection e with e; (try dsimp only at e); omega)
       have hap5 : ∀ q, (Value.slice A5 nt c5).ownBlock = some q → W3.heap.size ≤ q := by
        intro q hq
        have hsz3 := HBX.out.2.1.size
        rcases hat5 with e | e
        ·rw [e] at hq; have hq : some _ = some _ := hq; injection hq with hq; (try dsimp only at hq); omega
        ·rw [e] at hq; injection hq with hq; simp at hq; omega
       have q50 := hk5.cell (j := 0) (v := .int .i64 y0) rfl
       have q51 := hk5.cell (j := 1) (v := .int .i64 y1) rfl
       have q52 := hk5.cell (j := 2) (v := .string y2) rfl
       have q53 := hk5.cell (j := 3) (v := .string y3) rfl
       have hb5lt := hk5.lt
       have HK5 := Hd (And.intro hk5 hap5)
       have HB5 := Hd hb5
       have HO5 := Hd ho5
       clear hX hO hr ho5 hg5 hb5 hk5 hap5 hat5
       refine hK.out _ _ ?_ (fun hHeld1029 => ?_)
       ·(try dsimp only)
        all_goals (first | (refine ⟨?_, ?_, ?_, ?_⟩ <;> go_simp) | go_keep)
       clear hK K
       (try clear hHeld1028)
       (try simp only [Tp0, Tp1, Tp2, Tp3, Tp4])
       refine wpAnyH_ready (rs := [5]) (by kernel_rfl) (by simp) ?_
       refine AllReadyH.cons (o := ⟨some 34, _, _, _, _, _⟩) rfl (fun K hK => ?_) ?_
       ·rw [if_pos (by rfl)]
        unfold Oper.wp execOp
        simp only [resolve, invoke, builtin, Sem.run_bind, Sem.run_pure, Result.andThen_ok, List.map_toArray, List.map_cons, List.map_nil]
        have hx := blk_tals HX5.out HCS.out
        have hbx := HB5.out
        have hox := HO5.out
        obtain ⟨A6, c6, w6, hr, ho6, hg6, -⟩ := run_append_ts (c0 := 1) 46 hox hx (nt + 1) (by omega) (by omega) hbx.size
        have hk6 := Blk.grown HK5.out.1 hg6 (by intro e; have := HK5.out.2 _ e.symm; omega)
        have q60 := hk6.cell (j := 0) (v := .int .i64 y0) rfl
        have q61 := hk6.cell (j := 1) (v := .int .i64 y1) rfl
        have q62 := hk6.cell (j := 2) (v := .string y2) rfl
        have q63 := hk6.cell (j := 3) (v := .string y3) rfl
        clear hk6
        change Oper.upon _ _ _ _ _ ((Sem.run Tryz.prog (Builtin.append_ #[46, 46] 46 #[.slice A5 nt c5, .slice (some ⟨(W3.heap.size + 1), 0, none⟩) 1 1]) w5).andThen _)
        rw [hr]
        simp only [Result.andThen_ok]
        rw [Oper.upon_value]
        have hb6 : Below w.heap.size w w6 := hbx.grown hg6 hbx.size (fun q hq => (hox.blk q hq).1)
        have HFIN := Hd (And.intro ho6 hb6)
        clear hr ho6 hg6 hb6 hx hbx hox
        refine hK.out _ _ ?_ (fun hHeld1030 => ?_)
        ·(try dsimp only)
         all_goals (first | (refine ⟨?_, ?_, ?_, ?_⟩ <;> go_simp) | go_keep)
        clear hK K
        (try clear hHeld1029)
        (try simp only [Tp0, Tp1, Tp2, Tp3, Tp4])
        refine Tk 6 (some 4) (v := ?v1031) rfl (Or.inl ⟨by rfl, ?hy1031⟩) (by first | assumption | exact hHeld1030) ?rest1031
        case hy1031 => ((intro w0 hSw; (try dsimp only at hSw); go_simp) <;> with_reducible rfl)
        (try simp only [Tp0, Tp1, Tp2, Tp3, Tp4])
        refine Tk 7 (some 5) (v := ?v1032) rfl (Or.inl ⟨by rfl, ?hy1032⟩) (by first | assumption | exact hHeld1030) ?rest1032
        case hy1032 => ((intro w0 hSw; (try dsimp only at hSw); go_simp) <;> with_reducible rfl)
        (try simp only [Tp0, Tp1, Tp2, Tp3, Tp4])
        refine wpAnyH_done (by kernel_rfl) ?_ _
        go_wp2_with fail
        try go_ret2
        rw [HQ.out]
        exact ⟨⟨_, _, _, by rw [HY.out]; rfl, by rw [OweL, if_pos HY.out]; exact HFIN.out.1⟩, HFIN.out.2⟩
       exact AllReadyH.nil
      exact AllReadyH.nil
     exact AllReadyH.nil
    refine AllReadyH.cons (o := ⟨some 33, _, _, _, _, _⟩) rfl (fun K hK => ?_) ?_
    ·go_simp
     refine hK.out _ _ ?_ (fun hHeld1033 => ?_)
     ·(try dsimp only)
      all_goals (first | (refine ⟨?_, ?_, ?_, ?_⟩ <;> go_simp) | go_keep)
     clear hK K
     (try clear hHeld)
     (try simp only [Tp0, Tp1, Tp2, Tp3, Tp4])
     refine wpAnyH_ready (rs := [0]) (by kernel_rfl) (by simp) ?_
     refine AllReadyH.cons (o := ⟨some 29, _, _, _, _, _⟩) rfl (fun K hK => ?_) ?_
     ·go_simp
      refine hK.out _ _ ?_ (fun hHeld1034 => ?_)
      ·(try dsimp only)
       all_goals (first | (refine ⟨?_, ?_, ?_, ?_⟩ <;> go_simp) | go_keep)
      clear hK K
      (try clear hHeld1033)
      (try simp only [Tp0, Tp1, Tp2, Tp3, Tp4])
      refine wpAnyH_ready (rs := [2]) (by kernel_rfl) (by simp) ?_
      refine AllReadyH.cons (o := ⟨some 31, _, _, _, _, _⟩) rfl (fun K hK => ?_) ?_
      ·rw [if_pos (by rfl)]
       unfold Oper.wp execOp
       simp only [resolve, invoke, builtin, Sem.run_bind, Sem.run_pure, Result.andThen_ok, List.map_toArray, List.map_cons, List.map_nil]
       have hX : Below w.heap.size w (((W3.alloc (.cells #[.int .i64 y0, .int .i64 y1, .string y2, .string y3] 52)).alloc (.cells #[] 52)).drew) := ((HBX.out.2.1.alloc HBX.out.2.1.size (.cells #[.int .i64 y0, .int .i64 y1, .string y2, .string y3] 52)).alloc (by have := HBX.out.2.1.size; simp; omega) (.cells #[] 52)).drew
       have hO : OwnT (((W3.alloc (.cells #[.int .i64 y0, .int .i64 y1, .string y2, .string y3] 52)).alloc (.cells #[] 52)).drew) w.heap.size (some ⟨(W3.heap.size + 1), 0, none⟩) 0 0 [] := by have := (lit_nil_t (W3.alloc (.cells #[.int .i64 y0, .int .i64 y1, .string y2, .string y3] 52)) w.heap.size (by have := HBX.out.2.1.size; simp; omega)).drew; simpa using this
       have hKb : Blk (((W3.alloc (.cells #[.int .i64 y0, .int .i64 y1, .string y2, .string y3] 52)).alloc (.cells #[] 52)).drew) W3.heap.size #[.int .i64 y0, .int .i64 y1, .string y2, .string y3] 52 := by have := ((Blk.new W3 #[.int .i64 y0, .int .i64 y1, .string y2, .string y3] 52).alloc (.cells #[] 52)).drew; simpa using this
       obtain ⟨A5, c5, w5, hr, ho5, hg5, hat5⟩ := run_append_ts (c0 := ct) 46 hO (HI.out.next hX) nt (by omega) (by omega) hX.size
       change Oper.upon _ _ _ _ _ ((Sem.run Tryz.prog (Builtin.append_ #[46, 46] 46 #[.slice (some ⟨(W3.heap.size + 1), 0, none⟩) 0 0, .slice At nt ct]) (((W3.alloc (.cells #[.int .i64 y0, .int .i64 y1, .string y2, .string y3] 52)).alloc (.cells #[] 52)).drew)).andThen _)
       rw [hr]
       simp only [Result.andThen_ok]
       rw [Oper.upon_value]
       have hb5 : Below w.heap.size w w5 := hX.grown hg5 hX.size (fun q hq => (hO.blk q hq).1)
       rw [List.nil_append] at ho5
       have hx5 := hKb.grown hg5 (by intro e; have e : some _ = some _ := e; injection e with e; (try dsimp only at e); omega)
       have HX5 := Hd hx5
       clear hx5 hKb
       have hk5 := Blk.grown ((HBX.out.1.alloc (.cells #[.int .i64 y0, .int .i64 y1, .string y2, .string y3] 52)).alloc (.cells #[] 52)).drew hg5 (by intro e; have e : some _ = some _ := e; injection e with e; (try dsimp only at e); omega)
       have hap5 : ∀ q, (Value.slice A5 nt c5).ownBlock = some q → W3.heap.size ≤ q := by
        intro q hq
        have hsz3 := HBX.out.2.1.size
        rcases hat5 with e | e
        ·rw [e] at hq; have hq : some _ = some _ := hq; injection hq with hq; (try dsimp only at hq); omega
        ·rw [e] at hq; injection hq with hq; simp at hq; omega
       have q50 := hk5.cell (j := 0) (v := .int .i64 y0) rfl
       have q51 := hk5.cell (j := 1) (v := .int .i64 y1) rfl
       have q52 := hk5.cell (j := 2) (v := .string y2) rfl
       have q53 := hk5.cell (j := 3) (v := .string y3) rfl
       have hb5lt := hk5.lt
       have HK5 := Hd (And.intro hk5 hap5)
       have HB5 := Hd hb5
       have HO5 := Hd ho5
       clear hX hO hr ho5 hg5 hb5 hk5 hap5 hat5
       refine hK.out _ _ ?_ (fun hHeld1035 => ?_)
       ·(try dsimp only)
        all_goals (first | (refine ⟨?_, ?_, ?_, ?_⟩ <;> go_simp) | go_keep)
       clear hK K
       (try clear hHeld1034)
       (try simp only [Tp0, Tp1, Tp2, Tp3, Tp4])
       refine wpAnyH_ready (rs := [5]) (by kernel_rfl) (by simp) ?_
       refine AllReadyH.cons (o := ⟨some 34, _, _, _, _, _⟩) rfl (fun K hK => ?_) ?_
       ·rw [if_pos (by rfl)]
        unfold Oper.wp execOp
        simp only [resolve, invoke, builtin, Sem.run_bind, Sem.run_pure, Result.andThen_ok, List.map_toArray, List.map_cons, List.map_nil]
        have hx := blk_tals HX5.out HCS.out
        have hbx := HB5.out
        have hox := HO5.out
        obtain ⟨A6, c6, w6, hr, ho6, hg6, -⟩ := run_append_ts (c0 := 1) 46 hox hx (nt + 1) (by omega) (by omega) hbx.size
        have hk6 := Blk.grown HK5.out.1 hg6 (by intro e; have := HK5.out.2 _ e.symm; omega)
        have q60 := hk6.cell (j := 0) (v := .int .i64 y0) rfl
        have q61 := hk6.cell (j := 1) (v := .int .i64 y1) rfl
        have q62 := hk6.cell (j := 2) (v := .string y2) rfl
        have q63 := hk6.cell (j := 3) (v := .string y3) rfl
        clear hk6
        change Oper.upon _ _ _ _ _ ((Sem.run Tryz.prog (Builtin.append_ #[46, 46] 46 #[.slice A5 nt c5, .slice (some ⟨W3.heap.size, 0, none⟩) 1 1]) w5).andThen _)
        rw [hr]
        simp only [Result.andThen_ok]
        rw [Oper.upon_value]
        have hb6 : Below w.heap.size w w6 := hbx.grown hg6 hbx.size (fun q hq => (hox.blk q hq).1)
        have HFIN := Hd (And.intro ho6 hb6)
        clear hr ho6 hg6 hb6 hx hbx hox
        refine hK.out _ _ ?_ (fun hHeld1036 => ?_)
        ·(try dsimp only)
         all_goals (first | (refine ⟨?_, ?_, ?_, ?_⟩ <;> go_simp) | go_keep)
        clear hK K
        (try clear hHeld1035)
        (try simp only [Tp0, Tp1, Tp2, Tp3, Tp4])
        refine Tk 6 (some 4) (v := ?v1037) rfl (Or.inl ⟨by rfl, ?hy1037⟩) (by first | assumption | exact hHeld1036) ?rest1037
        case hy1037 => ((intro w0 hSw; (try dsimp only at hSw); go_simp) <;> with_reducible rfl)
        (try simp only [Tp0, Tp1, Tp2, Tp3, Tp4])
        refine Tk 7 (some 5) (v := ?v1038) rfl (Or.inl ⟨by rfl, ?hy1038⟩) (by first | assumption | exact hHeld1036) ?rest1038
        case hy1038 => ((intro w0 hSw; (try dsimp only at hSw); go_simp) <;> with_reducible rfl)
        (try simp only [Tp0, Tp1, Tp2, Tp3, Tp4])
        refine wpAnyH_done (by kernel_rfl) ?_ _
        go_wp2_with fail
        try go_ret2
        rw [HQ.out]
        exact ⟨⟨_, _, _, by rw [HY.out]; rfl, by rw [OweL, if_pos HY.out]; exact HFIN.out.1⟩, HFIN.out.2⟩
       exact AllReadyH.nil
      exact AllReadyH.nil
     exact AllReadyH.nil
    exact AllReadyH.nil
   exact AllReadyH.nil
  exact AllReadyH.nil
 exact AllReadyH.nil
end Go.Proofs.YthdoofmfigemoaaGreatDoor
