/-
  l5All of the reference: a number is taken from a frame.
-/
import Derived.Test.YtpaepdlkjblfgaaFrSpec5
import Derived.Test.YtpaepdlkjblfgaaFrSpec4
namespace Go.Proofs.Ytpaepdlkjblfgaa
open Go.RowKit

set_option maxRecDepth 100000 in
set_option maxHeartbeats 8000000 in
theorem l5AllTake_yes (A A' : Option Addr) (n c c' : Nat) (ds : List Int) (N : Int) (w : World) (hx : Ints w w.heap.size A n (HiL ds)) (hy : Ints w w.heap.size A' n (LoL ds)) (hds : Fr.Digs ds) (h1 : 1 ≤ n) (h6 : n ≤ 6) :
    Calls Try.prog 68 #[.agg #[.slice A n c, .slice A' n c'], .int .i64 N, .int .i64 (-1)] w (FrRes w (frBy (-1) ds N)) := by
  have hl : ds.length = n := by have := hx.len; rwa [HiL_length] at this
  have HL := Lib.hid hl
  have HX := Lib.hid hx
  have HY := Lib.hid hy
  have HD := Lib.hid hds
  obtain ⟨R, hR⟩ : ∃ R, frBy (-1) ds N = R := ⟨_, rfl⟩
  rw [hR]
  have HE := Lib.hid hR
  have hten := ten_bd n h6
  obtain ⟨T, hT⟩ : ∃ T, Fr.ten n = T := ⟨_, rfl⟩
  rw [hT] at hten
  obtain ⟨t0, t1⟩ := hten
  have HT := Lib.hid hT
  clear hx hy hds hl hR hT
  have hpow : ∀ v, Calls Try.prog 55 #[.int .i64 (n : Int)] v fun e w' => e = .returned (.int .i64 T) ∧ v = w' := fun v => by rw [← HT.out]; exact l5Ten_any n v h6
  have HP := Lib.hid hpow
  clear hpow
  go_enter Try.func68, Try.ntmps68
  go_wp2_with fail
  refine (specFrameValid_yes A A' n c c' ds _ ((HX.out.al _).al _) ((HY.out.al _).al _) HD.out h1 h6).mono ?_
  rintro e w1 ⟨rfl, hb1⟩
  have hz := ((Box.new (w.alloc (.cells #[.slice A n c, .slice A' n c'] 25)) (.slice none 0 0) (.slice none 0 0)).next hb1)
  have hv := ((Box.new w (.slice A n c) (.slice A' n c')).alloc (.cells #[.slice none 0 0, .slice none 0 0] 25)).next hb1
  simp only [World.size_alloc] at hz
  have hz0 := hz.fst
  have hz1 := hz.snd
  have hf0 := hz.free 0
  have hf1 := hz.free 1
  have hv0 := hv.fst
  have hv1 := hv.snd
  have HX1 := Lib.hid (((HX.out.al _).al _).next hb1)
  have HY1 := Lib.hid (((HY.out.al _).al _).next hb1)
  have HZ := Lib.hid hz
  have HB := Lib.hid ((below_two w _ _).trans (hb1.mono (by simp; omega)))
  have hws : w.heap.size + 1 + 1 ≤ w1.heap.size := by have := hb1.size; simpa using this
  clear hz hv hb1
  by_cases hin : 0 ≤ N ∧ N < T
  · obtain ⟨N0, N1⟩ := hin
    have he := HE.out
    rw [frBy_in (by rw [HL.out, HT.out]; exact ⟨N0, N1⟩), ← allP_zero] at he
    have HA := Lib.hid he
    clear he
    have l3 : (decide (0 ≤ N) && decide (N ≤ T - 1)) = true := by simp; omega
    have HL3 := Lib.hid l3
    obtain ⟨d, hd⟩ : ∃ d, ds[0]? = some d := ⟨_, List.getElem?_eq_getElem (by have := HL.out; omega)⟩
    obtain ⟨d0, d9⟩ := HD.out d (List.mem_of_getElem? hd)
    have hdx : ds.set 0 d = ds := by
      apply List.ext_getElem?
      intro i
      by_cases h : 0 = i
      · subst h; rw [List.getElem?_set_self (by have := HL.out; omega), hd]
      · rw [List.getElem?_set_ne h]
    have HDX := Lib.hid hdx
    have hdig : ∀ v, Ints v v.heap.size A n (HiL ds) → Ints v v.heap.size A' n (LoL ds) → Calls Try.prog 16 #[.agg #[.slice A n c, .slice A' n c'], .int .i64 0] v fun e w' => e = .returned (.int .i64 d) ∧ Below v.heap.size v w' :=
      fun v h2 h3 => specFrameDigit_any A A' n n c c' (HiL ds) (LoL ds) 0 d v h2 h3 (.inr ⟨ds, HD.out, rfl, rfl, by have := HL.out; omega, by have := HL.out; omega, (digAt_in (j := 0) hd).symm⟩)
    have HDG := Lib.hid hdig
    clear l3 hd hdx hdig
    have hwl : w.heap.size < w1.heap.size := by omega
    have hwl1 : w.heap.size + 1 < w1.heap.size := by omega
    have KS : Hid (∀ w', SB w1 w' → (w'.cell? ⟨w.heap.size, 0, none⟩ = some (.slice A n c) ∧ w'.cell? ⟨w.heap.size, 1, none⟩ = some (.slice A' n c') ∧ SB w1 w')) :=
      Lib.hid fun w' h => ⟨(Below.cell h (p := ⟨w.heap.size, 0, none⟩) hwl).trans hv0, (Below.cell h (p := ⟨w.heap.size, 1, none⟩) hwl).trans hv1, h⟩
    have hsb := SB.refl w1
    go_wp2_with fail
    refine (HP.out _).mono ?_
    rintro e w2 ⟨rfl, rfl⟩
    go_wp2_with fail
    refine (ten_in HL3.out _).mono ?_
    rintro e w2 ⟨rfl, rfl⟩
    go_upto_region 3 with fail
    go_cut [9] (fun s9 wx => L5Q w1 n (HiL ds) (LoL ds) s9 wx)
    case first =>
      go_region_held3 (fun w' => w'.cell? ⟨w.heap.size, 0, none⟩ = some (.slice A n c) ∧ w'.cell? ⟨w.heap.size, 1, none⟩ = some (.slice A' n c') ∧ SB w1 w')
        (first
          | ((try go_split_ands); refine KS.out _ ?_; first | assumption | (exact SB.drew (by assumption)) | (exact SB.alloc (by assumption) _) | (exact Below.setCell (Below.setCell (by assumption : SB w1 _) (by first | omega | (simp <;> omega)) _) (by first | omega | (simp <;> omega)) _)))
        (first
          | (go_at_call 16; (try go_split_ands); (refine (HDG.out _ (HX1.out.next (by assumption : SB w1 _)) (HY1.out.next (by assumption : SB w1 _))).mono ?_; rintro e w2 ⟨rfl, hb2⟩; have hs2 : SB w1 w2 := SB.below (by assumption) hb2; obtain ⟨hc2, hf2⟩ := bcell hb2; have hy2 := hb2.size; (try simp only [World.size_alloc, size_drew_] at hy2); (try have q1 : w1.heap.size < w2.heap.size := by omega)))
          | (go_at_call 76; (try go_split_ands); (refine (l5Set_any A A' n c c' ds 0 d _ (HX1.out.next (by assumption : SB w1 _)) (HY1.out.next (by assumption : SB w1 _)) (by omega) h6 d0 d9).mono ?_; rintro e w3 ⟨⟨v, rfl, ho⟩, hb3⟩; rw [HDX.out] at ho; obtain ⟨hi, lo, ch, cl, rfl, ho1, ho2, hne, v1, v2, v3, v4⟩ := ho.parts HL.out (by omega); have hs3 : SB w1 w3 := SB.below (by assumption) hb3; obtain ⟨hc3, hf3⟩ := bcell hb3; have hy3 := hb3.size; (try simp only [World.size_alloc] at hy3); (try simp only [World.size_alloc] at v1 v2); (try have q2 : w1.heap.size < w3.heap.size := by omega))))
      all_goals go_wp2_with fail
      all_goals go_meet
      all_goals
        have o1 := ho1.mono (show w1.heap.size ≤ _ by first | omega | (simp <;> omega))
        have o2 := ho2.mono (show w1.heap.size ≤ _ by first | omega | (simp <;> omega))
        first
          | exact l5leafA o1 o2 hne hs3
          | (refine l5leafB o1 o2 hne hs3 ?_ (by omega) (by omega) (by omega)
             rw [hb3.block _ (by first | omega | (simp <;> omega))]
             repeat (first
               | rw [if_true]
               | rw [if_pos (by omega)]
               | rw [if_neg (by omega)]
               | simp only [heap_drew, heap_alloc_if]
               | rw [hb2.block _ (by first | omega | (simp <;> omega))]))
    case rest =>
      obtain ⟨bx, hi, lo, ch, cl, rfl, hbx, hoh, hol, d1, d2, d3, d4, hbel⟩ := hcut
      have HBX := Lib.hid hbx
      have HOH := Lib.hid hoh
      have HOL := Lib.hid hol
      have HBL := Lib.hid hbel
      clear hbx hoh hol hbel hz0 hz1 hf0 hf1 hv0 hv1 hsb
      go_wp2
      go_loopw [1, 10, 11] (fun nv pv kv wr => ∃ (k : Nat) (M p : Int) (es : List Int), ∃ hi lo ch cl : Nat, nv = .int .i64 M ∧ pv = .int .i64 p ∧ kv = .int .i64 (k : Int) ∧ k ≤ n ∧ 0 ≤ M ∧ M < Fr.ten (n - k) ∧ M ≤ 1000000 ∧ 0 ≤ p ∧ p ≤ 20 * k ∧
        Box wr bx (.slice (some ⟨hi, 0, none⟩) n ch) (.slice (some ⟨lo, 0, none⟩) n cl) ∧ Own wr w1.heap.size (some ⟨hi, 0, none⟩) n ch (HiL es) ∧ Own wr w1.heap.size (some ⟨lo, 0, none⟩) n cl (LoL es) ∧ hi ≠ lo ∧ bx ≠ hi ∧ bx ≠ lo ∧
        Fr.Digs es ∧ es.length = n ∧ allP (-1) es k M p = R ∧ Below w1.heap.size w1 wr) (fun nv _ _ _ => (intOf nv).toNat)
      case atStart => exact ⟨0, N, 0, ds, hi, lo, ch, cl, rfl, rfl, rfl, by omega, N0, by rw [Nat.sub_zero, HT.out]; exact N1, by omega, by omega, by omega, HBX.out, HOH.out, HOL.out, d1, d2, d3, HD.out, HL.out, HA.out, HBL.out⟩
      case round =>
        clear HBX HOH HOL HBL HA d1 d2 d3 hi lo ch cl
        obtain ⟨k, M, p, es, hi, lo, ch, cl, rfl, rfl, rfl, hk, M0, M1, M2, p0, p1, hbx, hoh, hol, d1, d2, d3, hd, hl, hA, hbel⟩ := hrel
        have HBX := Lib.hid hbx
        have HD2 := Lib.hid hd
        have HL2 := Lib.hid hl
        have HA := Lib.hid hA
        have HM := Lib.hid M1
        have HBL := Lib.hid hbel
        have HZ2 := Lib.hid (HZ.out.keep (hbel.block _ hwl1))
        have HB2 := Lib.hid (HB.out.trans (hbel.mono HB.out.size))
        have z0 := HZ2.out.fst
        have z1 := HZ2.out.snd
        have f0 := HZ2.out.free 0
        have f1 := HZ2.out.free 1
        have x0 := HBX.out.fst
        have x1 := HBX.out.snd
        have hxl := HBX.out.lt
        have hwr := hbel.size
        have HOH := Lib.hid hoh
        have HOL := Lib.hid hol
        clear hbx hoh hol hd hl hA hbel M1
        by_cases hM : 0 < M
        · have hkn : k < n := by
            rcases (show k < n ∨ k = n from by omega) with h | rfl
            · exact h
            · have h9 := HM.out; rw [Nat.sub_self] at h9; have h10 : Fr.ten 0 = 1 := rfl; omega
          have m0 : 0 ≤ M % 10 := Int.emod_nonneg M (by omega)
          have m9 : M % 10 ≤ 9 := by have := Int.emod_lt_of_pos M (b := 10) (by omega); omega
          obtain ⟨Q, hQ⟩ : ∃ Q, chgAt (-1) es k (M % 10) = Q := ⟨_, rfl⟩
          have hcall := l5ChangeTake_yes _ (some ⟨hi, 0, none⟩) (some ⟨lo, 0, none⟩) n ch cl es (k : Int) (M % 10) wr HOH.out.ints HOL.out.ints HD2.out h1 h6 rfl
          rw [frAt_in _ _ _ _ (by rw [HL2.out]; exact hkn) m0 m9, hQ] at hcall
          have HC := Lib.hid hcall
          have HQ := Lib.hid hQ
          clear hcall hQ
          go_wp2_with fail
          refine HC.out.mono ?_
          rintro e w4 hpost
          obtain ⟨A4, c4, A5, c5, rfl, ho4, hb4⟩ := hpost.out_
          have HO4 := Lib.hid ho4
          have HZ4 := Lib.hid (HZ2.out.next hb4)
          have HX4 := Lib.hid (HBX.out.next hb4)
          have z40 := HZ4.out.fst
          have z41 := HZ4.out.snd
          have f40 := HZ4.out.free 0
          have f41 := HZ4.out.free 1
          have x40 := HX4.out.fst
          have x41 := HX4.out.snd
          have g40 := HX4.out.free 0
          have g41 := HX4.out.free 1
          have hxl4 := HX4.out.lt
          have hs4 := hb4.size
          have hza : w.heap.size + 1 < w4.heap.size := by omega
          have HB4 := Lib.hid (below_chain HB2.out hb4)
          have HBL4 := Lib.hid (HBL.out.trans (hb4.mono hwr))
          clear ho4 hb4 hpost z0 z1 f0 f1 x0 x1
          rcases Q with _ | ⟨es0, n0⟩
          · have he := HA.out
            rw [allP_none (by rw [HL2.out]; exact hkn) (by omega) HQ.out] at he
            subst he
            go_wp2
            exact bodyPost_ret (v := .tuple #[.agg #[.slice none 0 0, .slice none 0 0], .int .i64 0, .bool false]) (by simp [results, Try.results68, go_sem, hza, over_fst HZ4.out, over_snd HZ4.out]) rfl (FrRes.none_ ((below_over HB4.out (by omega) _ _).alloc (by simp; omega) _))
          · have hup := chgAt_upper HQ.out
            rw [HL2.out] at hup
            simp only at hup
            obtain ⟨u0, u1⟩ := hup
            have u2 : n0 ≤ 12 := by omega
            have hA2 := HA.out
            rw [allP_some (.inr rfl) HD2.out (by rw [HL2.out]; exact hkn) (by omega) HQ.out] at hA2
            have hq := HQ.out
            obtain ⟨q1, q2, q3⟩ := chgAt_digs (.inr rfl) HD2.out m0 m9 hq
            rw [HL2.out] at q2
            have s2 : resN (some (es0, n0)) = n0 := rfl
            have s3 : resL (some (es0, n0)) = es0 := rfl
            have ho4 := HO4.out
            rw [s3] at ho4
            rw [s2, s3, q2]
            obtain ⟨hi2, lo2, ch2, cl2, he, oh2, ol2, e1, e2, e3, e4, e5⟩ := ho4.parts q2 (by omega)
            rw [q2] at he
            injection he with he
            have he' := congrArg (fun a => a.toList) he
            simp only [List.cons.injEq, Value.slice.injEq, and_true, true_and] at he'
            obtain ⟨⟨rfl, rfl⟩, rfl, rfl⟩ := he'
            have HOH2 := Lib.hid oh2
            have HOL2 := Lib.hid ol2
            have HA2 := Lib.hid hA2
            have HD3 := Lib.hid q1
            have HL3' := Lib.hid q2
            clear hq s2 s3 ho4 he oh2 ol2 hA2 q1 q2 q3 u1 HO4
            go_wp2
            go_roundw
            case rel =>
              refine ⟨k + 1, M / 10, p + n0, es0, hi2, lo2, c4, c5, by go_num, by go_num, by go_num, by omega, by omega, ?_, by omega, by omega, by omega, (HX4.out.over _ _).alloc _, ((HOH2.out.over2 (by omega) _ _).alloc _).mono hwr, ((HOL2.out.over2 (by omega) _ _).alloc _).mono hwr, e1, by omega, by omega, HD3.out, HL3'.out, HA2.out, (below_over HBL4.out d4 _ _).alloc (by simp; omega) _⟩
              have h9 := HM.out
              rw [show n - k = n - (k + 1) + 1 from by omega, Fr.ten_succ] at h9
              omega
            case measure => simp [intOf]; omega
        · obtain rfl : M = 0 := by omega
          have he := HA.out
          rw [allP_done] at he
          subst he
          have HF := Lib.hid (FrOwn.of_parts HOH.out HOL.out d1 HL2.out)
          go_wp2
          refine bodyPost_ret (v := .tuple #[.agg #[.slice (some ⟨hi, 0, none⟩) n ch, .slice (some ⟨lo, 0, none⟩) n cl], .int .i64 p, .bool true]) (by simp [results, Try.results68, go_sem, over_fst HZ2.out, over_snd HZ2.out]) rfl ⟨⟨_, rfl, ?_⟩, below_over HB2.out (by omega) _ _⟩
          exact (HF.out.over (by omega) _ _).mono (by omega)
  · have he := HE.out
    rw [frBy_out (by rw [HL.out, HT.out]; exact hin)] at he
    subst he
    have l3 : (decide (0 ≤ N) && decide (N ≤ T - 1)) = false := by simp; omega
    have HL3 := Lib.hid l3
    clear hin l3
    go_wp2_with fail
    refine (HP.out _).mono ?_
    rintro e w2 ⟨rfl, rfl⟩
    go_wp2_with fail
    refine (ten_in HL3.out _).mono ?_
    rintro e w2 ⟨rfl, rfl⟩
    go_wp2
    exact bodyPost_ret (v := .tuple #[.agg #[.slice none 0 0, .slice none 0 0], .int .i64 0, .bool false]) (by simp [results, Try.results68, go_sem, over_fst HZ.out, over_snd HZ.out]) rfl (FrRes.none_ (below_over HB.out (by omega) _ _))
set_option maxRecDepth 100000 in
set_option maxHeartbeats 2000000 in
theorem l5AllTake_no (A A' : Option Addr) (n m c c' : Nat) (hs ls : List Int) (N : Int) (w : World) (hx : Ints w w.heap.size A n hs) (hy : Ints w w.heap.size A' m ls) (hno : ¬ FrOk hs ls) :
    Calls Try.prog 68 #[.agg #[.slice A n c, .slice A' m c'], .int .i64 N, .int .i64 (-1)] w (FrRes w none) := by
  have HX := Lib.hid hx
  have HY := Lib.hid hy
  have HN := Lib.hid hno
  clear hx hy hno
  go_enter Try.func68, Try.ntmps68
  go_wp2_with fail
  refine (specFrameValid_no A A' n m c c' hs ls _ ((HX.out.al _).al _) ((HY.out.al _).al _) HN.out).mono ?_
  rintro e w1 ⟨rfl, hb1⟩
  have hz := ((Box.new (w.alloc (.cells #[.slice A n c, .slice A' m c'] 25)) (.slice none 0 0) (.slice none 0 0)).next hb1)
  have hz0 := hz.fst
  have hz1 := hz.snd
  have hf0 := hz.free 0
  have hf1 := hz.free 1
  simp only [World.size_alloc] at hz hz0 hz1 hf0 hf1
  have HZ := Lib.hid hz
  have HB := Lib.hid ((below_two w _ _).trans (hb1.mono (by simp; omega)))
  clear hz hb1
  go_wp2
  exact bodyPost_ret (v := .tuple #[.agg #[.slice none 0 0, .slice none 0 0], .int .i64 0, .bool false]) (by simp [results, Try.results68, go_sem, over_fst HZ.out, over_snd HZ.out]) rfl (FrRes.none_ (below_over HB.out (by omega) _ _))
theorem l5AllTake_any (A A' : Option Addr) (n m c c' : Nat) (hs ls : List Int) (N : Int) (R : Option (List Int × Int)) (w : World) (hx : Ints w w.heap.size A n hs) (hy : Ints w w.heap.size A' m ls) (hR : frOf hs ls (fun ds => frBy (-1) ds N) R) :
    Calls Try.prog 68 #[.agg #[.slice A n c, .slice A' m c'], .int .i64 N, .int .i64 (-1)] w (FrRes w R) := by
  rcases hR with ⟨hno, rfl⟩ | ⟨ds, hd, rfl, rfl, h1, h6, rfl⟩
  · exact l5AllTake_no A A' n m c c' hs ls N w hx hy hno
  · have e1 := hx.len
    have e2 := hy.len
    rw [HiL_length] at e1
    rw [LoL_length] at e2
    subst e1
    subst e2
    exact l5AllTake_yes A A' _ c c' ds N w hx hy hd h1 h6
set_option maxRecDepth 100000 in
set_option maxHeartbeats 2000000 in
theorem specFrameLess_any (A A' : Option Addr) (n m c c' : Nat) (hs ls : List Int) (N : Int) (R : Option (List Int × Int)) (w : World) (hx : Ints w w.heap.size A n hs) (hy : Ints w w.heap.size A' m ls) (hR : frOf hs ls (fun ds => frBy (-1) ds N) R) :
    Calls Try.prog 37 #[.agg #[.slice A n c, .slice A' m c'], .int .i64 N] w (FrRes w R) := by
  have HX := Lib.hid hx
  have HY := Lib.hid hy
  have HE := Lib.hid hR
  clear hx hy hR
  go_enter Try.func37, Try.ntmps37
  go_wp2_with fail
  refine (l5AllTake_any A A' n m c c' hs ls N R _ ((HX.out.al _).al _) ((HY.out.al _).al _) HE.out).mono ?_
  rintro e w1 ⟨⟨v, rfl, ho⟩, hb1⟩
  have hz := ((Box.new (w.alloc (.cells #[.slice A n c, .slice A' m c'] 25)) (.slice none 0 0) (.slice none 0 0)).next hb1)
  have hz0 := hz.fst
  have hz1 := hz.snd
  have hf0 := hz.free 0
  have hf1 := hz.free 1
  simp only [World.size_alloc] at hz hz0 hz1 hf0 hf1 ho
  have HZ := Lib.hid hz
  have HB := Lib.hid ((below_two w _ _).trans (hb1.mono (by simp; omega)))
  have HO := Lib.hid ho
  obtain ⟨A2, c2, A3, c3, rfl, -⟩ := ho
  clear hz hb1
  go_wp2
  refine bodyPost_ret (v := .tuple #[.agg #[.slice A2 (resL R).length c2, .slice A3 (resL R).length c3], .int .i64 (resN R), .bool R.isSome]) (by simp [results, Try.results37, go_sem, over_fst HZ.out, over_snd HZ.out]) rfl ⟨⟨_, rfl, ?_⟩, below_over HB.out (by omega) _ _⟩
  exact (HO.out.over (by omega) _ _).mono (by omega)
end Go.Proofs.Ytpaepdlkjblfgaa
