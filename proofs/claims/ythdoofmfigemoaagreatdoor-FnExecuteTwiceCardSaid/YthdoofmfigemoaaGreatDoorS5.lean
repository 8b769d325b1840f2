/-
  Joined texts.
-/
import Derived.Test.YthdoofmfigemoaaGreatDoorS1
import Derived.Test.YthdoofmfigemoaaGreatDoorS3
import Derived.Test.YthdoofmfigemoaaGreatDoorS4
import Derived.Deep.RegionLaw
import Derived.Laws.CopyOwn
import Derived.Lib.ItoaNum
import Derived.Test.YthdoofmfigemoaaGreatDoorSShelf
import Derived.Laws.IdiomStrings
import Derived.Laws.Concat
import Derived.Deep.RegionHeld3
import Derived.Lib.AppendIntMem
import Derived.Laws.Pointers
import Derived.Deep.QuietTactic
import Derived.BigQuiet
set_option linter.unusedSimpArgs false
set_option linter.unusedVariables false
set_option maxRecDepth 100000
set_option maxHeartbeats 4000000
namespace Go.Proofs.YthdoofmfigemoaaGreatDoor
open Go.RowKit
set_option maxHeartbeats 8000000 in
theorem l5AllTake_yes (A A' : Option Addr) (n c c' : Nat) (ds : List Int) (N : Int) (w : World) (hx : Ints w w.heap.size A n (HiL ds)) (hy : Ints w w.heap.size A' n (LoL ds)) (hds : Fr.Digs ds) (h1 : 1 ≤ n) (h6 : n ≤ 6) :
    Calls Tryz.prog 175 #[.agg #[.slice A n c, .slice A' n c'], .int .i64 N, .int .i64 (-1)] w (FrRes w (frBy (-1) ds N)) := by
  have hl : ds.length = n := by have := hx.len; rwa [HiL_length] at this
  have HL := Hd hl
  have HX := Hd hx
  have HY := Hd hy
  have HD := Hd hds
  obtain ⟨R, hR⟩ : ∃ R, frBy (-1) ds N = R := ⟨_, rfl⟩
  rw [hR]
  have HE := Hd hR
  have hten := ten_bd n h6
  obtain ⟨T, hT⟩ : ∃ T, Fr.ten n = T := ⟨_, rfl⟩
  rw [hT] at hten
  obtain ⟨t0, t1⟩ := hten
  have HT := Hd hT
  clear hx hy hds hl hR hT
  have hpow : ∀ v, Calls Tryz.prog 55 #[.int .i64 (n : Int)] v fun e w' => e = .returned (.int .i64 T) ∧ v = w' := fun v => by rw [← HT.out]; exact l5Ten_any n v h6
  have HP := Hd hpow
  clear hpow
  go_enter Tryz.func175, Tryz.ntmps175
  go_wp2_with fail
  refine (specFrameValid_yes A A' n c c' ds _ ((HX.out.al _).al _) ((HY.out.al _).al _) HD.out h1 h6).mono ?_
  rintro e w1 ⟨rfl, hb1⟩
  have hz := ((FBox.new (w.alloc (.cells #[.slice A n c, .slice A' n c'] 30)) (.slice none 0 0) (.slice none 0 0)).next hb1)
  have hv := ((FBox.new w (.slice A n c) (.slice A' n c')).alloc (.cells #[.slice none 0 0, .slice none 0 0] 30)).next hb1
  simp only [World.size_alloc] at hz
  have hz0 := hz.fst
  have hz1 := hz.snd
  have hf0 := hz.free 0
  have hf1 := hz.free 1
  have hv0 := hv.fst
  have hv1 := hv.snd
  have HX1 := Hd (((HX.out.al _).al _).next hb1)
  have HY1 := Hd (((HY.out.al _).al _).next hb1)
  have HZ := Hd hz
  have HB := Hd ((below_two w _ _).trans (hb1.mono (by simp; omega)))
  have hws : w.heap.size + 1 + 1 ≤ w1.heap.size := by have := hb1.size; simpa using this
  clear hz hv hb1
  by_cases hin : 0 ≤ N ∧ N < T
  · obtain ⟨N0, N1⟩ := hin
    have he := HE.out
    rw [frBy_in (by rw [HL.out, HT.out]; exact ⟨N0, N1⟩), ← allP_zero] at he
    have HA := Hd he
    clear he
    have l3 : (decide (0 ≤ N) && decide (N ≤ T - 1)) = true := by simp; omega
    have HL3 := Hd l3
    obtain ⟨d, hd⟩ : ∃ d, ds[0]? = some d := ⟨_, List.getElem?_eq_getElem (by have := HL.out; omega)⟩
    obtain ⟨d0, d9⟩ := HD.out d (List.mem_of_getElem? hd)
    have hdx : ds.set 0 d = ds := by
      apply List.ext_getElem?
      intro i
      by_cases h : 0 = i
      · subst h; rw [List.getElem?_set_self (by have := HL.out; omega), hd]
      · rw [List.getElem?_set_ne h]
    have HDX := Hd hdx
    have hdig : ∀ v, Ints v v.heap.size A n (HiL ds) → Ints v v.heap.size A' n (LoL ds) → Calls Tryz.prog 211 #[.agg #[.slice A n c, .slice A' n c'], .int .i64 0] v fun e w' => e = .returned (.int .i64 d) ∧ Below v.heap.size v w' :=
      fun v h2 h3 => specFrameDigit_any A A' n n c c' (HiL ds) (LoL ds) 0 d v h2 h3 (.inr ⟨ds, HD.out, rfl, rfl, by have := HL.out; omega, by have := HL.out; omega, (digAt_in (j := 0) hd).symm⟩)
    have HDG := Hd hdig
    clear l3 hd hdx hdig
    have hwl : w.heap.size < w1.heap.size := by omega
    have hwl1 : w.heap.size + 1 < w1.heap.size := by omega
    have KS : Hid (∀ w', SB w1 w' → (w'.cell? ⟨w.heap.size, 0, none⟩ = some (.slice A n c) ∧ w'.cell? ⟨w.heap.size, 1, none⟩ = some (.slice A' n c') ∧ SB w1 w')) :=
      Hd fun w' h => ⟨(Below.cell h (p := ⟨w.heap.size, 0, none⟩) hwl).trans hv0, (Below.cell h (p := ⟨w.heap.size, 1, none⟩) hwl).trans hv1, h⟩
    have hsb := SB.refl w1
    go_wp2_with fail
    refine (HP.out _).mono ?_
    rintro e w2 ⟨rfl, rfl⟩
    go_wp2_with fail
    refine (ten_in HL3.out _).mono ?_
    rintro e w2 ⟨rfl, rfl⟩
    go_upto_region 3 with fail
    go_cut [9] (fun s9 wx => L5Q w1 n (HiL ds) (LoL ds) s9 wx)
    case first =>
      go_region_held3 (fun w' => w'.cell? ⟨w.heap.size, 0, none⟩ = some (.slice A n c) ∧ w'.cell? ⟨w.heap.size, 1, none⟩ = some (.slice A' n c') ∧ SB w1 w')
        (first
          | ((try go_split_ands); refine KS.out _ ?_; first | assumption | (exact SB.drew (by assumption)) | (exact SB.alloc (by assumption) _) | (exact Below.setCell (Below.setCell (by assumption : SB w1 _) (by first | omega | (simp <;> omega)) _) (by first | omega | (simp <;> omega)) _)))
        (first
          | (go_at_call 211; (try go_split_ands); (refine (HDG.out _ (HX1.out.next (by assumption : SB w1 _)) (HY1.out.next (by assumption : SB w1 _))).mono ?_; rintro e w2 ⟨rfl, hb2⟩; have hs2 : SB w1 w2 := SB.below (by assumption) hb2; obtain ⟨hc2, hf2⟩ := bcell hb2; have hy2 := hb2.size; (try simp only [World.size_alloc, size_drew_] at hy2); (try have q1 : w1.heap.size < w2.heap.size := by omega)))
          | (go_at_call 210; (try go_split_ands); (refine (l5Set_any A A' n c c' ds 0 d _ (HX1.out.next (by assumption : SB w1 _)) (HY1.out.next (by assumption : SB w1 _)) (by omega) h6 d0 d9).mono ?_; rintro e w3 ⟨⟨v, rfl, ho⟩, hb3⟩; rw [HDX.out] at ho; obtain ⟨hi, lo, ch, cl, rfl, ho1, ho2, hne, v1, v2, v3, v4⟩ := ho.parts HL.out (by omega); have hs3 : SB w1 w3 := SB.below (by assumption) hb3; obtain ⟨hc3, hf3⟩ := bcell hb3; have hy3 := hb3.size; (try simp only [World.size_alloc] at hy3); (try simp only [World.size_alloc] at v1 v2); (try have q2 : w1.heap.size < w3.heap.size := by omega))))
      all_goals go_wp2_with fail
      all_goals go_meet
      all_goals
        have o1 := ho1.mono (show w1.heap.size ≤ _ by first | omega | (simp <;> omega))
        have o2 := ho2.mono (show w1.heap.size ≤ _ by first | omega | (simp <;> omega))
        first
          | exact l5leafA o1 o2 hne hs3
          | (refine l5leafB o1 o2 hne hs3 ?_ (by omega) (by omega) (by omega)
             rw [hb3.block _ (by first | omega | (simp <;> omega))]
             repeat (first
               | rw [if_true]
               | rw [if_pos (by omega)]
               | rw [if_neg (by omega)]
               | simp only [heap_drew, heap_alloc_if]
               | rw [hb2.block _ (by first | omega | (simp <;> omega))]))
    case rest =>
      obtain ⟨bx, hi, lo, ch, cl, rfl, hbx, hoh, hol, d1, d2, d3, d4, hbel⟩ := hcut
      have HBX := Hd hbx
      have HOH := Hd hoh
      have HOL := Hd hol
      have HBL := Hd hbel
      clear hbx hoh hol hbel hz0 hz1 hf0 hf1 hv0 hv1 hsb
      go_wp2
      go_loopw [1, 10, 11] (fun nv pv kv wr => ∃ (k : Nat) (M p : Int) (es : List Int), ∃ hi lo ch cl : Nat, nv = .int .i64 M ∧ pv = .int .i64 p ∧ kv = .int .i64 (k : Int) ∧ k ≤ n ∧ 0 ≤ M ∧ M < Fr.ten (n - k) ∧ M ≤ 1000000 ∧ 0 ≤ p ∧ p ≤ 20 * k ∧
        FBox wr bx (.slice (some ⟨hi, 0, none⟩) n ch) (.slice (some ⟨lo, 0, none⟩) n cl) ∧ Own wr w1.heap.size (some ⟨hi, 0, none⟩) n ch (HiL es) ∧ Own wr w1.heap.size (some ⟨lo, 0, none⟩) n cl (LoL es) ∧ hi ≠ lo ∧ bx ≠ hi ∧ bx ≠ lo ∧
        Fr.Digs es ∧ es.length = n ∧ allP (-1) es k M p = R ∧ Below w1.heap.size w1 wr) (fun nv _ _ _ => (intOf nv).toNat)
      case atStart => exact ⟨0, N, 0, ds, hi, lo, ch, cl, rfl, rfl, rfl, by omega, N0, by rw [Nat.sub_zero, HT.out]; exact N1, by omega, by omega, by omega, HBX.out, HOH.out, HOL.out, d1, d2, d3, HD.out, HL.out, HA.out, HBL.out⟩
      case round =>
        clear HBX HOH HOL HBL HA d1 d2 d3 hi lo ch cl
        obtain ⟨k, M, p, es, hi, lo, ch, cl, rfl, rfl, rfl, hk, M0, M1, M2, p0, p1, hbx, hoh, hol, d1, d2, d3, hd, hl, hA, hbel⟩ := hrel
        have HBX := Hd hbx
        have HD2 := Hd hd
        have HL2 := Hd hl
        have HA := Hd hA
        have HM := Hd M1
        have HBL := Hd hbel
        have HZ2 := Hd (HZ.out.keep (hbel.block _ hwl1))
        have HB2 := Hd (HB.out.trans (hbel.mono HB.out.size))
        have z0 := HZ2.out.fst
        have z1 := HZ2.out.snd
        have f0 := HZ2.out.free 0
        have f1 := HZ2.out.free 1
        have x0 := HBX.out.fst
        have x1 := HBX.out.snd
        have hxl := HBX.out.lt
        have hwr := hbel.size
        have HOH := Hd hoh
        have HOL := Hd hol
        clear hbx hoh hol hd hl hA hbel M1
        by_cases hM : 0 < M
        · have hkn : k < n := by
            rcases (show k < n ∨ k = n from by omega) with h | rfl
            · exact h
            · have h9 := HM.out; rw [Nat.sub_self] at h9; have h10 : Fr.ten 0 = 1 := rfl; omega
          have m0 : 0 ≤ M % 10 := Int.emod_nonneg M (by omega)
          have m9 : M % 10 ≤ 9 := by have := Int.emod_lt_of_pos M (b := 10) (by omega); omega
          obtain ⟨Q, hQ⟩ : ∃ Q, chgAt (-1) es k (M % 10) = Q := ⟨_, rfl⟩
          have hcall := l5ChangeTake_yes _ (some ⟨hi, 0, none⟩) (some ⟨lo, 0, none⟩) n ch cl es (k : Int) (M % 10) wr HOH.out.ints HOL.out.ints HD2.out h1 h6 rfl
          rw [frAt_in _ _ _ _ (by rw [HL2.out]; exact hkn) m0 m9, hQ] at hcall
          have HC := Hd hcall
          have HQ := Hd hQ
          clear hcall hQ
          go_wp2_with fail
          refine HC.out.mono ?_
          rintro e w4 hpost
          obtain ⟨A4, c4, A5, c5, rfl, ho4, hb4⟩ := hpost.out_
          have HO4 := Hd ho4
          have HZ4 := Hd (HZ2.out.next hb4)
          have HX4 := Hd (HBX.out.next hb4)
          have z40 := HZ4.out.fst
          have z41 := HZ4.out.snd
          have f40 := HZ4.out.free 0
          have f41 := HZ4.out.free 1
          have x40 := HX4.out.fst
          have x41 := HX4.out.snd
          have g40 := HX4.out.free 0
          have g41 := HX4.out.free 1
          have hxl4 := HX4.out.lt
          have hs4 := hb4.size
          have hza : w.heap.size + 1 < w4.heap.size := by omega
          have HB4 := Hd (below_chain HB2.out hb4)
          have HBL4 := Hd (HBL.out.trans (hb4.mono hwr))
          clear ho4 hb4 hpost z0 z1 f0 f1 x0 x1
          rcases Q with _ | ⟨es0, n0⟩
          · have he := HA.out
            rw [allP_none (by rw [HL2.out]; exact hkn) (by omega) HQ.out] at he
            subst he
            go_wp2
            exact bodyPost_ret (v := .tuple #[.agg #[.slice none 0 0, .slice none 0 0], .int .i64 0, .bool false]) (by simp [results, Tryz.results175, go_sem, hza, over_fst HZ4.out, over_snd HZ4.out]) rfl (FrRes.none_ ((below_over HB4.out (by omega) _ _).alloc (by simp; omega) _))
          · have hup := chgAt_upper HQ.out
            rw [HL2.out] at hup
            simp only at hup
            obtain ⟨u0, u1⟩ := hup
            have u2 : n0 ≤ 12 := by omega
            have hA2 := HA.out
            rw [allP_some (.inr rfl) HD2.out (by rw [HL2.out]; exact hkn) (by omega) HQ.out] at hA2
            have hq := HQ.out
            obtain ⟨q1, q2, q3⟩ := chgAt_digs (.inr rfl) HD2.out m0 m9 hq
            rw [HL2.out] at q2
            have s2 : resN (some (es0, n0)) = n0 := rfl
            have s3 : resL (some (es0, n0)) = es0 := rfl
            have ho4 := HO4.out
            rw [s3] at ho4
            rw [s2, s3, q2]
            obtain ⟨hi2, lo2, ch2, cl2, he, oh2, ol2, e1, e2, e3, e4, e5⟩ := ho4.parts q2 (by omega)
            rw [q2] at he
            injection he with he
            have he' := congrArg (fun a => a.toList) he
            simp only [List.cons.injEq, Value.slice.injEq, and_true, true_and] at he'
            obtain ⟨⟨rfl, rfl⟩, rfl, rfl⟩ := he'
            have HOH2 := Hd oh2
            have HOL2 := Hd ol2
            have HA2 := Hd hA2
            have HD3 := Hd q1
            have HL3' := Hd q2
            clear hq s2 s3 ho4 he oh2 ol2 hA2 q1 q2 q3 u1 HO4
            go_wp2
            go_roundw
            case rel =>
              refine ⟨k + 1, M / 10, p + n0, es0, hi2, lo2, c4, c5, by go_num, by go_num, by go_num, by omega, by omega, ?_, by omega, by omega, by omega, (HX4.out.over _ _).alloc _, ((HOH2.out.over2 (by omega) _ _).alloc _).mono hwr, ((HOL2.out.over2 (by omega) _ _).alloc _).mono hwr, e1, by omega, by omega, HD3.out, HL3'.out, HA2.out, (below_over HBL4.out d4 _ _).alloc (by simp; omega) _⟩
              have h9 := HM.out
              rw [show n - k = n - (k + 1) + 1 from by omega, Fr.ten_succ] at h9
              omega
            case measure => simp [intOf]; omega
        · obtain rfl : M = 0 := by omega
          have he := HA.out
          rw [allP_done] at he
          subst he
          have HF := Hd (FrOwn.of_parts HOH.out HOL.out d1 HL2.out)
          go_wp2
          refine bodyPost_ret (v := .tuple #[.agg #[.slice (some ⟨hi, 0, none⟩) n ch, .slice (some ⟨lo, 0, none⟩) n cl], .int .i64 p, .bool true]) (by simp [results, Tryz.results175, go_sem, over_fst HZ2.out, over_snd HZ2.out]) rfl ⟨⟨_, rfl, ?_⟩, below_over HB2.out (by omega) _ _⟩
          exact (HF.out.over (by omega) _ _).mono (by omega)
  · have he := HE.out
    rw [frBy_out (by rw [HL.out, HT.out]; exact hin)] at he
    subst he
    have l3 : (decide (0 ≤ N) && decide (N ≤ T - 1)) = false := by simp; omega
    have HL3 := Hd l3
    clear hin l3
    go_wp2_with fail
    refine (HP.out _).mono ?_
    rintro e w2 ⟨rfl, rfl⟩
    go_wp2_with fail
    refine (ten_in HL3.out _).mono ?_
    rintro e w2 ⟨rfl, rfl⟩
    go_wp2
    exact bodyPost_ret (v := .tuple #[.agg #[.slice none 0 0, .slice none 0 0], .int .i64 0, .bool false]) (by simp [results, Tryz.results175, go_sem, over_fst HZ.out, over_snd HZ.out]) rfl (FrRes.none_ (below_over HB.out (by omega) _ _))
theorem l5AllTake_no (A A' : Option Addr) (n m c c' : Nat) (hs ls : List Int) (N : Int) (w : World) (hx : Ints w w.heap.size A n hs) (hy : Ints w w.heap.size A' m ls) (hno : ¬ FrOk hs ls) :
  Calls Tryz.prog 175 #[.agg #[.slice A n c, .slice A' m c'], .int .i64 N, .int .i64 (-1)] w (FrRes w none) := by
 have HX := Hd hx
 have HY := Hd hy
 have HN := Hd hno
 clear hx hy hno
 go_enter Tryz.func175, Tryz.ntmps175
 go_wp2_with fail
 refine (specFrameValid_no A A' n m c c' hs ls _ ((HX.out.al _).al _) ((HY.out.al _).al _) HN.out).mono ?_
 rintro e w1 ⟨rfl, hb1⟩
 have hz := ((FBox.new (w.alloc (.cells #[.slice A n c, .slice A' m c'] 30)) (.slice none 0 0) (.slice none 0 0)).next hb1)
 have hz0 := hz.fst
 have hz1 := hz.snd
 have hf0 := hz.free 0
 have hf1 := hz.free 1
 simp only [World.size_alloc] at hz hz0 hz1 hf0 hf1
 have HZ := Hd hz
 have HB := Hd ((below_two w _ _).trans (hb1.mono (by simp; omega)))
 clear hz hb1
 go_wp2
 exact bodyPost_ret (v := .tuple #[.agg #[.slice none 0 0, .slice none 0 0], .int .i64 0, .bool false]) (by simp [results, Tryz.results175, go_sem, over_fst HZ.out, over_snd HZ.out]) rfl (FrRes.none_ (below_over HB.out (by omega) _ _))
theorem l5AllTake_any (A A' : Option Addr) (n m c c' : Nat) (hs ls : List Int) (N : Int) (R : Option (List Int × Int)) (w : World) (hx : Ints w w.heap.size A n hs) (hy : Ints w w.heap.size A' m ls) (hR : frOf hs ls (fun ds => frBy (-1) ds N) R) :
  Calls Tryz.prog 175 #[.agg #[.slice A n c, .slice A' m c'], .int .i64 N, .int .i64 (-1)] w (FrRes w R) := by
 rcases hR with ⟨hno, rfl⟩ | ⟨ds, hd, rfl, rfl, h1, h6, rfl⟩
 ·exact l5AllTake_no A A' n m c c' hs ls N w hx hy hno
 ·have e1 := hx.len
  have e2 := hy.len
  rw [HiL_length] at e1
  rw [LoL_length] at e2
  subst e1
  subst e2
  exact l5AllTake_yes A A' _ c c' ds N w hx hy hd h1 h6
theorem specFrameLess_any (A A' : Option Addr) (n m c c' : Nat) (hs ls : List Int) (N : Int) (R : Option (List Int × Int)) (w : World) (hx : Ints w w.heap.size A n hs) (hy : Ints w w.heap.size A' m ls) (hR : frOf hs ls (fun ds => frBy (-1) ds N) R) :
  Calls Tryz.prog 136 #[.agg #[.slice A n c, .slice A' m c'], .int .i64 N] w (FrRes w R) := by
 have HX := Hd hx
 have HY := Hd hy
 have HE := Hd hR
 clear hx hy hR
 go_enter Tryz.func136, Tryz.ntmps136
 go_wp2_with fail
 refine (l5AllTake_any A A' n m c c' hs ls N R _ ((HX.out.al _).al _) ((HY.out.al _).al _) HE.out).mono ?_
 rintro e w1 ⟨⟨v, rfl, ho⟩, hb1⟩
 have hz := ((FBox.new (w.alloc (.cells #[.slice A n c, .slice A' m c'] 30)) (.slice none 0 0) (.slice none 0 0)).next hb1)
 have hz0 := hz.fst
 have hz1 := hz.snd
 have hf0 := hz.free 0
 have hf1 := hz.free 1
 simp only [World.size_alloc] at hz hz0 hz1 hf0 hf1 ho
 have HZ := Hd hz
 have HB := Hd ((below_two w _ _).trans (hb1.mono (by simp; omega)))
 have HO := Hd ho
 obtain ⟨A2, c2, A3, c3, rfl, -⟩ := ho
 clear hz hb1
 go_wp2
 refine bodyPost_ret (v := .tuple #[.agg #[.slice A2 (resL R).length c2, .slice A3 (resL R).length c3], .int .i64 (resN R), .bool R.isSome]) (by simp [results, Tryz.results136, go_sem, over_fst HZ.out, over_snd HZ.out]) rfl ⟨⟨_, rfl, ?_⟩, below_over HB.out (by omega) _ _⟩
 exact (HO.out.over (by omega) _ _).mono (by omega)
def quoK (v : Int) : Nat → Int
 | 0 => v
 | k + 1 => quoK v k / 10
def digitsOf (n : Nat) (v : Int) : List Int := (List.range n).map fun k => quoK v k % 10
theorem digitsOf_length (n : Nat) (v : Int) : (digitsOf n v).length = n := by simp [digitsOf]
theorem digitsOf_get {n k : Nat} (v : Int) (h : k < n) : (digitsOf n v)[k]? = some (quoK v k % 10) := by simp [digitsOf, h]
theorem digs_digitsOf (n : Nat) (v : Int) : Fr.Digs (digitsOf n v) := by
 intro d hd
 simp only [digitsOf, List.mem_map] at hd
 obtain ⟨k, _, rfl⟩ := hd
 exact ⟨Int.emod_nonneg _ (by omega), by have := Int.emod_lt_of_pos (quoK v k) (b := 10) (by omega); omega⟩
theorem quoK_in {v : Int} (h : 0 ≤ v) (k : Nat) : 0 ≤ quoK v k ∧ quoK v k ≤ v := by
 induction k with
 | zero => exact ⟨h, Int.le_refl _⟩
 | succ k ih => simp only [quoK]; omega
theorem FrameOf_yes (n : Nat) (v : Int) (w : World) (h1 : 1 ≤ n) (h6 : n ≤ 6) (v0 : 0 ≤ v) (v1 : v < Fr.ten n) :
  Calls Tryz.prog 18 #[.int .i64 (n : Int), .int .i64 v] w (FrPair w true (digitsOf n v)) := by
 have hten := ten_bd n h6
 obtain ⟨T, hT⟩ : ∃ T, Fr.ten n = T := ⟨_, rfl⟩
 rw [hT] at hten v1
 obtain ⟨t0, t1⟩ := hten
 have HT := Hd hT
 clear hT
 have hpow : ∀ u, Calls Tryz.prog 56 #[.int .i64 (n : Int)] u fun e w' => e = .returned (.int .i64 T) ∧ u = w' := fun u => by rw [← HT.out]; exact powerOfTen_any n u h6
 have HP := Hd hpow
 have HZ := Hd (FBox.new w (.slice none 0 0) (.slice none 0 0))
 have HB := Hd ((Below.refl w.heap.size w).alloc (Nat.le_refl _) (.cells #[.slice none 0 0, .slice none 0 0] 30))
 clear hpow
 go_enter Tryz.func18, Tryz.ntmps18
 go_wp2_with fail
 refine (HP.out _).mono ?_
 rintro e w2 ⟨rfl, rfl⟩
 go_wp2_with (refine wpList_make_rods (n := n) rfl _ _ rfl rfl rfl (by omega) ?_; intro w3 hm3 hg3)
 simp only [World.size_alloc] at hm3
 have hm4 := (Below.heap_alloc w3 (.cells #[.slice (some ⟨w.heap.size + 1, 0, none⟩) n n] 80) (w.heap.size + 1) (Array.getElem?_eq_some_iff.1 hm3).1).trans hm3
 have hh4 := heap_alloc_new w3 (.cells #[.slice (some ⟨w.heap.size + 1, 0, none⟩) n n] 80)
 have hb3 : Below (w.heap.size + 1) (w.alloc (.cells #[.slice none 0 0, .slice none 0 0] 30)) (w3.alloc (.cells #[.slice (some ⟨w.heap.size + 1, 0, none⟩) n n] 80)) := (grown_below hg3 (by simp) (by simp)).alloc (by have := hg3.size; simpa using this) _
 have hlt3 := (Array.getElem?_eq_some_iff.1 hm3).1
 obtain ⟨hb, hhb⟩ : ∃ hb, w3.heap.size = hb := ⟨_, rfl⟩
 rw [hhb] at hh4 hlt3
 rw [hhb]
 generalize w3.alloc (.cells #[.slice (some ⟨w.heap.size + 1, 0, none⟩) n n] 80) = W at *
 have hr0 : Rods W (w.heap.size + 1) hb (w.heap.size + 1) ((digitsOf n v).take 0 ++ List.replicate (n - 0) 0) := ⟨by simpa using hh4, by simpa using hm4, by omega, by omega, by omega⟩
 have HZ4 := Hd (HZ.out.keep (hb3.block _ (Nat.lt_succ_self _)))
 have HB4 := Hd (HB.out.trans (hb3.mono (Nat.le_succ _)))
 have HR4 := Hd hr0
 have HG4 := Hd (World.grownBy.refl W (some (w.heap.size + 1)))
 have hsl4 := hr0.slice
 have hln0 : ((digitsOf n v).take 0 ++ List.replicate (n - 0) 0 : List Int).length = n := by simp
 rw [hln0] at hsl4
 clear hln0
 clear hm3 hg3 hb3 hm4 hh4 hr0 hhb
 go_wp2
 go_loopw [1, 29] (fun vv kv wr => ∃ (k : Nat) (u : Int), vv = .int .i64 u ∧ kv = .int .i64 (k : Int) ∧ k ≤ n ∧ u = quoK v k ∧ Rods wr (w.heap.size + 1) hb (w.heap.size + 1) ((digitsOf n v).take k ++ List.replicate (n - k) 0) ∧ W.grownBy wr (some (w.heap.size + 1))) (fun _ kv _ => n - (intOf kv).toNat)
 case atStart => exact ⟨0, v, rfl, rfl, by omega, rfl, HR4.out, HG4.out⟩
 case round =>
  clear HR4 HG4 hsl4
  obtain ⟨k, u, rfl, rfl, hk, hu, hr, hg⟩ := hrel
  have hln : ((digitsOf n v).take k ++ List.replicate (n - k) 0).length = n := by have := digitsOf_length n v; simp; omega
  have hsl := hr.slice
  rw [hln] at hsl
  have hub := quoK_in v0 k
  rw [← hu] at hub
  obtain ⟨u0, u1⟩ := hub
  have HU := Hd hu
  have HR := Hd hr
  have HG := Hd hg
  have HLN := Hd hln
  have HZ5 := Hd (HZ4.out.grown hg (by intro e; injection e with e; omega))
  have HB5 := Hd (HB4.out.grown hg HB4.out.size (by rintro q ⟨⟩; omega))
  have hws := HB5.out.size
  clear hr hg hln hu
  by_cases hlt : k < n
  ·have hold : ((digitsOf n v).take k ++ List.replicate (n - k) 0)[k]? = some 0 := fill_at hlt (digitsOf_length n v)
   have hnx := fill_next hlt (digitsOf_length n v) (digitsOf_get v hlt)
   rw [← HU.out] at hnx
   have m0 : 0 ≤ u % 10 := Int.emod_nonneg u (by omega)
   have m9 : u % 10 ≤ 9 := by have := Int.emod_lt_of_pos u (b := 10) (by omega); omega
   have HO := Hd hold
   have HNX := Hd hnx
   clear hold hnx
   have k0 : (0 : Int) ≤ (k : Int) := by omega
   have k1 : (k : Int) < (n : Int) := by omega
   go_wp2_with fail
   refine (show_any _ _ hb (w.heap.size + 1) _ k 0 (u % 10) HR.out HO.out m0 m9).mono ?_
   rintro e w5 ⟨rfl, hr5, hg5⟩
   rw [HNX.out] at hr5
   have HR5 := Hd hr5
   have HG5 := Hd (HG.out.trans hg5)
   clear hr5 hg5
   go_wp2
   go_roundw
   case rel => exact ⟨k + 1, u / 10, by go_num, by go_num, by omega, by rw [quoK, ← HU.out], HR5.out, HG5.out⟩
   case measure => simp [intOf]; omega
  ·obtain rfl : k = n := by omega
   have hr := HR.out
   rw [Nat.sub_self, List.replicate_zero, List.append_nil, List.take_of_length_le (by rw [digitsOf_length]; omega)] at hr
   have HR6 := Hd hr
   clear hr
   go_wp2_with fail
   refine (frame_any wr _ hb (w.heap.size + 1) (digitsOf k v) k HR6.out (digitsOf_length k v) (digs_digitsOf k v) h6).mono ?_
   rintro e w6 ⟨⟨x, rfl, ho⟩, hb6⟩
   have hos := ho.mono (show w.heap.size + 1 ≤ _ by have := HR6.out.hl; omega)
   obtain ⟨A2, c2, A3, c3, rfl, -⟩ := ho
   have HO := Hd hos
   have HZ6 := Hd (HZ5.out.next hb6)
   have z0 := HZ6.out.fst
   have z1 := HZ6.out.snd
   have f0 := HZ6.out.free 0
   have f1 := HZ6.out.free 1
   have HB6 := Hd (below_chain HB5.out hb6)
   clear hb6 hos
   go_wp2
   refine bodyPost_ret (v := .tuple #[.agg #[.slice A2 (digitsOf k v).length c2, .slice A3 (digitsOf k v).length c3], .bool true]) (by simp [results, Tryz.results18, go_sem, over_fst HZ6.out, over_snd HZ6.out]) rfl ⟨⟨_, rfl, ?_⟩, below_over HB6.out (by omega) _ _⟩
   exact (HO.out.over (by omega) _ _).mono (by omega)
theorem val_append (xs bs : List Int) : Fr.val (xs ++ bs) = Fr.val xs + Fr.ten xs.length * Fr.val bs := by
 induction xs with
 | nil => simp [Fr.val, Fr.ten]
 | cons a l ih => rw [List.cons_append, Fr.val, ih, Fr.val, List.length_cons, Fr.ten_succ, Int.mul_add, Int.mul_assoc]; omega
theorem nines_length (ds : List Int) : (Fr.nines ds).length = ds.length := by simp [Fr.nines]
theorem frBy_some {s : Int} (hs : Fr.Sgn s) {ds r : List Int} {N n : Int} (hd : Fr.Digs ds) (h : frBy s ds N = some (r, n)) :
  Fr.Digs r ∧ r.length = ds.length ∧ Fr.val r = Fr.val ds + s * N ∧ Fr.dist ds r ≤ n ∧ 0 ≤ n ∧ (n = 0 ↔ N = 0) ∧ (∃ m, frBy (0 - s) r N = some (ds, m)) ∧ frBy (0 - s) (Fr.nines ds) N = some (Fr.nines r, n) ∧ 0 ≤ N ∧ N < Fr.ten ds.length := by
 unfold frBy at h
 by_cases hc : 0 ≤ N ∧ N < Fr.ten ds.length
 ·rw [if_pos hc] at h
  obtain ⟨e1, e2, e3, e4, e5, e6⟩ := Fr.all_some s hs ds N r n hd hc.1 h
  obtain ⟨m, hm⟩ := Fr.all_back s hs ds N r n hd hc.1 h
  have hn := Fr.all_nines' s hs ds N hd hc.1
  rw [h, Option.map_some] at hn
  exact ⟨e1, e2, e3, e4, e5, e6, ⟨m, by rw [frBy_in (by rw [e2]; exact hc), hm]⟩, by rw [frBy_in (by rw [nines_length]; exact hc), hn], hc.1, hc.2⟩
 ·rw [if_neg hc] at h; cases h
end Go.Proofs.YthdoofmfigemoaaGreatDoor
section
namespace Go.Proofs.YthdoofmfigemoaaGreatDoor
open Go.RowKit
def FrG (w : World) (v : Value) (n : Nat) (ds : List Int) : Prop := FrV w v (HiL ds) (LoL ds) ∧ Fr.Digs ds ∧ ds.length = n ∧ 1 ≤ n ∧ n ≤ 6
section
variable {w : World} {A A' B B' : Option Addr} {n m c c' d d' : Nat} {hs ls ds es r : List Int} {k x N p : Int}
end
end Go.Proofs.YthdoofmfigemoaaGreatDoor
end
section
namespace Go.Proofs.YthdoofmfigemoaaGreatDoor
open Go.RowKit
def digText (ds : List Int) : List UInt8 := ds.reverse.map fun d => UInt8.ofNat (48 + d.toNat)
theorem digText_length (ds : List Int) : (digText ds).length = ds.length := by simp [digText]
theorem digText_cons (d : Int) (ds : List Int) : digText (d :: ds) = digText ds ++ [UInt8.ofNat (48 + d.toNat)] := by simp [digText]
theorem digText_drop {ds : List Int} {k : Nat} {d : Int} (h : ds[k]? = some d) : digText (ds.drop k) = digText (ds.drop (k + 1)) ++ [UInt8.ofNat (48 + d.toNat)] := by rw [drop_cons h, digText_cons]
theorem conv_one (w : World) (b : UInt8) : (convert 22 9 (.slice (some ⟨w.heap.size, 0, none⟩) 1 1)).run Tryz.prog (w.alloc (.cells #[.int .u8 (b.toNat : Int)] 5)) = .ok (.string (txt [b])) (w.alloc (.cells #[.int .u8 (b.toNat : Int)] 5)) := by
 have := run_convert_bytes_back (P := Tryz.prog) (w.alloc (.cells #[.int .u8 (b.toNat : Int)] 5)) 22 9 5 ⟨w.heap.size, 0, none⟩ 1 [b] Tryz.underlying22 Tryz.underlying5 Tryz.underlying9 (by
  intro j hj
  obtain rfl : j = 0 := by simpa using hj
  rw [add_row, cell_of_row _ w.heap.size 0 _ _ _ (heap_alloc_new w _)]
  rfl)
 exact this
set_option maxRecDepth 100000 in
set_option maxHeartbeats 1000000 in
theorem l6Dec_dig (d : Int) (h0 : 0 ≤ d) (h9 : d ≤ 9) (w : World) : Calls Tryz.prog 53 #[.int .i64 d] w fun e w' => e = .returned (.string (txt [UInt8.ofNat (48 + d.toNat)])) ∧ Below w.heap.size w w' := by
 obtain ⟨b, hb⟩ : ∃ b, UInt8.ofNat (48 + d.toNat) = b := ⟨_, rfl⟩
 have hbn : (b.toNat : Int) = 48 + d := by rw [← hb, UInt8.toNat_ofNat']; omega
 have hcv : ∀ w : World, (convert 22 9 (.slice (some ⟨w.heap.size, 0, none⟩) 1 1)).run Tryz.prog (w.alloc (.cells #[.int .u8 (48 + d)] 5)) = .ok (.string (txt [b])) (w.alloc (.cells #[.int .u8 (48 + d)] 5)) := fun w => by
  have := conv_one w b
  rwa [hbn] at this
 have h1 : ¬ (d < -9223372036854775807) := by omega
 have h2 : ¬ (d < 0) := by omega
 have h3 : d < 10 := by omega
 rw [hb]
 clear hb hbn
 go_enter Tryz.func53, Tryz.ntmps53
 go_wp2
 go_ret
 exact ⟨rfl, (Below.refl _ _).alloc (Nat.le_refl _) _⟩
theorem itoa_dig (d : Int) (h0 : 0 ≤ d) (h9 : d ≤ 9) (w : World) : Calls Tryz.prog 47 #[.int .i64 d] w fun e w' => e = .returned (.string (txt [UInt8.ofNat (48 + d.toNat)])) ∧ w = w' := by
 obtain ⟨k, rfl⟩ := Int.eq_ofNat_of_zero_le h0
 have := Tryz.strconv_Itoa_small k (by omega) w
 rw [Lib.decDigits_one (by omega)] at this
 exact this.mono fun _ _ h => ⟨h.1, h.2.symm⟩
theorem cat_fact {a b c : List UInt8} (h : a ++ b = c) (hl : c.length ≤ 1000000000) : txt a ++ txt b = txt c ∧ ¬ ((txt a).size + (txt b).size > 9223372036854775807) := by
 subst h
 rw [List.length_append] at hl
 exact ⟨txt_append a b, by rw [txt_size, txt_size]; omega⟩
set_option maxRecDepth 100000 in
set_option maxHeartbeats 2000000 in
theorem FrameText_yes (A A' : Option Addr) (n c c' : Nat) (ds : List Int) (w : World) (hx : Ints w w.heap.size A n (HiL ds)) (hy : Ints w w.heap.size A' n (LoL ds)) (hds : Fr.Digs ds) (h1 : 1 ≤ n) (h6 : n ≤ 6) :
  Calls Tryz.prog 22 #[.agg #[.slice A n c, .slice A' n c']] w fun e w' => e = .returned (.string (txt (digText ds))) ∧ Below w.heap.size w w' := by
 have hl : ds.length = n := by have := hx.len; rwa [HiL_length] at this
 have HN := Hd hl
 have HX := Hd hx
 have HY := Hd hy
 have HD := Hd hds
 clear hx hy hds hl
 go_enter Tryz.func22, Tryz.ntmps22
 go_wp2_with fail
 refine (rodsOf_yes A A' n c c' ds _ (HX.out.al _) (HY.out.al _) HD.out h1 h6).mono ?_
 rintro e w1 ⟨⟨g, h, rfl, hr⟩, hb1⟩
 have hsl := hr.slice
 rw [HN.out] at hsl
 have HB := Hd (((Below.refl w.heap.size w).alloc (Nat.le_refl _) _).trans (hb1.mono (by simp)))
 have HR := Hd hr
 clear hr hb1
 go_wp2
 go_loopw [5, 6] (fun tv kv wr => ∃ (j q : Nat) (t : ByteArray), j ≤ n ∧ tv = .string t ∧ kv = .int .i64 ((j : Int) - 1) ∧ t = txt (digText (ds.drop j)) ∧ wr = w1.drewN q) (fun _ kv _ => (intOf kv + 1).toNat)
 case atStart => exact ⟨n, 0, _, by omega, rfl, rfl, by rw [List.drop_of_length_le (by have := HN.out; omega)]; rfl, rfl⟩
 case round =>
  obtain ⟨j, q, t, hj, rfl, rfl, ht, rfl⟩ := hrel
  have HT := Hd ht
  clear ht
  by_cases h0 : 0 < j
  ·obtain ⟨i, rfl⟩ : ∃ i, j = i + 1 := ⟨j - 1, by omega⟩
   obtain ⟨d, hd⟩ : ∃ d, ds[i]? = some d := ⟨_, List.getElem?_eq_getElem (by have := HN.out; omega)⟩
   obtain ⟨d0, d9⟩ := HD.out d (List.mem_of_getElem? hd)
   obtain ⟨hcat, hno⟩ := cat_fact (digText_drop hd).symm (by rw [digText_length, List.length_drop]; have := HN.out; omega)
   rw [← HT.out] at hcat hno
   obtain ⟨u, hu⟩ : ∃ u, txt [UInt8.ofNat (48 + d.toNat)] = u := ⟨_, rfl⟩
   obtain ⟨v, hv⟩ : ∃ v, txt (digText (ds.drop i)) = v := ⟨_, rfl⟩
   have hit := fun w => itoa_dig d d0 d9 w
   rw [hu] at hcat hno hit
   rw [hv] at hcat
   have e1 : ((i + 1 : Nat) : Int) - 1 = (i : Int) := by omega
   rw [e1]
   have HDD := Hd hd
   have HV := Hd hv
   have HIT := Hd hit
   clear hd e1 hu hv hit
   go_wp2_with fail
   refine (rod_digit (HR.out.drewN _) HDD.out d0 d9).mono ?_
   rintro e w2 ⟨rfl, q2, rfl⟩
   go_wp2_with fail
   refine (HIT.out _).mono ?_
   rintro e w' ⟨rfl, rfl⟩
   go_wp2
   go_roundw
   case rel =>
    exact ⟨i, _, v, by omega, rfl, by go_num, HV.out.symm, rfl⟩
   case measure => simp [intOf]
  ·obtain rfl : j = 0 := by omega
   have e1 : ((0 : Nat) : Int) - 1 = -1 := rfl
   rw [e1]
   clear e1
   go_wp2
   go_ret
   exact ⟨by rw [HT.out, List.drop_zero]; exact rfl, below_drewN HB.out _⟩
set_option maxRecDepth 100000 in
set_option maxHeartbeats 2000000 in
theorem specFrameText_yes (A A' : Option Addr) (n c c' : Nat) (ds : List Int) (w : World) (hx : Ints w w.heap.size A n (HiL ds)) (hy : Ints w w.heap.size A' n (LoL ds)) (hds : Fr.Digs ds) (h1 : 1 ≤ n) (h6 : n ≤ 6) :
  Calls Tryz.prog 177 #[.agg #[.slice A n c, .slice A' n c']] w fun e w' => e = .returned (.string (txt (digText ds))) ∧ Below w.heap.size w w' := by
 have hl : ds.length = n := by have := hx.len; rwa [HiL_length] at this
 have HN := Hd hl
 have HD := Hd hds
 obtain ⟨W, hW⟩ : ∃ W, w.alloc (.cells #[.slice A n c, .slice A' n c'] 30) = W := ⟨_, rfl⟩
 have HX := Hd (hW ▸ hx.al (.cells #[.slice A n c, .slice A' n c'] 30))
 have HY := Hd (hW ▸ hy.al (.cells #[.slice A n c, .slice A' n c'] 30))
 have HBX := Hd (hW ▸ FBox.new w (.slice A n c) (.slice A' n c'))
 have HB := Hd (hW ▸ (Below.refl w.heap.size w).alloc (Nat.le_refl _) (.cells #[.slice A n c, .slice A' n c'] 30))
 have HW := Hd hW
 have c0 := HBX.out.fst
 have c1 := HBX.out.snd
 have cl := HBX.out.lt
 clear hx hy hds hl hW
 go_enter Tryz.func177, Tryz.ntmps177
 go_upto_region 1 with fail
 rw [HW.out]
 go_wp2_with fail
 go_loopw [3, 4] (fun tv kv wr => ∃ (j : Nat) (t : ByteArray), j ≤ n ∧ tv = .string t ∧ kv = .int .i64 ((j : Int) - 1) ∧ t = txt (digText (ds.drop j)) ∧ SB W wr) (fun _ kv _ => (intOf kv + 1).toNat)
 case atStart => exact ⟨n, _, by omega, rfl, rfl, by rw [List.drop_of_length_le (by have := HN.out; omega)]; rfl, SB.refl W⟩
 case round =>
  obtain ⟨j, t, hj, rfl, rfl, ht, hsb⟩ := hrel
  have HT := Hd ht
  have hbr := HBX.out.next hsb
  have r0 := hbr.fst
  have r1 := hbr.snd
  have rl := hbr.lt
  have HBR := Hd hbr
  have HXR := Hd (HX.out.next hsb)
  have HYR := Hd (HY.out.next hsb)
  have HSB := Hd hsb
  clear ht hbr hsb c0 c1 cl
  by_cases h0 : 0 < j
  ·obtain ⟨i, rfl⟩ : ∃ i, j = i + 1 := ⟨j - 1, by omega⟩
   obtain ⟨d, hd⟩ : ∃ d, ds[i]? = some d := ⟨_, List.getElem?_eq_getElem (by have := HN.out; omega)⟩
   obtain ⟨d0, d9⟩ := HD.out d (List.mem_of_getElem? hd)
   obtain ⟨hcat, hno⟩ := cat_fact (digText_drop hd).symm (by rw [digText_length, List.length_drop]; have := HN.out; omega)
   rw [← HT.out] at hcat hno
   obtain ⟨u, hu⟩ : ∃ u, txt [UInt8.ofNat (48 + d.toNat)] = u := ⟨_, rfl⟩
   obtain ⟨v, hv⟩ : ∃ v, txt (digText (ds.drop i)) = v := ⟨_, rfl⟩
   have hit := fun w => l6Dec_dig d d0 d9 w
   rw [hu] at hcat hno hit
   rw [hv] at hcat
   have e1 : ((i + 1 : Nat) : Int) - 1 = (i : Int) := by omega
   rw [e1]
   have HDD := Hd (show digAt ds (i : Int) = d from digAt_in hd)
   have HV := Hd hv
   have HIT := Hd hit
   clear hd e1 hu hv hit
   go_wp2_with fail
   refine (specFrameValid_yes A A' n c c' ds _ HXR.out HYR.out HD.out h1 h6).mono ?_
   rintro e w2 ⟨rfl, hb2⟩
   have hbr := HBR.out.next hb2
   have r20 := hbr.fst
   have r21 := hbr.snd
   have r2l := hbr.lt
   have HBR2 := Hd hbr
   have HXR2 := Hd (HXR.out.next hb2)
   have HYR2 := Hd (HYR.out.next hb2)
   have HSB2 := Hd (SB.below HSB.out hb2)
   clear hbr hb2 r0 r1 rl
   go_wp2_with fail
   refine (specFrameDigit_any A A' n n c c' _ _ (i : Int) d _ HXR2.out HYR2.out (.inr ⟨ds, HD.out, rfl, rfl, by have := HN.out; omega, by have := HN.out; omega, HDD.out.symm⟩)).mono ?_
   rintro e w3 ⟨rfl, hb3⟩
   have HSB3 := Hd (SB.below HSB2.out hb3)
   clear hb3 r20 r21 r2l
   go_wp2_with fail
   refine (HIT.out _).mono ?_
   rintro e w4 ⟨rfl, hb4⟩
   have HSB4 := Hd (SB.below HSB3.out hb4)
   clear hb4
   go_wp2
   go_roundw
   case rel => exact ⟨i, v, by omega, rfl, by go_num, HV.out.symm, HSB4.out⟩
   case measure => simp [intOf]
  ·obtain rfl : j = 0 := by omega
   have e1 : ((0 : Nat) : Int) - 1 = -1 := rfl
   rw [e1]
   clear e1
   go_wp2
   go_ret
   exact ⟨by rw [HT.out, List.drop_zero]; exact rfl, HB.out.trans (Below.mono HSB.out HB.out.size)⟩
section
variable {w : World} {A A' : Option Addr} {n c c' : Nat} {ds : List Int} {t : ByteArray}
theorem text_g (hv : FrG w (.agg #[.slice A n c, .slice A' n c']) n ds) (h : txt (digText ds) = t) : Calls Tryz.prog 22 #[.agg #[.slice A n c, .slice A' n c']] w fun e w' => e = .returned (.string t) ∧ Below w.heap.size w w' :=
 h ▸ FrameText_yes A A' n c c' ds w hv.1.rows.1 hv.1.rows.2 hv.2.1 hv.2.2.2.1 hv.2.2.2.2
end
end Go.Proofs.YthdoofmfigemoaaGreatDoor
end
namespace Go.Proofs.YthdoofmfigemoaaGreatDoor
open Go.RowKit
def Pow (B : Nat) (w : World) : Prop := ∀ w', Below B w w' → Lib.TabIs Tryz.prog w' "internal/strconv.uint64pow10" .u64 Lib.pow10Tab
theorem Pow.below {B : Nat} {w w' : World} (h : Pow B w) (hb : Below B w w') : Pow B w' := fun w2 hb2 => h w2 (hb.trans hb2)
def dec (n : Int) : ByteArray := ⟨(Lib.itoa n).toArray⟩
theorem decDigits_len : ∀ (k u : Nat), u < 10 ^ k → 1 ≤ k → (Lib.decDigits u).length ≤ k
 | 0, _, _, h => absurd h (by omega)
 | k + 1, u, h, _ => by
  unfold Lib.decDigits
  split
  ·simp
  ·have hk : 1 ≤ k := by
    rcases Nat.eq_zero_or_pos k with rfl | h'
    ·simp at h; omega
    ·exact h'
   have := decDigits_len k (u / 10) (by rw [Nat.pow_succ] at h; omega) hk
   simp; exact this
theorem dec_size (n : Int) (h0 : -9223372036854775808 ≤ n) (h1 : n ≤ 9223372036854775807) : (dec n).size ≤ 20 := by
 have e : (dec n).size = (Lib.itoa n).length := by show (Lib.itoa n).toArray.size = _; simp
 rw [e]
 unfold Lib.itoa
 split
 ·have := decDigits_len 19 n.natAbs (by omega) (by omega)
  simp; exact this
 ·have := decDigits_len 19 n.toNat (by omega) (by omega)
  omega
theorem no_long {n : Nat} (h : n ≤ 1000000) (k : Nat) (hk : k ≤ 1000000) : ¬ 9223372036854775807 < n + k := by omega
theorem Itoa_any {B : Nat} {w : World} (h : Pow B w) (n : Int) (h0 : -9223372036854775808 ≤ n) (h1 : n ≤ 9223372036854775807) : Calls Tryz.prog 47 #[.int .i64 n] w fun e w' => e = .returned (.string (dec n)) ∧ Below w.heap.size w w' := by
 refine (Tryz.strconv_Itoa n h0 h1 w (h w (Below.refl _ _))).mono ?_
 rintro e w' ⟨rfl, k, os, rfl⟩
 exact ⟨rfl, Lib.below_grow _ w (Nat.le_refl _) k os⟩
def Tell (B0 tb : Nat) (bs ds : List Int) (ts : List Tl) (t : ByteArray) (s : ByteArray) (ok : Bool) (w' : World) : Prop := ok = true ∧ s = t ++ ⟨#[10]⟩ ∧ Tab B0 w' tb bs ds ts
theorem value_cmd (B0 tb : Nat) (bs ds : List Int) (ts : List Tl) (v : Value) (w : World) (h : Tab B0 w tb bs ds ts) (hw : B0 ≤ w.heap.size) (hp : Pow B0 w) (hv : -9223372036854775808 ≤ bVal bs ∧ bVal bs ≤ 9223372036854775807) :
  Calls Tryz.prog 160 #[.pointer (some ⟨tb, 0, none⟩), v] w (CmdPost B0 (Tell B0 tb bs ds ts (dec (bVal bs))) w) := by
 obtain ⟨hB0, Ab, nb, cb, A, c, A', c', At, nt, ct, g0, g1, g2, g3, g4⟩ := id h
 have hlong := no_long (n := (dec (bVal bs)).size) (by have := dec_size (bVal bs) hv.1 hv.2; omega) 1 (by omega)
 have HT := Hd h
 have c0 := g0.cell (j := 0) (v := .slice Ab nb cb) rfl
 have HI := Hd g1.ints
 have HW := Hd hw
 have HP := Hd hp
 have HV := Hd hv
 clear h hB0 g0 g1 g2 g3 g4 hw hp hv
 go_enter Tryz.func160, Tryz.ntmps160
 go_wp2_with (first
  | (go_at_call 48; refine (BoardValue_any Ab nb cb bs _ HI.out).mono ?_; rintro e w1 ⟨rfl, hb1⟩)
  | (go_at_call 47; refine (Itoa_any (HP.out.below (hb1.mono HW.out)) (bVal bs) HV.out.1 HV.out.2).mono ?_; rintro e w2 ⟨rfl, hb2⟩))
 refine bodyPost_ret (v := .tuple #[.string (dec (bVal bs) ++ ⟨#[10]⟩), .bool true]) (by simp [results, Tryz.results160, go_sem]) rfl ?_
 refine ⟨_, _, rfl, ⟨rfl, rfl, (HT.out.next hb1).next hb2⟩, (KeptT.of_below hb1).trans (KeptT.of_below hb2)⟩
theorem frameText_cmd (B0 tb : Nat) (bs ds : List Int) (ts : List Tl) (v : Value) (w : World) (h : Tab B0 w tb bs ds ts) (hd : Fr.Digs ds) (h4 : ds.length = 4) :
  Calls Tryz.prog 163 #[.pointer (some ⟨tb, 0, none⟩), v] w (CmdPost B0 (Tell B0 tb bs ds ts (txt (digText ds))) w) := by
 obtain ⟨hB0, Ab, nb, cb, A, c, A', c', At, nt, ct, g0, g1, g2, g3, g4⟩ := id h
 have hlong := no_long (n := (txt (digText ds)).size) (by rw [txt_size, digText_length]; omega) 1 (by omega)
 have HT := Hd h
 have c1 := g0.cell (j := 1) (v := .slice A 4 c) rfl
 have c2 := g0.cell (j := 2) (v := .slice A' 4 c') rfl
 have HG := Hd (show FrG w (.agg #[.slice A 4 c, .slice A' 4 c']) 4 ds from ⟨⟨A, 4, c, A', 4, c', rfl, g2.ints, g3.ints⟩, hd, h4, by omega, by omega⟩)
 clear h hB0 g0 g1 g2 g3 g4 hd
 go_enter Tryz.func163, Tryz.ntmps163
 go_wp2_with (first
  | (go_at_call 22; refine (text_g HG.out rfl).mono ?_; rintro e w1 ⟨rfl, hb1⟩))
 refine bodyPost_ret (v := .tuple #[.string (txt (digText ds) ++ ⟨#[10]⟩), .bool true]) (by simp [results, Tryz.results163, go_sem]) rfl ?_
 exact ⟨_, _, rfl, ⟨rfl, rfl, HT.out.next hb1⟩, KeptT.of_below hb1⟩
def FrameCmd (B0 tb : Nat) (bs ds : List Int) (ts : List Tl) (R : Option (List Int × Int)) (s : ByteArray) (ok : Bool) (w' : World) : Prop :=
 ok = R.isSome ∧ (s = match R with | none => ⟨#[]⟩ | some (_, p) => dec p ++ ⟨#[10]⟩) ∧ Tab B0 w' tb bs (match R with | none => ds | some (es, _) => es) ts
theorem setFrame_no (w : World) (t : Option Addr) (A A' : Option Addr) (n c n' c' : Nat) (p : Int) :
  Calls Tryz.prog 198 #[.pointer t, .agg #[.slice A n c, .slice A' n' c'], .int .i64 p, .bool false] w fun e w' => e = .returned (.tuple #[.string ⟨#[]⟩, .bool false]) ∧ Below w.heap.size w w' := by
 go_enter Tryz.func198, Tryz.ntmps198
 go_wp2
 go_ret2
 exact ⟨rfl, (Below.refl _ _).alloc (Nat.le_refl _) _⟩
theorem setFrame_yes {B0 : Nat} {w : World} {tb : Nat} {bs ds es : List Int} {ts : List Tl} (h : Tab B0 w tb bs ds ts) (hw : B0 ≤ w.heap.size) (hp : Pow B0 w) {A A' : Option Addr} {c c' : Nat} (h1 : Own w B0 A 4 c (HiL es)) (h2 : Own w B0 A' 4 c' (LoL es)) (p : Int) (p0 : -9223372036854775808 ≤ p) (p1 : p ≤ 9223372036854775807) :
  Calls Tryz.prog 198 #[.pointer (some ⟨tb, 0, none⟩), .agg #[.slice A 4 c, .slice A' 4 c'], .int .i64 p, .bool true] w (CmdPost B0 (fun s ok w' => ok = true ∧ s = dec p ++ ⟨#[10]⟩ ∧ Tab B0 w' tb bs es ts) w) := by
 obtain ⟨hB0, Ab, nb, cb, Az, cz, Az', cz', At, nt, ct, g0, g1, g2, g3, g4⟩ := id h
 have hlong := no_long (n := (dec p).size) (by have := dec_size p p0 p1; omega) 1 (by omega)
 obtain ⟨W, hW⟩ : ∃ W, w.alloc (.cells #[.slice A 4 c, .slice A' 4 c'] 30) = W := ⟨_, rfl⟩
 have hbl : Below w.heap.size w W := by rw [← hW]; exact (Below.refl _ _).alloc (Nat.le_refl _) _
 have HT := Hd ((h.next hbl).setFrame (h1.r.next hbl) (h2.r.next hbl))
 have k0 := g0.next hbl
 have c1 := k0.cell (j := 1) (v := .slice Az 4 cz) rfl
 have c2 := k0.cell (j := 2) (v := .slice Az' 4 cz') rfl
 have f1 := k0.free 1
 have f2 := k0.free 2
 have hk : KeptT B0 w ((W.setCell ⟨tb, 1, none⟩ (.slice A 4 c)).setCell ⟨tb, 2, none⟩ (.slice A' 4 c')) := ((KeptT.of_below hbl).trans (KeptT.set k0 hB0 _ _)).trans (KeptT.set (k0.set 1 _) hB0 _ _)
 have HK := Hd hk
 have HP := Hd (hp.below (hk.below hw))
 have b0 : W.cell? ⟨w.heap.size, 0, none⟩ = some (.slice A 4 c) := by rw [← hW]; exact (Blk.new w _ _).cell rfl
 have b1 : W.cell? ⟨w.heap.size, 1, none⟩ = some (.slice A' 4 c') := by rw [← hW]; exact (Blk.new w _ _).cell rfl
 clear h hp h1 h2 hB0 g0 g1 g2 g3 g4 hbl k0 hk
 subst hW
 go_enter Tryz.func198, Tryz.ntmps198
 go_wp2_with (first
  | (go_at_call 47; refine (Itoa_any HP.out p p0 p1).mono ?_; rintro e w2 ⟨rfl, hb2⟩))
 go_ret2
 exact ⟨_, _, rfl, ⟨rfl, rfl, HT.out.next hb2⟩, HK.out.trans (KeptT.of_below hb2)⟩
theorem frame_cmd {B0 tb : Nat} {bs ds : List Int} {ts : List Tl} {w w1 : World} {R : Option (List Int × Int)} {v : Value} (h : Tab B0 w tb bs ds ts) (hw : B0 ≤ w.heap.size) (hp : Pow B0 w) (hv : FrOwn w1 w.heap.size v (resL R)) (hb : Below w.heap.size w w1)
  (hR : ∀ es p, R = some (es, p) → es.length = 4 ∧ -1000000000 ≤ p ∧ p ≤ 1000000000) :
  Calls Tryz.prog 198 #[.pointer (some ⟨tb, 0, none⟩), v, .int .i64 (resN R), .bool R.isSome] w1 (CmdPost B0 (FrameCmd B0 tb bs ds ts R) w) := by
 have h1 := h.next hb
 obtain ⟨A, c, A', c', rfl, o1, o2, _, _⟩ := hv
 rcases R with _ | ⟨es, p⟩
 ·refine (setFrame_no w1 _ A A' _ c _ c' _).mono ?_
  rintro e w2 ⟨rfl, hb2⟩
  exact ⟨_, _, rfl, ⟨rfl, rfl, h1.next hb2⟩, (KeptT.of_below hb).trans (KeptT.of_below hb2)⟩
 ·obtain ⟨h4, p0, p1⟩ := hR es p rfl
  have e4 : (resL (some (es, p))).length = 4 := h4
  rw [e4] at o1 o2 ⊢
  refine (setFrame_yes h1 (Nat.le_trans hw hb.size) (hp.below (hb.mono hw)) (o1.mono hw) (o2.mono hw) p (by omega) (by omega)).mono ?_
  rintro e w2 ⟨s, ok, rfl, ⟨rfl, rfl, ht⟩, hk⟩
  exact ⟨_, _, rfl, ⟨rfl, rfl, ht⟩, (KeptT.of_below hb).trans hk⟩
theorem add_cmd (B0 tb : Nat) (bs ds : List Int) (ts : List Tl) (x : Int) (A0 : Option Addr) (n0 : Nat) (w : World) (hn : Own w B0 A0 1 n0 [x]) (h : Tab B0 w tb bs ds ts) (hw : B0 ≤ w.heap.size) (hp : Pow B0 w) (hd : Fr.Digs ds) (h4 : ds.length = 4)
  (hR : ∀ es p, frBy 1 ds x = some (es, p) → es.length = 4 ∧ -1000000000 ≤ p ∧ p ≤ 1000000000) (Q : Ending → World → Prop) (hQ : Q = CmdPost B0 (FrameCmd B0 tb bs ds ts (frBy 1 ds x)) w) :
  Calls Tryz.prog 161 #[.pointer (some ⟨tb, 0, none⟩), .slice A0 1 n0] w Q := by
 obtain ⟨hB0, Ab, nb, cb, A, c, A', c', At, nt, ct, g0, g1, g2, g3, g4⟩ := id h
 obtain ⟨g, rfl, _, hg, hcell, _⟩ := hn.at_ (by omega)
 have d0 := hcell 0 x rfl
 have HT := Hd h
 have c1 := g0.cell (j := 1) (v := .slice A 4 c) rfl
 have c2 := g0.cell (j := 2) (v := .slice A' 4 c') rfl
 have HI := Hd g2.ints
 have HJ := Hd g3.ints
 have HW := Hd hw
 have HP := Hd hp
 have HQ := Hd hQ
 have HRR := Hd hR
 have HF := Hd (show frOf (HiL ds) (LoL ds) (fun ds => frBy 1 ds x) (frBy 1 ds x) from .inr ⟨ds, hd, rfl, rfl, by omega, by omega, rfl⟩)
 clear h hB0 g0 g1 g2 g3 g4 hw hQ hn hcell hp hd hR
 go_enter Tryz.func161, Tryz.ntmps161
 go_wp2_with fail
 go_region_with (first
  | (go_at_call 19; refine (FrameSum_any A A' 4 4 c c' (HiL ds) (LoL ds) x _ _ HI.out.drew HJ.out.drew HF.out).mono ?_; rintro e w1 ⟨⟨v, rfl, hown⟩, hb2⟩)
  | (go_at_call 198; refine (frame_cmd HT.out HW.out HP.out hown (((Below.refl _ _).drew).trans hb2) HRR.out).mono ?_; rintro e w2 ⟨s, ok, rfl, hq, hk⟩))
 all_goals
  go_wp2_with fail
  go_ret2
  rw [HQ.out]
  exact ⟨s, ok, rfl, hq, hk⟩
theorem take_cmd (B0 tb : Nat) (bs ds : List Int) (ts : List Tl) (x : Int) (A0 : Option Addr) (n0 : Nat) (w : World) (hn : Own w B0 A0 1 n0 [x]) (h : Tab B0 w tb bs ds ts) (hw : B0 ≤ w.heap.size) (hp : Pow B0 w) (hd : Fr.Digs ds) (h4 : ds.length = 4)
  (hR : ∀ es p, frBy (-1) ds x = some (es, p) → es.length = 4 ∧ -1000000000 ≤ p ∧ p ≤ 1000000000) (Q : Ending → World → Prop) (hQ : Q = CmdPost B0 (FrameCmd B0 tb bs ds ts (frBy (-1) ds x)) w) :
  Calls Tryz.prog 162 #[.pointer (some ⟨tb, 0, none⟩), .slice A0 1 n0] w Q := by
 obtain ⟨hB0, Ab, nb, cb, A, c, A', c', At, nt, ct, g0, g1, g2, g3, g4⟩ := id h
 obtain ⟨g, rfl, _, hg, hcell, _⟩ := hn.at_ (by omega)
 have d0 := hcell 0 x rfl
 have HT := Hd h
 have c1 := g0.cell (j := 1) (v := .slice A 4 c) rfl
 have c2 := g0.cell (j := 2) (v := .slice A' 4 c') rfl
 have HI := Hd g2.ints
 have HJ := Hd g3.ints
 have HW := Hd hw
 have HP := Hd hp
 have HQ := Hd hQ
 have HRR := Hd hR
 have HF := Hd (show frOf (HiL ds) (LoL ds) (fun ds => frBy (-1) ds x) (frBy (-1) ds x) from .inr ⟨ds, hd, rfl, rfl, by omega, by omega, rfl⟩)
 clear h hB0 g0 g1 g2 g3 g4 hw hQ hn hcell hp hd hR
 go_enter Tryz.func162, Tryz.ntmps162
 go_wp2_with fail
 go_region_with (first
  | (go_at_call 20; refine (FrameLess_any A A' 4 4 c c' (HiL ds) (LoL ds) x _ _ HI.out.drew HJ.out.drew HF.out).mono ?_; rintro e w1 ⟨⟨v, rfl, hown⟩, hb2⟩)
  | (go_at_call 198; refine (frame_cmd HT.out HW.out HP.out hown (((Below.refl _ _).drew).trans hb2) HRR.out).mono ?_; rintro e w2 ⟨s, ok, rfl, hq, hk⟩))
 all_goals
  go_wp2_with fail
  go_ret2
  rw [HQ.out]
  exact ⟨s, ok, rfl, hq, hk⟩
end Go.Proofs.YthdoofmfigemoaaGreatDoor
