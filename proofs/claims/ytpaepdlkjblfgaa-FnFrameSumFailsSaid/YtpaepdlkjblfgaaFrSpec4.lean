/-
  l5Change of the reference: a digit is taken from a rod.
-/
import Derived.Test.YtpaepdlkjblfgaaFrSpec3
namespace Go.Proofs.Ytpaepdlkjblfgaa
open Go.RowKit

set_option maxRecDepth 100000 in
set_option maxHeartbeats 8000000 in
theorem l5ChangeTake_yes (m : Nat) : ∀ (A A' : Option Addr) (n c c' : Nat) (ds : List Int) (k x : Int) (w : World), Ints w w.heap.size A n (HiL ds) → Ints w w.heap.size A' n (LoL ds) → Fr.Digs ds → 1 ≤ n → n ≤ 6 → ((n : Int) - k).toNat = m →
    Calls Try.prog 63 #[.agg #[.slice A n c, .slice A' n c'], .int .i64 k, .int .i64 x, .int .i64 (-1)] w (FrRes w (frAt (-1) ds k x)) := by
  induction m using Nat.strongRecOn with
  | ind m ih =>
    intro A A' n c c' ds k x w hx hy hds h1 h6 hm
    have IH := Lib.hid ih
    have hl : ds.length = n := by have := hx.len; rwa [HiL_length] at this
    have HL := Lib.hid hl
    have HX := Lib.hid hx
    have HY := Lib.hid hy
    have HD := Lib.hid hds
    obtain ⟨R, hR⟩ : ∃ R, frAt (-1) ds k x = R := ⟨_, rfl⟩
    rw [hR]
    have HE := Lib.hid hR
    have HM := Lib.hid hm
    clear hx hy hds hl hR ih hm
    go_enter Try.func63, Try.ntmps63
    go_wp2_with fail
    refine (specFrameValid_yes A A' n c c' ds _ ((HX.out.al _).al _) ((HY.out.al _).al _) HD.out h1 h6).mono ?_
    rintro e w1 ⟨rfl, hb1⟩
    have hz := ((Box.new (w.alloc (.cells #[.slice A n c, .slice A' n c'] 25)) (.slice none 0 0) (.slice none 0 0)).next hb1)
    have hv := ((Box.new w (.slice A n c) (.slice A' n c')).alloc (.cells #[.slice none 0 0, .slice none 0 0] 25)).next hb1
    simp only [World.size_alloc] at hz
    have hz0 := hz.fst
    have hz1 := hz.snd
    have hf0 := hz.free 0
    have hf1 := hz.free 1
    have hv0 := hv.fst
    have hv1 := hv.snd
    have HX1 := Lib.hid (((HX.out.al _).al _).next hb1)
    have HY1 := Lib.hid (((HY.out.al _).al _).next hb1)
    have HZ := Lib.hid hz
    have HV := Lib.hid hv
    have HB := Lib.hid ((below_two w _ _).trans (hb1.mono (by simp; omega)))
    have hws : w.heap.size + 1 + 1 ≤ w1.heap.size := by have := hb1.size; simpa using this
    clear hz hv hb1
    by_cases hin : 0 ≤ k ∧ k < (n : Int) ∧ 0 ≤ x ∧ x ≤ 9
    · obtain ⟨k0, k1, x0, x9⟩ := hin
      obtain ⟨j, rfl⟩ := Int.eq_ofNat_of_zero_le k0
      have hj : j < n := by omega
      obtain ⟨d, hd⟩ : ∃ d, ds[j]? = some d := ⟨_, List.getElem?_eq_getElem (by have := HL.out; omega)⟩
      obtain ⟨d0, d9⟩ := HD.out d (List.mem_of_getElem? hd)
      have he := HE.out
      rw [frAt_in _ _ _ _ (by have := HL.out; omega) x0 x9, ← chgP_zero] at he
      have HE2 := Lib.hid he
      have HDD := Lib.hid hd
      have hdig : ∀ v, Ints v v.heap.size A n (HiL ds) → Ints v v.heap.size A' n (LoL ds) → Calls Try.prog 16 #[.agg #[.slice A n c, .slice A' n c'], .int .i64 (j : Int)] v fun e w' => e = .returned (.int .i64 d) ∧ Below v.heap.size v w' :=
        fun v h2 h3 => specFrameDigit_any A A' n n c c' (HiL ds) (LoL ds) j d v h2 h3 (.inr ⟨ds, HD.out, rfl, rfl, by have := HL.out; omega, by have := HL.out; omega, (digAt_in HDD.out).symm⟩)
      have HDG := Lib.hid hdig
      clear HE he hd hdig
      have l3 : (decide (0 ≤ x) && decide (x ≤ 9)) = true := by simp [x0, x9]
      go_wp2_with fail
      refine (l6In_yes (by omega) (by omega) _).mono ?_
      rintro e w' ⟨rfl, rfl⟩
      go_wp2_with fail
      refine (l3Digit_is l3 _).mono ?_
      rintro e w' ⟨rfl, rfl⟩
      clear l3
      by_cases hx0 : x = 0
      · subst hx0
        have he := HE2.out
        rw [chgP_done] at he
        subst he
        have hdx : ds.set j d = ds := by
          apply List.ext_getElem?
          intro i
          by_cases h : j = i
          · subst h; rw [List.getElem?_set_self (by have := HL.out; omega), HDD.out]
          · rw [List.getElem?_set_ne h]
        have HDX := Lib.hid hdx
        have hwl : w.heap.size < w1.heap.size := by omega
        have hwl1 : w.heap.size + 1 < w1.heap.size := by omega
        have KS : Hid (∀ w', SG w1 (w.heap.size + 1) w' → (w'.cell? ⟨w.heap.size, 0, none⟩ = some (.slice A n c) ∧ w'.cell? ⟨w.heap.size, 1, none⟩ = some (.slice A' n c') ∧ SG w1 (w.heap.size + 1) w')) :=
          Lib.hid fun w' h => ⟨(World.cell?_of_block (a := ⟨w.heap.size, 0, none⟩) (World.grownBy.block h w.heap.size hwl (by simp))).trans hv0, (World.cell?_of_block (a := ⟨w.heap.size, 1, none⟩) (World.grownBy.block h w.heap.size hwl (by simp))).trans hv1, h⟩
        have HIX : Hid (∀ v, SG w1 (w.heap.size + 1) v → Ints v v.heap.size A n (HiL ds)) := Lib.hid fun v h => (HX.out.below (SG.base HB.out h (by omega))).mono (SG.base HB.out h (by omega)).size
        have HIY : Hid (∀ v, SG w1 (w.heap.size + 1) v → Ints v v.heap.size A' n (LoL ds)) := Lib.hid fun v h => (HY.out.below (SG.base HB.out h (by omega))).mono (SG.base HB.out h (by omega)).size
        have hsb := SG.refl w1 (w.heap.size + 1)
        clear hdx
        go_wp2_with fail
        go_region_held3 (fun w' => w'.cell? ⟨w.heap.size, 0, none⟩ = some (.slice A n c) ∧ w'.cell? ⟨w.heap.size, 1, none⟩ = some (.slice A' n c') ∧ SG w1 (w.heap.size + 1) w')
          (first
            | ((try go_split_ands); refine KS.out _ ?_; first | assumption | (exact SG.drew (by assumption)) | (exact SG.set2 (by assumption) _ _)))
          (first
            | (go_at_call 16; (try go_split_ands); (refine (HDG.out _ (HIX.out _ (by assumption)) (HIY.out _ (by assumption))).mono ?_; rintro e w2 ⟨rfl, hb2⟩; have hs2 : SG w1 (w.heap.size + 1) w2 := SG.below (by assumption) hb2; have hy2 := hs2.size))
            | (go_at_call 76; (try go_split_ands); (refine (l5Set_any A A' n c c' ds j d _ (HIX.out _ (by assumption)) (HIY.out _ (by assumption)) hj h6 d0 d9).mono ?_; rintro e w3 ⟨⟨v, rfl, ho⟩, hb3⟩; have hs3 : SG w1 (w.heap.size + 1) w3 := SG.below (by assumption) hb3; obtain ⟨A2, c2, A3, c3, rfl, -⟩ := id ho; have hz3 := (HZ.out.next (hb2.drew_)).next hb3; have z30 := hz3.fst; have z31 := hz3.snd; have f30 := hz3.free 0; have f31 := hz3.free 1)))
        rw [HDX.out] at ho
        have HO := Lib.hid (ho.mono (show w.heap.size + 2 ≤ _ by omega))
        have HZ3 := Lib.hid hz3
        have HB3 := Lib.hid (SG.base HB.out hs3 (by omega))
        clear hz3 hs3
        go_wp2
        refine bodyPost_ret (v := .tuple #[.agg #[.slice A2 ds.length c2, .slice A3 ds.length c3], .int .i64 0, .bool true]) (by simp [results, Try.results63, go_sem, over_fst HZ3.out, over_snd HZ3.out]) rfl ⟨⟨_, rfl, ?_⟩, below_over HB3.out (by omega) _ _⟩
        exact (HO.out.over (by omega) _ _).mono (by omega)
      · have hxb : (x == 0) = false := by simpa using hx0
        go_wp2_with fail
        refine (HDG.out _ HX1.out HY1.out).mono ?_
        rintro e w2 ⟨rfl, hb2⟩
        have HZ2 := Lib.hid (HZ.out.next hb2)
        have HV2 := Lib.hid (HV.out.next hb2)
        have HX2 := Lib.hid (HX1.out.next hb2)
        have HY2 := Lib.hid (HY1.out.next hb2)
        have HB2 := Lib.hid (below_chain HB.out hb2)
        have hs2 := hb2.size
        have v0 := HV2.out.fst
        have v1 := HV2.out.snd
        have z0 := HZ2.out.fst
        have z1 := HZ2.out.snd
        have f0 := HZ2.out.free 0
        have f1 := HZ2.out.free 1
        clear hb2 hz0 hz1 hf0 hf1 hv0 hv1
        by_cases hs : 0 ≤ d - x
        · have he := HE2.out
          rw [chgP_in _ _ _ _ _ d hx0 HDD.out (by omega) (by omega), Int.zero_add, show d + -1 * x = d - x from by omega] at he
          subst he
          have l3 : (decide (0 ≤ d - x) && decide (d - x ≤ 9)) = true := by simp; omega
          have HL3 := Lib.hid l3
          clear l3
          go_wp2_with fail
          refine (l3Digit_is HL3.out _).mono ?_
          rintro e w' ⟨rfl, rfl⟩
          go_wp2_with fail
          refine (l5Set_any A A' n c c' ds j (d - x) _ HX2.out HY2.out hj h6 (by omega) (by omega)).mono ?_
          rintro e w3 ⟨⟨v, rfl, ho⟩, hb3⟩
          have hos := ho.mono (show w.heap.size + 2 ≤ w2.heap.size by omega)
          obtain ⟨A2, c2, A3, c3, rfl, -⟩ := ho
          have HO := Lib.hid hos
          have HZ3 := Lib.hid (HZ2.out.next hb3)
          have z30 := HZ3.out.fst
          have z31 := HZ3.out.snd
          have f30 := HZ3.out.free 0
          have f31 := HZ3.out.free 1
          have HB3 := Lib.hid (below_chain HB2.out hb3)
          clear hb3 hos z0 z1 f0 f1
          go_wp2_with fail
          refine (l5Pushes_any d (d - x) _ d0 d9 (by omega) (by omega)).mono ?_
          rintro e w' ⟨rfl, rfl⟩
          go_wp2
          refine bodyPost_ret (v := .tuple #[.agg #[.slice A2 (ds.set j (d - x)).length c2, .slice A3 (ds.set j (d - x)).length c3], .int .i64 (Fr.cost d (d - x)), .bool true]) (by simp [results, Try.results63, go_sem, over_fst HZ3.out, over_snd HZ3.out]) rfl ⟨⟨_, rfl, ?_⟩, below_over HB3.out (by omega) _ _⟩
          exact (HO.out.over (by omega) _ _).mono (by omega)
        · have he := HE2.out
          rw [chgP_over _ _ _ _ _ d hx0 HDD.out (by omega), Int.zero_add, show d + -1 * x - 10 * -1 = d - x + 10 from by omega] at he
          obtain ⟨es, hes⟩ : ∃ es, ds.set j (d - x + 10) = es := ⟨_, rfl⟩
          have hel : es.length = n := by rw [← hes, List.length_set]; exact HL.out
          rw [hes] at he
          obtain ⟨Q, hQ⟩ : ∃ Q, frAt (-1) es ((j + 1 : Nat) : Int) 1 = Q := ⟨_, rfl⟩
          rw [frAt_next (by omega)] at hQ
          rw [chgP_map hQ] at he
          have hed : Fr.Digs es := by rw [← hes]; exact digs_set HD.out j (by omega) (by omega)
          have hrec := IH.out ((n : Int) - ((j + 1 : Nat) : Int)).toNat (by have := HM.out; omega)
          have HREC := Lib.hid hrec
          have HES := Lib.hid hes
          have HEL := Lib.hid hel
          have HED := Lib.hid hed
          have HQ := Lib.hid ((frAt_next (s := -1) (es := es) (k := j + 1) (by omega)).trans hQ)
          have HRE := Lib.hid he
          have l3 : (decide (0 ≤ d - x) && decide (d - x ≤ 9)) = false := by simp; omega
          have HL3 := Lib.hid l3
          have hov : d < x := by omega
          clear l3 hs hes hel hed hrec hQ he
          go_wp2_with fail
          refine (l3Digit_is HL3.out _).mono ?_
          rintro e w' ⟨rfl, rfl⟩
          go_wp2_with fail
          refine (l5Set_any A A' n c c' ds j (d - x + 10) _ HX2.out HY2.out hj h6 (by omega) (by omega)).mono ?_
          rintro e w3 ⟨⟨v, rfl, ho⟩, hb3⟩
          rw [HES.out] at ho
          obtain ⟨A2, c2, A3, c3, rfl, -⟩ := id ho
          obtain ⟨-, -, hi2, hi3⟩ := ho.ints
          rw [HEL.out] at hi2 hi3
          have HI2 := Lib.hid hi2
          have HI3 := Lib.hid hi3
          have HZ3 := Lib.hid (HZ2.out.next hb3)
          have HB3 := Lib.hid (below_chain HB2.out hb3)
          have hs3 := hb3.size
          rw [HEL.out]
          clear hb3 z0 z1 f0 f1 ho hi2 hi3
          go_wp2_with fail
          refine (HREC.out A2 A3 n c2 c3 es ((j + 1 : Nat) : Int) 1 _ HI2.out HI3.out HED.out h1 h6 rfl).mono ?_
          rw [HQ.out]
          rintro e w4 hpost
          obtain ⟨A4, c4, A5, c5, rfl, ho4, hb4⟩ := hpost.out_
          have HO4 := Lib.hid (ho4.mono (show w.heap.size + 2 ≤ w3.heap.size by omega))
          have HZ4 := Lib.hid (HZ3.out.next hb4)
          have z40 := HZ4.out.fst
          have z41 := HZ4.out.snd
          have f40 := HZ4.out.free 0
          have f41 := HZ4.out.free 1
          have HB4 := Lib.hid (below_chain HB3.out hb4)
          have hs4 := hb4.size
          have hza : w.heap.size + 1 < w4.heap.size := by omega
          clear hb4 ho4 hpost
          rcases Q with _ | ⟨es0, p0⟩
          · have he := HRE.out
            simp only [Option.map_none] at he
            subst he
            go_wp2
            exact bodyPost_ret (v := .tuple #[.agg #[.slice none 0 0, .slice none 0 0], .int .i64 0, .bool false]) (by simp [results, Try.results63, go_sem, hza, over_fst HZ4.out, over_snd HZ4.out]) rfl (FrRes.none_ ((below_over HB4.out (by omega) _ _).alloc (by simp; omega) _))
          · have he := HRE.out
            simp only [Option.map_some] at he
            subst he
            have hup := frAt_upper HQ.out
            rw [HEL.out] at hup
            simp only at hup
            obtain ⟨u0, u1⟩ := hup
            have u2 : p0 ≤ 12 := by omega
            obtain ⟨t0, t1⟩ := cost_le d (d - x + 10)
            have s1 : IntKind.i64.wrap (Fr.cost d (d - x + 10) + p0) = Fr.cost d (d - x + 10) + p0 := IntWalk.i64_in _ (by omega)
            have s2 : resN (some (es0, p0)) = p0 := rfl
            have s3 : resL (some (es0, p0)) = es0 := rfl
            rw [s2, s3]
            rw [s3] at HO4
            clear s2 s3 u1
            go_wp2_with fail
            go_region_held3 (fun w' => w'.cell? ⟨w4.heap.size, 0, none⟩ = some (.slice A4 es0.length c4) ∧ w'.cell? ⟨w4.heap.size, 1, none⟩ = some (.slice A5 es0.length c5))
              (first | exact ⟨cell_of_new (by simp) rfl, cell_of_new (by simp) rfl⟩ | go_keep)
              (first
                | (go_at_call 77; refine (l5Pushes_any d (d - x + 10) _ d0 d9 (by omega) (by omega)).mono ?_; rintro e w' ⟨rfl, rfl⟩))
            go_wp2
            refine bodyPost_ret (v := .tuple #[.agg #[.slice A4 es0.length c4, .slice A5 es0.length c5], .int .i64 (Fr.cost d (d - x + 10) + p0), .bool true]) (by simp [results, Try.results63, go_sem, hza, over_fst HZ4.out, over_snd HZ4.out]) rfl ⟨⟨_, rfl, ?_⟩, below_drewN ((below_over HB4.out (by omega) _ _).alloc (by simp; omega) _) 1⟩
            exact (((HO4.out.over (by omega) _ _).mono (by omega)).keep ((Below.refl _ _).alloc (Nat.le_refl _) _)).keep ((Below.refl _ _).drew)
    · have he := HE.out
      rw [frAt_out _ _ _ _ (by rw [HL.out]; exact hin)] at he
      subst he
      by_cases hk : 0 ≤ k ∧ k ≤ (n : Int) - 1
      · have l3 : (decide (0 ≤ x) && decide (x ≤ 9)) = false := by simp; omega
        obtain ⟨k0, k1⟩ := hk
        have HL3 := Lib.hid l3
        clear hin l3
        go_wp2_with fail
        refine (l6In_yes k0 k1 _).mono ?_
        rintro e w' ⟨rfl, rfl⟩
        go_wp2_with fail
        refine (l3Digit_is HL3.out _).mono ?_
        rintro e w' ⟨rfl, rfl⟩
        go_wp2
        exact bodyPost_ret (v := .tuple #[.agg #[.slice none 0 0, .slice none 0 0], .int .i64 0, .bool false]) (by simp [results, Try.results63, go_sem, over_fst HZ.out, over_snd HZ.out]) rfl (FrRes.none_ (below_over HB.out (by omega) _ _))
      · have hk' : k < 0 ∨ (n : Int) - 1 < k := by omega
        have HK := Lib.hid hk'
        clear hin hk hk'
        go_wp2_with fail
        refine (l6In_no HK.out _).mono ?_
        rintro e w' ⟨rfl, rfl⟩
        go_wp2
        exact bodyPost_ret (v := .tuple #[.agg #[.slice none 0 0, .slice none 0 0], .int .i64 0, .bool false]) (by simp [results, Try.results63, go_sem, over_fst HZ.out, over_snd HZ.out]) rfl (FrRes.none_ (below_over HB.out (by omega) _ _))
set_option maxRecDepth 100000 in
set_option maxHeartbeats 2000000 in
theorem l5ChangeTake_no (A A' : Option Addr) (n m c c' : Nat) (hs ls : List Int) (k x : Int) (w : World) (hx : Ints w w.heap.size A n hs) (hy : Ints w w.heap.size A' m ls) (hno : ¬ FrOk hs ls) :
    Calls Try.prog 63 #[.agg #[.slice A n c, .slice A' m c'], .int .i64 k, .int .i64 x, .int .i64 (-1)] w (FrRes w none) := by
  have HX := Lib.hid hx
  have HY := Lib.hid hy
  have HN := Lib.hid hno
  clear hx hy hno
  go_enter Try.func63, Try.ntmps63
  go_wp2_with fail
  refine (specFrameValid_no A A' n m c c' hs ls _ ((HX.out.al _).al _) ((HY.out.al _).al _) HN.out).mono ?_
  rintro e w1 ⟨rfl, hb1⟩
  have hz := ((Box.new (w.alloc (.cells #[.slice A n c, .slice A' m c'] 25)) (.slice none 0 0) (.slice none 0 0)).next hb1)
  have hz0 := hz.fst
  have hz1 := hz.snd
  have hf0 := hz.free 0
  have hf1 := hz.free 1
  simp only [World.size_alloc] at hz hz0 hz1 hf0 hf1
  have HZ := Lib.hid hz
  have HB := Lib.hid ((below_two w _ _).trans (hb1.mono (by simp; omega)))
  clear hz hb1
  go_wp2
  exact bodyPost_ret (v := .tuple #[.agg #[.slice none 0 0, .slice none 0 0], .int .i64 0, .bool false]) (by simp [results, Try.results63, go_sem, over_fst HZ.out, over_snd HZ.out]) rfl (FrRes.none_ (below_over HB.out (by omega) _ _))
theorem l5ChangeTake_any (A A' : Option Addr) (n m c c' : Nat) (hs ls : List Int) (k x : Int) (R : Option (List Int × Int)) (w : World) (hx : Ints w w.heap.size A n hs) (hy : Ints w w.heap.size A' m ls) (hR : frOf hs ls (fun ds => frAt (-1) ds k x) R) :
    Calls Try.prog 63 #[.agg #[.slice A n c, .slice A' m c'], .int .i64 k, .int .i64 x, .int .i64 (-1)] w (FrRes w R) := by
  rcases hR with ⟨hno, rfl⟩ | ⟨ds, hd, rfl, rfl, h1, h6, rfl⟩
  · exact l5ChangeTake_no A A' n m c c' hs ls k x w hx hy hno
  · have e1 := hx.len
    have e2 := hy.len
    rw [HiL_length] at e1
    rw [LoL_length] at e2
    subst e1
    subst e2
    exact l5ChangeTake_yes _ A A' _ c c' ds k x w hx hy hd h1 h6 rfl
set_option maxRecDepth 100000 in
set_option maxHeartbeats 2000000 in
theorem specFrameTake_any (A A' : Option Addr) (n m c c' : Nat) (hs ls : List Int) (k x : Int) (R : Option (List Int × Int)) (w : World) (hx : Ints w w.heap.size A n hs) (hy : Ints w w.heap.size A' m ls) (hR : frOf hs ls (fun ds => frAt (-1) ds k x) R) :
    Calls Try.prog 35 #[.agg #[.slice A n c, .slice A' m c'], .int .i64 k, .int .i64 x] w (FrRes w R) := by
  have HX := Lib.hid hx
  have HY := Lib.hid hy
  have HE := Lib.hid hR
  clear hx hy hR
  go_enter Try.func35, Try.ntmps35
  go_wp2_with fail
  refine (l5ChangeTake_any A A' n m c c' hs ls k x R _ ((HX.out.al _).al _) ((HY.out.al _).al _) HE.out).mono ?_
  rintro e w1 ⟨⟨v, rfl, ho⟩, hb1⟩
  have hz := ((Box.new (w.alloc (.cells #[.slice A n c, .slice A' m c'] 25)) (.slice none 0 0) (.slice none 0 0)).next hb1)
  have hz0 := hz.fst
  have hz1 := hz.snd
  have hf0 := hz.free 0
  have hf1 := hz.free 1
  simp only [World.size_alloc] at hz hz0 hz1 hf0 hf1 ho
  have HZ := Lib.hid hz
  have HB := Lib.hid ((below_two w _ _).trans (hb1.mono (by simp; omega)))
  have HO := Lib.hid ho
  obtain ⟨A2, c2, A3, c3, rfl, -⟩ := ho
  clear hz hb1
  go_wp2
  refine bodyPost_ret (v := .tuple #[.agg #[.slice A2 (resL R).length c2, .slice A3 (resL R).length c3], .int .i64 (resN R), .bool R.isSome]) (by simp [results, Try.results35, go_sem, over_fst HZ.out, over_snd HZ.out]) rfl ⟨⟨_, rfl, ?_⟩, below_over HB.out (by omega) _ _⟩
  exact (HO.out.over (by omega) _ _).mono (by omega)
end Go.Proofs.Ytpaepdlkjblfgaa
