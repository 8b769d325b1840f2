/-
  The reference's units: UnitsDrop, UnitsSplit and UnitsJoin.
-/
import Derived.Test.YtnljemgglmokjaaUnSpec2
namespace Go.Proofs.Ytnljemgglmokjaa
open Go.RowKit

set_option maxRecDepth 100000 in
set_option maxHeartbeats 2000000 in
theorem specUnitsDrop_any (A : Option Addr) (n c : Nat) (xs : List Int) (k : Int) (w : World) (hx : Ints w w.heap.size A n xs) (hcap : n ≤ c) :
    Calls Try.prog 18 #[.slice A n c, .int .i64 k] w (PairPost w (okD xs k) (xs.eraseIdx k.toNat)) := by
  have hl := hx.len
  have hbd := hx.bound
  have HX := Lib.hid hx
  have HX1 := Lib.hid (hx.alloc (Nat.le_refl _) (.cells #[] 3))
  have HLN := Lib.hid (lit_nil w)
  have HBN := Lib.hid ((Below.refl w.heap.size w).alloc (Nat.le_refl _) (.cells #[] 3))
  clear hx
  rcases hok : Un.okU xs with _ | _
  · have e : okD xs k = false := by simp [okD, hok]
    rw [e]
    have HOK := Lib.hid hok
    clear hok e hl
    go_enter Try.func18, Try.ntmps18
    go_wp2_with fail
    refine (specUnitsValid_is HX.out HOK.out).mono ?_
    rintro e w' ⟨rfl, rfl⟩
    go_wp2
    go_ret2
    exact ⟨⟨_, _, _, rfl, HLN.out⟩, HBN.out⟩
  · have HOK := Lib.hid hok
    have hn8 := Un.okU_length hok
    by_cases hk : 0 ≤ k ∧ k < (n : Int)
    · have e : okD xs k = true := (okD_iff xs k).2 ⟨hok, hk.1, by omega⟩
      rw [e]
      obtain ⟨hk0, hk1⟩ := hk
      obtain ⟨j, rfl⟩ := Int.eq_ofNat_of_zero_le hk0
      have hjn : j < n := by omega
      rw [Int.toNat_natCast]
      have HF : Hid (xs.eraseIdx j = xs.take j ++ xs.drop (j + 1)) := Lib.hid (List.eraseIdx_eq_take_drop_succ xs j)
      obtain ⟨b, off, hA, hb, -⟩ := HX.out.addr (by omega)
      subst hA
      have HT := Lib.hid (HX1.out.take (show j ≤ n by omega))
      have hd0 := HX1.out.drop rfl (show j + 1 ≤ n by omega) hcap
      have HL := Lib.hid hl
      clear hok e hk0 hl
      by_cases hck : c = j + 1
      · subst hck
        obtain rfl : n = j + 1 := by omega
        have HFE : Hid (xs.drop (j + 1) = []) := Lib.hid (List.drop_of_length_le (by have := HL.out; omega))
        clear hd0
        go_enter Try.func18, Try.ntmps18
        go_wp2_with fail
        refine (specUnitsValid_is HX.out HOK.out).mono ?_
        rintro e w' ⟨rfl, rfl⟩
        go_wp2_with fail
        refine (l6In_yes (by omega) (by omega) _).mono ?_
        rintro e w' ⟨rfl, rfl⟩
        go_wp2_with fail
        have f1 : (j : Int) ≤ (j : Int) + 1 := by omega
        have f1' : j ≤ j + 1 := by omega
        have f2 : IntKind.i64.wrap ((j : Int) + 1) = (j : Int) + 1 := IntWalk.i64_in _ (by omega)
        have f3 : (0 : Int) ≤ (j : Int) + 1 := by omega
        have f6 : ((j : Int) + 1).toNat = j + 1 := by omega
        have f7 : (0 : Int) ≤ (j : Int) := by omega
        go_region_law (first
          | (refine step_app_ints rfl _ _ rfl rfl (HLN.out.drew) rfl (HT.out.drew) (by omega) (by simp) ?_; intro A1 c1 w1 hown1 hg1; rw [Nat.zero_add, List.nil_append] at hown1; have HO1 := Lib.hid hown1; have HB1 := Lib.hid (HBN.out.grown (grown_undrew hg1) (by simp) (fun i hi => (HLN.out.blk i hi).1)); clear hown1 hg1)
          | (refine step_app_ints rfl _ _ rfl rfl HO1.out rfl (Ints.nil _ 0 _) (by omega) HB1.out.size ?_; intro A2 c2 w2 hown2 hg2; have HO2 := Lib.hid hown2; have HB2 := Lib.hid (below_step HB1.out hg2 HO1.out HB1.out.size); clear hown2 hg2))
        all_goals go_wp2
        all_goals go_ret2
        all_goals exact ⟨⟨_, _, _, rfl, by rw [HF.out, HFE.out]; exact HO2.out⟩, HB2.out⟩
      · rw [if_neg hck] at hd0
        have HD := Lib.hid hd0
        clear hd0
        go_enter Try.func18, Try.ntmps18
        go_wp2_with fail
        refine (specUnitsValid_is HX.out HOK.out).mono ?_
        rintro e w' ⟨rfl, rfl⟩
        go_wp2_with fail
        refine (l6In_yes (by omega) (by omega) _).mono ?_
        rintro e w' ⟨rfl, rfl⟩
        go_wp2_with fail
        have f1 : j ≤ c := by omega
        have f1' : (j : Int) ≤ (c : Int) := by omega
        have f2 : IntKind.i64.wrap ((j : Int) + 1) = (j : Int) + 1 := IntWalk.i64_in _ (by omega)
        have f3 : (0 : Int) ≤ (j : Int) + 1 := by omega
        have f4 : (j : Int) + 1 ≤ (n : Int) := by omega
        have f5 : j + 1 ≤ n := by omega
        have f6 : ((j : Int) + 1).toNat = j + 1 := by omega
        have f7 : (0 : Int) ≤ (j : Int) := by omega
        go_region_law (first
          | (refine step_app_ints rfl _ _ rfl rfl (HLN.out.drew) rfl (HT.out.drew) (by omega) (by simp) ?_; intro A1 c1 w1 hown1 hg1; rw [Nat.zero_add, List.nil_append] at hown1; have HO1 := Lib.hid hown1; have HB1 := Lib.hid (HBN.out.grown (grown_undrew hg1) (by simp) (fun i hi => (HLN.out.blk i hi).1)); have HD1 := Lib.hid (HD.out.grown (grown_undrew hg1) (by simp) (fun i hi => (HLN.out.blk i hi).1)); clear hown1 hg1)
          | (refine step_app_ints rfl _ _ rfl rfl HO1.out rfl HD1.out (by omega) HB1.out.size ?_; intro A2 c2 w2 hown2 hg2; have HO2 := Lib.hid hown2; have HB2 := Lib.hid (below_step HB1.out hg2 HO1.out HB1.out.size); clear hown2 hg2))
        all_goals go_wp2
        all_goals go_ret2
        all_goals exact ⟨⟨_, _, _, rfl, by rw [HF.out]; exact HO2.out⟩, HB2.out⟩
    · have e : okD xs k = false := by
        cases h : okD xs k with
        | false => rfl
        | true => have := (okD_iff xs k).1 h; omega
      rw [e]
      clear hok e
      have HL := Lib.hid hl
      clear hl
      have hk2 : k < 0 ∨ (n : Int) - 1 < k := by omega
      have HK := Lib.hid hk2
      clear hk hk2
      go_enter Try.func18, Try.ntmps18
      go_wp2_with fail
      refine (specUnitsValid_is HX.out HOK.out).mono ?_
      rintro e w' ⟨rfl, rfl⟩
      go_wp2_with fail
      refine (l6In_no HK.out _).mono ?_
      rintro e w' ⟨rfl, rfl⟩
      go_wp2
      go_ret2
      exact ⟨⟨_, _, _, rfl, HLN.out⟩, HBN.out⟩

/-! ### what the two puts of a split come to -/
theorem mem_put {n : Int} : ∀ (l r : List Int), put n l = some r → ∀ z, z ∈ l → z ∈ r := by
  intro l
  induction l with
  | nil => intro r _ z hz; simp at hz
  | cons x xs ih =>
    intro r h z hz
    rw [put] at h
    split at h
    · cases hp : put n xs with
      | none => rw [hp] at h; simp at h
      | some q =>
        rw [hp] at h
        simp at h
        subst h
        rcases List.mem_cons.1 hz with rfl | hz
        · simp
        · exact List.mem_cons.2 (.inr (ih q hp z hz))
    · split at h
      · cases h
      · simp at h; subst h; exact List.mem_cons.2 (.inr hz)
theorem put_mem {n : Int} : ∀ (l r : List Int), put n l = some r → n ∈ r := by
  intro l
  induction l with
  | nil => intro r h; simp [put] at h; subst h; simp
  | cons x xs ih =>
    intro r h
    rw [put] at h
    split at h
    · cases hp : put n xs with
      | none => rw [hp] at h; simp at h
      | some q =>
        rw [hp] at h
        simp at h
        subst h
        exact List.mem_cons.2 (.inr (ih q hp))
    · split at h
      · cases h
      · simp at h; subst h; simp
theorem put_length {n : Int} : ∀ (l r : List Int), put n l = some r → r.length = l.length + 1 := by
  intro l
  induction l with
  | nil => intro r h; simp [put] at h; subst h; simp
  | cons x xs ih =>
    intro r h
    rw [put] at h
    split at h
    · cases hp : put n xs with
      | none => rw [hp] at h; simp at h
      | some q =>
        rw [hp] at h
        simp at h
        subst h
        simp [ih q hp]
    · split at h
      · cases h
      · simp at h; subst h; simp
theorem okU_big {l : List Int} {z : Int} (h : z ∈ l) (hz : 1000000000 < z) : Un.okU l = false := by
  cases hc : Un.okU l with
  | false => rfl
  | true => have := Un.okU_mem hc z h; omega
theorem okU_asc {l : List Int} (h : Un.asc 1 l = false) : Un.okU l = false := by rw [Un.okU, h, Bool.and_false]
theorem asc_erase {l : List Int} : ∀ (a : Int) (k : Nat), Un.asc a l = true → Un.asc a (l.eraseIdx k) = true := by
  induction l with
  | nil => intro a k h; simpa using h
  | cons x xs ih =>
    intro a k h
    simp only [Un.asc, Bool.and_eq_true, decide_eq_true_eq] at h
    cases k with
    | zero => exact Un.asc_mono xs x a h.2 (by omega)
    | succ k =>
      rw [List.eraseIdx_cons_succ]
      simp only [Un.asc, Bool.and_eq_true, decide_eq_true_eq]
      exact ⟨h.1, ih x k h.2⟩
theorem split_puts {xs : List Int} {j : Nat} {d : Int} (hok : Un.okU xs = true) (hu : xs[j]? = some d) :
    Un.okU (splitL xs (j : Int)) = ((put (d + 1) (xs.eraseIdx j)).isSome && ((put (d * (d + 1)) ((put (d + 1) (xs.eraseIdx j)).getD [])).isSome && Un.okU ((put (d * (d + 1)) ((put (d + 1) (xs.eraseIdx j)).getD [])).getD []))) ∧
    (Un.okU (splitL xs (j : Int)) = true → (put (d * (d + 1)) ((put (d + 1) (xs.eraseIdx j)).getD [])).getD [] = splitL xs (j : Int)) := by
  obtain ⟨d2, d9⟩ := Un.okU_mem hok d (List.mem_of_getElem? hu)
  have hasc : Un.asc 1 (xs.eraseIdx j) = true := asc_erase 1 j (by simp only [Un.okU, Bool.and_eq_true] at hok; exact hok.2)
  have hdd : d + 1 ≠ d * (d + 1) := by
    have : 2 * (d + 1) ≤ d * (d + 1) := Int.mul_le_mul_of_nonneg_right d2 (by omega)
    omega
  rw [splitL_is hu]
  generalize xs.eraseIdx j = rest at hasc
  generalize he : d * (d + 1) = e at hdd
  rw [put_asc (d + 1) rest 1 hasc]
  by_cases hm : d + 1 ∈ rest
  · have : Un.okU (Un.ins e (Un.ins (d + 1) rest)) = false := okU_asc (Un.dup_not_asc rest (d + 1) [e] hm 1)
    rw [this]; simp [hm]
  · simp only [hm, if_false, Option.isSome_some, Bool.true_and, Option.getD_some]
    by_cases hb : d + 1 ≤ 1000000000
    · have hasc2 := Un.asc_ins (d + 1) hb rest 1 (by omega) hasc hm
      rw [put_asc e _ 1 hasc2]
      by_cases hm2 : e ∈ Un.ins (d + 1) rest
      · have : Un.okU (Un.ins e (Un.ins (d + 1) rest)) = false := okU_asc (Un.dup_not_asc _ e [] hm2 1)
        rw [this]; simp [hm2]
      · simp [hm2]
    · have h1 : Un.okU (Un.ins e (Un.ins (d + 1) rest)) = false := okU_big ((Un.mem_ins _ _ _).2 (.inr ((Un.mem_ins _ _ _).2 (.inl rfl)))) (by omega)
      rw [h1]
      cases hp : put e (Un.ins (d + 1) rest) with
      | none => simp
      | some r =>
        have h2 := okU_big (mem_put _ _ hp (d + 1) ((Un.mem_ins _ _ _).2 (.inl rfl))) (by omega)
        simp [h2]
theorem some_getD (o : Option (List Int)) : (if o.isSome then o.getD [] else []) = o.getD [] := by cases o <;> rfl

set_option maxRecDepth 100000 in
set_option maxHeartbeats 2000000 in
theorem specUnitsSplit_any (A : Option Addr) (n c : Nat) (xs : List Int) (k : Int) (w : World) (hx : Ints w w.heap.size A n xs) (hcap : n ≤ c) :
    Calls Try.prog 14 #[.slice A n c, .int .i64 k] w (PairPost w (okSp xs k) (splitL xs k)) := by
  have hl := hx.len
  have hbd := hx.bound
  have HX := Lib.hid hx
  have hdrop := fun w => specUnitsDrop_any A n c xs k w
  rcases hok : okD xs k with _ | _
  · have e : okSp xs k = false := by simp [okSp, hok]
    rw [e]
    rw [hok] at hdrop
    have HC := Lib.hid hdrop
    clear hx hok e hl hdrop
    go_enter Try.func14, Try.ntmps14
    go_wp2_with fail
    refine (HC.out _ HX.out hcap).mono ?_
    rintro e w1 ⟨⟨A1, n1, c1, rfl, -⟩, hb⟩
    have HB := Lib.hid (hb.alloc hb.size (.cells #[] 3))
    have HL1 := Lib.hid (own_lit w1 [] w.heap.size 0 rfl (by omega) hb.size)
    clear hb
    go_wp2
    go_ret2
    exact ⟨⟨_, _, _, rfl, HL1.out⟩, HB.out⟩
  · obtain ⟨hoku, hk0, hk1⟩ := (okD_iff xs k).1 hok
    obtain ⟨j, rfl⟩ := Int.eq_ofNat_of_zero_le hk0
    have hj : j < xs.length := by omega
    have hjn : j < n := by omega
    obtain ⟨d, hu⟩ : ∃ d, xs[j]? = some d := ⟨_, List.getElem?_eq_getElem hj⟩
    obtain ⟨d2, d9⟩ := Un.okU_mem hoku d (List.mem_of_getElem? hu)
    obtain ⟨m0, m1⟩ := sqr_in d2 d9
    have hn8 := Un.okU_length hoku
    obtain ⟨s1, s2⟩ := split_puts hoku hu
    have e : okSp xs (j : Int) = Un.okU (splitL xs (j : Int)) := by rw [okSp, hok, Bool.true_and]
    rw [e]
    rw [hok, Int.toNat_natCast] at hdrop
    have hlr : (xs.eraseIdx j).length ≤ 8 := by rw [List.length_eraseIdx_of_lt hj]; omega
    obtain ⟨rest, hrest⟩ : ∃ rest, xs.eraseIdx j = rest := ⟨_, rfl⟩
    rw [hrest] at hdrop s1 s2 hlr
    obtain ⟨p1, hp1⟩ : ∃ p, put (d + 1) rest = p := ⟨_, rfl⟩
    rw [hp1] at s1 s2
    obtain ⟨p2, hp2⟩ : ∃ p, put (d * (d + 1)) (p1.getD []) = p := ⟨_, rfl⟩
    rw [hp2] at s1 s2
    have HC := Lib.hid hdrop
    have HU := Lib.hid hu
    have HS1 := Lib.hid s1
    have HS2 := Lib.hid s2
    have HP1 := Lib.hid hp1
    have HP2 := Lib.hid hp2
    have HLR := Lib.hid hlr
    clear hx hok e hl hdrop hrest hp1 hp2 s1 s2 hu hoku hk0 hk1 hj hlr
    go_enter Try.func14, Try.ntmps14
    go_wp2_with fail
    refine (HC.out _ HX.out hcap).mono ?_
    rintro e w1 ⟨⟨A1, n1, c1, rfl, ho1⟩, hb1⟩
    simp only [if_true] at ho1
    have hn1 : n1 ≤ 8 := by have := HLR.out; have := ho1.len; omega
    obtain ⟨b7, off7, u7, rfl, hub7, hu7, hcu7⟩ := (HX.out.below hb1).at_ hjn
    obtain rfl : u7 = d := by have := HU.out; rw [hu7] at this; injection this
    have HO1 := Lib.hid ho1
    have HB1 := Lib.hid hb1
    clear ho1 hb1 hu7
    go_wp2_with fail
    refine (l2Put_any _ _ _ _ _ _ _ HO1.out (by omega)).mono ?_
    rintro e w2 ⟨⟨A2, n2, c2, rfl, ho2⟩, hb2⟩
    rw [HP1.out, some_getD] at ho2
    have hn2 : n2 ≤ 9 := by
      have := ho2.len
      have h9 : (p1.getD []).length ≤ 9 := by
        cases h : p1 with
        | none => simp
        | some r =>
          have := HP1.out
          rw [h] at this
          rw [Option.getD_some, put_length _ _ this]
          have := HLR.out
          omega
      omega
    rw [HP1.out]
    have HO2 := Lib.hid ho2
    have HB2 := Lib.hid (below_chain HB1.out hb2)
    clear ho2 hb2
    go_wp2_with fail
    refine (l2Put_any _ _ _ _ _ _ _ HO2.out (by omega)).mono ?_
    rintro e w3 ⟨⟨A3, n3, c3, rfl, ho3⟩, hb3⟩
    rw [HP2.out, some_getD] at ho3
    rw [HP2.out]
    have HO3 := Lib.hid (ho3.mono HB2.out.size)
    have HB3 := Lib.hid (below_chain HB2.out hb3)
    have HB3L := Lib.hid (HB3.out.alloc HB3.out.size (.cells #[] 3))
    have HL3 := Lib.hid (own_lit w3 [] w.heap.size 0 rfl (by omega) HB3.out.size)
    clear ho3 hb3
    rcases hb1 : p1.isSome with _ | _
    · have HF : Hid (Un.okU (splitL xs (j : Int)) = false) := Lib.hid (by rw [HS1.out, hb1]; rfl)
      clear hb1
      go_wp2
      go_ret2
      exact ⟨⟨_, _, _, by rw [HF.out]; rfl, by rw [HF.out]; exact HL3.out⟩, HB3L.out⟩
    · rcases hb2 : p2.isSome with _ | _
      · have HF : Hid (Un.okU (splitL xs (j : Int)) = false) := Lib.hid (by rw [HS1.out, hb1, hb2]; rfl)
        clear hb1 hb2
        go_wp2
        go_ret2
        exact ⟨⟨_, _, _, by rw [HF.out]; rfl, by rw [HF.out]; exact HL3.out⟩, HB3L.out⟩
      · rcases hy : Un.okU (p2.getD []) with _ | _
        · have HF : Hid (Un.okU (splitL xs (j : Int)) = false) := Lib.hid (by rw [HS1.out, hb1, hb2, hy]; rfl)
          have HY := Lib.hid hy
          clear hb1 hb2 hy
          go_wp2_with fail
          refine (specUnitsValid_is HO3.out.ints HY.out).mono ?_
          rintro e w' ⟨rfl, rfl⟩
          go_wp2
          go_ret2
          exact ⟨⟨_, _, _, by rw [HF.out]; rfl, by rw [HF.out]; exact HL3.out⟩, HB3L.out⟩
        · have HF : Hid (Un.okU (splitL xs (j : Int)) = true) := Lib.hid (by rw [HS1.out, hb1, hb2, hy]; rfl)
          have HY := Lib.hid hy
          clear hb1 hb2 hy
          go_wp2_with fail
          refine (specUnitsValid_is HO3.out.ints HY.out).mono ?_
          rintro e w' ⟨rfl, rfl⟩
          go_wp2
          go_ret2
          exact ⟨⟨_, _, _, by rw [HF.out]; rfl, by rw [HF.out, if_pos rfl, ← HS2.out HF.out]; exact HO3.out⟩, HB3.out⟩
end Go.Proofs.Ytnljemgglmokjaa
