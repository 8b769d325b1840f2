/-
  The reference's TalliesValid, l6yBalance, TalliesBalance.
-/
import Derived.Test.YtogplbnabffcfaaTaRef3
import Derived.Test.YtogplbnabffcfaaTaSettle
import Derived.Deep.RegionHeld3
namespace Go.Proofs.Ytogplbnabffcfaa
open Go.RowKit
set_option linter.unusedSimpArgs false

theorem str_nil (s : ByteArray) : s.toList.isEmpty = decide (s = ⟨#[]⟩) := by
  rw [ByteArray.toList_eq]
  by_cases h : s = ⟨#[]⟩
  · subst h; rfl
  · rw [decide_eq_false h]
    cases hl : s.data.toList with
    | nil => exact absurd (by rw [← txt_eta s, hl]; rfl) h
    | cons _ _ => rfl
set_option maxRecDepth 100000 in
set_option maxHeartbeats 1000000 in
theorem specTalliesValid_any (A : Option Addr) (n c : Nat) (ts : List Tl) (w : World) (hr : Tals w w.heap.size A n ts) (hsm : Small ts) : Calls Try.prog 40 #[.slice A n c] w fun e w' => e = .returned (.bool (okL ts)) ∧ Below w.heap.size w w' := by
  have hl := hr.len
  have hn40 := hr.2.1
  have HL := Lib.hid hl
  have HR := Lib.hid hr
  have HSM := Lib.hid hsm
  clear hr hl hsm
  go_enter Try.func40, Try.ntmps40
  go_wp2_with fail
  go_loopw [3] (fun iv wr => ∃ (k : Nat), k ≤ n ∧ iv = .int .i64 (k : Int) ∧ Below w.heap.size w wr ∧ (∀ t ∈ ts.take k, okB t = true)) (fun iv _ => n - (intOf iv).toNat)
  case atStart => exact ⟨0, by omega, rfl, Below.refl _ _, by simp⟩
  case round =>
    obtain ⟨k, hk, rfl, hb, hok⟩ := hrel
    have HB := Lib.hid hb
    have HOK := Lib.hid hok
    clear hb hok
    by_cases hlt : k < n
    · obtain ⟨b, off, t, rfl, hlb, ht, k0, k1, k2, k3⟩ := Tals.at_ (show Tals wr w.heap.size A n ts from HR.out.below HB.out) hlt
      have hts := HSM.out t (List.mem_of_getElem? ht)
      have HT := Lib.hid ht
      obtain ⟨a, cc, s, f⟩ := t
      simp only at k0 k1 k2 k3 hts
      clear ht
      go_wp2_with fail
      refine (specTallyMatches_any ⟨a, cc, s, f⟩ wr hts.1).mono ?_
      rintro e w2 ⟨rfl, hb2⟩
      have hlw : b < wr.heap.size := Nat.lt_of_lt_of_le hlb HB.out.size
      have q2 := (hb2.cell (p := ⟨b, off + k * 4 + 2, none⟩) hlw).trans k2
      have HB2 := Lib.hid (HB.out.trans (hb2.mono HB.out.size))
      clear hb2 k0 k1 k2 k3
      rcases hm : matchB ⟨a, cc, s, f⟩ with _ | _
      · have HNO := Lib.hid (okL_no HT.out (by simp [okB, hm]))
        clear hm
        go_wp2
        go_ret
        exact ⟨ret_bool HNO.out.symm, HB2.out⟩
      · by_cases hs : s = ⟨#[]⟩
        · have HNO := Lib.hid (okL_no HT.out (by
            cases h : okB ⟨a, cc, s, f⟩ with
            | false => rfl
            | true => exact absurd hs (okB_iff.1 h).2))
          have hse : s.toList.isEmpty = true := by rw [str_nil, decide_eq_true hs]
          clear hm hs
          go_wp2
          go_ret
          exact ⟨ret_bool HNO.out.symm, HB2.out⟩
        · have HYES := Lib.hid (okB_iff.2 ⟨hm, hs⟩)
          have hse : s.toList.isEmpty = false := by rw [str_nil, decide_eq_false hs]
          clear hm hs
          go_wp2_with fail
          refine ⟨⟨k + 1, by omega, by go_num, HB2.out, ?_⟩, by simp [intOf]; omega⟩
          rw [take_next HT.out]
          intro u hu
          rcases List.mem_append.1 hu with h | h
          · exact HOK.out u h
          · obtain rfl := List.mem_singleton.1 h
            exact HYES.out
    · obtain rfl : k = n := by omega
      have hokl : okL ts = decide (k ≤ 12) := by
        have h := HOK.out
        rw [List.take_of_length_le (by have := HL.out; omega)] at h
        rw [okL, List.all_eq_true.2 h, Bool.and_true, HL.out]
      have HO := Lib.hid hokl
      clear hokl
      go_wp2
      go_ret
      exact ⟨ret_bool (by rw [HO.out]; simp; omega), HB.out⟩

theorem upd_back {b : List Int} {p q : Nat} {v u u2 : Int} (hne : p ≠ q) (hq : b[q]? = some u) (hp : (b.set q (u + v))[p]? = some u2) : upd b ⟨(p : Int), (q : Int), v⟩ = (b.set q (u + v)).set p (u2 - v) := by
  have e1 : b.getD p 0 = u2 := by rw [List.getElem?_set_ne (Ne.symm hne)] at hp; rw [List.getD_eq_getElem?_getD, hp]; rfl
  have e2 : (b.set p (u2 - v)).getD q 0 = u := by rw [List.getD_eq_getElem?_getD, List.getElem?_set_ne hne, hq]; rfl
  unfold upd
  simp only [Int.toNat_natCast]
  rw [e1, e2, List.set_comm _ _ hne]
set_option maxRecDepth 100000 in
set_option maxHeartbeats 2000000 in
theorem l6yBalance_any (A : Option Addr) (n c : Nat) (ts : List Tl) (w : World) (hr : Tals w w.heap.size A n ts) (hok : okL ts = true) : Calls Try.prog 41 #[.slice A n c] w fun e w' =>
    e = .returned (.slice (some ⟨w.heap.size, 0, none⟩) 5 5) ∧ Own w' w.heap.size (some ⟨w.heap.size, 0, none⟩) 5 5 (bal (ts.map debtOf)) ∧ Below w.heap.size w w' := by
  have hF := fair_of hok
  have hl := hr.len
  have h12 : n ≤ 12 := by have := hF.1; rw [List.length_map] at this; omega
  have HL := Lib.hid hl
  have HR := Lib.hid hr
  have HF := Lib.hid hF
  have HOK := Lib.hid hok
  clear hl hr hF hok
  go_enter Try.func41, Try.ntmps41
  go_wp2_with (refine wpList_make_ints rfl _ _ rfl (B := w.heap.size) (n := 5) rfl rfl (by omega) (Nat.le_refl _) ?_; intro w1 hown hg)
  have HO1 := Lib.hid hown
  have HB1 := Lib.hid (grown_below hg (Nat.le_refl w.heap.size) (by simp))
  clear hown hg
  go_loopw [4] (fun iv wr => ∃ (k : Nat), k ≤ n ∧ iv = .int .i64 (k : Int) ∧ Own wr w.heap.size (some ⟨w.heap.size, 0, none⟩) 5 5 (bal ((ts.map debtOf).take k)) ∧ Within (36000 * (k : Int)) (bal ((ts.map debtOf).take k)) ∧ Below w.heap.size w wr) (fun iv _ => n - (intOf iv).toNat)
  case atStart =>
    refine ⟨0, by omega, rfl, HO1.out, ⟨rfl, fun i u hu => ?_⟩, HB1.out⟩
    have h5 : ([0, 0, 0, 0, 0] : List Int)[i]? = some u := hu
    have := List.mem_of_getElem? h5
    simp at this
    omega
  case round =>
    obtain ⟨k, hk, rfl, ho, hw, hb⟩ := hrel
    have HO := Lib.hid ho
    have HW := Lib.hid hw
    have HB := Lib.hid hb
    clear ho hw hb
    by_cases hlt : k < n
    · obtain ⟨b, off, t, rfl, hlb, ht, k0, k1, k2, k3⟩ := Tals.at_ (show Tals wr w.heap.size A n ts from HR.out.below HB.out) hlt
      have hd : (ts.map debtOf)[k]? = some (debtOf t) := by rw [List.getElem?_map, ht]; rfl
      have hv : validB t.s = true := by
        have := HOK.out
        simp only [okL, Bool.and_eq_true, decide_eq_true_eq, List.all_eq_true] at this
        have := this.2 t (List.mem_of_getElem? ht)
        simp only [okB, matchB, Bool.and_eq_true] at this
        exact this.1.2.1
      obtain ⟨⟨t0, t1, t2, t3, t4⟩, v0, v1⟩ := HF.out.2 _ (List.mem_of_getElem? hd)
      have HN := Lib.hid (bal_next hd)
      obtain ⟨a, cc, s, f⟩ := t
      obtain ⟨v, hvv⟩ : ∃ v, worthB s = v := ⟨_, rfl⟩
      have HV := Lib.hid (And.intro hv hvv)
      simp only [debtOf] at t0 t1 t2 t3 t4 v0 v1
      rw [hvv] at v0 v1
      obtain ⟨p, rfl⟩ := Int.eq_ofNat_of_zero_le t0
      obtain ⟨q, rfl⟩ := Int.eq_ofNat_of_zero_le t2
      simp only at k0 k1 k2 k3 hv
      have hbL := HW.out.1
      obtain ⟨u, hu⟩ : ∃ u, (bal ((ts.map debtOf).take k))[q]? = some u := ⟨_, List.getElem?_eq_getElem (by omega)⟩
      have hub := HW.out.2 q u hu
      obtain ⟨g, hge, _, hglt, hcell, hfree⟩ := HO.out.at_ (by omega)
      injection hge with hge
      injection hge with hge
      subst hge
      have a0 : wr.cell? ⟨w.heap.size, q, none⟩ = some (.int .i64 u) := hcell q u hu
      have fa := hfree q
      have hp5 : p < 5 := by omega
      have hq5 : q < 5 := by omega
      have hpq : p ≠ q := by omega
      obtain ⟨b1, hb1⟩ : ∃ b1, (bal ((ts.map debtOf).take k)).set q (u + v) = b1 := ⟨_, rfl⟩
      have hb1l : b1.length = 5 := by rw [← hb1, List.length_set, hbL]
      obtain ⟨u2, hu2⟩ : ∃ u2, b1[p]? = some u2 := ⟨_, List.getElem?_eq_getElem (by omega)⟩
      have hu2b : -(36000 * (k : Int)) ≤ u2 ∧ u2 ≤ 36000 * (k : Int) := by
        rw [← hb1, List.getElem?_set_ne (by omega)] at hu2
        exact HW.out.2 p u2 hu2
      have w1 : IntKind.i64.wrap (u + v) = u + v := IntWalk.i64_in _ (by omega)
      have w2 : IntKind.i64.wrap (u2 - v) = u2 - v := IntWalk.i64_in _ (by omega)
      obtain ⟨W2, hW2⟩ : ∃ W2, (wr.setCell ⟨w.heap.size, q, none⟩ (.int .i64 (u + v))).drew = W2 := ⟨_, rfl⟩
      have hst := HO.out.store q (u + v)
      rw [hb1] at hst
      have hO2 : Own W2 w.heap.size (some ⟨w.heap.size, 0, none⟩) 5 5 b1 := by rw [← hW2]; exact hst.1.drew
      have hB2 : Below w.heap.size w W2 := by rw [← hW2]; exact (HB.out.setCell (p := ⟨w.heap.size, q, none⟩) (Nat.le_refl _) _).drew
      obtain ⟨g2, hge2, _, hglt2, hcell2, hfree2⟩ := hO2.at_ (by omega)
      injection hge2 with hge2
      injection hge2 with hge2
      subst hge2
      have a2 : W2.cell? ⟨w.heap.size, p, none⟩ = some (.int .i64 u2) := hcell2 p u2 hu2
      have fa2 := hfree2 p
      have n0 : W2.cell? ⟨b, off + k * 4, none⟩ = some (.int .i64 (p : Int)) := by
        rw [← hW2]
        exact (((Below.refl w.heap.size wr).setCell (p := ⟨w.heap.size, q, none⟩) (Nat.le_refl _) _).cell (p := ⟨b, off + k * 4, none⟩) hlb).trans k0
      obtain ⟨W3, hW3⟩ : ∃ W3, (W2.setCell ⟨w.heap.size, p, none⟩ (.int .i64 (u2 - v))).drew = W3 := ⟨_, rfl⟩
      have hbn : bal ((ts.map debtOf).take (k + 1)) = b1.set p (u2 - v) := by
        rw [HN.out]
        show upd _ ⟨(p : Int), (q : Int), worthB s⟩ = _
        rw [hvv, ← hb1]
        exact upd_back hpq hu (by rw [hb1]; exact hu2)
      have hO3 : Own W3 w.heap.size (some ⟨w.heap.size, 0, none⟩) 5 5 (bal ((ts.map debtOf).take (k + 1))) := by
        rw [hbn, ← hW3]
        exact (hO2.store p (u2 - v)).1.drew
      have hWi : Within (36000 * ((k + 1 : Nat) : Int)) (bal ((ts.map debtOf).take (k + 1))) := by
        rw [HN.out]
        have := Within.upd HW.out (d := debtOf ⟨(p : Int), (q : Int), s, f⟩) (by show 0 ≤ worthB s; rw [hvv]; exact v0) (by show worthB s ≤ 36000; rw [hvv]; exact v1) ⟨t0, t1, t2, t3, t4⟩
        rwa [show 36000 * (k : Int) + 36000 = 36000 * ((k + 1 : Nat) : Int) from by omega] at this
      have hB3 : Below w.heap.size w W3 := by rw [← hW3]; exact (hB2.setCell (p := ⟨w.heap.size, p, none⟩) (Nat.le_refl _) _).drew
      have HREL := Lib.hid (And.intro hO3 (And.intro hWi hB3))
      have HW2 := Lib.hid hW2
      have HW3 := Lib.hid hW3
      clear ht hd hv hvv hu hcell hfree hb1 hu2 hW2 hst hO2 hB2 hcell2 hfree2 hW3 hbn hO3 hWi hB3
      go_wp2_with fail
      refine (l6ySum_any s wr HV.out.1).mono ?_
      rintro e w' ⟨rfl, rfl⟩
      rw [HV.out.2]
      go_wp2_with fail
      go_region_with (fail)
      all_goals rw [HW2.out]
      all_goals clear a0 fa w1 k0 k1
      all_goals go_wp2_with fail
      all_goals go_region_with (fail)
      all_goals rw [HW3.out]
      all_goals go_wp2_with fail
      all_goals exact ⟨⟨k + 1, by omega, by go_num, HREL.out.1, HREL.out.2.1, HREL.out.2.2⟩, by simp [intOf]; omega⟩
    · obtain rfl : k = n := by omega
      have hT : (ts.map debtOf).take k = ts.map debtOf := List.take_of_length_le (by rw [List.length_map]; have := HL.out; omega)
      have ho := HO.out
      rw [hT] at ho
      have HO5 := Lib.hid ho
      clear ho hT
      go_wp2
      go_ret
      exact ⟨rfl, HO5.out, HB.out⟩
/-- what the reference's TalliesBalance gives -/
def SBalPost (w : World) (ts : List Tl) (e : Ending) (w' : World) : Prop :=
  ((okL ts = true ∧ ∃ g, w.heap.size ≤ g ∧ e = .returned (.tuple #[.slice (some ⟨g, 0, none⟩) 5 5, .bool true]) ∧ Own w' w.heap.size (some ⟨g, 0, none⟩) 5 5 (bal (ts.map debtOf))) ∨ (okL ts = false ∧ ∃ g, e = .returned (.tuple #[.slice (some ⟨g, 0, none⟩) 0 0, .bool false]))) ∧ Below w.heap.size w w'
set_option maxRecDepth 100000 in
theorem specTalliesBalance_any (A : Option Addr) (n c : Nat) (ts : List Tl) (w : World) (hr : Tals w w.heap.size A n ts) (hsm : Small ts) : Calls Try.prog 26 #[.slice A n c] w (SBalPost w ts) := by
  go_enter Try.func26, Try.ntmps26
  go_wp2_with fail
  refine (specTalliesValid_any A n c ts w hr hsm).mono ?_
  rintro e w1 ⟨rfl, hb⟩
  have HR1 := Lib.hid (show Tals w1 w1.heap.size A n ts from Row.next hr hb)
  have HB := Lib.hid hb
  clear hr hsm hb
  rcases hok : okL ts with _ | _
  · have HNO := Lib.hid hok
    clear hok
    go_wp2
    go_ret2
    exact ⟨.inr ⟨HNO.out, _, rfl⟩, HB.out.alloc HB.out.size _⟩
  · have HOK := Lib.hid hok
    clear hok
    go_wp2_with fail
    refine (l6yBalance_any A n c ts w1 HR1.out HOK.out).mono ?_
    rintro e w2 ⟨rfl, ho, hb2⟩
    have HO := Lib.hid (ho.mono HB.out.size)
    have HB2 := Lib.hid (HB.out.trans (hb2.mono HB.out.size))
    clear ho hb2
    go_wp2
    go_ret2
    exact ⟨.inl ⟨HOK.out, _, HB.out.size, rfl, HO.out⟩, HB2.out⟩
end Go.Proofs.Ytogplbnabffcfaa
