/-
  FnSettle returns true for every code: settled debts are few.
-/
import Derived.Test.YtogplbnabffcfaaTaSame
import Derived.Test.YtogplbnabffcfaaTaDraw2
import Derived.Test.YtogplbnabffcfaaTaRef5
namespace Go.Proofs.Ytogplbnabffcfaa.fnSettle
open Go.RowKit
set_option linter.unusedSimpArgs false

theorem small_ok {ts : List Tl} (h : okL ts = true) : Small36 ts := fun t ht => by
  simp only [okL, Bool.and_eq_true, decide_eq_true_eq, List.all_eq_true] at h
  have := h.2 t ht
  simp only [okB, matchB, Bool.and_eq_true, decide_eq_true_eq] at this
  have h1 := valid_size this.1.2.1
  exact ⟨h1, by rw [← this.1.2.2]; exact h1⟩
theorem pay_at {out : List (Nat × Nat × Int)} {k : Nat} {t : Tl} (h : (out.map payT)[k]? = some t) : ∃ u ∈ out, t.a = (u.1 : Int) ∧ t.c = (u.2.1 : Int) := by
  rw [List.getElem?_map] at h
  cases hu : out[k]? with
  | none => rw [hu] at h; cases h
  | some u =>
    rw [hu] at h
    injection h with h
    subst h
    exact ⟨u, List.mem_of_getElem? hu, rfl, rfl⟩
theorem tot_take {b : List Int} {k : Nat} {u : Int} (h : b[k]? = some u) : Ta.tot (fun x => max 0 x) (b.take (k + 1)) = Ta.tot (fun x => max 0 x) (b.take k) + max 0 u := by
  rw [take_next h]
  generalize b.take k = l
  induction l with
  | nil => simp [Ta.tot]
  | cons x xs ih => simp only [List.cons_append, Ta.tot]; omega
theorem tot_bd {b : List Int} (h : Ta.Bd 432000 b) : ∀ k, k ≤ 5 → b.length = 5 → 0 ≤ Ta.tot (fun x => max 0 x) (b.take k) ∧ Ta.tot (fun x => max 0 x) (b.take k) ≤ 432000 * (k : Int)
  | 0, _, _ => by simp [Ta.tot]
  | k + 1, hk, hl => by
    obtain ⟨h1, h2⟩ := tot_bd h k (by omega) hl
    have hb := h k
    rw [tot_take (getD_some (by omega))]
    omega
set_option maxRecDepth 100000 in
set_option maxHeartbeats 8000000 in
theorem walk (a0 : Option Addr) (len0 cap0 : Nat) (z0 : List Int) (w : World) (w0 : IsRow .u8 w a0 len0 cap0 z0) :
    Calls Try.prog 4 #[.slice a0 len0 cap0] w fun e w' => e = .returned (.bool true) ∧ Below w.heap.size w w' := by
  by_cases hbig : 1048576 < len0
  · clear w0
    go_enter Try.func4, Try.ntmps4
    go_wp2
    go_ret
    exact ⟨rfl, Below.refl _ _⟩
  have HC := Lib.hid (Bytes.of_row w0)
  clear w0
  go_enter Try.func4, Try.ntmps4
  go_wp2_with fail
  refine (DrawTalliesSettle_any _ _ _ _ HC.out (by omega)).mono ?_
  rintro e w1 ⟨A1, n1, c1, ts, rfl, hx1, hn1, hsm, hb1⟩
  have HI1 := Lib.hid hx1
  have HB1 := Lib.hid hb1
  have HSM := Lib.hid hsm.small
  clear hx1 hb1 hsm
  go_wp2_with fail
  refine (TalliesSettle_any A1 n1 c1 ts w1 HI1.out HSM.out).mono ?_
  rintro e w2 ⟨⟨out, hok, hset, A2, c2, rfl, ho2⟩ | ⟨hno, rfl⟩, hb2⟩
  rotate_left
  · replace HI1 := Lib.hid (show Tals w2 w2.heap.size A1 n1 ts from Row.next HI1.out hb2)
    have HB2 := Lib.hid (below_chain HB1.out hb2)
    have HNO := Lib.hid hno
    clear hb2 hno
    go_wp2_with fail
    refine (specTalliesSettle_any A1 n1 c1 ts w2 HI1.out HSM.out).mono ?_
    rintro e w3 ⟨⟨out, hok, hset, A3, c3, rfl, ho3⟩ | ⟨hno3, g3, c3, rfl⟩, hb3⟩
    · exfalso
      rcases HNO.out with h | h
      · rw [h] at hok; cases hok
      · rw [h] at hset; cases hset
    have HB3 := Lib.hid (below_chain HB2.out hb3)
    clear hno3 hb3
    go_wp2_with fail
    refine (sameTallies_any none (some ⟨g3, 0, none⟩) 0 0 0 c3 [] [] w3 (Row.nil _ _ _ _) (Row.nil _ _ _ _)).mono ?_
    rintro e w4 ⟨rfl, hb4⟩
    rw [sameT_yes rfl]
    have HB4 := Lib.hid (below_chain HB3.out hb4)
    clear hb4
    go_wp2_with fail
    refine (sameTallies_any none (some ⟨g3, 0, none⟩) 0 0 0 c3 [] [] w4 (Row.nil _ _ _ _) (Row.nil _ _ _ _)).mono ?_
    rintro e w5 ⟨rfl, hb5⟩
    rw [sameT_yes rfl]
    have HB5 := Lib.hid (below_chain HB4.out hb5)
    clear hb5
    go_wp2
    go_ret
    exact ⟨rfl, HB5.out⟩
  replace HI1 := Lib.hid (show Tals w2 w2.heap.size A1 n1 ts from Row.next HI1.out hb2)
  have HB2 := Lib.hid (below_chain HB1.out hb2)
  have HI2 := Lib.hid ho2.tals
  have HOK := Lib.hid (And.intro hok hset)
  have HS := Lib.hid (settled hok hset)
  have hout := (settled hok hset).few
  obtain ⟨us, hus⟩ : ∃ us, out.map payT = us := ⟨_, rfl⟩
  rw [hus] at HI2
  have HUS := Lib.hid hus
  clear hb2 ho2 hok hset hus
  go_wp2_with fail
  refine (specTalliesSettle_any A1 n1 c1 ts w2 HI1.out HSM.out).mono ?_
  rintro e w3 ⟨⟨out3, hok3, hset3, A3, c3, rfl, ho3⟩ | ⟨hno3, g3, c3, rfl⟩, hb3⟩
  rotate_left
  · exfalso
    rcases hno3 with h | h
    · rw [HOK.out.1] at h; cases h
    · rw [HOK.out.2] at h; cases h
  obtain rfl : out = out3 := by have := HOK.out.2; rw [hset3] at this; injection this with this; exact this.symm
  have ht3 := ho3.tals
  rw [HUS.out] at ht3
  have HI3 := Lib.hid ht3
  replace HI1 := Lib.hid (show Tals w3 w3.heap.size A1 n1 ts from Row.next HI1.out hb3)
  replace HI2 := Lib.hid (show Tals w3 w3.heap.size A2 out.length us from Row.next HI2.out hb3)
  have HB3 := Lib.hid (below_chain HB2.out hb3)
  clear hb3 ho3 ht3 hok3 hset3
  go_wp2_with fail
  refine (sameTallies_any A2 A3 out.length out.length c2 c3 us us w3 HI2.out HI3.out).mono ?_
  rintro e w4 ⟨rfl, hb4⟩
  rw [sameT_yes rfl]
  replace HI1 := Lib.hid (show Tals w4 w4.heap.size A1 n1 ts from Row.next HI1.out hb4)
  replace HI2 := Lib.hid (show Tals w4 w4.heap.size A2 out.length us from Row.next HI2.out hb4)
  have HB4 := Lib.hid (below_chain HB3.out hb4)
  clear hb4 HI3
  go_wp2_with fail
  refine (TalliesBalance_any A1 n1 c1 ts w4 HI1.out HSM.out).mono ?_
  rintro e w5 ⟨⟨_, A5, c5, rfl, ho5⟩ | ⟨hno, _⟩, hb5⟩
  rotate_left
  · rw [HOK.out.1] at hno; cases hno
  obtain ⟨b, hb⟩ : ∃ b, bal (ts.map debtOf) = b := ⟨_, rfl⟩
  rw [hb] at ho5
  have HBE := Lib.hid hb
  have HI5 := Lib.hid ho5.ints
  replace HI1 := Lib.hid (show Tals w5 w5.heap.size A1 n1 ts from Row.next HI1.out hb5)
  replace HI2 := Lib.hid (show Tals w5 w5.heap.size A2 out.length us from Row.next HI2.out hb5)
  have HB5 := Lib.hid (below_chain HB4.out hb5)
  clear hb5 ho5 hb
  go_wp2_with fail
  refine (TalliesBalance_any A2 out.length c2 us w5 HI2.out (by rw [← HUS.out]; exact (small_ok HS.out.ok).small)).mono ?_
  rintro e w6 ⟨⟨_, A6, c6, rfl, ho6⟩ | ⟨hno, _⟩, hb6⟩
  rotate_left
  · have := HS.out.ok; rw [HUS.out, hno] at this; cases this
  have hbb := HS.out.bal
  rw [HUS.out, HBE.out] at hbb
  rw [hbb] at ho6
  have HI6 := Lib.hid ho6.ints
  replace HI1 := Lib.hid (show Tals w6 w6.heap.size A1 n1 ts from Row.next HI1.out hb6)
  replace HI2 := Lib.hid (show Tals w6 w6.heap.size A2 out.length us from Row.next HI2.out hb6)
  replace HI5 := Lib.hid (HI5.out.next hb6)
  have HB6 := Lib.hid (below_chain HB5.out hb6)
  have hbl : b.length = 5 := HI5.out.len
  have HBD := Lib.hid (show Ta.Bd 432000 b by rw [← HBE.out]; exact (bal_ok (fair_of HOK.out.1)).2)
  clear hb6 ho6 hbb
  go_wp2_with fail
  go_loopw [12, 13] (fun sv iv wr => ∃ (k : Nat), k ≤ 5 ∧ iv = .int .i64 (k : Int) ∧ sv = .int .i64 (Ta.tot (fun x => max 0 x) (b.take k)) ∧ w6 = wr) (fun _ iv _ => 5 - (intOf iv).toNat)
  case atStart => exact ⟨0, by omega, rfl, rfl, rfl⟩
  case round =>
    obtain ⟨k, hk, rfl, rfl, rfl⟩ := hrel
    by_cases hlt : k < 5
    · obtain ⟨b5, off5, u, rfl, hlb, hu, hc⟩ := HI5.out.at_ hlt
      have hgu : b.getD k 0 = u := by rw [List.getD_eq_getElem?_getD, hu]; rfl
      have hub := HBD.out k
      rw [hgu] at hub
      have hbd := tot_bd HBD.out k hk hbl
      have hnx := tot_take hu
      obtain ⟨s, hs⟩ : ∃ s, Ta.tot (fun x => max 0 x) (b.take k) = s := ⟨_, rfl⟩
      rw [hs] at hbd hnx ⊢
      have HNX := Lib.hid hnx
      obtain ⟨m, hm⟩ : ∃ m, max 0 u = m := ⟨_, rfl⟩
      have hmb : 0 ≤ m ∧ m ≤ 432000 := by omega
      have hws : IntKind.i64.wrap (s + m) = s + m := IntWalk.i64_in _ (by omega)
      clear hu hgu hub hnx hs
      go_wp2_with fail
      exact ⟨⟨k + 1, by omega, by go_num, by rw [HNX.out, ← hm], trivial⟩, by simp [intOf]; omega⟩
    · obtain ⟨s, hs⟩ : ∃ s, Ta.tot (fun x => max 0 x) (b.take k) = s := ⟨_, rfl⟩
      have hs2 : Ta.pos b = s := by rw [← hs, List.take_of_length_le (by omega)]; rfl
      rw [hs]
      have HSS := Lib.hid hs2
      clear hs hs2
      have hge : ¬ (k : Int) < 5 := by omega
      go_wp2_with fail
      go_loopw [14] (fun iv wr => ∃ (i q : Nat), i ≤ out.length ∧ iv = .int .i64 (i : Int) ∧ wr = w6.drewN q) (fun iv _ => out.length - (intOf iv).toNat)
      case atStart => exact ⟨0, 0, by omega, rfl, rfl⟩
      case round =>
        obtain ⟨i, q, hi, rfl, hwr⟩ := hrel
        have HWR := Lib.hid hwr
        clear hwr
        obtain ⟨wo, hwo⟩ : ∃ wo, wo = wr := ⟨_, rfl⟩
        subst hwo
        by_cases hlti : i < out.length
        · have hltI : (i : Int) < (out.length : Int) := by omega
          go_wp2_with fail
          go_loopw [15] (fun jv wr => ∃ (j q : Nat), j ≤ out.length ∧ jv = .int .i64 (j : Int) ∧ wr = wo.drewN q) (fun jv _ => out.length - (intOf jv).toNat)
          case atStart => exact ⟨0, 0, by omega, rfl, rfl⟩
          case round =>
            obtain ⟨j, q2, hj, rfl, hwq⟩ := hrel
            have HWQ := Lib.hid hwq
            clear hwq
            by_cases hltj : j < out.length
            · have hT : Tals wr w6.heap.size A2 out.length us := by rw [HWQ.out, HWR.out]; exact HI2.out
              obtain ⟨bb, off, t, he1, hlb, ht, k0, _, _, _⟩ := Tals.at_ hT hlti
              obtain ⟨bb', off', t', he2, hlb', ht', _, j1, _, _⟩ := Tals.at_ hT hltj
              subst he1
              injection he2 with he2
              injection he2 with e1 e2
              subst e1
              subst e2
              obtain ⟨u, hu, hua, _⟩ := pay_at (out := out) (by rw [HUS.out]; exact ht)
              obtain ⟨u', hu', _, huc⟩ := pay_at (out := out) (by rw [HUS.out]; exact ht')
              have hap := HS.out.apart u hu u' hu'
              obtain ⟨x, hx⟩ : ∃ x, t.a = x := ⟨_, rfl⟩
              obtain ⟨y, hy⟩ : ∃ y, t'.c = y := ⟨_, rfl⟩
              have hxy : (x == y) = false := by rw [← hx, ← hy, hua, huc]; simp; omega
              rw [hx] at k0
              rw [hy] at j1
              clear hT ht ht' hu hu' hua huc hap hx hy
              go_wp2_with fail
              go_quiet (fail)
              go_wp2_with fail
              exact ⟨⟨j + 1, _, by omega, by go_num, by rw [HWQ.out]; simp only [World.drewN_drewN]; exact rfl⟩, by simp [intOf]; omega⟩
            · go_wp2_with fail
              exact ⟨⟨i + 1, _, by omega, by go_num, by rw [HWQ.out, HWR.out]; simp only [World.drewN_drewN]; exact rfl⟩, by simp [intOf]; omega⟩
        · have hnlt : ¬ (i : Int) < (out.length : Int) := by omega
          replace HI1 := Lib.hid (show Tals wo wo.heap.size A1 n1 ts by rw [HWR.out]; exact HI1.out)
          replace HI2 := Lib.hid (show Tals wo wo.heap.size A2 out.length us by rw [HWR.out]; exact HI2.out)
          replace HI5 := Lib.hid (show Ints wo wo.heap.size A5 5 b by rw [HWR.out]; exact HI5.out)
          replace HI6 := Lib.hid (show Ints wo wo.heap.size A6 5 b by rw [HWR.out]; exact HI6.out)
          have HB7 := Lib.hid (show Below w.heap.size w wo by rw [HWR.out]; exact below_drewN HB6.out _)
          clear HWR
          go_wp2_with fail
          refine (sameInts_any _ _ _ _ _ _ _ _ _ _ _ HI5.out HI6.out).mono ?_
          rintro e w8 ⟨rfl, q8, hw8⟩
          rw [sameB_self]
          replace HI1 := Lib.hid (show Tals w8 w8.heap.size A1 n1 ts by rw [hw8]; exact HI1.out)
          replace HI2 := Lib.hid (show Tals w8 w8.heap.size A2 out.length us by rw [hw8]; exact HI2.out)
          have HB8 := Lib.hid (show Below w.heap.size w w8 by rw [hw8]; exact below_drewN HB7.out _)
          clear hw8
          have hfew : (out.length : Int) < 5 := by omega
          go_wp2_with fail
          refine (TalliesTotal_any A2 out.length c2 us w8 HI2.out (by rw [← HUS.out]; exact (small_ok HS.out.ok).small)).mono ?_
          rintro e w9 ⟨rfl, hb9⟩
          have htot : (if okL us = true then total (us.map debtOf) else -1) = s := by
            have h1 := HS.out.ok
            have h2 := HS.out.total
            rw [HUS.out] at h1 h2
            rw [if_pos h1, h2, HBE.out, HSS.out]
          rw [htot]
          replace HI1 := Lib.hid (show Tals w9 w9.heap.size A1 n1 ts from Row.next HI1.out hb9)
          have HB9 := Lib.hid (below_chain HB8.out hb9)
          clear hb9 htot
          go_wp2_with fail
          refine (TalliesTotal_any A1 n1 c1 ts w9 HI1.out HSM.out).mono ?_
          rintro e w10 ⟨rfl, hb10⟩
          rw [if_pos HOK.out.1]
          have hle : s ≤ total (ts.map debtOf) := by rw [← HSS.out, ← HBE.out]; exact HS.out.less
          have HB10 := Lib.hid (below_chain HB9.out hb10)
          clear hb10
          go_wp2
          go_ret
          exact ⟨rfl, HB10.out⟩
end Go.Proofs.Ytogplbnabffcfaa.fnSettle
