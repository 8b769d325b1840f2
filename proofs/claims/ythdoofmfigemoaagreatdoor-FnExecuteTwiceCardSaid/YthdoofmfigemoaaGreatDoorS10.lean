/-
  Joined texts.
-/
import Derived.Test.YthdoofmfigemoaaGreatDoorS5
import Derived.Test.YthdoofmfigemoaaGreatDoorS6
import Derived.Test.YthdoofmfigemoaaGreatDoorS7
import Derived.Deep.Upon
import Derived.HandedShaped
import Derived.Handed
import Derived.Shelf.Vars
import Derived.Lib.LaidTab
import Derived.Lib.LaidU8
import Derived.MakeChecks
import Derived.Test.YthdoofmfigemoaaGreatDoorRows
import Derived.WalkSmall
import Derived.LaidMore
import Derived.Stop.Joined
set_option linter.unusedSimpArgs false
set_option linter.unusedVariables false
set_option maxRecDepth 100000
set_option maxHeartbeats 4000000
namespace Go.Proofs.YthdoofmfigemoaaGreatDoor
open Go.RowKit
theorem ta_quiet_same {P : Program} {f : FuncId} {args : Array Value} {w : World} {n : Nat} {v : Value}
  (h : Calls P f args (w.drewN n) fun e w' => e = .returned v ∧ w.drewN n = w') : Calls P f args (w.drewN n) fun e w'' => e = .returned v ∧ ∃ m, w'' = w.drewN m :=
 h.mono fun _ _ ⟨he, hm⟩ => ⟨he, n, hm.symm⟩
def lw (b : UInt8) : Int := match Ta.rank b with | none => 0 | some k => Ta.weight k
theorem l6yWorth_is (b : UInt8) (u : Int) (h : lw b = u) (w : World) : Calls Tryz.prog 188 #[.int .u8 (b.toNat : Int)] w fun e w' => e = .returned (.int .i64 u) ∧ w = w' := by
 subst h
 by_cases h1 : b = 77
 ·subst h1
  go_enter Tryz.func188, Tryz.ntmps188
  go_wp2
  go_ret
  exact ⟨rfl, rfl⟩
 by_cases h2 : b = 67
 ·subst h2
  go_enter Tryz.func188, Tryz.ntmps188
  go_wp2
  go_ret
  exact ⟨rfl, rfl⟩
 by_cases h3 : b = 88
 ·subst h3
  go_enter Tryz.func188, Tryz.ntmps188
  go_wp2
  go_ret
  exact ⟨rfl, rfl⟩
 by_cases h4 : b = 73
 ·subst h4
  go_enter Tryz.func188, Tryz.ntmps188
  go_wp2
  go_ret
  exact ⟨rfl, rfl⟩
 have HL := Hd (show lw b = 0 by simp [lw, Ta.rank, h1, h2, h3, h4])
 have e : ∀ k : UInt8, b ≠ k → ((b.toNat : Int) == (k.toNat : Int)) = false := fun k hk => by
  simp only [beq_eq_false_iff_ne, ne_eq, Int.natCast_inj]
  exact fun h => hk (UInt8.toNat_inj.1 h)
 have e1 : ((b.toNat : Int) == 77) = false := e 77 h1
 have e2 : ((b.toNat : Int) == 67) = false := e 67 h2
 have e3 : ((b.toNat : Int) == 88) = false := e 88 h3
 have e4 : ((b.toNat : Int) == 73) = false := e 73 h4
 clear h1 h2 h3 h4 e
 go_enter Tryz.func188, Tryz.ntmps188
 go_wp2
 go_ret
 exact ⟨ret_int HL.out.symm, rfl⟩
theorem lw_none {b : UInt8} (h : Ta.rank b = none) : lw b = 0 := by simp [lw, h]
theorem lw_some {b : UInt8} {k : Nat} (h : Ta.rank b = some k) : lw b = Ta.weight k := by simp [lw, h]
theorem rank_inj {a b : UInt8} {k : Nat} (ha : Ta.rank a = some k) (hb : Ta.rank b = some k) : a = b := by
 unfold Ta.rank at ha hb
 repeat' split at ha
 all_goals first | (injection ha with ha) | (cases ha; done)
 all_goals repeat' split at hb
 all_goals first | (injection hb with hb) | (cases hb; done)
 all_goals first | omega | (simp_all; done)
theorem weight_lt {r k : Nat} (hr : r < 4) (hk : k < 4) : Ta.weight r < Ta.weight k ↔ k < r := by
 unfold Ta.weight
 repeat' split
 all_goals omega
theorem run_idx (s : ByteArray) (i : Nat) (b : UInt8) (I : Int) (hI : I = (i : Int)) (hb : s.data.toList[i]? = some b) (w : World) : (Instr.index 9 (.string s) (.int .i64 I)).run Tryz.prog w = .ok (.int .u8 (b.toNat : Int)) w := by
 subst hI
 obtain ⟨h1, h2⟩ := List.getElem?_eq_some_iff.1 hb
 have hi : i < s.size := by simpa using h1
 rw [run_index_string _ _ _ _ _ Tryz.underlying9, dif_pos ⟨by omega, by omega⟩]
 have e : s[((i : Int)).toNat]'(by omega) = b := by rw [← h2]; rfl
 rw [e]
theorem specNotchesValid_any (s : ByteArray) (w : World) (hs : s.size ≤ 1099511627776) : Calls Tryz.prog 187 #[.string s] w fun e w' => e = .returned (.bool (validB s)) ∧ Below w.heap.size w w' := by
 have hlen : s.data.toList.length = s.size := by simp
 have HLEN := Hd hlen
 clear hlen
 go_enter Tryz.func187, Tryz.ntmps187
 go_wp2_with fail
 go_loopw [3, 4] (fun mv iv wr => ∃ (i r m : Nat) (t : Int), i ≤ s.size ∧ iv = .int .i64 (i : Int) ∧ mv = .int .i64 (m : Int) ∧ m ≤ 9 ∧ r < 4 ∧ Ta.worth s.data.toList = Ta.scan (s.data.toList.drop i) r m t ∧ ((i = 0 ∧ r = 0 ∧ m = 0) ∨ (∃ j p, i = j + 1 ∧ s.data.toList[j]? = some p ∧ Ta.rank p = some r)) ∧ Below w.heap.size w wr) (fun _ iv _ => s.size - (intOf iv).toNat)
 case atStart => exact ⟨0, 0, 0, 0, by omega, rfl, rfl, by omega, by omega, rfl, .inl ⟨rfl, rfl, rfl⟩, Below.refl _ _⟩
 case round =>
  obtain ⟨i, r, m, t, hi, rfl, rfl, hm9, hr4, hw, hprev, hb⟩ := hrel
  have HW := Hd hw
  have HB := Hd hb
  clear hw hb
  by_cases hlt : i < s.size
  ·obtain ⟨b, hb⟩ : ∃ b, s.data.toList[i]? = some b := ⟨_, List.getElem?_eq_getElem (by have := HLEN.out; omega)⟩
   have hix := run_idx s i b _ rfl hb
   have HBL := Hd hb
   clear hb
   rcases hk : Ta.rank b with _ | k
   ·have HNO := Hd (show validB s = false by unfold validB; rw [HW.out, drop_cell HBL.out, Ta.scan_none hk]; rfl)
    have HU := Hd (lw_none hk)
    clear hk
    go_wp2_with fail
    go_quiet ((go_at_call 188; exact ta_quiet_same (l6yWorth_is b 0 HU.out _)))
    go_wp2
    go_ret
    exact ⟨ret_bool HNO.out.symm, by first | exact HB.out | exact below_drewN HB.out _⟩
   have hk4 := Ta.rank_lt hk
   obtain ⟨u, hu⟩ : ∃ u, lw b = u := ⟨_, rfl⟩
   have hu2 : u = Ta.weight k := by rw [← hu, lw_some hk]
   have hu1 := (Ta.weight_bd k).1
   have hz : (u == 0) = false := by simp; omega
   have HU := Hd hu
   rcases hprev with ⟨rfl, rfl, rfl⟩ | ⟨j, p, rfl, hp, hrp⟩
   ·have HK := Hd hk
    have hix := run_idx s 0 b 0 rfl HBL.out
    clear hk hu hu2 hu1
    go_wp2_with fail
    go_quiet ((go_at_call 188; exact ta_quiet_same (l6yWorth_is b u HU.out _)))
    go_wp2_with fail
    go_quiet (fail)
    go_wp2_with fail
    refine ⟨⟨1, k, 1, t + Ta.weight k, by omega, rfl, rfl, by omega, hk4, ?_, .inr ⟨0, b, rfl, HBL.out, HK.out⟩, below_drewN HB.out _⟩, by simp [intOf]; omega⟩
    rw [HW.out, drop_cell HBL.out, Ta.scan_on HK.out (by omega) (by split <;> omega)]
    congr 1
    split <;> rfl
   ·rw [show ((j + 1 : Nat) : Int) = (j : Int) + 1 from rfl] at hix
    have hixp := run_idx s j p _ rfl hp
    obtain ⟨v, hv⟩ : ∃ v, lw p = v := ⟨_, rfl⟩
    have hv2 : v = Ta.weight r := by rw [← hv, lw_some hrp]
    have hlt2 : v < u ↔ k < r := by rw [hu2, hv2]; exact weight_lt hr4 hk4
    have HV := Hd hv
    have HK := Hd (And.intro hk (And.intro hp hrp))
    clear hv hp hrp hk hu hu2 hv2
    by_cases hkr : k < r
    ·have huv : v < u := hlt2.2 hkr
     have HNO := Hd (show validB s = false by unfold validB; rw [HW.out, drop_cell HBL.out, Ta.scan_back HK.out.1 hkr]; rfl)
     clear hkr hlt2
     go_wp2_with fail
     go_quiet (first | (go_at_call_of 188 b; exact ta_quiet_same (l6yWorth_is b u HU.out _)) | (go_at_call_of 188 p; exact ta_quiet_same (l6yWorth_is p v HV.out _)))
     go_wp2
     go_ret
     exact ⟨ret_bool HNO.out.symm, by first | exact HB.out | exact below_drewN HB.out _⟩
    ·have huv : ¬ v < u := fun e => hkr (hlt2.1 e)
     have hpb : k = r → p = b := fun e => rank_inj HK.out.2.2 (e ▸ HK.out.1)
     have hpb2 : p = b → k = r := fun e => by
      have := HK.out.2.2
      rw [e, HK.out.1] at this
      injection this
     clear hlt2
     by_cases hkr2 : k = r
     ·have hpe := hpb hkr2
      subst hkr2
      subst hpe
      have huv2 : v = u := HV.out.symm.trans HU.out
      clear hpb hpb2
      subst huv2
      by_cases h9 : m = 9
      ·subst h9
       have HNO := Hd (show validB s = false by unfold validB; rw [HW.out, drop_cell HBL.out, Ta.scan_many HK.out.1 hkr (by rw [if_pos rfl]; omega)]; rfl)
       clear hkr hu1
       go_wp2_with fail
       go_quiet ((go_at_call_of 188 p; exact ta_quiet_same (l6yWorth_is p v HU.out _)))
       go_wp2_with fail
       go_quiet (fail)
       go_wp2
       go_ret
       exact ⟨ret_bool HNO.out.symm, by first | exact HB.out | exact below_drewN HB.out _⟩
      ·have hm8 : ¬ (m : Int) + 1 > 9 := by omega
       have HKR := Hd hkr
       clear hkr hu1
       go_wp2_with fail
       go_quiet ((go_at_call_of 188 p; exact ta_quiet_same (l6yWorth_is p v HU.out _)))
       go_wp2_with fail
       go_quiet (fail)
       go_wp2_with fail
       refine ⟨⟨j + 2, k, m + 1, t + Ta.weight k, by omega, by go_num, by go_num, by omega, hk4, ?_, .inr ⟨j + 1, p, rfl, HBL.out, HK.out.1⟩, below_drewN HB.out _⟩, by simp [intOf]; omega⟩
       rw [HW.out, drop_cell HBL.out, Ta.scan_on HK.out.1 HKR.out (by rw [if_pos rfl]; omega), if_pos rfl]
     ·have hpe : p ≠ b := fun e => hkr2 (hpb2 e)
      have hne : ((b.toNat : Int) != (p.toNat : Int)) = true := by
       simp only [bne_iff_ne, ne_eq, Int.natCast_inj]
       exact fun h => hpe (UInt8.toNat_inj.1 h).symm
      have HKR := Hd (And.intro hkr hkr2)
      clear hkr hkr2 hpb hpb2 hpe hu1
      go_wp2_with fail
      go_quiet (first | (go_at_call_of 188 b; exact ta_quiet_same (l6yWorth_is b u HU.out _)) | (go_at_call_of 188 p; exact ta_quiet_same (l6yWorth_is p v HV.out _)))
      go_wp2_with fail
      go_quiet (fail)
      go_wp2_with fail
      refine ⟨⟨j + 2, k, 1, t + Ta.weight k, by omega, by go_num, rfl, by omega, hk4, ?_, .inr ⟨j + 1, b, rfl, HBL.out, HK.out.1⟩, below_drewN HB.out _⟩, by simp [intOf]; omega⟩
      rw [HW.out, drop_cell HBL.out, Ta.scan_on HK.out.1 HKR.out.1 (by rw [if_neg HKR.out.2]; omega), if_neg HKR.out.2]
  ·obtain rfl : i = s.size := by omega
   have hd : Ta.worth s.data.toList = some t := by
    rw [HW.out, List.drop_eq_nil_of_le (by have := HLEN.out; omega)]; rfl
   have h36 := (Ta.worth_bd hd).1
   have hs36 : s.size ≤ 36 := by have := HLEN.out; omega
   have HYES := Hd (show validB s = true by unfold validB; rw [hd]; rfl)
   clear hd h36
   go_wp2
   go_ret
   exact ⟨ret_bool (by rw [HYES.out]; simp; omega), HB.out⟩
theorem worth_of {s : ByteArray} (h : validB s = true) : Ta.worth s.data.toList = some (worthB s) := by
 unfold validB at h
 unfold worthB
 cases hw : Ta.worth s.data.toList with
 | none => rw [hw] at h; cases h
 | some v => rfl
theorem valid_size {s : ByteArray} (h : validB s = true) : s.size ≤ 36 := by
 have := (Ta.worth_bd (worth_of h)).1
 simpa using this
theorem l6ySum_any (s : ByteArray) (w : World) (hv : validB s = true) : Calls Tryz.prog 150 #[.string s] w fun e w' => e = .returned (.int .i64 (worthB s)) ∧ w = w' := by
 have hw0 := worth_of hv
 have hs := valid_size hv
 obtain ⟨v, hvv⟩ : ∃ v, worthB s = v := ⟨_, rfl⟩
 rw [hvv] at hw0 ⊢
 have hlen : s.data.toList.length = s.size := by simp
 have HLEN := Hd hlen
 have HW0 := Hd hw0
 clear hlen hw0 hvv hv
 go_enter Tryz.func150, Tryz.ntmps150
 go_wp2_with fail
 go_loopw [3, 4] (fun nv iv wr => ∃ (i r m : Nat) (t : Int), i ≤ s.size ∧ iv = .int .i64 (i : Int) ∧ nv = .int .i64 t ∧ m ≤ 9 ∧ r < 4 ∧ 0 ≤ t ∧ Ta.scan (s.data.toList.drop i) r m t = some v ∧ w = wr) (fun _ iv _ => s.size - (intOf iv).toNat)
 case atStart => exact ⟨0, 0, 0, 0, by omega, rfl, rfl, by omega, by omega, by omega, HW0.out, rfl⟩
 case round =>
  obtain ⟨i, r, m, t, hi, rfl, rfl, hm9, hr4, ht0, hsc, rfl⟩ := hrel
  have HS := Hd hsc
  clear hsc
  by_cases hlt : i < s.size
  ·obtain ⟨b, hb⟩ : ∃ b, s[i] = b := ⟨_, rfl⟩
   have hb2 : s.data.toList[i]? = some b := by
    rw [List.getElem?_eq_getElem (by have := HLEN.out; omega), ← hb]; rfl
   have hsc := HS.out
   rw [drop_cell hb2] at hsc
   cases hk : Ta.rank b with
   | none => rw [Ta.scan_none hk] at hsc; cases hsc
   | some k =>
    by_cases h1 : k < r
    ·rw [Ta.scan_back hk h1] at hsc; cases hsc
    by_cases h2 : 9 < (if k = r then m + 1 else 1)
    ·rw [Ta.scan_many hk h1 h2] at hsc; cases hsc
    rw [Ta.scan_on hk h1 h2] at hsc
    have hwt := Ta.weight_bd k
    have hk4 := Ta.rank_lt hk
    have hbd := Ta.scan_bd _ _ _ _ _ hk4 (by omega) hsc
    have hv36 := (Ta.worth_bd HW0.out).2.2.1
    have hwr : IntKind.i64.wrap (t + Ta.weight k) = t + Ta.weight k := IntWalk.i64_in _ (by omega)
    have HU := Hd (lw_some hk)
    have HBE := Hd hb
    have HSC := Hd (And.intro hsc (show (if k = r then m + 1 else 1) ≤ 9 by omega))
    clear hb hb2 hsc hk h1 h2 hbd
    go_wp2_with fail
    rw [HBE.out]
    refine (l6yWorth_is b _ HU.out _).mono ?_
    rintro e w' ⟨rfl, rfl⟩
    go_wp2_with fail
    exact ⟨⟨i + 1, k, _, t + Ta.weight k, by omega, by go_num, rfl, HSC.out.2, hk4, by omega, HSC.out.1, trivial⟩, by simp [intOf]; omega⟩
  ·obtain rfl : i = s.size := by omega
   have hsc := HS.out
   rw [List.drop_eq_nil_of_le (by have := HLEN.out; omega)] at hsc
   have hv : t = v := by injection hsc
   clear hsc
   go_wp2
   go_ret
   exact ⟨ret_int hv, rfl⟩
theorem ret_str {a b : ByteArray} (h : a = b) : Ending.returned (.string a) = .returned (.string b) := by rw [h]
theorem many_step (a b q : Nat) : a + b * (2 * q + 1) = (a + b) + (b + b) * q := by rw [Nat.mul_add, Nat.add_mul, Nat.mul_left_comm]; omega
theorem many_step0 (a b q : Nat) : a + b * (2 * q) = a + (b + b) * q := by rw [Nat.add_mul, Nat.mul_left_comm]; omega
theorem l6Many_any (s : ByteArray) (c : UInt8) (n : Nat) (hs : s = ⟨#[c]⟩) (hn : n ≤ 9) (w : World) : Calls Tryz.prog 43 #[.string s, .int .i64 (n : Int)] w fun e w' => e = .returned (.string (txt (List.replicate n c))) ∧ w = w' := by
 have hs2 : s = txt (List.replicate 1 c) := hs
 clear hs
 subst hs2
 obtain ⟨R, hR⟩ : ∃ R, txt (List.replicate n c) = R := ⟨_, rfl⟩
 have HR := Hd hR
 rw [hR]
 clear hR
 go_enter Tryz.func43, Tryz.ntmps43
 go_wp2_with fail
 go_loopw [0, 1, 5] (fun sv nv ov wr => ∃ (a b k : Nat), k ≤ 9 ∧ b ≤ 18 ∧ a + b * k = n ∧ sv = .string (txt (List.replicate b c)) ∧ nv = .int .i64 (k : Int) ∧ ov = .string (txt (List.replicate a c)) ∧ w = wr) (fun _ nv _ _ => (intOf nv).toNat)
 case atStart => exact ⟨0, 1, n, hn, by omega, by omega, rfl, rfl, rfl, rfl⟩
 case round =>
  obtain ⟨a, b, k, hk9, hb18, hab, rfl, rfl, rfl, rfl⟩ := hrel
  have HAB := Hd hab
  clear hab
  by_cases hk : k = 0
  ·subst hk
   have ha : a = n := by have := HAB.out; rw [Nat.mul_zero] at this; omega
   go_wp2
   go_ret
   exact ⟨ret_str (by rw [← HR.out, ← ha]), rfl⟩
  ·obtain ⟨q, hq⟩ : ∃ q, k = 2 * q + 1 ∨ k = 2 * q := ⟨k / 2, by omega⟩
   have hpos : (k : Int) > 0 := by omega
   have hb9 : b ≤ 9 := by have := HAB.out; have := Nat.le_mul_of_pos_right b (show 0 < k by omega); omega
   have ha9 : a ≤ 9 := by have := HAB.out; omega
   have hwq : IntKind.i64.wrap (q : Int) = q := IntWalk.i64_in _ (by omega)
   have hwr := wrap64_nat (n := q) (by omega)
   have sa : (txt (List.replicate a c)).size = a := by rw [txt_size, List.length_replicate]
   have sb : (txt (List.replicate b c)).size = b := by rw [txt_size, List.length_replicate]
   have hdiv : ((k : Int)).tdiv 2 = (q : Int) := by rw [show (2 : Int) = ((2 : Nat) : Int) from rfl, tdiv_nat]; omega
   have hap : ∀ x y, txt (List.replicate x c) ++ txt (List.replicate y c) = txt (List.replicate (x + y) c) := fun x y => by rw [txt_append, List.replicate_append_replicate]
   rcases hq with hq | hq
   ·have hmod : ((k : Int)).tmod 2 = 1 := by rw [show (2 : Int) = ((2 : Nat) : Int) from rfl, tmod_nat]; omega
    have HN := Hd (show (a + b) + (b + b) * q = n by rw [← many_step, ← hq]; exact HAB.out)
    have HQ := Hd hq
    clear hq
    go_wp2_with fail
    exact ⟨⟨a + b, b + b, q, by have := HQ.out; omega, by omega, HN.out, rfl, rfl, rfl, trivial⟩, by have := HQ.out; simp [intOf]; omega⟩
   ·have hmod : ((k : Int)).tmod 2 = 0 := by rw [show (2 : Int) = ((2 : Nat) : Int) from rfl, tmod_nat]; omega
    have HN := Hd (show a + (b + b) * q = n by rw [← many_step0, ← hq]; exact HAB.out)
    have HQ := Hd hq
    clear hq
    go_wp2_with fail
    exact ⟨⟨a, b + b, q, by have := HQ.out; omega, by omega, HN.out, rfl, rfl, rfl, trivial⟩, by have := HQ.out; simp [intOf]; omega⟩
theorem l6Many_is (s : ByteArray) (c : UInt8) (n : Nat) (N : Int) (hN : N = (n : Int)) (hs : s = ⟨#[c]⟩) (hn : n ≤ 9) (r : ByteArray) (hr : txt (List.replicate n c) = r) (w : World) : Calls Tryz.prog 43 #[.string s, .int .i64 N] w fun e w' => e = .returned (.string r) ∧ w = w' := by
 subst hN
 subst hr
 exact l6Many_any s c n hs hn w
theorem specNotchesOf_no (v : Int) (h : v < 0 ∨ 9999 < v) (w : World) : Calls Tryz.prog 121 #[.int .i64 v] w fun e w' => e = .returned (.tuple #[.string ⟨#[]⟩, .bool false]) ∧ w = w' := by
 go_enter Tryz.func121, Tryz.ntmps121
 go_wp2_with fail
 refine (l6In_no h w).mono ?_
 rintro e w' ⟨rfl, rfl⟩
 go_wp2
 go_ret2
 exact ⟨rfl, rfl⟩
theorem specNotchesOf_yes (n : Nat) (hn : n ≤ 9999) (w : World) : Calls Tryz.prog 121 #[.int .i64 (n : Int)] w fun e w' => e = .returned (.tuple #[.string (txt (Ta.ntext n)), .bool true]) ∧ w = w' := by
 obtain ⟨a, ha⟩ : ∃ a, n / 1000 = a := ⟨_, rfl⟩
 obtain ⟨b', hb'⟩ : ∃ b', n / 100 = b' := ⟨_, rfl⟩
 obtain ⟨c', hc'⟩ : ∃ c', n / 10 = c' := ⟨_, rfl⟩
 obtain ⟨b, hb⟩ : ∃ b, b' % 10 = b := ⟨_, rfl⟩
 obtain ⟨c, hc⟩ : ∃ c, c' % 10 = c := ⟨_, rfl⟩
 obtain ⟨d, hd⟩ : ∃ d, n % 10 = d := ⟨_, rfl⟩
 have q1 : ((n : Nat) : Int).tdiv 1000 = (a : Int) := by rw [show (1000 : Int) = ((1000 : Nat) : Int) from rfl, tdiv_nat, ha]
 have q2 : ((n : Nat) : Int).tdiv 100 = (b' : Int) := by rw [show (100 : Int) = ((100 : Nat) : Int) from rfl, tdiv_nat, hb']
 have q3 : ((n : Nat) : Int).tdiv 10 = (c' : Int) := by rw [show (10 : Int) = ((10 : Nat) : Int) from rfl, tdiv_nat, hc']
 have r2 : ((b' : Nat) : Int).tmod 10 = (b : Int) := by rw [show (10 : Int) = ((10 : Nat) : Int) from rfl, tmod_nat, hb]
 have r3 : ((c' : Nat) : Int).tmod 10 = (c : Int) := by rw [show (10 : Int) = ((10 : Nat) : Int) from rfl, tmod_nat, hc]
 have r4 : ((n : Nat) : Int).tmod 10 = (d : Int) := by rw [show (10 : Int) = ((10 : Nat) : Int) from rfl, tmod_nat, hd]
 have a9 : a ≤ 9 := by omega
 have b9 : b ≤ 9 := by omega
 have c9 : c ≤ 9 := by omega
 have d9 : d ≤ 9 := by omega
 have w1 := wrap_nat (n := a) (by omega)
 have w2 := wrap_nat (n := b') (by omega)
 have w3 := wrap_nat (n := c') (by omega)
 have w4 := wrap_nat (n := b) (by omega)
 have w5 := wrap_nat (n := c) (by omega)
 have w6 := wrap_nat (n := d) (by omega)
 obtain ⟨A, hA⟩ : ∃ A, txt (List.replicate a 77) = A := ⟨_, rfl⟩
 obtain ⟨B, hB⟩ : ∃ B, txt (List.replicate b 67) = B := ⟨_, rfl⟩
 obtain ⟨C, hC⟩ : ∃ C, txt (List.replicate c 88) = C := ⟨_, rfl⟩
 obtain ⟨D, hD⟩ : ∃ D, txt (List.replicate d 73) = D := ⟨_, rfl⟩
 have HT := Hd (show A ++ B ++ C ++ D = txt (Ta.ntext n) by
  rw [← hA, ← hB, ← hC, ← hD, Ta.ntext, Ta.notes, ha, hb', hc', hb, hc, hd, txt_append, txt_append, txt_append, List.append_assoc, List.append_assoc])
 have sA : A.size = a := by rw [← hA, txt_size, List.length_replicate]
 have sB : B.size = b := by rw [← hB, txt_size, List.length_replicate]
 have sC : C.size = c := by rw [← hC, txt_size, List.length_replicate]
 have sD : D.size = d := by rw [← hD, txt_size, List.length_replicate]
 have HA := Hd (And.intro hA (And.intro hB (And.intro hC hD)))
 clear ha hb hb' hc hc' hd hA hB hC hD
 go_enter Tryz.func121, Tryz.ntmps121
 go_wp2_with fail
 refine (l6In_yes (by omega) (by omega) w).mono ?_
 rintro e w' ⟨rfl, rfl⟩
 go_wp2_with fail
 refine (l6Many_is _ 77 a _ rfl rfl a9 A HA.out.1 w).mono ?_
 rintro e w' ⟨rfl, rfl⟩
 go_wp2_with fail
 refine (l6Many_is _ 67 b _ rfl rfl b9 B HA.out.2.1 w).mono ?_
 rintro e w' ⟨rfl, rfl⟩
 go_wp2_with fail
 refine (l6Many_is _ 88 c _ rfl rfl c9 C HA.out.2.2.1 w).mono ?_
 rintro e w' ⟨rfl, rfl⟩
 go_wp2_with fail
 refine (l6Many_is _ 73 d _ rfl rfl d9 D HA.out.2.2.2 w).mono ?_
 rintro e w' ⟨rfl, rfl⟩
 go_wp2
 go_ret2
 refine ⟨?_, rfl⟩
 show Ending.returned (.tuple #[.string (A ++ B ++ C ++ D), .bool true]) = _
 rw [HT.out]
theorem l6yTwo_any (a c : Int) (w : World) : Calls Tryz.prog 122 #[.int .i64 a, .int .i64 c] w fun e w' => e = .returned (.bool (twoB a c)) ∧ w = w' := by
 by_cases h1 : 0 ≤ a ∧ a ≤ 4
 ·by_cases h2 : 0 ≤ c ∧ c ≤ 4
  ·have HL1 := Hd h1
   have HL2 := Hd h2
   by_cases h3 : a = c
   ·have hne : (a != c) = false := by simpa using h3
    have HT := Hd (twoB_no (a := a) (c := c) (by unfold Two; omega))
    clear h1 h2 h3
    go_enter Tryz.func122, Tryz.ntmps122
    go_wp2_with fail
    refine (l6In_yes HL1.out.1 HL1.out.2 w).mono ?_
    rintro e w' ⟨rfl, rfl⟩
    go_wp2_with fail
    refine (l6In_yes HL2.out.1 HL2.out.2 w).mono ?_
    rintro e w' ⟨rfl, rfl⟩
    go_wp2
    go_ret
    exact ⟨ret_bool HT.out.symm, rfl⟩
   ·have hne : (a != c) = true := by simpa using h3
    have HT := Hd (twoB_yes (a := a) (c := c) (by unfold Two; omega))
    clear h1 h2 h3
    go_enter Tryz.func122, Tryz.ntmps122
    go_wp2_with fail
    refine (l6In_yes HL1.out.1 HL1.out.2 w).mono ?_
    rintro e w' ⟨rfl, rfl⟩
    go_wp2_with fail
    refine (l6In_yes HL2.out.1 HL2.out.2 w).mono ?_
    rintro e w' ⟨rfl, rfl⟩
    go_wp2
    go_ret
    exact ⟨ret_bool HT.out.symm, rfl⟩
  ·have HL1 := Hd h1
   have HL2 := Hd (show c < 0 ∨ 4 < c by omega)
   have HT := Hd (twoB_no (a := a) (c := c) (by unfold Two; omega))
   clear h1 h2
   go_enter Tryz.func122, Tryz.ntmps122
   go_wp2_with fail
   refine (l6In_yes HL1.out.1 HL1.out.2 w).mono ?_
   rintro e w' ⟨rfl, rfl⟩
   go_wp2_with fail
   refine (l6In_no HL2.out w).mono ?_
   rintro e w' ⟨rfl, rfl⟩
   go_wp2
   go_ret
   exact ⟨ret_bool HT.out.symm, rfl⟩
 ·have HL1 := Hd (show a < 0 ∨ 4 < a by omega)
  have HT := Hd (twoB_no (a := a) (c := c) (by unfold Two; omega))
  clear h1
  go_enter Tryz.func122, Tryz.ntmps122
  go_wp2_with fail
  refine (l6In_no HL1.out w).mono ?_
  rintro e w' ⟨rfl, rfl⟩
  go_wp2
  go_ret
  exact ⟨ret_bool HT.out.symm, rfl⟩
theorem specTallyNew_any (a c v : Int) (w : World) : Calls Tryz.prog 86 #[.int .i64 a, .int .i64 c, .int .i64 v] w fun e w' =>
  ((DebtOk a c v ∧ e = .returned (.tuple #[(tallyOf a c v).val, .bool true])) ∨ (¬ DebtOk a c v ∧ e = .returned (.tuple #[noTl, .bool false]))) ∧ Below w.heap.size w w' := by
 obtain ⟨W, hW⟩ : ∃ W, w.alloc (.cells #[.int .i64 0, .int .i64 0, .string ⟨#[]⟩, .string ⟨#[]⟩] 52) = W := ⟨_, rfl⟩
 have hbt : Blk W w.heap.size #[.int .i64 0, .int .i64 0, .string ⟨#[]⟩, .string ⟨#[]⟩] 52 := by rw [← hW]; exact Blk.new _ _ _
 have HB := Hd (show Below w.heap.size w W by rw [← hW]; exact (Below.refl _ _).alloc (Nat.le_refl _) _)
 have t0 : W.cell? ⟨w.heap.size, 0, none⟩ = some (.int .i64 0) := hbt.cell rfl
 have t1 : W.cell? ⟨w.heap.size, 1, none⟩ = some (.int .i64 0) := hbt.cell rfl
 have t2 : W.cell? ⟨w.heap.size, 2, none⟩ = some (.string ⟨#[]⟩) := hbt.cell rfl
 have t3 : W.cell? ⟨w.heap.size, 3, none⟩ = some (.string ⟨#[]⟩) := hbt.cell rfl
 have f0 := hbt.free 0
 have f1 := hbt.free 1
 have f2 := hbt.free 2
 have f3 := hbt.free 3
 have HT := Hd hbt
 have HW := Hd hW
 clear hW hbt
 by_cases hv : 0 ≤ v ∧ v ≤ 9999
 ·obtain ⟨hv0, hv9⟩ := hv
  obtain ⟨n, rfl⟩ := Int.eq_ofNat_of_zero_le hv0
  have hn9 : n ≤ 9999 := by omega
  obtain ⟨u, hu⟩ : ∃ u, txt (Ta.ntext n) = u := ⟨_, rfl⟩
  have HU := Hd hu
  go_enter Tryz.func86, Tryz.ntmps86
  go_wp2_with fail
  rw [HW.out]
  go_wp2_with fail
  refine (specNotchesOf_yes n hn9 W).mono ?_
  rintro e w1 ⟨rfl, rfl⟩
  rw [hu]
  clear hu
  go_wp2_with fail
  refine (l6yTwo_any a c _).mono ?_
  rintro e w1 ⟨rfl, rfl⟩
  by_cases h2 : Two a c
  ·rw [twoB_yes h2]
   by_cases h0 : n = 0
   ·subst h0
    have HN := Hd (show ¬ DebtOk a c ((0 : Nat) : Int) by unfold DebtOk; omega)
    clear h2
    go_wp2_with fail
    have hf := HT.out.set4 (.int .i64 0) (.int .i64 0) (.string ⟨#[]⟩) (.string ⟨#[]⟩)
    have g0 := hf.cell (j := 0) rfl
    have g1 := hf.cell (j := 1) rfl
    have g2 := hf.cell (j := 2) rfl
    have g3 := hf.cell (j := 3) rfl
    exact bodyPost_ret (v := .tuple #[noTl, .bool false]) (by simp [results, Tryz.results86, go_sem, noTl, tallyOf, Tl.val, g0, g1, g2, g3]) rfl ⟨.inr ⟨HN.out, rfl⟩, below_set4 HB.out (by omega) _ _ _ _⟩
   ·have HN := Hd (show DebtOk a c (n : Int) from ⟨h2, by omega, by omega⟩)
    have hnz : ((n : Int) == 0) = false := by simp; omega
    clear h2
    go_wp2_with fail
    have hf := HT.out.set4 (.int .i64 a) (.int .i64 c) (.string u) (.string u)
    have g0 := hf.cell (j := 0) rfl
    have g1 := hf.cell (j := 1) rfl
    have g2 := hf.cell (j := 2) rfl
    have g3 := hf.cell (j := 3) rfl
    exact bodyPost_ret (v := .tuple #[(tallyOf a c n).val, .bool true]) (by simp [results, Tryz.results86, go_sem, tallyOf, Tl.val, HU.out, g0, g1, g2, g3]) rfl ⟨.inl ⟨HN.out, rfl⟩, below_set4 HB.out (by omega) _ _ _ _⟩
  ·rw [twoB_no h2]
   have HN := Hd (show ¬ DebtOk a c (n : Int) by unfold DebtOk; exact fun h => h2 h.1)
   clear h2
   go_wp2_with fail
   have hf := HT.out.set4 (.int .i64 0) (.int .i64 0) (.string ⟨#[]⟩) (.string ⟨#[]⟩)
   have g0 := hf.cell (j := 0) rfl
   have g1 := hf.cell (j := 1) rfl
   have g2 := hf.cell (j := 2) rfl
   have g3 := hf.cell (j := 3) rfl
   exact bodyPost_ret (v := .tuple #[noTl, .bool false]) (by simp [results, Tryz.results86, go_sem, noTl, tallyOf, Tl.val, g0, g1, g2, g3]) rfl ⟨.inr ⟨HN.out, rfl⟩, below_set4 HB.out (by omega) _ _ _ _⟩
 ·have HN := Hd (show ¬ DebtOk a c v by unfold DebtOk; omega)
  have hv2 : v < 0 ∨ 9999 < v := by omega
  have HV2 := Hd hv2
  clear hv hv2
  go_enter Tryz.func86, Tryz.ntmps86
  go_wp2_with fail
  rw [HW.out]
  go_wp2_with fail
  refine (specNotchesOf_no v HV2.out W).mono ?_
  rintro e w1 ⟨rfl, rfl⟩
  go_wp2_with fail
  have hf := HT.out.set4 (.int .i64 0) (.int .i64 0) (.string ⟨#[]⟩) (.string ⟨#[]⟩)
  have g0 := hf.cell (j := 0) rfl
  have g1 := hf.cell (j := 1) rfl
  have g2 := hf.cell (j := 2) rfl
  have g3 := hf.cell (j := 3) rfl
  exact bodyPost_ret (v := .tuple #[noTl, .bool false]) (by simp [results, Tryz.results86, go_sem, noTl, tallyOf, Tl.val, g0, g1, g2, g3]) rfl ⟨.inr ⟨HN.out, rfl⟩, below_set4 HB.out (by omega) _ _ _ _⟩
theorem specTallyMatches_any (t : Tl) (w : World) (hs : t.s.size ≤ 1099511627776) : Calls Tryz.prog 149 #[t.val] w fun e w' => e = .returned (.bool (matchB t)) ∧ Below w.heap.size w w' := by
 obtain ⟨a, c, s, f⟩ := t
 show Calls Tryz.prog 149 #[.agg #[.int .i64 a, .int .i64 c, .string s, .string f]] w _
 have hs' : s.size ≤ 1099511627776 := hs
 obtain ⟨W, hW⟩ : ∃ W, w.alloc (.cells #[.int .i64 a, .int .i64 c, .string s, .string f] 52) = W := ⟨_, rfl⟩
 have k0 : W.cell? ⟨w.heap.size, 0, none⟩ = some (.int .i64 a) := by rw [← hW, cell_of_row _ w.heap.size 0 _ _ _ (heap_alloc_new w _)]; rfl
 have k1 : W.cell? ⟨w.heap.size, 1, none⟩ = some (.int .i64 c) := by rw [← hW, cell_of_row _ w.heap.size 1 _ _ _ (heap_alloc_new w _)]; rfl
 have k2 : W.cell? ⟨w.heap.size, 2, none⟩ = some (.string s) := by rw [← hW, cell_of_row _ w.heap.size 2 _ _ _ (heap_alloc_new w _)]; rfl
 have k3 : W.cell? ⟨w.heap.size, 3, none⟩ = some (.string f) := by rw [← hW, cell_of_row _ w.heap.size 3 _ _ _ (heap_alloc_new w _)]; rfl
 have hlt : w.heap.size < W.heap.size := by rw [← hW]; simp
 have HB := Hd (show Below w.heap.size w W by rw [← hW]; exact (Below.refl _ _).alloc (Nat.le_refl _) _)
 have HW := Hd hW
 clear hW
 go_enter Tryz.func149, Tryz.ntmps149
 go_wp2_with fail
 rw [HW.out]
 go_wp2_with fail
 refine (l6yTwo_any a c _).mono ?_
 rintro e w1 ⟨rfl, rfl⟩
 rcases h2 : twoB a c with _ | _
 ·have HM := Hd (show matchB ⟨a, c, s, f⟩ = false by simp [matchB, h2])
  clear h2
  go_wp2
  go_ret
  exact ⟨ret_bool HM.out.symm, HB.out⟩
 ·have H2 := Hd h2
  clear h2
  go_wp2_with fail
  refine (specNotchesValid_any s _ hs').mono ?_
  rintro e w2 ⟨rfl, hb2⟩
  have k21 := (hb2.cell (p := ⟨w.heap.size, 2, none⟩) hlt).trans k2
  have k31 := (hb2.cell (p := ⟨w.heap.size, 3, none⟩) hlt).trans k3
  have HB2 := Hd (HB.out.trans (hb2.mono HB.out.size))
  clear hb2 k0 k1 k2 k3
  rcases hv : validB s with _ | _
  ·have HM := Hd (show matchB ⟨a, c, s, f⟩ = false by simp [matchB, hv])
   clear hv
   go_wp2
   go_ret
   exact ⟨ret_bool HM.out.symm, HB2.out⟩
  ·have HM := Hd (show matchB ⟨a, c, s, f⟩ = decide (s = f) by simp [matchB, H2.out, hv])
   clear hv
   go_wp2
   go_ret
   exact ⟨ret_bool ((str_eq s f).trans HM.out.symm), HB2.out⟩
theorem okB_iff {t : Tl} : okB t = true ↔ matchB t = true ∧ t.s ≠ ⟨#[]⟩ := by
 unfold okB
 simp only [Bool.and_eq_true, decide_eq_true_eq]
 constructor
 ·rintro ⟨h1, h2⟩
  refine ⟨h1, fun e => ?_⟩
  rw [e] at h2
  exact absurd h2 (by decide)
 ·rintro ⟨h1, h2⟩
  refine ⟨h1, ?_⟩
  have hv : validB t.s = true := by
   unfold matchB at h1
   simp only [Bool.and_eq_true] at h1
   exact h1.2.1
  have hw := worth_of hv
  obtain ⟨_, b1, b2, b3⟩ := Ta.worth_bd hw
  by_cases h0 : worthB t.s = 0
  ·exact absurd (by have := b3 h0; rw [← txt_eta t.s, this]; rfl) h2
  ·omega
theorem gcd_step (x y : Nat) : Nat.gcd y (x % y) = Nat.gcd x y := by
 rw [Nat.gcd_comm y, ← Nat.gcd_rec, Nat.gcd_comm]
theorem l2Common_any (a b : Nat) (ha : a ≤ 1000000000000000000) (hb : b ≤ 1000000000000000000) (w : World) :
  Calls Tryz.prog 215 #[.int .i64 (a : Int), .int .i64 (b : Int)] w fun e w' => e = .returned (.int .i64 ((Nat.gcd a b : Nat) : Int)) ∧ w = w' := by
 go_enter Tryz.func215, Tryz.ntmps215
 go_wp2_with fail
 go_loopw [0, 1] (fun av bv wr => ∃ x y : Nat, wr = w ∧ av = .int .i64 (x : Int) ∧ bv = .int .i64 (y : Int) ∧ x ≤ 1000000000000000000 ∧ y ≤ 1000000000000000000 ∧ Nat.gcd x y = Nat.gcd a b) (fun _ bv _ => (intOf bv).toNat)
 case atStart => exact ⟨a, b, rfl, rfl, rfl, ha, hb, rfl⟩
 case round =>
  obtain ⟨x, y, hwr, rfl, rfl, hx, hy, hg⟩ := hrel
  subst hwr
  have HG := Hd hg
  clear hg
  by_cases h0 : y = 0
  ·subst h0
   go_wp2_with fail
   go_ret
   refine ⟨?_, rfl⟩
   rw [← HG.out, Nat.gcd_zero_right]
   rfl
  ·have hr : Int.tmod (x : Int) (y : Int) = ((x % y : Nat) : Int) := rfl
   have hlt := Nat.mod_lt x (show 0 < y by omega)
   have hy0 : ¬ (y : Int) = 0 := by omega
   have hm : x % y ≤ 1000000000000000000 := by omega
   have hw : IntKind.i64.wrap ((x % y : Nat) : Int) = ((x % y : Nat) : Int) := IntWalk.i64_in _ (by omega)
   have HS := Hd (gcd_step x y)
   obtain ⟨z, hz⟩ : ∃ z, x % y = z := ⟨_, rfl⟩
   rw [hz] at hr hlt hm hw HS
   clear hz
   go_wp2_with fail
   go_roundw
   case rel => exact ⟨y, z, trivial, rfl, by go_num, hy, hm, by rw [HS.out, HG.out]⟩
   case measure => simp [intOf]; omega
theorem commonDivisor_any (a b : Nat) (ha : a ≤ 1000000000000000000) (hb : b ≤ 1000000000000000000) (w : World) :
  Calls Tryz.prog 233 #[.int .i64 (a : Int), .int .i64 (b : Int)] w fun e w' => e = .returned (.int .i64 ((Nat.gcd a b : Nat) : Int)) ∧ Below w.heap.size w w' := by
 go_enter Tryz.func233, Tryz.ntmps233
 go_wp2_with fail
 go_loopw [0, 1] (fun av bv wr => ∃ x y : Nat, Below w.heap.size w wr ∧ av = .int .i64 (x : Int) ∧ bv = .int .i64 (y : Int) ∧ x ≤ 1000000000000000000 ∧ y ≤ 1000000000000000000 ∧ Nat.gcd x y = Nat.gcd a b) (fun _ bv _ => (intOf bv).toNat)
 case atStart => exact ⟨a, b, Below.refl _ _, rfl, rfl, ha, hb, rfl⟩
 case round =>
  obtain ⟨x, y, hwr, rfl, rfl, hx, hy, hg⟩ := hrel
  have HG := Hd hg
  have HB := Hd hwr
  clear hg hwr
  by_cases h0 : y = 0
  ·subst h0
   go_wp2_with fail
   go_ret
   refine ⟨?_, HB.out⟩
   rw [← HG.out, Nat.gcd_zero_right]
   rfl
  ·have hr : Int.tmod (x : Int) (y : Int) = ((x % y : Nat) : Int) := rfl
   have hlt := Nat.mod_lt x (show 0 < y by omega)
   have hy0 : ¬ (y : Int) = 0 := by omega
   have hm : x % y ≤ 1000000000000000000 := by omega
   have hw : IntKind.i64.wrap ((x % y : Nat) : Int) = ((x % y : Nat) : Int) := IntWalk.i64_in _ (by omega)
   have HS := Hd (gcd_step x y)
   obtain ⟨z, hz⟩ : ∃ z, x % y = z := ⟨_, rfl⟩
   rw [hz] at hr hlt hm hw HS
   clear hz
   go_wp2_with fail
   go_region
   all_goals go_wp2_with fail
   all_goals
    go_roundw
    case rel => exact ⟨y, z, HB.out.drew, rfl, by go_num, hy, hm, by rw [HS.out, HG.out]⟩
    case measure => simp [intOf]; omega
theorem lowest_any (a b : Nat) (ha : a ≤ 1000000000000000000) (hb : b ≤ 1000000000000000000) (hb1 : 1 ≤ b) (w : World) :
  Calls Tryz.prog 223 #[.int .i64 (a : Int), .int .i64 (b : Int)] w fun e w' => e = .returned (.tuple #[.int .i64 ((a / Nat.gcd a b : Nat) : Int), .int .i64 ((b / Nat.gcd a b : Nat) : Int)]) ∧ Below w.heap.size w w' := by
 have hg := Nat.gcd_pos_of_pos_right a (show 0 < b by omega)
 have hgb := Nat.le_trans (Nat.gcd_le_right a (show 0 < b by omega)) hb
 have HC := Hd (commonDivisor_any a b ha hb w)
 obtain ⟨g, hgg⟩ : ∃ g, Nat.gcd a b = g := ⟨_, rfl⟩
 rw [hgg] at hg hgb HC ⊢
 have q1 : Int.tdiv (a : Int) (g : Int) = ((a / g : Nat) : Int) := rfl
 have q2 : Int.tdiv (b : Int) (g : Int) = ((b / g : Nat) : Int) := rfl
 have l1 := Nat.div_le_self a g
 have l2 := Nat.div_le_self b g
 obtain ⟨x, hx⟩ : ∃ x, a / g = x := ⟨_, rfl⟩
 obtain ⟨y, hy⟩ : ∃ y, b / g = y := ⟨_, rfl⟩
 rw [hx] at q1 l1 ⊢
 rw [hy] at q2 l2 ⊢
 have v1 : IntKind.i64.wrap (x : Int) = (x : Int) := IntWalk.i64_in _ (by omega)
 have v2 : IntKind.i64.wrap (y : Int) = (y : Int) := IntWalk.i64_in _ (by omega)
 have hg0 : ¬ (g : Int) = 0 := by omega
 clear hx hy hgg
 go_enter Tryz.func223, Tryz.ntmps223
 go_wp2_with fail
 refine HC.out.mono ?_
 rintro e w1 ⟨rfl, hb1'⟩
 have HB := Hd hb1'
 clear hb1'
 go_wp2_with fail
 go_region
 all_goals go_wp2_with fail
 all_goals
  go_ret2
  exact ⟨rfl, HB.out.drew⟩
def uD (up low : Nat) : Nat := (low + up - 1) / up
def uUp (up low : Nat) : Nat := (up * uD up low - low) / Nat.gcd (up * uD up low - low) (low * uD up low)
def uLow (up low : Nat) : Nat := low * uD up low / Nat.gcd (up * uD up low - low) (low * uD up low)
def uStep : Nat → List Int → Nat → Nat → Option (List Int)
 | 0, _, _, _ => none
 | f + 1, out, up, low =>
  if up = 0 then some out
  else if 1000000000 < uD up low ∨ 1000000000 < low ∨ out.length = 8 then none
  else uStep f (out ++ [(uD up low : Int)]) (uUp up low) (uLow up low)
theorem uD_bd {up low : Nat} (h : 0 < up) (hl : 1 ≤ low) : uD up low ≤ low ∧ 1 ≤ uD up low ∧ low ≤ up * uD up low ∧ up * uD up low - low < up := by
 have h1 := Nat.div_add_mod (low + up - 1) up
 have h2 := Nat.mod_lt (low + up - 1) h
 have e : uD up low = (low + up - 1) / up := rfl
 rw [← e] at h1
 have h3 : uD up low ≤ low := by
  rw [e]
  refine Nat.le_of_lt_succ ((Nat.div_lt_iff_lt_mul h).2 ?_)
  have : low * 1 ≤ low * up := Nat.mul_le_mul_left _ h
  rw [Nat.succ_mul]
  omega
 have h4 : 1 ≤ uD up low := by
  rcases Nat.eq_zero_or_pos (uD up low) with h0 | h0
  ·rw [h0] at h1; omega
  ·exact h0
 exact ⟨h3, h4, by omega, by omega⟩
theorem uNext_bd {up low : Nat} (h : 0 < up) (hl : 1 ≤ low) : uUp up low < up ∧ 1 ≤ uLow up low ∧ uLow up low ≤ low * uD up low := by
 obtain ⟨h1, h2, h3, h4⟩ := uD_bd h hl
 have hld : 0 < low * uD up low := Nat.mul_pos hl h2
 have hg := Nat.gcd_pos_of_pos_right (up * uD up low - low) hld
 have hgl := Nat.gcd_le_right (up * uD up low - low) hld
 refine ⟨Nat.lt_of_le_of_lt (Nat.div_le_self _ _) h4, ?_, Nat.div_le_self _ _⟩
 exact Nat.div_pos hgl hg
def UnitsPost (R : Option (List Int)) (w : World) (e : Ending) (w' : World) : Prop :=
 ((∃ l A n c, R = some l ∧ e = .returned (.tuple #[.slice A n c, .bool true]) ∧ Own w' w.heap.size A n c l) ∨ (R = none ∧ ∃ A n c, e = .returned (.tuple #[.slice A n c, .bool false]) ∧ Own w' w.heap.size A n c [])) ∧ Below w.heap.size w w'
theorem specUnitsOf_in (up low : Nat) (h1 : 1 ≤ low) (h2 : low ≤ 10000) (h3 : up < low) (w : World) :
  Calls Tryz.prog 181 #[.int .i64 (up : Int), .int .i64 (low : Int)] w (UnitsPost (uStep 10 [] up low) w) := by
 obtain ⟨R, hR⟩ : ∃ R, uStep 10 [] up low = R := ⟨_, rfl⟩
 rw [hR]
 have HR := Hd hR
 have u1 : (up : Int) ≤ (low : Int) - 1 := by omega
 have l1 : (1 : Int) ≤ (low : Int) := by omega
 have l2 : (low : Int) ≤ 10000 := by omega
 clear hR
 go_enter Tryz.func181, Tryz.ntmps181
 go_wp2_with fail
 refine (l6In_yes (by omega) (by omega) _).mono ?_
 rintro e w' ⟨rfl, rfl⟩
 go_wp2_with fail
 refine (l6In_yes (by omega) (by omega) _).mono ?_
 rintro e w' ⟨rfl, rfl⟩
 have H0 := Hd (lit_nil w)
 go_wp2_with fail
 go_loopw [0, 1, 6] (fun uv lv ov wr => ∃ (x y s cp f : Nat) (A : Option Addr) (out : List Int), uv = .int .i64 (x : Int) ∧ lv = .int .i64 (y : Int) ∧ ov = .slice A s cp ∧ s + f = 10 ∧ s ≤ 8 ∧ x ≤ 10000 ∧ 1 ≤ y ∧ y ≤ 1000000000000000000 ∧ uStep f out x y = R ∧ Own wr w.heap.size A s cp out ∧ Below w.heap.size w wr) (fun uv _ _ _ => (intOf uv).toNat)
 case atStart => exact ⟨up, low, 0, 0, 10, _, [], rfl, rfl, rfl, rfl, by omega, by omega, by omega, by omega, HR.out, H0.out, (Below.refl _ _).alloc (Nat.le_refl _) _⟩
 case round =>
  clear H0
  obtain ⟨x, y, s, cp, f, A, out, rfl, rfl, rfl, hf, hs, hx, hy1, hy2, hst, ho, hb⟩ := hrel
  obtain ⟨f, rfl⟩ : ∃ f', f = f' + 1 := ⟨f - 1, by omega⟩
  have hlen := ho.len
  have HO := Hd ho
  have HB := Hd hb
  have hsz := hb.size
  clear ho hb
  unfold uStep at hst
  by_cases h0 : x = 0
  ·subst h0
   rw [if_pos rfl] at hst
   have HS := Hd hst
   clear hst
   go_wp2_with fail
   go_ret2
   exact ⟨.inl ⟨out, _, _, _, HS.out.symm, rfl, HO.out⟩, HB.out⟩
  ·rw [if_neg h0] at hst
   obtain ⟨d1, d2, d3, d4⟩ := uD_bd (show 0 < x by omega) hy1
   obtain ⟨e1, e2, e3⟩ := uNext_bd (show 0 < x by omega) hy1
   have q1 : Int.tdiv ((y : Int) + (x : Int) - 1) (x : Int) = (uD x y : Int) := by
    have : (y : Int) + (x : Int) - 1 = ((y + x - 1 : Nat) : Int) := by omega
    rw [this]; rfl
   have hxI : ¬ (x : Int) = 0 := by omega
   have hxP : (0 : Int) < (x : Int) := by omega
   have hx4 : (x : Int) ≤ 10000 := by omega
   have hy4 : (y : Int) ≤ 1000000000000000000 := by omega
   have hy5 : (1 : Int) ≤ (y : Int) := by omega
   have HU := Hd (And.intro (show uUp x y = (x * uD x y - y) / Nat.gcd (x * uD x y - y) (y * uD x y) from rfl) (show uLow x y = y * uD x y / Nat.gcd (x * uD x y - y) (y * uD x y) from rfl))
   obtain ⟨d, hd⟩ : ∃ d, uD x y = d := ⟨_, rfl⟩
   rw [hd] at d1 d2 d3 d4 e3 q1 HU hst
   have v1 : IntKind.i64.wrap (d : Int) = (d : Int) := IntWalk.i64_in _ (by omega)
   have HS := Hd hst
   have HD := Hd (And.intro d1 (And.intro d2 (And.intro d3 (And.intro d4 (And.intro e1 (And.intro e2 e3))))))
   clear hd hst d1 d2 d3 d4 e1 e2 e3
   by_cases hfail : 1000000000 < d ∨ 1000000000 < y ∨ out.length = 8
   ·have hS := HS.out
    rw [if_pos hfail] at hS
    have HN := Hd hS
    clear hS
    have fin := (lit_nil wr).mono hsz
    have FIN := Hd fin
    clear fin
    by_cases f1 : 1000000000 < d
    ·have f1I : (d : Int) > 1000000000 := by omega
     go_wp2_with fail
     go_ret2
     exact ⟨.inr ⟨HN.out.symm, _, _, _, rfl, FIN.out⟩, HB.out.alloc HB.out.size _⟩
    ·have f1I : ¬ (d : Int) > 1000000000 := by omega
     by_cases f2 : 1000000000 < y
     ·have f2I : (y : Int) > 1000000000 := by omega
      go_wp2_with fail
      go_ret2
      exact ⟨.inr ⟨HN.out.symm, _, _, _, rfl, FIN.out⟩, HB.out.alloc HB.out.size _⟩
     ·have f2I : ¬ (y : Int) > 1000000000 := by omega
      obtain rfl : s = 8 := by omega
      go_wp2_with fail
      go_ret2
      exact ⟨.inr ⟨HN.out.symm, _, _, _, rfl, FIN.out⟩, HB.out.alloc HB.out.size _⟩
   ·have hS := HS.out
    rw [if_neg hfail] at hS
    have f1I : ¬ (d : Int) > 1000000000 := by omega
    have f2I : ¬ (y : Int) > 1000000000 := by omega
    have f3I : ¬ (s : Int) = 8 := by omega
    have hxd : x * d ≤ 10000 * 1000000000 := Nat.mul_le_mul hx (by omega)
    have hyd : y * d ≤ 1000000000 * 1000000000 := Nat.mul_le_mul (by omega) (by omega)
    have hdd := HD.out
    obtain ⟨p, hp⟩ : ∃ p, x * d - y = p := ⟨_, rfl⟩
    obtain ⟨q, hq⟩ : ∃ q, y * d = q := ⟨_, rfl⟩
    have hq1 : 1 ≤ q := by rw [← hq]; exact Nat.mul_pos hy1 hdd.2.1
    have hq2 : q ≤ 1000000000000000000 := by omega
    have cxd : (x : Int) * (d : Int) = ((x * d : Nat) : Int) := by simp
    have m1 : IntKind.i64.wrap ((x : Int) * (d : Int)) = (x : Int) * (d : Int) := by rw [cxd]; exact IntWalk.i64_in _ (by omega)
    have m2 : (x : Int) * (d : Int) - (y : Int) = (p : Int) := by rw [cxd]; omega
    have m3 : IntKind.i64.wrap (p : Int) = (p : Int) := IntWalk.i64_in _ (by omega)
    have m4 : (y : Int) * (d : Int) = (q : Int) := by rw [← hq]; simp
    have m5 : IntKind.i64.wrap (q : Int) = (q : Int) := IntWalk.i64_in _ (by omega)
    have HC := Hd (fun w => l2Common_any p q (by omega) (by omega) w)
    have hgp := Nat.gcd_pos_of_pos_right p (show 0 < q by omega)
    have hu := HU.out
    rw [hp, hq] at hu
    obtain ⟨g, hg⟩ : ∃ g, Nat.gcd p q = g := ⟨_, rfl⟩
    rw [hg] at hu HC hgp
    have hg0 : ¬ (g : Int) = 0 := by omega
    have q3 : Int.tdiv (p : Int) (g : Int) = (uUp x y : Int) := by rw [hu.1]; rfl
    have q4 : Int.tdiv (q : Int) (g : Int) = (uLow x y : Int) := by rw [hu.2]; rfl
    have hdd2 := hdd.2.2.2.2
    rw [hq] at hdd2
    obtain ⟨X, hX⟩ : ∃ X, uUp x y = X := ⟨_, rfl⟩
    obtain ⟨Y, hY⟩ : ∃ Y, uLow x y = Y := ⟨_, rfl⟩
    rw [hX] at q3 hdd2 hS
    rw [hY] at q4 hdd2 hS
    have m6 : IntKind.i64.wrap (X : Int) = (X : Int) := IntWalk.i64_in _ (by omega)
    have m7 : IntKind.i64.wrap (Y : Int) = (Y : Int) := IntWalk.i64_in _ (by omega)
    have HN := Hd (And.intro hS hdd2)
    clear hS hdd hdd2 hX hY hu hg hp hq cxd hxd hyd hgp hfail
    go_wp2_with (at_builtin; refine wpList_app rfl _ _ rfl rfl HO.out [(d : Int)] 1 rfl _ rfl _ rfl (by omega) hsz ?_; intro A1 c1 w1 hown1 hg1)
    have HB1 := Hd (below_step HB.out hg1 HO.out hsz)
    refine (HC.out _).mono ?_
    rintro e w5 ⟨rfl, rfl⟩
    go_wp2_with fail
    have hn := HN.out.2
    exact ⟨⟨X, Y, s + 1, c1, f, A1, out ++ [(d : Int)], rfl, rfl, rfl, by omega, by omega, by omega, by omega, by omega, HN.out.1, hown1, HB1.out⟩, by simp [intOf]; omega⟩
theorem specUnitsOf_out (up low : Int) (h : ¬ ((1 ≤ low ∧ low ≤ 10000) ∧ 0 ≤ up ∧ up ≤ low - 1)) (hl : -1000000000000 ≤ low ∧ low ≤ 1000000000000) (w : World) :
  Calls Tryz.prog 181 #[.int .i64 up, .int .i64 low] w (UnitsPost none w) := by
 have H0 := Hd (lit_nil w)
 by_cases h1 : 1 ≤ low ∧ low ≤ 10000
 ·have h2 : up < 0 ∨ low - 1 < up := by omega
  have l1 := h1.1
  have l2 := h1.2
  clear h h1
  go_enter Tryz.func181, Tryz.ntmps181
  go_wp2_with fail
  refine (l6In_yes l1 l2 _).mono ?_
  rintro e w' ⟨rfl, rfl⟩
  go_wp2_with fail
  refine (l6In_no h2 _).mono ?_
  rintro e w' ⟨rfl, rfl⟩
  go_wp2_with fail
  go_ret2
  exact ⟨.inr ⟨rfl, _, _, _, rfl, H0.out⟩, (Below.refl _ _).alloc (Nat.le_refl _) _⟩
 ·have h2 : low < 1 ∨ 10000 < low := by omega
  clear h h1
  go_enter Tryz.func181, Tryz.ntmps181
  go_wp2_with fail
  refine (l6In_no h2 _).mono ?_
  rintro e w' ⟨rfl, rfl⟩
  go_wp2_with fail
  go_ret2
  exact ⟨.inr ⟨rfl, _, _, _, rfl, H0.out⟩, (Below.refl _ _).alloc (Nat.le_refl _) _⟩
theorem quo_next (v : Int) (k : Nat) : quoK v (k + 1) = quoK v k / 10 := rfl
theorem HiL_next {n k : Nat} (v : Int) (h : k < n) : HiL ((digitsOf n v).take (k + 1)) = HiL ((digitsOf n v).take k) ++ [quoK v k % 10 / 5] := by
 rw [take_next (digitsOf_get v h)]; simp [HiL]
theorem LoL_next {n k : Nat} (v : Int) (h : k < n) : LoL ((digitsOf n v).take (k + 1)) = LoL ((digitsOf n v).take k) ++ [quoK v k % 5] := by
 rw [take_next (digitsOf_get v h)]; simp [LoL]
theorem below_of_grown {w w' : World} (h : w.grownBy w' none) : Below w.heap.size w w' := ⟨h.os, h.tape, h.output, h.size, fun k hk => h.block k hk (by simp)⟩
theorem specFrameOf_yes (n : Nat) (v : Int) (w : World) (h1 : 1 ≤ n) (h6 : n ≤ 6) (v0 : 0 ≤ v) (v1 : v < Fr.ten n) :
  Calls Tryz.prog 50 #[.int .i64 (n : Int), .int .i64 v] w (FrPair w true (digitsOf n v)) := by
 obtain ⟨W, hW⟩ : ∃ W, (((w.alloc (.cells #[.slice none 0 0, .slice none 0 0] 30)).alloc (.cells #[] 3)).alloc (.cells #[] 3)).alloc (.cells #[.slice (some ⟨w.heap.size + 1, 0, none⟩) 0 0, .slice (some ⟨w.heap.size + 1 + 1, 0, none⟩) 0 0] 30) = W := ⟨_, rfl⟩
 have hsz : W.heap.size = w.heap.size + 1 + 1 + 1 + 1 := by rw [← hW]; simp
 have hz0 : FBox W w.heap.size (.slice none 0 0) (.slice none 0 0) := by
  unfold FBox; rw [← hW, heap_alloc_if, if_neg (by simp; omega), heap_alloc_if, if_neg (by simp; omega), heap_alloc_if, if_neg (by simp), heap_alloc_if, if_pos rfl]
 have hx0 : FBox W (w.heap.size + 1 + 1 + 1) (.slice (some ⟨w.heap.size + 1, 0, none⟩) 0 0) (.slice (some ⟨w.heap.size + 1 + 1, 0, none⟩) 0 0) := by
  unfold FBox; rw [← hW, heap_alloc_if, if_pos (by simp)]
 have ho1 : Own W (w.heap.size + 1) (some ⟨w.heap.size + 1, 0, none⟩) 0 0 [] := by
  refine own_lit_at W [] _ 0 _ rfl (by omega) (Nat.le_refl _) ?_
  rw [← hW, heap_alloc_if, if_neg (by simp), heap_alloc_if, if_neg (by simp), heap_alloc_if, if_pos (by simp)]; rfl
 have ho2 : Own W (w.heap.size + 1) (some ⟨w.heap.size + 1 + 1, 0, none⟩) 0 0 [] := by
  refine own_lit_at W [] _ 0 _ rfl (by omega) (by omega) ?_
  rw [← hW, heap_alloc_if, if_neg (by simp), heap_alloc_if, if_pos (by simp)]; rfl
 have hg0 : w.grownBy W none := by
  rw [← hW]; exact (((World.grownBy_alloc _ _ _).trans (World.grownBy_alloc _ _ _)).trans (World.grownBy_alloc _ _ _)).trans (World.grownBy_alloc _ _ _)
 have HW := Hd hW
 have HZ := Hd hz0
 have HX := Hd hx0
 have HO1 := Hd ho1
 have HO2 := Hd ho2
 have HG := Hd hg0
 obtain ⟨T, hT⟩ : ∃ T, Fr.ten n = T := ⟨_, rfl⟩
 obtain ⟨T0, T1⟩ := ten_bd n h6
 rw [hT] at v1 T0 T1
 have HT := Hd hT
 clear hW hz0 hx0 ho1 ho2 hg0 hT
 go_enter Tryz.func50, Tryz.ntmps50
 go_wp2_with fail
 refine (l6In_yes (by omega) (by omega) _).mono ?_
 rintro e w' ⟨rfl, rfl⟩
 go_wp2_with fail
 refine (l5Ten_any n _ h6).mono ?_
 rw [HT.out]
 rintro e w' ⟨rfl, rfl⟩
 go_wp2_with fail
 refine (l6In_yes (by omega) (by omega) _).mono ?_
 rintro e w' ⟨rfl, rfl⟩
 go_wp2_with fail
 rw [HW.out]
 go_loopw [1, 7] (fun uv kv wr => ∃ (k : Nat) (A A' : Option Addr) (c c' : Nat) (u : Int), kv = .int .i64 (k : Int) ∧ uv = .int .i64 u ∧ u = quoK v k ∧ k ≤ n ∧ FBox wr (w.heap.size + 1 + 1 + 1) (.slice A k c) (.slice A' k c') ∧ FBox wr w.heap.size (.slice none 0 0) (.slice none 0 0) ∧
  Own wr (w.heap.size + 1) A k c (HiL ((digitsOf n v).take k)) ∧ Own wr (w.heap.size + 1) A' k c' (LoL ((digitsOf n v).take k)) ∧ Apart (.slice A k c) (.slice A' k c') ∧ Apart (.slice A' k c') (.slice A k c) ∧ (∀ j, (Value.slice A k c).ownBlock = some j → j ≠ w.heap.size + 1 + 1 + 1) ∧ (∀ j, (Value.slice A' k c').ownBlock = some j → j ≠ w.heap.size + 1 + 1 + 1) ∧ w.grownBy wr none ∧ W.heap.size ≤ wr.heap.size) (fun _ kv _ => n - (intOf kv).toNat)
 case atStart => exact ⟨0, _, _, _, _, _, rfl, rfl, rfl, by omega, HX.out, HZ.out, HO1.out, HO2.out, apart_of (by omega), apart_of (by omega), by rintro j e; have := blk_eq e; omega, by rintro j e; have := blk_eq e; omega, HG.out, Nat.le_refl _⟩
 case round =>
  clear HX HZ HO1 HO2 HG
  obtain ⟨k, A, A', c, c', u, rfl, rfl, hu, hk, hbx, hbz, hown1, hown2, hap, hap', hne1, hne2, hg, hsr⟩ := hrel
  obtain ⟨u0, u1⟩ := quoK_in v0 k
  rw [← hu] at u0 u1
  have HU := Hd hu
  have HX := Hd hbx
  have HZ := Hd hbz
  have HO1 := Hd hown1
  have HO2 := Hd hown2
  have HA1 := Hd hap
  have HA2 := Hd hap'
  have HN1 := Hd hne1
  have HN2 := Hd hne2
  have HG := Hd hg
  clear hbx hbz hown1 hown2 hap hap' hne1 hne2 hg hu
  by_cases hlk : k < n
  ·have hx0 := HX.out.fst
   have hx1 := HX.out.snd
   have hfx0 := HX.out.free 0
   have hfx1 := HX.out.free 1
   have hxl := HX.out.lt
   go_wp2_with (first | (at_builtin; refine wpList_app2 rfl (.tmp 29) (.tmp 33) rfl rfl HO1.out [u % 10 / 5] 1 rfl _ _ rfl rfl _ rfl (by omega) (by omega) ?_; intro A5 c5 w5 ho5 hg5 hk5; have hz5 := hg5.size; have HX5 := Hd (HX.out.grown hg5 (fun e => HN1.out _ e.symm rfl)); have x50 := HX5.out.fst; have x51 := HX5.out.snd; have g50 := HX5.out.free 0; have g51 := HX5.out.free 1; have HO5 := Hd ho5; have HG5 := Hd hg5; have HK5 := Hd hk5; have HO25 := Hd ((HO2.out.kept hg5 HA1.out).kept (grown_set (w.heap.size + 1 + 1 + 1) 0 (.slice A5 (k + 1) c5)) (fun j hj e => HN2.out j hj (by injection e with e; exact e.symm))); have hz5' : (w5.setCell ⟨w.heap.size + 1 + 1 + 1, 0, none⟩ (.slice A5 (k + 1) c5)).heap.size = w5.heap.size := size_setCell_ _ _ _; have HZ5 := Hd hz5'; clear ho5 hg5 hk5 hz5') | (at_builtin; refine wpList_app2 rfl (.tmp 37) (.tmp 40) rfl rfl HO25.out [u % 5] 1 rfl _ _ rfl HZ5.out.symm _ rfl (by omega) (by rw [HZ5.out]; omega) ?_; intro A6 c6 w6 ho6 hg6 hk6; rw [HZ5.out] at hk6; have hz6 := hg6.size; rw [HZ5.out] at hz6; have HX6 := Hd ((show FBox (w5.setCell ⟨w.heap.size + 1 + 1 + 1, 0, none⟩ (.slice A5 (k + 1) c5)) (w.heap.size + 1 + 1 + 1) (.slice A5 (k + 1) c5) (.slice A' k c') by have := heap_setCell_same w5 (w.heap.size + 1 + 1 + 1) 0 _ _ (.slice A5 (k + 1) c5) HX5.out; simpa [FBox] using this).grown hg6 (fun e => HN2.out _ e.symm rfl)); have x60 := HX6.out.fst; have x61 := HX6.out.snd; have g60 := HX6.out.free 0; have g61 := HX6.out.free 1; have HO6 := Hd ho6; have HG6 := Hd hg6; have HK6 := Hd hk6; clear ho6 hg6 hk6))
   go_roundw
   case rel =>
    have b1 := HO1.out.blk
    have b2 := HO2.out.blk
    have b5 := HO5.out.blk
    have ap5 := apart_new HK5.out HA1.out HA2.out (fun j hj => (b2 j hj).2)
    have ap6 := apart_new HK6.out ap5.2 ap5.1 (fun j hj => (b5 j hj).2)
    have n5 : ∀ j, (Value.slice A5 (k + 1) c5).ownBlock = some j → j ≠ w.heap.size + 1 + 1 + 1 := fun j hj => (HK5.out j hj).elim (fun h => HN1.out j h) (fun h => by omega)
    have n6 : ∀ j, (Value.slice A6 (k + 1) c6).ownBlock = some j → j ≠ w.heap.size + 1 + 1 + 1 := fun j hj => (HK6.out j hj).elim (fun h => HN2.out j h) (fun h => by omega)
    have o5 := ((HO5.out.kept (grown_set (w.heap.size + 1 + 1 + 1) 0 (.slice A5 (k + 1) c5)) (fun j hj e => n5 j hj (by injection e with e; exact e.symm))).kept HG6.out ap5.2).kept (grown_set (w.heap.size + 1 + 1 + 1) 1 (.slice A6 (k + 1) c6)) (fun j hj e => n5 j hj (by injection e with e; exact e.symm))
    have o6 := HO6.out.kept (grown_set (w.heap.size + 1 + 1 + 1) 1 (.slice A6 (k + 1) c6)) (fun j hj e => n6 j hj (by injection e with e; exact e.symm))
    have bx6 : FBox (w6.setCell ⟨w.heap.size + 1 + 1 + 1, 1, none⟩ (.slice A6 (k + 1) c6)) (w.heap.size + 1 + 1 + 1) (.slice A5 (k + 1) c5) (.slice A6 (k + 1) c6) := by have := heap_setCell_same w6 (w.heap.size + 1 + 1 + 1) 1 _ _ (.slice A6 (k + 1) c6) HX6.out; simpa [FBox] using this
    have gall := ((HG5.out.row_in (N := w.heap.size) (fun j hj => by have := (b1 j hj).1; omega)).trans ((grown_set (w.heap.size + 1 + 1 + 1) 0 (.slice A5 (k + 1) c5)).row_in' (N := w.heap.size) (by omega))).trans ((HG6.out.row_in (N := w.heap.size) (fun j hj => by have := (b2 j hj).1; omega)).trans ((grown_set (w.heap.size + 1 + 1 + 1) 1 (.slice A6 (k + 1) c6)).row_in' (N := w.heap.size) (by omega)))
    exact ⟨k + 1, A5, A6, c5, c6, _, by go_num, rfl, by rw [quo_next, ← HU.out], by omega, bx6, gall.box_ HZ.out, by rw [HiL_next v hlk, ← HU.out]; exact o5, by rw [LoL_next v hlk, ← HU.out]; exact o6, ap6.2, ap6.1, n5, n6, gall.on_ HG.out, by have := gall.2.2.2.1; omega⟩
   case measure => simp [intOf]; omega
  ·obtain rfl : n = k := by omega
   have hx0 := HX.out.fst
   have hx1 := HX.out.snd
   have hxl := HX.out.lt
   have hz0 := HZ.out.fst
   have hz1 := HZ.out.snd
   have hf0 := HZ.out.free 0
   have hf1 := HZ.out.free 1
   have hzl := HZ.out.lt
   have hb3 := HZ.out.over (.slice A n c) (.slice A' n c')
   have HC3 := Hd hb3.fst
   have HD3 := Hd hb3.snd
   clear hb3
   go_wp2
   have hall : (digitsOf n v).take n = digitsOf n v := List.take_of_length_le (by rw [digitsOf_length]; omega)
   have o1 := HO1.out
   have o2 := HO2.out
   rw [hall] at o1 o2
   refine bodyPost_ret (v := .tuple #[.agg #[.slice A n c, .slice A' n c'], .bool true]) (by simp [results, Tryz.results50, go_sem, HC3.out, HD3.out]) rfl ⟨⟨_, rfl, ?_⟩, below_over (below_of_grown HG.out) (Nat.le_refl _) _ _⟩
   rw [if_pos rfl]
   refine (FrOwn.over (B := w.heap.size + 1) ⟨A, c, A', c', by rw [digitsOf_length], ?_, ?_, ?_, ?_⟩ (by omega) _ _).mono (by omega)
   ·rw [digitsOf_length]; exact o1
   ·rw [digitsOf_length]; exact o2
   ·rw [digitsOf_length]; exact HA1.out
   ·rw [digitsOf_length]; exact HA2.out
end Go.Proofs.YthdoofmfigemoaaGreatDoor
section
namespace Go.Proofs.YthdoofmfigemoaaGreatDoor
open Go.RowKit
variable {H : Type} {enc : TypeId × Value → H}
theorem handed_both {a : Assume} {C : Checked} {os : Os} {f : FuncId} {fn : Func} {s : ChangeSpec} {conds : List PathCond} {apart fresh handsOn again : Bool} {X : World → Array Value → Prop}
  (hX : ∀ (w w' : World) (args : Array Value), w.heap = w'.heap → X w args → X w' args)
  (own : ownKnob C.prog.godebug = none) (started : os.Started) (noInit : C.prog.inits.idxOf? f = none) (hfn : C.prog.funcs[f]? = some fn)
  (wit : ∃ (w : World) (tape : Tape) (i : Input), w.os = os ∧ (w.forCall tape i).Shaped C.prog ∧ i.vars = [] ∧ Input.okWide C.prog (w.forCall tape i) .any w.heap.size f i ∧
   ((s.pre enc C.prog fn conds apart (w.forCall tape i).memory i.args ∧ X (w.forCall tape i).memory i.args) ∧ sizedMet enc C.prog fn (OpenSpec.ofChange s) apart (w.forCall tape i).memory i.args) ∧ a.holds C.prog (lone (Frame.enter C.prog f i.args .normal) [] (w.forCall tape i)))
  (walk : ∀ (W : World) (base : Nat) (args : Array Value) (ds gs : List (DataW H)) (before : List MemPlace),
   (∀ (j : Nat) t v, fn.params[j]? = some t → args[j]? = some v → Value.okWide C.prog W .any base t v) →
   DataW.Whole enc C.prog fn.params.toList s.vars apart W args.toList ds gs before →
   X W args → W.ShapedOpen C.prog →
   Calls C.prog f args W fun e W' => ∃ v, e = .returned v ∧ s.post enc C.prog fn apart fresh handsOn again W args v W') :
  ReturnsInHanded a C os f .any (fun w args => (s.pre enc C.prog fn conds apart w args ∧ X w args) ∧ sizedMet enc C.prog fn (OpenSpec.ofChange s) apart w args) (s.post enc C.prog fn apart fresh handsOn again) := by
 refine returnsInHanded_of_calls own started noInit wit fun w tape i _ shape _ okay met _ => ?_
 obtain ⟨_, _, _, fn', at', _, _, _, _, vals⟩ := okay
 obtain rfl : fn' = fn := Option.some.inj (at'.symm.trans hfn)
 obtain ⟨⟨⟨ds, gs, before, whole, _⟩, x⟩, _⟩ := met
 refine (walk (w.forCall tape i) w.heap.size i.args ds gs before vals (DataW.Whole.of_heap (w' := w.forCall tape i) (by rfl) whole) (hX _ _ _ (by rfl) x) shape).mono ?_
 rintro e W' ⟨v, rfl, post⟩
 exact ChangeSpec.post_blind post
theorem max_of_shape {W : World} (h : W.ShapedOpen Tryz.prog) : Max W :=
 cell_of_shapedOpen_int (P := Tryz.prog) (g := 0) (t := 3) (zero := #[.int .i64 0]) h (of_decide_eq_true (by kernel_rfl)) (by kernel_rfl) rfl (by kernel_rfl) (by kernel_rfl) Tryz.underlying3
theorem tab_of_reads {P : Program} {w : World} {name : String} {k : IntKind} {zs : List Int} {g : Nat} {t e : TypeId} {n : Nat}
  (hg : P.globalNamed name = some g) (hty : (P.globals[g]?).map (·.type) = some t) (ht : P.underlying t = some (.array n e)) (he : P.underlying e = some (.int k)) (hce : P.cellsOf e = 1) (hct : P.cellsOf t = n)
  (h : Lib.VarReads P w name (Lib.tabData k zs)) : Lib.TabIs P w name k zs := by
 obtain ⟨g', t', cs, fuel, p, h1, h2, h3, h4⟩ := h
 obtain rfl := Option.some.inj (hg.symm.trans h1)
 obtain rfl := Option.some.inj (hty.symm.trans h2)
 unfold Lib.TabIs
 rw [h3, ← Lib.cells_of_tab ht he hce hct h4]
theorem pow_data : (Rows.laid_internal_strconv_uint64pow10 : DataW Unit) = Lib.tabData .u64 Lib.pow10Tab := rfl
theorem pow_of_laid {l : List (String × DataW Unit)} {W : World} (h : laidMetH Tryz.prog l W) (hl : (l.all fun x => x.2.handleName?.isNone) = true) (hm : ("internal/strconv.uint64pow10", Rows.laid_internal_strconv_uint64pow10) ∈ l) : Pow W.heap.size W := by
 rw [MakeChecks.laidMetH_plain _ _ _ hl] at h
 rw [pow_data] at hm
 have hr := Lib.laidMet.reads h hm
 have hg : Tryz.prog.globalNamed "internal/strconv.uint64pow10" = some 1 := by kernel_rfl
 have ht := tab_of_reads (P := Tryz.prog) (t := 213) (e := 195) hg (by kernel_rfl) Tryz.underlying213 Tryz.underlying195 (by kernel_rfl) (by kernel_rfl) hr
 have hlt : 1 < W.heap.size := World.block_lt_of_cell? W _ (Lib.TabIs.cell ht hg 0 (by decide))
 exact fun w' hb => var?_below hb hg hlt ht
end Go.Proofs.YthdoofmfigemoaaGreatDoor
end
