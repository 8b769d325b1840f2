/-
  The reference's sum of letters, notches of a worth, tallies, and whether a list are tallies.
-/
import Derived.Test.YtogplbnabffcfaaTaRef
import Derived.Test.YtogplbnabffcfaaTaDebts
namespace Go.Proofs.Ytogplbnabffcfaa
open Go.RowKit
set_option linter.unusedSimpArgs false

theorem worth_of {s : ByteArray} (h : validB s = true) : Ta.worth s.data.toList = some (worthB s) := by
  unfold validB at h
  unfold worthB
  cases hw : Ta.worth s.data.toList with
  | none => rw [hw] at h; cases h
  | some v => rfl
theorem valid_size {s : ByteArray} (h : validB s = true) : s.size ≤ 36 := by
  have := (Ta.worth_bd (worth_of h)).1
  simpa using this
set_option maxRecDepth 100000 in
set_option maxHeartbeats 1000000 in
theorem l6ySum_any (s : ByteArray) (w : World) (hv : validB s = true) : Calls Try.prog 52 #[.string s] w fun e w' => e = .returned (.int .i64 (worthB s)) ∧ w = w' := by
  have hw0 := worth_of hv
  have hs := valid_size hv
  obtain ⟨v, hvv⟩ : ∃ v, worthB s = v := ⟨_, rfl⟩
  rw [hvv] at hw0 ⊢
  have hlen : s.data.toList.length = s.size := by simp
  have HLEN := Lib.hid hlen
  have HW0 := Lib.hid hw0
  clear hlen hw0 hvv hv
  go_enter Try.func52, Try.ntmps52
  go_wp2_with fail
  go_loopw [3, 4] (fun nv iv wr => ∃ (i r m : Nat) (t : Int), i ≤ s.size ∧ iv = .int .i64 (i : Int) ∧ nv = .int .i64 t ∧ m ≤ 9 ∧ r < 4 ∧ 0 ≤ t ∧ Ta.scan (s.data.toList.drop i) r m t = some v ∧ w = wr) (fun _ iv _ => s.size - (intOf iv).toNat)
  case atStart => exact ⟨0, 0, 0, 0, by omega, rfl, rfl, by omega, by omega, by omega, HW0.out, rfl⟩
  case round =>
    obtain ⟨i, r, m, t, hi, rfl, rfl, hm9, hr4, ht0, hsc, rfl⟩ := hrel
    have HS := Lib.hid hsc
    clear hsc
    by_cases hlt : i < s.size
    · obtain ⟨b, hb⟩ : ∃ b, s[i] = b := ⟨_, rfl⟩
      have hb2 : s.data.toList[i]? = some b := by
        rw [List.getElem?_eq_getElem (by have := HLEN.out; omega), ← hb]; rfl
      have hsc := HS.out
      rw [drop_cell hb2] at hsc
      cases hk : Ta.rank b with
      | none => rw [Ta.scan_none hk] at hsc; cases hsc
      | some k =>
        by_cases h1 : k < r
        · rw [Ta.scan_back hk h1] at hsc; cases hsc
        by_cases h2 : 9 < (if k = r then m + 1 else 1)
        · rw [Ta.scan_many hk h1 h2] at hsc; cases hsc
        rw [Ta.scan_on hk h1 h2] at hsc
        have hwt := Ta.weight_bd k
        have hk4 := Ta.rank_lt hk
        have hbd := Ta.scan_bd _ _ _ _ _ hk4 (by omega) hsc
        have hv36 := (Ta.worth_bd HW0.out).2.2.1
        have hwr : IntKind.i64.wrap (t + Ta.weight k) = t + Ta.weight k := IntWalk.i64_in _ (by omega)
        have HU := Lib.hid (lw_some hk)
        have HBE := Lib.hid hb
        have HSC := Lib.hid (And.intro hsc (show (if k = r then m + 1 else 1) ≤ 9 by omega))
        clear hb hb2 hsc hk h1 h2 hbd
        go_wp2_with fail
        rw [HBE.out]
        refine (l6yWorth_is b _ HU.out _).mono ?_
        rintro e w' ⟨rfl, rfl⟩
        go_wp2_with fail
        exact ⟨⟨i + 1, k, _, t + Ta.weight k, by omega, by go_num, rfl, HSC.out.2, hk4, by omega, HSC.out.1, trivial⟩, by simp [intOf]; omega⟩
    · obtain rfl : i = s.size := by omega
      have hsc := HS.out
      rw [List.drop_eq_nil_of_le (by have := HLEN.out; omega)] at hsc
      have hv : t = v := by injection hsc
      clear hsc
      go_wp2
      go_ret
      exact ⟨ret_int hv, rfl⟩

theorem ret_str {a b : ByteArray} (h : a = b) : Ending.returned (.string a) = .returned (.string b) := by rw [h]
theorem many_step (a b q : Nat) : a + b * (2 * q + 1) = (a + b) + (b + b) * q := by rw [Nat.mul_add, Nat.add_mul, Nat.mul_left_comm]; omega
theorem many_step0 (a b q : Nat) : a + b * (2 * q) = a + (b + b) * q := by rw [Nat.add_mul, Nat.mul_left_comm]; omega
set_option maxHeartbeats 1000000 in
theorem l6Many_any (s : ByteArray) (c : UInt8) (n : Nat) (hs : s = ⟨#[c]⟩) (hn : n ≤ 9) (w : World) : Calls Try.prog 54 #[.string s, .int .i64 (n : Int)] w fun e w' => e = .returned (.string (txt (List.replicate n c))) ∧ w = w' := by
  have hs2 : s = txt (List.replicate 1 c) := hs
  clear hs
  subst hs2
  obtain ⟨R, hR⟩ : ∃ R, txt (List.replicate n c) = R := ⟨_, rfl⟩
  have HR := Lib.hid hR
  rw [hR]
  clear hR
  go_enter Try.func54, Try.ntmps54
  go_wp2_with fail
  go_loopw [0, 1, 5] (fun sv nv ov wr => ∃ (a b k : Nat), k ≤ 9 ∧ b ≤ 18 ∧ a + b * k = n ∧ sv = .string (txt (List.replicate b c)) ∧ nv = .int .i64 (k : Int) ∧ ov = .string (txt (List.replicate a c)) ∧ w = wr) (fun _ nv _ _ => (intOf nv).toNat)
  case atStart => exact ⟨0, 1, n, hn, by omega, by omega, rfl, rfl, rfl, rfl⟩
  case round =>
    obtain ⟨a, b, k, hk9, hb18, hab, rfl, rfl, rfl, rfl⟩ := hrel
    have HAB := Lib.hid hab
    clear hab
    by_cases hk : k = 0
    · subst hk
      have ha : a = n := by have := HAB.out; rw [Nat.mul_zero] at this; omega
      go_wp2
      go_ret
      exact ⟨ret_str (by rw [← HR.out, ← ha]), rfl⟩
    · obtain ⟨q, hq⟩ : ∃ q, k = 2 * q + 1 ∨ k = 2 * q := ⟨k / 2, by omega⟩
      have hpos : (k : Int) > 0 := by omega
      have hb9 : b ≤ 9 := by have := HAB.out; have := Nat.le_mul_of_pos_right b (show 0 < k by omega); omega
      have ha9 : a ≤ 9 := by have := HAB.out; omega
      have hwq : IntKind.i64.wrap (q : Int) = q := IntWalk.i64_in _ (by omega)
      have hwr := wrap64_nat (n := q) (by omega)
      have sa : (txt (List.replicate a c)).size = a := by rw [txt_size, List.length_replicate]
      have sb : (txt (List.replicate b c)).size = b := by rw [txt_size, List.length_replicate]
      have hdiv : ((k : Int)).tdiv 2 = (q : Int) := by rw [show (2 : Int) = ((2 : Nat) : Int) from rfl, tdiv_nat]; omega
      have hap : ∀ x y, txt (List.replicate x c) ++ txt (List.replicate y c) = txt (List.replicate (x + y) c) := fun x y => by rw [txt_append, List.replicate_append_replicate]
      rcases hq with hq | hq
      · have hmod : ((k : Int)).tmod 2 = 1 := by rw [show (2 : Int) = ((2 : Nat) : Int) from rfl, tmod_nat]; omega
        have HN := Lib.hid (show (a + b) + (b + b) * q = n by rw [← many_step, ← hq]; exact HAB.out)
        have HQ := Lib.hid hq
        clear hq
        go_wp2_with fail
        exact ⟨⟨a + b, b + b, q, by have := HQ.out; omega, by omega, HN.out, rfl, rfl, rfl, trivial⟩, by have := HQ.out; simp [intOf]; omega⟩
      · have hmod : ((k : Int)).tmod 2 = 0 := by rw [show (2 : Int) = ((2 : Nat) : Int) from rfl, tmod_nat]; omega
        have HN := Lib.hid (show a + (b + b) * q = n by rw [← many_step0, ← hq]; exact HAB.out)
        have HQ := Lib.hid hq
        clear hq
        go_wp2_with fail
        exact ⟨⟨a, b + b, q, by have := HQ.out; omega, by omega, HN.out, rfl, rfl, rfl, trivial⟩, by have := HQ.out; simp [intOf]; omega⟩
theorem l6Many_is (s : ByteArray) (c : UInt8) (n : Nat) (N : Int) (hN : N = (n : Int)) (hs : s = ⟨#[c]⟩) (hn : n ≤ 9) (r : ByteArray) (hr : txt (List.replicate n c) = r) (w : World) : Calls Try.prog 54 #[.string s, .int .i64 N] w fun e w' => e = .returned (.string r) ∧ w = w' := by
  subst hN
  subst hr
  exact l6Many_any s c n hs hn w
theorem specNotchesOf_no (v : Int) (h : v < 0 ∨ 9999 < v) (w : World) : Calls Try.prog 42 #[.int .i64 v] w fun e w' => e = .returned (.tuple #[.string ⟨#[]⟩, .bool false]) ∧ w = w' := by
  go_enter Try.func42, Try.ntmps42
  go_wp2_with fail
  refine (l6In_no h w).mono ?_
  rintro e w' ⟨rfl, rfl⟩
  go_wp2
  go_ret2
  exact ⟨rfl, rfl⟩
set_option maxHeartbeats 1000000 in
theorem specNotchesOf_yes (n : Nat) (hn : n ≤ 9999) (w : World) : Calls Try.prog 42 #[.int .i64 (n : Int)] w fun e w' => e = .returned (.tuple #[.string (txt (Ta.ntext n)), .bool true]) ∧ w = w' := by
  obtain ⟨a, ha⟩ : ∃ a, n / 1000 = a := ⟨_, rfl⟩
  obtain ⟨b', hb'⟩ : ∃ b', n / 100 = b' := ⟨_, rfl⟩
  obtain ⟨c', hc'⟩ : ∃ c', n / 10 = c' := ⟨_, rfl⟩
  obtain ⟨b, hb⟩ : ∃ b, b' % 10 = b := ⟨_, rfl⟩
  obtain ⟨c, hc⟩ : ∃ c, c' % 10 = c := ⟨_, rfl⟩
  obtain ⟨d, hd⟩ : ∃ d, n % 10 = d := ⟨_, rfl⟩
  have q1 : ((n : Nat) : Int).tdiv 1000 = (a : Int) := by rw [show (1000 : Int) = ((1000 : Nat) : Int) from rfl, tdiv_nat, ha]
  have q2 : ((n : Nat) : Int).tdiv 100 = (b' : Int) := by rw [show (100 : Int) = ((100 : Nat) : Int) from rfl, tdiv_nat, hb']
  have q3 : ((n : Nat) : Int).tdiv 10 = (c' : Int) := by rw [show (10 : Int) = ((10 : Nat) : Int) from rfl, tdiv_nat, hc']
  have r2 : ((b' : Nat) : Int).tmod 10 = (b : Int) := by rw [show (10 : Int) = ((10 : Nat) : Int) from rfl, tmod_nat, hb]
  have r3 : ((c' : Nat) : Int).tmod 10 = (c : Int) := by rw [show (10 : Int) = ((10 : Nat) : Int) from rfl, tmod_nat, hc]
  have r4 : ((n : Nat) : Int).tmod 10 = (d : Int) := by rw [show (10 : Int) = ((10 : Nat) : Int) from rfl, tmod_nat, hd]
  have a9 : a ≤ 9 := by omega
  have b9 : b ≤ 9 := by omega
  have c9 : c ≤ 9 := by omega
  have d9 : d ≤ 9 := by omega
  have w1 := wrap_nat (n := a) (by omega)
  have w2 := wrap_nat (n := b') (by omega)
  have w3 := wrap_nat (n := c') (by omega)
  have w4 := wrap_nat (n := b) (by omega)
  have w5 := wrap_nat (n := c) (by omega)
  have w6 := wrap_nat (n := d) (by omega)
  obtain ⟨A, hA⟩ : ∃ A, txt (List.replicate a 77) = A := ⟨_, rfl⟩
  obtain ⟨B, hB⟩ : ∃ B, txt (List.replicate b 67) = B := ⟨_, rfl⟩
  obtain ⟨C, hC⟩ : ∃ C, txt (List.replicate c 88) = C := ⟨_, rfl⟩
  obtain ⟨D, hD⟩ : ∃ D, txt (List.replicate d 73) = D := ⟨_, rfl⟩
  have HT := Lib.hid (show A ++ B ++ C ++ D = txt (Ta.ntext n) by
    rw [← hA, ← hB, ← hC, ← hD, Ta.ntext, Ta.notes, ha, hb', hc', hb, hc, hd, txt_append, txt_append, txt_append, List.append_assoc, List.append_assoc])
  have sA : A.size = a := by rw [← hA, txt_size, List.length_replicate]
  have sB : B.size = b := by rw [← hB, txt_size, List.length_replicate]
  have sC : C.size = c := by rw [← hC, txt_size, List.length_replicate]
  have sD : D.size = d := by rw [← hD, txt_size, List.length_replicate]
  have HA := Lib.hid (And.intro hA (And.intro hB (And.intro hC hD)))
  clear ha hb hb' hc hc' hd hA hB hC hD
  go_enter Try.func42, Try.ntmps42
  go_wp2_with fail
  refine (l6In_yes (by omega) (by omega) w).mono ?_
  rintro e w' ⟨rfl, rfl⟩
  go_wp2_with fail
  refine (l6Many_is _ 77 a _ rfl rfl a9 A HA.out.1 w).mono ?_
  rintro e w' ⟨rfl, rfl⟩
  go_wp2_with fail
  refine (l6Many_is _ 67 b _ rfl rfl b9 B HA.out.2.1 w).mono ?_
  rintro e w' ⟨rfl, rfl⟩
  go_wp2_with fail
  refine (l6Many_is _ 88 c _ rfl rfl c9 C HA.out.2.2.1 w).mono ?_
  rintro e w' ⟨rfl, rfl⟩
  go_wp2_with fail
  refine (l6Many_is _ 73 d _ rfl rfl d9 D HA.out.2.2.2 w).mono ?_
  rintro e w' ⟨rfl, rfl⟩
  go_wp2
  go_ret2
  refine ⟨?_, rfl⟩
  show Ending.returned (.tuple #[.string (A ++ B ++ C ++ D), .bool true]) = _
  rw [HT.out]
end Go.Proofs.Ytogplbnabffcfaa
