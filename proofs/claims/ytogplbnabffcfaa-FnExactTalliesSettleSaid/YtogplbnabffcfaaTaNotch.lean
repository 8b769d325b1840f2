/-
  The program's notches: how many of each letter, what they are worth, the notches of a worth.
-/
import Derived.Test.YtogplbnabffcfaaTaMem
import Derived.Test.YtogplbnabffcfaaShelf
namespace Go.Proofs.Ytogplbnabffcfaa
open Go.RowKit
set_option linter.unusedSimpArgs false

theorem letterWorth_any (k : Nat) (hk : k < 4) (w : World) : Calls Try.prog 46 #[.int .i64 (k : Int)] w fun e w' => e = .returned (.int .i64 (Ta.weight k)) ∧ w = w' := by
  have pw : ∀ (n : Nat) (w : World), n ≤ 3 → Calls Try.prog 56 #[.int .i64 (n : Int)] w fun e w' => e = .returned (.int .i64 (Ta.weight (3 - n))) ∧ w = w' := by
    intro n w hn
    match n, hn with
    | 0, _ =>
      go_enter Try.func56, Try.ntmps56
      go_wp2_with fail
      refine wp_loop_rounds 1 ?_
      rw [rounds_succ]
      go_wp2_with fail
      go_ret
      exact ⟨rfl, rfl⟩
    | 1, _ =>
      go_enter Try.func56, Try.ntmps56
      go_wp2_with fail
      refine wp_loop_rounds 2 ?_
      iterate 2 (rw [rounds_succ]; go_wp2_with fail)
      go_ret
      exact ⟨rfl, rfl⟩
    | 2, _ =>
      go_enter Try.func56, Try.ntmps56
      go_wp2_with fail
      refine wp_loop_rounds 3 ?_
      iterate 3 (rw [rounds_succ]; go_wp2_with fail)
      go_ret
      exact ⟨rfl, rfl⟩
    | 3, _ =>
      go_enter Try.func56, Try.ntmps56
      go_wp2_with fail
      refine wp_loop_rounds 4 ?_
      iterate 4 (rw [rounds_succ]; go_wp2_with fail)
      go_ret
      exact ⟨rfl, rfl⟩
  have e : (3 : Int) - (k : Int) = ((3 - k : Nat) : Int) := by omega
  have h3 : 3 - (3 - k) = k := by omega
  go_enter Try.func46, Try.ntmps46
  go_wp2_with fail
  refine (pw (3 - k) w (by omega)).mono ?_
  rintro e w' ⟨rfl, rfl⟩
  rw [h3]
  go_wp2
  go_ret
  exact ⟨rfl, rfl⟩

/-- the place of a letter, or -1 -/
def rk (b : UInt8) : Int := match Ta.rank b with | none => -1 | some k => k
theorem idx_any (b : UInt8) (w : World) : Calls Try.prog 55 #[.string ⟨#[77, 67, 88, 73]⟩, .int .u8 (b.toNat : Int)] w fun e w' => e = .returned (.int .i64 (rk b)) ∧ w = w' := by
  refine (Try.strings_IndexByte _ _ w).mono fun e w' h => ⟨?_, h.2.symm⟩
  rw [h.1]
  congr 2
  have e1 : ((b.toNat : Int)).toNat.toUInt8 = b := by simp
  rw [e1]
  unfold rk Ta.rank
  by_cases h0 : b = 77
  · subst h0; decide
  · by_cases h1 : b = 67
    · subst h1; decide
    · by_cases h2 : b = 88
      · subst h2; decide
      · by_cases h3 : b = 73
        · subst h3; decide
        · simp [h0, h1, h2, h3, Lib.indexByte, Ne.symm h0, Ne.symm h1, Ne.symm h2, Ne.symm h3]
/-- the counts of letters so far: the last place, how many there, the worth -/
structure Cs (c0 c1 c2 c3 : Int) (r : Nat) (m : Nat) (t : Int) : Prop where
  lo : 0 ≤ c0 ∧ 0 ≤ c1 ∧ 0 ≤ c2 ∧ 0 ≤ c3
  hi : c0 ≤ 9 ∧ c1 ≤ 9 ∧ c2 ≤ 9 ∧ c3 ≤ 9
  sum : t = 1000 * c0 + 100 * c1 + 10 * c2 + c3
  last : r < 4
  now : (m : Int) = if r = 0 then c0 else if r = 1 then c1 else if r = 2 then c2 else c3
  then_ : (r < 1 → c1 = 0) ∧ (r < 2 → c2 = 0) ∧ (r < 3 → c3 = 0)
theorem Cs.put {c0 c1 c2 c3 t : Int} {r m : Nat} (h : Cs c0 c1 c2 c3 r m t) :
    (¬ 0 < r → ¬ c0 = 9 → Cs (c0 + 1) c1 c2 c3 0 (if 0 = r then m + 1 else 1) (t + Ta.weight 0) ∧ ¬ 9 < (if 0 = r then m + 1 else 1)) ∧
    (¬ 1 < r → ¬ c1 = 9 → Cs c0 (c1 + 1) c2 c3 1 (if 1 = r then m + 1 else 1) (t + Ta.weight 1) ∧ ¬ 9 < (if 1 = r then m + 1 else 1)) ∧
    (¬ 2 < r → ¬ c2 = 9 → Cs c0 c1 (c2 + 1) c3 2 (if 2 = r then m + 1 else 1) (t + Ta.weight 2) ∧ ¬ 9 < (if 2 = r then m + 1 else 1)) ∧
    (¬ 3 < r → ¬ c3 = 9 → Cs c0 c1 c2 (c3 + 1) 3 (if 3 = r then m + 1 else 1) (t + Ta.weight 3) ∧ ¬ 9 < (if 3 = r then m + 1 else 1)) := by
  obtain ⟨lo, hi, sum, last, now, th⟩ := h
  have hr : r = 0 ∨ r = 1 ∨ r = 2 ∨ r = 3 := by omega
  refine ⟨fun h1 h2 => ?_, fun h1 h2 => ?_, fun h1 h2 => ?_, fun h1 h2 => ?_⟩
  all_goals
    rcases hr with rfl | rfl | rfl | rfl <;> simp at now th h1 <;> (refine ⟨⟨by omega, by omega, by simp [Ta.weight] <;> omega, by omega, by simp <;> omega, by simp <;> omega⟩, by simp <;> omega⟩)
theorem Cs.full {c0 c1 c2 c3 t : Int} {r m : Nat} (h : Cs c0 c1 c2 c3 r m t) :
    (¬ 0 < r → c0 = 9 → 9 < (if 0 = r then m + 1 else 1)) ∧ (¬ 1 < r → c1 = 9 → 9 < (if 1 = r then m + 1 else 1)) ∧ (¬ 2 < r → c2 = 9 → 9 < (if 2 = r then m + 1 else 1)) ∧ (¬ 3 < r → c3 = 9 → 9 < (if 3 = r then m + 1 else 1)) := by
  obtain ⟨lo, hi, sum, last, now, th⟩ := h
  have hr : r = 0 ∨ r = 1 ∨ r = 2 ∨ r = 3 := by omega
  refine ⟨fun h1 h2 => ?_, fun h1 h2 => ?_, fun h1 h2 => ?_, fun h1 h2 => ?_⟩
  all_goals
    rcases hr with rfl | rfl | rfl | rfl <;> simp at now th h1 ⊢ <;> omega
theorem drop_cell {l : List UInt8} {i : Nat} {b : UInt8} (h : l[i]? = some b) : l.drop i = b :: l.drop (i + 1) := by
  obtain ⟨h1, h2⟩ := List.getElem?_eq_some_iff.1 h
  rw [List.drop_eq_getElem_cons h1, h2]
/-- what notchCounts gives -/
def NcPost (s : ByteArray) (w : World) (e : Ending) (w' : World) : Prop :=
  (∃ c0 c1 c2 c3, e = .returned (.tuple #[.agg #[.int .i64 c0, .int .i64 c1, .int .i64 c2, .int .i64 c3], .bool (Ta.worth s.data.toList).isSome]) ∧
    (∀ v, Ta.worth s.data.toList = some v → v = 1000 * c0 + 100 * c1 + 10 * c2 + c3 ∧ 0 ≤ c0 ∧ 0 ≤ c1 ∧ 0 ≤ c2 ∧ 0 ≤ c3 ∧ c0 ≤ 9 ∧ c1 ≤ 9 ∧ c2 ≤ 9 ∧ c3 ≤ 9)) ∧ Below w.heap.size w w'

set_option maxRecDepth 100000 in
set_option maxHeartbeats 4000000 in
theorem notchCounts_any (s : ByteArray) (w : World) (hs : s.size ≤ 1099511627776) : Calls Try.prog 45 #[.string s] w (NcPost s w) := by
  have hlen : s.data.toList.length = s.size := by simp
  have HLEN := Lib.hid hlen
  clear hlen
  go_enter Try.func45, Try.ntmps45
  go_wp2_with fail
  go_loopw [5, 6] (fun lv iv wr => ∃ (i r m : Nat) (c0 c1 c2 c3 t : Int), i ≤ s.size ∧ lv = .int .i64 (r : Int) ∧ iv = .int .i64 (i : Int) ∧ Cs c0 c1 c2 c3 r m t ∧ Ta.worth s.data.toList = Ta.scan (s.data.toList.drop i) r m t ∧
    wr = (w.alloc (.cells #[.int .i64 0, .int .i64 0, .int .i64 0, .int .i64 0] 82)).alloc (.cells #[.int .i64 c0, .int .i64 c1, .int .i64 c2, .int .i64 c3] 82)) (fun _ iv _ => s.size - (intOf iv).toNat)
  case atStart => exact ⟨0, 0, 0, 0, 0, 0, 0, 0, by omega, rfl, rfl, ⟨by omega, by omega, by omega, by omega, by simp, by simp⟩, rfl, rfl⟩
  case round =>
    obtain ⟨i, r, m, c0, c1, c2, c3, t, hi, rfl, rfl, hc, hw, rfl⟩ := hrel
    have HC := Lib.hid hc
    have HW := Lib.hid hw
    clear hc hw
    by_cases hlt : i < s.size
    · obtain ⟨b, hb⟩ : ∃ b, s[i] = b := ⟨_, rfl⟩
      have hb2 : s.data.toList[i]? = some b := by
        rw [List.getElem?_eq_getElem (by have := HLEN.out; omega), ← hb]; rfl
      have HB := Lib.hid hb2
      have HB2 := Lib.hid hb
      clear hb hb2
      go_wp2_with fail
      rw [HB2.out]
      refine (idx_any b _).mono ?_
      rintro e w' ⟨rfl, rfl⟩
      rcases hk : Ta.rank b with _ | k
      · have e1 : rk b = -1 := by simp [rk, hk]
        have hm : (-1 : Int) < (r : Int) := by omega
        rw [e1]
        have hz : Ta.worth s.data.toList = none := by rw [HW.out, drop_cell HB.out]; exact Ta.scan_none hk
        have HZ := Lib.hid hz
        clear hz e1 hk
        go_wp2_with fail
        refine bodyPost_ret (v := .tuple #[.agg #[.int .i64 c0, .int .i64 c1, .int .i64 c2, .int .i64 c3], .bool false]) (by simp [results, Try.results45, go_sem]) rfl ⟨⟨c0, c1, c2, c3, by rw [HZ.out]; rfl, by rw [HZ.out]; intro v hv; cases hv⟩, ((Below.refl _ _).alloc (Nat.le_refl _) _).alloc (by simp) _⟩
      · have e1 : rk b = (k : Int) := by simp [rk, hk]
        have hk4 := Ta.rank_lt hk
        have HK := Lib.hid hk
        rw [e1]
        clear e1 hk
        have hkk : k = 0 ∨ k = 1 ∨ k = 2 ∨ k = 3 := by omega
        clear hk4
        rcases hkk with rfl | rfl | rfl | rfl
        · by_cases hkr : 0 < r
          · have hi2 : ((0 : Int)) < (r : Int) := by omega
            have hz : Ta.worth s.data.toList = none := by rw [HW.out, drop_cell HB.out]; exact Ta.scan_back HK.out hkr
            have HZ := Lib.hid hz
            clear hz
            go_wp2_with fail
            refine bodyPost_ret (v := .tuple #[.agg #[.int .i64 c0, .int .i64 c1, .int .i64 c2, .int .i64 c3], .bool false]) (by simp [results, Try.results45, go_sem]) rfl ⟨⟨c0, c1, c2, c3, by rw [HZ.out]; rfl, by rw [HZ.out]; intro v hv; cases hv⟩, ((Below.refl _ _).alloc (Nat.le_refl _) _).alloc (by simp) _⟩
          · have hi2 : ¬ ((0 : Int)) < (r : Int) := by omega
            have hd2 : decide ((0 : Int) < (r : Int)) = false := decide_eq_false hi2
            by_cases h9 : c0 = 9
            · have hz : Ta.worth s.data.toList = none := by rw [HW.out, drop_cell HB.out]; exact Ta.scan_many HK.out hkr (HC.out.full.1 hkr h9)
              have HZ := Lib.hid hz
              clear hz
              go_wp2_with fail
              refine bodyPost_ret (v := .tuple #[.agg #[.int .i64 c0, .int .i64 c1, .int .i64 c2, .int .i64 c3], .bool false]) (by simp [results, Try.results45, go_sem, h9]) rfl ⟨⟨c0, c1, c2, c3, by rw [HZ.out]; rfl, by rw [HZ.out]; intro v hv; cases hv⟩, ((Below.refl _ _).alloc (Nat.le_refl _) _).alloc (by simp) _⟩
            · have hbd := HC.out.hi
              have hbl := HC.out.lo
              have h92 : (c0 == 9) = false := by simpa using h9
              have hp := HC.out.put.1 hkr h9
              have hz : Ta.worth s.data.toList = Ta.scan (s.data.toList.drop (i + 1)) 0 (if 0 = r then m + 1 else 1) (t + Ta.weight 0) := by rw [HW.out, drop_cell HB.out]; exact Ta.scan_on HK.out hkr hp.2
              have HP := Lib.hid hp.1
              have HZ := Lib.hid hz
              have b0 : ¬ (c0 + 1 < -9223372036854775808) := by omega
              have b1 : ¬ (c0 + 1 > 9223372036854775807) := by omega
              clear hp hz hbd hbl
              go_wp2_with fail
              refine ⟨⟨i + 1, 0, _, _, _, _, _, _, by omega, rfl, by go_num, HP.out, HZ.out, rfl⟩, ?_⟩
              simp [intOf]
              omega
        · by_cases hkr : 1 < r
          · have hi2 : ((1 : Int)) < (r : Int) := by omega
            have hz : Ta.worth s.data.toList = none := by rw [HW.out, drop_cell HB.out]; exact Ta.scan_back HK.out hkr
            have HZ := Lib.hid hz
            clear hz
            go_wp2_with fail
            refine bodyPost_ret (v := .tuple #[.agg #[.int .i64 c0, .int .i64 c1, .int .i64 c2, .int .i64 c3], .bool false]) (by simp [results, Try.results45, go_sem]) rfl ⟨⟨c0, c1, c2, c3, by rw [HZ.out]; rfl, by rw [HZ.out]; intro v hv; cases hv⟩, ((Below.refl _ _).alloc (Nat.le_refl _) _).alloc (by simp) _⟩
          · have hi2 : ¬ ((1 : Int)) < (r : Int) := by omega
            have hd2 : decide ((1 : Int) < (r : Int)) = false := decide_eq_false hi2
            by_cases h9 : c1 = 9
            · have hz : Ta.worth s.data.toList = none := by rw [HW.out, drop_cell HB.out]; exact Ta.scan_many HK.out hkr (HC.out.full.2.1 hkr h9)
              have HZ := Lib.hid hz
              clear hz
              go_wp2_with fail
              refine bodyPost_ret (v := .tuple #[.agg #[.int .i64 c0, .int .i64 c1, .int .i64 c2, .int .i64 c3], .bool false]) (by simp [results, Try.results45, go_sem, h9]) rfl ⟨⟨c0, c1, c2, c3, by rw [HZ.out]; rfl, by rw [HZ.out]; intro v hv; cases hv⟩, ((Below.refl _ _).alloc (Nat.le_refl _) _).alloc (by simp) _⟩
            · have hbd := HC.out.hi
              have hbl := HC.out.lo
              have h92 : (c1 == 9) = false := by simpa using h9
              have hp := HC.out.put.2.1 hkr h9
              have hz : Ta.worth s.data.toList = Ta.scan (s.data.toList.drop (i + 1)) 1 (if 1 = r then m + 1 else 1) (t + Ta.weight 1) := by rw [HW.out, drop_cell HB.out]; exact Ta.scan_on HK.out hkr hp.2
              have HP := Lib.hid hp.1
              have HZ := Lib.hid hz
              have b0 : ¬ (c1 + 1 < -9223372036854775808) := by omega
              have b1 : ¬ (c1 + 1 > 9223372036854775807) := by omega
              clear hp hz hbd hbl
              go_wp2_with fail
              refine ⟨⟨i + 1, 1, _, _, _, _, _, _, by omega, rfl, by go_num, HP.out, HZ.out, rfl⟩, ?_⟩
              simp [intOf]
              omega
        · by_cases hkr : 2 < r
          · have hi2 : ((2 : Int)) < (r : Int) := by omega
            have hz : Ta.worth s.data.toList = none := by rw [HW.out, drop_cell HB.out]; exact Ta.scan_back HK.out hkr
            have HZ := Lib.hid hz
            clear hz
            go_wp2_with fail
            refine bodyPost_ret (v := .tuple #[.agg #[.int .i64 c0, .int .i64 c1, .int .i64 c2, .int .i64 c3], .bool false]) (by simp [results, Try.results45, go_sem]) rfl ⟨⟨c0, c1, c2, c3, by rw [HZ.out]; rfl, by rw [HZ.out]; intro v hv; cases hv⟩, ((Below.refl _ _).alloc (Nat.le_refl _) _).alloc (by simp) _⟩
          · have hi2 : ¬ ((2 : Int)) < (r : Int) := by omega
            have hd2 : decide ((2 : Int) < (r : Int)) = false := decide_eq_false hi2
            by_cases h9 : c2 = 9
            · have hz : Ta.worth s.data.toList = none := by rw [HW.out, drop_cell HB.out]; exact Ta.scan_many HK.out hkr (HC.out.full.2.2.1 hkr h9)
              have HZ := Lib.hid hz
              clear hz
              go_wp2_with fail
              refine bodyPost_ret (v := .tuple #[.agg #[.int .i64 c0, .int .i64 c1, .int .i64 c2, .int .i64 c3], .bool false]) (by simp [results, Try.results45, go_sem, h9]) rfl ⟨⟨c0, c1, c2, c3, by rw [HZ.out]; rfl, by rw [HZ.out]; intro v hv; cases hv⟩, ((Below.refl _ _).alloc (Nat.le_refl _) _).alloc (by simp) _⟩
            · have hbd := HC.out.hi
              have hbl := HC.out.lo
              have h92 : (c2 == 9) = false := by simpa using h9
              have hp := HC.out.put.2.2.1 hkr h9
              have hz : Ta.worth s.data.toList = Ta.scan (s.data.toList.drop (i + 1)) 2 (if 2 = r then m + 1 else 1) (t + Ta.weight 2) := by rw [HW.out, drop_cell HB.out]; exact Ta.scan_on HK.out hkr hp.2
              have HP := Lib.hid hp.1
              have HZ := Lib.hid hz
              have b0 : ¬ (c2 + 1 < -9223372036854775808) := by omega
              have b1 : ¬ (c2 + 1 > 9223372036854775807) := by omega
              clear hp hz hbd hbl
              go_wp2_with fail
              refine ⟨⟨i + 1, 2, _, _, _, _, _, _, by omega, rfl, by go_num, HP.out, HZ.out, rfl⟩, ?_⟩
              simp [intOf]
              omega
        · by_cases hkr : 3 < r
          · have hi2 : ((3 : Int)) < (r : Int) := by omega
            have hz : Ta.worth s.data.toList = none := by rw [HW.out, drop_cell HB.out]; exact Ta.scan_back HK.out hkr
            have HZ := Lib.hid hz
            clear hz
            go_wp2_with fail
            refine bodyPost_ret (v := .tuple #[.agg #[.int .i64 c0, .int .i64 c1, .int .i64 c2, .int .i64 c3], .bool false]) (by simp [results, Try.results45, go_sem]) rfl ⟨⟨c0, c1, c2, c3, by rw [HZ.out]; rfl, by rw [HZ.out]; intro v hv; cases hv⟩, ((Below.refl _ _).alloc (Nat.le_refl _) _).alloc (by simp) _⟩
          · have hi2 : ¬ ((3 : Int)) < (r : Int) := by omega
            have hd2 : decide ((3 : Int) < (r : Int)) = false := decide_eq_false hi2
            by_cases h9 : c3 = 9
            · have hz : Ta.worth s.data.toList = none := by rw [HW.out, drop_cell HB.out]; exact Ta.scan_many HK.out hkr (HC.out.full.2.2.2 hkr h9)
              have HZ := Lib.hid hz
              clear hz
              go_wp2_with fail
              refine bodyPost_ret (v := .tuple #[.agg #[.int .i64 c0, .int .i64 c1, .int .i64 c2, .int .i64 c3], .bool false]) (by simp [results, Try.results45, go_sem, h9]) rfl ⟨⟨c0, c1, c2, c3, by rw [HZ.out]; rfl, by rw [HZ.out]; intro v hv; cases hv⟩, ((Below.refl _ _).alloc (Nat.le_refl _) _).alloc (by simp) _⟩
            · have hbd := HC.out.hi
              have hbl := HC.out.lo
              have h92 : (c3 == 9) = false := by simpa using h9
              have hp := HC.out.put.2.2.2 hkr h9
              have hz : Ta.worth s.data.toList = Ta.scan (s.data.toList.drop (i + 1)) 3 (if 3 = r then m + 1 else 1) (t + Ta.weight 3) := by rw [HW.out, drop_cell HB.out]; exact Ta.scan_on HK.out hkr hp.2
              have HP := Lib.hid hp.1
              have HZ := Lib.hid hz
              have b0 : ¬ (c3 + 1 < -9223372036854775808) := by omega
              have b1 : ¬ (c3 + 1 > 9223372036854775807) := by omega
              clear hp hz hbd hbl
              go_wp2_with fail
              refine ⟨⟨i + 1, 3, _, _, _, _, _, _, by omega, rfl, by go_num, HP.out, HZ.out, rfl⟩, ?_⟩
              simp [intOf]
              omega
    · obtain rfl : i = s.size := by omega
      have hz : Ta.worth s.data.toList = some t := by rw [HW.out, List.drop_of_length_le (by have := HLEN.out; omega)]; rfl
      have HZ := Lib.hid hz
      clear hz
      go_wp2_with fail
      refine bodyPost_ret (v := .tuple #[.agg #[.int .i64 c0, .int .i64 c1, .int .i64 c2, .int .i64 c3], .bool true]) (by simp [results, Try.results45, go_sem]) rfl ⟨⟨c0, c1, c2, c3, by rw [HZ.out]; rfl, fun v hv => ?_⟩, ((Below.refl _ _).alloc (Nat.le_refl _) _).alloc (by simp) _⟩
      rw [HZ.out] at hv
      injection hv with hv
      subst hv
      exact ⟨HC.out.sum, HC.out.lo.1, HC.out.lo.2.1, HC.out.lo.2.2.1, HC.out.lo.2.2.2, HC.out.hi.1, HC.out.hi.2.1, HC.out.hi.2.2.1, HC.out.hi.2.2.2⟩
end Go.Proofs.Ytogplbnabffcfaa
