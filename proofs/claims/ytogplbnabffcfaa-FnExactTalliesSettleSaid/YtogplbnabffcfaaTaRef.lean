/-
  The reference's notches: the worth of a letter, whether a text are notches, the sum of letters.
-/
import Derived.Test.YtogplbnabffcfaaTaTally
import Derived.Test.YtogplbnabffcfaaKit
import Derived.BigQuiet
import Derived.Deep.RegionWith
namespace Go.Proofs.Ytogplbnabffcfaa
open Go.RowKit
set_option linter.unusedSimpArgs false

theorem quiet_same {P : Program} {f : FuncId} {args : Array Value} {w : World} {n : Nat} {v : Value}
    (h : Calls P f args (w.drewN n) fun e w' => e = .returned v ∧ w.drewN n = w') : Calls P f args (w.drewN n) fun e w'' => e = .returned v ∧ ∃ m, w'' = w.drewN m :=
  h.mono fun _ _ ⟨he, hm⟩ => ⟨he, n, hm.symm⟩
/-- the worth of a letter, 0 for others -/
def lw (b : UInt8) : Int := match Ta.rank b with | none => 0 | some k => Ta.weight k
theorem l6yWorth_is (b : UInt8) (u : Int) (h : lw b = u) (w : World) : Calls Try.prog 64 #[.int .u8 (b.toNat : Int)] w fun e w' => e = .returned (.int .i64 u) ∧ w = w' := by
  subst h
  by_cases h1 : b = 77
  · subst h1
    go_enter Try.func64, Try.ntmps64
    go_wp2
    go_ret
    exact ⟨rfl, rfl⟩
  by_cases h2 : b = 67
  · subst h2
    go_enter Try.func64, Try.ntmps64
    go_wp2
    go_ret
    exact ⟨rfl, rfl⟩
  by_cases h3 : b = 88
  · subst h3
    go_enter Try.func64, Try.ntmps64
    go_wp2
    go_ret
    exact ⟨rfl, rfl⟩
  by_cases h4 : b = 73
  · subst h4
    go_enter Try.func64, Try.ntmps64
    go_wp2
    go_ret
    exact ⟨rfl, rfl⟩
  have HL := Lib.hid (show lw b = 0 by simp [lw, Ta.rank, h1, h2, h3, h4])
  have e : ∀ k : UInt8, b ≠ k → ((b.toNat : Int) == (k.toNat : Int)) = false := fun k hk => by
    simp only [beq_eq_false_iff_ne, ne_eq, Int.natCast_inj]
    exact fun h => hk (UInt8.toNat_inj.1 h)
  have e1 : ((b.toNat : Int) == 77) = false := e 77 h1
  have e2 : ((b.toNat : Int) == 67) = false := e 67 h2
  have e3 : ((b.toNat : Int) == 88) = false := e 88 h3
  have e4 : ((b.toNat : Int) == 73) = false := e 73 h4
  clear h1 h2 h3 h4 e
  go_enter Try.func64, Try.ntmps64
  go_wp2
  go_ret
  exact ⟨ret_int HL.out.symm, rfl⟩
theorem lw_none {b : UInt8} (h : Ta.rank b = none) : lw b = 0 := by simp [lw, h]
theorem lw_some {b : UInt8} {k : Nat} (h : Ta.rank b = some k) : lw b = Ta.weight k := by simp [lw, h]
theorem rank_inj {a b : UInt8} {k : Nat} (ha : Ta.rank a = some k) (hb : Ta.rank b = some k) : a = b := by
  unfold Ta.rank at ha hb
  repeat' split at ha
  all_goals first | (injection ha with ha) | (cases ha; done)
  all_goals repeat' split at hb
  all_goals first | (injection hb with hb) | (cases hb; done)
  all_goals first | omega | (simp_all; done)
theorem weight_lt {r k : Nat} (hr : r < 4) (hk : k < 4) : Ta.weight r < Ta.weight k ↔ k < r := by
  unfold Ta.weight
  repeat' split
  all_goals omega

theorem run_idx (s : ByteArray) (i : Nat) (b : UInt8) (I : Int) (hI : I = (i : Int)) (hb : s.data.toList[i]? = some b) (w : World) : (Instr.index 9 (.string s) (.int .i64 I)).run Try.prog w = .ok (.int .u8 (b.toNat : Int)) w := by
  subst hI
  obtain ⟨h1, h2⟩ := List.getElem?_eq_some_iff.1 hb
  have hi : i < s.size := by simpa using h1
  rw [run_index_string _ _ _ _ _ Try.underlying9, dif_pos ⟨by omega, by omega⟩]
  have e : s[((i : Int)).toNat]'(by omega) = b := by rw [← h2]; rfl
  rw [e]

set_option maxRecDepth 100000 in
set_option maxHeartbeats 1000000 in
theorem specNotchesValid_any (s : ByteArray) (w : World) (hs : s.size ≤ 1099511627776) : Calls Try.prog 63 #[.string s] w fun e w' => e = .returned (.bool (validB s)) ∧ Below w.heap.size w w' := by
  have hlen : s.data.toList.length = s.size := by simp
  have HLEN := Lib.hid hlen
  clear hlen
  go_enter Try.func63, Try.ntmps63
  go_wp2_with fail
  go_loopw [3, 4] (fun mv iv wr => ∃ (i r m : Nat) (t : Int), i ≤ s.size ∧ iv = .int .i64 (i : Int) ∧ mv = .int .i64 (m : Int) ∧ m ≤ 9 ∧ r < 4 ∧ Ta.worth s.data.toList = Ta.scan (s.data.toList.drop i) r m t ∧ ((i = 0 ∧ r = 0 ∧ m = 0) ∨ (∃ j p, i = j + 1 ∧ s.data.toList[j]? = some p ∧ Ta.rank p = some r)) ∧ Below w.heap.size w wr) (fun _ iv _ => s.size - (intOf iv).toNat)
  case atStart => exact ⟨0, 0, 0, 0, by omega, rfl, rfl, by omega, by omega, rfl, .inl ⟨rfl, rfl, rfl⟩, Below.refl _ _⟩
  case round =>
    obtain ⟨i, r, m, t, hi, rfl, rfl, hm9, hr4, hw, hprev, hb⟩ := hrel
    have HW := Lib.hid hw
    have HB := Lib.hid hb
    clear hw hb
    by_cases hlt : i < s.size
    · obtain ⟨b, hb⟩ : ∃ b, s.data.toList[i]? = some b := ⟨_, List.getElem?_eq_getElem (by have := HLEN.out; omega)⟩
      have hix := run_idx s i b _ rfl hb
      have HBL := Lib.hid hb
      clear hb
      rcases hk : Ta.rank b with _ | k
      · have HNO := Lib.hid (show validB s = false by unfold validB; rw [HW.out, drop_cell HBL.out, Ta.scan_none hk]; rfl)
        have HU := Lib.hid (lw_none hk)
        clear hk
        go_wp2_with fail
        go_quiet ((go_at_call 64; exact quiet_same (l6yWorth_is b 0 HU.out _)))
        go_wp2
        go_ret
        exact ⟨ret_bool HNO.out.symm, by first | exact HB.out | exact below_drewN HB.out _⟩
      have hk4 := Ta.rank_lt hk
      obtain ⟨u, hu⟩ : ∃ u, lw b = u := ⟨_, rfl⟩
      have hu2 : u = Ta.weight k := by rw [← hu, lw_some hk]
      have hu1 := (Ta.weight_bd k).1
      have hz : (u == 0) = false := by simp; omega
      have HU := Lib.hid hu
      rcases hprev with ⟨rfl, rfl, rfl⟩ | ⟨j, p, rfl, hp, hrp⟩
      · have HK := Lib.hid hk
        have hix := run_idx s 0 b 0 rfl HBL.out
        clear hk hu hu2 hu1
        go_wp2_with fail
        go_quiet ((go_at_call 64; exact quiet_same (l6yWorth_is b u HU.out _)))
        go_wp2_with fail
        go_quiet (fail)
        go_wp2_with fail
        refine ⟨⟨1, k, 1, t + Ta.weight k, by omega, rfl, rfl, by omega, hk4, ?_, .inr ⟨0, b, rfl, HBL.out, HK.out⟩, below_drewN HB.out _⟩, by simp [intOf]; omega⟩
        rw [HW.out, drop_cell HBL.out, Ta.scan_on HK.out (by omega) (by split <;> omega)]
        congr 1
        split <;> rfl
      · rw [show ((j + 1 : Nat) : Int) = (j : Int) + 1 from rfl] at hix
        have hixp := run_idx s j p _ rfl hp
        obtain ⟨v, hv⟩ : ∃ v, lw p = v := ⟨_, rfl⟩
        have hv2 : v = Ta.weight r := by rw [← hv, lw_some hrp]
        have hlt2 : v < u ↔ k < r := by rw [hu2, hv2]; exact weight_lt hr4 hk4
        have HV := Lib.hid hv
        have HK := Lib.hid (And.intro hk (And.intro hp hrp))
        clear hv hp hrp hk hu hu2 hv2
        by_cases hkr : k < r
        · have huv : v < u := hlt2.2 hkr
          have HNO := Lib.hid (show validB s = false by unfold validB; rw [HW.out, drop_cell HBL.out, Ta.scan_back HK.out.1 hkr]; rfl)
          clear hkr hlt2
          go_wp2_with fail
          go_quiet (first | (go_at_call_of 64 b; exact quiet_same (l6yWorth_is b u HU.out _)) | (go_at_call_of 64 p; exact quiet_same (l6yWorth_is p v HV.out _)))
          go_wp2
          go_ret
          exact ⟨ret_bool HNO.out.symm, by first | exact HB.out | exact below_drewN HB.out _⟩
        · have huv : ¬ v < u := fun e => hkr (hlt2.1 e)
          have hpb : k = r → p = b := fun e => rank_inj HK.out.2.2 (e ▸ HK.out.1)
          have hpb2 : p = b → k = r := fun e => by
            have := HK.out.2.2
            rw [e, HK.out.1] at this
            injection this
          clear hlt2
          by_cases hkr2 : k = r
          · have hpe := hpb hkr2
            subst hkr2
            subst hpe
            have huv2 : v = u := HV.out.symm.trans HU.out
            clear hpb hpb2
            subst huv2
            by_cases h9 : m = 9
            · subst h9
              have HNO := Lib.hid (show validB s = false by unfold validB; rw [HW.out, drop_cell HBL.out, Ta.scan_many HK.out.1 hkr (by rw [if_pos rfl]; omega)]; rfl)
              clear hkr hu1
              go_wp2_with fail
              go_quiet ((go_at_call_of 64 p; exact quiet_same (l6yWorth_is p v HU.out _)))
              go_wp2_with fail
              go_quiet (fail)
              go_wp2
              go_ret
              exact ⟨ret_bool HNO.out.symm, by first | exact HB.out | exact below_drewN HB.out _⟩
            · have hm8 : ¬ (m : Int) + 1 > 9 := by omega
              have HKR := Lib.hid hkr
              clear hkr hu1
              go_wp2_with fail
              go_quiet ((go_at_call_of 64 p; exact quiet_same (l6yWorth_is p v HU.out _)))
              go_wp2_with fail
              go_quiet (fail)
              go_wp2_with fail
              refine ⟨⟨j + 2, k, m + 1, t + Ta.weight k, by omega, by go_num, by go_num, by omega, hk4, ?_, .inr ⟨j + 1, p, rfl, HBL.out, HK.out.1⟩, below_drewN HB.out _⟩, by simp [intOf]; omega⟩
              rw [HW.out, drop_cell HBL.out, Ta.scan_on HK.out.1 HKR.out (by rw [if_pos rfl]; omega), if_pos rfl]
          · have hpe : p ≠ b := fun e => hkr2 (hpb2 e)
            have hne : ((b.toNat : Int) != (p.toNat : Int)) = true := by
              simp only [bne_iff_ne, ne_eq, Int.natCast_inj]
              exact fun h => hpe (UInt8.toNat_inj.1 h).symm
            have HKR := Lib.hid (And.intro hkr hkr2)
            clear hkr hkr2 hpb hpb2 hpe hu1
            go_wp2_with fail
            go_quiet (first | (go_at_call_of 64 b; exact quiet_same (l6yWorth_is b u HU.out _)) | (go_at_call_of 64 p; exact quiet_same (l6yWorth_is p v HV.out _)))
            go_wp2_with fail
            go_quiet (fail)
            go_wp2_with fail
            refine ⟨⟨j + 2, k, 1, t + Ta.weight k, by omega, by go_num, rfl, by omega, hk4, ?_, .inr ⟨j + 1, b, rfl, HBL.out, HK.out.1⟩, below_drewN HB.out _⟩, by simp [intOf]; omega⟩
            rw [HW.out, drop_cell HBL.out, Ta.scan_on HK.out.1 HKR.out.1 (by rw [if_neg HKR.out.2]; omega), if_neg HKR.out.2]
    · obtain rfl : i = s.size := by omega
      have hd : Ta.worth s.data.toList = some t := by
        rw [HW.out, List.drop_eq_nil_of_le (by have := HLEN.out; omega)]; rfl
      have h36 := (Ta.worth_bd hd).1
      have hs36 : s.size ≤ 36 := by have := HLEN.out; omega
      have HYES := Lib.hid (show validB s = true by unfold validB; rw [hd]; rfl)
      clear hd h36
      go_wp2
      go_ret
      exact ⟨ret_bool (by rw [HYES.out]; simp; omega), HB.out⟩
end Go.Proofs.Ytogplbnabffcfaa
