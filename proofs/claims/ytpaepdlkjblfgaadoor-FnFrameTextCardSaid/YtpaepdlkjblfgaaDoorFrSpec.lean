/-
  Frames of the reference: validity, digits, values, powers of ten, pushes.
-/
import Derived.Test.YtpaepdlkjblfgaaDoorFrFns2
namespace Go.Proofs.YtpaepdlkjblfgaaDoor
open Go.RowKit

set_option maxRecDepth 100000 in
set_option maxHeartbeats 1000000 in
theorem specFrameValid_yes (A A' : Option Addr) (n c c' : Nat) (ds : List Int) (w : World) (hx : Ints w w.heap.size A n (HiL ds)) (hy : Ints w w.heap.size A' n (LoL ds)) (hds : Fr.Digs ds) (h1 : 1 ≤ n) (h6 : n ≤ 6) :
    Calls Tryd.prog 13 #[.agg #[.slice A n c, .slice A' n c']] w fun e w' => e = .returned (.bool true) ∧ Below w.heap.size w w' := by
  have HX := Lib.hid hx
  have HY := Lib.hid hy
  have HD := Lib.hid hds
  have hb0 := Box.new w (.slice A n c) (.slice A' n c')
  have HB := Lib.hid ((Below.refl w.heap.size w).alloc (Nat.le_refl _) (.cells #[.slice A n c, .slice A' n c'] 25))
  clear hx hy hds hb0
  go_enter Tryd.func13, Tryd.ntmps13
  go_wp2_with fail
  refine (l6In_yes (by omega) (by omega) _).mono ?_
  rintro e w' ⟨rfl, rfl⟩
  go_wp2_with fail
  go_loop [4] (fun iv => ∃ (j : Nat), j ≤ n ∧ iv = .int .i64 (j : Int)) (fun iv => n - (intOf iv).toNat)
  case atStart => exact ⟨0, by omega, rfl⟩
  case round =>
    obtain ⟨j, hj, rfl⟩ := hrel
    by_cases hlt : j < n
    · obtain ⟨b2, off2, u2, rfl, hlb2, hu2, hc2⟩ := (HX.out.al (.cells #[.slice A n c, .slice A' n c'] 25)).at_ hlt
      obtain ⟨d, hd, rfl⟩ := HiL_get hu2
      obtain ⟨b3, off3, u3, rfl, hlb3, hu3, hc3⟩ := (HY.out.al (.cells #[.slice (some ⟨b2, off2, none⟩) n c, .slice A' n c'] 25)).at_ hlt
      rw [LoL_get hd] at hu3
      obtain rfl : d % 5 = u3 := by simpa using hu3
      obtain ⟨d0, d9⟩ := HD.out d (List.mem_of_getElem? hd)
      clear hu2 hu3 hd
      go_wp2_with fail
      refine (l6In_yes (by omega) (by omega) _).mono ?_
      rintro e w' ⟨rfl, rfl⟩
      go_wp2_with fail
      refine (l6In_yes (by omega) (by omega) _).mono ?_
      rintro e w' ⟨rfl, rfl⟩
      go_wp2
      go_round
      case rel => exact ⟨j + 1, by omega, by go_num⟩
      case measure => simp [intOf]; omega
    · go_wp2
      go_ret
      exact ⟨rfl, HB.out⟩
set_option maxRecDepth 100000 in
set_option maxHeartbeats 1000000 in
theorem specFrameValid_no (A A' : Option Addr) (n m c c' : Nat) (hs ls : List Int) (w : World) (hx : Ints w w.heap.size A n hs) (hy : Ints w w.heap.size A' m ls) (hno : ¬ FrOk hs ls) :
    Calls Tryd.prog 13 #[.agg #[.slice A n c, .slice A' m c']] w fun e w' => e = .returned (.bool false) ∧ Below w.heap.size w w' := by
  have hlx := hx.len
  have hly := hy.len
  have hbd := hx.bound
  have HX := Lib.hid hx
  have HY := Lib.hid hy
  have HN := Lib.hid hno
  have HLX := Lib.hid hlx
  have HLY := Lib.hid hly
  have HB := Lib.hid ((Below.refl w.heap.size w).alloc (Nat.le_refl _) (.cells #[.slice A n c, .slice A' m c'] 25))
  clear hx hy hno hlx hly
  by_cases h16 : 1 ≤ n ∧ n ≤ 6
  · obtain ⟨h1, h6⟩ := h16
    by_cases hnm : n = m
    · subst hnm
      go_enter Tryd.func13, Tryd.ntmps13
      go_wp2_with fail
      refine (l6In_yes (by omega) (by omega) _).mono ?_
      rintro e w' ⟨rfl, rfl⟩
      go_wp2_with fail
      go_loop [4] (fun iv => ∃ (j : Nat), j ≤ n ∧ iv = .int .i64 (j : Int) ∧ Hid (∀ i : Nat, i < j → ∀ a b : Int, hs[i]? = some a → ls[i]? = some b → 0 ≤ a ∧ a ≤ 1 ∧ 0 ≤ b ∧ b ≤ 4)) (fun iv => n - (intOf iv).toNat)
      case atStart => exact ⟨0, by omega, rfl, Lib.hid (fun i hi => absurd hi (Nat.not_lt_zero i))⟩
      case round =>
        obtain ⟨j, hj, rfl, HA⟩ := hrel
        by_cases hlt : j < n
        · obtain ⟨b2, off2, u2, rfl, hlb2, hu2, hc2⟩ := (HX.out.al (.cells #[.slice A n c, .slice A' n c'] 25)).at_ hlt
          obtain ⟨b3, off3, u3, rfl, hlb3, hu3, hc3⟩ := (HY.out.al (.cells #[.slice (some ⟨b2, off2, none⟩) n c, .slice A' n c'] 25)).at_ hlt
          have HU2 := Lib.hid hu2
          have HU3 := Lib.hid hu3
          clear hu2 hu3
          by_cases hh : 0 ≤ u2 ∧ u2 ≤ 1
          · obtain ⟨hi0, hi1⟩ := hh
            by_cases hl : 0 ≤ u3 ∧ u3 ≤ 4
            · obtain ⟨lo0, lo1⟩ := hl
              go_wp2_with fail
              refine (l6In_yes (by omega) (by omega) _).mono ?_
              rintro e w' ⟨rfl, rfl⟩
              go_wp2_with fail
              refine (l6In_yes (by omega) (by omega) _).mono ?_
              rintro e w' ⟨rfl, rfl⟩
              go_wp2
              go_round
              case rel =>
                refine ⟨j + 1, by omega, by go_num, Lib.hid fun i hi a b ha hb => ?_⟩
                rcases (show i < j ∨ i = j from by omega) with h | rfl
                · exact HA.out i h a b ha hb
                · rw [HU2.out] at ha
                  rw [HU3.out] at hb
                  injection ha with ha
                  injection hb with hb
                  subst ha
                  subst hb
                  exact ⟨hi0, hi1, lo0, lo1⟩
              case measure => simp [intOf]; omega
            · go_wp2_with fail
              refine (l6In_yes (by omega) (by omega) _).mono ?_
              rintro e w' ⟨rfl, rfl⟩
              go_wp2_with fail
              refine (l6In_no (by omega) _).mono ?_
              rintro e w' ⟨rfl, rfl⟩
              go_wp2
              go_ret
              exact ⟨rfl, HB.out⟩
          · go_wp2_with fail
            refine (l6In_no (by omega) _).mono ?_
            rintro e w' ⟨rfl, rfl⟩
            go_wp2
            go_ret
            exact ⟨rfl, HB.out⟩
        · exfalso
          obtain rfl : j = n := by omega
          exact HN.out (FrOk_of' HLX.out HLY.out h1 h6 HA.out)
    · have hne : ((m : Int) != (n : Int)) = true := by simp; omega
      clear hnm
      go_enter Tryd.func13, Tryd.ntmps13
      go_wp2_with fail
      refine (l6In_yes (by omega) (by omega) _).mono ?_
      rintro e w' ⟨rfl, rfl⟩
      go_wp2
      go_ret
      exact ⟨rfl, HB.out⟩
  · go_enter Tryd.func13, Tryd.ntmps13
    go_wp2_with fail
    refine (l6In_no (by omega) _).mono ?_
    rintro e w' ⟨rfl, rfl⟩
    go_wp2
    go_ret
    exact ⟨rfl, HB.out⟩

set_option maxRecDepth 100000 in
set_option maxHeartbeats 1000000 in
theorem specFrameDigit_any (A A' : Option Addr) (n m c c' : Nat) (hs ls : List Int) (k R : Int) (w : World) (hx : Ints w w.heap.size A n hs) (hy : Ints w w.heap.size A' m ls) (hR : frIs hs ls (fun ds => digAt ds k) (-1) R) :
    Calls Tryd.prog 15 #[.agg #[.slice A n c, .slice A' m c'], .int .i64 k] w fun e w' => e = .returned (.int .i64 R) ∧ Below w.heap.size w w' := by
  rcases hR with ⟨hno, rfl⟩ | ⟨ds, hds, rfl, rfl, h1, h6, rfl⟩
  · have HX := Lib.hid hx
    have HY := Lib.hid hy
    have HN := Lib.hid hno
    clear hx hy hno
    go_enter Tryd.func15, Tryd.ntmps15
    go_wp2_with fail
    refine (specFrameValid_no A A' n m c c' hs ls _ (HX.out.al _) (HY.out.al _) HN.out).mono ?_
    rintro e w1 ⟨rfl, hb1⟩
    have HB := Lib.hid (((Below.refl w.heap.size w).alloc (Nat.le_refl _) _).trans (hb1.mono (by simp)))
    clear hb1
    go_wp2
    go_ret
    exact ⟨rfl, HB.out⟩
  · obtain rfl : ds.length = n := by have := hx.len; rwa [HiL_length] at this
    obtain rfl : ds.length = m := by have := hy.len; rwa [LoL_length] at this
    have HX := Lib.hid hx
    have HY := Lib.hid hy
    have HD := Lib.hid hds
    obtain ⟨n, hn⟩ : ∃ n, ds.length = n := ⟨_, rfl⟩
    rw [hn] at h1 h6
    obtain ⟨R, hR⟩ : ∃ R, digAt ds k = R := ⟨_, rfl⟩
    show Calls _ _ _ _ fun e w' => e = .returned (.int .i64 (digAt ds k)) ∧ Below w.heap.size w w'
    rw [hR, hn]
    rw [hn] at HX HY
    have HN := Lib.hid hn
    have HE := Lib.hid hR
    clear hx hy hds hn hR
    go_enter Tryd.func15, Tryd.ntmps15
    go_wp2_with fail
    refine (specFrameValid_yes A A' n c c' ds _ (HX.out.al _) (HY.out.al _) HD.out h1 h6).mono ?_
    rintro e w1 ⟨rfl, hb1⟩
    have hbx := (Box.new w (.slice A n c) (.slice A' n c')).next hb1
    have hb0 := hbx.fst
    have hb2 := hbx.snd
    have HX1 := Lib.hid ((HX.out.al _).next hb1)
    have HY1 := Lib.hid ((HY.out.al _).next hb1)
    have HB := Lib.hid (((Below.refl w.heap.size w).alloc (Nat.le_refl _) _).trans (hb1.mono (by simp)))
    clear hb1 hbx
    by_cases hk : 0 ≤ k ∧ k < (n : Int)
    · obtain ⟨k0, k1⟩ := hk
      obtain ⟨j, rfl⟩ := Int.eq_ofNat_of_zero_le k0
      obtain ⟨b2, off2, u2, rfl, hlb2, hu2, hc2⟩ := HX1.out.at_ (k := j) (by omega)
      obtain ⟨d, hd, rfl⟩ := HiL_get hu2
      obtain ⟨b3, off3, u3, rfl, hlb3, hu3, hc3⟩ := HY1.out.at_ (k := j) (by omega)
      rw [LoL_get hd] at hu3
      obtain rfl : d % 5 = u3 := by simpa using hu3
      obtain ⟨d0, d9⟩ := HD.out d (List.mem_of_getElem? hd)
      have he := HE.out
      rw [digAt_in hd] at he
      subst he
      have p0 : 0 ≤ d / 5 ∧ d / 5 ≤ 1 := by omega
      have p1 : 0 ≤ d % 5 ∧ d % 5 ≤ 4 := by omega
      have e0 : 5 * (d / 5) + d % 5 = d := by omega
      obtain ⟨u, hu⟩ : ∃ u, d / 5 = u := ⟨_, rfl⟩
      obtain ⟨v, hv⟩ : ∃ v, d % 5 = v := ⟨_, rfl⟩
      rw [hu] at p0 hc2 e0
      rw [hv] at p1 hc3 e0
      obtain ⟨p00, p01⟩ := p0
      obtain ⟨p10, p11⟩ := p1
      have HE0 := Lib.hid e0
      clear hu hv e0 hu2 hu3 hd HE d0 d9
      have s1 : IntKind.i64.wrap (5 * u) = 5 * u := IntWalk.i64_in _ (by omega)
      have s2 : IntKind.i64.wrap (5 * u + v) = 5 * u + v := IntWalk.i64_in _ (by omega)
      go_wp2_with fail
      refine (l6In_yes (by omega) (by omega) _).mono ?_
      rintro e w' ⟨rfl, rfl⟩
      go_wp2_with fail
      go_quiet (fail)
      go_wp2
      go_ret
      exact ⟨ret_int HE0.out, below_drewN HB.out _⟩
    · have he := HE.out
      rw [digAt_out (by rw [HN.out]; exact hk)] at he
      subst he
      go_wp2_with fail
      refine (l6In_no (by omega) _).mono ?_
      rintro e w' ⟨rfl, rfl⟩
      go_wp2
      go_ret
      exact ⟨rfl, HB.out⟩
end Go.Proofs.YtpaepdlkjblfgaaDoor
