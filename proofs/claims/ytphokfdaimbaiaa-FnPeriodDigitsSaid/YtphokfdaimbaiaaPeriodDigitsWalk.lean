/-
  FnPeriodDigits returns true for every code: digits come again after a period.
-/
import Derived.Test.YtphokfdaimbaiaaGlPer2
import Derived.Test.YtphokfdaimbaiaaGlDraw
namespace Go.Proofs.Ytphokfdaimbaiaa.fnPeriodDigits
open Go.RowKit

set_option maxRecDepth 100000 in
set_option maxHeartbeats 4000000 in
theorem walk (a0 : Option Addr) (len0 cap0 : Nat) (z0 : List Int) (w : World) (w0 : IsRow .u8 w a0 len0 cap0 z0) :
    Calls Try.prog 7 #[.slice a0 len0 cap0] w fun e w' => e = .returned (.bool true) ∧ Below w.heap.size w w' := by
  by_cases hbig : 1048576 < len0
  · clear w0
    go_enter Try.func7, Try.ntmps7
    go_wp2
    go_ret
    exact ⟨rfl, Below.refl _ _⟩
  · have HC := Lib.hid (Bytes.of_row w0)
    clear w0
    go_enter Try.func7, Try.ntmps7
    go_wp2_with fail
    refine (DrawLongPeriod_any _ _ _ _ HC.out (by omega)).mono ?_
    rintro e w1 ⟨v, rfl, hv0, hv1, hb1⟩
    have HB1 := Lib.hid hb1
    clear hb1
    by_cases hr : v < 1 ∨ 1000 < v
    · have HR := Lib.hid hr
      clear hr
      go_wp2_with fail
      refine (LongPeriod_no v _ HR.out).mono ?_
      rintro e w' ⟨rfl, rfl⟩
      go_wp2_with fail
      refine (specLongPeriod_no v _ HR.out).mono ?_
      rintro e w' ⟨rfl, rfl⟩
      go_wp2
      go_ret
      exact ⟨rfl, HB1.out⟩
    · obtain ⟨m, rfl⟩ := Int.eq_ofNat_of_zero_le (show 0 ≤ v by omega)
      have hm1 : 1 ≤ m := by omega
      have hm2 : m ≤ 1000 := by omega
      clear hr hv0 hv1
      go_wp2_with fail
      refine (LongPeriod_yes m _ hm1 hm2).mono ?_
      rintro e w2 ⟨a, p, rfl, hper, hap, hb2⟩
      have HPER := Lib.hid hper
      clear hper
      have HB2 := Lib.hid (below_chain HB1.out hb2)
      clear hb2
      go_wp2_with fail
      refine (specLongPeriod_yes m _ hm1 hm2).mono ?_
      rintro e w3 ⟨a', p', rfl, hper, hap', hb3⟩
      obtain ⟨rfl, rfl⟩ := Gl.per_unique HPER.out hper
      clear hper hap'
      have HB3 := Lib.hid (below_chain HB2.out hb3)
      clear hb3
      have hlt := Gl.per_lt (show (0 : Int) < (m : Int) by omega) HPER.out
      by_cases hbig : 20 < a + p
      · go_wp2
        go_ret
        exact ⟨ret_bool (by simp <;> omega), HB3.out⟩
      · have hc := fun w => LongDigits_yes (some ⟨w3.heap.size, 0, none⟩) 1 1 [1] (m : Int) 50 w
        have HLIT := Lib.hid (own_lit w3 [1] w3.heap.size 1 rfl (by omega) (Nat.le_refl _)).ints
        have HC2 := Lib.hid (fun w h => hc w h (okD_one hm1 hm2) (by omega))
        clear hc
        have HAT := Lib.hid (fun i (h : i < 50) => dig1_at (n := m) h)
        change Hid (∀ w, _ → Calls _ _ _ _ (PairPost w true (dig1 m))) at HC2
        have HLEN : Hid ((dig1 m).length = 50) := Lib.hid (digsL_length _ _ _)
        generalize dig1 m = ds at *
        go_wp2_with fail
        refine (HC2.out _ HLIT.out).mono ?_
        rintro e w4 ⟨⟨A4, n4, c4, rfl, ho4⟩, hb4⟩
        simp only [if_true] at ho4
        have HB4 := Lib.hid ((HB3.out.alloc HB3.out.size _).trans (hb4.mono (by have := HB3.out.size; simp; omega)))
        clear hb4
        have HI4 := Lib.hid ho4.ints
        clear ho4
        obtain rfl : n4 = 50 := by have h1 := HI4.out.len; have := HLEN.out; omega
        go_wp2_with fail
        go_loopw [12] (fun iv wr => ∃ i : Nat, iv = .int .i64 (i : Int) ∧ a ≤ i ∧ i + p ≤ 50 ∧ Ints wr wr.heap.size A4 50 ds ∧ Below w.heap.size w wr) (fun iv _ => 50 - (intOf iv).toNat)
        case atStart => exact ⟨a, rfl, by omega, by omega, HI4.out, HB4.out⟩
        case round =>
          clear HI4 HB4
          obtain ⟨i, rfl, hai, hip, hi, hb⟩ := hrel
          have HI := Lib.hid hi
          have HB := Lib.hid hb
          clear hi hb
          by_cases hlt2 : i + p < 50
          · obtain ⟨b, off, u, rfl, hub, hu, hcu⟩ := HI.out.at_ (show i < 50 by omega)
            obtain ⟨b2, off2, u2, hb2, hub2, hu2, hcu2⟩ := HI.out.at_ hlt2
            obtain ⟨rfl, rfl⟩ : b = b2 ∧ off = off2 := by simpa using hb2
            rw [HAT.out i (by omega)] at hu
            rw [HAT.out (i + p) hlt2] at hu2
            have hag := dig1_again HPER.out hai
            rw [hag.1, hu] at hu2
            obtain rfl : u = u2 := by simpa using hu2
            have s1 : IntKind.i64.wrap ((i : Int) + (p : Int)) = (i : Int) + (p : Int) := IntWalk.i64_in _ (by omega)
            have s2 : ((i : Int) + (p : Int)).toNat = i + p := by omega
            have s3 : 0 ≤ (i : Int) + (p : Int) := by omega
            have s4 : (i : Int) + (p : Int) < 50 := by omega
            have s5 : (i : Int) < 50 := by omega
            by_cases hp : p = 0
            · have hp1 : ((p : Int) == 0) = true := by simp; omega
              have hz := hag.2 hp
              rw [hz] at hu
              obtain rfl : u = 0 := by simp at hu; omega
              clear hz hu hu2 hag hp hb2
              go_wp2_with fail
              go_quiet (fail)
              clear s1 s2 s3 s4 s5
              go_wp2
              go_roundw
              case rel => exact ⟨i + 1, by go_num, by omega, by omega, ints_same HI.out rfl, below_drewN HB.out _⟩
              case measure => simp [intOf]; omega
            · have hp1 : ((p : Int) == 0) = false := by simp; omega
              clear hu hu2 hag hp hb2
              go_wp2_with fail
              go_quiet (fail)
              clear s1 s2 s3 s4 s5
              go_wp2
              go_roundw
              case rel => exact ⟨i + 1, by go_num, by omega, by omega, ints_same HI.out rfl, below_drewN HB.out _⟩
              case measure => simp [intOf]; omega
          · go_wp2
            go_ret
            exact ⟨rfl, HB.out⟩
end Go.Proofs.Ytphokfdaimbaiaa.fnPeriodDigits
