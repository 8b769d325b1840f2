/-
  The exact laws' heldTallyS.
-/
import Derived.Test.YtogplbnabffcfaaTaEx3
namespace Go.Proofs.Ytogplbnabffcfaa
open Go.RowKit
set_option linter.unusedSimpArgs false

theorem str_same (s : ByteArray) : (s.toList == s.toList) = true := by simp
set_option maxRecDepth 100000 in
set_option maxHeartbeats 2000000 in
theorem heldTallyS_any (A : Option Addr) (n c k : Nat) (w : World) (h : Tals w w.heap.size A n (mkTs k n)) (hn : n ≤ 1048576) (hk1 : 1 ≤ k) (hk2 : k ≤ 1000) : Calls Try.prog 18 #[.slice A n c, .int .i64 (k : Int)] w fun e w' => e = .returned (.int .i64 ((k + 4 * n : Nat) : Int)) ∧ Below w.heap.size w w' := by
  have H := Lib.hid h
  clear h
  go_enter Try.func18, Try.ntmps18
  go_wp2_with fail
  go_loopw [1, 5] (fun kv iv wr => ∃ (i K : Nat), i ≤ n ∧ K = k + 4 * i ∧ iv = .int .i64 (i : Int) ∧ kv = .int .i64 (K : Int) ∧ Below w.heap.size w wr) (fun _ iv _ => n - (intOf iv).toNat)
  case atStart => exact ⟨0, k, by omega, by omega, rfl, rfl, Below.refl _ _⟩
  case round =>
    obtain ⟨i, K, hi, hK, rfl, rfl, hb⟩ := hrel
    have hKb : K ≤ 10000000 := by omega
    have hK1 : 1 ≤ K := by omega
    have HK := Lib.hid hK
    have HB := Lib.hid hb
    clear hK hb
    by_cases hlt : i < n
    · obtain ⟨b, off, t, rfl, hlb, ht, c0, c1, c2, c3⟩ := Tals.at_ (show Tals wr w.heap.size A n (mkTs k n) from H.out.below HB.out) hlt
      have htt : t = mkT K := by rw [mkTs_at hlt] at ht; injection ht with ht; rw [← ht, HK.out]
      subst htt
      obtain ⟨s, hs⟩ : ∃ s, mt (K + 2) = s := ⟨_, rfl⟩
      obtain ⟨f, hf⟩ : ∃ f, mt (K + 3) = f := ⟨_, rfl⟩
      have k0 : wr.cell? ⟨b, off + i * 4, none⟩ = some (.int .i64 (K : Int)) := c0
      have k1 : wr.cell? ⟨b, off + i * 4 + 1, none⟩ = some (.int .i64 ((K : Int) + 1)) := c1
      have k2 : wr.cell? ⟨b, off + i * 4 + 2, none⟩ = some (.string (mt (K + 2))) := c2
      have k3 : wr.cell? ⟨b, off + i * 4 + 3, none⟩ = some (.string (mt (K + 3))) := c3
      clear c0 c1 c2 c3
      rw [hs] at k2
      rw [hf] at k3
      have hbw : b < wr.heap.size := Nat.lt_of_lt_of_le hlb HB.out.size
      have HM2 := Lib.hid (show ∀ w, Calls Try.prog 31 #[.int .i64 ((K : Int) + 2)] w fun e w' => e = .returned (.string s) ∧ Below w.heap.size w w' from fun w => by rw [← hs]; exact markText_is (K + 2) _ (by omega) (by omega) (by omega) w)
      have HM3 := Lib.hid (show ∀ w, Calls Try.prog 31 #[.int .i64 ((K : Int) + 3)] w fun e w' => e = .returned (.string f) ∧ Below w.heap.size w w' from fun w => by rw [← hf]; exact markText_is (K + 3) _ (by omega) (by omega) (by omega) w)
      have hss := str_same s
      have hff := str_same f
      clear ht hs hf
      go_wp2_with fail
      go_region_with (go_at_call 31; refine (HM2.out _).mono ?_; rintro e w2 ⟨rfl, hb2⟩; have c2 : w2.cell? ⟨b, off + i * 4 + 2, none⟩ = some (.string s) := (hb2.cell (p := ⟨b, off + i * 4 + 2, none⟩) hbw).trans k2; have c3 : w2.cell? ⟨b, off + i * 4 + 3, none⟩ = some (.string f) := (hb2.cell (p := ⟨b, off + i * 4 + 3, none⟩) hbw).trans k3; have HB2 := Lib.hid hb2; clear hb2)
      all_goals go_wp2_with fail
      all_goals go_region_with (go_at_call 31; refine (HM3.out _).mono ?_; rintro e w5 ⟨rfl, hb5⟩; have c5 : w5.cell? ⟨b, off + i * 4 + 3, none⟩ = some (.string f) := (hb5.cell (p := ⟨b, off + i * 4 + 3, none⟩) (Nat.lt_of_lt_of_le hbw HB2.out.size)).trans c3; have HB5 := Lib.hid hb5; clear hb5)
      all_goals go_wp2_with fail
      all_goals
        have hbl : Below w.heap.size w w5 := HB.out.trans (((below_drewN (Below.refl wr.heap.size wr) 1).trans ((HB2.out.mono (Nat.le_refl _)).trans (((below_drewN (Below.refl w2.heap.size w2) 1).trans HB5.out).mono HB2.out.size))).mono HB.out.size)
        exact ⟨⟨i + 1, K + 4, by omega, by have := HK.out; omega, by go_num, by go_num, hbl⟩, by simp [intOf]; omega⟩
    · have hie : i = n := by omega
      have HF := Lib.hid (show K = k + 4 * n by rw [HK.out, hie])
      clear hie
      go_wp2
      go_ret
      exact ⟨ret_int (by rw [HF.out]), HB.out⟩
end Go.Proofs.Ytogplbnabffcfaa
