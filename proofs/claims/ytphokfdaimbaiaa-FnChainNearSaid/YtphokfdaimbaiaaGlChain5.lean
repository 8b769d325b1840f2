/-
  The draw of two integers and a number of quotients.
-/
import Derived.Test.YtphokfdaimbaiaaGlChainD
import Derived.Test.YtphokfdaimbaiaaGlChain4
namespace Go.Proofs.Ytphokfdaimbaiaa
open Go.RowKit

theorem ch_short {a b : Int} (h : okC a b = true) : (Gl.ch a b).length ≤ 61 := ch_len (a := a) ((okC_iff a b).1 h).2.1.1 ((okC_iff a b).1 h).2.1.2

set_option maxRecDepth 100000 in
set_option maxHeartbeats 2000000 in
theorem DrawChainNear_any (A : Option Addr) (n c : Nat) (w : World) (h : Bytes w w.heap.size A n c) (hn : n ≤ 1048576) :
    Calls Try.prog 41 #[.slice A n c] w fun e w' => ∃ a b k, e = .returned (.tuple #[.int .i64 a, .int .i64 b, .int .i64 k]) ∧ -1 ≤ k ∧ k ≤ 100 ∧ Below w.heap.size w w' := by
  have H := Lib.hid h
  clear h
  go_enter Try.func41, Try.ntmps41
  go_wp2_with fail
  refine (l6Open_any _ _ _ _ H.out hn).mono ?_
  rintro e w0 ⟨rfl, hrd, hb⟩
  have HB := Lib.hid hb
  have hlt := hrd.lt
  have HR := Lib.hid hrd
  clear hrd hb
  go_wp2_with fail
  refine (l92Chain_any _ _ _ _ HR.out (by omega)).mono ?_
  rintro e w1 ⟨a, b, q1, rfl, hrd1, hq1, hg1⟩
  have hsz1 := hg1.size
  replace HB := Lib.hid (HB.out.trans (base_in hg1 (Nat.le_refl _) (by omega)))
  replace HR := Lib.hid hrd1
  clear hrd1 hg1
  go_wp2_with fail
  refine (specChainOf_any a b _).mono ?_
  rintro e w2 ⟨⟨A2, n2, c2, rfl, ho2⟩, hb2⟩
  have hn2 : n2 ≤ 61 := by
    have := ho2.len
    split at this
    · next hok => have := ch_short hok; omega
    · simp at this; omega
  have hsz2 := hb2.size
  have HR2 : Hid (Rd w2 w.heap.size w.heap.size q1) := Lib.hid (HR.out.grown (grown_of_below hb2 none) (by simp))
  have HB2 : Hid (Below w.heap.size w w2) := Lib.hid (HB.out.trans (hb2.mono (by omega)))
  clear hb2 ho2 HR HB
  generalize okC a b = ok
  go_wp2_with fail
  refine (pick_any _ _ _ _ _ HR2.out (by omega)).mono ?_
  rintro e w3 ⟨v3, rfl, hv3, hrd3, hg3⟩
  obtain ⟨hva3, hvb3⟩ := hv3 (by omega)
  have hsz3 := hg3.size
  clear hv3
  obtain ⟨j3, rfl⟩ := Int.eq_ofNat_of_zero_le hva3
  replace HB2 := Lib.hid (HB2.out.trans (base_in hg3 (Nat.le_refl _) (by omega)))
  replace HR2 := Lib.hid hrd3
  clear hrd3 hg3
  go_wp2_with fail
  refine (pick_any _ _ _ _ _ HR2.out (by omega)).mono ?_
  rintro e w4 ⟨v4, rfl, hv4, hrd4, hg4⟩
  obtain ⟨hva4, hvb4⟩ := hv4 (by omega)
  have hsz4 := hg4.size
  clear hv4
  obtain ⟨j4, rfl⟩ := Int.eq_ofNat_of_zero_le hva4
  replace HB2 := Lib.hid (HB2.out.trans (base_in hg4 (Nat.le_refl _) (by omega)))
  replace HR2 := Lib.hid hrd4
  clear hrd4 hg4
  go_wp2_with fail
  refine (pick_any _ _ _ _ _ HR2.out (by omega)).mono ?_
  rintro e w5 ⟨v5, rfl, hv5, hrd5, hg5⟩
  obtain ⟨hva5, hvb5⟩ := hv5 (by omega)
  clear hv5
  obtain ⟨j5, rfl⟩ := Int.eq_ofNat_of_zero_le hva5
  replace HB2 := Lib.hid (HB2.out.trans (base_in hg5 (Nat.le_refl _) (by omega)))
  clear hrd5 hg5 HR2
  go_wp2
  refine bodyPost_ret (results_tmp3 rfl _ _ _) rfl ?_
  exact ⟨_, _, _, rfl, by omega, by omega, HB2.out⟩
end Go.Proofs.Ytphokfdaimbaiaa
