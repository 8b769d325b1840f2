/-
  The law's sameTallies.
-/
import Derived.Test.YtogplbnabffcfaaTaLaw
import Derived.BigQuiet
import Derived.Laws.StructEq
namespace Go.Proofs.Ytogplbnabffcfaa
open Go.RowKit
set_option linter.unusedSimpArgs false

noncomputable def sameT (ts us : List Tl) : Bool := @decide (ts = us) (Classical.propDecidable _)
theorem sameT_yes {ts us : List Tl} (h : ts = us) : sameT ts us = true := by unfold sameT; exact @decide_eq_true _ (Classical.propDecidable _) h
theorem sameT_no {ts us : List Tl} (h : ts ≠ us) : sameT ts us = false := by unfold sameT; exact @decide_eq_false _ (Classical.propDecidable _) h
theorem sameT_iff {ts us : List Tl} : sameT ts us = true ↔ ts = us := ⟨fun h => (by
  by_cases e : ts = us
  · exact e
  · rw [sameT_no e] at h; cases h), sameT_yes⟩
theorem at_neT {ts us : List Tl} {k : Nat} {t u : Tl} (h1 : ts[k]? = some t) (h2 : us[k]? = some u) (h : t ≠ u) : sameT ts us = false := sameT_no (fun e => h (by rw [e, h2] at h1; injection h1 with h1; exact h1.symm))
theorem str_eqB {a b : ByteArray} (h : a = b) : (a.toList == b.toList) = true := by subst h; simp
theorem str_neB {a b : ByteArray} (h : a ≠ b) : (a.toList == b.toList) = false := by rw [str_eq]; exact decide_eq_false h
set_option maxRecDepth 100000 in
set_option maxHeartbeats 2000000 in
theorem sameTallies_any (A A2 : Option Addr) (n m c c2 : Nat) (ts us : List Tl) (w : World) (h1 : Tals w w.heap.size A n ts) (h2 : Tals w w.heap.size A2 m us) : Calls Try.prog 9 #[.slice A n c, .slice A2 m c2] w fun e w' => e = .returned (.bool (sameT ts us)) ∧ Below w.heap.size w w' := by
  have l1 := h1.len
  have l2 := h2.len
  have hn40 := h1.2.1
  have H1 := Lib.hid h1
  have H2 := Lib.hid h2
  have L1 := Lib.hid l1
  have L2 := Lib.hid l2
  clear h1 h2 l1 l2
  by_cases hnm : n = m
  rotate_left
  · have hne : ((n : Int) != (m : Int)) = true := by simp; omega
    have hno : sameT ts us = false := sameT_no (fun e => hnm (by rw [← L1.out, ← L2.out, e]))
    have HNO := Lib.hid hno
    clear hno
    go_enter Try.func9, Try.ntmps9
    go_wp2
    go_ret
    exact ⟨ret_bool HNO.out.symm, Below.refl _ _⟩
  subst hnm
  have hne : ((n : Int) != (n : Int)) = false := by simp
  go_enter Try.func9, Try.ntmps9
  go_wp2_with fail
  go_loopw [5] (fun iv wr => ∃ (k q : Nat), k ≤ n ∧ iv = .int .i64 (k : Int) ∧ wr = w.drewN q ∧ ts.take k = us.take k) (fun iv _ => n - (intOf iv).toNat)
  case atStart => exact ⟨0, 0, by omega, rfl, rfl, by simp⟩
  case round =>
    obtain ⟨k, q, hk, rfl, hwr, heq⟩ := hrel
    have HWR := Lib.hid hwr
    have HEQ := Lib.hid heq
    clear hwr heq
    by_cases hlt : k < n
    · obtain ⟨b, off, t, rfl, hlb, ht, k0, k1, k2, k3⟩ := Tals.at_ (show Tals wr w.heap.size A n ts from by rw [HWR.out]; exact H1.out) hlt
      obtain ⟨b', off', t', rfl, hlb', ht', j0, j1, j2, j3⟩ := Tals.at_ (show Tals wr w.heap.size A2 n us from by rw [HWR.out]; exact H2.out) hlt
      have HT := Lib.hid (And.intro ht ht')
      obtain ⟨a, cc, s, f⟩ := t
      obtain ⟨a', cc', s', f'⟩ := t'
      simp only at k0 k1 k2 k3 j0 j1 j2 j3
      clear ht ht'
      by_cases h1 : a = a'
      rotate_left
      · have HNO := Lib.hid (at_neT HT.out.1 HT.out.2 (fun e => h1 (by injection e)))
        have hb1 : (a == a') = false := by simpa using h1
        clear h1
        go_wp2_with fail
        go_quiet (fail)
        go_wp2
        go_ret
        exact ⟨ret_bool HNO.out.symm, by rw [HWR.out]; exact below_drewN (below_drewN (Below.refl _ _) _) _⟩
      subst h1
      by_cases h2 : cc = cc'
      rotate_left
      · have HNO := Lib.hid (at_neT HT.out.1 HT.out.2 (fun e => h2 (by injection e)))
        have hb2 : (cc == cc') = false := by simpa using h2
        clear h2
        go_wp2_with fail
        go_quiet (fail)
        go_wp2
        go_ret
        exact ⟨ret_bool HNO.out.symm, by rw [HWR.out]; exact below_drewN (below_drewN (Below.refl _ _) _) _⟩
      subst h2
      by_cases h3 : s = s'
      rotate_left
      · have HNO := Lib.hid (at_neT HT.out.1 HT.out.2 (fun e => h3 (by injection e)))
        have hb3 : (s.toList == s'.toList) = false := str_neB h3
        clear h3
        go_wp2_with fail
        go_quiet (fail)
        go_wp2
        go_ret
        exact ⟨ret_bool HNO.out.symm, by rw [HWR.out]; exact below_drewN (below_drewN (Below.refl _ _) _) _⟩
      subst h3
      by_cases h4 : f = f'
      rotate_left
      · have HNO := Lib.hid (at_neT HT.out.1 HT.out.2 (fun e => h4 (by injection e)))
        have hb4 : (f.toList == f'.toList) = false := str_neB h4
        clear h4
        go_wp2_with fail
        go_quiet (fail)
        go_wp2
        go_ret
        exact ⟨ret_bool HNO.out.symm, by rw [HWR.out]; exact below_drewN (below_drewN (Below.refl _ _) _) _⟩
      subst h4
      go_wp2_with fail
      go_quiet (fail)
      go_wp2_with fail
      exact ⟨⟨k + 1, _, by omega, by go_num, by rw [HWR.out]; simp only [World.drewN_drewN]; exact rfl, by rw [take_next HT.out.1, take_next HT.out.2, HEQ.out]⟩, by simp [intOf]; omega⟩
    · obtain rfl : k = n := by omega
      have hy : sameT ts us = true := sameT_yes (by
        have := HEQ.out
        rwa [List.take_of_length_le (by have := L1.out; omega), List.take_of_length_le (by have := L2.out; omega)] at this)
      have HY := Lib.hid hy
      clear hy
      go_wp2
      go_ret
      exact ⟨ret_bool HY.out.symm, by rw [HWR.out]; exact below_drewN (Below.refl _ _) _⟩
end Go.Proofs.Ytogplbnabffcfaa
