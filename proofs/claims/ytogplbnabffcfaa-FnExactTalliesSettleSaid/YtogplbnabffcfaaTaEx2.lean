/-
  The exact laws' eqTallyS, markTallyS, heldTallyS.
-/
import Derived.Test.YtogplbnabffcfaaTaEx
import Derived.Test.YtogplbnabffcfaaTaMark
import Derived.Test.YtogplbnabffcfaaTaSame
import Derived.Deep.RegionHeld3
namespace Go.Proofs.Ytogplbnabffcfaa
open Go.RowKit
set_option linter.unusedSimpArgs false

noncomputable def sameTl (t u : Tl) : Bool := @decide (t = u) (Classical.propDecidable _)
theorem sameTl_yes {t u : Tl} (h : t = u) : sameTl t u = true := by unfold sameTl; exact @decide_eq_true _ (Classical.propDecidable _) h
theorem sameTl_no {t u : Tl} (h : t ≠ u) : sameTl t u = false := by unfold sameTl; exact @decide_eq_false _ (Classical.propDecidable _) h
theorem str_neb {a b : ByteArray} (h : a ≠ b) : (a.toList != b.toList) = true := by have := str_neB h; simp only [bne, this]; rfl
set_option maxRecDepth 100000 in
set_option maxHeartbeats 1000000 in
theorem eqTally_any (t u : Tl) (w : World) : Calls Try.prog 30 #[t.val, u.val] w fun e w' => e = .returned (.bool (sameTl t u)) ∧ Below w.heap.size w w' := by
  obtain ⟨a, c, s, f⟩ := t
  obtain ⟨a', c', s', f'⟩ := u
  show Calls Try.prog 30 #[.agg #[.int .i64 a, .int .i64 c, .string s, .string f], .agg #[.int .i64 a', .int .i64 c', .string s', .string f']] w _
  have HB := Lib.hid (show ∀ o o', Below w.heap.size w ((w.alloc o).alloc o') from fun o o' => ((Below.refl _ _).alloc (Nat.le_refl _) o).alloc (by simp) o')
  by_cases h1 : a = a'
  rotate_left
  · have hb1 : (a != a') = true := by simpa using h1
    have HNO := Lib.hid (show sameTl ⟨a, c, s, f⟩ ⟨a', c', s', f'⟩ = false from sameTl_no (fun e => h1 (by injection e)))
    clear h1
    go_enter Try.func30, Try.ntmps30
    go_wp2
    go_ret
    exact ⟨ret_bool HNO.out.symm, HB.out _ _⟩
  subst h1
  by_cases h2 : c = c'
  rotate_left
  · have hb2 : (c != c') = true := by simpa using h2
    have HNO := Lib.hid (show sameTl ⟨a, c, s, f⟩ ⟨a, c', s', f'⟩ = false from sameTl_no (fun e => h2 (by injection e)))
    clear h2
    go_enter Try.func30, Try.ntmps30
    go_wp2
    go_ret
    exact ⟨ret_bool HNO.out.symm, HB.out _ _⟩
  subst h2
  by_cases h3 : s = s'
  rotate_left
  · have hb3 : (s.toList == s'.toList) = false := str_neB h3
    have HNO := Lib.hid (show sameTl ⟨a, c, s, f⟩ ⟨a, c, s', f'⟩ = false from sameTl_no (fun e => h3 (by injection e)))
    clear h3
    go_enter Try.func30, Try.ntmps30
    go_wp2
    go_ret
    exact ⟨ret_bool HNO.out.symm, HB.out _ _⟩
  subst h3
  by_cases h4 : f = f'
  rotate_left
  · have hb4 : (f.toList == f'.toList) = false := str_neB h4
    have HNO := Lib.hid (show sameTl ⟨a, c, s, f⟩ ⟨a, c, s, f'⟩ = false from sameTl_no (fun e => h4 (by injection e)))
    clear h4
    go_enter Try.func30, Try.ntmps30
    go_wp2
    go_ret
    exact ⟨ret_bool HNO.out.symm, HB.out _ _⟩
  subst h4
  have HY := Lib.hid (show sameTl ⟨a, c, s, f⟩ ⟨a, c, s, f⟩ = true from sameTl_yes rfl)
  go_enter Try.func30, Try.ntmps30
  go_wp2
  go_ret
  exact ⟨ret_bool HY.out.symm, HB.out _ _⟩
set_option maxRecDepth 100000 in
set_option maxHeartbeats 2000000 in
theorem eqTallyS_any (A A2 : Option Addr) (n m c c2 : Nat) (ts us : List Tl) (w : World) (h1 : Tals w w.heap.size A n ts) (h2 : Tals w w.heap.size A2 m us) : Calls Try.prog 16 #[.slice A n c, .slice A2 m c2] w fun e w' => e = .returned (.bool (sameT ts us)) ∧ Below w.heap.size w w' := by
  have l1 := h1.len
  have l2 := h2.len
  have hn40 := h1.2.1
  have H1 := Lib.hid h1
  have H2 := Lib.hid h2
  have L1 := Lib.hid l1
  have L2 := Lib.hid l2
  clear h1 h2 l1 l2
  by_cases hnm : n = m
  rotate_left
  · have hne : ((n : Int) != (m : Int)) = true := by simp; omega
    have hno : sameT ts us = false := sameT_no (fun e => hnm (by rw [← L1.out, ← L2.out, e]))
    have HNO := Lib.hid hno
    clear hno
    go_enter Try.func16, Try.ntmps16
    go_wp2
    go_ret
    exact ⟨ret_bool HNO.out.symm, Below.refl _ _⟩
  subst hnm
  have hne : ((n : Int) != (n : Int)) = false := by simp
  go_enter Try.func16, Try.ntmps16
  go_wp2_with fail
  go_loopw [5] (fun iv wr => ∃ (k : Nat), k ≤ n ∧ iv = .int .i64 (k : Int) ∧ Below w.heap.size w wr ∧ ts.take k = us.take k) (fun iv _ => n - (intOf iv).toNat)
  case atStart => exact ⟨0, by omega, rfl, Below.refl _ _, by simp⟩
  case round =>
    obtain ⟨k, hk, rfl, hb, heq⟩ := hrel
    have HB := Lib.hid hb
    have HEQ := Lib.hid heq
    clear hb heq
    by_cases hlt : k < n
    · obtain ⟨b, off, t, rfl, hlb, ht, k0, k1, k2, k3⟩ := Tals.at_ (show Tals wr w.heap.size A n ts from H1.out.below HB.out) hlt
      obtain ⟨b', off', t', rfl, hlb', ht', j0, j1, j2, j3⟩ := Tals.at_ (show Tals wr w.heap.size A2 n us from H2.out.below HB.out) hlt
      have HT := Lib.hid (And.intro ht ht')
      obtain ⟨a, cc, s, f⟩ := t
      obtain ⟨a', cc', s', f'⟩ := t'
      simp only at k0 k1 k2 k3 j0 j1 j2 j3
      clear ht ht'
      by_cases htu : (⟨a, cc, s, f⟩ : Tl) = ⟨a', cc', s', f'⟩
      rotate_left
      · have HC := Lib.hid (show ∀ w, Calls Try.prog 30 #[.agg #[.int .i64 a, .int .i64 cc, .string s, .string f], .agg #[.int .i64 a', .int .i64 cc', .string s', .string f']] w fun e w' => e = .returned (.bool false) ∧ Below w.heap.size w w' from fun w => by
          have := eqTally_any ⟨a, cc, s, f⟩ ⟨a', cc', s', f'⟩ w
          rw [sameTl_no htu] at this
          exact this)
        have HNO := Lib.hid (at_neT HT.out.1 HT.out.2 htu)
        clear htu
        go_wp2_with fail
        go_region_with (go_at_call 30; refine (HC.out _).mono ?_; rintro e w2 ⟨rfl, hb2⟩; have HB2 := Lib.hid hb2; clear hb2)
        all_goals go_wp2
        all_goals go_ret
        all_goals exact ⟨ret_bool HNO.out.symm, HB.out.trans ((below_drewN (Below.refl wr.heap.size wr) 1).trans (HB2.out.mono (Nat.le_refl _)) |>.mono HB.out.size)⟩
      · have HC := Lib.hid (show ∀ w, Calls Try.prog 30 #[.agg #[.int .i64 a, .int .i64 cc, .string s, .string f], .agg #[.int .i64 a', .int .i64 cc', .string s', .string f']] w fun e w' => e = .returned (.bool true) ∧ Below w.heap.size w w' from fun w => by
          have := eqTally_any ⟨a, cc, s, f⟩ ⟨a', cc', s', f'⟩ w
          rw [sameTl_yes htu] at this
          exact this)
        have HYES := Lib.hid htu
        clear htu
        go_wp2_with fail
        go_region_with (go_at_call 30; refine (HC.out _).mono ?_; rintro e w2 ⟨rfl, hb2⟩; have HB2 := Lib.hid hb2; clear hb2)
        all_goals go_wp2_with fail
        all_goals exact ⟨⟨k + 1, by omega, by go_num, HB.out.trans ((below_drewN (Below.refl wr.heap.size wr) 1).trans (HB2.out.mono (Nat.le_refl _)) |>.mono HB.out.size), by rw [take_next HT.out.1, take_next HT.out.2, HEQ.out, HYES.out]⟩, by simp [intOf]; omega⟩
    · obtain rfl : k = n := by omega
      have hy : sameT ts us = true := sameT_yes (by
        have := HEQ.out
        rwa [List.take_of_length_le (by have := L1.out; omega), List.take_of_length_le (by have := L2.out; omega)] at this)
      have HY := Lib.hid hy
      clear hy
      go_wp2
      go_ret
      exact ⟨ret_bool HY.out.symm, HB.out⟩
end Go.Proofs.Ytogplbnabffcfaa
