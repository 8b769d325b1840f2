/-
  The draw of a list of tallies.
-/
import Derived.Test.YtogplbnabffcfaaTaDraw
namespace Go.Proofs.Ytogplbnabffcfaa
open Go.RowKit
set_option linter.unusedSimpArgs false

def Small36 (ts : List Tl) : Prop := ∀ t ∈ ts, t.s.size ≤ 36 ∧ t.f.size ≤ 36
theorem Small36.small {ts : List Tl} (h : Small36 ts) : Small ts := fun t ht => by have := h t ht; omega
/-- a drawn list of tallies -/
def DTals (w : World) (g : Nat) (e : Ending) (w' : World) : Prop := ∃ A n c ts, e = .returned (.slice A n c) ∧ Tals w' w'.heap.size A n ts ∧ n ≤ 7 ∧ Small36 ts ∧ w.grownBy w' (some g)
set_option maxRecDepth 100000 in
set_option maxHeartbeats 2000000 in
theorem l92Tallies_any (w : World) (B g p : Nat) (h : Rd w B g p) (hp : p ≤ 900000) : Calls Try.prog 19 #[.pointer (some ⟨g, 0, none⟩)] w (DTals w g) := by
  have hlt := h.lt
  have HR := Lib.hid h
  clear h
  go_enter Try.func19, Try.ntmps19
  go_wp2_with fail
  refine (pick_any _ _ _ _ 8 (HR.out.alloc _) (by omega)).mono ?_
  rintro e w1 ⟨v1, rfl, hv1, hrd1, hg1⟩
  obtain ⟨hva1, hvb1⟩ := hv1 (by omega)
  obtain ⟨n, rfl⟩ := Int.eq_ofNat_of_zero_le hva1
  have hn7 : n ≤ 7 := by omega
  have hO1 : OwnT w1 w.heap.size (some ⟨w.heap.size, 0, none⟩) 0 0 [] := (lit_nil_t w w.heap.size (Nat.le_refl _)).kept hg1 (fun q hq e => by
    have hq : w.heap.size = q := by injection hq
    injection e with e
    omega)
  have HO1 := Lib.hid hO1
  have HG1 := Lib.hid ((World.grownBy_alloc w (.cells #[] 33) (some g)).trans hg1)
  have HR1 := Lib.hid hrd1
  clear hv1 hrd1 hg1 hO1 hva1 hvb1
  go_wp2_with fail
  go_loopw [3, 5] (fun sv iv wr => ∃ (k c q : Nat) (AT : Option Addr) (ts : List Tl), k ≤ n ∧ iv = .int .i64 (k : Int) ∧ sv = .slice AT k c ∧ OwnT wr w.heap.size AT k c ts ∧ Small36 ts ∧ Rd wr B g q ∧ q ≤ p + 1 + 6 * k ∧ w.grownBy wr (some g)) (fun _ iv _ => n - (intOf iv).toNat)
  case atStart => exact ⟨0, 0, p + 1, _, [], by omega, rfl, rfl, HO1.out, fun t ht => by simp at ht, HR1.out, by omega, HG1.out⟩
  case round =>
    obtain ⟨k, c, q, AT, ts, hk, rfl, rfl, ho, hsm, hrd, hq, hg⟩ := hrel
    have HO := Lib.hid ho
    have HSM := Lib.hid hsm
    have HRD := Lib.hid hrd
    have HG := Lib.hid hg
    clear ho hsm hrd hg
    by_cases hltk : k < n
    · go_wp2_with fail
      refine (l92Tally_any wr B g q HRD.out (by omega)).mono ?_
      rintro e w2 ⟨t, q2, rfl, ht1, ht2, hrd2, hq2, hg2⟩
      have HO2 := Lib.hid (HO.out.kept hg2 (fun z hz e => by have := (HO.out.blk z hz).1; injection e with e; omega))
      have HRD2 := Lib.hid hrd2
      have HG2 := Lib.hid (HG.out.trans hg2)
      have HT := Lib.hid (show Small36 (ts ++ [t]) from fun u hu => by
        rcases List.mem_append.1 hu with h | h
        · exact HSM.out u h
        · obtain rfl := List.mem_singleton.1 h
          exact ⟨ht1, ht2⟩)
      obtain ⟨ta, tc, tss, tf⟩ := t
      simp only [Tl.val]
      clear hrd2 hg2 ht1 ht2
      have hsz := HG2.out.size
      have HSZ := Lib.hid hsz
      clear hsz
      go_wp2_with (refine wpList_app_t_at rfl _ _ rfl rfl HO2.out ⟨ta, tc, tss, tf⟩ _ _ rfl rfl _ rfl (by omega) HSZ.out ?_; intro A9 c9 w9 ho9 hg9 hat9)
      refine ⟨⟨k + 1, c9, q2, A9, _, by omega, by go_num, rfl, ho9, HT.out, ?_, by omega, ?_⟩, by simp [intOf]; omega⟩
      · refine HRD2.out.grown hg9 (fun z hz => ?_)
        have := (HO2.out.blk z hz).1
        have := HRD2.out.base
        exact ⟨by omega, by omega⟩
      · exact HG2.out.then_ hg9 (fun z hz => .inl (HO2.out.blk z hz).1)
    · obtain rfl : k = n := by omega
      go_wp2
      go_ret
      exact ⟨_, _, _, ts, rfl, HO.out.tals, hn7, HSM.out, HG.out⟩
/-- a law's draw of a list of tallies -/
def DrewT (w : World) (e : Ending) (w' : World) : Prop := ∃ A n c ts, e = .returned (.slice A n c) ∧ Tals w' w'.heap.size A n ts ∧ n ≤ 7 ∧ Small36 ts ∧ Below w.heap.size w w'
set_option maxHeartbeats 1000000 in
theorem DrawTalliesSettle_any (A : Option Addr) (n c : Nat) (w : World) (h : Bytes w w.heap.size A n c) (hn : n ≤ 1048576) :
    Calls Try.prog 6 #[.slice A n c] w (DrewT w) := by
  have H := Lib.hid h
  clear h
  go_enter Try.func6, Try.ntmps6
  go_wp2_with fail
  refine (l6Open_any _ _ _ _ H.out hn).mono ?_
  rintro e w0 ⟨rfl, hrd, hb⟩
  have HB := Lib.hid hb
  have hlt := hrd.lt
  have HR := Lib.hid hrd
  clear hrd hb
  go_wp2_with fail
  refine (l92Tallies_any _ _ _ _ HR.out (by omega)).mono ?_
  rintro e w1 ⟨A1, n1, c1, ts, rfl, hx, hn1, hsm, hg1⟩
  have HX := Lib.hid hx
  have HB2 := Lib.hid (HB.out.trans (base_in hg1 (Nat.le_refl _) (by omega)))
  have HSM := Lib.hid hsm
  clear hx hg1 hsm
  go_wp2
  go_ret
  exact ⟨_, _, _, _, rfl, HX.out, hn1, HSM.out, HB2.out⟩
end Go.Proofs.Ytogplbnabffcfaa
