/-
  Roots: the reference's pairs; the value of a list of digits as the laws reckon it.
-/
import Derived.Test.YtphokfdaimbaiaaGlRoot2
namespace Go.Proofs.Ytphokfdaimbaiaa
open Go.RowKit

theorem AtPair.next' {n k j : Nat} {ds : List Int} {r s u : Int} (h : AtPair n k ds r s) (hn : n ≤ 1000000000) (hu : (Gl.prs n)[k]? = some u) (hj : Gl.dgF r (100 * s + u) j = Gl.dgF r (100 * s + u) 9) (ht : ¬ 100 * s + u < (20 * r + (j : Int)) * (j : Int)) :
    AtPair n (k + 1) (ds ++ [(j : Int)]) (10 * r + (j : Int)) (100 * s + u - (20 * r + (j : Int)) * (j : Int)) := by
  have e : 100 * s + u = s * 100 + u := by omega
  rw [e] at hj ht ⊢
  have := h.next hn hu hj ht
  rwa [show r * 10 + (j : Int) = 10 * r + (j : Int) from by omega] at this
theorem pr_more {k : Nat} {ys zs : List Int} (hk : 100 ≤ k) (h : Gl.pr (k / 100) ++ ys = zs) : Gl.pr (k / 100 / 100) ++ ([(k : Int) / 100 % 100] ++ ys) = zs := by
  have := pr_next (k := k / 100) (by omega) h
  rw [show ((k / 100 : Nat) : Int) = (k : Int) / 100 from by omega] at this
  exact this
theorem pr_end {k : Nat} {ys zs : List Int} (hk : k < 100) (h : Gl.pr (k / 100) ++ ys = zs) : ys = zs := by
  rw [show k / 100 = 0 from by omega, Gl.pr_zero] at h
  exact h

set_option maxRecDepth 100000 in
set_option maxHeartbeats 2000000 in
theorem specRootPairs_yes (n : Nat) (w : World) (hn : n ≤ 1000000000) :
    Calls Try.prog 18 #[.int .i64 (n : Int)] w (PairPost w true (Gl.rtD n)) := by
  have HLN := Lib.hid (lit_nil w)
  go_enter Try.func18, Try.ntmps18
  go_wp2_with fail
  refine (l6In_yes (by omega) (by omega) _).mono ?_
  rintro e w' ⟨rfl, rfl⟩
  go_wp2_with fail
  go_loopw [0, 5] (fun m v wr => ∃ (k : Nat) (A : Option Addr) (j c : Nat) (ys : List Int), m = .int .i64 (k : Int) ∧ v = .slice A j c ∧ k ≤ 1000000000 ∧ Own wr (w.heap.size + 1) A j c ys ∧ Gl.pr (k / 100) ++ ys = Gl.prs n ∧
      Below (w.heap.size + 1) (w.alloc (.cells #[] 3)) wr) (fun m _ _ => (intOf m).toNat)
  case atStart => exact ⟨n, _, 1, 1, [(n : Int) % 100], rfl, rfl, hn, (by have h := own_lit (w.alloc (.cells #[] 3)) [(n : Int) % 100] (w.heap.size + 1) 1 rfl (by omega) (by simp); rw [World.size_alloc] at h; exact h), prs_start n, (Below.refl _ _).alloc (by simp) _⟩
  case round =>
    obtain ⟨k, A, j, c, ys, rfl, rfl, hk, hown, heq, hb⟩ := hrel
    have hj := pr_len hn heq hown.len
    have hsz := hb.size
    simp only [World.size_alloc] at hsz
    have HO := Lib.hid hown
    have HEQ := Lib.hid heq
    have HB := Lib.hid hb
    clear hown heq hb
    by_cases h0 : 100 ≤ k
    · have HLIT : Hid (Own (wr.alloc (.cells #[.int .i64 ((k : Int) / 100 % 100)] 3)) (w.heap.size + 1) (some ⟨wr.heap.size, 0, none⟩) 1 1 [(k : Int) / 100 % 100]) := Lib.hid (own_lit wr [(k : Int) / 100 % 100] (w.heap.size + 1) 1 rfl (by omega) hsz)
      go_wp2_with (at_builtin; refine wpList_app_ints rfl _ _ rfl rfl HLIT.out rfl (HO.out.ints.alloc (Nat.le_refl _) _) (by omega) (by simp; omega) ?_; intro A1 c1 w1 hown1 hg1)
      have HB1 := Lib.hid (below_step (HB.out.alloc hsz _) hg1 HLIT.out (by simp; omega))
      go_roundw
      case rel => exact ⟨k / 100, _, _, _, _, by go_num, rfl, by omega, hown1, pr_more h0 HEQ.out, HB1.out⟩
      case measure => simp [intOf]; omega
    · obtain rfl : ys = Gl.prs n := pr_end (by omega) HEQ.out
      have hL := Gl.prs_length hn
      obtain ⟨hL1, hL5⟩ := hL
      generalize hlen : (Gl.prs n).length = L at hL1 hL5
      obtain rfl : j = L := by have := HO.out.len; omega
      have HLEN := Lib.hid hlen
      have HP := Lib.hid HO.out.ints
      have HE := Lib.hid (EOwn.of_nil (HLN.out.next (by simpa using HB.out)) wr.heap.size)
      have HB0 := Lib.hid (((Below.refl w.heap.size w).alloc (Nat.le_refl _) _).trans (HB.out.mono (by omega)))
      clear hlen HO HB HLN HEQ hj
      obtain ⟨wp, rfl⟩ : ∃ wp : World, wp = wr := ⟨_, rfl⟩
      go_wp2_with fail
      go_loopw [4, 6, 7, 8] (fun dv rv sv i wr => ∃ (k : Nat) (D : Option Addr) (c : Nat) (ds : List Int) (r s : Int), k ≤ j ∧ i = .int .i64 (k : Int) ∧ dv = .slice D k c ∧ rv = .int .i64 r ∧ sv = .int .i64 s ∧ EOwn wr w.heap.size wp.heap.size D k c ds ∧ AtPair n k ds r s ∧
          Ints wr wp.heap.size A j (Gl.prs n) ∧ Below w.heap.size w wr ∧ wp.heap.size ≤ wr.heap.size) (fun _ _ _ i _ => j - (intOf i).toNat)
      case atStart => exact ⟨0, _, _, [], 0, 0, by omega, rfl, rfl, rfl, rfl, HE.out, AtPair.start n, HP.out, HB0.out, Nat.le_refl _⟩
      case round =>
        clear HE HP HB0
        obtain ⟨k, D, c, ds, r, s, hk, rfl, rfl, rfl, rfl, hown, hat, hp, hb, hsz⟩ := hrel
        obtain ⟨r0, r1, s0, s1⟩ := hat.bound hn
        have HO := Lib.hid hown
        have HAT := Lib.hid hat
        have HP := Lib.hid hp
        have HB := Lib.hid hb
        clear hown hat hp hb
        by_cases hlt : k < j
        · obtain ⟨b, off, u, rfl, hub, hu, hcu⟩ := HP.out.at_ hlt
          obtain ⟨u0, u1, -, -⟩ := r_step hn hu
          have HU := Lib.hid hu
          clear hu
          obtain ⟨wo, rfl⟩ : ∃ wo : World, wo = wr := ⟨_, rfl⟩
          go_wp2_with fail
          go_loop [9] (fun d => ∃ j : Nat, j ≤ 9 ∧ d = .int .i64 (j : Int) ∧ Gl.dgF r (100 * s + u) j = Gl.dgF r (100 * s + u) 9) (fun d => (intOf d).toNat)
          case atStart => exact ⟨9, by omega, rfl, rfl⟩
          case round =>
            obtain ⟨j, hj, rfl, hdg⟩ := hrel
            obtain ⟨m0, m1⟩ := dg_in (j := j) r0 r1 hj
            have HDG := Lib.hid hdg
            clear hdg
            by_cases ht : 100 * s + u < (20 * r + (j : Int)) * (j : Int)
            · cases j with
              | zero => simp at ht; omega
              | succ j =>
                have HD := Lib.hid (Gl.dgF_down ht)
                rw [show ((j + 1 : Nat) : Int) = (j : Int) + 1 from by omega] at ht m0 m1
                go_wp2
                go_round
                case rel => exact ⟨j, by omega, by go_num, by rw [← HD.out]; exact HDG.out⟩
                case measure => simp [intOf]
            · have HT := Lib.hid ht
              go_wp2_with (at_builtin; refine wpList_app0 rfl _ _ rfl rfl HO.out [(j : Int)] 1 rfl (by omega) _ rfl _ rfl (by omega) (by omega) hsz ?_; intro A' c' w3 row3 hown3 hg3 hr3)
              have HB3 := Lib.hid (below_row HB.out hg3 hr3 (by omega) hsz)
              have HP3 := Lib.hid (HP.out.grown hg3 hsz hr3)
              have hsz3 := hg3.size
              go_roundw
              case rel => exact ⟨k + 1, _, _, _, _, _, by omega, by go_num, rfl, rfl, rfl, hown3, HAT.out.next' hn HU.out HDG.out HT.out, HP3.out, HB3.out, by omega⟩
              case measure => simp [intOf]; omega
        · obtain rfl : k = j := by omega
          obtain ⟨rfl, rfl, rfl⟩ := (HLEN.out ▸ HAT.out : AtPair n (Gl.prs n).length ds r s).done
          go_wp2
          go_ret2
          exact ⟨⟨_, _, _, rfl, HO.out.own⟩, HB.out⟩
theorem specRootPairs_no (n : Int) (w : World) (hn : n < 0 ∨ 1000000000 < n) :
    Calls Try.prog 18 #[.int .i64 n] w (PairPost w false []) := by
  go_enter Try.func18, Try.ntmps18
  go_wp2_with fail
  refine (l6In_no hn _).mono ?_
  rintro e w' ⟨rfl, rfl⟩
  go_wp2
  go_ret2
  exact ⟨⟨_, _, _, rfl, lit_nil w⟩, (Below.refl _ _).alloc (Nat.le_refl _) _⟩
/-- the program's pairs, in the same words -/
theorem RootPairs_post (n : Nat) (w : World) (hn : n ≤ 1000000000) : Calls Try.prog 17 #[.int .i64 (n : Int)] w (PairPost w true (Gl.rtD n)) :=
  (RootPairs_yes n w hn).mono fun _ _ ⟨⟨A, c, he, ho⟩, hb⟩ => ⟨⟨A, _, c, he, ho⟩, hb⟩
theorem RootPairs_none (n : Int) (w : World) (hn : n < 0 ∨ 1000000000 < n) : Calls Try.prog 17 #[.int .i64 n] w (PairPost w false []) :=
  (RootPairs_no n w hn).mono fun _ _ ⟨he, hw⟩ => by subst hw; exact ⟨⟨_, _, _, he, Own.nil _ _⟩, Below.refl _ _⟩

set_option maxHeartbeats 400000 in
theorem valueOf_any (A : Option Addr) (n c : Nat) (xs : List Int) (w : World) (B : Nat) (hx : Ints w B A n xs) (hd : ∀ d ∈ xs, 0 ≤ d ∧ d ≤ 9) (hl : xs.length ≤ 6) :
    Calls Try.prog 21 #[.slice A n c] w fun e w' => e = .returned (.int .i64 (Gl.horner 0 xs)) ∧ w = w' := by
  have hn : n ≤ 6 := by have := hx.len; omega
  have HX := Lib.hid hx
  have HD := Lib.hid hd
  clear hx hd
  go_enter Try.func21, Try.ntmps21
  go_wp2
  go_loop [3, 4] (fun v i => ∃ k : Nat, k ≤ n ∧ i = .int .i64 (k : Int) ∧ v = .int .i64 (Gl.horner 0 (xs.take k))) (fun _ i => n - (intOf i).toNat)
  case atStart => exact ⟨0, by omega, rfl, rfl⟩
  case round =>
    obtain ⟨k, hk, rfl, rfl⟩ := hrel
    obtain ⟨h0, h1⟩ := Gl.horner_take HD.out hl k
    by_cases hlt : k < n
    · obtain ⟨b, off, u, rfl, hub, hu, hcu⟩ := HX.out.at_ hlt
      obtain ⟨u0, u1⟩ := HD.out u (List.mem_of_getElem? hu)
      have HN := Lib.hid (Gl.horner_next hu)
      clear hu
      generalize Gl.horner 0 (xs.take k) = r at *
      go_wp2
      go_round
      case rel => exact ⟨k + 1, by omega, by go_num, by rw [HN.out]⟩
      case measure => simp [intOf]; omega
    · obtain rfl : k = n := by omega
      rw [Gl.horner_all HX.out.len] at h0 h1 ⊢
      go_wp2
      go_ret
      exact ⟨rfl, rfl⟩
theorem prs_count (n : Nat) : (Gl.pr (n / 100)).length + 1 = (Gl.prs n).length := by simp [Gl.prs]
theorem pr_step {k j L : Nat} (hk : 100 ≤ k) (h : (Gl.pr (k / 100)).length + j = L) : (Gl.pr (k / 100 / 100)).length + (j + 1) = L := by
  rw [Gl.pr_pos (show k / 100 ≠ 0 by omega), List.length_append, List.length_singleton] at h
  omega
end Go.Proofs.Ytphokfdaimbaiaa
