/-
  Roots: the pairs of digits, the digits of the root, the root by halving: what the program's and the reference's functions give back.
-/
import Derived.Test.YtphokfdaimbaiaaGlDraw
import Derived.Test.YtphokfdaimbaiaaGlPlain2
namespace Go.Proofs.Ytphokfdaimbaiaa
open Go.RowKit

set_option maxHeartbeats 400000 in
theorem hasRoot_any (n : Int) (w : World) : Calls Try.prog 56 #[.int .i64 n] w fun e w' => e = .returned (.bool (decide (0 ≤ n) && decide (n ≤ 1000000000))) ∧ w = w' := by
  by_cases h1 : 0 ≤ n <;> by_cases h2 : n ≤ 1000000000
  all_goals
    go_enter Try.func56, Try.ntmps56
    go_wp2
    go_ret
    exact ⟨ret_bool (by simp [h1, h2]), rfl⟩
theorem hasRoot_is {n : Int} {r : Bool} (h : (decide (0 ≤ n) && decide (n ≤ 1000000000)) = r) (w : World) : Calls Try.prog 56 #[.int .i64 n] w fun e w' => e = .returned (.bool r) ∧ w = w' := by
  rw [← h]; exact hasRoot_any n w
theorem hasRoot_yes {n : Nat} (h : n ≤ 1000000000) (w : World) : Calls Try.prog 56 #[.int .i64 (n : Int)] w fun e w' => e = .returned (.bool true) ∧ w = w' :=
  hasRoot_is (by simp; omega) w
theorem hasRoot_no {n : Int} (h : n < 0 ∨ 1000000000 < n) (w : World) : Calls Try.prog 56 #[.int .i64 n] w fun e w' => e = .returned (.bool false) ∧ w = w' :=
  hasRoot_is (by rcases h with h | h <;> simp <;> omega) w

theorem pr_next {k : Nat} {ys zs : List Int} (hk : 0 < k) (h : Gl.pr k ++ ys = zs) : Gl.pr (k / 100) ++ ([(k : Int) % 100] ++ ys) = zs := by
  rw [← h, Gl.pr_pos (show k ≠ 0 by omega)]
  simp
theorem pr_len {k n j : Nat} {ys : List Int} (hn : n ≤ 1000000000) (h : Gl.pr k ++ ys = Gl.prs n) (hl : ys.length = j) : j ≤ 5 := by
  have := Gl.prs_length hn
  rw [← h, List.length_append] at this
  omega
theorem prs_start (n : Nat) : Gl.pr (n / 100) ++ [(n : Int) % 100] = Gl.prs n := by simp [Gl.prs]

set_option maxHeartbeats 1000000 in
theorem pairsOf_any (n : Nat) (w : World) (hn : n ≤ 1000000000) :
    Calls Try.prog 75 #[.int .i64 (n : Int)] w fun e w' => (∃ A c, e = .returned (.slice A (Gl.prs n).length c) ∧ Own w' w.heap.size A (Gl.prs n).length c (Gl.prs n)) ∧ Below w.heap.size w w' := by
  go_enter Try.func75, Try.ntmps75
  go_wp2
  go_loopw [0, 3] (fun m v wr => ∃ (k : Nat) (A : Option Addr) (j c : Nat) (ys : List Int), m = .int .i64 (k : Int) ∧ v = .slice A j c ∧ k ≤ 1000000000 ∧ Own wr w.heap.size A j c ys ∧ Gl.pr k ++ ys = Gl.prs n ∧ Below w.heap.size w wr) (fun m _ _ => (intOf m).toNat)
  case atStart => exact ⟨n / 100, _, 1, 1, [(n : Int) % 100], by go_num, rfl, by omega, own_lit w [(n : Int) % 100] w.heap.size 1 rfl (by omega) (Nat.le_refl _), prs_start n, (Below.refl _ _).alloc (Nat.le_refl _) _⟩
  case round =>
    obtain ⟨k, A, j, c, ys, rfl, rfl, hk, hown, heq, hb⟩ := hrel
    have hj := pr_len hn heq hown.len
    have hsz := hb.size
    have HO := Lib.hid hown
    have HEQ := Lib.hid heq
    have HB := Lib.hid hb
    clear hown heq hb
    by_cases h0 : 0 < k
    · have HLIT : Hid (Own (wr.alloc (.cells #[.int .i64 ((k : Int) % 100)] 3)) w.heap.size (some ⟨wr.heap.size, 0, none⟩) 1 1 [(k : Int) % 100]) := Lib.hid (own_lit wr [(k : Int) % 100] w.heap.size 1 rfl (by omega) hsz)
      go_wp2_with (at_builtin; refine wpList_app_ints rfl _ _ rfl rfl HLIT.out rfl (HO.out.ints.alloc (Nat.le_refl _) _) (by omega) (by simp; omega) ?_; intro A1 c1 w1 hown1 hg1)
      have HB1 := Lib.hid (below_step (HB.out.alloc hsz _) hg1 HLIT.out (by simp; omega))
      go_roundw
      case rel => exact ⟨k / 100, _, _, _, _, by go_num, rfl, by omega, hown1, pr_next h0 HEQ.out, HB1.out⟩
      case measure => simp [intOf]; omega
    · obtain rfl : k = 0 := by omega
      obtain rfl : ys = Gl.prs n := by simpa [Gl.pr_zero] using HEQ.out
      obtain rfl : (Gl.prs n).length = j := HO.out.len
      go_wp2
      go_ret
      exact ⟨⟨_, _, rfl, HO.out⟩, HB.out⟩

/-- the state behind k pairs, and one pair more -/
theorem r_step {n k : Nat} {u : Int} (hn : n ≤ 1000000000) (hu : (Gl.prs n)[k]? = some u) : 0 ≤ u ∧ u ≤ 99 ∧
    (0 ≤ (Gl.rAll ((Gl.prs n).take k)).2.1 ∧ (Gl.rAll ((Gl.prs n).take k)).2.1 ≤ 40000 ∧ 0 ≤ (Gl.rAll ((Gl.prs n).take k)).2.2 ∧ (Gl.rAll ((Gl.prs n).take k)).2.2 ≤ 80000) ∧
    (Gl.rAll ((Gl.prs n).take (k + 1))) = Gl.rStep (Gl.rAll ((Gl.prs n).take k)) u := by
  have h1 := Gl.prs_range n u (List.mem_of_getElem? hu)
  exact ⟨h1.1, h1.2, Gl.rAll_bound hn k, by rw [Gl.take_next hu, Gl.rAll_snoc]⟩
theorem dg_in {r : Int} {j : Nat} (h0 : 0 ≤ r) (h1 : r ≤ 40000) (hj : j ≤ 9) : 0 ≤ (20 * r + (j : Int)) * (j : Int) ∧ (20 * r + (j : Int)) * (j : Int) ≤ 800009 * 9 := mul_in (by omega) (by omega) (by omega) (by omega)
theorem st_len {n k : Nat} (h : k ≤ (Gl.prs n).length) : (Gl.rAll ((Gl.prs n).take k)).1.length = k := by
  have := (Gl.rInv_all (Gl.prs n) (Gl.prs_range n) k).len
  rw [this, List.length_take]; omega

/-- what holds at the head of the rounds: k pairs are done -/
structure AtPair (n k : Nat) (ds : List Int) (r s : Int) : Prop where
  eq : Gl.rAll ((Gl.prs n).take k) = (ds, r, s)
theorem AtPair.start (n : Nat) : AtPair n 0 [] 0 0 := ⟨rfl⟩
theorem AtPair.bound {n k : Nat} {ds : List Int} {r s : Int} (h : AtPair n k ds r s) (hn : n ≤ 1000000000) : 0 ≤ r ∧ r ≤ 40000 ∧ 0 ≤ s ∧ s ≤ 80000 := by
  have := Gl.rAll_bound hn k
  rw [h.eq] at this
  exact this
theorem AtPair.next {n k j : Nat} {ds : List Int} {r s u : Int} (h : AtPair n k ds r s) (hn : n ≤ 1000000000) (hu : (Gl.prs n)[k]? = some u) (hj : Gl.dgF r (s * 100 + u) j = Gl.dgF r (s * 100 + u) 9) (ht : ¬ s * 100 + u < (20 * r + (j : Int)) * (j : Int)) :
    AtPair n (k + 1) (ds ++ [(j : Int)]) (r * 10 + (j : Int)) (s * 100 + u - (20 * r + (j : Int)) * (j : Int)) := by
  have e : Gl.dg r (s * 100 + u) = j := by unfold Gl.dg; rw [← hj, Gl.dgF_here ht]
  refine ⟨?_⟩
  rw [(r_step hn hu).2.2.2, h.eq]
  simp [Gl.rStep, e]
theorem AtPair.done {n : Nat} {ds : List Int} {r s : Int} (h : AtPair n (Gl.prs n).length ds r s) : ds = Gl.rtD n ∧ r = Gl.rtR n ∧ s = Gl.rtS n := by
  have := h.eq
  rw [List.take_length] at this
  unfold Gl.rtD Gl.rtR Gl.rtS
  rw [this]
  exact ⟨rfl, rfl, rfl⟩

set_option maxRecDepth 100000 in
set_option maxHeartbeats 2000000 in
theorem rootDigits_any (n : Nat) (w : World) (hn : n ≤ 1000000000) :
    Calls Try.prog 57 #[.int .i64 (n : Int)] w fun e w' => (∃ A c, e = .returned (.tuple #[.slice A (Gl.prs n).length c, .int .i64 (Gl.rtS n)]) ∧ Own w' w.heap.size A (Gl.prs n).length c (Gl.rtD n)) ∧ Below w.heap.size w w' := by
  have hL := Gl.prs_length hn
  obtain ⟨hL1, hL5⟩ := hL
  generalize hlen : (Gl.prs n).length = L at hL1 hL5
  have HLEN := Lib.hid hlen
  have HLN := Lib.hid (lit_nil w)
  clear hlen
  go_enter Try.func57, Try.ntmps57
  go_wp2_with fail
  refine (pairsOf_any n _ hn).mono ?_
  rintro e w1 ⟨⟨A1, c1, rfl, ho1⟩, hb1⟩
  rw [HLEN.out] at ho1 ⊢
  have HP := Lib.hid ho1.ints
  have hsz1 := hb1.size
  have HO := Lib.hid (EOwn.of_nil (HLN.out.next hb1) w1.heap.size)
  have HB := Lib.hid (((Below.refl w.heap.size w).alloc (Nat.le_refl _) _).trans (hb1.mono (by simp)))
  simp only [World.size_alloc] at hsz1
  clear ho1 hb1 HLN
  go_wp2_with fail
  go_loopw [4, 5, 6, 14] (fun dv rv sv i wr => ∃ (k : Nat) (A : Option Addr) (c : Nat) (ds : List Int) (r s : Int), k ≤ L ∧ i = .int .i64 (k : Int) ∧ dv = .slice A k c ∧ rv = .int .i64 r ∧ sv = .int .i64 s ∧ EOwn wr w.heap.size w1.heap.size A k c ds ∧ AtPair n k ds r s ∧
      Ints wr w1.heap.size A1 L (Gl.prs n) ∧ Below w.heap.size w wr ∧ w1.heap.size ≤ wr.heap.size) (fun _ _ _ i _ => L - (intOf i).toNat)
  case atStart => exact ⟨0, _, _, [], 0, 0, by omega, by go_num, rfl, rfl, rfl, HO.out, AtPair.start n, HP.out, HB.out, Nat.le_refl _⟩
  case round =>
    clear HO HP HB
    obtain ⟨k, A, c, ds, r, s, hk, rfl, rfl, rfl, rfl, hown, hat, hp, hb, hsz⟩ := hrel
    obtain ⟨r0, r1, s0, s1⟩ := hat.bound hn
    have HO := Lib.hid hown
    have HAT := Lib.hid hat
    have HP := Lib.hid hp
    have HB := Lib.hid hb
    clear hown hat hp hb
    by_cases hlt : k < L
    · obtain ⟨b, off, u, rfl, hub, hu, hcu⟩ := HP.out.at_ hlt
      obtain ⟨u0, u1, -, -⟩ := r_step hn hu
      have HU := Lib.hid hu
      clear hu
      obtain ⟨wo, rfl⟩ : ∃ wo : World, wo = wr := ⟨_, rfl⟩
      go_wp2_with fail
      go_loop [9] (fun d => ∃ j : Nat, j ≤ 9 ∧ d = .int .i64 (j : Int) ∧ Gl.dgF r (s * 100 + u) j = Gl.dgF r (s * 100 + u) 9) (fun d => (intOf d).toNat)
      case atStart => exact ⟨9, by omega, rfl, rfl⟩
      case round =>
        obtain ⟨j, hj, rfl, hdg⟩ := hrel
        obtain ⟨m0, m1⟩ := dg_in (j := j) r0 r1 hj
        have HDG := Lib.hid hdg
        clear hdg
        by_cases ht : s * 100 + u < (20 * r + (j : Int)) * (j : Int)
        · cases j with
          | zero => simp at ht; omega
          | succ j =>
            have HD := Lib.hid (Gl.dgF_down ht)
            rw [show ((j + 1 : Nat) : Int) = (j : Int) + 1 from by omega] at ht m0 m1
            go_wp2
            go_round
            case rel => exact ⟨j, by omega, by go_num, by rw [← HD.out]; exact HDG.out⟩
            case measure => simp [intOf]
        · have HT := Lib.hid ht
          go_wp2_with (at_builtin; refine wpList_app0 rfl _ _ rfl rfl HO.out [(j : Int)] 1 rfl (by omega) _ rfl _ rfl (by omega) (by omega) hsz ?_; intro A' c' w3 row3 hown3 hg3 hr3)
          have HB3 := Lib.hid (below_row HB.out hg3 hr3 (by omega) hsz)
          have HP3 := Lib.hid (HP.out.grown hg3 hsz hr3)
          have hsz3 := hg3.size
          go_roundw
          case rel => exact ⟨k + 1, _, _, _, _, _, by omega, by go_num, rfl, rfl, rfl, hown3, HAT.out.next hn HU.out HDG.out HT.out, HP3.out, HB3.out, by omega⟩
          case measure => simp [intOf]; omega
    · obtain rfl : k = L := by omega
      obtain ⟨rfl, rfl, rfl⟩ := (HLEN.out ▸ HAT.out : AtPair n (Gl.prs n).length ds r s).done
      go_wp2
      go_ret2
      exact ⟨⟨_, _, rfl, HO.out.own⟩, HB.out⟩
end Go.Proofs.Ytphokfdaimbaiaa
