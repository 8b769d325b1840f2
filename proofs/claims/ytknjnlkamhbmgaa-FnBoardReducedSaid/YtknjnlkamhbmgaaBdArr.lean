/-
  What the program's methods on counters compute: worths, values, numbers of counters, reduced boards; each for every array that a board can be.
-/
import Derived.Test.YtknjnlkamhbmgaaArr
import Derived.Test.YtknjnlkamhbmgaaOwn
import Derived.Test.YtknjnlkamhbmgaaBdPlain
namespace Go.Proofs.Ytknjnlkamhbmgaa
open Go.RowKit

theorem fullAt_any (k : Nat) (hk : k ≤ 1000) (w : World) : Calls Try.prog 70 #[.int .i64 (k : Int)] w fun e w' => e = .returned (.int .i64 (Bd.grp k)) ∧ w = w' := by
  rcases Nat.mod_two_eq_zero_or_one k with h | h
  · have h1 : ((k : Int) % 2 == 0) = true := by simp; omega
    go_enter Try.func70, Try.ntmps70
    go_wp2
    go_ret
    exact ⟨ret_int (by simp [Bd.grp, h]), rfl⟩
  · have h1 : ((k : Int) % 2 == 0) = false := by simp; omega
    go_enter Try.func70, Try.ntmps70
    go_wp2
    go_ret
    exact ⟨ret_int (by simp [Bd.grp, h]), rfl⟩

set_option maxHeartbeats 400000 in
theorem worthAt_any (k : Nat) (hk : k ≤ 10) (w : World) : Calls Try.prog 76 #[.int .i64 (k : Int)] w fun e w' => e = .returned (.int .i64 (Bd.worth k)) ∧ w = w' := by
  go_enter Try.func76, Try.ntmps76
  go_wp2
  go_loop [3, 4] (fun t i => ∃ p : Nat, p ≤ k ∧ i = .int .i64 p ∧ t = .int .i64 (Bd.worth p)) (fun _ i => k - (intOf i).toNat)
  case atStart => exact ⟨0, by omega, rfl, rfl⟩
  case round =>
    obtain ⟨p, hp, rfl, rfl⟩ := hrel
    by_cases hlt : p < k
    · have hw := Bd.worth_range (p + 1) (by omega)
      have hs := Bd.worth_succ p
      rw [hs] at hw
      have HS := Lib.hid hs
      obtain ⟨hw1, hw2⟩ := hw
      clear hs
      go_wp2_with (go_at_call 70; refine (fullAt_any _ (by omega) _).mono ?_; rintro e w' ⟨rfl, rfl⟩)
      go_round
      case rel => exact ⟨p + 1, by omega, by go_num, by rw [HS.out]⟩
      case measure => simp [intOf]; omega
    · go_wp2
      go_ret
      obtain rfl : p = k := by omega
      exact ⟨rfl, rfl⟩

set_option maxHeartbeats 400000 in
theorem value_any (xs : List Int) (hl : xs.length = 10) (hx : ∀ x ∈ xs, 0 ≤ x ∧ x ≤ 20) (w : World) :
    Calls Try.prog 58 #[.agg (AV xs)] w fun e w' => e = .returned (.int .i64 (Bd.V true xs)) ∧ w.alloc (.cells (AV xs) 43) = w' := by
  have HL := Lib.hid hl
  have HX := Lib.hid hx
  have idx := fun (k : Nat) (u : Int) (h : xs[k]? = some u) => run_index_ten xs k u hl h
  have IDX := Lib.hid idx
  clear idx hx
  go_enter Try.func58, Try.ntmps58
  go_wp2_with (refine wpList_load_ten rfl _ rfl _ rfl _ xs _ (heap_alloc_new w _) hl ?_)
  go_loop [3, 4, 5, 7] (fun s _ _ i => ∃ k : Nat, k ≤ 10 ∧ i = .int .i64 k ∧ s = .int .i64 (Bd.V true (xs.take k))) (fun _ _ _ i => 10 - (intOf i).toNat)
  case atStart => exact ⟨0, by omega, rfl, rfl⟩
  case round =>
    obtain ⟨k, hk, rfl, rfl⟩ := hrel
    by_cases hlt : k < 10
    · obtain ⟨u, hu⟩ : ∃ u, xs[k]? = some u := ⟨xs[k]'(by have := HL.out; omega), List.getElem?_eq_getElem (by have := HL.out; omega)⟩
      have hm := HX.out u (List.mem_of_getElem? hu)
      have HV := Lib.hid (Bd.V_take hu)
      have hi := IDX.out k u hu
      obtain ⟨t0, t1⟩ := Bd.term_range hm.1 hm.2 hk
      obtain ⟨v0, v1⟩ := Bd.V_take_range HX.out k hk (by have := HL.out; omega)
      clear hu hm
      generalize Bd.V true (xs.take k) = v at *
      go_wp2_with (go_at_call 76; refine (worthAt_any _ (by omega) _).mono ?_; rintro e w' ⟨rfl, rfl⟩)
      go_round
      case rel => exact ⟨k + 1, by omega, by go_num, by rw [HV.out]⟩
      case measure => simp [intOf]; omega
    · go_wp2
      go_ret
      obtain rfl : k = 10 := by omega
      exact ⟨ret_int (by rw [List.take_of_length_le (by have := HL.out; omega)]), rfl⟩

set_option maxHeartbeats 400000 in
theorem total_any (xs : List Int) (hl : xs.length = 10) (hx : ∀ x ∈ xs, 0 ≤ x ∧ x ≤ 20) (w : World) :
    Calls Try.prog 68 #[.agg (AV xs)] w fun e w' => e = .returned (.int .i64 (Bd.sum xs)) ∧ w.alloc (.cells (AV xs) 43) = w' := by
  have HL := Lib.hid hl
  have HX := Lib.hid hx
  have idx := fun (k : Nat) (u : Int) (h : xs[k]? = some u) => run_index_ten xs k u hl h
  have IDX := Lib.hid idx
  clear idx hx
  go_enter Try.func68, Try.ntmps68
  go_wp2_with (refine wpList_load_ten rfl _ rfl _ rfl _ xs _ (heap_alloc_new w _) hl ?_)
  go_loop [3, 5, 7] (fun s _ i => ∃ k : Nat, k ≤ 10 ∧ i = .int .i64 k ∧ s = .int .i64 (Bd.sum (xs.take k))) (fun _ _ i => 10 - (intOf i).toNat)
  case atStart => exact ⟨0, by omega, rfl, rfl⟩
  case round =>
    obtain ⟨k, hk, rfl, rfl⟩ := hrel
    by_cases hlt : k < 10
    · obtain ⟨u, hu⟩ : ∃ u, xs[k]? = some u := ⟨xs[k]'(by have := HL.out; omega), List.getElem?_eq_getElem (by have := HL.out; omega)⟩
      have hm := HX.out u (List.mem_of_getElem? hu)
      have HV := Lib.hid (Bd.sum_take hu)
      have hi := IDX.out k u hu
      obtain ⟨v0, v1⟩ := Bd.sum_take_range HX.out k (by have := HL.out; omega)
      obtain ⟨m0, m1⟩ := hm
      clear hu
      generalize Bd.sum (xs.take k) = v at *
      go_wp2
      go_round
      case rel => exact ⟨k + 1, by omega, by go_num, by rw [HV.out]⟩
      case measure => simp [intOf]; omega
    · go_wp2
      go_ret
      obtain rfl : k = 10 := by omega
      exact ⟨ret_int (by rw [List.take_of_length_le (by have := HL.out; omega)]), rfl⟩

set_option maxHeartbeats 400000 in
theorem reduced_any (xs : List Int) (hl : xs.length = 10) (w : World) :
    Calls Try.prog 67 #[.agg (AV xs)] w fun e w' => e = .returned (.bool (Bd.isRed true xs)) ∧ w.alloc (.cells (AV xs) 43) = w' := by
  have HL := Lib.hid hl
  have idx := fun (k : Nat) (u : Int) (h : xs[k]? = some u) => run_index_ten xs k u hl h
  have IDX := Lib.hid idx
  clear idx
  go_enter Try.func67, Try.ntmps67
  go_wp2_with (refine wpList_load_ten rfl _ rfl _ rfl _ xs _ (heap_alloc_new w _) hl ?_)
  go_loop [3, 4, 6] (fun _ _ i => ∃ k : Nat, k ≤ 10 ∧ i = .int .i64 k ∧ ∀ (j : Nat) u, j < k → xs[j]? = some u → u < Bd.grp j) (fun _ _ i => 10 - (intOf i).toNat)
  case atStart => exact ⟨0, by omega, rfl, by intro j u h; omega⟩
  case round =>
    obtain ⟨k, hk, rfl, hin⟩ := hrel
    have HIN := Lib.hid hin
    clear hin
    by_cases hlt : k < 10
    · obtain ⟨u, hu⟩ : ∃ u, xs[k]? = some u := ⟨xs[k]'(by have := HL.out; omega), List.getElem?_eq_getElem (by have := HL.out; omega)⟩
      have HU := Lib.hid hu
      have hi := IDX.out k u hu
      clear hu
      by_cases h1 : Bd.grp k ≤ u
      · go_wp2_with (go_at_call 70; refine (fullAt_any _ (by omega) _).mono ?_; rintro e w' ⟨rfl, rfl⟩)
        go_ret
        exact ⟨ret_bool (Bd.isRed_no HU.out h1).symm, rfl⟩
      · go_wp2_with (go_at_call 70; refine (fullAt_any _ (by omega) _).mono ?_; rintro e w' ⟨rfl, rfl⟩)
        go_round
        case rel =>
          refine ⟨k + 1, by omega, by go_num, fun j v hj hv => ?_⟩
          by_cases hjk : j = k
          · subst hjk
            have := HU.out
            rw [this] at hv
            obtain rfl : u = v := by simpa using hv
            omega
          · exact HIN.out j v (by omega) hv
        case measure => simp [intOf]; omega
    · go_wp2
      go_ret
      obtain rfl : k = 10 := by omega
      exact ⟨ret_bool (Bd.isRed_yes HL.out HIN.out).symm, rfl⟩

set_option maxHeartbeats 400000 in
theorem list_any (xs : List Int) (hl : xs.length = 10) (w : World) :
    Calls Try.prog 65 #[.agg (AV xs)] w fun e w' => (∃ A c, e = .returned (.slice A 10 c) ∧ Own w' w.heap.size A 10 c xs) ∧ Below w.heap.size w w' := by
  have HL := Lib.hid hl
  have idx := fun (k : Nat) (u : Int) (h : xs[k]? = some u) => run_index_ten xs k u hl h
  have IDX := Lib.hid idx
  clear idx
  have hal := heap_alloc_new w (.cells (AV xs) 43)
  have HA := Lib.hid hal
  clear hal
  go_enter Try.func65, Try.ntmps65
  go_wp2_with (first
    | (refine wpList_make_room rfl _ _ rfl (B := w.heap.size) (n := 10) _ rfl rfl rfl (by omega) (by simp) ?_; intro w1 hown hg)
    | (refine wpList_load_ten rfl _ rfl _ rfl _ xs _ ((hg.block _ (by simp) (by simp)).trans HA.out) hl ?_))
  go_loopw [3, 5, 8] (fun v _ i wr => ∃ (k : Nat) (A : Option Addr) (c : Nat), k ≤ 10 ∧ i = .int .i64 k ∧ v = .slice A k c ∧ Own wr w.heap.size A k c (xs.take k) ∧ Below w.heap.size w wr) (fun _ _ i _ => 10 - (intOf i).toNat)
  case atStart => exact ⟨0, _, _, by omega, rfl, rfl, by simpa using hown, ((Below.refl _ _).alloc (Nat.le_refl _) _).grown hg (by simp) (by simp)⟩
  case round =>
    obtain ⟨k, A, c, hk, rfl, rfl, hown1, hbel⟩ := hrel
    by_cases hlt : k < 10
    · obtain ⟨u, hu⟩ : ∃ u, xs[k]? = some u := ⟨xs[k]'(by have := HL.out; omega), List.getElem?_eq_getElem (by have := HL.out; omega)⟩
      have HU := Lib.hid hu
      have hi := IDX.out k u hu
      clear hu
      have hB := hbel.size
      go_wp2_with (at_builtin; refine wpList_app rfl _ _ rfl rfl hown1 [u] 1 rfl _ rfl _ rfl (by omega) hB ?_; intro A1 c1 w2 hown2 hg2)
      have hbel2 := below_step hbel hg2 hown1 hB
      go_roundw
      case rel => exact ⟨k + 1, _, _, by omega, by go_num, rfl, by rw [take_next HU.out]; exact hown2, hbel2⟩
      case measure => simp [intOf]; omega
    · go_wp2
      go_ret
      obtain rfl : k = 10 := by omega
      exact ⟨⟨_, _, rfl, by have := hown1; rwa [List.take_of_length_le (by have := HL.out; omega)] at this⟩, hbel⟩


set_option maxHeartbeats 400000 in
theorem board_any (xs : List Int) (hl : xs.length = 10) (w : World) :
    Calls Try.prog 71 #[.agg (AV xs)] w (BoardPost w (fitB xs) xs) := by
  rcases hf : fitB xs with _ | _
  · have HF := Lib.hid hf
    go_enter Try.func71, Try.ntmps71
    go_wp2_with (first
      | (refine wpList_load_ten rfl _ rfl _ rfl _ xs _ (heap_alloc_new w _) hl ?_)
      | (go_at_call 75; refine (fits_any xs hl _).mono ?_; rintro e w' ⟨rfl, rfl⟩; rw [HF.out]))
    go_ret2
    exact ⟨⟨_, _, _, rfl, Own.nil _ _⟩, ((Below.refl _ _).alloc (Nat.le_refl _) _).alloc (by simp) _⟩
  · have HF := Lib.hid hf
    go_enter Try.func71, Try.ntmps71
    go_wp2_with (first
      | (refine wpList_load_ten rfl _ rfl _ rfl _ xs _ (heap_alloc_new w _) hl ?_)
      | (refine wpList_load_ten rfl _ rfl _ rfl _ xs _ (heap_alloc2_old w _ _) hl ?_)
      | (go_at_call 75; refine (fits_any xs hl _).mono ?_; rintro e w' ⟨rfl, rfl⟩; rw [HF.out])
      | (go_at_call 65; refine (list_any xs hl _).mono ?_; rintro e w' ⟨⟨A, c, rfl, hown⟩, hbel⟩))
    go_ret2
    exact ⟨⟨_, _, _, rfl, hown.mono (by simp; omega)⟩, (((Below.refl _ _).alloc (Nat.le_refl _) _).alloc (by simp) _).trans (hbel.mono (by simp; omega))⟩
end Go.Proofs.Ytknjnlkamhbmgaa
