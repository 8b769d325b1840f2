/-
  What the reference's functions on boards give back, for every list.
-/
import Derived.Test.YtknjnlkamhbmgaaOwn
import Derived.Test.YtknjnlkamhbmgaaBdPlain2
import Derived.Test.YtknjnlkamhbmgaaDefs
import Derived.StillTailTactics
import Derived.BigRegion
import Derived.Deep.RegionWith
namespace Go.Proofs.Ytknjnlkamhbmgaa
open Go.RowKit

theorem l6In_yes {n a b : Int} (h1 : a ≤ n) (h2 : n ≤ b) (w : World) : Calls Try.prog 66 #[.int .i64 n, .int .i64 a, .int .i64 b] w fun e w' => e = .returned (.bool true) ∧ w = w' :=
  (l6In_any n a b w).mono fun _ _ h => ⟨by rw [h.1]; simp [h1, h2], h.2⟩
theorem l6In_no {n a b : Int} (h : n < a ∨ b < n) (w : World) : Calls Try.prog 66 #[.int .i64 n, .int .i64 a, .int .i64 b] w fun e w' => e = .returned (.bool false) ∧ w = w' :=
  (l6In_any n a b w).mono fun _ _ h' => ⟨by rw [h'.1]; rcases h with h | h <;> simp <;> omega, h'.2⟩

theorem l1Group_any (k : Nat) (hk : k ≤ 1000) (w : World) : Calls Try.prog 61 #[.int .i64 (k : Int)] w fun e w' => e = .returned (.int .i64 (Bd.grp k)) ∧ w = w' := by
  rcases Nat.mod_two_eq_zero_or_one k with h | h
  · have h1 : ((k : Int) % 2 == 0) = true := by simp; omega
    go_enter Try.func61, Try.ntmps61
    go_wp2
    go_ret
    exact ⟨ret_int (by simp [Bd.grp, h]), rfl⟩
  · have h1 : ((k : Int) % 2 == 0) = false := by simp; omega
    go_enter Try.func61, Try.ntmps61
    go_wp2
    go_ret
    exact ⟨ret_int (by simp [Bd.grp, h]), rfl⟩

set_option maxHeartbeats 400000 in
theorem l1Worth_any (k : Nat) (hk : k ≤ 10) (w : World) : Calls Try.prog 74 #[.int .i64 (k : Int)] w fun e w' => e = .returned (.int .i64 (Bd.worth k)) ∧ w = w' := by
  go_enter Try.func74, Try.ntmps74
  go_wp2
  go_loop [3, 4] (fun t i => ∃ p : Nat, p ≤ k ∧ i = .int .i64 p ∧ t = .int .i64 (Bd.worth p)) (fun _ i => k - (intOf i).toNat)
  case atStart => exact ⟨0, by omega, rfl, rfl⟩
  case round =>
    obtain ⟨p, hp, rfl, rfl⟩ := hrel
    by_cases hlt : p < k
    · obtain ⟨w0, w1⟩ := Bd.worth_range p (by omega)
      have hs := Bd.worth_succ p
      have HS := Lib.hid hs
      clear hs
      rcases Nat.mod_two_eq_zero_or_one p with h | h
      · have h1 : ((p : Int) % 2 == 0) = true := by simp; omega
        have hg : Bd.grp p = 5 := by simp [Bd.grp, h]
        have HG := Lib.hid hg
        clear hg h
        go_wp2
        go_round
        case rel => exact ⟨p + 1, by omega, by go_num, by rw [HS.out, HG.out, Int.mul_comm]⟩
        case measure => simp [intOf]; omega
      · have h1 : ((p : Int) % 2 == 0) = false := by simp; omega
        have hg : Bd.grp p = 2 := by simp [Bd.grp, h]
        have HG := Lib.hid hg
        clear hg h
        go_wp2
        go_round
        case rel => exact ⟨p + 1, by omega, by go_num, by rw [HS.out, HG.out, Int.mul_comm]⟩
        case measure => simp [intOf]; omega
    · go_wp2
      go_ret
      obtain rfl : p = k := by omega
      exact ⟨rfl, rfl⟩

theorem okB_out {xs : List Int} {k : Nat} {u : Int} (h : xs[k]? = some u) (hu : u < 0 ∨ 20 < u) : Bd.okB xs = false := by
  cases hb : Bd.okB xs with
  | false => rfl
  | true => have := ((Bd.okB_iff xs).1 hb).2 u (List.mem_of_getElem? h); omega
theorem okB_len {xs : List Int} (h : xs.length ≠ 10) : Bd.okB xs = false := by
  cases hb : Bd.okB xs with
  | false => rfl
  | true => exact absurd ((Bd.okB_iff xs).1 hb).1 h

set_option maxHeartbeats 400000 in
theorem specBoardValid_any (A : Option Addr) (n c : Nat) (xs : List Int) (w : World) (B : Nat) (hx : Ints w B A n xs) :
    Calls Try.prog 55 #[.slice A n c] w fun e w' => e = .returned (.bool (Bd.okB xs)) ∧ w = w' := by
  have hb := hx.bound
  have HX := Lib.hid hx.len
  rcases h10 : ((n : Int) == 10) with _ | _
  all_goals
    go_enter Try.func55, Try.ntmps55
    go_wp2
    go_loop [3] (fun i => ∃ k : Nat, k ≤ n ∧ i = .int .i64 k ∧ ∀ x ∈ xs.take k, 0 ≤ x ∧ x ≤ 20) (fun i => n - (intOf i).toNat)
    case atStart => exact ⟨0, by omega, rfl, by simp⟩
    case round =>
      obtain ⟨k, hk, rfl, hin⟩ := hrel
      have HIN := Lib.hid hin
      clear hin
      by_cases hlt : k < n
      · obtain ⟨b, off, u, rfl, hlb, hu, hcell⟩ := hx.at_ hlt
        have HU := Lib.hid hu
        clear hu
        by_cases hr : u < 0 ∨ 20 < u
        · have HR := Lib.hid hr
          clear hr
          go_wp2_with (go_at_call 66; refine (l6In_no HR.out _).mono ?_; rintro e w' ⟨rfl, rfl⟩)
          go_ret
          exact ⟨ret_bool (okB_out HU.out HR.out).symm, rfl⟩
        · have r0 : 0 ≤ u := by omega
          have r1 : u ≤ 20 := by omega
          clear hr
          go_wp2_with (go_at_call 66; refine (l6In_yes (by omega) (by omega) _).mono ?_; rintro e w' ⟨rfl, rfl⟩)
          go_round
          case rel => exact ⟨k + 1, by omega, by go_num, by rw [take_next HU.out]; intro x hx; rcases List.mem_append.1 hx with h | h; exact HIN.out x h; simp at h; omega⟩
          case measure => simp [intOf]; omega
      · go_wp2
        go_ret
        obtain rfl : k = n := by omega
        refine ⟨ret_bool ?_, rfl⟩
        have hin := HIN.out
        rw [List.take_of_length_le (by have := HX.out; omega)] at hin
        first
          | (symm; exact okB_len (by have := HX.out; simp at h10; omega))
          | (symm; exact (Bd.okB_iff xs).2 ⟨by have := HX.out; simp at h10; omega, hin⟩)

set_option maxRecDepth 100000 in
set_option maxHeartbeats 1000000 in
theorem l1Value_any (A : Option Addr) (n c : Nat) (xs : List Int) (w : World) (B : Nat) (hx : Ints w B A n xs) (hok : Bd.okB xs = true) :
    Calls Try.prog 56 #[.slice A n c] w fun e w' => e = .returned (.int .i64 (Bd.V true xs)) ∧ ∃ q, w' = w.drewN q := by
  have hl := (Bd.okB_iff xs).1 hok
  have hn : n = 10 := by have := hx.len; omega
  subst hn
  have HL := Lib.hid hl
  clear hl hok
  go_enter Try.func56, Try.ntmps56
  go_wp2
  go_loopw [3, 4] (fun s i wr => ∃ k q : Nat, k ≤ 10 ∧ i = .int .i64 k ∧ s = .int .i64 (Bd.V true (xs.take k)) ∧ wr = w.drewN q) (fun _ i _ => 10 - (intOf i).toNat)
  case atStart => exact ⟨0, 0, by omega, rfl, rfl, rfl⟩
  case round =>
    obtain ⟨k, q, hk, rfl, rfl, hwr⟩ := hrel
    have hxr : Ints wr B A 10 xs := by rw [hwr]; exact hx.drewN q
    have HWR := Lib.hid hwr
    clear hwr
    by_cases hlt : k < 10
    · obtain ⟨b, off, u, rfl, hlb, hu, hcell⟩ := hxr.at_ hlt
      obtain ⟨m0, m1⟩ := HL.out.2 u (List.mem_of_getElem? hu)
      have HV := Lib.hid (Bd.V_take hu)
      obtain ⟨t0, t1⟩ := Bd.term_range m0 m1 hk
      obtain ⟨v0, v1⟩ := Bd.V_take_range HL.out.2 k hk (by have := HL.out.1; omega)
      clear hu
      generalize Bd.V true (xs.take k) = v at *
      have s1 : IntKind.i64.wrap (u * Bd.worth k) = u * Bd.worth k := IntWalk.i64_in _ (by omega)
      have s2 : IntKind.i64.wrap (v + u * Bd.worth k) = v + u * Bd.worth k := IntWalk.i64_in _ (by omega)
      go_wp2_with fail
      go_quiet ((go_at_call 74; exact quiet_same (l1Worth_any _ (by omega) _)))
      clear s1 s2
      go_wp2
      go_roundw
      case rel => exact ⟨k + 1, _, by omega, by go_num, by rw [HV.out], by rw [HWR.out, World.drewN_drewN]⟩
      case measure => simp [intOf]; omega
    · go_wp2
      go_ret
      obtain rfl : k = 10 := by omega
      exact ⟨ret_int (by rw [List.take_of_length_le (by have := HL.out.1; omega)]), _, HWR.out⟩

set_option maxHeartbeats 400000 in
theorem specBoardValue_any (A : Option Addr) (n c : Nat) (xs : List Int) (w : World) (B : Nat) (hx : Ints w B A n xs) :
    Calls Try.prog 17 #[.slice A n c] w fun e w' => e = .returned (.int .i64 (bVal xs)) ∧ Below w.heap.size w w' := by
  have hx' := Lib.hid hx
  rcases hok : Bd.okB xs with _ | _
  · have HOK := Lib.hid hok
    have HV := Lib.hid (show bVal xs = -1 by simp [bVal, hok])
    clear hx hok
    go_enter Try.func17, Try.ntmps17
    go_wp2_with (go_at_call 55; refine (specBoardValid_any _ _ _ xs _ B hx'.out).mono ?_; rintro e w' ⟨rfl, rfl⟩; rw [HOK.out])
    go_ret
    exact ⟨ret_int HV.out.symm, Below.refl _ _⟩
  · have HOK := Lib.hid hok
    have HV := Lib.hid (show bVal xs = Bd.V true xs by simp [bVal, hok])
    clear hx hok
    go_enter Try.func17, Try.ntmps17
    go_wp2_with (first
      | (go_at_call 55; refine (specBoardValid_any _ _ _ xs _ B hx'.out).mono ?_; rintro e w' ⟨rfl, rfl⟩; rw [HOK.out])
      | (go_at_call 56; refine (l1Value_any _ _ _ xs _ B hx'.out HOK.out).mono ?_; rintro e w' ⟨rfl, q, rfl⟩))
    go_ret
    exact ⟨ret_int HV.out.symm, below_drewN (Below.refl _ _) _⟩

set_option maxRecDepth 100000 in
set_option maxHeartbeats 1000000 in
theorem specBoardOf_any (v : Int) (w : World) : Calls Try.prog 32 #[.int .i64 v] w (BoardPost w (okV v) (Bd.D true 10 v)) := by
  by_cases hr : v < 0 ∨ 99999 < v
  · have hok : okV v = false := by simp [okV]; omega
    rw [hok]
    have HR := Lib.hid hr
    clear hr hok
    go_enter Try.func32, Try.ntmps32
    go_wp2_with (go_at_call 66; refine (l6In_no HR.out _).mono ?_; rintro e w' ⟨rfl, rfl⟩)
    go_ret2
    exact ⟨⟨_, _, _, rfl, own_lit w [] w.heap.size 0 rfl (by omega) (Nat.le_refl _)⟩, (Below.refl _ _).alloc (Nat.le_refl _) _⟩
  · have hok : okV v = true := by simp [okV]; omega
    rw [hok]
    have r0 : 0 ≤ v := by omega
    have r1 : v ≤ 99999 := by omega
    have hown0 := own_lit w [] w.heap.size 0 rfl (by omega) (Nat.le_refl _)
    have HO := Lib.hid hown0
    clear hr hok hown0
    go_enter Try.func32, Try.ntmps32
    go_wp2_with (go_at_call 66; refine (l6In_yes (by omega) (by omega) _).mono ?_; rintro e w' ⟨rfl, rfl⟩)
    go_loopw [0, 4, 5] (fun val out i wr => ∃ (j : Nat) (A : Option Addr) (c : Nat) (pre : List Int) (z : Int), j ≤ 5 ∧ i = .int .i64 (2 * j : Nat) ∧ val = .int .i64 z ∧ 0 ≤ z ∧ z ≤ 99999 ∧ out = .slice A (2 * j) c ∧ Own wr w.heap.size A (2 * j) c pre ∧ pre ++ Bd.D true (10 - 2 * j) z = Bd.D true 10 v ∧ Below w.heap.size w wr) (fun _ _ i _ => 10 - (intOf i).toNat)
    case atStart => exact ⟨0, _, _, [], v, by omega, rfl, rfl, r0, r1, rfl, HO.out, rfl, (Below.refl _ _).alloc (Nat.le_refl _) _⟩
    case round =>
      obtain ⟨j, A, c, pre, z, hj, rfl, rfl, z0, z1, rfl, hown, heq, hbel⟩ := hrel
      have HEQ := Lib.hid heq
      clear heq r0 r1
      by_cases hlt : j < 5
      · have e2 : Bd.D true (10 - 2 * j) z = z % 5 :: (z / 5 % 2) :: Bd.D true (10 - 2 * (j + 1)) (z / 10) := by
          rw [show 10 - 2 * j = (10 - 2 * (j + 1)) + 2 from by omega]
          simp only [Bd.D, Bd.full]
          simp
          rw [Int.ediv_ediv_of_nonneg (by omega)]
          rfl
        have HE2 := Lib.hid e2
        have hB := hbel.size
        clear e2
        go_wp2_with (at_builtin; refine wpList_app rfl _ _ rfl rfl hown [z % 5, z / 5 % 2] 2 rfl _ rfl _ rfl (by omega) hB ?_; intro A1 c1 w2 hown2 hg2)
        have hbel2 := below_step hbel hg2 hown hB
        go_roundw
        case rel =>
          refine ⟨j + 1, A1, c1, pre ++ [z % 5, z / 5 % 2], z / 10, by omega, by go_num, rfl, by omega, by omega, by rw [show 2 * (j + 1) = 2 * j + 2 from by omega], by rw [show 2 * (j + 1) = 2 * j + 2 from by omega]; exact hown2, ?_, hbel2⟩
          have := HEQ.out
          rw [HE2.out] at this
          rw [← this]
          simp
        case measure => simp [intOf]; omega
      · go_wp2
        go_ret2
        obtain rfl : j = 5 := by omega
        refine ⟨⟨_, _, _, rfl, ?_⟩, hbel⟩
        have := HEQ.out
        simp only [Nat.reduceMul, Nat.sub_self, Bd.D, List.append_nil] at this
        rw [if_pos rfl, ← show pre = Bd.D true 10 v from by simpa [Bd.D] using this]
        exact hown
end Go.Proofs.Ytknjnlkamhbmgaa
