/-
  Digit, value and powers of ten of the program.
-/
import Derived.Test.YtpaepdlkjblfgaaFrChange
namespace Go.Proofs.Ytpaepdlkjblfgaa
open Go.RowKit

theorem ten_bd (n : Nat) (h : n ≤ 6) : 1 ≤ Fr.ten n ∧ Fr.ten n ≤ 1000000 := by
  have hn : n = 0 ∨ n = 1 ∨ n = 2 ∨ n = 3 ∨ n = 4 ∨ n = 5 ∨ n = 6 := by omega
  rcases hn with rfl | rfl | rfl | rfl | rfl | rfl | rfl <;> decide
set_option maxHeartbeats 400000 in
theorem powerOfTen_any (n : Nat) (w : World) (hn : n ≤ 6) : Calls Try.prog 56 #[.int .i64 (n : Int)] w fun e w' => e = .returned (.int .i64 (Fr.ten n)) ∧ w = w' := by
  go_enter Try.func56, Try.ntmps56
  go_wp2
  go_loop [0, 3] (fun nv pv => ∃ (j : Nat) (p : Int), j ≤ n ∧ nv = .int .i64 (j : Int) ∧ pv = .int .i64 p ∧ p = Fr.ten (n - j)) (fun nv _ => (intOf nv).toNat)
  case atStart => exact ⟨n, 1, by omega, rfl, rfl, by rw [Nat.sub_self]; rfl⟩
  case round =>
    obtain ⟨j, p, hj, rfl, rfl, hp⟩ := hrel
    have hb := ten_bd (n - j) (by omega)
    rw [← hp] at hb
    obtain ⟨p0, p1⟩ := hb
    have HP := Lib.hid hp
    clear hp
    by_cases h0 : 0 < j
    · go_wp2
      go_round
      case rel =>
        refine ⟨j - 1, p * 10, by omega, ?_, by go_num, ?_⟩
        · go_num
        · rw [show n - (j - 1) = n - j + 1 from by omega, Fr.ten_succ, ← HP.out]; omega
      case measure => simp [intOf]; omega
    · obtain rfl : j = 0 := by omega
      go_wp2
      go_ret
      exact ⟨ret_int (by rw [HP.out, Nat.sub_zero]), rfl⟩

/-- of a frame that is valid, or of another one -/
def frIs {α : Type} (hs ls : List Int) (f : List Int → α) (z R : α) : Prop :=
  (¬ FrOk hs ls ∧ R = z) ∨ ∃ ds, Fr.Digs ds ∧ hs = HiL ds ∧ ls = LoL ds ∧ 1 ≤ ds.length ∧ ds.length ≤ 6 ∧ R = f ds
def digAt (ds : List Int) (k : Int) : Int := if 0 ≤ k ∧ k < ds.length then ds.getD k.toNat 0 else -1
theorem digAt_out {ds : List Int} {k : Int} (h : ¬ (0 ≤ k ∧ k < ds.length)) : digAt ds k = -1 := if_neg h
theorem digAt_in {ds : List Int} {j : Nat} {d : Int} (h : ds[j]? = some d) : digAt ds (j : Int) = d := by
  have := (List.getElem?_eq_some_iff.1 h).1
  rw [digAt, if_pos ⟨by omega, by omega⟩, Int.toNat_natCast, List.getD_eq_getElem?_getD, h]; rfl

set_option maxHeartbeats 1000000 in
theorem FrameDigit_any (A A' : Option Addr) (n m c c' : Nat) (hs ls : List Int) (k R : Int) (w : World) (hx : Ints w w.heap.size A n hs) (hy : Ints w w.heap.size A' m ls) (hR : frIs hs ls (fun ds => digAt ds k) (-1) R) :
    Calls Try.prog 15 #[.agg #[.slice A n c, .slice A' m c'], .int .i64 k] w fun e w' => e = .returned (.int .i64 R) ∧ Below w.heap.size w w' := by
  rcases hR with ⟨hno, rfl⟩ | ⟨ds, hds, rfl, rfl, h1, h6, rfl⟩
  · have HX := Lib.hid hx
    have HY := Lib.hid hy
    have HN := Lib.hid hno
    clear hx hy hno
    go_enter Try.func15, Try.ntmps15
    go_wp2_with fail
    refine (rodsOf_no A A' n m c c' hs ls _ (HX.out.al _) (HY.out.al _) HN.out).mono ?_
    rintro e w1 ⟨rfl, hb1⟩
    have HB := Lib.hid (((Below.refl w.heap.size w).alloc (Nat.le_refl _) _).trans (hb1.mono (by simp)))
    clear hb1
    go_wp2
    go_ret
    exact ⟨rfl, HB.out⟩
  · obtain rfl : ds.length = n := by have := hx.len; rwa [HiL_length] at this
    obtain rfl : ds.length = m := by have := hy.len; rwa [LoL_length] at this
    have HX := Lib.hid hx
    have HY := Lib.hid hy
    have HD := Lib.hid hds
    obtain ⟨n, hn⟩ : ∃ n, ds.length = n := ⟨_, rfl⟩
    rw [hn] at h1 h6
    obtain ⟨R, hR⟩ : ∃ R, digAt ds k = R := ⟨_, rfl⟩
    show Calls _ _ _ _ fun e w' => e = .returned (.int .i64 (digAt ds k)) ∧ Below w.heap.size w w'
    rw [hR, hn]
    rw [hn] at HX HY
    have HN := Lib.hid hn
    have HE := Lib.hid hR
    clear hx hy hds hn hR
    go_enter Try.func15, Try.ntmps15
    go_wp2_with fail
    refine (rodsOf_yes A A' n c c' ds _ (HX.out.al _) (HY.out.al _) HD.out h1 h6).mono ?_
    rintro e w1 ⟨⟨g, h, rfl, hr⟩, hb1⟩
    have hsl := hr.slice
    rw [HN.out] at hsl
    have HB := Lib.hid (((Below.refl w.heap.size w).alloc (Nat.le_refl _) _).trans (hb1.mono (by simp)))
    have HR := Lib.hid hr
    clear hr hb1
    by_cases hk : 0 ≤ k ∧ k < (n : Int)
    · obtain ⟨k0, k1⟩ := hk
      obtain ⟨j, rfl⟩ := Int.eq_ofNat_of_zero_le k0
      obtain ⟨d, hd⟩ : ∃ d, ds[j]? = some d := ⟨_, List.getElem?_eq_getElem (by have := HN.out; omega)⟩
      obtain ⟨d0, d9⟩ := HD.out d (List.mem_of_getElem? hd)
      have he := HE.out
      rw [digAt_in hd] at he
      subst he
      have HDD := Lib.hid hd
      clear hd
      go_wp2_with fail
      refine (rod_digit HR.out HDD.out d0 d9).mono ?_
      rintro e w2 ⟨rfl, q, rfl⟩
      go_wp2
      go_ret
      exact ⟨rfl, below_drewN HB.out _⟩
    · have he := HE.out
      rw [digAt_out (by rw [HN.out]; exact hk)] at he
      subst he
      rcases (show k < 0 ∨ (0 ≤ k ∧ (n : Int) ≤ k) from by omega) with q1 | ⟨q1, q2⟩
      all_goals
        clear hk
        go_wp2
        go_ret
        exact ⟨rfl, HB.out⟩

theorem val_le6 {ds : List Int} (h : Fr.Digs ds) (h6 : ds.length ≤ 6) : 0 ≤ Fr.val ds ∧ Fr.val ds ≤ 999999 := by
  have := Fr.val_range ds h
  have := ten_bd ds.length h6
  omega
theorem digs_drop {ds : List Int} (h : Fr.Digs ds) (k : Nat) : Fr.Digs (ds.drop k) := fun d hd => h d (List.mem_of_mem_drop hd)
set_option maxHeartbeats 1000000 in
theorem FrameValue_any (A A' : Option Addr) (n m c c' : Nat) (hs ls : List Int) (R : Int) (w : World) (hx : Ints w w.heap.size A n hs) (hy : Ints w w.heap.size A' m ls) (hR : frIs hs ls Fr.val (-1) R) :
    Calls Try.prog 18 #[.agg #[.slice A n c, .slice A' m c']] w fun e w' => e = .returned (.int .i64 R) ∧ Below w.heap.size w w' := by
  rcases hR with ⟨hno, rfl⟩ | ⟨ds, hds, rfl, rfl, h1, h6, rfl⟩
  · have HX := Lib.hid hx
    have HY := Lib.hid hy
    have HN := Lib.hid hno
    clear hx hy hno
    go_enter Try.func18, Try.ntmps18
    go_wp2_with fail
    refine (rodsOf_no A A' n m c c' hs ls _ (HX.out.al _) (HY.out.al _) HN.out).mono ?_
    rintro e w1 ⟨rfl, hb1⟩
    have HB := Lib.hid (((Below.refl w.heap.size w).alloc (Nat.le_refl _) _).trans (hb1.mono (by simp)))
    clear hb1
    go_wp2
    go_ret
    exact ⟨rfl, HB.out⟩
  · obtain rfl : ds.length = n := by have := hx.len; rwa [HiL_length] at this
    obtain rfl : ds.length = m := by have := hy.len; rwa [LoL_length] at this
    have HX := Lib.hid hx
    have HY := Lib.hid hy
    have HD := Lib.hid hds
    obtain ⟨n, hn⟩ : ∃ n, ds.length = n := ⟨_, rfl⟩
    rw [hn] at h1 h6
    rw [hn]
    rw [hn] at HX HY
    have HN := Lib.hid hn
    clear hx hy hds hn
    go_enter Try.func18, Try.ntmps18
    go_wp2_with fail
    refine (rodsOf_yes A A' n c c' ds _ (HX.out.al _) (HY.out.al _) HD.out h1 h6).mono ?_
    rintro e w1 ⟨⟨g, h, rfl, hr⟩, hb1⟩
    have hsl := hr.slice
    rw [HN.out] at hsl
    have HB := Lib.hid (((Below.refl w.heap.size w).alloc (Nat.le_refl _) _).trans (hb1.mono (by simp)))
    have HR := Lib.hid hr
    clear hr hb1
    go_wp2
    go_loopw [5, 6] (fun vv kv wr => ∃ (j q : Nat) (v : Int), j ≤ n ∧ vv = .int .i64 v ∧ kv = .int .i64 ((j : Int) - 1) ∧ v = Fr.val (ds.drop j) ∧ wr = w1.drewN q) (fun _ kv _ => (intOf kv + 1).toNat)
    case atStart => exact ⟨n, 0, 0, by omega, rfl, rfl, by rw [List.drop_of_length_le (by have := HN.out; omega)]; rfl, rfl⟩
    case round =>
      obtain ⟨j, q, v, hj, rfl, rfl, hv, rfl⟩ := hrel
      have hvb := val_le6 (digs_drop HD.out j) (by have := HN.out; simp; omega)
      rw [← hv] at hvb
      obtain ⟨v0, v1⟩ := hvb
      have HV := Lib.hid hv
      clear hv
      by_cases h0 : 0 < j
      · obtain ⟨i, rfl⟩ : ∃ i, j = i + 1 := ⟨j - 1, by omega⟩
        obtain ⟨d, hd⟩ : ∃ d, ds[i]? = some d := ⟨_, List.getElem?_eq_getElem (by have := HN.out; omega)⟩
        obtain ⟨d0, d9⟩ := HD.out d (List.mem_of_getElem? hd)
        have e1 : ((i + 1 : Nat) : Int) - 1 = (i : Int) := by omega
        rw [e1]
        have HDD := Lib.hid hd
        clear hd e1
        go_wp2_with fail
        refine (rod_digit (HR.out.drewN _) HDD.out d0 d9).mono ?_
        rintro e w2 ⟨rfl, q2, rfl⟩
        go_wp2
        go_roundw
        case rel =>
          exact ⟨i, _, v * 10 + d, by omega, by go_num, by go_num, by rw [drop_cons HDD.out, Fr.val, ← HV.out]; omega, rfl⟩
        case measure => simp [intOf]
      · obtain rfl : j = 0 := by omega
        go_wp2
        go_ret
        exact ⟨ret_int (by rw [HV.out, List.drop_zero]), below_drewN HB.out _⟩
end Go.Proofs.Ytpaepdlkjblfgaa
