/-
  The value of a frame, by the reference.
-/
import Derived.Test.YtpaepdlkjblfgaaFrSpec6
import Derived.Test.YtpaepdlkjblfgaaFrPlain2
import Derived.Deep.QuietTactic
import Derived.BigQuiet
namespace Go.Proofs.Ytpaepdlkjblfgaa
open Go.RowKit

theorem quiet_eq {P : Program} {f : FuncId} {args : Array Value} {w : World} {n : Nat} {v : Value}
    (h : Calls P f args (w.drewN n) fun e w' => e = .returned v ∧ w.drewN n = w') : Calls P f args (w.drewN n) fun e w'' => e = .returned v ∧ ∃ m, w'' = w.drewN m :=
  h.mono fun _ _ ⟨he, hm⟩ => ⟨he, n, hm.symm⟩
theorem val_take_le {ds : List Int} (h : Fr.Digs ds) (h6 : ds.length ≤ 6) (k : Nat) : 0 ≤ Fr.val (ds.take k) ∧ Fr.val (ds.take k) ≤ 999999 :=
  val_le6 (digs_take h k) (by rw [List.length_take]; omega)
theorem val_take_next {ds : List Int} {j : Nat} {d : Int} (h : ds[j]? = some d) : Fr.val (ds.take (j + 1)) = Fr.val (ds.take j) + d * Fr.ten j := by
  have hl := (List.getElem?_eq_some_iff.1 h).1
  rw [take_next h, val_append, List.length_take, Nat.min_eq_left (by omega), Fr.val, Fr.val, Int.mul_zero, Int.add_zero, Int.mul_comm d]
set_option maxRecDepth 100000 in
set_option maxHeartbeats 2000000 in
theorem specFrameValue_yes (A A' : Option Addr) (n c c' : Nat) (ds : List Int) (w : World) (hx : Ints w w.heap.size A n (HiL ds)) (hy : Ints w w.heap.size A' n (LoL ds)) (hds : Fr.Digs ds) (h1 : 1 ≤ n) (h6 : n ≤ 6) :
    Calls Try.prog 72 #[.agg #[.slice A n c, .slice A' n c']] w fun e w' => e = .returned (.int .i64 (Fr.val ds)) ∧ Below w.heap.size w w' := by
  have hl : ds.length = n := by have := hx.len; rwa [HiL_length] at this
  have HN := Lib.hid hl
  have HX := Lib.hid hx
  have HY := Lib.hid hy
  have HD := Lib.hid hds
  have HB0 := Lib.hid ((Below.refl w.heap.size w).alloc (Nat.le_refl _) (.cells #[.slice A n c, .slice A' n c'] 25))
  have HV := Lib.hid (Box.new w (.slice A n c) (.slice A' n c'))
  clear hx hy hds hl
  go_enter Try.func72, Try.ntmps72
  go_wp2_with fail
  refine (specFrameValid_yes A A' n c c' ds _ (HX.out.al _) (HY.out.al _) HD.out h1 h6).mono ?_
  rintro e w1 ⟨rfl, hb1⟩
  have HB := Lib.hid (HB0.out.trans (hb1.mono (by simp)))
  have hbx := HV.out.next hb1
  have bl := hbx.lt
  have b0 := hbx.fst
  have b1 := hbx.snd
  have HBX := Lib.hid hbx
  have HX1 := Lib.hid ((HX.out.al (.cells #[.slice A n c, .slice A' n c'] 25)).next hb1)
  have HY1 := Lib.hid ((HY.out.al (.cells #[.slice A n c, .slice A' n c'] 25)).next hb1)
  clear hbx hb1
  go_wp2_with fail
  go_loopw [3, 4] (fun vv kv wr => ∃ (j q : Nat) (v : Int), j ≤ n ∧ vv = .int .i64 v ∧ kv = .int .i64 (j : Int) ∧ v = Fr.val (ds.take j) ∧ wr = w1.drewN q) (fun _ kv _ => n - (intOf kv).toNat)
  case atStart => exact ⟨0, 0, 0, by omega, rfl, rfl, rfl, rfl⟩
  case round =>
    obtain ⟨j, q, v, hj, rfl, rfl, hv, hwr⟩ := hrel
    have hbr : Box wr w.heap.size (.slice A n c) (.slice A' n c') := by rw [hwr]; exact HBX.out.drewN q
    have r0 := hbr.fst
    have r1 := hbr.snd
    have rl := hbr.lt
    have hxr : Ints wr w1.heap.size A n (HiL ds) := by rw [hwr]; exact HX1.out.drewN q
    have hyr : Ints wr w1.heap.size A' n (LoL ds) := by rw [hwr]; exact HY1.out.drewN q
    have HWR := Lib.hid hwr
    have HV2 := Lib.hid hv
    have hvb := val_take_le HD.out (by have := HN.out; omega) j
    rw [← hv] at hvb
    obtain ⟨v0, v1⟩ := hvb
    clear hwr hbr hv b0 b1 bl
    by_cases hlt : j < n
    · obtain ⟨b2, off2, u2, rfl, hlb2, hu2, hc2⟩ := hxr.at_ hlt
      obtain ⟨d, hd, rfl⟩ := HiL_get hu2
      obtain ⟨b3, off3, u3, rfl, hlb3, hu3, hc3⟩ := hyr.at_ hlt
      rw [LoL_get hd] at hu3
      obtain rfl : d % 5 = u3 := by simpa using hu3
      obtain ⟨d0, d9⟩ := HD.out d (List.mem_of_getElem? hd)
      have p0 : 0 ≤ d / 5 ∧ d / 5 ≤ 1 := by omega
      have p1 : 0 ≤ d % 5 ∧ d % 5 ≤ 4 := by omega
      have e0 : 5 * (d / 5) + d % 5 = d := by omega
      obtain ⟨u, hu⟩ : ∃ u, d / 5 = u := ⟨_, rfl⟩
      obtain ⟨t, ht⟩ : ∃ t, d % 5 = t := ⟨_, rfl⟩
      rw [hu] at p0 hc2 e0
      rw [ht] at p1 hc3 e0
      obtain ⟨p00, p01⟩ := p0
      obtain ⟨p10, p11⟩ := p1
      obtain ⟨T, hT⟩ : ∃ T, Fr.ten j = T := ⟨_, rfl⟩
      obtain ⟨T0, T1⟩ := ten_bd j (by omega)
      rw [hT] at T0 T1
      obtain ⟨G0, G1⟩ := mul_in d0 d9 (show 0 ≤ T by omega) T1
      have HNEXT := Lib.hid (val_take_next hd)
      have HT := Lib.hid hT
      have j6 : j ≤ 6 := by omega
      have s1 : IntKind.i64.wrap (5 * u) = 5 * u := IntWalk.i64_in _ (by omega)
      have s2 : IntKind.i64.wrap (5 * u + t) = d := by rw [e0]; exact IntWalk.i64_in _ (by omega)
      have s3 : IntKind.i64.wrap (d * T) = d * T := IntWalk.i64_in _ (by omega)
      have s4 : IntKind.i64.wrap (v + d * T) = v + d * T := IntWalk.i64_in _ (by omega)
      have k0 : (0 : Int) ≤ (j : Int) := by omega
      have k1 : (j : Int) < (n : Int) := by omega
      clear hu2 hu3 hd hu ht e0 hT hxr hyr
      go_wp2_with fail
      go_quiet ((go_at_call 55; exact quiet_eq (HT.out ▸ l5Ten_any j _ j6)))
      clear s1 s2 s3 s4
      go_wp2
      go_roundw
      case rel => exact ⟨j + 1, _, v + d * T, by omega, rfl, by go_num, by rw [HNEXT.out, HT.out, ← HV2.out], by rw [HWR.out, World.drewN_drewN]⟩
      case measure => simp [intOf]; omega
    · obtain rfl : j = n := by omega
      clear hxr hyr
      go_wp2
      go_ret
      exact ⟨ret_int (by rw [HV2.out, List.take_of_length_le (by have := HN.out; omega)]), by rw [HWR.out]; exact below_drewN HB.out _⟩
set_option maxRecDepth 100000 in
set_option maxHeartbeats 1000000 in
theorem specFrameValue_no (A A' : Option Addr) (n m c c' : Nat) (hs ls : List Int) (w : World) (hx : Ints w w.heap.size A n hs) (hy : Ints w w.heap.size A' m ls) (hno : ¬ FrOk hs ls) :
    Calls Try.prog 72 #[.agg #[.slice A n c, .slice A' m c']] w fun e w' => e = .returned (.int .i64 (-1)) ∧ Below w.heap.size w w' := by
  have HX := Lib.hid hx
  have HY := Lib.hid hy
  have HNO := Lib.hid hno
  have HB0 := Lib.hid ((Below.refl w.heap.size w).alloc (Nat.le_refl _) (.cells #[.slice A n c, .slice A' m c'] 25))
  clear hx hy hno
  go_enter Try.func72, Try.ntmps72
  go_wp2_with fail
  refine (specFrameValid_no A A' n m c c' hs ls _ (HX.out.al _) (HY.out.al _) HNO.out).mono ?_
  rintro e w1 ⟨rfl, hb1⟩
  have HB := Lib.hid (HB0.out.trans (hb1.mono (by simp)))
  clear hb1
  go_wp2
  go_ret
  exact ⟨rfl, HB.out⟩
/-- whatever the frame -/
theorem specFrameValue_any (A A' : Option Addr) (n m c c' : Nat) (hs ls : List Int) (w : World) (hx : Ints w w.heap.size A n hs) (hy : Ints w w.heap.size A' m ls) :
    ∃ V : Int, -1 ≤ V ∧ V ≤ 999999 ∧ ∀ w : World, Ints w w.heap.size A n hs → Ints w w.heap.size A' m ls → Calls Try.prog 72 #[.agg #[.slice A n c, .slice A' m c']] w fun e w' => e = .returned (.int .i64 V) ∧ Below w.heap.size w w' := by
  by_cases h : FrOk hs ls
  · obtain ⟨ds, hd, rfl, rfl, h1, h6⟩ := h
    have e1 := hx.len
    have e2 := hy.len
    rw [HiL_length] at e1
    rw [LoL_length] at e2
    subst e1
    subst e2
    obtain ⟨v0, v1⟩ := val_le6 hd h6
    exact ⟨_, by omega, v1, fun w hx hy => specFrameValue_yes A A' _ c c' ds w hx hy hd h1 h6⟩
  · exact ⟨-1, by omega, by omega, fun w hx hy => specFrameValue_no A A' n m c c' hs ls w hx hy h⟩
end Go.Proofs.Ytpaepdlkjblfgaa
