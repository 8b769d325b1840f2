/-
  FnUnitsSplit returns true for every code: a split unit is as much.
-/
import Derived.Test.YtnljemgglmokjaaUnLaw3
namespace Go.Proofs.Ytnljemgglmokjaa.fnUnitsSplit
open Go.RowKit

set_option maxRecDepth 100000 in
set_option maxHeartbeats 4000000 in
theorem walk (a0 : Option Addr) (len0 cap0 : Nat) (z0 : List Int) (w : World) (w0 : IsRow .u8 w a0 len0 cap0 z0) :
    Calls Try.prog 7 #[.slice a0 len0 cap0] w fun e w' => e = .returned (.bool true) ∧ Below w.heap.size w w' := by
  by_cases hbig : 1048576 < len0
  · clear w0
    go_enter Try.func7, Try.ntmps7
    go_wp2
    go_ret
    exact ⟨rfl, Below.refl _ _⟩
  · have HC := Lib.hid (Bytes.of_row w0)
    clear w0
    go_enter Try.func7, Try.ntmps7
    go_wp2_with fail
    refine (DrawUnitsSplit_any _ _ _ _ HC.out (by omega)).mono ?_
    rintro e w1 ⟨A1, n1, c1, xs, k, rfl, hx1, hn1, hcp, hk0, hk1, hb1⟩
    have HB1 := Lib.hid hb1
    clear hb1
    have HI1 := Lib.hid hx1
    have hl1 := hx1.len
    have hd1 := fun w h => UnitsSplit_any A1 n1 c1 xs k w h
    have hd2 := fun w h => specUnitsSplit_any A1 n1 c1 xs k w h hcp
    rcases hok : okSp xs k with _ | _
    · rw [hok] at hd1 hd2
      clear hx1 hok
      have HD1 := Lib.hid hd1
      have HD2 := Lib.hid hd2
      have HL1 := Lib.hid hl1
      clear hd1 hd2 hl1
      go_wp2_with fail
      refine (HD1.out _ HI1.out).mono ?_
      rintro e w2 ⟨⟨A2, n2, c2, rfl, ho2⟩, hb2⟩
      simp only [Bool.false_eq_true, if_false] at ho2
      replace HI1 := Lib.hid (HI1.out.next hb2)
      have HB2 := Lib.hid (below_chain HB1.out hb2)
      clear hb2
      have HI2 := Lib.hid ho2.ints
      clear ho2
      go_wp2_with fail
      refine (HD2.out _ HI1.out).mono ?_
      rintro e w3 ⟨⟨A3, n3, c3, rfl, ho3⟩, hb3⟩
      simp only [Bool.false_eq_true, if_false] at ho3
      replace HI1 := Lib.hid (HI1.out.next hb3)
      replace HI2 := Lib.hid (HI2.out.next hb3)
      have HB3 := Lib.hid (below_chain HB2.out hb3)
      clear hb3
      have HI3 := Lib.hid ho3.ints
      clear ho3
      go_wp2_with fail
      refine (sameInts_any _ _ _ _ _ _ _ _ _ _ _ HI2.out HI3.out).mono ?_
      rintro e w4 ⟨rfl, q4, hw4⟩
      rw [sameB_self]
      replace HI1 := Lib.hid (ints_same HI1.out hw4)
      replace HI2 := Lib.hid (ints_same HI2.out hw4)
      replace HI3 := Lib.hid (ints_same HI3.out hw4)
      replace HB3 := Lib.hid (below_same HB3.out hw4)
      clear hw4
      go_wp2_with fail
      refine (sameInts_any _ _ _ _ _ _ _ _ _ _ _ HI2.out HI3.out).mono ?_
      rintro e w5 ⟨rfl, q5, hw5⟩
      rw [sameB_self]
      replace HI1 := Lib.hid (ints_same HI1.out hw5)
      replace HI2 := Lib.hid (ints_same HI2.out hw5)
      replace HI3 := Lib.hid (ints_same HI3.out hw5)
      replace HB3 := Lib.hid (below_same HB3.out hw5)
      clear hw5
      go_wp2
      go_ret
      exact ⟨rfl, HB3.out⟩
    · rw [hok] at hd1 hd2
      obtain ⟨j, d, rfl, hu, d2, d9, hlen, hold, hone, htwo, hlaw⟩ := split_law hok
      have hj : j < n1 := by have := (List.getElem?_eq_some_iff.1 hu).1; omega
      obtain ⟨m0, m1⟩ := sqr_in d2 d9
      obtain ⟨out, hout⟩ : ∃ out, splitL xs (j : Int) = out := ⟨_, rfl⟩
      rw [hout] at hd1 hd2 hlen hold hone htwo hlaw
      rw [hl1] at hlen
      clear hx1 hok hk0 hk1 hout
      have HD1 := Lib.hid hd1
      have HD2 := Lib.hid hd2
      have HL1 := Lib.hid hl1
      have HU := Lib.hid hu
      have HLEN := Lib.hid hlen
      have HOLD := Lib.hid hold
      have HONE := Lib.hid hone
      have HTWO := Lib.hid htwo
      have HLAW := Lib.hid hlaw
      clear hd1 hd2 hl1 hu hlen hold hone htwo hlaw
      go_wp2_with fail
      refine (HD1.out _ HI1.out).mono ?_
      rintro e w2 ⟨⟨A2, n2, c2, rfl, ho2⟩, hb2⟩
      simp only [if_true] at ho2
      replace HI1 := Lib.hid (HI1.out.next hb2)
      have HB2 := Lib.hid (below_chain HB1.out hb2)
      clear hb2
      have HI2 := Lib.hid ho2.ints
      clear ho2
      go_wp2_with fail
      refine (HD2.out _ HI1.out).mono ?_
      rintro e w3 ⟨⟨A3, n3, c3, rfl, ho3⟩, hb3⟩
      simp only [if_true] at ho3
      replace HI1 := Lib.hid (HI1.out.next hb3)
      replace HI2 := Lib.hid (HI2.out.next hb3)
      have HB3 := Lib.hid (below_chain HB2.out hb3)
      clear hb3
      have HI3 := Lib.hid ho3.ints
      clear ho3
      have hla := HI2.out.len
      obtain rfl : n2 = n1 + 1 := by have := HLEN.out; omega
      clear hla
      go_wp2_with fail
      refine (sameInts_any _ _ _ _ _ _ _ _ _ _ _ HI2.out HI3.out).mono ?_
      rintro e w4 ⟨rfl, q4, hw4⟩
      rw [sameB_self]
      replace HI1 := Lib.hid (ints_same HI1.out hw4)
      replace HI2 := Lib.hid (ints_same HI2.out hw4)
      replace HI3 := Lib.hid (ints_same HI3.out hw4)
      replace HB3 := Lib.hid (below_same HB3.out hw4)
      clear hw4
      go_wp2_with fail
      refine (UnitsSum_any _ _ _ xs _ HI1.out).mono ?_
      rintro e w5 ⟨⟨a', b', p, rfl, hlow5⟩, hb5⟩
      have HLOW5 := Lib.hid hlow5
      clear hlow5
      replace HI1 := Lib.hid (HI1.out.next hb5)
      replace HI2 := Lib.hid (HI2.out.next hb5)
      replace HI3 := Lib.hid (HI3.out.next hb5)
      have HB5 := Lib.hid (below_chain HB3.out hb5)
      clear hb5
      go_wp2_with fail
      refine (UnitsSum_any _ _ _ out _ HI2.out).mono ?_
      rintro e w6 ⟨⟨c', d', q, rfl, hlow6⟩, hb6⟩
      have HLOW6 := Lib.hid hlow6
      clear hlow6
      replace HI1 := Lib.hid (HI1.out.next hb6)
      replace HI2 := Lib.hid (HI2.out.next hb6)
      replace HI3 := Lib.hid (HI3.out.next hb6)
      have HB6 := Lib.hid (below_chain HB5.out hb6)
      clear hb6
      have HEQ : Hid (p = true → q = true → a' = c' ∧ b' = d') := Lib.hid fun hp hq => HLAW.out _ _ _ _ (HLOW5.out hp) (HLOW6.out hq)
      clear HLOW5 HLOW6
      have wI1 := HI1
      have wI2 := HI2
      have wB := HB6
      go_wp2_with fail
      go_loopw [15, 16, 17, 18] (fun ov nv tv iv wr => ∃ (i : Nat) (o2 o3 : Bool), i ≤ n1 + 1 ∧ iv = .int .i64 (i : Int) ∧ ov = .bool false ∧ nv = .bool o2 ∧ tv = .bool o3 ∧ o2 = (out.take i).contains (d + 1) ∧ o3 = (out.take i).contains (d * (d + 1)) ∧ Ints wr wr.heap.size A1 n1 xs ∧ Ints wr wr.heap.size A2 (n1 + 1) out ∧ Below w.heap.size w wr) (fun _ _ _ iv _ => n1 + 1 - (intOf iv).toNat)
      case atStart => exact ⟨0, false, false, by omega, rfl, rfl, rfl, rfl, rfl, rfl, wI1.out, wI2.out, wB.out⟩
      case round =>
        clear HI1 HI2 HB6 wI1 wI2 wB HI3
        obtain ⟨i, o2, o3, hi, rfl, rfl, rfl, rfl, ho2, ho3, hx, hy, hb⟩ := hrel
        have HX := Lib.hid hx
        have HY := Lib.hid hy
        have HB := Lib.hid hb
        have HO2 := Lib.hid ho2
        have HO3 := Lib.hid ho3
        clear hx hy hb ho2 ho3
        by_cases hlt : i < n1 + 1
        · obtain ⟨b7, off7, u, rfl, hub, huo, hcu⟩ := HY.out.at_ hlt
          obtain ⟨b6, off6, u6, rfl, hub6, hu6, hcu6⟩ := HX.out.at_ hj
          obtain rfl : u6 = d := by have := HU.out; rw [hu6] at this; injection this
          have f1 : (u == u6) = false := by have := HOLD.out; simp only [beq_eq_false_iff_ne]; rintro rfl; exact this (List.mem_of_getElem? huo)
          have HN2 := Lib.hid (contains_next (z := u6 + 1) huo)
          have HN3 := Lib.hid (contains_next (z := u6 * (u6 + 1)) huo)
          have s1 : IntKind.i64.wrap (u6 + 1) = u6 + 1 := IntWalk.i64_in _ (by omega)
          have s2 : IntKind.i64.wrap (u6 * (u6 + 1)) = u6 * (u6 + 1) := IntWalk.i64_in _ (by omega)
          have cu : ∀ q, (wr.drewN q).cell? ⟨b7, off7 + i, none⟩ = some (.int .i64 u) := fun _ => hcu
          have cd : ∀ q, (wr.drewN q).cell? ⟨b6, off6 + j, none⟩ = some (.int .i64 u6) := fun _ => hcu6
          have j0 : (0 : Int) ≤ (j : Int) := by omega
          have j1 : (j : Int) < (n1 : Int) := by omega
          have i0 : (0 : Int) ≤ (i : Int) := by omega
          have i1 : (i : Int) < (n1 : Int) + 1 := by omega
          clear huo hu6
          rcases o2 with _ | _ <;> rcases o3 with _ | _
          all_goals
            go_wp2_with fail
            go_quiet (fail)
            go_wp2_with fail
            go_quiet (fail)
            go_wp2_with fail
            go_quiet (fail)
            go_wp2_with fail
            go_roundw
            case rel => exact ⟨i + 1, _, _, by omega, by go_num, rfl, rfl, rfl, by rw [HN2.out, ← HO2.out]; rfl, by rw [HN3.out, ← HO3.out]; rfl, HX.out, HY.out, below_drewN HB.out _⟩
            case measure => simp [intOf]; omega
        · obtain rfl : i = n1 + 1 := by omega
          have hall : out.take (n1 + 1) = out := List.take_of_length_le (by have := HLEN.out; omega)
          obtain rfl : o2 = true := by rw [HO2.out, hall]; simpa using HONE.out
          obtain rfl : o3 = true := by rw [HO3.out, hall]; simpa using HTWO.out
          clear hall
          rcases p with _ | _
          · go_wp2; go_ret; exact ⟨rfl, HB.out⟩
          · rcases q with _ | _
            · go_wp2; go_ret; exact ⟨rfl, HB.out⟩
            · obtain ⟨rfl, rfl⟩ := HEQ.out rfl rfl
              go_wp2
              go_ret
              exact ⟨rfl, HB.out⟩
end Go.Proofs.Ytnljemgglmokjaa.fnUnitsSplit
