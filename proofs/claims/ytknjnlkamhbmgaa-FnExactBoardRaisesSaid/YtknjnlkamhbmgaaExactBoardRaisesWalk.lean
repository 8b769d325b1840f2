/-
  FnExactBoardRaises returns true for every list: the program's count is the reference's, and the argument stays.
-/
import Derived.Test.YtknjnlkamhbmgaaBdFns
import Derived.Test.YtknjnlkamhbmgaaBdSpec3
namespace Go.Proofs.Ytknjnlkamhbmgaa.fnExactBoardRaises
open Go.RowKit

set_option maxHeartbeats 1000000 in
theorem walk (a0 : Option Addr) (len0 cap0 : Nat) (z0 : List Int) (w : World) (w0 : IsRow .i64 w a0 len0 cap0 z0) :
    Calls Try.prog 5 #[.slice a0 len0 cap0] w fun e w' => e = .returned (.bool true) ∧ Below w.heap.size w w' := by
  by_cases hbig : 1048576 < len0
  · clear w0
    go_enter Try.func5, Try.ntmps5
    go_wp2
    go_ret
    exact ⟨rfl, Below.refl _ _⟩
  · have hx := Ints.of_row w0 (by omega)
    generalize z0.take len0 = xs at hx
    have HX := Lib.hid hx
    clear hx w0
    go_enter Try.func5, Try.ntmps5
    go_wp2_with fail
    refine (toIntS_any _ _ _ xs _ HX.out).mono ?_
    rintro e w1 ⟨⟨A1, c1, rfl, hown1⟩, hb1⟩
    have HO1 := Lib.hid hown1
    clear hown1
    go_wp2_with fail
    refine (specBoardRaises_any _ _ _ xs _ HO1.out.ints).mono ?_
    rintro e w2 ⟨rfl, hb2⟩
    have HB2 := Lib.hid (below_chain hb1 hb2)
    clear hb1 hb2
    go_wp2_with fail
    refine (toIntS_any _ _ _ xs _ (HX.out.next HB2.out)).mono ?_
    rintro e w3 ⟨⟨A3, c3, rfl, hown3⟩, hb3⟩
    have HO3 := Lib.hid hown3
    have HB3 := Lib.hid (below_chain HB2.out hb3)
    clear hown3 hb3
    go_wp2_with fail
    refine (BoardRaises_any _ _ _ xs _ HO3.out.ints).mono ?_
    rintro e w4 ⟨rfl, hb4⟩
    have HI4 := Lib.hid (HO3.out.ints.next hb4)
    have HB4 := Lib.hid (below_chain HB3.out hb4)
    clear hb4
    go_wp2_with fail
    refine (toIntS_any _ _ _ xs _ (HX.out.next HB4.out)).mono ?_
    rintro e w5 ⟨⟨A5, c5, rfl, hown5⟩, hb5⟩
    have HO5 := Lib.hid hown5
    have HI5 := Lib.hid (HI4.out.next hb5)
    have HB5 := Lib.hid (below_chain HB4.out hb5)
    clear hown5 hb5
    go_wp2_with fail
    refine (eqIntS_any _ _ _ _ _ _ xs xs _ _ _ HI5.out HO5.out.ints).mono ?_
    rintro e w6 ⟨rfl, q, rfl⟩
    rw [sameB_self]
    go_wp2
    go_ret
    exact ⟨rfl, below_drewN HB5.out _⟩
end Go.Proofs.Ytknjnlkamhbmgaa.fnExactBoardRaises
