/-
  UnitsDrop, UnitsSplit and UnitsJoin of the program.
-/
import Derived.Test.YtnljemgglmokjaaUnPut
namespace Go.Proofs.Ytnljemgglmokjaa
open Go.RowKit

theorem grown_next {w w' : World} (h : Below w.heap.size w w') : w.heap.size ≤ w'.heap.size := h.size
set_option maxHeartbeats 1000000 in
theorem units_any (B : Nat) (p : Option Addr) (l : List Int) (w : World) (hc : Cha w B p l) (hl : l.length ≤ 1000) :
    Calls Try.prog 27 #[.pointer p] w (PairPost w (Un.okU l) l) := by
  have HC := Lib.hid hc
  clear hc
  rcases hok : Un.okU l with _ | _
  all_goals
    have HOK := Lib.hid hok
    clear hok
    go_enter Try.func27, Try.ntmps27
    go_wp2_with fail
    refine (list_any B p l _ HC.out hl).mono ?_
    rintro e w1 ⟨⟨A, c, rfl, ho⟩, hb⟩
    have HO := Lib.hid ho
    have HB := Lib.hid hb
    clear ho hb
    go_wp2_with fail
    refine (UnitsValid_is HO.out.ints HOK.out).mono ?_
    rintro e w2 ⟨rfl, hb2⟩
    have HO2 := Lib.hid (HO.out.next hb2)
    have HB2 := Lib.hid (below_chain HB.out hb2)
    clear hb2
    go_wp2
    go_ret2
    first
      | exact ⟨⟨_, _, _, rfl, HO2.out⟩, HB2.out⟩
      | exact ⟨⟨_, _, _, rfl, Own.nil _ _⟩, HB2.out⟩

def okD (xs : List Int) (k : Int) : Bool := Un.okU xs && (decide (0 ≤ k) && decide (k < (xs.length : Int)))
theorem okD_iff (xs : List Int) (k : Int) : okD xs k = true ↔ Un.okU xs = true ∧ 0 ≤ k ∧ k < (xs.length : Int) := by simp [okD]
set_option maxRecDepth 100000 in
set_option maxHeartbeats 1000000 in
theorem UnitsDrop_any (A : Option Addr) (n c : Nat) (xs : List Int) (k : Int) (w : World) (hx : Ints w w.heap.size A n xs) :
    Calls Try.prog 17 #[.slice A n c, .int .i64 k] w (PairPost w (okD xs k) (xs.eraseIdx k.toNat)) := by
  have hl := hx.len
  have hbd := hx.bound
  have HX := Lib.hid hx
  clear hx
  rcases hok : Un.okU xs with _ | _
  · have e : okD xs k = false := by simp [okD, hok]
    rw [e]
    have HOK := Lib.hid hok
    clear hok e hl
    go_enter Try.func17, Try.ntmps17
    go_wp2_with fail
    refine (unitsOf_no HX.out HOK.out).mono ?_
    rintro e w1 ⟨⟨p, rfl⟩, hb⟩
    have HB := Lib.hid hb
    clear hb
    go_wp2
    go_ret2
    exact ⟨⟨_, _, _, rfl, Own.nil _ _⟩, HB.out⟩
  · have HOK := Lib.hid hok
    have hn8 := Un.okU_length hok
    by_cases hk : 0 ≤ k ∧ k < (n : Int)
    · have e : okD xs k = true := (okD_iff xs k).2 ⟨hok, hk.1, by omega⟩
      rw [e]
      obtain ⟨hk0, hk1⟩ := hk
      obtain ⟨j, rfl⟩ := Int.eq_ofNat_of_zero_le hk0
      have hj : j < xs.length := by omega
      have hel : (xs.eraseIdx j).length = n - 1 := by rw [List.length_eraseIdx_of_lt hj]; omega
      rw [Int.toNat_natCast]
      have HJ := Lib.hid hj
      have HEL := Lib.hid hel
      have HL := Lib.hid hl
      clear hok e hk0 hj hel hl
      go_enter Try.func17, Try.ntmps17
      go_wp2_with fail
      refine (unitsOf_yes HX.out HOK.out).mono ?_
      rintro e w1 ⟨⟨p, rfl, hc⟩, hb⟩
      have HC := Lib.hid hc
      have HB := Lib.hid hb
      clear hc hb
      go_wp2_with fail
      refine (without_any w.heap.size p xs j _ HC.out HB.out.size HJ.out (by have := HJ.out; omega)).mono ?_
      rintro e w2 ⟨⟨q, rfl, hc2⟩, hb2⟩
      have HC2 := Lib.hid hc2
      have HB2 := Lib.hid (HB.out.trans hb2)
      clear hc2 hb2
      go_wp2_with fail
      refine (list_any w.heap.size q _ _ HC2.out (by have := HEL.out; have := HL.out; omega)).mono ?_
      rintro e w3 ⟨⟨A3, c3, rfl, ho3⟩, hb3⟩
      have HO3 := Lib.hid (ho3.mono HB2.out.size)
      have HB3 := Lib.hid (below_chain HB2.out hb3)
      clear ho3 hb3
      go_wp2
      go_ret2
      exact ⟨⟨_, _, _, rfl, HO3.out⟩, HB3.out⟩
    · have e : okD xs k = false := by
        cases h : okD xs k with
        | false => rfl
        | true => have := (okD_iff xs k).1 h; omega
      rw [e]
      clear hok e
      have HL := Lib.hid hl
      clear hl
      rcases (show k < 0 ∨ (0 ≤ k ∧ (n : Int) ≤ k) from by omega) with h | ⟨h, h'⟩
      all_goals
        clear hk
        go_enter Try.func17, Try.ntmps17
        go_wp2_with fail
        refine (unitsOf_yes HX.out HOK.out).mono ?_
        rintro e w1 ⟨⟨p, rfl, -⟩, hb⟩
        have HB := Lib.hid hb
        clear hb
        go_wp2
        go_ret2
        exact ⟨⟨_, _, _, rfl, Own.nil _ _⟩, HB.out⟩

def splitL (xs : List Int) (k : Int) : List Int := Un.ins ((xs.getD k.toNat 0) * (xs.getD k.toNat 0 + 1)) (Un.ins (xs.getD k.toNat 0 + 1) (xs.eraseIdx k.toNat))
def okSp (xs : List Int) (k : Int) : Bool := okD xs k && Un.okU (splitL xs k)
theorem splitL_is {xs : List Int} {j : Nat} {d : Int} (h : xs[j]? = some d) : splitL xs (j : Int) = Un.ins (d * (d + 1)) (Un.ins (d + 1) (xs.eraseIdx j)) := by
  have e : xs.getD j 0 = d := by rw [List.getD_eq_getElem?_getD, h]; rfl
  rw [splitL, Int.toNat_natCast, e]
theorem sqr_in {d : Int} (h0 : 2 ≤ d) (h1 : d ≤ 1000000000) : 0 ≤ d * (d + 1) ∧ d * (d + 1) ≤ 1000000001000000000 := mul_in (m := 1000000000) (k := 1000000001) (by omega) h1 (by omega) (by omega)
set_option maxRecDepth 100000 in
set_option maxHeartbeats 1000000 in
theorem UnitsSplit_any (A : Option Addr) (n c : Nat) (xs : List Int) (k : Int) (w : World) (hx : Ints w w.heap.size A n xs) :
    Calls Try.prog 15 #[.slice A n c, .int .i64 k] w (PairPost w (okSp xs k) (splitL xs k)) := by
  have hl := hx.len
  have hbd := hx.bound
  have HX := Lib.hid hx
  clear hx
  rcases hok : Un.okU xs with _ | _
  · have e : okSp xs k = false := by simp [okSp, okD, hok]
    rw [e]
    have HOK := Lib.hid hok
    clear hok e hl
    go_enter Try.func15, Try.ntmps15
    go_wp2_with fail
    refine (unitsOf_no HX.out HOK.out).mono ?_
    rintro e w1 ⟨⟨p, rfl⟩, hb⟩
    have HB := Lib.hid hb
    clear hb
    go_wp2
    go_ret2
    exact ⟨⟨_, _, _, rfl, Own.nil _ _⟩, HB.out⟩
  · have HOK := Lib.hid hok
    have hn8 := Un.okU_length hok
    by_cases hk : 0 ≤ k ∧ k < (n : Int)
    · have e0 : okD xs k = true := (okD_iff xs k).2 ⟨hok, hk.1, by omega⟩
      have e : okSp xs k = Un.okU (splitL xs k) := by rw [okSp, e0, Bool.true_and]
      rw [e]
      obtain ⟨hk0, hk1⟩ := hk
      obtain ⟨j, rfl⟩ := Int.eq_ofNat_of_zero_le hk0
      have hj : j < xs.length := by omega
      have hjn : j < n := by omega
      have hu : xs[j]? = some xs[j] := List.getElem?_eq_getElem hj
      obtain ⟨d, hd⟩ : ∃ d, xs[j] = d := ⟨_, rfl⟩
      rw [hd] at hu
      obtain ⟨d2, d9⟩ := Un.okU_mem hok d (List.mem_of_getElem? hu)
      obtain ⟨m0, m1⟩ := sqr_in d2 d9
      have hsl : (splitL xs (j : Int)).length ≤ 10 := by
        rw [splitL_is hu, Un.ins_length, Un.ins_length, List.length_eraseIdx_of_lt hj]; omega
      have HJ := Lib.hid hj
      have HSL := Lib.hid hsl
      have HSP := Lib.hid (splitL_is hu)
      have HU := Lib.hid hu
      clear hok e e0 hk0 hj hsl hl hd hu
      go_enter Try.func15, Try.ntmps15
      go_wp2_with fail
      refine (unitsOf_yes HX.out HOK.out).mono ?_
      rintro e w1 ⟨⟨p, rfl, hc⟩, hb⟩
      obtain ⟨b7, off7, u7, rfl, hub7, hu7, hcu7⟩ := (HX.out.below hb).at_ hjn
      obtain rfl : u7 = d := by have := HU.out; rw [hu7] at this; injection this
      have HC := Lib.hid hc
      have HB := Lib.hid hb
      clear hc hb hu7
      go_wp2_with fail
      refine (without_any w.heap.size p xs j _ HC.out HB.out.size HJ.out (by have := HJ.out; omega)).mono ?_
      rintro e w2 ⟨⟨q, rfl, hc2⟩, hb2⟩
      have HC2 := Lib.hid hc2
      have HB2 := Lib.hid (HB.out.trans hb2)
      clear hc2 hb2
      go_wp2_with fail
      refine (with_any w.heap.size q _ (u7 + 1) _ HC2.out HB2.out.size).mono ?_
      rintro e w3 ⟨⟨q3, rfl, hc3⟩, hb3⟩
      have HC3 := Lib.hid hc3
      have HB3 := Lib.hid (HB2.out.trans hb3)
      clear hc3 hb3
      go_wp2_with fail
      refine (with_any w.heap.size q3 _ (u7 * (u7 + 1)) _ HC3.out HB3.out.size).mono ?_
      rintro e w4 ⟨⟨q4, rfl, hc4⟩, hb4⟩
      rw [← HSP.out] at hc4
      have HC4 := Lib.hid hc4
      have HB4 := Lib.hid (HB3.out.trans hb4)
      clear hc4 hb4
      go_wp2_with fail
      refine (units_any w.heap.size q4 _ _ HC4.out (by have := HSL.out; omega)).mono ?_
      rintro e w5 ⟨⟨A5, n5, c5, rfl, ho5⟩, hb5⟩
      have HO5 := Lib.hid (ho5.mono HB4.out.size)
      have HB5 := Lib.hid (below_chain HB4.out hb5)
      clear ho5 hb5
      generalize Un.okU (splitL xs (j : Int)) = ok at *
      go_wp2
      go_ret2
      exact ⟨⟨_, _, _, rfl, HO5.out⟩, HB5.out⟩
    · have e : okSp xs k = false := by
        cases h : okD xs k with
        | false => rw [okSp, h]; rfl
        | true => have := (okD_iff xs k).1 h; omega
      rw [e]
      clear hok e
      have HL := Lib.hid hl
      clear hl
      rcases (show k < 0 ∨ (0 ≤ k ∧ (n : Int) ≤ k) from by omega) with h | ⟨h, h'⟩
      all_goals
        clear hk
        go_enter Try.func15, Try.ntmps15
        go_wp2_with fail
        refine (unitsOf_yes HX.out HOK.out).mono ?_
        rintro e w1 ⟨⟨p, rfl, -⟩, hb⟩
        have HB := Lib.hid hb
        clear hb
        go_wp2
        go_ret2
        exact ⟨⟨_, _, _, rfl, Own.nil _ _⟩, HB.out⟩

def okJ (xs ys : List Int) : Bool := Un.okU xs && Un.okU ys && Un.okU (Un.insAll xs ys)
theorem insAll_next {xs ys : List Int} {k : Nat} {u : Int} (h : ys[k]? = some u) : Un.insAll xs (ys.take (k + 1)) = Un.ins u (Un.insAll xs (ys.take k)) := by
  rw [take_next h, Un.insAll, Un.insAll, List.foldl_append]; rfl
set_option maxRecDepth 100000 in
set_option maxHeartbeats 1000000 in
theorem UnitsJoin_any (A : Option Addr) (n c : Nat) (B : Option Addr) (m d : Nat) (xs ys : List Int) (w : World) (hx : Ints w w.heap.size A n xs) (hy : Ints w w.heap.size B m ys) :
    Calls Try.prog 10 #[.slice A n c, .slice B m d] w (PairPost w (okJ xs ys) (Un.insAll xs ys)) := by
  have hbd := hy.bound
  have HX := Lib.hid hx
  have HY := Lib.hid hy
  clear hx hy
  rcases hokx : Un.okU xs with _ | _
  · have e : okJ xs ys = false := by simp [okJ, hokx]
    rw [e]
    have HOKX := Lib.hid hokx
    clear hokx e
    go_enter Try.func10, Try.ntmps10
    go_wp2_with fail
    refine (unitsOf_no HX.out HOKX.out).mono ?_
    rintro e w1 ⟨⟨p, rfl⟩, hb⟩
    have HY1 := Lib.hid (HY.out.next hb)
    have HB := Lib.hid hb
    clear hb
    go_wp2_with fail
    refine (unitsOf_any _ _ _ _ _ HY1.out).mono ?_
    rintro e w2 ⟨⟨p2, rfl, -⟩, hb2⟩
    have HB2 := Lib.hid (below_chain HB.out hb2)
    clear hb2
    generalize Un.okU ys = oky
    go_wp2
    go_ret2
    exact ⟨⟨_, _, _, rfl, Own.nil _ _⟩, HB2.out⟩
  · have HOKX := Lib.hid hokx
    rcases hoky : Un.okU ys with _ | _
    · have e : okJ xs ys = false := by simp [okJ, hoky]
      rw [e]
      have HOKY := Lib.hid hoky
      clear hokx hoky e
      go_enter Try.func10, Try.ntmps10
      go_wp2_with fail
      refine (unitsOf_yes HX.out HOKX.out).mono ?_
      rintro e w1 ⟨⟨p, rfl, -⟩, hb⟩
      have HY1 := Lib.hid (HY.out.next hb)
      have HB := Lib.hid hb
      clear hb
      go_wp2_with fail
      refine (unitsOf_no HY1.out HOKY.out).mono ?_
      rintro e w2 ⟨⟨p2, rfl⟩, hb2⟩
      have HB2 := Lib.hid (below_chain HB.out hb2)
      clear hb2
      go_wp2
      go_ret2
      exact ⟨⟨_, _, _, rfl, Own.nil _ _⟩, HB2.out⟩
    · have e : okJ xs ys = Un.okU (Un.insAll xs ys) := by simp [okJ, hokx, hoky]
      rw [e]
      have hlx := Un.okU_length hokx
      have hly := Un.okU_length hoky
      rw [HY.out.len] at hly
      have hlj : (Un.insAll xs ys).length ≤ 100 := by rw [Un.insAll_length, HY.out.len]; omega
      have HLJ := Lib.hid hlj
      have HOKY := Lib.hid hoky
      clear hokx hoky e hlj hlx
      go_enter Try.func10, Try.ntmps10
      go_wp2_with fail
      refine (unitsOf_yes HX.out HOKX.out).mono ?_
      rintro e w1 ⟨⟨p, rfl, hc⟩, hb⟩
      have HY1 := Lib.hid (HY.out.next hb)
      have HC := Lib.hid hc
      have HB := Lib.hid hb
      clear hb hc
      go_wp2_with fail
      refine (unitsOf_yes HY1.out HOKY.out).mono ?_
      rintro e w2 ⟨⟨p2, rfl, -⟩, hb2⟩
      have HC2 := Lib.hid (HC.out.next hb2)
      have HB2 := Lib.hid (below_chain HB.out hb2)
      clear hb2 HC HB HY1
      go_wp2_with fail
      go_loopw [6, 30] (fun hv iv wr => ∃ (k : Nat) (q : Option Addr), k ≤ m ∧ hv = .pointer q ∧ iv = .int .i64 (k : Int) ∧ Cha wr w.heap.size q (Un.insAll xs (ys.take k)) ∧ Below w.heap.size w wr) (fun _ iv _ => m - (intOf iv).toNat)
      case atStart => exact ⟨0, p, by omega, rfl, by go_num, by simpa [Un.insAll] using HC2.out, HB2.out⟩
      case round =>
        clear HC2 HB2
        obtain ⟨k, q, hk, rfl, rfl, hch, hbel⟩ := hrel
        have HC := Lib.hid hch
        have HB := Lib.hid hbel
        clear hch hbel
        by_cases hlt : k < m
        · obtain ⟨b, off, u, rfl, hub, hu, hcu⟩ := (HY.out.below HB.out).at_ hlt
          have HN := Lib.hid (insAll_next (xs := xs) hu)
          clear hu
          go_wp2_with fail
          refine (with_any w.heap.size q _ u _ HC.out HB.out.size).mono ?_
          rintro e w3 ⟨⟨q3, rfl, hc3⟩, hb3⟩
          rw [← HN.out] at hc3
          have HC3 := Lib.hid hc3
          have HB3 := Lib.hid (HB.out.trans hb3)
          clear hc3 hb3
          go_wp2_with fail
          go_roundw
          case rel => exact ⟨k + 1, q3, by omega, rfl, by go_num, HC3.out, HB3.out⟩
          case measure => simp [intOf]; omega
        · obtain rfl : k = m := by omega
          have hall : ys.take k = ys := List.take_of_length_le (by have := HY.out.len; omega)
          rw [hall] at HC
          clear hall
          go_wp2_with fail
          refine (units_any w.heap.size q _ _ HC.out (by have := HLJ.out; omega)).mono ?_
          rintro e w5 ⟨⟨A5, n5, c5, rfl, ho5⟩, hb5⟩
          have HO5 := Lib.hid (ho5.mono HB.out.size)
          have HB5 := Lib.hid (below_chain HB.out hb5)
          clear ho5 hb5
          go_wp2
          go_ret2
          exact ⟨⟨_, _, _, rfl, HO5.out⟩, HB5.out⟩
end Go.Proofs.Ytnljemgglmokjaa
