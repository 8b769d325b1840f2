/-
  FnExactTalliesSettle returns true for every list: the program's TalliesSettle returns what the reference's returns, leaves its argument, and shares no memory.
-/
import Derived.Test.YtogplbnabffcfaaTaEx4
import Derived.Test.YtogplbnabffcfaaTaRef5
namespace Go.Proofs.Ytogplbnabffcfaa.fnExactTalliesSettle
open Go.RowKit
set_option linter.unusedSimpArgs false

/-- what settling a list gives -/
def outT (ts : List Tl) : List Tl × Bool := if okL ts = true then (match Ta.settle 5 (bal (ts.map debtOf)) with | some out => (out.map payT, true) | none => ([], false)) else ([], false)
theorem outT_yes {ts : List Tl} {out : List (Nat × Nat × Int)} (h1 : okL ts = true) (h2 : Ta.settle 5 (bal (ts.map debtOf)) = some out) : outT ts = (out.map payT, true) := by unfold outT; rw [if_pos h1, h2]
theorem outT_no {ts : List Tl} (h : okL ts = false ∨ Ta.settle 5 (bal (ts.map debtOf)) = none) : outT ts = ([], false) := by
  unfold outT
  rcases h with h | h
  · rw [if_neg (by rw [h]; simp)]
  · rw [h]; split <;> rfl
theorem post_of {w w' : World} {ts us : List Tl} {ok : Bool} {e : Ending} (h : SettlePost w ts e w') (hu : outT ts = (us, ok)) : ∃ A c, e = .returned (.tuple #[.slice A us.length c, .bool ok]) ∧ OwnT w' w.heap.size A us.length c us ∧ Below w.heap.size w w' := by
  obtain ⟨⟨out, h1, h2, A, c, rfl, ho⟩ | ⟨h1, rfl⟩, hb⟩ := h
  · rw [outT_yes h1 h2] at hu
    injection hu with e1 e2
    subst e1; subst e2
    rw [List.length_map]
    exact ⟨A, c, rfl, ho, hb⟩
  · rw [outT_no h1] at hu
    injection hu with e1 e2
    subst e1; subst e2
    exact ⟨none, 0, rfl, OwnR.nil _ _ _ _, hb⟩
theorem spost_of {w w' : World} {ts us : List Tl} {ok : Bool} {e : Ending} (h : SSettlePost w ts e w') (hu : outT ts = (us, ok)) : ∃ A c, e = .returned (.tuple #[.slice A us.length c, .bool ok]) ∧ Tals w' w'.heap.size A us.length us ∧ Below w.heap.size w w' := by
  obtain ⟨⟨out, h1, h2, A, c, rfl, ho⟩ | ⟨h1, g, c, rfl⟩, hb⟩ := h
  · rw [outT_yes h1 h2] at hu
    injection hu with e1 e2
    subst e1; subst e2
    rw [List.length_map]
    exact ⟨A, c, rfl, ho.tals, hb⟩
  · rw [outT_no h1] at hu
    injection hu with e1 e2
    subst e1; subst e2
    exact ⟨some ⟨g, 0, none⟩, c, rfl, Row.nil _ _ _ _, hb⟩
theorem outT_len (ts : List Tl) : (outT ts).1.length ≤ 1048576 := by
  unfold outT
  split
  · rename_i hok
    cases h : Ta.settle 5 (bal (ts.map debtOf)) with
    | none => simp
    | some out => have := (settled hok h).few; simp; omega
  · simp
/-- a row below a block, while rows of the call's own from that block on change -/
theorem row_grown {w w' : World} {B n k : Nat} {A : Option Addr} {vs : List Value} {row : Option Nat} (h : Row w B A n k vs) (hg : w.grownBy w' row) (hB : B ≤ w.heap.size) (hr : ∀ q, row = some q → B ≤ q) : Row w' B A n k vs :=
  h.keep fun _ hp => (grown_below hg hB hr).cell hp
set_option maxRecDepth 100000 in
set_option maxHeartbeats 4000000 in
theorem walk (a0 : Option Addr) (len0 cap0 : Nat) (z0 : List Tl) (w : World) (w0 : RawT w a0 len0 z0) :
    Calls Try.prog 5 #[.slice a0 len0 cap0] w fun e w' => e = .returned (.bool true) ∧ Below w.heap.size w w' := by
  obtain ⟨us, ok, hout⟩ : ∃ us ok, outT z0 = (us, ok) := ⟨_, _, rfl⟩
  have hlen : us.length ≤ 1048576 := by have := outT_len z0; rw [hout] at this; exact this
  have HOUT := Lib.hid hout
  have HR := Lib.hid w0
  have hokk : (ok != ok) = false := by simp
  clear w0 hout
  go_enter Try.func5, Try.ntmps5
  go_wp2_with fail
  refine (szTallyS_any a0 len0 cap0 z0 w HR.out).mono ?_
  rintro e w1 ⟨r, rfl, hr, hb1⟩
  rcases hr with rfl | ⟨hr0, hn, hsm⟩
  · have HB1 := Lib.hid hb1
    clear hb1
    go_wp2
    go_ret
    exact ⟨rfl, HB1.out⟩
  have HSM := Lib.hid (show Small z0 from fun t ht => by have := hsm t ht; omega)
  have HI := Lib.hid (show Tals w1 w1.heap.size a0 len0 z0 from Row.next (HR.out.tals (by omega)) hb1)
  have HB1 := Lib.hid hb1
  clear hb1 hsm HR
  go_wp2_with fail
  refine (toTallyS_any a0 len0 cap0 z0 w1 HI.out hn).mono ?_
  rintro e w2 ⟨A2, c2, rfl, ho2, hb2⟩
  replace HI := Lib.hid (show Tals w2 w2.heap.size a0 len0 z0 from Row.next HI.out hb2)
  have HB2 := Lib.hid (below_chain HB1.out hb2)
  have HI2 := Lib.hid ho2.tals
  clear ho2 hb2
  go_wp2_with fail
  refine (specTalliesSettle_any A2 len0 c2 z0 w2 HI2.out HSM.out).mono ?_
  intro e w3 hp3
  obtain ⟨A3, c3, rfl, hw3, hb3⟩ := spost_of hp3 HOUT.out
  replace HI := Lib.hid (show Tals w3 w3.heap.size a0 len0 z0 from Row.next HI.out hb3)
  have HB3 := Lib.hid (below_chain HB2.out hb3)
  have HW := Lib.hid hw3
  clear hp3 hw3 hb3 HI2
  go_wp2_with fail
  refine (toTallyS_any a0 len0 cap0 z0 w3 HI.out hn).mono ?_
  rintro e w4 ⟨A4, c4, rfl, ho4, hb4⟩
  have HI4 := Lib.hid (show Tals w4 w3.heap.size a0 len0 z0 from Row.below HI.out hb4)
  have HW4 := Lib.hid (show Tals w4 w3.heap.size A3 us.length us from Row.below HW.out hb4)
  have HX4 := Lib.hid ho4
  have HB4 := Lib.hid (below_chain HB3.out hb4)
  have HS4 := Lib.hid hb4.size
  clear ho4 hb4
  go_wp2_with fail
  refine (TalliesSettle_any A4 len0 c4 z0 w4 (OwnT.tals HX4.out) HSM.out).mono ?_
  intro e w5 hp5
  obtain ⟨A5, c5, rfl, ho5, hb5⟩ := post_of hp5 HOUT.out
  have HI5 := Lib.hid (show Tals w5 w3.heap.size a0 len0 z0 from Row.below HI4.out (hb5.mono HS4.out))
  have HW5 := Lib.hid (show Tals w5 w3.heap.size A3 us.length us from Row.below HW4.out (hb5.mono HS4.out))
  have HX5 := Lib.hid (HX4.out.next hb5)
  have HXL := Lib.hid (show ∀ q, (Value.slice A4 len0 c4).ownBlock = some q → w3.heap.size ≤ q ∧ q < w4.heap.size from HX4.out.blk)
  have HG5 := Lib.hid ho5
  have HB5 := Lib.hid (below_chain HB4.out hb5)
  have HS5 := Lib.hid (And.intro (Nat.le_trans HS4.out hb5.size) hb5.size)
  clear hp5 ho5 hb5
  go_wp2_with fail
  refine (eqTallyS_any A5 A3 us.length us.length c5 c3 us us w5 (OwnT.tals HG5.out) (HW5.out.mono HS5.out.1)).mono ?_
  rintro e w6 ⟨rfl, hb6⟩
  rw [sameT_yes rfl]
  have HI6 := Lib.hid (show Tals w6 w3.heap.size a0 len0 z0 from Row.below HI5.out (hb6.mono HS5.out.1))
  have HW6 := Lib.hid (show Tals w6 w3.heap.size A3 us.length us from Row.below HW5.out (hb6.mono HS5.out.1))
  have HX6 := Lib.hid (HX5.out.next hb6)
  have HG6 := Lib.hid (HG5.out.next hb6)
  have HB6 := Lib.hid (below_chain HB5.out hb6)
  have HS6 := Lib.hid (And.intro (Nat.le_trans HS5.out.1 hb6.size) (Nat.le_trans HS5.out.2 hb6.size))
  clear hb6
  go_wp2_with fail
  refine (toTallyS_any a0 len0 cap0 z0 w6 (HI6.out.mono HS6.out.1) hn).mono ?_
  rintro e w7 ⟨A7, c7, rfl, ho7, hb7⟩
  have HI7 := Lib.hid (show Tals w7 w3.heap.size a0 len0 z0 from Row.below HI6.out (hb7.mono HS6.out.1))
  have HW7 := Lib.hid (show Tals w7 w3.heap.size A3 us.length us from Row.below HW6.out (hb7.mono HS6.out.1))
  have HX7 := Lib.hid (HX6.out.next hb7)
  have HG7 := Lib.hid (HG6.out.next hb7)
  have HB7 := Lib.hid (below_chain HB6.out hb7)
  have HS7 := Lib.hid (And.intro (Nat.le_trans HS6.out.1 hb7.size) (Nat.le_trans HS6.out.2 hb7.size))
  have HT7 := Lib.hid ho7.tals
  clear ho7 hb7
  go_wp2_with fail
  refine (eqTallyS_any A4 A7 len0 len0 c4 c7 z0 z0 w7 (OwnT.tals HX7.out) HT7.out).mono ?_
  rintro e w8 ⟨rfl, hb8⟩
  rw [sameT_yes rfl]
  have HI8 := Lib.hid (show Tals w8 w3.heap.size a0 len0 z0 from Row.below HI7.out (hb8.mono HS7.out.1))
  have HW8 := Lib.hid (show Tals w8 w3.heap.size A3 us.length us from Row.below HW7.out (hb8.mono HS7.out.1))
  have HX8 := Lib.hid (HX7.out.next hb8)
  have HG8 := Lib.hid (HG7.out.next hb8)
  have HB8 := Lib.hid (below_chain HB7.out hb8)
  have HS8 := Lib.hid (And.intro (Nat.le_trans HS7.out.1 hb8.size) (Nat.le_trans HS7.out.2 hb8.size))
  clear hb8
  go_wp2_with fail
  refine (markTallyS_any A4 len0 c4 1 w3.heap.size z0 w8 HX8.out hn (by omega) (by omega)).mono ?_
  rintro e w9 ⟨rfl, _, hg9⟩
  have HI9 := Lib.hid (show Tals w9 w3.heap.size a0 len0 z0 from row_grown HI8.out hg9 HS8.out.1 (fun q hq => (HXL.out q hq).1))
  have HW9 := Lib.hid (show Tals w9 w3.heap.size A3 us.length us from row_grown HW8.out hg9 HS8.out.1 (fun q hq => (HXL.out q hq).1))
  have HG9 := Lib.hid (HG8.out.kept hg9 (fun q hq e => by have := (HG8.out.blk q hq).1; have := (HXL.out q e).2; omega))
  have HB9 := Lib.hid (HB8.out.grown hg9 HB8.out.size (fun q hq => by have := (HXL.out q hq).1; have := HB3.out.size; omega))
  have HS9 := Lib.hid (And.intro (Nat.le_trans HS8.out.1 hg9.size) (Nat.le_trans HS8.out.2 hg9.size))
  clear hg9
  go_wp2_with fail
  refine (eqTallyS_any A5 A3 us.length us.length c5 c3 us us w9 (OwnT.tals HG9.out) (HW9.out.mono HS9.out.1)).mono ?_
  rintro e w10 ⟨rfl, hb10⟩
  rw [sameT_yes rfl]
  have HI10 := Lib.hid (show Tals w10 w3.heap.size a0 len0 z0 from Row.below HI9.out (hb10.mono HS9.out.1))
  have HW10 := Lib.hid (show Tals w10 w3.heap.size A3 us.length us from Row.below HW9.out (hb10.mono HS9.out.1))
  have HG10 := Lib.hid (HG9.out.next hb10)
  have HB10 := Lib.hid (below_chain HB9.out hb10)
  have HS10 := Lib.hid (And.intro (Nat.le_trans HS9.out.1 hb10.size) (Nat.le_trans HS9.out.2 hb10.size))
  clear hb10
  go_wp2_with fail
  refine (markTallyS_any A5 us.length c5 1 w4.heap.size us w10 HG10.out hlen (by omega) (by omega)).mono ?_
  rintro e w11 ⟨rfl, ho11, hg11⟩
  have HI11 := Lib.hid (show Tals w11 w3.heap.size a0 len0 z0 from row_grown HI10.out hg11 HS10.out.1 (fun q hq => by have := (HG10.out.blk q hq).1; have := HS4.out; omega))
  have HW11 := Lib.hid (show Tals w11 w3.heap.size A3 us.length us from row_grown HW10.out hg11 HS10.out.1 (fun q hq => by have := (HG10.out.blk q hq).1; have := HS4.out; omega))
  have HG11 := Lib.hid ho11
  have HB11 := Lib.hid (HB10.out.grown hg11 HB10.out.size (fun q hq => by have := (HG10.out.blk q hq).1; have := HS4.out; have := HB3.out.size; omega))
  have HS11 := Lib.hid (And.intro (Nat.le_trans HS10.out.1 hg11.size) (Nat.le_trans HS10.out.2 hg11.size))
  clear ho11 hg11
  go_wp2_with fail
  refine (heldTallyS_any A5 us.length c5 1 w11 (OwnT.tals HG11.out) hlen (by omega) (by omega)).mono ?_
  rintro e w12 ⟨rfl, hb12⟩
  have HI12 := Lib.hid (show Tals w12 w3.heap.size a0 len0 z0 from Row.below HI11.out (hb12.mono HS11.out.1))
  have HW12 := Lib.hid (show Tals w12 w3.heap.size A3 us.length us from Row.below HW11.out (hb12.mono HS11.out.1))
  have HG12 := Lib.hid (HG11.out.next hb12)
  have HB12 := Lib.hid (below_chain HB11.out hb12)
  have HS12 := Lib.hid (And.intro (Nat.le_trans HS11.out.1 hb12.size) (Nat.le_trans HS11.out.2 hb12.size))
  clear hb12
  go_wp2_with fail
  refine (toTallyS_any a0 len0 cap0 z0 w12 (HI12.out.mono HS12.out.1) hn).mono ?_
  rintro e w13 ⟨A13, c13, rfl, ho13, hb13⟩
  have HW13 := Lib.hid (show Tals w13 w3.heap.size A3 us.length us from Row.below HW12.out (hb13.mono HS12.out.1))
  have HG13 := Lib.hid (HG12.out.next hb13)
  have HB13 := Lib.hid (below_chain HB12.out hb13)
  have HS13 := Lib.hid (And.intro (Nat.le_trans HS12.out.1 hb13.size) (Nat.le_trans HS12.out.2 hb13.size))
  have HT13 := Lib.hid ho13.tals
  clear ho13 hb13
  go_wp2_with fail
  refine (TalliesSettle_any A13 len0 c13 z0 w13 HT13.out HSM.out).mono ?_
  intro e w14 hp14
  obtain ⟨A14, c14, rfl, ho14, hb14⟩ := post_of hp14 HOUT.out
  have HW14 := Lib.hid (show Tals w14 w3.heap.size A3 us.length us from Row.below HW13.out (hb14.mono HS13.out.1))
  have HG14 := Lib.hid (HG13.out.next hb14)
  have HB14 := Lib.hid (below_chain HB13.out hb14)
  have HS14 := Lib.hid (And.intro (Nat.le_trans HS13.out.1 hb14.size) (Nat.le_trans HS13.out.2 hb14.size))
  have HT14 := Lib.hid ho14.tals
  clear hp14 ho14 hb14
  go_wp2_with fail
  refine (eqTallyS_any A14 A3 us.length us.length c14 c3 us us w14 HT14.out (HW14.out.mono HS14.out.1)).mono ?_
  rintro e w15 ⟨rfl, hb15⟩
  rw [sameT_yes rfl]
  have HG15 := Lib.hid (HG14.out.next hb15)
  have HB15 := Lib.hid (below_chain HB14.out hb15)
  clear hb15
  go_wp2_with fail
  refine (heldTallyS_any A5 us.length c5 1 w15 (OwnT.tals HG15.out) hlen (by omega) (by omega)).mono ?_
  rintro e w16 ⟨rfl, hb16⟩
  have HB16 := Lib.hid (below_chain HB15.out hb16)
  clear hb16
  go_wp2
  go_ret
  exact ⟨rfl, HB16.out⟩
end Go.Proofs.Ytogplbnabffcfaa.fnExactTalliesSettle
