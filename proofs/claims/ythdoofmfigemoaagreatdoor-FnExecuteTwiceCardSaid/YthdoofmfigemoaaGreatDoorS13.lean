/-
  Joined texts.
-/
import Derived.Test.YthdoofmfigemoaaGreatDoorS8
import Derived.Test.YthdoofmfigemoaaGreatDoorS9
import Derived.Test.YthdoofmfigemoaaGreatDoorS10
set_option linter.unusedSimpArgs false
set_option linter.unusedVariables false
set_option maxRecDepth 100000
set_option maxHeartbeats 4000000
namespace Go.Proofs.YthdoofmfigemoaaGreatDoor
open Go.RowKit
theorem fr_chg_len (s : Int) : ∀ (ds : List Int) (g : Int) (r : List Int) (n : Int), Fr.chg s ds g = some (r, n) → r.length = ds.length
 | [], g, r, n, h => by
  unfold Fr.chg at h
  split at h
  ·injection h with h; injection h with h1 h2; subst h1; rfl
  ·cases h
 | d :: ds, g, r, n, h => by
  unfold Fr.chg at h
  split at h
  ·injection h with h; injection h with h1 h2; subst h1; rfl
  ·split at h
   ·injection h with h; injection h with h1 h2; subst h1; rfl
   ·cases hc : Fr.chg s ds 1 with
    | none => rw [hc] at h; cases h
    | some p =>
     rw [hc] at h
     injection h with h
     injection h with h1 h2
     subst h1
     have := fr_chg_len s ds 1 p.1 p.2 hc
     simp [this]
theorem fr_all_upper (s : Int) : ∀ (k : Nat) (ds : List Int) (N : Int) (r : List Int) (n : Int), ds.length ≤ 4 → Fr.allF s k ds N = some (r, n) → n ≤ 8 * (k : Int)
 | 0, ds, N, r, n, hl, h => by
  unfold Fr.allF at h
  split at h
  ·injection h with h; injection h with h1 h2; subst h2; simp
  ·cases h
 | k + 1, ds, N, r, n, hl, h => by
  unfold Fr.allF at h
  split at h
  ·injection h with h; injection h with h1 h2; subst h2; omega
  ·cases hc : Fr.chg s ds (N % 10) with
   | none => rw [hc] at h; cases h
   | some p =>
    obtain ⟨r1, n1⟩ := p
    rw [hc] at h
    have hu := (chg_upper s ds _ r1 n1 hc).2
    have hlen := fr_chg_len s ds _ r1 n1 hc
    cases r1 with
    | nil => cases h
    | cons d1 ds1 =>
     simp only at h
     cases ha : Fr.allF s k ds1 (N / 10) with
     | none => rw [ha] at h; cases h
     | some p =>
      obtain ⟨r2, n2⟩ := p
      rw [ha] at h
      injection h with h
      injection h with h1 h2
      simp at hlen
      have := fr_all_upper s k ds1 (N / 10) r2 n2 (by omega) ha
      simp at h2
      omega
theorem frBy_upper {s : Int} {ds r : List Int} {N n : Int} (hl : ds.length = 4) (h : frBy s ds N = some (r, n)) : n ≤ 1000 := by
 unfold frBy at h
 split at h
 ·have := fr_all_upper s ds.length ds N r n (by omega) h
  omega
 ·cases h
def zeros4 : List Int := List.replicate 4 0
theorem zeros4_digs : Fr.Digs zeros4 := by intro d hd; have := List.eq_of_mem_replicate hd; omega
def wAdd : List UInt8 := [97, 100, 100]
def wTake : List UInt8 := [116, 97, 107, 101]
def wFrame : List UInt8 := [102, 114, 97, 109, 101]
theorem root_bd {n : Nat} (hn : n ≤ 1000000000) : 0 ≤ Gl.rtR n ∧ Gl.rtR n ≤ 1000000000 ∧ 0 ≤ Gl.rtS n ∧ Gl.rtS n ≤ 1000000000 := by
 obtain ⟨⟨h0, h1, h2, h3⟩, _⟩ := Gl.rt_inv n
 have hq : Gl.rtR n ≤ Gl.rtR n * Gl.rtR n := by
  by_cases h : Gl.rtR n = 0
  ·rw [h]; omega
  ·have := Int.mul_le_mul_of_nonneg_left (show (1 : Int) ≤ Gl.rtR n by omega) h0
   omega
 omega
def rootT (n : Nat) : List UInt8 := Lib.itoa (Gl.rtR n) ++ 32 :: Lib.itoa (Gl.rtS n)
theorem root_cmd (B0 tb : Nat) (bds ds : List Int) (ts : List Tl) (n : Nat) (hn : n ≤ 1000000000) (A0 : Option Addr) (n0 : Nat) (w : World) (hnum : Own w B0 A0 1 n0 [(n : Int)]) (h : Tab B0 w tb bds ds ts) (hw : B0 ≤ w.heap.size) (hp : Pow B0 w) :
  Calls Tryz.prog 170 #[.pointer (some ⟨tb, 0, none⟩), .slice A0 1 n0] w (CmdPost B0 (Tell B0 tb bds ds ts (bs (rootT n))) w) := by
 obtain ⟨g, rfl, _, hg, hcell, _⟩ := hnum.at_ (by omega)
 have d0 := hcell 0 (n : Int) rfl
 obtain ⟨r0, r1, s0, s1⟩ := root_bd hn
 obtain ⟨R, hR⟩ : ∃ R, Gl.rtR n = R := ⟨_, rfl⟩
 obtain ⟨S, hS⟩ : ∃ S, Gl.rtS n = S := ⟨_, rfl⟩
 have hroot := fun w => RootOf_yes n w hn
 have hT : (dec R ++ ⟨#[32]⟩) ++ dec S = bs (rootT n) := by
  show (bs (Lib.itoa R) ++ bs [32]) ++ bs (Lib.itoa S) = _
  rw [bs_append, bs_append]
  simp [rootT, hR, hS]
 rw [hR, hS] at hroot
 rw [hR] at r0 r1
 rw [hS] at s0 s1
 have hz1 := dec_size R (by omega) (by omega)
 have hz2 := dec_size S (by omega) (by omega)
 have hl1 := no_long (n := (dec R).size) (by omega) 1 (by omega)
 have hl2 := no_long (n := (dec R).size + 1) (by omega) (dec S).size (by omega)
 have hl3 := no_long (n := (dec R).size + 1 + (dec S).size) (by omega) 1 (by omega)
 have HT := Hd h
 have HR := Hd hroot
 have HW := Hd hw
 have HP := Hd hp
 have HTT := Hd hT
 clear h hroot hw hp hT hnum hcell hz1 hz2 hR hS
 go_enter Tryz.func170, Tryz.ntmps170
 go_wp2_with fail
 refine (HR.out _).mono ?_
 rintro e w1 ⟨rfl, hb1⟩
 have HB1 := Hd hb1
 clear hb1
 go_wp2_with fail
 refine (Itoa_any (HP.out.below (HB1.out.mono HW.out)) R (by omega) (by omega)).mono ?_
 rintro e w2 ⟨rfl, hb2⟩
 have HB2 := Hd (HB1.out.trans (hb2.mono HB1.out.size))
 clear hb2
 go_wp2_with fail
 refine (Itoa_any (HP.out.below (HB2.out.mono HW.out)) S (by omega) (by omega)).mono ?_
 rintro e w3 ⟨rfl, hb3⟩
 have HB3 := Hd (HB2.out.trans (hb3.mono HB2.out.size))
 clear hb3
 go_wp2_with fail
 refine bodyPost_ret (v := .tuple #[.string (((dec R ++ ⟨#[32]⟩) ++ dec S) ++ ⟨#[10]⟩), .bool true]) (by simp [results, Tryz.results170, go_sem]) rfl ?_
 rw [HTT.out]
 exact ⟨_, _, rfl, ⟨rfl, rfl, HT.out.next HB3.out⟩, KeptT.of_below HB3.out⟩
theorem does_root (s : St) (n : Nat) (hn : n ≤ 1000000000) : CmdDoes 170 [(n : Int)] s (bs (rootT n) ++ ⟨#[10]⟩) s := by
 refine ⟨fun args w => by simp [go_sem], fun B0 tb w A n0 hnum ht hw hp => ?_⟩
 refine (root_cmd B0 tb s.bs s.ds s.ts n hn A n0 w hnum ht hw hp).mono fun e w' h => ?_
 obtain ⟨t, ok, rfl, ⟨rfl, rfl, h⟩, hk⟩ := h
 exact ⟨_, _, rfl, ⟨rfl, h⟩, hk⟩
def wRoot : List UInt8 := [114, 111, 111, 116]
def fac (n : Int) : Bool := decide (1 ≤ n) && decide (n ≤ 100000)
theorem DupTimes_no (a b : Int) (w : World) (h : (fac a && fac b) = false) : Calls Tryz.prog 33 #[.int .i64 a, .int .i64 b] w fun e w' => e = .returned (.int .i64 (-1)) ∧ Below w.heap.size w w' := by
 refine (callsIn_wide (n := 9)).1 ?_
 refine callsIn_of_wp Tryz.func33 rfl trivial ?_ rfl
 simp only [Tryz.ntmps33, List.size_toArray, List.length_cons, List.length_nil, Nat.reduceAdd, Nat.reduceSub, Array.replicate_succ, Array.replicate_zero, List.push_toArray, List.append_toArray, List.nil_append, List.cons_append]
 by_cases ha : fac a = true
 ·have hb : fac b = false := by rw [ha] at h; simpa using h
  gi_wp2_with fail
  refine ⟨trivial, ?_⟩
  refine (callsIn_wide.2 (isFactor_is ha _)).mono ?_
  rintro e w' ⟨rfl, rfl⟩
  gi_wp2_with fail
  refine ⟨trivial, ?_⟩
  refine (callsIn_wide.2 (isFactor_is hb _)).mono ?_
  rintro e w' ⟨rfl, rfl⟩
  gi_wp2_with fail
  refine bodyPost_ret (results_tmp rfl _ _ _) rfl ?_
  exact ⟨rfl, Below.refl _ _⟩
 ·have ha : fac a = false := by simpa using ha
  gi_wp2_with fail
  refine ⟨trivial, ?_⟩
  refine (callsIn_wide.2 (isFactor_is ha _)).mono ?_
  rintro e w' ⟨rfl, rfl⟩
  gi_wp2_with fail
  refine ⟨trivial, ?_⟩
  gi_wp2_with fail
  refine bodyPost_ret (results_tmp rfl _ _ _) rfl ?_
  exact ⟨rfl, Below.refl _ _⟩
theorem specDupRows_no (a b : Int) (w : World) (h : ¬ ((1 ≤ a ∧ a ≤ 100000) ∧ 1 ≤ b ∧ b ≤ 100000)) :
  Calls Tryz.prog 77 #[.int .i64 a, .int .i64 b] w fun e w' => ∃ A n c A' n' c', e = .returned (.tuple #[.slice A n c, .slice A' n' c', .bool false]) ∧ Below w.heap.size w w' := by
 go_enter Tryz.func77, Tryz.ntmps77
 go_wp2_with fail
 refine (l2Factors_no a b _ h).mono ?_
 rintro e w' ⟨rfl, rfl⟩
 have HB := Hd (((Below.refl w.heap.size w).alloc (Nat.le_refl _) (.cells #[] 3)).alloc (by simp) (.cells #[] 3))
 go_wp2_with fail
 refine bodyPost_ret (results_tmp3 rfl _ _ _) rfl ?_
 exact ⟨_, _, _, _, _, _, rfl, HB.out⟩
theorem specDupTimes_no (a b : Int) (w : World) (h : ¬ ((1 ≤ a ∧ a ≤ 100000) ∧ 1 ≤ b ∧ b ≤ 100000)) :
  Calls Tryz.prog 34 #[.int .i64 a, .int .i64 b] w fun e w' => e = .returned (.int .i64 (-1)) ∧ Below w.heap.size w w' := by
 go_enter Tryz.func34, Tryz.ntmps34
 go_wp2_with fail
 refine (specDupRows_no a b _ h).mono ?_
 rintro e w1 ⟨A, n, c, A', n', c', rfl, hb1⟩
 have HB := Hd hb1
 clear hb1
 go_wp2_with fail
 go_ret
 exact ⟨rfl, HB.out⟩
theorem times_cmd (B0 tb : Nat) (bds ds : List Int) (ts : List Tl) (a b : Nat) (ha : a ≤ 100000) (hb : b ≤ 100000) (A0 : Option Addr) (n0 : Nat) (w : World) (hnum : Own w B0 A0 2 n0 [(a : Int), (b : Int)]) (h : Tab B0 w tb bds ds ts) (hw : B0 ≤ w.heap.size) (hp : Pow B0 w) :
  Calls Tryz.prog 164 #[.pointer (some ⟨tb, 0, none⟩), .slice A0 2 n0] w (CmdPost B0 (Tell B0 tb bds ds ts (bs (Lib.itoa ((a * b : Nat) : Int)))) w) := by
 obtain ⟨g, rfl, _, hg, hcell, _⟩ := hnum.at_ (by omega)
 have d0 := hcell 0 (a : Int) rfl
 have d1 := hcell 1 (b : Int) rfl
 have hmul : a * b ≤ 100000 * 100000 := Nat.mul_le_mul ha hb
 have hz1 := dec_size ((a * b : Nat) : Int) (by omega) (by omega)
 have hl3 := no_long (n := (dec ((a * b : Nat) : Int)).size) (by omega) 1 (by omega)
 have HT := Hd h
 have HW := Hd hw
 have HP := Hd hp
 obtain ⟨M, hM⟩ : ∃ M, a * b = M := ⟨_, rfl⟩
 have HM := Hd (show (a : Int) * (b : Int) = (M : Int) by rw [← hM]; simp)
 rw [hM] at hmul hl3 ⊢
 clear h hw hp hnum hcell hz1 hM
 go_enter Tryz.func164, Tryz.ntmps164
 go_wp2_with fail
 refine (NumeralOf_yes a (by omega) _).mono ?_
 rintro e w1 ⟨A1, n1, c1, ds1, rfl, hn1, ho1, hb1⟩
 have HB1 := Hd hb1
 have e1 := (HB1.out.cell (p := ⟨g, 1, none⟩) hg).trans d1
 have HO1 := Hd ho1.ints
 have hsz1 := hb1.size
 clear hb1 ho1
 go_wp2_with fail
 refine (NumeralOf_yes b (by omega) _).mono ?_
 rintro e w2 ⟨A2, n2, c2, ds2, rfl, hn2, ho2, hb2⟩
 have HB2 := Hd (below_chain HB1.out hb2)
 have HO2 := Hd (And.intro (HO1.out.next hb2) ho2.ints)
 clear hb2 ho2
 go_wp2_with fail
 refine (LatticeTimes_yes _ _ _ _ _ _ ds1 ds2 _ HO2.out.1 HO2.out.2 hn1.1 hn2.1).mono ?_
 rw [hn1.2, hn2.2]
 rw [HM.out]
 rintro e w3 ⟨rfl, hb3⟩
 have HB3 := Hd (below_chain HB2.out hb3)
 clear hb3 hn1 hn2
 go_wp2_with fail
 refine (Itoa_any (HP.out.below (HB3.out.mono HW.out)) (M : Int) (by omega) (by omega)).mono ?_
 rintro e w4 ⟨rfl, hb4⟩
 have HB4 := Hd (HB3.out.trans (hb4.mono HB3.out.size))
 clear hb4
 go_wp2_with fail
 refine bodyPost_ret (v := .tuple #[.string (dec (M : Int) ++ ⟨#[10]⟩), .bool true]) (by simp [results, Tryz.results164, go_sem]) rfl ?_
 exact ⟨_, _, rfl, ⟨rfl, rfl, HT.out.next HB4.out⟩, KeptT.of_below HB4.out⟩
theorem double_cmd (B0 tb : Nat) (bds ds : List Int) (ts : List Tl) (a b : Nat) (ha1 : 1 ≤ a) (ha : a ≤ 100000) (hb1 : 1 ≤ b) (hb : b ≤ 100000) (A0 : Option Addr) (n0 : Nat) (w : World) (hnum : Own w B0 A0 2 n0 [(a : Int), (b : Int)]) (h : Tab B0 w tb bds ds ts) (hw : B0 ≤ w.heap.size) (hp : Pow B0 w) :
  Calls Tryz.prog 165 #[.pointer (some ⟨tb, 0, none⟩), .slice A0 2 n0] w (CmdPost B0 (Tell B0 tb bds ds ts (bs (Lib.itoa ((a * b : Nat) : Int)))) w) := by
 obtain ⟨g, rfl, _, hg, hcell, _⟩ := hnum.at_ (by omega)
 have d0 := hcell 0 (a : Int) rfl
 have d1 := hcell 1 (b : Int) rfl
 have hmul : a * b ≤ 100000 * 100000 := Nat.mul_le_mul ha hb
 have hz1 := dec_size ((a * b : Nat) : Int) (by omega) (by omega)
 have hl3 := no_long (n := (dec ((a * b : Nat) : Int)).size) (by omega) 1 (by omega)
 have HD := Hd (DupTimes_yes a b w.drew ha1 ha hb1 hb)
 have hM1 : ¬ ((a * b : Nat) : Int) = -1 := by omega
 have hM2 : (0 : Int) ≤ ((a * b : Nat) : Int) := by omega
 obtain ⟨M, hM⟩ : ∃ M, a * b = M := ⟨_, rfl⟩
 rw [hM] at hmul hl3 HD hM1 hM2 ⊢
 have HT := Hd h
 have HW := Hd hw
 have HP := Hd hp
 clear h hw hp hnum hcell hz1 hM
 go_enter Tryz.func165, Tryz.ntmps165
 go_wp2_with fail
 go_region_with (go_at_call 33; refine HD.out.mono ?_; rintro e w1 ⟨rfl, hb1'⟩; have HB1 := Hd ((Below.refl w.heap.size w).drew.trans hb1'); clear hb1')
 all_goals
  go_wp2_with fail
  refine (Itoa_any (HP.out.below (HB1.out.mono HW.out)) (M : Int) (by omega) (by omega)).mono ?_
  rintro e w4 ⟨rfl, hb4⟩
  have HB4 := Hd (HB1.out.trans (hb4.mono HB1.out.size))
  clear hb4
  go_wp2_with fail
  refine bodyPost_ret (v := .tuple #[.string (dec (M : Int) ++ ⟨#[10]⟩), .bool true]) (by simp [results, Tryz.results165, go_sem]) rfl ?_
  exact ⟨_, _, rfl, ⟨rfl, rfl, HT.out.next HB4.out⟩, KeptT.of_below HB4.out⟩
theorem does_double (s : St) (a b : Nat) (ha1 : 1 ≤ a) (ha : a ≤ 100000) (hb1 : 1 ≤ b) (hb : b ≤ 100000) : CmdDoes 165 [(a : Int), (b : Int)] s (bs (Lib.itoa ((a * b : Nat) : Int)) ++ ⟨#[10]⟩) s := by
 refine ⟨fun args w => by simp [go_sem], fun B0 tb w A n0 hnum ht hw hp => ?_⟩
 refine (double_cmd B0 tb s.bs s.ds s.ts a b ha1 ha hb1 hb A n0 w hnum ht hw hp).mono fun e w' h => ?_
 obtain ⟨t, ok, rfl, ⟨rfl, rfl, h⟩, hk⟩ := h
 exact ⟨_, _, rfl, ⟨rfl, h⟩, hk⟩
def wTimes : List UInt8 := [116, 105, 109, 101, 115]
def wDouble : List UInt8 := [100, 111, 117, 98, 108, 101]
theorem step_app {ops : Array Oper} {o : Oper} {a : Act} {w : World} {K : Act → World → Prop} {Q : Exit → Act → World → Prop} {E : Prop} (hgd : o.guard = none) (s x : Operand)
  (ho : o.op = .call { callee := .builtin .append, args := #[s, x], argTypes := #[28, 28] })
  {B : Nat} {A : Option Addr} {n c : Nat} {xs : List Int} (hs : a.eval s = .slice A n c) (hown : Own w B A n c xs) (us : List Int) (m : Nat) (hm : us.length = m) (c0 : Nat)
  (hx : a.eval x = .slice (some ⟨w.heap.size, 0, none⟩) m c0) (cs : Array Value) (hcs : cs = (IV us).toArray) (hn : n + m ≤ 1099511627776) (hB : B ≤ w.heap.size)
  (h : ∀ A' c' w', Own w' B A' (n + m) c' (xs ++ us) → w.grownBy w' (Value.slice A n c).ownBlock → K (a.put o.dst (.slice A' (n + m) c')) w') :
  if Region.wanted o (yielded ops a.tmps) = true then Oper.wp Tryz.prog o a (w.alloc (.cells cs 3)) K Q else E := by
 obtain ⟨i0, hi, hz0, hz1, hz2⟩ := info_parts own_int_info
 subst hcs
 subst hm
 rw [if_pos (by simp [Region.wanted, hgd])]
 refine wp_append_own _ s x 28 ho B 3 i0 (.int .i64 0) 1 8 Tryz.underlying28 hi hz0 hz1 hz2 rfl (by decide) _ n (IV xs) hs (hown.1.alloc _)
  ⟨w.heap.size, 0, none⟩ us.length c0 (IV us) hx (by simp [IV]) ?_ (IV_one us) (by unfold maxLen; omega) (by omega) (by simp; omega) ?_
 ·intro j u hj
  rw [add_row, cell_of_row _ w.heap.size j _ _ _ (heap_alloc_new w _)]
  simpa using hj
 ·intro v' w' hown' hg _
  obtain ⟨A', c', rfl, h'⟩ := Own.of_app us rfl hown' hn
  exact h A' c' w' h' ⟨hg.os, hg.tape, hg.output, by have := hg.size; simp at this; omega, fun k hk hne => (hg.block k (by simp; omega) hne).trans (Below.heap_alloc w _ k hk)⟩
theorem specBoardLay_any (A B : Option Addr) (n c m d : Nat) (xs ys : List Int) (w : World) (hx : Ints w w.heap.size A n xs) (hy : Ints w w.heap.size B m ys) :
  Calls Tryz.prog 132 #[.slice A n c, .slice B m d] w (BoardPost w (layOK xs ys) (Bd.addL xs ys)) := by
 have hx' := Hd hx
 have hy' := Hd hy
 rcases hokx : Bd.okB xs with _ | _
 ·have HX := Hd hokx
  rw [show layOK xs ys = false by simp [layOK, hokx]]
  clear hx hy hokx
  go_enter Tryz.func132, Tryz.ntmps132
  go_wp2_with (go_at_call 104; refine (valid_no hx'.out HX.out).mono ?_; rintro e w' ⟨rfl, rfl⟩)
  go_ret2
  exact ⟨⟨_, _, _, rfl, lit_nil w⟩, (Below.refl _ _).alloc (Nat.le_refl _) _⟩
 ·have HX := Hd hokx
  rcases hoky : Bd.okB ys with _ | _
  ·have HY := Hd hoky
   rw [show layOK xs ys = false by simp [layOK, hoky]]
   clear hx hy hokx hoky
   go_enter Tryz.func132, Tryz.ntmps132
   go_wp2_with fail
   refine (valid_yes hx'.out HX.out).mono ?_
   rintro e w' ⟨rfl, rfl⟩
   go_wp2_with fail
   refine (valid_no hy'.out HY.out).mono ?_
   rintro e w' ⟨rfl, rfl⟩
   go_wp2
   go_ret2
   exact ⟨⟨_, _, _, rfl, lit_nil w⟩, (Below.refl _ _).alloc (Nat.le_refl _) _⟩
  ·have HY := Hd hoky
   have hlx := (Bd.okB_iff xs).1 hokx
   have hly := (Bd.okB_iff ys).1 hoky
   have hll := hlx.1.trans hly.1.symm
   have hla := Bd.addL_length xs ys hll
   rw [show layOK xs ys = Bd.okB (Bd.addL xs ys) by rw [okB_fit (hla.trans hlx.1)]; simp [layOK, hokx, hoky]]
   have hn : n = 10 := by have := hx.len; omega
   have hm : m = 10 := by have := hy.len; omega
   subst hn
   subst hm
   have HLX := Hd hlx
   have HLY := Hd hly
   have HLA := Hd (hla.trans hlx.1)
   have HLN := Hd (lit_nil w)
   rcases hres : Bd.okB (Bd.addL xs ys) with _ | _
   all_goals
    have HRES := Hd hres
    clear hx hy hokx hoky hlx hly hll hla hres
    go_enter Tryz.func132, Tryz.ntmps132
    go_wp2_with fail
    refine (valid_yes hx'.out HX.out).mono ?_
    rintro e w' ⟨rfl, rfl⟩
    go_wp2_with fail
    refine (valid_yes hy'.out HY.out).mono ?_
    rintro e w' ⟨rfl, rfl⟩
    go_wp2
    go_loopw [6, 7] (fun out i wr => ∃ (k : Nat) (A2 : Option Addr) (c2 : Nat), k ≤ 10 ∧ i = .int .i64 k ∧ out = .slice A2 k c2 ∧ Own wr w.heap.size A2 k c2 ((Bd.addL xs ys).take k) ∧ Below w.heap.size w wr) (fun _ i _ => 10 - (intOf i).toNat)
    case atStart => exact ⟨0, _, _, by omega, rfl, rfl, by simpa using HLN.out, (Below.refl _ _).alloc (Nat.le_refl _) _⟩
    case round =>
     obtain ⟨k, A2, c2, hk, rfl, rfl, hown, hbel⟩ := hrel
     have hB := hbel.size
     by_cases hlt : k < 10
     ·obtain ⟨b1, o1, u, rfl, hb1, hu, hc1⟩ := (hx'.out.below hbel).at_ hlt
      obtain ⟨b2, o2, v, rfl, hb2, hv, hc2⟩ := (hy'.out.below hbel).at_ hlt
      obtain ⟨u0, u1⟩ := HLX.out.2 u (List.mem_of_getElem? hu)
      obtain ⟨v0, v1⟩ := HLY.out.2 v (List.mem_of_getElem? hv)
      have HN := Hd (take_next (Bd.addL_get xs ys k u v hu hv))
      clear hu hv
      have i0 : (0 : Int) ≤ (k : Int) := by omega
      have i1 : (k : Int) < 10 := by omega
      have t1 : IntKind.i64.wrap (u + v) = u + v := IntWalk.i64_in _ (by omega)
      go_wp2_with fail
      go_region_law (refine step_app (w := wr.drew) rfl _ _ rfl rfl hown.drew [u + v] 1 rfl _ rfl _ rfl (by omega) hB ?_; intro A3 c3 w2 hown2 hg2)
      all_goals
       go_wp2
       go_roundw
       case rel => exact ⟨k + 1, _, _, by omega, by go_num, rfl, by rw [HN.out]; exact hown2, below_step hbel.drew hg2 hown.drew hB⟩
       case measure => simp [intOf]; omega
     ·have e10 : (Bd.addL xs ys).take k = Bd.addL xs ys := List.take_of_length_le (by have := HLA.out; omega)
      rw [e10] at hown
      have HO := Hd hown
      have HBL := Hd hbel
      clear hown hbel e10
      go_wp2_with (go_at_call 104; refine (specBoardValid_any _ _ _ (Bd.addL xs ys) _ _ HO.out.ints).mono ?_; rintro e w' ⟨rfl, rfl⟩; rw [HRES.out])
      go_ret2
      first
       | exact ⟨⟨_, _, _, rfl, HO.out⟩, HBL.out⟩
       | exact ⟨⟨_, _, _, rfl, (lit_nil _).mono HBL.out.size⟩, HBL.out.alloc HBL.out.size _⟩
theorem V_range {xs : List Int} (h : Bd.okB xs = true) : 0 ≤ Bd.V true xs ∧ Bd.V true xs ≤ 20000000 := by
 have h' := (Bd.okB_iff xs).1 h
 have := Bd.V_take_range h'.2 10 (Nat.le_refl _) (by omega)
 rw [List.take_of_length_le (by omega)] at this
 exact ⟨this.1, by omega⟩
theorem okB_of_fit {xs : List Int} (h : xs.length = 10) (hf : fitB xs = true) : Bd.okB xs = true := by rw [okB_fit h, hf]
theorem raise_parts {xs : List Int} {p : Int} (h : raiseOK xs p = true) : Bd.okB xs = true ∧ 0 ≤ p ∧ p < 9 ∧ Bd.okB (Bd.raiseL xs p.toNat) = true := by
 simp [raiseOK] at h
 exact ⟨h.1.1.1, h.1.1.2, h.1.2, okB_of_fit (by rw [Bd.raiseL_length]; exact ((Bd.okB_iff xs).1 h.1.1.1).1) h.2⟩
theorem str_nil (s : ByteArray) : s.toList.isEmpty = decide (s = ⟨#[]⟩) := by
 rw [ByteArray.toList_eq]
 by_cases h : s = ⟨#[]⟩
 ·subst h; rfl
 ·rw [decide_eq_false h]
  cases hl : s.data.toList with
  | nil => exact absurd (by rw [← txt_eta s, hl]; rfl) h
  | cons _ _ => rfl
theorem specTalliesValid_any (A : Option Addr) (n c : Nat) (ts : List Tl) (w : World) (hr : Tals w w.heap.size A n ts) (hsm : Small ts) : Calls Tryz.prog 119 #[.slice A n c] w fun e w' => e = .returned (.bool (okL ts)) ∧ Below w.heap.size w w' := by
 have hl := hr.len
 have hn40 := hr.2.1
 have HL := Hd hl
 have HR := Hd hr
 have HSM := Hd hsm
 clear hr hl hsm
 go_enter Tryz.func119, Tryz.ntmps119
 go_wp2_with fail
 go_loopw [3] (fun iv wr => ∃ (k : Nat), k ≤ n ∧ iv = .int .i64 (k : Int) ∧ Below w.heap.size w wr ∧ (∀ t ∈ ts.take k, okB t = true)) (fun iv _ => n - (intOf iv).toNat)
 case atStart => exact ⟨0, by omega, rfl, Below.refl _ _, by simp⟩
 case round =>
  obtain ⟨k, hk, rfl, hb, hok⟩ := hrel
  have HB := Hd hb
  have HOK := Hd hok
  clear hb hok
  by_cases hlt : k < n
  ·obtain ⟨b, off, t, rfl, hlb, ht, k0, k1, k2, k3⟩ := Tals.at_ (show Tals wr w.heap.size A n ts from HR.out.below HB.out) hlt
   have hts := HSM.out t (List.mem_of_getElem? ht)
   have HT := Hd ht
   obtain ⟨a, cc, s, f⟩ := t
   simp only at k0 k1 k2 k3 hts
   clear ht
   go_wp2_with fail
   refine (specTallyMatches_any ⟨a, cc, s, f⟩ wr hts.1).mono ?_
   rintro e w2 ⟨rfl, hb2⟩
   have hlw : b < wr.heap.size := Nat.lt_of_lt_of_le hlb HB.out.size
   have q2 := (hb2.cell (p := ⟨b, off + k * 4 + 2, none⟩) hlw).trans k2
   have HB2 := Hd (HB.out.trans (hb2.mono HB.out.size))
   clear hb2 k0 k1 k2 k3
   rcases hm : matchB ⟨a, cc, s, f⟩ with _ | _
   ·have HNO := Hd (okL_no HT.out (by simp [okB, hm]))
    clear hm
    go_wp2
    go_ret
    exact ⟨ret_bool HNO.out.symm, HB2.out⟩
   ·by_cases hs : s = ⟨#[]⟩
    ·have HNO := Hd (okL_no HT.out (by
      cases h : okB ⟨a, cc, s, f⟩ with
      | false => rfl
      | true => exact absurd hs (okB_iff.1 h).2))
     have hse : s.toList.isEmpty = true := by rw [str_nil, decide_eq_true hs]
     clear hm hs
     go_wp2
     go_ret
     exact ⟨ret_bool HNO.out.symm, HB2.out⟩
    ·have HYES := Hd (okB_iff.2 ⟨hm, hs⟩)
     have hse : s.toList.isEmpty = false := by rw [str_nil, decide_eq_false hs]
     clear hm hs
     go_wp2_with fail
     refine ⟨⟨k + 1, by omega, by go_num, HB2.out, ?_⟩, by simp [intOf]; omega⟩
     rw [take_next HT.out]
     intro u hu
     rcases List.mem_append.1 hu with h | h
     ·exact HOK.out u h
     ·obtain rfl := List.mem_singleton.1 h
      exact HYES.out
  ·obtain rfl : k = n := by omega
   have hokl : okL ts = decide (k ≤ 12) := by
    have h := HOK.out
    rw [List.take_of_length_le (by have := HL.out; omega)] at h
    rw [okL, List.all_eq_true.2 h, Bool.and_true, HL.out]
   have HO := Hd hokl
   clear hokl
   go_wp2
   go_ret
   exact ⟨ret_bool (by rw [HO.out]; simp; omega), HB.out⟩
theorem upd_back {b : List Int} {p q : Nat} {v u u2 : Int} (hne : p ≠ q) (hq : b[q]? = some u) (hp : (b.set q (u + v))[p]? = some u2) : upd b ⟨(p : Int), (q : Int), v⟩ = (b.set q (u + v)).set p (u2 - v) := by
 have e1 : b.getD p 0 = u2 := by rw [List.getElem?_set_ne (Ne.symm hne)] at hp; rw [List.getD_eq_getElem?_getD, hp]; rfl
 have e2 : (b.set p (u2 - v)).getD q 0 = u := by rw [List.getD_eq_getElem?_getD, List.getElem?_set_ne hne, hq]; rfl
 unfold upd
 simp only [Int.toNat_natCast]
 rw [e1, e2, List.set_comm _ _ hne]
theorem l6yBalance_any (A : Option Addr) (n c : Nat) (ts : List Tl) (w : World) (hr : Tals w w.heap.size A n ts) (hok : okL ts = true) : Calls Tryz.prog 120 #[.slice A n c] w fun e w' =>
  e = .returned (.slice (some ⟨w.heap.size, 0, none⟩) 5 5) ∧ Own w' w.heap.size (some ⟨w.heap.size, 0, none⟩) 5 5 (bal (ts.map debtOf)) ∧ Below w.heap.size w w' := by
 have hF := fair_of hok
 have hl := hr.len
 have h12 : n ≤ 12 := by have := hF.1; rw [List.length_map] at this; omega
 have HL := Hd hl
 have HR := Hd hr
 have HF := Hd hF
 have HOK := Hd hok
 clear hl hr hF hok
 go_enter Tryz.func120, Tryz.ntmps120
 go_wp2_with (refine wpList_make_ints rfl _ _ rfl (B := w.heap.size) (n := 5) rfl rfl (by omega) (Nat.le_refl _) ?_; intro w1 hown hg)
 have HO1 := Hd hown
 have HB1 := Hd (grown_below hg (Nat.le_refl w.heap.size) (by simp))
 clear hown hg
 go_loopw [4] (fun iv wr => ∃ (k : Nat), k ≤ n ∧ iv = .int .i64 (k : Int) ∧ Own wr w.heap.size (some ⟨w.heap.size, 0, none⟩) 5 5 (bal ((ts.map debtOf).take k)) ∧ Within (36000 * (k : Int)) (bal ((ts.map debtOf).take k)) ∧ Below w.heap.size w wr) (fun iv _ => n - (intOf iv).toNat)
 case atStart =>
  refine ⟨0, by omega, rfl, HO1.out, ⟨rfl, fun i u hu => ?_⟩, HB1.out⟩
  have h5 : ([0, 0, 0, 0, 0] : List Int)[i]? = some u := hu
  have := List.mem_of_getElem? h5
  simp at this
  omega
 case round =>
  obtain ⟨k, hk, rfl, ho, hw, hb⟩ := hrel
  have HO := Hd ho
  have HW := Hd hw
  have HB := Hd hb
  clear ho hw hb
  by_cases hlt : k < n
  ·obtain ⟨b, off, t, rfl, hlb, ht, k0, k1, k2, k3⟩ := Tals.at_ (show Tals wr w.heap.size A n ts from HR.out.below HB.out) hlt
   have hd : (ts.map debtOf)[k]? = some (debtOf t) := by rw [List.getElem?_map, ht]; rfl
   have hv : validB t.s = true := by
    have := HOK.out
    simp only [okL, Bool.and_eq_true, decide_eq_true_eq, List.all_eq_true] at this
    have := this.2 t (List.mem_of_getElem? ht)
    simp only [okB, matchB, Bool.and_eq_true] at this
    exact this.1.2.1
   obtain ⟨⟨t0, t1, t2, t3, t4⟩, v0, v1⟩ := HF.out.2 _ (List.mem_of_getElem? hd)
   have HN := Hd (bal_next hd)
   obtain ⟨a, cc, s, f⟩ := t
   obtain ⟨v, hvv⟩ : ∃ v, worthB s = v := ⟨_, rfl⟩
   have HV := Hd (And.intro hv hvv)
   simp only [debtOf] at t0 t1 t2 t3 t4 v0 v1
   rw [hvv] at v0 v1
   obtain ⟨p, rfl⟩ := Int.eq_ofNat_of_zero_le t0
   obtain ⟨q, rfl⟩ := Int.eq_ofNat_of_zero_le t2
   simp only at k0 k1 k2 k3 hv
   have hbL := HW.out.1
   obtain ⟨u, hu⟩ : ∃ u, (bal ((ts.map debtOf).take k))[q]? = some u := ⟨_, List.getElem?_eq_getElem (by omega)⟩
   have hub := HW.out.2 q u hu
   obtain ⟨g, hge, _, hglt, hcell, hfree⟩ := HO.out.at_ (by omega)
   injection hge with hge
   injection hge with hge
   subst hge
   have a0 : wr.cell? ⟨w.heap.size, q, none⟩ = some (.int .i64 u) := hcell q u hu
   have fa := hfree q
   have hp5 : p < 5 := by omega
   have hq5 : q < 5 := by omega
   have hpq : p ≠ q := by omega
   obtain ⟨b1, hb1⟩ : ∃ b1, (bal ((ts.map debtOf).take k)).set q (u + v) = b1 := ⟨_, rfl⟩
   have hb1l : b1.length = 5 := by rw [← hb1, List.length_set, hbL]
   obtain ⟨u2, hu2⟩ : ∃ u2, b1[p]? = some u2 := ⟨_, List.getElem?_eq_getElem (by omega)⟩
   have hu2b : -(36000 * (k : Int)) ≤ u2 ∧ u2 ≤ 36000 * (k : Int) := by
    rw [← hb1, List.getElem?_set_ne (by omega)] at hu2
    exact HW.out.2 p u2 hu2
   have w1 : IntKind.i64.wrap (u + v) = u + v := IntWalk.i64_in _ (by omega)
   have w2 : IntKind.i64.wrap (u2 - v) = u2 - v := IntWalk.i64_in _ (by omega)
   obtain ⟨W2, hW2⟩ : ∃ W2, (wr.setCell ⟨w.heap.size, q, none⟩ (.int .i64 (u + v))).drew = W2 := ⟨_, rfl⟩
   have hst := HO.out.store q (u + v)
   rw [hb1] at hst
   have hO2 : Own W2 w.heap.size (some ⟨w.heap.size, 0, none⟩) 5 5 b1 := by rw [← hW2]; exact hst.1.drew
   have hB2 : Below w.heap.size w W2 := by rw [← hW2]; exact (HB.out.setCell (p := ⟨w.heap.size, q, none⟩) (Nat.le_refl _) _).drew
   obtain ⟨g2, hge2, _, hglt2, hcell2, hfree2⟩ := hO2.at_ (by omega)
   injection hge2 with hge2
   injection hge2 with hge2
   subst hge2
   have a2 : W2.cell? ⟨w.heap.size, p, none⟩ = some (.int .i64 u2) := hcell2 p u2 hu2
   have fa2 := hfree2 p
   have n0 : W2.cell? ⟨b, off + k * 4, none⟩ = some (.int .i64 (p : Int)) := by
    rw [← hW2]
    exact (((Below.refl w.heap.size wr).setCell (p := ⟨w.heap.size, q, none⟩) (Nat.le_refl _) _).cell (p := ⟨b, off + k * 4, none⟩) hlb).trans k0
   obtain ⟨W3, hW3⟩ : ∃ W3, (W2.setCell ⟨w.heap.size, p, none⟩ (.int .i64 (u2 - v))).drew = W3 := ⟨_, rfl⟩
   have hbn : bal ((ts.map debtOf).take (k + 1)) = b1.set p (u2 - v) := by
    rw [HN.out]
    show upd _ ⟨(p : Int), (q : Int), worthB s⟩ = _
    rw [hvv, ← hb1]
    exact upd_back hpq hu (by rw [hb1]; exact hu2)
   have hO3 : Own W3 w.heap.size (some ⟨w.heap.size, 0, none⟩) 5 5 (bal ((ts.map debtOf).take (k + 1))) := by
    rw [hbn, ← hW3]
    exact (hO2.store p (u2 - v)).1.drew
   have hWi : Within (36000 * ((k + 1 : Nat) : Int)) (bal ((ts.map debtOf).take (k + 1))) := by
    rw [HN.out]
    have := Within.upd HW.out (d := debtOf ⟨(p : Int), (q : Int), s, f⟩) (by show 0 ≤ worthB s; rw [hvv]; exact v0) (by show worthB s ≤ 36000; rw [hvv]; exact v1) ⟨t0, t1, t2, t3, t4⟩
    rwa [show 36000 * (k : Int) + 36000 = 36000 * ((k + 1 : Nat) : Int) from by omega] at this
   have hB3 : Below w.heap.size w W3 := by rw [← hW3]; exact (hB2.setCell (p := ⟨w.heap.size, p, none⟩) (Nat.le_refl _) _).drew
   have HREL := Hd (And.intro hO3 (And.intro hWi hB3))
   have HW2 := Hd hW2
   have HW3 := Hd hW3
   clear ht hd hv hvv hu hcell hfree hb1 hu2 hW2 hst hO2 hB2 hcell2 hfree2 hW3 hbn hO3 hWi hB3
   go_wp2_with fail
   refine (l6ySum_any s wr HV.out.1).mono ?_
   rintro e w' ⟨rfl, rfl⟩
   rw [HV.out.2]
   go_wp2_with fail
   go_region_with (fail)
   all_goals rw [HW2.out]
   all_goals clear a0 fa w1 k0 k1
   all_goals go_wp2_with fail
   all_goals go_region_with (fail)
   all_goals rw [HW3.out]
   all_goals go_wp2_with fail
   all_goals exact ⟨⟨k + 1, by omega, by go_num, HREL.out.1, HREL.out.2.1, HREL.out.2.2⟩, by simp [intOf]; omega⟩
  ·obtain rfl : k = n := by omega
   have hT : (ts.map debtOf).take k = ts.map debtOf := List.take_of_length_le (by rw [List.length_map]; have := HL.out; omega)
   have ho := HO.out
   rw [hT] at ho
   have HO5 := Hd ho
   clear ho hT
   go_wp2
   go_ret
   exact ⟨rfl, HO5.out, HB.out⟩
def SBalPost (w : World) (ts : List Tl) (e : Ending) (w' : World) : Prop :=
 ((okL ts = true ∧ ∃ g, w.heap.size ≤ g ∧ e = .returned (.tuple #[.slice (some ⟨g, 0, none⟩) 5 5, .bool true]) ∧ Own w' w.heap.size (some ⟨g, 0, none⟩) 5 5 (bal (ts.map debtOf))) ∨ (okL ts = false ∧ ∃ g, e = .returned (.tuple #[.slice (some ⟨g, 0, none⟩) 0 0, .bool false]))) ∧ Below w.heap.size w w'
theorem specTalliesBalance_any (A : Option Addr) (n c : Nat) (ts : List Tl) (w : World) (hr : Tals w w.heap.size A n ts) (hsm : Small ts) : Calls Tryz.prog 85 #[.slice A n c] w (SBalPost w ts) := by
 go_enter Tryz.func85, Tryz.ntmps85
 go_wp2_with fail
 refine (specTalliesValid_any A n c ts w hr hsm).mono ?_
 rintro e w1 ⟨rfl, hb⟩
 have HR1 := Hd (show Tals w1 w1.heap.size A n ts from Row.next hr hb)
 have HB := Hd hb
 clear hr hsm hb
 rcases hok : okL ts with _ | _
 ·have HNO := Hd hok
  clear hok
  go_wp2
  go_ret2
  exact ⟨.inr ⟨HNO.out, _, rfl⟩, HB.out.alloc HB.out.size _⟩
 ·have HOK := Hd hok
  clear hok
  go_wp2_with fail
  refine (l6yBalance_any A n c ts w1 HR1.out HOK.out).mono ?_
  rintro e w2 ⟨rfl, ho, hb2⟩
  have HO := Hd (ho.mono HB.out.size)
  have HB2 := Hd (HB.out.trans (hb2.mono HB.out.size))
  clear ho hb2
  go_wp2
  go_ret2
  exact ⟨.inl ⟨HOK.out, _, HB.out.size, rfl, HO.out⟩, HB2.out⟩
end Go.Proofs.YthdoofmfigemoaaGreatDoor
