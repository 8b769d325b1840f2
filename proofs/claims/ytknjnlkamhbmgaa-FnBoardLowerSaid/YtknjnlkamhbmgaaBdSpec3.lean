/-
  The reference's raises and layings, for every list.
-/
import Derived.Test.YtknjnlkamhbmgaaBdSpec2
import Derived.Deep.RegionLaw
namespace Go.Proofs.Ytknjnlkamhbmgaa
open Go.RowKit

theorem step_app {ops : Array Oper} {o : Oper} {a : Act} {w : World} {K : Act → World → Prop} {Q : Exit → Act → World → Prop} {E : Prop} (hgd : o.guard = none) (s x : Operand)
    (ho : o.op = .call { callee := .builtin .append, args := #[s, x], argTypes := #[22, 22] })
    {B : Nat} {A : Option Addr} {n c : Nat} {xs : List Int} (hs : a.eval s = .slice A n c) (hown : Own w B A n c xs) (us : List Int) (m : Nat) (hm : us.length = m) (c0 : Nat)
    (hx : a.eval x = .slice (some ⟨w.heap.size, 0, none⟩) m c0) (cs : Array Value) (hcs : cs = (IV us).toArray) (hn : n + m ≤ 1099511627776) (hB : B ≤ w.heap.size)
    (h : ∀ A' c' w', Own w' B A' (n + m) c' (xs ++ us) → w.grownBy w' (Value.slice A n c).ownBlock → K (a.put o.dst (.slice A' (n + m) c')) w') :
    if Region.wanted o (yielded ops a.tmps) = true then Oper.wp Try.prog o a (w.alloc (.cells cs 3)) K Q else E := by
  obtain ⟨i0, hi, hz0, hz1, hz2⟩ := info_parts own_int_info
  subst hcs
  subst hm
  rw [if_pos (by simp [Region.wanted, hgd])]
  refine wp_append_own _ s x 22 ho B 3 i0 (.int .i64 0) 1 8 Try.underlying22 hi hz0 hz1 hz2 rfl (by decide) _ n (IV xs) hs (hown.1.alloc _)
    ⟨w.heap.size, 0, none⟩ us.length c0 (IV us) hx (by simp [IV]) ?_ (IV_one us) (by unfold maxLen; omega) (by omega) (by simp; omega) ?_
  · intro j u hj
    rw [add_row, cell_of_row _ w.heap.size j _ _ _ (heap_alloc_new w _)]
    simpa using hj
  · intro v' w' hown' hg _
    obtain ⟨A', c', rfl, h'⟩ := Own.of_app us rfl hown' hn
    exact h A' c' w' h' ⟨hg.os, hg.tape, hg.output, by have := hg.size; simp at this; omega, fun k hk hne => (hg.block k (by simp; omega) hne).trans (Below.heap_alloc w _ k hk)⟩

def par (k : Nat) : Bool := decide (k % 2 = 0)
theorem full_par (k : Nat) : Bd.full (par k) = Bd.grp k := by
  rcases Nat.mod_two_eq_zero_or_one k with h | h <;> simp [par, Bd.full, Bd.grp, h]
theorem par_succ (k : Nat) : par (k + 1) = !(par k) := by
  rcases Nat.mod_two_eq_zero_or_one k with h | h
  · have : (k + 1) % 2 = 1 := by omega
    simp [par, h, this]
  · have : (k + 1) % 2 = 0 := by omega
    simp [par, h, this]
theorem R_drop {xs : List Int} {k : Nat} {u : Int} (c : Int) (h : xs[k]? = some u) :
    Bd.R (par k) c (xs.drop k) = (u + c) / Bd.grp k + Bd.R (par (k + 1)) ((u + c) / Bd.grp k) (xs.drop (k + 1)) := by
  have hk := (List.getElem?_eq_some_iff.1 h)
  obtain ⟨hk, hu⟩ := hk
  rw [List.drop_eq_getElem_cons hk, hu, Bd.R, full_par, par_succ]

set_option maxRecDepth 100000 in
set_option maxHeartbeats 1000000 in
theorem specBoardRaises_any (A : Option Addr) (n c : Nat) (xs : List Int) (w : World) (hx : Ints w w.heap.size A n xs) :
    Calls Try.prog 22 #[.slice A n c] w fun e w' => e = .returned (.int .i64 (bRais xs)) ∧ Below w.heap.size w w' := by
  have hx' := Lib.hid hx
  rcases hok : redOK xs with _ | _
  · have hv : bRais xs = -1 := by
      simp only [redOK, okV] at hok
      unfold bRais
      rw [if_neg]
      intro h
      simp at h hok
      have := Bd.V_nonneg xs true (fun x hx => (((Bd.okB_iff xs).1 h.1).2 x hx).1)
      have := hok h.1 this
      omega
    have HV := Lib.hid hv
    have hr := specBoardReduce_any A n c xs w hx
    rw [hok] at hr
    have HR := Lib.hid hr
    clear hx hok hv hr
    go_enter Try.func22, Try.ntmps22
    go_wp2_with (go_at_call 24; refine HR.out.mono ?_; rintro e w2 ⟨⟨A2, n2, c2, rfl, hown⟩, hb2⟩)
    go_ret
    exact ⟨ret_int HV.out.symm, hb2⟩
  · have hk : Bd.okB xs = true ∧ Bd.V true xs ≤ 99999 := by simp [redOK, okV] at hok; exact ⟨hok.1, hok.2.2⟩
    have hv : bRais xs = Bd.R true 0 xs := by simp [bRais, hk.1, hk.2]
    have hl := (Bd.okB_iff xs).1 hk.1
    have hn : n = 10 := by have := hx.len; omega
    subst hn
    have HV := Lib.hid hv
    have HL := Lib.hid hl
    have hr := specBoardReduce_any A 10 c xs w hx
    rw [hok] at hr
    have HR := Lib.hid hr
    clear hx hok hv hr hk hl
    go_enter Try.func22, Try.ntmps22
    go_wp2_with (go_at_call 24; refine HR.out.mono ?_; rintro e w2 ⟨⟨A2, n2, c2, rfl, hown⟩, hb2⟩)
    have hx2 := Lib.hid (hx'.out.next hb2)
    go_loopw [5, 6, 7] (fun s cr i wr => ∃ (k q : Nat) (sv cv : Int), k ≤ 10 ∧ i = .int .i64 k ∧ s = .int .i64 sv ∧ cr = .int .i64 cv ∧ 0 ≤ cv ∧ cv ≤ 20 ∧ 0 ≤ sv ∧ sv ≤ 20 * k ∧ sv + Bd.R (par k) cv (xs.drop k) = Bd.R true 0 xs ∧ wr = w2.drewN q) (fun _ _ i _ => 10 - (intOf i).toNat)
    case atStart => exact ⟨0, 0, 0, 0, by omega, rfl, rfl, rfl, by omega, by omega, by omega, by omega, by simp [par], rfl⟩
    case round =>
      obtain ⟨k, q, sv, cv, hk, rfl, rfl, rfl, c0, c1, s0, s1, hsum, hwr⟩ := hrel
      have hxr : Ints wr w2.heap.size A 10 xs := by rw [hwr]; exact hx2.out.drewN q
      have HWR := Lib.hid hwr
      have HS := Lib.hid hsum
      clear hwr hsum
      by_cases hlt : k < 10
      · obtain ⟨b, off, u, rfl, hlb, hu, hcell⟩ := hxr.at_ hlt
        obtain ⟨m0, m1⟩ := HL.out.2 u (List.mem_of_getElem? hu)
        have HN := Lib.hid (R_drop cv hu)
        have hg := Bd.grp_cases k
        have q0 : 0 ≤ (u + cv) / Bd.grp k ∧ (u + cv) / Bd.grp k ≤ 20 := by rcases hg with h | h <;> rw [h] <;> omega
        have t1 : IntKind.i64.wrap (u + cv) = u + cv := IntWalk.i64_in _ (by omega)
        have t2 : (u + cv).tdiv (Bd.grp k) = (u + cv) / Bd.grp k := Int.tdiv_eq_ediv_of_nonneg (by omega)
        have g2 : 2 ≤ Bd.grp k := by rcases hg with h | h <;> omega
        clear hu hg
        generalize (u + cv) / Bd.grp k = z at *
        obtain ⟨z0, z1⟩ := q0
        have t3 : IntKind.i64.wrap z = z := IntWalk.i64_in _ (by omega)
        go_wp2_with fail
        go_quiet ((go_at_call 61; exact quiet_same (l1Group_any _ (by omega) _)))
        clear t1 t2 t3
        go_wp2
        go_roundw
        case rel => exact ⟨k + 1, _, sv + z, z, by omega, by go_num, rfl, rfl, z0, z1, by omega, by omega, by have h1 := HS.out; have h2 := HN.out; omega, by rw [HWR.out, World.drewN_drewN]⟩
        case measure => simp [intOf]; omega
      · go_wp2
        go_ret
        obtain rfl : k = 10 := by omega
        refine ⟨ret_int ?_, hb2.trans (by rw [HWR.out]; exact below_drewN (Below.refl _ _) _)⟩
        have h1 := HS.out
        rw [List.drop_eq_nil_of_le (by have := HL.out.1; omega), Bd.R] at h1
        rw [HV.out]; omega

set_option maxRecDepth 100000 in
set_option maxHeartbeats 1000000 in
theorem specBoardLay_any (A B : Option Addr) (n c m d : Nat) (xs ys : List Int) (w : World) (hx : Ints w w.heap.size A n xs) (hy : Ints w w.heap.size B m ys) :
    Calls Try.prog 46 #[.slice A n c, .slice B m d] w (BoardPost w (layOK xs ys) (Bd.addL xs ys)) := by
  have hx' := Lib.hid hx
  have hy' := Lib.hid hy
  rcases hokx : Bd.okB xs with _ | _
  · have HX := Lib.hid hokx
    rw [show layOK xs ys = false by simp [layOK, hokx]]
    clear hx hy hokx
    go_enter Try.func46, Try.ntmps46
    go_wp2_with (go_at_call 55; refine (valid_no hx'.out HX.out).mono ?_; rintro e w' ⟨rfl, rfl⟩)
    go_ret2
    exact ⟨⟨_, _, _, rfl, lit_nil w⟩, (Below.refl _ _).alloc (Nat.le_refl _) _⟩
  · have HX := Lib.hid hokx
    rcases hoky : Bd.okB ys with _ | _
    · have HY := Lib.hid hoky
      rw [show layOK xs ys = false by simp [layOK, hoky]]
      clear hx hy hokx hoky
      go_enter Try.func46, Try.ntmps46
      go_wp2_with fail
      refine (valid_yes hx'.out HX.out).mono ?_
      rintro e w' ⟨rfl, rfl⟩
      go_wp2_with fail
      refine (valid_no hy'.out HY.out).mono ?_
      rintro e w' ⟨rfl, rfl⟩
      go_wp2
      go_ret2
      exact ⟨⟨_, _, _, rfl, lit_nil w⟩, (Below.refl _ _).alloc (Nat.le_refl _) _⟩
    · have HY := Lib.hid hoky
      have hlx := (Bd.okB_iff xs).1 hokx
      have hly := (Bd.okB_iff ys).1 hoky
      have hll := hlx.1.trans hly.1.symm
      have hla := Bd.addL_length xs ys hll
      rw [show layOK xs ys = Bd.okB (Bd.addL xs ys) by rw [okB_fit (hla.trans hlx.1)]; simp [layOK, hokx, hoky]]
      have hn : n = 10 := by have := hx.len; omega
      have hm : m = 10 := by have := hy.len; omega
      subst hn
      subst hm
      have HLX := Lib.hid hlx
      have HLY := Lib.hid hly
      have HLA := Lib.hid (hla.trans hlx.1)
      have HLN := Lib.hid (lit_nil w)
      rcases hres : Bd.okB (Bd.addL xs ys) with _ | _
      all_goals
        have HRES := Lib.hid hres
        clear hx hy hokx hoky hlx hly hll hla hres
        go_enter Try.func46, Try.ntmps46
        go_wp2_with fail
        refine (valid_yes hx'.out HX.out).mono ?_
        rintro e w' ⟨rfl, rfl⟩
        go_wp2_with fail
        refine (valid_yes hy'.out HY.out).mono ?_
        rintro e w' ⟨rfl, rfl⟩
        go_wp2
        go_loopw [6, 7] (fun out i wr => ∃ (k : Nat) (A2 : Option Addr) (c2 : Nat), k ≤ 10 ∧ i = .int .i64 k ∧ out = .slice A2 k c2 ∧ Own wr w.heap.size A2 k c2 ((Bd.addL xs ys).take k) ∧ Below w.heap.size w wr) (fun _ i _ => 10 - (intOf i).toNat)
        case atStart => exact ⟨0, _, _, by omega, rfl, rfl, by simpa using HLN.out, (Below.refl _ _).alloc (Nat.le_refl _) _⟩
        case round =>
          obtain ⟨k, A2, c2, hk, rfl, rfl, hown, hbel⟩ := hrel
          have hB := hbel.size
          by_cases hlt : k < 10
          · obtain ⟨b1, o1, u, rfl, hb1, hu, hc1⟩ := (hx'.out.below hbel).at_ hlt
            obtain ⟨b2, o2, v, rfl, hb2, hv, hc2⟩ := (hy'.out.below hbel).at_ hlt
            obtain ⟨u0, u1⟩ := HLX.out.2 u (List.mem_of_getElem? hu)
            obtain ⟨v0, v1⟩ := HLY.out.2 v (List.mem_of_getElem? hv)
            have HN := Lib.hid (take_next (Bd.addL_get xs ys k u v hu hv))
            clear hu hv
            have i0 : (0 : Int) ≤ (k : Int) := by omega
            have i1 : (k : Int) < 10 := by omega
            have t1 : IntKind.i64.wrap (u + v) = u + v := IntWalk.i64_in _ (by omega)
            go_wp2_with fail
            go_region_law (refine step_app (w := wr.drew) rfl _ _ rfl rfl hown.drew [u + v] 1 rfl _ rfl _ rfl (by omega) hB ?_; intro A3 c3 w2 hown2 hg2)
            all_goals
              go_wp2
              go_roundw
              case rel => exact ⟨k + 1, _, _, by omega, by go_num, rfl, by rw [HN.out]; exact hown2, below_step hbel.drew hg2 hown.drew hB⟩
              case measure => simp [intOf]; omega
          · have e10 : (Bd.addL xs ys).take k = Bd.addL xs ys := List.take_of_length_le (by have := HLA.out; omega)
            rw [e10] at hown
            have HO := Lib.hid hown
            have HBL := Lib.hid hbel
            clear hown hbel e10
            go_wp2_with (go_at_call 55; refine (specBoardValid_any _ _ _ (Bd.addL xs ys) _ _ HO.out.ints).mono ?_; rintro e w' ⟨rfl, rfl⟩; rw [HRES.out])
            go_ret2
            first
              | exact ⟨⟨_, _, _, rfl, HO.out⟩, HBL.out⟩
              | exact ⟨⟨_, _, _, rfl, (lit_nil _).mono HBL.out.size⟩, HBL.out.alloc HBL.out.size _⟩

set_option maxHeartbeats 400000 in
theorem specBoardDouble_any (A : Option Addr) (n c : Nat) (xs : List Int) (w : World) (hx : Ints w w.heap.size A n xs) :
    Calls Try.prog 43 #[.slice A n c] w (BoardPost w (layOK xs xs) (Bd.addL xs xs)) := by
  have hx' := Lib.hid hx
  clear hx
  go_enter Try.func43, Try.ntmps43
  go_wp2_with (go_at_call 46; refine (specBoardLay_any A A n c n c xs xs _ hx'.out hx'.out).mono ?_; rintro e w2 ⟨⟨A2, n2, c2, rfl, hown⟩, hb2⟩)
  go_ret2
  exact ⟨⟨_, _, _, rfl, hown⟩, hb2⟩
end Go.Proofs.Ytknjnlkamhbmgaa
