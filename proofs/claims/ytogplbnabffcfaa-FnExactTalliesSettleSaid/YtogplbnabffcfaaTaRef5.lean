/-
  The reference's TalliesSettle.
-/
import Derived.Test.YtogplbnabffcfaaTaRef4
import Derived.Test.YtogplbnabffcfaaTaSettle2
namespace Go.Proofs.Ytogplbnabffcfaa
open Go.RowKit
set_option linter.unusedSimpArgs false

def SSettlePost (w : World) (ts : List Tl) (e : Ending) (w' : World) : Prop :=
  ((∃ out, okL ts = true ∧ Ta.settle 5 (bal (ts.map debtOf)) = some out ∧ ∃ A c, e = .returned (.tuple #[.slice A out.length c, .bool true]) ∧ OwnT w' w.heap.size A out.length c (out.map payT)) ∨
    ((okL ts = false ∨ Ta.settle 5 (bal (ts.map debtOf)) = none) ∧ ∃ g c, e = .returned (.tuple #[.slice (some ⟨g, 0, none⟩) 0 c, .bool false]))) ∧ Below w.heap.size w w'
/-- in the loop of rounds: the balances, and the tallies so far -/
def SSettling (w wr : World) (B g : Nat) (b0 : List Int) (k : Nat) (sv : Value) : Prop :=
  ∃ (b : List Int) (f : Nat) (out : List (Nat × Nat × Int)) (AT : Option Addr) (cT : Nat),
    k = out.length ∧ sv = .slice AT out.length cT ∧ Ta.Todo b0 f b out ∧ Ta.Bal b ∧ Ta.Bd 432000 b ∧ Own wr B (some ⟨g, 0, none⟩) 5 5 b ∧ OwnT wr B AT out.length cT (out.map payT) ∧ (∀ q, (Value.slice AT out.length cT).ownBlock = some q → q ≠ g) ∧ Below B w wr
theorem getD_some {b : List Int} {k : Nat} (h : k < b.length) : b[k]? = some (b.getD k 0) := by rw [List.getD_eq_getElem?_getD, List.getElem?_eq_getElem h]; rfl
set_option maxRecDepth 100000 in
set_option maxHeartbeats 2000000 in
theorem specTalliesSettle_any (A : Option Addr) (n c : Nat) (ts : List Tl) (w : World) (hr : Tals w w.heap.size A n ts) (hsm : Small ts) : Calls Try.prog 8 #[.slice A n c] w (SSettlePost w ts) := by
  obtain ⟨W, hW⟩ : ∃ W, w.alloc (.cells #[] 33) = W := ⟨_, rfl⟩
  have hb0 : Below w.heap.size w W := by rw [← hW]; exact (Below.refl _ _).alloc (Nat.le_refl _) _
  have hsz : W.heap.size = w.heap.size + 1 := by rw [← hW]; simp
  have hT0 : OwnT W w.heap.size (some ⟨w.heap.size, 0, none⟩) 0 0 [] := by rw [← hW]; exact lit_nil_t w _ (Nat.le_refl _)
  have HR := Lib.hid (show Tals W W.heap.size A n ts from Row.next hr hb0)
  have HB0 := Lib.hid hb0
  have HT0 := Lib.hid hT0
  have HW := Lib.hid hW
  have HSM := Lib.hid hsm
  have HSZ := Lib.hid hsz
  clear hr hsm hb0 hT0 hW hsz
  go_enter Try.func8, Try.ntmps8
  go_wp2_with fail
  rw [HW.out]
  refine (specTalliesBalance_any A n c ts W HR.out HSM.out).mono ?_
  rintro e w1 ⟨⟨hok, g, hgW, rfl, ho⟩ | ⟨hno, g, rfl⟩, hb⟩
  rotate_left
  · have HB := Lib.hid (HB0.out.trans (hb.mono HB0.out.size))
    have HNO := Lib.hid hno
    clear hno hb
    go_wp2
    go_ret2
    exact ⟨.inr ⟨.inl HNO.out, _, _, rfl⟩, HB.out⟩
  obtain ⟨b, hbb⟩ : ∃ b, bal (ts.map debtOf) = b := ⟨_, rfl⟩
  obtain ⟨hbal, hbd⟩ := bal_ok (fair_of hok)
  have hbl := bal_length (ts.map debtOf)
  rw [hbb] at hbal hbd hbl ho
  have HPS := Lib.hid (show ∀ e w', (((∃ out, Ta.settle 5 b = some out ∧ ∃ A c, e = .returned (.tuple #[.slice A out.length c, .bool true]) ∧ OwnT w' w.heap.size A out.length c (out.map payT)) ∨
    (Ta.settle 5 b = none ∧ ∃ g c, e = .returned (.tuple #[.slice (some ⟨g, 0, none⟩) 0 c, .bool false]))) ∧ Below w.heap.size w w') → SSettlePost w ts e w' from fun e w' h => by
      unfold SSettlePost
      rw [hbb]
      rcases h with ⟨⟨out, h1, h2⟩ | ⟨h1, h2⟩, h3⟩
      · exact ⟨.inl ⟨out, hok, h1, h2⟩, h3⟩
      · exact ⟨.inr ⟨.inr h1, h2⟩, h3⟩)
  have HST := Lib.hid (show SSettling w w1 w.heap.size g b 0 (.slice (some ⟨w.heap.size, 0, none⟩) 0 0) from by
    refine ⟨b, 5, [], _, _, rfl, rfl, Ta.Todo.start hbl, hbal, hbd, ho.mono HB0.out.size, HT0.out.next hb, fun q hq => ?_, HB0.out.trans (hb.mono HB0.out.size)⟩
    have hq : w.heap.size = q := by injection hq
    have := HSZ.out
    omega)
  have HG := Lib.hid hgW
  clear hok hbb hbal hbd hbl ho hb hgW
  go_wp2_with fail
  go_loopw [4, 7] (fun sv iv wr => ∃ (k : Nat), k ≤ 5 ∧ iv = .int .i64 (k : Int) ∧ SSettling w wr w.heap.size g b k sv) (fun _ iv _ => 5 - (intOf iv).toNat)
  case atStart => exact ⟨0, by omega, rfl, HST.out⟩
  case round =>
    obtain ⟨k, hk, rfl, b2, f, out, AT, cT, hko, rfl, hT, hbal, hbd, ho, hot, hsep, hb⟩ := hrel
    have HTD := Lib.hid (And.intro hT (And.intro hbal hbd))
    have HO := Lib.hid ho
    have HOT := Lib.hid (And.intro hot hsep)
    have HB := Lib.hid hb
    have HKO := Lib.hid hko
    have hbl2 := hbal.1
    clear hT hbal hbd ho hot hsep hb hko
    obtain ⟨wo, hwo⟩ : ∃ wo, wo = wr := ⟨_, rfl⟩
    subst hwo
    by_cases hlt : k < 5
    · have hltI : (k : Int) < 5 := by omega
      go_wp2_with fail
      go_loopw [8, 9, 10] (fun lv hv iv wq => ∃ (i q : Nat), i ≤ 5 ∧ iv = .int .i64 (i : Int) ∧ lv = .int .i64 (Ta.lowK b2 i : Int) ∧ hv = .int .i64 (Ta.highK b2 i : Int) ∧ wq = wo.drewN q) (fun _ _ iv _ => 5 - (intOf iv).toNat)
      case atStart => exact ⟨0, 0, by omega, rfl, rfl, rfl, rfl⟩
      case round =>
        obtain ⟨i, q, hi, rfl, rfl, rfl, hwq⟩ := hrel
        have HWQ := Lib.hid hwq
        clear hwq
        by_cases hi5 : i < 5
        · have hoq : Own wr w.heap.size (some ⟨g, 0, none⟩) 5 5 b2 := by rw [HWQ.out]; exact HO.out.drewN q
          obtain ⟨g', hge, _, _, hcell, _⟩ := hoq.at_ (by omega)
          injection hge with hge
          injection hge with hge
          subst hge
          have hLi := (Ta.lowK_spec b2 i).2.2.2
          have hHi := (Ta.highK_spec b2 i).2.2.2
          have eL : Ta.lowK b2 (i + 1) = if b2.getD i 0 < b2.getD (Ta.lowK b2 i) 0 then i else Ta.lowK b2 i := rfl
          have eH : Ta.highK b2 (i + 1) = if b2.getD (Ta.highK b2 i) 0 < b2.getD i 0 then i else Ta.highK b2 i := rfl
          obtain ⟨L, hL⟩ : ∃ L, Ta.lowK b2 i = L := ⟨_, rfl⟩
          obtain ⟨H, hH⟩ : ∃ H, Ta.highK b2 i = H := ⟨_, rfl⟩
          rw [hL] at hLi eL ⊢
          rw [hH] at hHi eH ⊢
          have ci := hcell i _ (getD_some (by omega))
          have cl := hcell L _ (getD_some (by omega))
          have ch := hcell H _ (getD_some (by omega))
          obtain ⟨x, hx⟩ : ∃ x, b2.getD i 0 = x := ⟨_, rfl⟩
          obtain ⟨y, hy⟩ : ∃ y, b2.getD L 0 = y := ⟨_, rfl⟩
          obtain ⟨z, hz⟩ : ∃ z, b2.getD H 0 = z := ⟨_, rfl⟩
          rw [hx] at ci eL eH
          rw [hy] at cl eL
          rw [hz] at ch eH
          clear hoq hcell hL hH hx hy hz
          by_cases h1 : x < y
          · rw [if_pos h1] at eL
            by_cases h2 : z < x
            · rw [if_pos h2] at eH
              have HE := Lib.hid (And.intro eL eH)
              clear eL eH
              go_wp2_with fail
              go_quiet (fail)
              go_wp2_with fail
              go_quiet (fail)
              go_wp2_with fail
              exact ⟨⟨i + 1, _, by omega, by go_num, by rw [HE.out.1], by rw [HE.out.2], by rw [HWQ.out]; simp only [World.drewN_drewN]; exact rfl⟩, by simp [intOf]; omega⟩
            · rw [if_neg h2] at eH
              have HE := Lib.hid (And.intro eL eH)
              clear eL eH
              go_wp2_with fail
              go_quiet (fail)
              go_wp2_with fail
              go_quiet (fail)
              go_wp2_with fail
              exact ⟨⟨i + 1, _, by omega, by go_num, by rw [HE.out.1], by rw [HE.out.2], by rw [HWQ.out]; simp only [World.drewN_drewN]; exact rfl⟩, by simp [intOf]; omega⟩
          · rw [if_neg h1] at eL
            by_cases h2 : z < x
            · rw [if_pos h2] at eH
              have HE := Lib.hid (And.intro eL eH)
              clear eL eH
              go_wp2_with fail
              go_quiet (fail)
              go_wp2_with fail
              go_quiet (fail)
              go_wp2_with fail
              exact ⟨⟨i + 1, _, by omega, by go_num, by rw [HE.out.1], by rw [HE.out.2], by rw [HWQ.out]; simp only [World.drewN_drewN]; exact rfl⟩, by simp [intOf]; omega⟩
            · rw [if_neg h2] at eH
              have HE := Lib.hid (And.intro eL eH)
              clear eL eH
              go_wp2_with fail
              go_quiet (fail)
              go_wp2_with fail
              go_quiet (fail)
              go_wp2_with fail
              exact ⟨⟨i + 1, _, by omega, by go_num, by rw [HE.out.1], by rw [HE.out.2], by rw [HWQ.out]; simp only [World.drewN_drewN]; exact rfl⟩, by simp [intOf]; omega⟩
        · have h5 : i = 5 := by omega
          have HO' := Lib.hid (show Own wr w.heap.size (some ⟨g, 0, none⟩) 5 5 b2 by rw [HWQ.out]; exact HO.out.drewN q)
          have HOT' := Lib.hid (show OwnT wr w.heap.size AT out.length cT (out.map payT) by rw [HWQ.out]; exact HOT.out.1.drewN q)
          have HB' := Lib.hid (show Below w.heap.size w wr by rw [HWQ.out]; exact below_drewN HB.out q)
          obtain ⟨L, hL⟩ : ∃ L, Ta.low b2 = L := ⟨_, rfl⟩
          obtain ⟨H, hH⟩ : ∃ H, Ta.high b2 = H := ⟨_, rfl⟩
          have eL : Ta.lowK b2 i = L := by rw [h5]; exact hL
          have eH : Ta.highK b2 i = H := by rw [h5]; exact hH
          rw [eL, eH]
          have L5 : L < 5 := by rw [← hL]; exact Ta.low_lt b2
          have H5 : H < 5 := by rw [← hH]; exact Ta.high_lt b2
          obtain ⟨y, hy⟩ : ∃ y, b2.getD L 0 = y := ⟨_, rfl⟩
          obtain ⟨z, hz⟩ : ∃ z, b2.getD H 0 = z := ⟨_, rfl⟩
          obtain ⟨m, hm⟩ : ∃ m, Ta.due b2 = m := ⟨_, rfl⟩
          have hmin : min z (-y) = m := by rw [← hm, Ta.due, hL, hH, hy, hz]; omega
          obtain ⟨g', hge, _, hgl, hcell, hfree⟩ := HO'.out.at_ (by omega)
          injection hge with hge
          injection hge with hge
          subst hge
          have cl := hcell L _ (getD_some (by omega))
          have ch := hcell H _ (getD_some (by omega))
          rw [hy] at cl
          rw [hz] at ch
          have by_ := HTD.out.2.2 L
          rw [hy] at by_
          have bz := HTD.out.2.2 H
          rw [hz] at bz
          have hneg : IntKind.i64.wrap (-y) = -y := neg_in by_
          have HEQ := Lib.hid (And.intro hL (And.intro hH (And.intro hm (And.intro hy hz))))
          have HMIN := Lib.hid hmin
          have hspec := Ta.due_spec HTD.out.2.1
          rw [hL, hH, hm, hy, hz] at hspec
          have HSP := Lib.hid hspec
          have HF := Lib.hid hfree
          clear h5 hL hH eL eH hy hz hm hmin hcell hfree hspec
          go_wp2_with fail
          go_quiet (fail)
          rw [HMIN.out]
          by_cases hm0 : m = 0
          · have HFIN := Lib.hid (show ∀ q, SSettlePost w ts (.returned (.tuple #[.slice AT out.length cT, .bool true])) (wr.drewN q) from fun q => HPS.out _ _ ⟨.inl ⟨out, HTD.out.1.done (by rw [HEQ.out.2.2.1]; exact hm0), AT, cT, rfl, HOT'.out.drewN q⟩, below_drewN HB'.out q⟩)
            subst hm0
            go_wp2
            go_ret2
            exact HFIN.out _
          have hmz : (m == 0) = false := by simpa using hm0
          have HM0 := Lib.hid hm0
          clear hm0
          go_wp2_with fail
          refine (specTallyNew_any (L : Int) (H : Int) m _).mono ?_
          rintro e w6 ⟨⟨hok, he⟩ | ⟨hno, he⟩, hb6⟩
          rotate_left
          · subst he
            have hb6' : Below wr.heap.size wr w6 := (below_drewN (Below.refl wr.heap.size wr) _).trans hb6
            have hm9 : 9999 < m := by
              by_cases h9 : 9999 < m
              · exact h9
              · obtain ⟨s0, _, s2⟩ := HSP.out
                have := s2 HM0.out
                exact absurd ⟨⟨by omega, by omega, by omega, by omega, fun e => this.2.2 (by omega)⟩, by have := HM0.out; omega, by omega⟩ hno
            have HN := Lib.hid (show ∀ o o' g c, SSettlePost w ts (.returned (.tuple #[.slice (some ⟨g, 0, none⟩) 0 c, .bool false])) ((w6.alloc o).alloc o') from fun o o' g c => HPS.out _ _ ⟨.inr ⟨HTD.out.1.no HTD.out.2.1 (by rw [HEQ.out.2.2.1]; exact HM0.out) (by rw [HEQ.out.2.2.1]; exact .inr hm9), g, c, rfl⟩,
              ((HB'.out.trans (hb6'.mono HB'.out.size)).alloc (Nat.le_trans HB'.out.size hb6'.size) _).alloc (by simp; have := HB'.out.size; have := hb6'.size; omega) _⟩)
            clear hb6 hb6' hno hm9
            unfold noTl
            go_wp2
            go_ret2
            exact HN.out _ _ _ _
          · have hb6' : Below wr.heap.size wr w6 := (below_drewN (Below.refl wr.heap.size wr) _).trans hb6
            have he : e = .returned (.tuple #[.agg #[.int .i64 (L : Int), .int .i64 (H : Int), .string (txt (Ta.ntext m.toNat)), .string (txt (Ta.ntext m.toNat))], .bool true]) := he
            subst he
            obtain ⟨s, hs⟩ : ∃ s, txt (Ta.ntext m.toNat) = s := ⟨_, rfl⟩
            have hpt : payT (L, H, m) = ⟨(L : Int), (H : Int), s, s⟩ := by rw [← hs]; rfl
            rw [hs]
            obtain ⟨W7, hW7⟩ : ∃ W7, w6.alloc (.cells #[.int .i64 (L : Int), .int .i64 (H : Int), .string s, .string s] 33) = W7 := ⟨_, rfl⟩
            have hb7 : Below wr.heap.size wr W7 := by rw [← hW7]; exact hb6'.alloc hb6'.size _
            have HPT := Lib.hid hpt
            have HM := Lib.hid hok
            have HO7 := Lib.hid (HO'.out.next hb7)
            have HOT7 := Lib.hid (HOT'.out.next hb7)
            have HB7 := Lib.hid (HB'.out.trans (hb7.mono HB'.out.size))
            have hglt : g < W7.heap.size := Nat.lt_of_lt_of_le hgl hb7.size
            have HGL := Lib.hid hglt
            obtain ⟨f2, rfl⟩ := HTD.out.1.pos HTD.out.2.1 (by rw [HEQ.out.2.2.1]; exact HM0.out)
            have hout : out.length ≤ 4 := by have := HTD.out.1.2.2; omega
            have HNB := Lib.hid (show w6.heap.size + 1 = W7.heap.size by rw [← hW7]; simp)
            have hspec := HSP.out
            have hLH : ¬ L = H := (hspec.2.2 HM0.out).2.2
            have hHL : ¬ H = L := fun e => hLH e.symm
            have wy : IntKind.i64.wrap (y + m) = y + m := IntWalk.i64_in _ (by have := HMIN.out; have := hspec.1; omega)
            have wz : IntKind.i64.wrap (z - m) = z - m := IntWalk.i64_in _ (by have := HMIN.out; have := hspec.1; omega)
            clear hpt hok hb7 hb6 hb6' hs cl ch hneg hspec hgl hglt by_ bz
            subst hW7
            go_wp2_with (refine wpList_app_t_at rfl _ _ rfl rfl HOT7.out ⟨(L : Int), (H : Int), s, s⟩ _ _ rfl HNB.out _ rfl (by omega) HB7.out.size ?_; intro A9 c9 w9 ho9 hg9 hat9; have hO9 := HO7.out.kept hg9 (fun q hq e => HOT.out.2 q e (by have hq : g = q := (by injection hq); exact hq.symm)); have HO9 := Lib.hid hO9; obtain ⟨g9, hge9, _, hgl9, hcell9, hfree9⟩ := hO9.at_ (by omega); injection hge9 with hge9; injection hge9 with hge9; subst hge9; have cl9 : w9.cell? ⟨g, L, none⟩ = some (.int .i64 y) := (by rw [← HEQ.out.2.2.2.1]; exact hcell9 L _ (getD_some (by omega))); have ch9 : w9.cell? ⟨g, H, none⟩ = some (.int .i64 z) := (by rw [← HEQ.out.2.2.2.2]; exact hcell9 H _ (getD_some (by omega))); have fl9 := hfree9 L; have fh9 := hfree9 H; have HOT9 := Lib.hid ho9; have HG9 := Lib.hid hg9; have HAT9 := Lib.hid hat9; clear hO9 hcell9 hfree9 ho9 hg9 hat9)
            have hnext := HTD.out.1.next HTD.out.2.1 (by rw [HEQ.out.2.2.1]; exact HM0.out) (by rw [HEQ.out.2.2.1]; exact HM.out.2.1) (by rw [HEQ.out.2.2.1]; exact HM.out.2.2)
            have hbal3 := Ta.pay_bal HTD.out.2.1 (by rw [HEQ.out.2.2.1]; exact HM0.out)
            have hbd3 := HTD.out.2.2.pay HTD.out.2.1 (by rw [HEQ.out.2.2.1]; exact HM0.out)
            rw [HEQ.out.1, HEQ.out.2.1, HEQ.out.2.2.1] at hnext hbal3 hbd3
            have hpay : Ta.pay b2 L H m = (b2.set L (y + m)).set H (z - m) := by unfold Ta.pay; rw [HEQ.out.2.2.2.1, HEQ.out.2.2.2.2]
            have hO10 := ((HO9.out.store L (y + m)).1.store H (z - m)).1
            rw [← hpay] at hO10
            have hsep9 : ∀ q, (Value.slice A9 (out.length + 1) c9).ownBlock = some q → q ≠ g := fun q hq => by
              rcases HAT9.out q hq with e | e
              · exact HOT.out.2 q e
              · have := HGL.out; omega
            have hOT10 := (HOT9.out.aside hsep9 L (.int .i64 (y + m))).aside hsep9 H (.int .i64 (z - m))
            have hgB : w.heap.size ≤ g := by have := HG.out; have := HSZ.out; omega
            have hB10 := ((HB7.out.grown HG9.out HB7.out.size (fun q hq => (HOT7.out.blk q hq).1)).setCell (p := ⟨g, L, none⟩) hgB (.int .i64 (y + m))).setCell (p := ⟨g, H, none⟩) hgB (.int .i64 (z - m))
            have hlen : (out ++ [(L, H, m)]).length = out.length + 1 := by simp
            refine ⟨⟨k + 1, by omega, by go_num, _, f2, out ++ [(L, H, m)], A9, c9, by rw [hlen, HKO.out], by rw [hlen], hnext, hbal3, hbd3, hO10, ?_, by rw [hlen]; exact hsep9, hB10⟩, by simp [intOf]; omega⟩
            rw [hlen, List.map_append, List.map_cons, List.map_nil, HPT.out]
            exact hOT10
    · have hk5 : k = 5 := by omega
      have hf0 : f = 0 := by have := HTD.out.1.2.2; have := HKO.out; omega
      have hset : Ta.settle 5 b = some out := by rw [HTD.out.1.1, hf0]; simp [Ta.settle]
      have HFIN := Lib.hid (show SSettlePost w ts (.returned (.tuple #[.slice AT out.length cT, .bool true])) wo from HPS.out _ _ ⟨.inl ⟨out, hset, AT, cT, rfl, HOT.out.1⟩, HB.out⟩)
      clear hk5 hf0 hset
      go_wp2
      go_ret2
      exact HFIN.out
end Go.Proofs.Ytogplbnabffcfaa
