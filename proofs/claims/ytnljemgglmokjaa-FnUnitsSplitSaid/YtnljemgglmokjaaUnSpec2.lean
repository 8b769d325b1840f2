/-
  The reference's units: l2Put and UnitsDrop.
-/
import Derived.Test.YtnljemgglmokjaaUnSpec
namespace Go.Proofs.Ytnljemgglmokjaa
open Go.RowKit

theorem own_addr {w : World} {B n c : Nat} {A : Option Addr} {xs : List Int} (h : Own w B A n c xs) : (A = none ∧ n = 0 ∧ c = 0) ∨ ∃ g, A = some ⟨g, 0, none⟩ := by
  rcases h.1.2 with ⟨h1, rfl⟩ | ⟨g, cap, cur, h1, _⟩
  · injection h1 with e1 e2 e3
    exact .inl ⟨e1, e2, e3⟩
  · injection h1 with e1 e2 e3
    exact .inr ⟨g, e1⟩
theorem Own.rest {w : World} {B n c k g : Nat} {xs : List Int} (h : Own w B (some ⟨g, 0, none⟩) n c xs) (hk : k ≤ n) :
    Ints w w.heap.size (if c = k then some ⟨g, 0, none⟩ else some ⟨g, k, none⟩) (n - k) (xs.drop k) := by
  have := h.ints.drop rfl hk (own_cap h)
  rwa [Nat.zero_add] at this

set_option maxRecDepth 100000 in
set_option maxHeartbeats 2000000 in
theorem l2Put_any (B : Nat) (A : Option Addr) (n c : Nat) (xs : List Int) (v : Int) (w : World) (hx : Own w B A n c xs) (hn : n ≤ 1000) :
    Calls Try.prog 24 #[.slice A n c, .int .i64 v] w (PairPost w (put v xs).isSome ((put v xs).getD [])) := by
  have hcap := own_cap hx
  have hbnd := hx.bound
  have HLN := Lib.hid (lit_nil w)
  have HBN := Lib.hid ((Below.refl w.heap.size w).alloc (Nat.le_refl _) (.cells #[] 3))
  rcases own_addr hx with ⟨rfl, rfl, rfl⟩ | ⟨g, rfl⟩
  · have hxs : xs = [] := List.eq_nil_of_length_eq_zero hx.len
    subst hxs
    have HI := Lib.hid (hx.ints.alloc (Nat.le_refl _) (.cells #[] 3))
    clear hx
    have e1 : put v [] = some [v] := rfl
    rw [e1]
    clear e1
    go_enter Try.func24, Try.ntmps24
    go_wp2_with fail
    go_loop [6] (fun i => i = .int .i64 0) (fun _ => 0)
    case atStart => rfl
    case round =>
      obtain rfl := hrel
      go_wp2_with (first
        | (at_builtin; refine wpList_app_ints rfl _ _ rfl rfl HLN.out rfl HI.out (by omega) (by simp) ?_; intro A1 c1 w1 hown1 hg1; have HO1 := Lib.hid hown1; have HB1 := Lib.hid (HBN.out.grown hg1 (by simp) (fun j hj => (HLN.out.blk j hj).1)); clear hown1 hg1)
        | (at_builtin; refine wpList_app rfl _ _ rfl rfl HO1.out [v] 1 rfl _ rfl _ rfl (by omega) HB1.out.size ?_; intro A2 c2 w2 hown2 hg2; have HO2 := Lib.hid hown2; have HB2 := Lib.hid (below_step HB1.out hg2 HO1.out HB1.out.size); clear hown2 hg2)
        | (at_builtin; refine wpList_app_ints rfl _ _ rfl rfl HO2.out rfl (Ints.nil _ 0 _) (by omega) HB2.out.size ?_; intro A3 c3 w3 hown3 hg3; have HO3 := Lib.hid hown3; have HB3 := Lib.hid (below_step HB2.out hg3 HO2.out HB2.out.size); clear hown3 hg3))
      go_ret2
      exact ⟨⟨_, _, _, rfl, HO3.out⟩, HB3.out⟩
  · have HL := Lib.hid hx.len
    have HX := Lib.hid hx
    have HX1 := Lib.hid (hx.ints.alloc (Nat.le_refl _) (.cells #[] 3))
    clear hx
    go_enter Try.func24, Try.ntmps24
    go_wp2_with fail
    go_loop [6] (fun i => ∃ k : Nat, k ≤ n ∧ i = .int .i64 (k : Int) ∧ put v xs = (put v (xs.drop k)).map (xs.take k ++ ·)) (fun i => n - (intOf i).toNat)
    case atStart => exact ⟨0, by omega, rfl, by simp⟩
    case round =>
      obtain ⟨k, hk, rfl, hq⟩ := hrel
      have HQ := Lib.hid hq
      clear hq
      by_cases hend : k = n
      · have HF : Hid (put v xs = some (xs.take k ++ [v] ++ [])) := Lib.hid (by rw [put_end (by have := HL.out; omega) HQ.out, List.drop_of_length_le (by have := HL.out; omega)])
        have HT := Lib.hid (HX1.out.take hk)
        clear HQ
        subst hend
        go_wp2_with (first
          | (at_builtin; refine wpList_app_ints rfl _ _ rfl rfl HLN.out rfl HT.out (by omega) (by simp) ?_; intro A1 c1 w1 hown1 hg1; rw [Nat.zero_add, List.nil_append] at hown1; have HO1 := Lib.hid hown1; have HB1 := Lib.hid (HBN.out.grown hg1 (by simp) (fun j hj => (HLN.out.blk j hj).1)); clear hown1 hg1)
          | (at_builtin; refine wpList_app rfl _ _ rfl rfl HO1.out [v] 1 rfl _ rfl _ rfl (by omega) HB1.out.size ?_; intro A2 c2 w2 hown2 hg2; have HO2 := Lib.hid hown2; have HB2 := Lib.hid (below_step HB1.out hg2 HO1.out HB1.out.size); clear hown2 hg2)
          | (at_builtin; refine wpList_app_ints rfl _ _ rfl rfl HO2.out rfl (Ints.nil _ 0 _) (by omega) HB2.out.size ?_; intro A3 c3 w3 hown3 hg3; have HO3 := Lib.hid hown3; have HB3 := Lib.hid (below_step HB2.out hg3 HO2.out HB2.out.size); clear hown3 hg3))
        all_goals go_ret2
        all_goals exact ⟨⟨_, _, _, by rw [HF.out]; rfl, by rw [HF.out]; exact HO3.out⟩, HB3.out⟩
      · have hkn : k < n := by omega
        obtain ⟨g', e, _, _, hc7, _⟩ := HX.out.at_ (by omega)
        obtain rfl : g = g' := by simpa using e
        obtain ⟨u, hu⟩ : ∃ u, xs[k]? = some u := ⟨_, List.getElem?_eq_getElem (by have := HL.out; omega)⟩
        have hcu := hc7 k u hu
        clear hc7 e
        by_cases h1 : u < v
        · have HN := Lib.hid (put_step hu h1 HQ.out)
          clear hu HQ
          go_wp2_with fail
          go_round
          case rel => exact ⟨k + 1, by omega, by go_num, HN.out⟩
          case measure => simp [intOf]; omega
        · by_cases h2 : u = v
          · subst h2
            have HF := Lib.hid (put_twice hu HQ.out)
            clear hu HQ
            go_wp2
            go_ret2
            exact ⟨⟨_, _, _, by rw [HF.out]; rfl, by rw [HF.out]; exact HLN.out⟩, HBN.out⟩
          · have HF := Lib.hid (put_here hu h1 h2 HQ.out)
            have hne : (u == v) = false := by simpa using h2
            have HT := Lib.hid (HX1.out.take hk)
            have hck : ¬ c = k := by omega
            have hd := (HX.out.rest hk).alloc (Nat.le_refl _) (.cells #[] 3)
            rw [if_neg hck] at hd
            have HD := Lib.hid hd
            clear hu HQ h2 hd
            go_wp2_with (first
              | (at_builtin; refine wpList_app_ints rfl _ _ rfl rfl HLN.out rfl HT.out (by omega) (by simp) ?_; intro A1 c1 w1 hown1 hg1; rw [Nat.zero_add, List.nil_append] at hown1; have HO1 := Lib.hid hown1; have HB1 := Lib.hid (HBN.out.grown hg1 (by simp) (fun j hj => (HLN.out.blk j hj).1)); have HD1 := Lib.hid (HD.out.grown hg1 (by simp) (fun j hj => (HLN.out.blk j hj).1)); clear hown1 hg1)
              | (at_builtin; refine wpList_app rfl _ _ rfl rfl HO1.out [v] 1 rfl _ rfl _ rfl (by omega) HB1.out.size ?_; intro A2 c2 w2 hown2 hg2; have HO2 := Lib.hid hown2; have HB2 := Lib.hid (below_step HB1.out hg2 HO1.out HB1.out.size); have HD2 := Lib.hid (HD1.out.grown hg2 HB1.out.size (fun j hj => (HO1.out.blk j hj).1)); clear hown2 hg2)
              | (at_builtin; refine wpList_app_ints rfl _ _ rfl rfl HO2.out rfl HD2.out (by omega) HB2.out.size ?_; intro A3 c3 w3 hown3 hg3; have HO3 := Lib.hid hown3; have HB3 := Lib.hid (below_step HB2.out hg3 HO2.out HB2.out.size); clear hown3 hg3))
            go_ret2
            exact ⟨⟨_, _, _, by rw [HF.out]; rfl, by rw [HF.out]; exact HO3.out⟩, HB3.out⟩
end Go.Proofs.Ytnljemgglmokjaa
