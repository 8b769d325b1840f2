/-
  Chains: what the laws say of them, in plain words; the draw of a list of quotients.
-/
import Derived.Test.YtphokfdaimbaiaaGlChain3
import Derived.Test.YtphokfdaimbaiaaDraw2
namespace Go.Proofs.Ytphokfdaimbaiaa
open Go.RowKit

theorem back_facts {xs : List Int} {x y : Int} (h : backV xs = some (x, y)) : Gl.Good xs ∧ Gl.cont xs = (x, y) ∧ 0 ≤ x ∧ x ≤ 1000000000 ∧ 0 ≤ y ∧ y ≤ 1000000000 ∧ okC x y = true ∧ Gl.com x y = 1 ∧ xs.length ≤ 20 := by
  unfold backV at h
  split at h
  · cases h
  · next hl =>
    obtain ⟨hg, hc⟩ := Gl.good_back h
    obtain ⟨a0, a1, b0, b1⟩ := Gl.back_range _ _ _ h
    have hr := Gl.cont_range xs hg
    have h1 := Gl.com_cont xs hg
    rw [← hc] at hr h1
    exact ⟨hg, hc.symm, a0, a1, b0, b1, (okC_iff x y).2 ⟨⟨a0, a1⟩, ⟨b0, b1⟩, hr.2.2⟩, h1, by omega⟩
theorem near_facts' {a b k x y : Int} (h : nearV a b k = some (x, y)) : okC a b = true ∧ 0 ≤ k ∧ k ≤ ((Gl.ch a b).length : Int) ∧ backV ((Gl.ch a b).take k.toNat) = some (x, y) := by
  unfold nearV at h
  split at h
  · next hk =>
    obtain ⟨h1, h2, h3⟩ := (okK_iff a b k).1 hk
    exact ⟨h1, h2, h3, h⟩
  · cases h
theorem near_next {a b k x y x2 y2 : Int} (h : nearV a b k = some (x, y)) (h2 : nearV a b (k + 1) = some (x2, y2)) : x * y2 - y * x2 = 1 ∨ x * y2 - y * x2 = -1 := by
  obtain ⟨hok, k0, k1, hb⟩ := near_facts' h
  obtain ⟨-, -, k3, hb2⟩ := near_facts' h2
  have e1 := (back_facts hb).2.1
  have e2 := (back_facts hb2).2.1
  obtain ⟨j, rfl⟩ := Int.eq_ofNat_of_zero_le k0
  have hj : j < (Gl.ch a b).length := by omega
  rw [show ((j : Int) + 1).toNat = j + 1 from by omega, take_next (List.getElem?_eq_getElem hj)] at e2
  rw [Int.toNat_natCast] at e1
  have := Gl.cross_next ((Gl.ch a b).take j) (Gl.ch a b)[j]
  rw [e1, e2] at this
  exact this
theorem near_end {a b x y : Int} (h : nearV a b ((Gl.ch a b).length : Int) = some (x, y)) : 0 < Gl.com a b ∧ a = Gl.com a b * x ∧ b = Gl.com a b * y := by
  obtain ⟨hok, -, -, hb⟩ := near_facts' h
  have e1 := (back_facts hb).2.1
  rw [Int.toNat_natCast, List.take_length] at e1
  obtain ⟨⟨a0, a1⟩, ⟨b0, b1⟩, hz⟩ := (okC_iff a b).1 hok
  have h2 := Gl.ch_back a b a0 b0
  rw [e1] at h2
  exact ⟨Gl.com_pos a b a0 b0 hz, h2.1, h2.2⟩
theorem near_div {a g x : Int} (hg : 0 < g) (h : a = g * x) : a.tdiv g = x := by
  rw [h, Int.mul_comm]
  exact Int.mul_tdiv_cancel x (by omega)
theorem near_over {a b k : Int} (h : ((Gl.ch a b).length : Int) < k) : nearV a b k = none := by
  rw [nearV, if_neg (by rw [okK_iff]; omega)]
/-- a last quotient 1 goes into the one ahead -/
theorem short_back {l : List Int} {q x y : Int} (h : backV (l ++ [q, 1]) = some (x, y)) : backV (l ++ [q + 1]) = some (x, y) := by
  unfold backV at h ⊢
  split at h
  · cases h
  · next hl =>
    rw [if_neg (by simp at hl ⊢; omega)]
    exact Gl.back_short l q 0 _ h
theorem chain_back {l : List Int} {x y : Int} (h : backV l = some (x, y)) (hlast : l.length ≤ 1 ∨ l.getLast? ≠ some 1) : Gl.ch x y = l := by
  obtain ⟨hg, hc, -⟩ := back_facts h
  have := Gl.ch_cont l hg hlast
  rwa [hc] at this

theorem two_last {xs : List Int} {n : Nat} (hl : xs.length = n) (hn : 1 < n) (h : xs[n - 1]? = some 1) : ∃ q l, xs = l ++ [q, 1] ∧ l.length = n - 2 := by
  refine ⟨xs[n - 2], xs.take (n - 2), ?_, by rw [List.length_take]; omega⟩
  have e1 : xs[n - 2]? = some xs[n - 2] := List.getElem?_eq_getElem (by omega)
  have t1 := take_next e1
  have t2 := take_next (show xs[n - 2 + 1]? = some 1 by rw [show n - 2 + 1 = n - 1 from by omega]; exact h)
  rw [t1, List.take_of_length_le (by omega), List.append_assoc] at t2
  exact t2
theorem back_mid {xs l : List Int} {q x y : Int} (h : backV xs = some (x, y)) (hxs : xs = l ++ [q, 1]) : 0 ≤ q ∧ q ≤ 1000000000 := by
  unfold backV at h
  split at h
  · cases h
  · exact (Gl.back_some xs 0 _ h).2.1 q (by rw [hxs]; simp)
theorem take_mid {l : List Int} {q : Int} {k : Nat} (hl : l.length = k) : (l ++ [q, 1]).take (k + 1) = l ++ [q] := by
  rw [List.take_append, hl, show k + 1 - k = 1 from by omega, List.take_of_length_le (by omega)]
  rfl
theorem set_mid {l : List Int} {q u : Int} {k : Nat} (hl : l.length = k) : (l ++ [q]).set k u = l ++ [u] := by
  subst hl
  simp
theorem get_mid {l : List Int} {q : Int} {k : Nat} (hl : l.length = k) : (l ++ [q])[k]? = some q := by
  subst hl
  simp
theorem last_case {xs : List Int} {n : Nat} (hl : xs.length = n) (h : ¬ (1 < n ∧ xs[n - 1]? = some 1)) : n ≤ 1 ∨ ∃ u, 1 < n ∧ xs[n - 1]? = some u ∧ u ≠ 1 := by
  by_cases hn : 1 < n
  · refine .inr ⟨xs[n - 1], hn, List.getElem?_eq_getElem (by omega), fun e => h ⟨hn, ?_⟩⟩
    rw [List.getElem?_eq_getElem (by omega), e]
  · exact .inl (by omega)
theorem last_not {xs : List Int} {n : Nat} (hl : xs.length = n) (h : ¬ (1 < n ∧ xs[n - 1]? = some 1)) : xs.length ≤ 1 ∨ xs.getLast? ≠ some 1 := by
  by_cases hn : 1 < n
  · refine .inr fun e => h ⟨hn, ?_⟩
    rw [List.getLast?_eq_getElem?, hl] at e
    exact e
  · exact .inl (by omega)

set_option maxRecDepth 100000 in
set_option maxHeartbeats 2000000 in
theorem DrawChainBack_any (A : Option Addr) (n c : Nat) (w : World) (h : Bytes w w.heap.size A n c) (hn : n ≤ 1048576) :
    Calls Try.prog 26 #[.slice A n c] w fun e w' => ∃ A n c xs, e = .returned (.slice A n c) ∧ Ints w' w'.heap.size A n xs ∧ n ≤ 21 ∧ n ≤ c ∧ Below w.heap.size w w' := by
  have H := Lib.hid h
  clear h
  go_enter Try.func26, Try.ntmps26
  go_wp2_with fail
  refine (l6Open_any _ _ _ _ H.out hn).mono ?_
  rintro e w0 ⟨rfl, hrd, hb⟩
  have HB := Lib.hid hb
  have hlt := hrd.lt
  have HR := Lib.hid hrd
  have HLN := Lib.hid (lit_nil w0)
  clear hrd hb
  go_wp2_with fail
  refine (pick_any _ _ _ _ _ (HR.out.alloc _) (by omega)).mono ?_
  rintro e w1 ⟨v1, rfl, hv1, hrd1, hg1⟩
  obtain ⟨hva1, hvb1⟩ := hv1 (by omega)
  clear hv1
  obtain ⟨j1, rfl⟩ := Int.eq_ofNat_of_zero_le hva1
  have HO := Lib.hid (own_pick HLN.out hg1 hlt)
  clear HLN
  have hsz1 := hg1.size
  simp only [World.size_alloc] at hsz1
  replace HB := Lib.hid ((HB.out.alloc HB.out.size _).trans (base_in hg1 (Nat.le_refl _) (by simp; omega)))
  replace HR := Lib.hid hrd1
  clear hrd1 hg1
  go_wp2_with fail
  go_loopw [4, 6] (fun out i wr => ∃ k A c xs q, k ≤ j1 ∧ i = .int .i64 (k : Nat) ∧ out = .slice A k c ∧ Own wr w0.heap.size A k c xs ∧ Rd wr w.heap.size w.heap.size q ∧ q ≤ 1 + k ∧ Below w.heap.size w wr ∧ w0.heap.size ≤ wr.heap.size) (fun _ i _ => j1 - (intOf i).toNat)
  case atStart => exact ⟨0, _, _, _, _, by omega, by go_num, rfl, HO.out, HR.out, by omega, HB.out, by omega⟩
  case round =>
    clear HO HR HB
    obtain ⟨k, A, c, xs, q, hk, rfl, rfl, hown, hrd, hq, hbel, hszg⟩ := hrel
    have HO := Lib.hid hown
    have HR := Lib.hid hrd
    have HB := Lib.hid hbel
    clear hown hrd hbel
    by_cases hlk : k < j1
    · go_wp2_with fail
      refine (pick_any _ _ _ _ _ HR.out (by omega)).mono ?_
      rintro e w2 ⟨v2, rfl, hv2, hrd2, hg2⟩
      obtain ⟨hva2, hvb2⟩ := hv2 (by omega)
      clear hv2
      have hsz2 := hg2.size
      replace HB := Lib.hid (HB.out.trans (base_in hg2 (Nat.le_refl _) (by omega)))
      replace HO := Lib.hid (own_pick HO.out hg2 hlt)
      replace HR := Lib.hid hrd2
      clear hrd2 hg2
      go_wp2_with (at_builtin; refine wpList_app rfl _ _ rfl rfl HO.out [1 + v2] 1 rfl _ rfl _ rfl (by omega) (by omega) ?_; intro A' c' w9 hown9 hg9)
      have HR9 := Lib.hid (HR.out.grown hg9 (fun k hk => by have := (HO.out.blk k hk).1; omega))
      have HB9 := Lib.hid (HB.out.grown hg9 (by omega) fun k hk => by have := (HO.out.blk k hk).1; omega)
      have hsz9 := hg9.size
      go_roundw
      case rel => exact ⟨k + 1, _, _, _, _, by omega, by go_num, rfl, hown9, HR9.out, by omega, HB9.out, by omega⟩
      case measure => simp [intOf]; omega
    · obtain rfl : k = j1 := by omega
      clear hlk hk
      by_cases hk0 : k = 0
      · subst hk0
        go_wp2_with fail
        go_ret
        exact ⟨_, _, _, _, rfl, HO.out.ints, by omega, own_cap HO.out, HB.out⟩
      · have hkp : 0 < k := by omega
        clear hk0
        go_wp2_with fail
        refine (pick_any _ _ _ _ _ HR.out (by omega)).mono ?_
        rintro e w2 ⟨v2, rfl, hv2, hrd2, hg2⟩
        obtain ⟨hva2, hvb2⟩ := hv2 (by omega)
        clear hv2
        have hsz2 := hg2.size
        replace HB := Lib.hid (HB.out.trans (base_in hg2 (Nat.le_refl _) (by omega)))
        replace HO := Lib.hid (own_pick HO.out hg2 hlt)
        replace HR := Lib.hid hrd2
        clear hrd2 hg2
        by_cases ev2_0 : v2 = 0
        · subst ev2_0
          obtain ⟨g8, rfl, hg8, hl8, hc8, hf8⟩ := HO.out.at_ hkp
          have hl7 := HO.out.len
          obtain ⟨u8, hu8⟩ : ∃ u, w2.cell? ⟨g8, 0, none⟩ = some u := ⟨_, hc8 0 _ (List.getElem?_eq_getElem (by omega))⟩
          have hf0 := hf8 0
          have HS := Lib.hid (HO.out.store 0 0)
          clear hl7 hc8 hf8
          go_wp2
          go_ret
          exact ⟨_, _, _, _, rfl, HS.out.1.ints, by omega, own_cap HS.out.1, HB.out.grown HS.out.2 (by omega) (by rintro k ⟨⟩; omega)⟩
        · have fv2_0 : (v2 == 0) = false := by simpa using ev2_0
          by_cases ev2_1 : v2 = 1
          · subst ev2_1
            clear ev2_0 fv2_0
            go_wp2_with fail
            refine (pick_any _ _ _ _ _ (HR.out.alloc _) (by omega)).mono ?_
            rintro e w3 ⟨v3, rfl, hv3, hrd3, hg3⟩
            obtain ⟨hva3, hvb3⟩ := hv3 (by omega)
            obtain ⟨j3, u3, rfl, hj3, hu3, hc3⟩ := lit_after (n := 4) (us := [0, -1, 1000000000, 1]) hg3 (by omega) rfl (by omega) hva3 hvb3
            clear hv3 hu3
            have hsz3 := hg3.size
            simp only [World.size_alloc] at hsz3
            replace HB := Lib.hid ((HB.out.alloc (by omega) _).trans (base_in hg3 (Nat.le_refl _) (by simp; omega)))
            replace HO := Lib.hid (own_pick (HO.out.alloc _) hg3 hlt)
            clear hrd3 hg3 HR
            obtain ⟨k', rfl⟩ : ∃ k', k = k' + 1 := ⟨k - 1, by omega⟩
            obtain ⟨g8, rfl, hg8, hl8, hc8, hf8⟩ := HO.out.at_ hkp
            have hl7 := HO.out.len
            obtain ⟨u8, hu8⟩ : ∃ u, w3.cell? ⟨g8, k', none⟩ = some u := ⟨_, hc8 k' _ (List.getElem?_eq_getElem (by omega))⟩
            have hf0 := hf8 k'
            have HS := Lib.hid (HO.out.store k' u3)
            have hi1 : ((k' + 1 : Nat) : Int) - 1 = (k' : Int) := by omega
            clear hl7 hc8 hf8
            go_wp2
            go_ret
            exact ⟨_, _, _, _, rfl, HS.out.1.ints, by omega, own_cap HS.out.1, HB.out.grown HS.out.2 (by omega) (by rintro k ⟨⟩; omega)⟩
          · have fv2_1 : (v2 == 1) = false := by simpa using ev2_1
            by_cases ev2_2 : v2 = 2
            · subst ev2_2
              clear HR
              go_wp2_with fail
              go_loopw [4] (fun out wr => ∃ k A c xs, k ≤ 21 ∧ out = .slice A k c ∧ Own wr w0.heap.size A k c xs ∧ Below w.heap.size w wr ∧ w0.heap.size ≤ wr.heap.size) (fun out _ => match out with | .slice _ n _ => 21 - n | _ => 0)
              case atStart => exact ⟨k, _, _, _, by omega, rfl, HO.out, HB.out, by omega⟩
              case round =>
                clear HO HB
                obtain ⟨m, A, c, xs, hm, rfl, hown, hbel, hszm⟩ := hrel
                have HO := Lib.hid hown
                have HB := Lib.hid hbel
                clear hown hbel
                by_cases hlm : m < 21
                · go_wp2_with (at_builtin; refine wpList_app rfl _ _ rfl rfl HO.out [1] 1 rfl _ rfl _ rfl (by omega) (by omega) ?_; intro A' c' w9 hown9 hg9)
                  have HB9 := Lib.hid (HB.out.grown hg9 (by omega) fun k hk => by have := (HO.out.blk k hk).1; omega)
                  have hsz9 := hg9.size
                  go_roundw
                  case rel => exact ⟨m + 1, _, _, _, by omega, rfl, hown9, HB9.out, by omega⟩
                  case measure => simp; omega
                · go_wp2
                  go_ret
                  exact ⟨_, _, _, _, rfl, HO.out.ints, by omega, own_cap HO.out, HB.out⟩
            · have fv2_2 : (v2 == 2) = false := by simpa using ev2_2
              go_wp2
              go_ret
              exact ⟨_, _, _, _, rfl, HO.out.ints, by omega, own_cap HO.out, HB.out⟩
end Go.Proofs.Ytphokfdaimbaiaa
