/-
  Chains of two integers: ChainNear of the program; ChainOf, ChainBack and ChainNear of the reference.
-/
import Derived.Test.YtphokfdaimbaiaaGlChain2
namespace Go.Proofs.Ytphokfdaimbaiaa
open Go.RowKit

/-- the first k quotients, and what they lead back to -/
def okK (a b k : Int) : Bool := okC a b && (decide (0 ≤ k) && decide (k ≤ ((Gl.ch a b).length : Int)))
def nearV (a b k : Int) : Option (Int × Int) := if okK a b k then backV ((Gl.ch a b).take k.toNat) else none
theorem case_zero {a b : Int} (hz : ¬ (a = 0 ∧ b = 0)) : (a = 0 ∧ (b == 0) = false) ∨ a ≠ 0 := by
  by_cases za : a = 0
  · refine .inl ⟨za, ?_⟩
    have : b ≠ 0 := fun e => hz ⟨za, e⟩
    simpa using this
  · exact .inr za
theorem okK_iff (a b k : Int) : okK a b k = true ↔ okC a b = true ∧ 0 ≤ k ∧ k ≤ ((Gl.ch a b).length : Int) := by simp [okK]

set_option maxHeartbeats 1000000 in
theorem ChainNear_any (a b k : Int) (w : World) : Calls Try.prog 42 #[.int .i64 a, .int .i64 b, .int .i64 k] w fun e w' => e = .returned (pairV (nearV a b k)) ∧ Below w.heap.size w w' := by
  rcases hok : okC a b with _ | _
  · have HF : Hid (nearV a b k = none) := Lib.hid (by rw [nearV, if_neg (by simp [okK, hok])])
    have HC : Hid (∀ w, Calls Try.prog 29 #[.int .i64 a, .int .i64 b] w (PairPost w false (Gl.ch a b))) := Lib.hid fun w => by rw [← hok]; exact ChainOf_any a b w
    clear hok
    go_enter Try.func42, Try.ntmps42
    go_wp2_with fail
    refine (HC.out _).mono ?_
    rintro e w1 ⟨⟨A1, n1, c1, rfl, -⟩, hb1⟩
    have HB1 := Lib.hid hb1
    clear hb1
    go_wp2_with fail
    refine bodyPost_ret (results_tmp3 rfl _ _ _) rfl ?_
    exact ⟨by rw [HF.out]; rfl, HB1.out⟩
  · have HC : Hid (∀ w, Calls Try.prog 29 #[.int .i64 a, .int .i64 b] w (PairPost w true (Gl.ch a b))) := Lib.hid fun w => by rw [← hok]; exact ChainOf_any a b w
    have HL := Lib.hid (ch_len (a := a) ((okC_iff a b).1 hok).2.1.1 ((okC_iff a b).1 hok).2.1.2)
    have HOK := Lib.hid hok
    clear hok
    by_cases hk : 0 ≤ k ∧ k ≤ ((Gl.ch a b).length : Int)
    · obtain ⟨hk0, hk1⟩ := hk
      have HF : Hid (nearV a b k = backV ((Gl.ch a b).take k.toNat)) := Lib.hid (by rw [nearV, if_pos ((okK_iff a b k).2 ⟨HOK.out, hk0, hk1⟩)])
      obtain ⟨j, rfl⟩ := Int.eq_ofNat_of_zero_le hk0
      have hj : j ≤ (Gl.ch a b).length := by omega
      have HJ := Lib.hid hj
      clear hk0 hk1 hj
      go_enter Try.func42, Try.ntmps42
      go_wp2_with fail
      refine (HC.out _).mono ?_
      rintro e w1 ⟨⟨A1, n1, c1, rfl, ho⟩, hb1⟩
      simp only [if_true] at ho
      have hcap := own_cap ho
      have hbd := ho.bound
      have hj : j ≤ n1 := by have := HJ.out; have := ho.len; omega
      have HI := Lib.hid (ho.ints.take hj)
      have HB1 := Lib.hid hb1
      clear hb1 ho
      rw [Int.toNat_natCast] at HF
      rcases hv : backV ((Gl.ch a b).take j) with _ | ⟨x, y⟩
      · rw [hv] at HF
        have HV := Lib.hid hv
        clear hv
        go_wp2_with fail
        refine (ChainBack_none HI.out HV.out).mono ?_
        rintro e w2 ⟨rfl, hb2⟩
        have HB2 := Lib.hid (below_chain HB1.out hb2)
        clear hb2
        go_wp2_with fail
        refine bodyPost_ret (results_tmp3 rfl _ _ _) rfl ?_
        exact ⟨by rw [HF.out]; rfl, HB2.out⟩
      · rw [hv] at HF
        have HV := Lib.hid hv
        clear hv
        go_wp2_with fail
        refine (ChainBack_some HI.out HV.out).mono ?_
        rintro e w2 ⟨rfl, hb2⟩
        have HB2 := Lib.hid (below_chain HB1.out hb2)
        clear hb2
        go_wp2_with fail
        refine bodyPost_ret (results_tmp3 rfl _ _ _) rfl ?_
        exact ⟨by rw [HF.out]; rfl, HB2.out⟩
    · have HF : Hid (nearV a b k = none) := Lib.hid (by rw [nearV, if_neg (by rw [okK_iff]; rintro ⟨-, h⟩; exact hk h)])
      go_enter Try.func42, Try.ntmps42
      go_wp2_with fail
      refine (HC.out _).mono ?_
      rintro e w1 ⟨⟨A1, n1, c1, rfl, ho⟩, hb1⟩
      simp only [if_true] at ho
      obtain rfl : (Gl.ch a b).length = n1 := ho.len
      have hbd := ho.bound
      have HB1 := Lib.hid hb1
      clear hb1 ho
      obtain ⟨n1, hn1⟩ : ∃ n1, (Gl.ch a b).length = n1 := ⟨_, rfl⟩
      rw [hn1] at hk hbd ⊢
      clear hn1
      by_cases hk0 : k < 0
      · clear hk
        go_wp2_with fail
        refine bodyPost_ret (results_tmp3 rfl _ _ _) rfl ?_
        exact ⟨by rw [HF.out]; rfl, HB1.out⟩
      · have hk1 : (n1 : Int) < k := by omega
        clear hk
        go_wp2_with fail
        refine bodyPost_ret (results_tmp3 rfl _ _ _) rfl ?_
        exact ⟨by rw [HF.out]; rfl, HB1.out⟩

theorem ChainNear_none {a b k : Int} (h : nearV a b k = none) (w : World) : Calls Try.prog 42 #[.int .i64 a, .int .i64 b, .int .i64 k] w fun e w' => e = .returned (.tuple #[.int .i64 0, .int .i64 0, .bool false]) ∧ Below w.heap.size w w' :=
  (ChainNear_any a b k w).mono fun _ _ ⟨h1, h2⟩ => ⟨by rw [h1, h]; rfl, h2⟩
theorem ChainNear_some {a b k x y : Int} (h : nearV a b k = some (x, y)) (w : World) : Calls Try.prog 42 #[.int .i64 a, .int .i64 b, .int .i64 k] w fun e w' => e = .returned (.tuple #[.int .i64 x, .int .i64 y, .bool true]) ∧ Below w.heap.size w w' :=
  (ChainNear_any a b k w).mono fun _ _ ⟨h1, h2⟩ => ⟨by rw [h1, h]; rfl, h2⟩

set_option maxRecDepth 100000 in
set_option maxHeartbeats 2000000 in
theorem specChainOf_any (a b : Int) (w : World) : Calls Try.prog 70 #[.int .i64 a, .int .i64 b] w (PairPost w (okC a b) (Gl.ch a b)) := by
  have HLN := Lib.hid (lit_nil w)
  have HBN := Lib.hid ((Below.refl w.heap.size w).alloc (Nat.le_refl _) (.cells #[] 3))
  rcases ha : okR a with _ | _
  · have HA : Hid ((decide (0 ≤ a) && decide (a ≤ 1000000000)) = false) := Lib.hid ha
    have e : okC a b = false := by simp [okC, ha]
    rw [e]
    clear ha e
    go_enter Try.func70, Try.ntmps70
    go_wp2_with fail
    refine (l6In_is HA.out _).mono ?_
    rintro e w' ⟨rfl, rfl⟩
    go_wp2_with fail
    go_ret2
    exact ⟨⟨_, _, _, rfl, HLN.out⟩, HBN.out⟩
  · rcases hb : okR b with _ | _
    · have HA : Hid ((decide (0 ≤ a) && decide (a ≤ 1000000000)) = true) := Lib.hid ha
      have HB : Hid ((decide (0 ≤ b) && decide (b ≤ 1000000000)) = false) := Lib.hid hb
      have e : okC a b = false := by simp [okC, hb]
      rw [e]
      clear ha hb e
      go_enter Try.func70, Try.ntmps70
      go_wp2_with fail
      refine (l6In_is HA.out _).mono ?_
      rintro e w' ⟨rfl, rfl⟩
      go_wp2_with fail
      refine (l6In_is HB.out _).mono ?_
      rintro e w' ⟨rfl, rfl⟩
      go_wp2_with fail
      go_ret2
      exact ⟨⟨_, _, _, rfl, HLN.out⟩, HBN.out⟩
    · obtain ⟨a0, a1⟩ := (okR_iff a).1 ha
      obtain ⟨b0, b1⟩ := (okR_iff b).1 hb
      have HA : Hid ((decide (0 ≤ a) && decide (a ≤ 1000000000)) = true) := Lib.hid ha
      have HB : Hid ((decide (0 ≤ b) && decide (b ≤ 1000000000)) = true) := Lib.hid hb
      clear ha hb
      by_cases hz : a = 0 ∧ b = 0
      · obtain ⟨rfl, rfl⟩ := hz
        have e : okC 0 0 = false := rfl
        rw [e]
        clear e
        go_enter Try.func70, Try.ntmps70
        go_wp2_with fail
        refine (l6In_is HA.out _).mono ?_
        rintro e w' ⟨rfl, rfl⟩
        go_wp2_with fail
        refine (l6In_is HB.out _).mono ?_
        rintro e w' ⟨rfl, rfl⟩
        go_wp2_with fail
        go_ret2
        exact ⟨⟨_, _, _, rfl, HLN.out⟩, HBN.out⟩
      · have HZ : Hid (okC a b = true) := Lib.hid ((okC_iff a b).2 ⟨⟨a0, a1⟩, ⟨b0, b1⟩, by omega⟩)
        rw [HZ.out]
        have hL := ch_len (a := a) b0 b1
        obtain ⟨L, hch⟩ : ∃ L, Gl.ch a b = L := ⟨_, rfl⟩
        rw [hch] at hL ⊢
        have HCH := Lib.hid hch
        clear hch HZ
        rcases (show (a = 0 ∧ (b == 0) = false) ∨ a ≠ 0 from case_zero hz) with ⟨rfl, zb⟩ | za
        all_goals
          clear hz
          go_enter Try.func70, Try.ntmps70
          go_wp2_with fail
          refine (l6In_is HA.out _).mono ?_
          rintro e w' ⟨rfl, rfl⟩
          go_wp2_with fail
          refine (l6In_is HB.out _).mono ?_
          rintro e w' ⟨rfl, rfl⟩
          go_wp2_with fail
          go_loopw [0, 1, 6] (fun av bv v wr => ∃ (A : Option Addr) (c : Nat) (x y : Int) (dn : List Int), av = .int .i64 x ∧ bv = .int .i64 y ∧ v = .slice A dn.length c ∧ 0 ≤ x ∧ x ≤ 1000000000 ∧ 0 ≤ y ∧ y ≤ 1000000000 ∧ Own wr w.heap.size A dn.length c dn ∧ dn ++ Gl.ch x y = L ∧ Below w.heap.size w wr) (fun _ bv _ _ => (intOf bv).toNat)
          case atStart => exact ⟨_, _, _, _, [], rfl, rfl, rfl, by omega, by omega, b0, b1, HLN.out, HCH.out, HBN.out⟩
          case round =>
            obtain ⟨A, c, x, y, dn, rfl, rfl, rfl, x0, x1, y0, y1, hown, heq, hb⟩ := hrel
            have hlen : dn.length ≤ L.length := by rw [← heq, List.length_append]; omega
            have hsz := hb.size
            have HO := Lib.hid hown
            have HEQ := Lib.hid heq
            have HB3 := Lib.hid hb
            clear hown heq hb
            by_cases hy : y = 0
            · subst hy
              obtain rfl : dn = L := by have := HEQ.out; simpa [Gl.ch_zero] using this
              go_wp2_with fail
              go_ret2
              exact ⟨⟨_, _, _, rfl, HO.out⟩, HB3.out⟩
            · have hm := Gl.mod_small x y y0 hy
              have HST := Lib.hid (Gl.ch_step x y y0 hy)
              have hne : (y == 0) = false := by simpa using hy
              have m1 : x.tmod y = x % y := Int.tmod_eq_emod_of_nonneg x0
              have m2 : x.tdiv y = x / y := Int.tdiv_eq_ediv_of_nonneg x0
              have s1 : IntKind.i64.wrap (x % y) = x % y := IntWalk.i64_in _ (by omega)
              have q0 : 0 ≤ x / y := Int.ediv_nonneg x0 y0
              have q1 : x / y ≤ x := Int.ediv_le_self _ x0
              have s2 : IntKind.i64.wrap (x / y) = x / y := IntWalk.i64_in _ (by omega)
              obtain ⟨hm0, hm1⟩ := hm
              have hy2 : 0 < y := by omega
              clear hy
              go_wp2_with (at_builtin; refine wpList_app rfl _ _ rfl rfl HO.out [x / y] 1 rfl _ rfl _ rfl (by omega) (by omega) ?_; intro A5 c5 w5 hown5 hg5)
              have HB5 := Lib.hid (below_step HB3.out hg5 HO.out hsz)
              have hdl : (dn ++ [x / y]).length = dn.length + 1 := by simp
              have HDL := Lib.hid hdl
              clear hdl
              go_roundw
              case rel => exact ⟨A5, c5, y, x % y, dn ++ [x / y], rfl, rfl, by rw [HDL.out], by omega, by omega, hm0, by omega, by rw [HDL.out]; exact hown5, by rw [List.append_assoc, List.singleton_append, ← HST.out]; exact HEQ.out, HB5.out⟩
              case measure => simp [intOf]; omega

theorem backV_take_none {xs : List Int} {n : Nat} (h : 20 < n) (hl : xs.length = n) : backV xs = none := by rw [backV, if_pos (by omega)]
theorem min_one (i : Nat) : (if (i : Int) < 1 then (i : Int) else 1) = if i = 0 then 0 else 1 := by cases i <;> simp <;> omega

set_option maxRecDepth 100000 in
set_option maxHeartbeats 2000000 in
theorem specChainBack_any (A : Option Addr) (n c : Nat) (xs : List Int) (w : World) (hx : Ints w w.heap.size A n xs) :
    Calls Try.prog 28 #[.slice A n c] w fun e w' => e = .returned (pairV (backV xs)) ∧ w = w' := by
  have hl := hx.len
  have hbd := hx.bound
  by_cases hn : 20 < n
  · rw [show backV xs = none from by rw [backV, if_pos (by omega)]]
    clear hx hl
    go_enter Try.func28, Try.ntmps28
    go_wp2_with fail
    refine bodyPost_ret (results_tmp3 rfl _ _ _) rfl ?_
    exact ⟨rfl, rfl⟩
  · have HX := Lib.hid hx
    have HL := Lib.hid hl
    clear hx hl
    have HQ0 : Hid (Gl.back n (xs.drop n) = some (1, 0)) := Lib.hid (by rw [List.drop_of_length_le (by have := HL.out; omega)]; rfl)
    go_enter Try.func28, Try.ntmps28
    go_wp2_with fail
    go_loop [5, 6, 7] (fun av bv iv => ∃ (j : Nat) (a b : Int), j ≤ n ∧ av = .int .i64 a ∧ bv = .int .i64 b ∧ iv = .int .i64 ((j : Int) - 1) ∧ Gl.back j (xs.drop j) = some (a, b)) (fun _ _ iv => (intOf iv + 1).toNat)
    case atStart => exact ⟨n, 1, 0, by omega, rfl, rfl, by go_num, HQ0.out⟩
    case round =>
      obtain ⟨j, a, b, hj, rfl, rfl, rfl, hbk⟩ := hrel
      obtain ⟨a0, a1, b0, b1⟩ := Gl.back_range _ _ _ hbk
      simp only at a0 a1 b0 b1
      have HQ := Lib.hid hbk
      clear hbk HQ0
      cases j with
      | zero =>
        have HF := Lib.hid (backV_some HL.out (by omega) HQ.out)
        go_wp2_with fail
        refine bodyPost_ret (results_tmp3 rfl _ _ _) rfl ?_
        exact ⟨by rw [HF.out]; rfl, rfl⟩
      | succ i =>
        obtain ⟨b2, off, u, rfl, hub, hu, hcu⟩ := HX.out.at_ (show i < n by omega)
        have HU := Lib.hid hu
        clear hu
        have hi1 : ((i + 1 : Nat) : Int) - 1 = (i : Int) := by omega
        rw [hi1]
        clear hi1
        obtain ⟨m, hm, hm1⟩ : ∃ m : Int, (if (i : Int) < 1 then (i : Int) else 1) = m ∧ ((i = 0 ∧ m = 0) ∨ (0 < i ∧ m = 1)) := ⟨_, rfl, by cases i <;> simp <;> omega⟩
        by_cases hq : u < 0 ∨ 1000000000 < u ∨ (u = 0 ∧ 0 < i)
        · have HF := Lib.hid (backV_none HL.out (by omega) (back_no HU.out HQ.out (.inl hq)))
          have HIN : Hid ((decide (m ≤ u) && decide (u ≤ 1000000000)) = false) := Lib.hid (by simp; omega)
          clear hq
          rcases (show (i = 0 ∧ m = 0) ∨ (0 < i ∧ m = 1) from hm1) with ⟨rfl, rfl⟩ | ⟨hi0, rfl⟩
          · have HM := Lib.hid hm
            clear hm hm1
            rw [Nat.add_zero] at hcu
            go_wp2_with fail
            refine (l6In_is HIN.out _).mono ?_
            rintro e w' ⟨rfl, rfl⟩
            go_wp2_with fail
            refine bodyPost_ret (results_tmp3 rfl _ _ _) rfl ?_
            exact ⟨by rw [HF.out]; rfl, rfl⟩
          · have HM := Lib.hid hm
            clear hm hm1
            go_wp2_with fail
            refine (l6In_is HIN.out _).mono ?_
            rintro e w' ⟨rfl, rfl⟩
            go_wp2_with fail
            refine bodyPost_ret (results_tmp3 rfl _ _ _) rfl ?_
            exact ⟨by rw [HF.out]; rfl, rfl⟩
        · have u0 : 0 ≤ u := by omega
          have u1 : u ≤ 1000000000 := by omega
          have hz : ¬ (u = 0 ∧ 0 < i) := fun h => hq (.inr (.inr h))
          obtain ⟨m0, m1⟩ := mul_in u0 u1 a0 a1
          have HIN : Hid ((decide (m ≤ u) && decide (u ≤ 1000000000)) = true) := Lib.hid (by simp; omega)
          clear hq
          by_cases h3 : u * a + b ≤ 1000000000
          · have HN := Lib.hid (back_yes HU.out HQ.out u0 u1 hz h3)
            clear hz
            rcases (show (i = 0 ∧ m = 0) ∨ (0 < i ∧ m = 1) from hm1) with ⟨rfl, rfl⟩ | ⟨hi0, rfl⟩
            · clear hm hm1
              rw [Nat.add_zero] at hcu
              go_wp2_with fail
              refine (l6In_is HIN.out _).mono ?_
              rintro e w' ⟨rfl, rfl⟩
              go_wp2_with fail
              go_round
              case rel => exact ⟨0, _, _, by omega, rfl, rfl, by go_num, HN.out⟩
              case measure => simp [intOf]
            · clear hm hm1
              go_wp2_with fail
              refine (l6In_is HIN.out _).mono ?_
              rintro e w' ⟨rfl, rfl⟩
              go_wp2_with fail
              go_round
              case rel => exact ⟨i, _, _, by omega, rfl, rfl, by go_num, HN.out⟩
              case measure => simp [intOf]
          · have HF := Lib.hid (backV_none HL.out (by omega) (back_no HU.out HQ.out (.inr (by omega))))
            clear hz
            rcases (show (i = 0 ∧ m = 0) ∨ (0 < i ∧ m = 1) from hm1) with ⟨rfl, rfl⟩ | ⟨hi0, rfl⟩
            · clear hm hm1
              rw [Nat.add_zero] at hcu
              go_wp2_with fail
              refine (l6In_is HIN.out _).mono ?_
              rintro e w' ⟨rfl, rfl⟩
              go_wp2_with fail
              refine bodyPost_ret (results_tmp3 rfl _ _ _) rfl ?_
              exact ⟨by rw [HF.out]; rfl, rfl⟩
            · clear hm hm1
              go_wp2_with fail
              refine (l6In_is HIN.out _).mono ?_
              rintro e w' ⟨rfl, rfl⟩
              go_wp2_with fail
              refine bodyPost_ret (results_tmp3 rfl _ _ _) rfl ?_
              exact ⟨by rw [HF.out]; rfl, rfl⟩
theorem specChainBack_none {A : Option Addr} {n c : Nat} {xs : List Int} {w : World} (hx : Ints w w.heap.size A n xs) (h : backV xs = none) :
    Calls Try.prog 28 #[.slice A n c] w fun e w' => e = .returned (.tuple #[.int .i64 0, .int .i64 0, .bool false]) ∧ w = w' :=
  (specChainBack_any A n c xs w hx).mono fun _ _ ⟨h1, h2⟩ => ⟨by rw [h1, h]; rfl, h2⟩
theorem specChainBack_some {A : Option Addr} {n c : Nat} {xs : List Int} {w : World} {x y : Int} (hx : Ints w w.heap.size A n xs) (h : backV xs = some (x, y)) :
    Calls Try.prog 28 #[.slice A n c] w fun e w' => e = .returned (.tuple #[.int .i64 x, .int .i64 y, .bool true]) ∧ w = w' :=
  (specChainBack_any A n c xs w hx).mono fun _ _ ⟨h1, h2⟩ => ⟨by rw [h1, h]; rfl, h2⟩

set_option maxHeartbeats 1000000 in
theorem specChainNear_any (a b k : Int) (w : World) : Calls Try.prog 43 #[.int .i64 a, .int .i64 b, .int .i64 k] w fun e w' => e = .returned (pairV (nearV a b k)) ∧ Below w.heap.size w w' := by
  rcases hok : okC a b with _ | _
  · have HF : Hid (nearV a b k = none) := Lib.hid (by rw [nearV, if_neg (by simp [okK, hok])])
    have HC : Hid (∀ w, Calls Try.prog 70 #[.int .i64 a, .int .i64 b] w (PairPost w false (Gl.ch a b))) := Lib.hid fun w => by rw [← hok]; exact specChainOf_any a b w
    clear hok
    go_enter Try.func43, Try.ntmps43
    go_wp2_with fail
    refine (HC.out _).mono ?_
    rintro e w1 ⟨⟨A1, n1, c1, rfl, -⟩, hb1⟩
    have HB1 := Lib.hid hb1
    clear hb1
    go_wp2_with fail
    refine bodyPost_ret (results_tmp3 rfl _ _ _) rfl ?_
    exact ⟨by rw [HF.out]; rfl, HB1.out⟩
  · have HC : Hid (∀ w, Calls Try.prog 70 #[.int .i64 a, .int .i64 b] w (PairPost w true (Gl.ch a b))) := Lib.hid fun w => by rw [← hok]; exact specChainOf_any a b w
    have HL := Lib.hid (ch_len (a := a) ((okC_iff a b).1 hok).2.1.1 ((okC_iff a b).1 hok).2.1.2)
    have HOK := Lib.hid hok
    clear hok
    by_cases hk : 0 ≤ k ∧ k ≤ ((Gl.ch a b).length : Int)
    · obtain ⟨hk0, hk1⟩ := hk
      have HF : Hid (nearV a b k = backV ((Gl.ch a b).take k.toNat)) := Lib.hid (by rw [nearV, if_pos ((okK_iff a b k).2 ⟨HOK.out, hk0, hk1⟩)])
      obtain ⟨j, rfl⟩ := Int.eq_ofNat_of_zero_le hk0
      have hj : j ≤ (Gl.ch a b).length := by omega
      have HJ := Lib.hid hj
      clear hk0 hk1 hj
      go_enter Try.func43, Try.ntmps43
      go_wp2_with fail
      refine (HC.out _).mono ?_
      rintro e w1 ⟨⟨A1, n1, c1, rfl, ho⟩, hb1⟩
      simp only [if_true] at ho
      have hcap := own_cap ho
      have hbd := ho.bound
      have hj : j ≤ n1 := by have := HJ.out; have := ho.len; omega
      have HI := Lib.hid (ho.ints.take hj)
      have HB1 := Lib.hid hb1
      clear hb1 ho
      rw [Int.toNat_natCast] at HF
      rcases hv : backV ((Gl.ch a b).take j) with _ | ⟨x, y⟩
      · rw [hv] at HF
        have HV := Lib.hid hv
        clear hv
        go_wp2_with fail
        refine (l6In_yes (by omega) (by omega) _).mono ?_
        rintro e w' ⟨rfl, rfl⟩
        go_wp2_with fail
        refine (specChainBack_none HI.out HV.out).mono ?_
        rintro e w' ⟨rfl, rfl⟩
        go_wp2_with fail
        refine bodyPost_ret (results_tmp3 rfl _ _ _) rfl ?_
        exact ⟨by rw [HF.out]; rfl, HB1.out⟩
      · rw [hv] at HF
        have HV := Lib.hid hv
        clear hv
        go_wp2_with fail
        refine (l6In_yes (by omega) (by omega) _).mono ?_
        rintro e w' ⟨rfl, rfl⟩
        go_wp2_with fail
        refine (specChainBack_some HI.out HV.out).mono ?_
        rintro e w' ⟨rfl, rfl⟩
        go_wp2_with fail
        refine bodyPost_ret (results_tmp3 rfl _ _ _) rfl ?_
        exact ⟨by rw [HF.out]; rfl, HB1.out⟩
    · have HF : Hid (nearV a b k = none) := Lib.hid (by rw [nearV, if_neg (by rw [okK_iff]; rintro ⟨-, h⟩; exact hk h)])
      go_enter Try.func43, Try.ntmps43
      go_wp2_with fail
      refine (HC.out _).mono ?_
      rintro e w1 ⟨⟨A1, n1, c1, rfl, ho⟩, hb1⟩
      simp only [if_true] at ho
      obtain rfl : (Gl.ch a b).length = n1 := ho.len
      have hbd := ho.bound
      have HB1 := Lib.hid hb1
      clear hb1 ho
      obtain ⟨n1, hn1⟩ : ∃ n1, (Gl.ch a b).length = n1 := ⟨_, rfl⟩
      rw [hn1] at hk hbd ⊢
      clear hn1
      go_wp2_with fail
      refine (l6In_no (by omega) _).mono ?_
      rintro e w' ⟨rfl, rfl⟩
      go_wp2_with fail
      refine bodyPost_ret (results_tmp3 rfl _ _ _) rfl ?_
      exact ⟨by rw [HF.out]; rfl, HB1.out⟩

theorem specChainNear_none {a b k : Int} (h : nearV a b k = none) (w : World) : Calls Try.prog 43 #[.int .i64 a, .int .i64 b, .int .i64 k] w fun e w' => e = .returned (.tuple #[.int .i64 0, .int .i64 0, .bool false]) ∧ Below w.heap.size w w' :=
  (specChainNear_any a b k w).mono fun _ _ ⟨h1, h2⟩ => ⟨by rw [h1, h]; rfl, h2⟩
theorem specChainNear_some {a b k x y : Int} (h : nearV a b k = some (x, y)) (w : World) : Calls Try.prog 43 #[.int .i64 a, .int .i64 b, .int .i64 k] w fun e w' => e = .returned (.tuple #[.int .i64 x, .int .i64 y, .bool true]) ∧ Below w.heap.size w w' :=
  (specChainNear_any a b k w).mono fun _ _ ⟨h1, h2⟩ => ⟨by rw [h1, h]; rfl, h2⟩
end Go.Proofs.Ytphokfdaimbaiaa
