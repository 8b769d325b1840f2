/-
  Chains of two integers: the program's ChainOf, ChainCommon, ChainBack and ChainNear.
-/
import Derived.Test.YtphokfdaimbaiaaGlChain
namespace Go.Proofs.Ytphokfdaimbaiaa
open Go.RowKit

def okR (n : Int) : Bool := decide (0 ≤ n) && decide (n ≤ 1000000000)
theorem okR_iff (n : Int) : okR n = true ↔ 0 ≤ n ∧ n ≤ 1000000000 := by simp [okR]
def okC (a b : Int) : Bool := okR a && okR b && !(a == 0 && b == 0)
theorem okC_iff (a b : Int) : okC a b = true ↔ (0 ≤ a ∧ a ≤ 1000000000) ∧ (0 ≤ b ∧ b ≤ 1000000000) ∧ (a ≠ 0 ∨ b ≠ 0) := by
  simp [okC, okR, and_assoc]
theorem hasRoot_ok {n : Int} {r : Bool} (h : okR n = r) (w : World) : Calls Try.prog 56 #[.int .i64 n] w fun e w' => e = .returned (.bool r) ∧ w = w' := hasRoot_is h w

set_option maxHeartbeats 1000000 in
theorem hasChain_any (a b : Int) (w : World) : Calls Try.prog 65 #[.int .i64 a, .int .i64 b] w fun e w' => e = .returned (.bool (okC a b)) ∧ w = w' := by
  rcases ha : okR a with _ | _
  · have HA := Lib.hid ha
    have e : okC a b = false := by simp [okC, ha]
    rw [e]
    clear ha e
    go_enter Try.func65, Try.ntmps65
    go_wp2_with fail
    refine (hasRoot_ok HA.out _).mono ?_
    rintro e w' ⟨rfl, rfl⟩
    go_wp2
    go_ret
    exact ⟨rfl, rfl⟩
  · rcases hb : okR b with _ | _
    · have HA := Lib.hid ha
      have HB := Lib.hid hb
      have e : okC a b = false := by simp [okC, hb]
      rw [e]
      clear ha hb e
      go_enter Try.func65, Try.ntmps65
      go_wp2_with fail
      refine (hasRoot_ok HA.out _).mono ?_
      rintro e w' ⟨rfl, rfl⟩
      go_wp2_with fail
      refine (hasRoot_ok HB.out _).mono ?_
      rintro e w' ⟨rfl, rfl⟩
      go_wp2
      go_ret
      exact ⟨rfl, rfl⟩
    · have HA := Lib.hid ha
      have HB := Lib.hid hb
      have e : okC a b = !(a == 0 && b == 0) := by simp [okC, ha, hb]
      rw [e]
      clear ha hb e
      by_cases za : a = 0
      · subst za
        by_cases zb : b = 0
        · subst zb
          go_enter Try.func65, Try.ntmps65
          go_wp2_with fail
          refine (hasRoot_ok HA.out _).mono ?_
          rintro e w' ⟨rfl, rfl⟩
          go_wp2_with fail
          refine (hasRoot_ok HB.out _).mono ?_
          rintro e w' ⟨rfl, rfl⟩
          go_wp2
          go_ret
          exact ⟨rfl, rfl⟩
        · have e : (!((0 : Int) == 0 && b == 0)) = true := by simp [zb]
          rw [e]
          clear e
          go_enter Try.func65, Try.ntmps65
          go_wp2_with fail
          refine (hasRoot_ok HA.out _).mono ?_
          rintro e w' ⟨rfl, rfl⟩
          go_wp2_with fail
          refine (hasRoot_ok HB.out _).mono ?_
          rintro e w' ⟨rfl, rfl⟩
          go_wp2
          go_ret
          exact ⟨ret_bool (by simp [zb]), rfl⟩
      · have e : (!(a == 0 && b == 0)) = true := by simp [za]
        rw [e]
        clear e
        go_enter Try.func65, Try.ntmps65
        go_wp2_with fail
        refine (hasRoot_ok HA.out _).mono ?_
        rintro e w' ⟨rfl, rfl⟩
        go_wp2_with fail
        refine (hasRoot_ok HB.out _).mono ?_
        rintro e w' ⟨rfl, rfl⟩
        go_wp2
        go_ret
        exact ⟨rfl, rfl⟩
theorem hasChain_is {a b : Int} {r : Bool} (h : okC a b = r) (w : World) : Calls Try.prog 65 #[.int .i64 a, .int .i64 b] w fun e w' => e = .returned (.bool r) ∧ w = w' := by
  rw [← h]; exact hasChain_any a b w

set_option maxHeartbeats 1000000 in
theorem ChainOf_any (a b : Int) (w : World) : Calls Try.prog 29 #[.int .i64 a, .int .i64 b] w (PairPost w (okC a b) (Gl.ch a b)) := by
  rcases hok : okC a b with _ | _
  · have HK := Lib.hid hok
    clear hok
    go_enter Try.func29, Try.ntmps29
    go_wp2_with fail
    refine (hasChain_is HK.out _).mono ?_
    rintro e w' ⟨rfl, rfl⟩
    go_wp2
    go_ret2
    exact ⟨⟨_, _, _, rfl, Own.nil _ _⟩, Below.refl _ _⟩
  · obtain ⟨⟨a0, a1⟩, ⟨b0, b1⟩, -⟩ := (okC_iff a b).1 hok
    have HK := Lib.hid hok
    have HL := Lib.hid (ch_len (a := a) b0 b1)
    obtain ⟨T, v, hv⟩ := chV_iface (Gl.ch a b) (Gl.com a b)
    have HV := Lib.hid hv
    clear hok hv
    go_enter Try.func29, Try.ntmps29
    go_wp2_with fail
    refine (hasChain_is HK.out _).mono ?_
    rintro e w' ⟨rfl, rfl⟩
    go_wp2_with fail
    refine (chainFrom_any (b.toNat + 1) a b _ a0 a1 b0 b1 (by omega)).mono ?_
    rintro e w1 ⟨rfl, m, rfl⟩
    rw [HV.out]
    go_wp2_with fail
    rw [← HV.out]
    refine (told_any (Gl.ch a b) (Gl.com a b) _ (by have := HL.out; omega)).mono ?_
    rintro e w2 ⟨⟨A, c, rfl, ho⟩, hb⟩
    have HO := Lib.hid ho
    have HB := Lib.hid ((below_drewN (Below.refl w.heap.size w) m).trans hb)
    clear ho hb
    go_wp2
    go_ret2
    exact ⟨⟨_, _, _, rfl, HO.out⟩, HB.out⟩

def comL (a b : Int) : Int := if okC a b then Gl.com a b else -1
set_option maxHeartbeats 1000000 in
theorem ChainCommon_any (a b : Int) (w : World) : Calls Try.prog 30 #[.int .i64 a, .int .i64 b] w fun e w' => e = .returned (.int .i64 (comL a b)) ∧ Below w.heap.size w w' := by
  rcases hok : okC a b with _ | _
  · rw [comL, hok]
    have HK := Lib.hid hok
    clear hok
    go_enter Try.func30, Try.ntmps30
    go_wp2_with fail
    refine (hasChain_is HK.out _).mono ?_
    rintro e w' ⟨rfl, rfl⟩
    go_wp2
    go_ret
    exact ⟨rfl, Below.refl _ _⟩
  · rw [comL, hok]
    obtain ⟨⟨a0, a1⟩, ⟨b0, b1⟩, -⟩ := (okC_iff a b).1 hok
    have HK := Lib.hid hok
    have HL := Lib.hid (ch_len (a := a) b0 b1)
    obtain ⟨T, v, hv⟩ := chV_iface (Gl.ch a b) (Gl.com a b)
    have HV := Lib.hid hv
    clear hok hv
    go_enter Try.func30, Try.ntmps30
    go_wp2_with fail
    refine (hasChain_is HK.out _).mono ?_
    rintro e w' ⟨rfl, rfl⟩
    go_wp2_with fail
    refine (chainFrom_any (b.toNat + 1) a b _ a0 a1 b0 b1 (by omega)).mono ?_
    rintro e w1 ⟨rfl, m, rfl⟩
    rw [HV.out]
    go_wp2_with fail
    rw [← HV.out]
    refine (told_any (Gl.ch a b) (Gl.com a b) _ (by have := HL.out; omega)).mono ?_
    rintro e w2 ⟨⟨A, c, rfl, ho⟩, hb⟩
    have HB := Lib.hid ((below_drewN (Below.refl w.heap.size w) m).trans hb)
    clear ho hb
    go_wp2
    go_ret
    exact ⟨rfl, HB.out⟩
theorem ChainCommon_is {a b g : Int} (h : comL a b = g) (w : World) : Calls Try.prog 30 #[.int .i64 a, .int .i64 b] w fun e w' => e = .returned (.int .i64 g) ∧ Below w.heap.size w w' := by
  rw [← h]; exact ChainCommon_any a b w

/-- two integers and whether they are there -/
def backV (xs : List Int) : Option (Int × Int) := if 20 < xs.length then none else Gl.back 0 xs
def pairV : Option (Int × Int) → Value
  | none => .tuple #[.int .i64 0, .int .i64 0, .bool false]
  | some v => .tuple #[.int .i64 v.1, .int .i64 v.2, .bool true]
theorem back_yes {l : List Int} {i : Nat} {q a b : Int} (h : l[i]? = some q) (hb : Gl.back (i + 1) (l.drop (i + 1)) = some (a, b)) (h0 : 0 ≤ q) (h1 : q ≤ 1000000000) (h2 : ¬ (q = 0 ∧ 0 < i)) (h3 : q * a + b ≤ 1000000000) :
    Gl.back i (l.drop i) = some (q * a + b, a) := by
  rw [Gl.back_drop h, hb]
  simp only
  rw [if_neg (by omega), if_neg (by omega)]
theorem back_no {l : List Int} {i : Nat} {q a b : Int} (h : l[i]? = some q) (hb : Gl.back (i + 1) (l.drop (i + 1)) = some (a, b)) (h0 : (q < 0 ∨ 1000000000 < q ∨ (q = 0 ∧ 0 < i)) ∨ 1000000000 < q * a + b) :
    Gl.back 0 l = none := by
  apply Gl.back_none0 (i := i)
  rw [Gl.back_drop h, hb]
  simp only
  by_cases hq : q < 0 ∨ 1000000000 < q ∨ (q = 0 ∧ 0 < i)
  · rw [if_pos hq]
  · rw [if_neg hq, if_pos (by omega)]
theorem backV_none {xs : List Int} {n : Nat} (hl : xs.length = n) (hn : n ≤ 20) (h : Gl.back 0 xs = none) : backV xs = none := by rw [backV, if_neg (by omega), h]
theorem backV_some {xs : List Int} {n : Nat} {a b : Int} (hl : xs.length = n) (hn : n ≤ 20) (h : Gl.back 0 (xs.drop 0) = some (a, b)) : backV xs = some (a, b) := by rw [backV, if_neg (by omega), ← h, List.drop_zero]

set_option maxRecDepth 100000 in
set_option maxHeartbeats 2000000 in
theorem ChainBack_any (A : Option Addr) (n c : Nat) (xs : List Int) (w : World) (hx : Ints w w.heap.size A n xs) :
    Calls Try.prog 27 #[.slice A n c] w fun e w' => e = .returned (pairV (backV xs)) ∧ Below w.heap.size w w' := by
  have hl := hx.len
  have hbd := hx.bound
  by_cases hn : 20 < n
  · rw [show backV xs = none from by rw [backV, if_pos (by omega)]]
    clear hx hl
    go_enter Try.func27, Try.ntmps27
    go_wp2_with fail
    refine bodyPost_ret (results_tmp3 rfl _ _ _) rfl ?_
    exact ⟨rfl, Below.refl _ _⟩
  · have HX := Lib.hid hx
    have HL := Lib.hid hl
    clear hx hl
    have HQ0 : Hid (Gl.back n (xs.drop n) = some (1, 0)) := Lib.hid (by rw [List.drop_of_length_le (by have := HL.out; omega)]; rfl)
    go_enter Try.func27, Try.ntmps27
    go_wp2_with fail
    go_loopw [5, 6, 7] (fun av bv iv wr => ∃ (j : Nat) (a b : Int), j ≤ n ∧ av = .int .i64 a ∧ bv = .int .i64 b ∧ iv = .int .i64 ((j : Int) - 1) ∧ Gl.back j (xs.drop j) = some (a, b) ∧ Below w.heap.size w wr) (fun _ _ iv _ => (intOf iv + 1).toNat)
    case atStart => exact ⟨n, 1, 0, by omega, rfl, rfl, by go_num, HQ0.out, Below.refl _ _⟩
    case round =>
      obtain ⟨j, a, b, hj, rfl, rfl, rfl, hbk, hbel⟩ := hrel
      obtain ⟨a0, a1, b0, b1⟩ := Gl.back_range _ _ _ hbk
      simp only at a0 a1 b0 b1
      have HQ := Lib.hid hbk
      have HB := Lib.hid hbel
      clear hbk hbel HQ0
      cases j with
      | zero =>
        have HF := Lib.hid (backV_some HL.out (by omega) HQ.out)
        go_wp2_with fail
        refine bodyPost_ret (results_tmp3 rfl _ _ _) rfl ?_
        exact ⟨by rw [HF.out]; rfl, HB.out⟩
      | succ i =>
        obtain ⟨b2, off, u, rfl, hub, hu, hcu⟩ := (HX.out.below HB.out).at_ (show i < n by omega)
        have HU := Lib.hid hu
        clear hu
        have hi1 : ((i + 1 : Nat) : Int) - 1 = (i : Int) := by omega
        rw [hi1]
        clear hi1
        by_cases hq : u < 0 ∨ 1000000000 < u ∨ (u = 0 ∧ 0 < i)
        · have HF := Lib.hid (backV_none HL.out (by omega) (back_no HU.out HQ.out (.inl hq)))
          rcases hq with hq | hq | ⟨hq, hi0⟩
          · go_wp2_with fail
            refine bodyPost_ret (results_tmp3 rfl _ _ _) rfl ?_
            exact ⟨by rw [HF.out]; rfl, HB.out⟩
          · go_wp2_with fail
            refine bodyPost_ret (results_tmp3 rfl _ _ _) rfl ?_
            exact ⟨by rw [HF.out]; rfl, HB.out⟩
          · subst hq
            go_wp2_with fail
            refine bodyPost_ret (results_tmp3 rfl _ _ _) rfl ?_
            exact ⟨by rw [HF.out]; rfl, HB.out⟩
        · have u0 : 0 ≤ u := by omega
          have u1 : u ≤ 1000000000 := by omega
          have hz : ¬ (u = 0 ∧ 0 < i) := fun h => hq (.inr (.inr h))
          obtain ⟨m0, m1⟩ := mul_in u0 u1 a0 a1
          clear hq
          by_cases h3 : u * a + b ≤ 1000000000
          · have HN := Lib.hid (back_yes HU.out HQ.out u0 u1 hz h3)
            have HR : Hid (okR (u * a + b) = true) := Lib.hid ((okR_iff _).2 ⟨by omega, h3⟩)
            by_cases hu0 : u = 0
            · have hi0 : i = 0 := by omega
              subst hi0
              subst hu0
              clear hz
              rw [Nat.add_zero] at hcu
              rw [Int.zero_mul, Int.zero_add] at HN HR
              go_wp2_with fail
              refine (hasRoot_ok HR.out _).mono ?_
              rintro e w' ⟨rfl, rfl⟩
              go_wp2_with fail
              go_roundw
              case rel => exact ⟨0, _, _, by omega, rfl, rfl, by go_num, HN.out, HB.out⟩
              case measure => simp [intOf]
            · clear hz
              go_wp2_with fail
              refine (hasRoot_ok HR.out _).mono ?_
              rintro e w' ⟨rfl, rfl⟩
              go_wp2_with fail
              go_roundw
              case rel => exact ⟨i, _, _, by omega, rfl, rfl, by go_num, HN.out, HB.out⟩
              case measure => simp [intOf]
          · have HF := Lib.hid (backV_none HL.out (by omega) (back_no HU.out HQ.out (.inr (by omega))))
            have HR : Hid (okR (u * a + b) = false) := Lib.hid (by simp [okR, h3])
            by_cases hu0 : u = 0
            · have hi0 : i = 0 := by omega
              subst hi0
              subst hu0
              omega
            · clear hz
              go_wp2_with fail
              refine (hasRoot_ok HR.out _).mono ?_
              rintro e w' ⟨rfl, rfl⟩
              go_wp2_with fail
              refine bodyPost_ret (results_tmp3 rfl _ _ _) rfl ?_
              exact ⟨by rw [HF.out]; rfl, HB.out⟩
theorem ChainBack_none {A : Option Addr} {n c : Nat} {xs : List Int} {w : World} (hx : Ints w w.heap.size A n xs) (h : backV xs = none) :
    Calls Try.prog 27 #[.slice A n c] w fun e w' => e = .returned (.tuple #[.int .i64 0, .int .i64 0, .bool false]) ∧ Below w.heap.size w w' :=
  (ChainBack_any A n c xs w hx).mono fun _ _ ⟨h1, h2⟩ => ⟨by rw [h1, h]; rfl, h2⟩
theorem ChainBack_some {A : Option Addr} {n c : Nat} {xs : List Int} {w : World} {x y : Int} (hx : Ints w w.heap.size A n xs) (h : backV xs = some (x, y)) :
    Calls Try.prog 27 #[.slice A n c] w fun e w' => e = .returned (.tuple #[.int .i64 x, .int .i64 y, .bool true]) ∧ Below w.heap.size w w' :=
  (ChainBack_any A n c xs w hx).mono fun _ _ ⟨h1, h2⟩ => ⟨by rw [h1, h]; rfl, h2⟩
end Go.Proofs.Ytphokfdaimbaiaa
