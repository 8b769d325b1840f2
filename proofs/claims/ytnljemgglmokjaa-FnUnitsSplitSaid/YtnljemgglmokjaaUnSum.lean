/-
  The sum of units in lowest terms: commonDivisor, lowest, UnitsSum.
-/
import Derived.Test.YtnljemgglmokjaaUnOf
import Derived.Laws.EntriesVeiled
namespace Go.Proofs.Ytnljemgglmokjaa
open Go.RowKit

theorem quiet_then {P : Program} {f : FuncId} {args : Array Value} {w : World} {n : Nat} {v : Value}
    (h : Calls P f args (w.drewN n) fun e w' => e = .returned v ∧ ∃ m, w' = (w.drewN n).drewN m) : Calls P f args (w.drewN n) fun e w'' => e = .returned v ∧ ∃ m, w'' = w.drewN m :=
  h.mono fun _ _ ⟨he, m, hm⟩ => ⟨he, n + m, by rw [hm, World.drewN_drewN]⟩

set_option maxHeartbeats 1000000 in
theorem commonDivisor_any (a b : Nat) (w : World) (ha : a ≤ 4000000000000000000) (hb : b ≤ 4000000000000000000) :
    Calls Try.prog 37 #[.int .i64 (a : Int), .int .i64 (b : Int)] w fun e w' => e = .returned (.int .i64 ((Nat.gcd a b : Nat) : Int)) ∧ ∃ m, w' = w.drewN m := by
  go_enter Try.func37, Try.ntmps37
  go_wp2_with fail
  go_loopw [0, 1] (fun av bv wr => ∃ (x y k : Nat), av = .int .i64 (x : Int) ∧ bv = .int .i64 (y : Int) ∧ x ≤ 4000000000000000000 ∧ y ≤ 4000000000000000000 ∧ Nat.gcd x y = Nat.gcd a b ∧ wr = w.drewN k) (fun _ bv _ => (intOf bv).toNat)
  case atStart => exact ⟨a, b, 0, rfl, rfl, ha, hb, rfl, rfl⟩
  case round =>
    obtain ⟨x, y, k, rfl, rfl, hx, hy, hg, rfl⟩ := hrel
    by_cases h0 : y = 0
    · rw [h0, Nat.gcd_zero_right] at hg
      have HG := Lib.hid hg
      have he : ((y : Int) == 0) = true := by simp [h0]
      clear hg h0
      go_wp2
      go_ret
      exact ⟨by rw [HG.out]; rfl, k, rfl⟩
    · have hg2 : Nat.gcd y (x % y) = Nat.gcd a b := by rw [← hg, Nat.gcd_comm x y, Nat.gcd_rec y x, Nat.gcd_comm]
      have HG := Lib.hid hg2
      have hne : ((y : Int) == 0) = false := by simpa using h0
      have hm : x % y < y := Nat.mod_lt _ (by omega)
      have m1 : (x : Int).tmod (y : Int) = ((x % y : Nat) : Int) := by rw [Int.tmod_eq_emod_of_nonneg (by omega)]; rfl
      clear hg hg2
      obtain ⟨r, hr⟩ : ∃ r, x % y = r := ⟨_, rfl⟩
      rw [hr] at HG m1 hm
      have s1 : IntKind.i64.wrap (r : Int) = (r : Int) := IntWalk.i64_in _ (by omega)
      clear hr h0
      go_wp2_with fail
      go_quiet (fail)
      go_wp2_with fail
      go_roundw
      case rel => exact ⟨y, r, _, rfl, rfl, hy, by omega, HG.out, by rw [World.drewN_drewN]⟩
      case measure => simp [intOf]; omega

set_option maxHeartbeats 1000000 in
theorem lowest_any (A B : Int) (a b : Nat) (w : World) (hA : A = (a : Int)) (hB : B = (b : Int)) (ha : a ≤ 4000000000000000000) (hb : b ≤ 4000000000000000000) (hp : 0 < b) :
    Calls Try.prog 33 #[.int .i64 A, .int .i64 B] w fun e w' => e = .returned (.tuple #[.int .i64 ((a / Nat.gcd a b : Nat) : Int), .int .i64 ((b / Nat.gcd a b : Nat) : Int)]) ∧ ∃ m, w' = w.drewN m := by
  subst hA
  subst hB
  have hg := Nat.gcd_pos_of_pos_right a hp
  obtain ⟨g, hgd⟩ : ∃ g, Nat.gcd a b = g := ⟨_, rfl⟩
  have hcd := fun w => commonDivisor_any a b w ha hb
  rw [hgd] at hg hcd ⊢
  have HC := Lib.hid hcd
  have hne : ((g : Int) == 0) = false := by simp; omega
  have m1 : (a : Int).tdiv (g : Int) = ((a / g : Nat) : Int) := by rw [Int.tdiv_eq_ediv_of_nonneg (by omega)]; rfl
  have m2 : (b : Int).tdiv (g : Int) = ((b / g : Nat) : Int) := by rw [Int.tdiv_eq_ediv_of_nonneg (by omega)]; rfl
  have l1 : a / g ≤ a := Nat.div_le_self _ _
  have l2 : b / g ≤ b := Nat.div_le_self _ _
  obtain ⟨qa, hqa⟩ : ∃ q, a / g = q := ⟨_, rfl⟩
  obtain ⟨qb, hqb⟩ : ∃ q, b / g = q := ⟨_, rfl⟩
  rw [hqa] at l1 m1 ⊢
  rw [hqb] at l2 m2 ⊢
  have s1 : IntKind.i64.wrap (qa : Int) = (qa : Int) := IntWalk.i64_in _ (by omega)
  have s2 : IntKind.i64.wrap (qb : Int) = (qb : Int) := IntWalk.i64_in _ (by omega)
  clear hqa hqb
  clear hgd hcd
  go_enter Try.func33, Try.ntmps33
  go_wp2_with fail
  refine (HC.out _).mono ?_
  rintro e w1 ⟨rfl, m, rfl⟩
  go_wp2_with fail
  go_quiet (fail)
  go_wp2
  go_ret2
  exact ⟨rfl, _, by rw [World.drewN_drewN]⟩

/-- a fraction in lowest terms that tells the sum of a list -/
def Low (u l : Nat) (xs : List Int) : Prop := Un.Tells (u : Int) (l : Int) xs ∧ 0 < l ∧ u ≤ 1000000000 ∧ l ≤ 1000000000 ∧ Nat.gcd u l = 1
theorem low_snoc {u l x : Nat} {xs : List Int} (h : Low u l xs) (hx : 0 < x) :
    Un.Tells (((u * x + l) / Nat.gcd (u * x + l) (l * x) : Nat) : Int) (((l * x) / Nat.gcd (u * x + l) (l * x) : Nat) : Int) (xs ++ [(x : Int)]) ∧ 0 < (l * x) / Nat.gcd (u * x + l) (l * x) ∧
    Nat.gcd ((u * x + l) / Nat.gcd (u * x + l) (l * x)) ((l * x) / Nat.gcd (u * x + l) (l * x)) = 1 := by
  obtain ⟨ht, hl, -, -, -⟩ := h
  have hlx : 0 < l * x := Nat.mul_pos hl hx
  have hg : 0 < Nat.gcd (u * x + l) (l * x) := Nat.gcd_pos_of_pos_right _ hlx
  have d1 := Nat.mul_div_cancel' (Nat.gcd_dvd_left (u * x + l) (l * x))
  have d2 := Nat.mul_div_cancel' (Nat.gcd_dvd_right (u * x + l) (l * x))
  have hc := Nat.coprime_div_gcd_div_gcd hg
  refine ⟨?_, Nat.div_pos (Nat.le_of_dvd hlx (Nat.gcd_dvd_right _ _)) hg, hc⟩
  exact Un.tells_snoc (u : Int) (l : Int) (x : Int) ((Nat.gcd (u * x + l) (l * x) : Nat) : Int) _ _ xs ht (by exact_mod_cast hg) (by exact_mod_cast d1.symm) (by exact_mod_cast d2.symm)

def SumPost (w : World) (xs : List Int) (e : Ending) (w' : World) : Prop :=
  (∃ (u l : Nat) (ok : Bool), e = .returned (.tuple #[.int .i64 (u : Int), .int .i64 (l : Int), .bool ok]) ∧ (ok = true → Low u l xs)) ∧ Below w.heap.size w w'

set_option maxRecDepth 100000 in
set_option maxHeartbeats 2000000 in
theorem UnitsSum_any (A : Option Addr) (n c : Nat) (xs : List Int) (w : World) (hx : Ints w w.heap.size A n xs) :
    Calls Try.prog 21 #[.slice A n c] w (SumPost w xs) := by
  have HX := Lib.hid hx
  clear hx
  rcases hok : Un.okU xs with _ | _
  · have HOK := Lib.hid hok
    clear hok
    go_enter Try.func21, Try.ntmps21
    go_wp2_with fail
    refine (unitsOf_no HX.out HOK.out).mono ?_
    rintro e w1 ⟨⟨p, rfl⟩, hb⟩
    have HB := Lib.hid hb
    clear hb
    go_wp2
    refine bodyPost_ret (results_tmp3 rfl _ _ _) rfl ?_
    exact ⟨⟨0, 0, false, rfl, fun h => by cases h⟩, HB.out⟩
  · have HOK := Lib.hid hok
    have HM := Lib.hid (Un.okU_mem hok)
    clear hok
    go_enter Try.func21, Try.ntmps21
    go_wp2_with fail
    refine (unitsOf_yes HX.out HOK.out).mono ?_
    rintro e w1 ⟨⟨p, rfl, ⟨ns, hs, -, -, hv⟩⟩, hb⟩
    have HS := Lib.hid hs
    have HV := Lib.hid hv
    have HB := Lib.hid hb
    have HL0 : Hid (Low 0 1 []) := Lib.hid ⟨rfl, by omega, by omega, by omega, rfl⟩
    clear hs hv hb
    go_wp2_with fail
    go_loopw [7, 8, 9] (fun uv lv pv wr => ∃ (u l : Nat) (q : Option Addr) (dn : List Int) (r : List (Nat × Int)), uv = .int .i64 (u : Int) ∧ lv = .int .i64 (l : Int) ∧ pv = .pointer q ∧ Low u l dn ∧ Seg wr q r none ∧ dn ++ vals r = xs ∧ Below w.heap.size w wr) (fun _ _ pv wr => lenOf wr (ptrOf pv))
    case atStart => exact ⟨0, 1, p, [], ns, rfl, rfl, rfl, HL0.out, HS.out, HV.out, HB.out⟩
    case round =>
      clear HS HV HL0 HB
      obtain ⟨u, l, q, dn, r, rfl, rfl, rfl, hlow, hseg, heq, hbel⟩ := hrel
      have HB := Lib.hid hbel
      clear hbel
      obtain ⟨-, l0, u9, l9, -⟩ := id hlow
      have HLOW := Lib.hid hlow
      have HEQ := Lib.hid heq
      clear hlow heq
      cases r with
      | nil =>
        obtain rfl : q = none := hseg
        have HF : Hid (Low u l xs) := Lib.hid (by have := HEQ.out; simp [vals] at this; rw [← this]; exact HLOW.out)
        go_wp2
        refine bodyPost_ret (results_tmp3 rfl _ _ _) rfl ?_
        exact ⟨⟨u, l, true, rfl, fun _ => HF.out⟩, HB.out⟩
      | cons z r =>
        obtain ⟨b, x⟩ := z
        have hm1 := lenOf_is hseg
        obtain ⟨rfl, m, hnd, hseg2⟩ := hseg
        obtain ⟨x2, x9⟩ := HM.out x (by rw [← HEQ.out]; simp [vals])
        obtain ⟨y, rfl⟩ := Int.eq_ofNat_of_zero_le (show 0 ≤ x by omega)
        have c0 := hnd.cell0
        have c1 := hnd.cell1
        have hm2 : ∀ k, lenOf (wr.drewN k) m = r.length := fun k => lenOf_is (hseg2.drewN k)
        have c1k : ∀ k, (wr.drewN k).cell? ⟨b, 1, none⟩ = some (.pointer m) := fun _ => hnd.cell1
        have HS2 := Lib.hid hseg2
        have hy : 0 < y := by omega
        obtain ⟨t1, t2, t3⟩ := low_snoc HLOW.out hy
        have p1 : u * y ≤ 1000000000 * 1000000000 := Nat.mul_le_mul u9 (show y ≤ 1000000000 by omega)
        have p2 : l * y ≤ 1000000000 * 1000000000 := Nat.mul_le_mul l9 (show y ≤ 1000000000 by omega)
        have p3 : 0 < l * y := Nat.mul_pos l0 hy
        have hlw := fun w => lowest_any ((u : Int) * (y : Int) + (l : Int)) ((l : Int) * (y : Int)) (u * y + l) (l * y) w (by push_cast; rfl) (by push_cast; rfl) (by omega) (by omega) p3
        obtain ⟨qa, hqa⟩ : ∃ q, (u * y + l) / Nat.gcd (u * y + l) (l * y) = q := ⟨_, rfl⟩
        obtain ⟨qb, hqb⟩ : ∃ q, (l * y) / Nat.gcd (u * y + l) (l * y) = q := ⟨_, rfl⟩
        have la : qa ≤ u * y + l := by rw [← hqa]; exact Nat.div_le_self _ _
        have lb : qb ≤ l * y := by rw [← hqb]; exact Nat.div_le_self _ _
        rw [hqa, hqb] at t1 t3 hlw
        rw [hqb] at t2
        have i1 := mul_in (show (0 : Int) ≤ (u : Int) by omega) (show (u : Int) ≤ 1000000000 by omega) (show (0 : Int) ≤ (y : Int) by omega) (show (y : Int) ≤ 1000000000 by omega)
        have i2 := mul_in (show (0 : Int) ≤ (l : Int) by omega) (show (l : Int) ≤ 1000000000 by omega) (show (0 : Int) ≤ (y : Int) by omega) (show (y : Int) ≤ 1000000000 by omega)
        have s1 : IntKind.i64.wrap ((u : Int) * (y : Int)) = (u : Int) * (y : Int) := IntWalk.i64_in _ (by omega)
        have s2 : IntKind.i64.wrap ((u : Int) * (y : Int) + (l : Int)) = (u : Int) * (y : Int) + (l : Int) := IntWalk.i64_in _ (by omega)
        have s3 : IntKind.i64.wrap ((l : Int) * (y : Int)) = (l : Int) * (y : Int) := IntWalk.i64_in _ (by omega)
        have HLW : Hid (∀ k', Calls Try.prog 33 #[.int .i64 ((u : Int) * (y : Int) + (l : Int)), .int .i64 ((l : Int) * (y : Int))] (wr.drewN k') fun e w'' => e = .returned (.tuple #[.int .i64 (qa : Int), .int .i64 (qb : Int)]) ∧ ∃ m, w'' = wr.drewN m) := Lib.hid fun k' => quiet_then (hlw _)
        have HT := Lib.hid (And.intro t1 (And.intro t2 t3))
        have HM2 := Lib.hid hm2
        clear hm2 hnd hseg2 hlw hqa hqb t1 t2 t3 i1 i2 p1 p2 p3 la lb
        go_wp2_with fail
        go_quiet ((go_at_call 33; exact HLW.out _))
        by_cases hbig : 1000000000 < qa ∨ 1000000000 < qb
        · rcases (show 1000000000 < qa ∨ (qa ≤ 1000000000 ∧ 1000000000 < qb) from by omega) with h | ⟨h, h'⟩
          all_goals
            clear hbig
            go_wp2_with fail
            refine bodyPost_ret (results_tmp3 rfl _ _ _) rfl ?_
            exact ⟨⟨0, 0, false, rfl, fun h => by cases h⟩, below_drewN HB.out _⟩
        · have ha : qa ≤ 1000000000 := by omega
          have hb' : qb ≤ 1000000000 := by omega
          clear hbig
          go_wp2_with fail
          go_roundw
          case rel => exact ⟨qa, qb, m, dn ++ [(y : Int)], r, rfl, rfl, rfl, ⟨HT.out.1, HT.out.2.1, ha, hb', HT.out.2.2⟩, HS2.out.drewN _, by rw [← HEQ.out, vals_cons]; simp, below_drewN HB.out _⟩
          case measure => simp only [ptrOf]; rw [hm1, HM2.out]; simp
end Go.Proofs.Ytnljemgglmokjaa
