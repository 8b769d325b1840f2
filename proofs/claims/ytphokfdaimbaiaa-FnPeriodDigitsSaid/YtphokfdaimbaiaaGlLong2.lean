/-
  The reference's steps of a long division; quotients of both; lists of steps that are the same.
-/
import Derived.Test.YtphokfdaimbaiaaGlLong
import Derived.Laws.StructEq
namespace Go.Proofs.Ytphokfdaimbaiaa
open Go.RowKit

set_option maxRecDepth 100000 in
set_option maxHeartbeats 1000000 in
theorem specLongSteps_yes (A : Option Addr) (n c : Nat) (xs : List Int) (d : Int) (w : World) (hx : Ints w w.heap.size A n xs) (hok : okN xs = true) (d0 : 1 ≤ d) (d1 : d ≤ 100000) :
    Calls Try.prog 24 #[.slice A n c, .int .i64 d] w (StepPost w true (Gl.steps d 0 xs)) := by
  obtain ⟨hn1, hn6, hd⟩ := (okN_iff xs).1 hok
  rw [hx.len] at hn1 hn6
  have HX := Lib.hid (hx.alloc (Nat.le_refl _) (.cells #[] 40))
  have HOK := Lib.hid hok
  have HD := Lib.hid hd
  have HLN := Lib.hid (litS_nil w)
  clear hx hok hd
  go_enter Try.func24, Try.ntmps24
  go_wp2_with fail
  refine (specNumeralValid_is HX.out HOK.out).mono ?_
  rintro e w' ⟨rfl, rfl⟩
  go_wp2_with fail
  refine (l6In_yes d0 d1 _).mono ?_
  rintro e w' ⟨rfl, rfl⟩
  go_wp2_with fail
  go_loopw [6, 7, 8] (fun v rv i wr => ∃ (k : Nat) (T : Option Addr) (c : Nat) (r : Int), k ≤ n ∧ i = .int .i64 (k : Int) ∧ v = .slice T k c ∧ rv = .int .i64 r ∧ Gl.lastRest d 0 (xs.take k) = r ∧ 0 ≤ r ∧ r < d ∧ OwnS wr w.heap.size T k c (Gl.steps d 0 (xs.take k)) ∧
    Ints wr w.heap.size A n xs ∧ Below w.heap.size w wr) (fun _ _ i _ => n - (intOf i).toNat)
  case atStart => exact ⟨0, _, _, 0, by omega, rfl, rfl, rfl, rfl, by omega, by omega, HLN.out, HX.out, (Below.refl _ _).alloc (Nat.le_refl _) _⟩
  case round =>
    clear HX HLN
    obtain ⟨k, T, c2, r, hk, rfl, rfl, rfl, hr, r0, r1, hown, hxr, hbel⟩ := hrel
    have hsz := hbel.size
    have HR := Lib.hid hr
    have HO := Lib.hid hown
    have HX := Lib.hid hxr
    have HB := Lib.hid hbel
    clear hr hown hxr hbel
    by_cases hlt : k < n
    · obtain ⟨b, off, u, rfl, hub, hu, hcu⟩ := HX.out.at_ hlt
      obtain ⟨u0, u9⟩ := HD.out u (List.mem_of_getElem? hu)
      have HS := Lib.hid (Gl.steps_next (d := d) (r := 0) hu)
      have HRN := Lib.hid (Gl.rest_next (d := d) (r := 0) hu)
      rw [HR.out] at HS HRN
      have m0 := Int.emod_nonneg (10 * r + u) (show d ≠ 0 by omega)
      have m1 := Int.emod_lt_of_pos (10 * r + u) (show 0 < d by omega)
      clear hu
      go_wp2_with (at_builtin; refine wpList_appS rfl _ _ rfl rfl HO.out ((10 * r + u) / d) ((10 * r + u) % d) _ rfl _ rfl (by omega) (by omega) ?_; intro T5 c5 w5 hown5 hg5)
      have HB5 := Lib.hid (belowS HB.out hg5 HO.out hsz)
      have HX5 := Lib.hid (HX.out.grown hg5 hsz fun j hj => (HO.out.blk j hj).1)
      go_roundw
      case rel => exact ⟨k + 1, _, _, _, by omega, by go_num, rfl, rfl, by rw [HRN.out], m0, m1, by rw [HS.out]; exact hown5, HX5.out, HB5.out⟩
      case measure => simp [intOf]; omega
    · obtain rfl : k = n := by omega
      rw [(Gl.steps_all HX.out.len).1] at HO
      go_wp2
      go_ret2
      exact ⟨⟨_, _, _, rfl, HO.out⟩, HB.out⟩
theorem specLongSteps_no (A : Option Addr) (n c : Nat) (xs : List Int) (d : Int) (w : World) (hx : Ints w w.heap.size A n xs) (hok : okS xs d = false) :
    Calls Try.prog 24 #[.slice A n c, .int .i64 d] w (StepPost w false []) := by
  have HX := Lib.hid (hx.alloc (Nat.le_refl _) (.cells #[] 40))
  have HOK := Lib.hid hok
  have HLN := Lib.hid (litS_nil w)
  clear hx hok
  rcases h1 : okN xs with _ | _
  · have H1 := Lib.hid h1
    clear h1
    go_enter Try.func24, Try.ntmps24
    go_wp2_with fail
    refine (specNumeralValid_is HX.out H1.out).mono ?_
    rintro e w' ⟨rfl, rfl⟩
    go_wp2
    go_ret2
    exact ⟨⟨_, _, _, rfl, HLN.out⟩, (Below.refl _ _).alloc (Nat.le_refl _) _⟩
  · have h2 : (decide (1 ≤ d) && decide (d ≤ 100000)) = false := by have := HOK.out; simp only [okS, h1, Bool.true_and] at this; exact this
    have H1 := Lib.hid h1
    have H2 := Lib.hid h2
    clear h1 h2
    go_enter Try.func24, Try.ntmps24
    go_wp2_with fail
    refine (specNumeralValid_is HX.out H1.out).mono ?_
    rintro e w' ⟨rfl, rfl⟩
    go_wp2_with fail
    refine (l6In_is H2.out _).mono ?_
    rintro e w' ⟨rfl, rfl⟩
    go_wp2
    go_ret2
    exact ⟨⟨_, _, _, rfl, HLN.out⟩, (Below.refl _ _).alloc (Nat.le_refl _) _⟩
theorem specLongSteps_any (A : Option Addr) (n c : Nat) (xs : List Int) (d : Int) (w : World) (hx : Ints w w.heap.size A n xs) :
    Calls Try.prog 24 #[.slice A n c, .int .i64 d] w (StepPost w (okS xs d) (Gl.steps d 0 xs)) := by
  rcases hok : okS xs d with _ | _
  · exact specLongSteps_no A n c xs d w hx hok
  · obtain ⟨h1, h2, h3⟩ := (okS_iff xs d).1 hok
    exact specLongSteps_yes A n c xs d w hx h1 h2 h3

/-! quotient and rest -/
def quoL (xs : List Int) (d : Int) : Int := Gl.horner 0 ((Gl.steps d 0 xs).map (·.1))
def restL (xs : List Int) (d : Int) : Int := Gl.lastRest d 0 xs
/-- the digits of the steps so far -/
def dsL (xs : List Int) (d : Int) : List Int := (Gl.steps d 0 xs).map (·.1)
theorem dsL_facts {xs : List Int} {d : Int} (hok : okS xs d = true) : (dsL xs d).length = xs.length ∧ xs.length ≤ 6 ∧ 1 ≤ xs.length ∧ 1 ≤ d ∧ d ≤ 100000 ∧ (∀ x ∈ dsL xs d, 0 ≤ x ∧ x ≤ 9) := by
  obtain ⟨h1, h2, h3⟩ := (okS_iff xs d).1 hok
  obtain ⟨h4, h5, h6⟩ := (okN_iff xs).1 h1
  refine ⟨by simp [dsL, Gl.steps_length], h5, h4, h2, h3, ?_⟩
  intro x hx
  obtain ⟨s, hs, rfl⟩ := List.mem_map.1 hx
  have := Gl.steps_range (by omega : 0 < d) xs 0 (by omega) (by omega) h6 s hs
  exact ⟨this.1, this.2.1⟩
theorem dsL_get {xs : List Int} {d : Int} {k : Nat} {u v : Int} (h : (Gl.steps d 0 xs)[k]? = some (u, v)) : (dsL xs d)[k]? = some u ∧ Gl.lastRest d 0 (xs.take (k + 1)) = v := by
  refine ⟨by simp [dsL, h], ?_⟩
  have hk : k < xs.length := by have := (List.getElem?_eq_some_iff.1 h).1; rwa [Gl.steps_length] at this
  have hx : xs[k]? = some xs[k] := List.getElem?_eq_getElem hk
  have h2 := Gl.steps_get (d := d) xs 0 k _ hx
  rw [h] at h2
  rw [Gl.rest_next hx]
  simp at h2
  exact h2.2.symm
theorem restL_range {xs : List Int} {d : Int} (hd : 1 ≤ d) : 0 ≤ restL xs d ∧ restL xs d < d := Gl.lastRest_range d (by omega) xs 0 (by omega) (by omega)

set_option maxRecDepth 100000 in
set_option maxHeartbeats 1000000 in
theorem LongQuotient_yes (A : Option Addr) (n c : Nat) (xs : List Int) (d : Int) (w : World) (hx : Ints w w.heap.size A n xs) (hok : okS xs d = true) :
    Calls Try.prog 47 #[.slice A n c, .int .i64 d] w fun e w' => e = .returned (.tuple #[.int .i64 (quoL xs d), .int .i64 (restL xs d), .bool true]) ∧ Below w.heap.size w w' := by
  have hcall := LongSteps_any A n c xs d w hx
  rw [hok] at hcall
  obtain ⟨hl, hn6, hn1, d0, d1, hdig⟩ := dsL_facts hok
  rw [hx.len] at hl hn6 hn1
  have HC := Lib.hid hcall
  have HL := Lib.hid hl
  have HD := Lib.hid hdig
  have HLX := Lib.hid hx.len
  clear hx hok hcall hl hdig
  go_enter Try.func47, Try.ntmps47
  go_wp2_with fail
  refine HC.out.mono ?_
  rintro e w1 ⟨⟨A1, n1, c1, rfl, ho1⟩, hb1⟩
  simp only [if_true] at ho1
  obtain rfl : n1 = n := by have := ho1.len; rw [Gl.steps_length] at this; have := HLX.out; omega
  have HS := Lib.hid ho1.stps
  have HB1 := Lib.hid hb1
  clear ho1 hb1
  go_wp2_with fail
  go_loopw [9, 10, 23] (fun qv rv i wr => ∃ (k : Nat) (r : Int), k ≤ n1 ∧ i = .int .i64 (k : Int) ∧ qv = .int .i64 (Gl.horner 0 ((dsL xs d).take k)) ∧ rv = .int .i64 r ∧ Gl.lastRest d 0 (xs.take k) = r ∧ Stps wr wr.heap.size A1 n1 (Gl.steps d 0 xs) ∧ Below w.heap.size w wr)
    (fun _ _ i _ => n1 - (intOf i).toNat)
  case atStart => exact ⟨0, 0, by omega, by go_num, rfl, rfl, rfl, HS.out, HB1.out⟩
  case round =>
    clear HS HB1
    obtain ⟨k, r, hk, rfl, rfl, rfl, hr, hst, hb⟩ := hrel
    obtain ⟨h0, h1⟩ := Gl.horner_take HD.out (by have := HL.out; omega) k
    have HR := Lib.hid hr
    have HS := Lib.hid hst
    have HB := Lib.hid hb
    clear hr hst hb
    by_cases hlt : k < n1
    · obtain ⟨b, off, u, v, rfl, hub, hu, hc1, hc2⟩ := HS.out.at_ hlt
      obtain ⟨hg, hnr⟩ := dsL_get hu
      obtain ⟨u0, u9⟩ := HD.out u (List.mem_of_getElem? hg)
      have HN := Lib.hid (Gl.horner_next hg)
      have HNR := Lib.hid hnr
      clear hu hg hnr
      generalize Gl.horner 0 ((dsL xs d).take k) = q at *
      go_wp2
      go_roundw
      case rel => exact ⟨k + 1, v, by omega, by go_num, by rw [HN.out]; congr 1; omega, rfl, HNR.out, HS.out.next ((Below.refl _ _).alloc (Nat.le_refl _) _), HB.out.alloc HB.out.size _⟩
      case measure => simp [intOf]; omega
    · obtain rfl : k = n1 := by omega
      rw [Gl.horner_all HL.out] at h0 h1 ⊢
      rw [List.take_of_length_le (by have := HLX.out; omega)] at HR
      go_wp2
      refine bodyPost_ret (results_tmp3 rfl _ _ _) rfl ?_
      exact ⟨by rw [restL, HR.out]; rfl, HB.out⟩
theorem LongQuotient_no (A : Option Addr) (n c : Nat) (xs : List Int) (d : Int) (w : World) (hx : Ints w w.heap.size A n xs) (hok : okS xs d = false) :
    Calls Try.prog 47 #[.slice A n c, .int .i64 d] w fun e w' => e = .returned (.tuple #[.int .i64 0, .int .i64 0, .bool false]) ∧ Below w.heap.size w w' := by
  have hcall := LongSteps_any A n c xs d w hx
  rw [hok] at hcall
  have HC := Lib.hid hcall
  clear hx hok hcall
  go_enter Try.func47, Try.ntmps47
  go_wp2_with fail
  refine HC.out.mono ?_
  rintro e w1 ⟨⟨A1, n1, c1, rfl, ho1⟩, hb1⟩
  have HB1 := Lib.hid hb1
  clear ho1 hb1
  go_wp2
  go_ret3
  exact ⟨rfl, HB1.out⟩

set_option maxRecDepth 100000 in
set_option maxHeartbeats 1000000 in
theorem specLongQuotient_yes (A : Option Addr) (n c : Nat) (xs : List Int) (d : Int) (w : World) (hx : Ints w w.heap.size A n xs) (hok : okS xs d = true) :
    Calls Try.prog 48 #[.slice A n c, .int .i64 d] w fun e w' => e = .returned (.tuple #[.int .i64 (quoL xs d), .int .i64 (restL xs d), .bool true]) ∧ Below w.heap.size w w' := by
  have hcall := specLongSteps_any A n c xs d w hx
  rw [hok] at hcall
  obtain ⟨hl, hn6, hn1, d0, d1, hdig⟩ := dsL_facts hok
  rw [hx.len] at hl hn6 hn1
  have HC := Lib.hid hcall
  have HL := Lib.hid hl
  have HD := Lib.hid hdig
  have HLX := Lib.hid hx.len
  clear hx hok hcall hl hdig
  go_enter Try.func48, Try.ntmps48
  go_wp2_with fail
  refine HC.out.mono ?_
  rintro e w1 ⟨⟨A1, n1, c1, rfl, ho1⟩, hb1⟩
  simp only [if_true] at ho1
  obtain rfl : n1 = n := by have := ho1.len; rw [Gl.steps_length] at this; have := HLX.out; omega
  have HS := Lib.hid ho1.stps
  have HB1 := Lib.hid hb1
  clear ho1 hb1
  go_wp2_with fail
  go_loop [9, 10] (fun qv i => ∃ (k : Nat), k ≤ n1 ∧ i = .int .i64 (k : Int) ∧ qv = .int .i64 (Gl.horner 0 ((dsL xs d).take k))) (fun _ i => n1 - (intOf i).toNat)
  case atStart => exact ⟨0, by omega, rfl, rfl⟩
  case round =>
    obtain ⟨k, hk, rfl, rfl⟩ := hrel
    obtain ⟨h0, h1⟩ := Gl.horner_take HD.out (by have := HL.out; omega) k
    by_cases hlt : k < n1
    · obtain ⟨b, off, u, v, rfl, hub, hu, hc1, hc2⟩ := HS.out.at_ hlt
      obtain ⟨hg, hnr⟩ := dsL_get hu
      obtain ⟨u0, u9⟩ := HD.out u (List.mem_of_getElem? hg)
      have HN := Lib.hid (Gl.horner_next hg)
      clear hu hg hnr
      generalize Gl.horner 0 ((dsL xs d).take k) = q at *
      go_wp2
      go_round
      case rel => exact ⟨k + 1, by omega, by go_num, by rw [HN.out]⟩
      case measure => simp [intOf]; omega
    · obtain rfl : k = n1 := by omega
      rw [Gl.horner_all HL.out] at h0 h1 ⊢
      obtain ⟨b, off, u, v, rfl, hub, hu, hc1, hc2⟩ := HS.out.at_ (show k - 1 < k by omega)
      obtain ⟨hg, hnr⟩ := dsL_get hu
      rw [show k - 1 + 1 = k from by omega, List.take_of_length_le (by have := HLX.out; omega)] at hnr
      have HR : Hid (v = restL xs d) := Lib.hid hnr.symm
      have hc2' : w1.cell? ⟨b, off + (k - 1) * 2 + 1, none⟩ = some (.int .i64 v) := hc2
      clear hu hg hnr
      have s1 : IntKind.i64.wrap ((k : Int) - 1) = (k : Int) - 1 := IntWalk.i64_in _ (by omega)
      have i0 : 0 ≤ (k : Int) - 1 := by omega
      have i1 : ((k : Int) - 1).toNat = k - 1 := by omega
      have i2 : (k : Int) - 1 < (k : Int) := by omega
      go_wp2
      go_quiet (fail)
      go_wp2
      refine bodyPost_ret (results_tmp3 rfl _ _ _) rfl ?_
      exact ⟨by rw [← HR.out]; rfl, below_drewN HB1.out _⟩
theorem specLongQuotient_no (A : Option Addr) (n c : Nat) (xs : List Int) (d : Int) (w : World) (hx : Ints w w.heap.size A n xs) (hok : okS xs d = false) :
    Calls Try.prog 48 #[.slice A n c, .int .i64 d] w fun e w' => e = .returned (.tuple #[.int .i64 0, .int .i64 0, .bool false]) ∧ Below w.heap.size w w' := by
  have hcall := specLongSteps_any A n c xs d w hx
  rw [hok] at hcall
  have HC := Lib.hid hcall
  clear hx hok hcall
  go_enter Try.func48, Try.ntmps48
  go_wp2_with fail
  refine HC.out.mono ?_
  rintro e w1 ⟨⟨A1, n1, c1, rfl, ho1⟩, hb1⟩
  have HB1 := Lib.hid hb1
  clear ho1 hb1
  go_wp2
  go_ret3
  exact ⟨rfl, HB1.out⟩

set_option maxHeartbeats 1000000 in
theorem sameSteps_eq (A B : Option Addr) (n m ca cb : Nat) (l : List (Int × Int)) (w : World) (B1 B2 : Nat) (hx : Stps w B1 A n l) (hy : Stps w B2 B m l) :
    Calls Try.prog 25 #[.slice A n ca, .slice B m cb] w fun e w' => e = .returned (.bool true) ∧ ∃ k, w' = w.drewN k := by
  obtain rfl : n = m := by have := hx.len; have := hy.len; omega
  have hbx := hx.2.1
  have HX := Lib.hid hx
  have HY := Lib.hid hy
  clear hx hy
  go_enter Try.func25, Try.ntmps25
  go_wp2
  go_loopw [5] (fun i wr => ∃ k q : Nat, k ≤ n ∧ i = .int .i64 (k : Int) ∧ wr = w.drewN q) (fun i _ => n - (intOf i).toNat)
  case atStart => exact ⟨0, 0, Nat.zero_le _, rfl, rfl⟩
  case round =>
    obtain ⟨k, q, hk, rfl, rfl⟩ := hrel
    by_cases hlt : k < n
    · obtain ⟨b1, o1, u, v, rfl, hb1, hu, hc1, hc2⟩ := HX.out.at_ hlt
      obtain ⟨b2, o2, u2, v2, rfl, hb2, hu2, hd1, hd2⟩ := HY.out.at_ hlt
      rw [hu] at hu2
      obtain ⟨rfl, rfl⟩ : u = u2 ∧ v = v2 := by simpa using hu2
      clear hu hu2
      go_wp2_with fail
      go_quiet (fail)
      go_wp2
      go_roundw
      case rel => exact ⟨k + 1, _, by omega, by go_num, rfl⟩
      case measure => simp [intOf]; omega
    · go_wp2
      go_ret
      exact ⟨rfl, q, rfl⟩
theorem stps_same {w v : World} {n q : Nat} {A : Option Addr} {l : List (Int × Int)} (h : Stps w w.heap.size A n l) (hv : v = w.drewN q) : Stps v v.heap.size A n l := by
  subst hv; exact h.drewN q
/-- one step of a division: what the law asks of it -/
theorem step_law {d r u : Int} (d0 : 1 ≤ d) (r0 : 0 ≤ r) (r1 : r < d) (u0 : 0 ≤ u) (u9 : u ≤ 9) :
    0 ≤ (10 * r + u) / d ∧ (10 * r + u) / d ≤ 9 ∧ 0 ≤ (10 * r + u) % d ∧ (10 * r + u) % d < d ∧ (10 * r + u) / d * d + (10 * r + u) % d = 10 * r + u := by
  have h1 := Gl.step_digit d r u (by omega) r0 r1 u0 u9
  have h2 := Int.emod_nonneg (10 * r + u) (show d ≠ 0 by omega)
  have h3 := Int.emod_lt_of_pos (10 * r + u) (show 0 < d by omega)
  have h4 := Int.emod_add_mul_ediv (10 * r + u) d
  rw [Int.mul_comm d] at h4
  exact ⟨h1.1, h1.2, h2, h3, by omega⟩
end Go.Proofs.Ytphokfdaimbaiaa
