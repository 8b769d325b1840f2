/-
  The program's NotchesWorth, NotchesValid, NotchesOf, different, TallyMatches, tally.
-/
import Derived.Test.YtogplbnabffcfaaTaNotch
import Derived.Deep.RegionHeld3
namespace Go.Proofs.Ytogplbnabffcfaa
open Go.RowKit
set_option linter.unusedSimpArgs false

/-- a text by its letters -/
def txt (l : List UInt8) : ByteArray := ⟨l.toArray⟩
theorem txt_size (l : List UInt8) : (txt l).size = l.length := by show l.toArray.size = _; simp
theorem txt_append (l r : List UInt8) : txt l ++ txt r = txt (l ++ r) := ByteArray.mk_append_mk l r
theorem txt_inj {l r : List UInt8} (h : txt l = txt r) : l = r := by
  have : l.toArray = r.toArray := congrArg ByteArray.data h
  simpa using this
theorem txt_list (l : List UInt8) : (txt l).data.toList = l := by simp [txt]
theorem txt_eta (s : ByteArray) : txt s.data.toList = s := by simp [txt]

theorem letterWorth_is (k : Nat) (K u : Int) (hK : K = (k : Int)) (hk : k < 4) (h : Ta.weight k = u) (w : World) : Calls Try.prog 46 #[.int .i64 K] w fun e w' => e = .returned (.int .i64 u) ∧ w = w' := hK ▸ h ▸ letterWorth_any k hk w
theorem slice_letter (k : Nat) (K K' : Int) (c : UInt8) (hk : k < 4) (hK : K = (k : Int)) (hK' : K' = (k : Int) + 1) (hc : (ByteArray.mk #[77, 67, 88, 73]).extract k (k + 1) = ⟨#[c]⟩) (w : World) :
    (Instr.slice 9 (.string ⟨#[77, 67, 88, 73]⟩) (some (.int .i64 K)) (some (.int .i64 K')) none).run Try.prog w = .ok (.string ⟨#[c]⟩) w := by
  subst hK
  subst hK'
  rw [run_slice_string w 9 _ _ _ _ _ Try.underlying9 (by omega) (by omega) (by show (k : Int) + 1 ≤ ((4 : Nat) : Int); omega)]
  have e1 : ((k : Int)).toNat = k := by omega
  have e2 : ((k : Int) + 1).toNat = k + 1 := by omega
  rw [e1, e2, hc]
theorem rep_any (s : ByteArray) (c : UInt8) (q : Nat) (hs : s = ⟨#[c]⟩) (hq : q ≤ 9999) (w : World) : Calls Try.prog 50 #[.string s, .int .i64 (q : Int)] w fun e w' => e = .returned (.string (txt (List.replicate q c))) ∧ Below w.heap.size w w' := by
  subst hs
  refine (Try.strings_Repeat ⟨#[c]⟩ q w (by omega) (by show 1 * q ≤ _; omega)).mono fun e w' h => ⟨?_, h.2⟩
  rw [h.1]
  have := Lib.repeatL_replicate c 1 q
  rw [Nat.mul_one] at this
  have e : Lib.repeatL (ByteArray.mk #[c]).data.toList q = List.replicate q c := this
  rw [e]; rfl

theorem run_index_four (c0 c1 c2 c3 : Int) : (∀ w, (Instr.index 82 (.agg #[.int .i64 c0, .int .i64 c1, .int .i64 c2, .int .i64 c3]) (.int .i64 0)).run Try.prog w = .ok (.int .i64 c0) w) ∧
    (∀ w, (Instr.index 82 (.agg #[.int .i64 c0, .int .i64 c1, .int .i64 c2, .int .i64 c3]) (.int .i64 1)).run Try.prog w = .ok (.int .i64 c1) w) ∧
    (∀ w, (Instr.index 82 (.agg #[.int .i64 c0, .int .i64 c1, .int .i64 c2, .int .i64 c3]) (.int .i64 2)).run Try.prog w = .ok (.int .i64 c2) w) ∧
    (∀ w, (Instr.index 82 (.agg #[.int .i64 c0, .int .i64 c1, .int .i64 c2, .int .i64 c3]) (.int .i64 3)).run Try.prog w = .ok (.int .i64 c3) w) := by
  obtain ⟨i0, hi, hz0, hz1, hz2⟩ := info_parts (show (Try.prog.info? 3).map (fun i => (i.zero, i.size, i.bytes)) = some (some (.int .i64 0), 1, 8) by kernel_rfl)
  refine ⟨fun w => ?_, fun w => ?_, fun w => ?_, fun w => ?_⟩ <;>
    simp [Instr.index, run_underlying Try.underlying82, asIntOf, go_sem, part, sizeOf, typeInfo, hi, hz1]
/-- what notches are worth, or -1 -/
def worthB (s : ByteArray) : Int := (Ta.worth s.data.toList).getD (-1)
set_option maxRecDepth 100000 in
set_option maxHeartbeats 4000000 in
theorem NotchesWorth_any (s : ByteArray) (w : World) (hs : s.size ≤ 1099511627776) : Calls Try.prog 34 #[.string s] w fun e w' => e = .returned (.int .i64 (worthB s)) ∧ Below w.heap.size w w' := by
  go_enter Try.func34, Try.ntmps34
  go_wp2_with fail
  refine (notchCounts_any s w hs).mono ?_
  rintro e w1 ⟨⟨c0, c1, c2, c3, rfl, hc⟩, hb1⟩
  rcases hw : Ta.worth s.data.toList with _ | v
  · have e1 : worthB s = -1 := by simp [worthB, hw]
    have HB := Lib.hid (hb1.alloc hb1.size (.cells #[.int .i64 c0, .int .i64 c1, .int .i64 c2, .int .i64 c3] 82))
    have E := Lib.hid e1
    clear hc e1 hw hb1
    simp only [Option.isSome_none]
    go_wp2_with fail
    go_ret
    exact ⟨ret_int E.out.symm, HB.out⟩
  · obtain ⟨hv, l0, l1, l2, l3, u0, u1, u2, u3⟩ := hc v hw
    have e1 : worthB s = v := by simp [worthB, hw]
    have HB := Lib.hid (hb1.alloc hb1.size (.cells #[.int .i64 c0, .int .i64 c1, .int .i64 c2, .int .i64 c3] 82))
    have E := Lib.hid (e1.trans hv)
    obtain ⟨i0, i1, i2, i3⟩ := run_index_four c0 c1 c2 c3
    clear hc e1 hw hv hb1
    simp only [Option.isSome_some]
    go_wp2_with fail
    refine wp_loop_rounds 5 ?_
    rw [rounds_succ]
    go_wp2_with fail
    refine (letterWorth_is 0 0 1000 rfl (by omega) rfl _).mono ?_
    rintro e w' ⟨rfl, rfl⟩
    go_wp2_with fail
    rw [rounds_succ]
    go_wp2_with fail
    refine (letterWorth_is 1 1 100 rfl (by omega) rfl _).mono ?_
    rintro e w' ⟨rfl, rfl⟩
    go_wp2_with fail
    rw [rounds_succ]
    go_wp2_with fail
    refine (letterWorth_is 2 2 10 rfl (by omega) rfl _).mono ?_
    rintro e w' ⟨rfl, rfl⟩
    go_wp2_with fail
    rw [rounds_succ]
    go_wp2_with fail
    refine (letterWorth_is 3 3 1 rfl (by omega) rfl _).mono ?_
    rintro e w' ⟨rfl, rfl⟩
    go_wp2_with fail
    rw [rounds_succ]
    go_wp2_with fail
    go_ret
    exact ⟨ret_int (by rw [E.out]; omega), HB.out⟩
def validB (s : ByteArray) : Bool := (Ta.worth s.data.toList).isSome
theorem NotchesValid_any (s : ByteArray) (w : World) (hs : s.size ≤ 1099511627776) : Calls Try.prog 47 #[.string s] w fun e w' => e = .returned (.bool (validB s)) ∧ Below w.heap.size w w' := by
  go_enter Try.func47, Try.ntmps47
  go_wp2_with fail
  refine (notchCounts_any s w hs).mono ?_
  rintro e w1 ⟨⟨c0, c1, c2, c3, rfl, hc⟩, hb1⟩
  have HB := Lib.hid (hb1.alloc hb1.size (.cells #[.int .i64 c0, .int .i64 c1, .int .i64 c2, .int .i64 c3] 82))
  clear hc hb1
  go_wp2_with fail
  go_ret
  exact ⟨rfl, HB.out⟩

/-! the notches of a worth, letter by letter -/
def rest (n : Nat) : Nat → Nat
  | 0 => n
  | 1 => n % 1000
  | 2 => n % 100
  | 3 => n % 10
  | _ => 0
def pre (n : Nat) : Nat → List UInt8
  | 0 => []
  | 1 => List.replicate (n / 1000) 77
  | 2 => List.replicate (n / 1000) 77 ++ List.replicate (n / 100 % 10) 67
  | 3 => List.replicate (n / 1000) 77 ++ List.replicate (n / 100 % 10) 67 ++ List.replicate (n / 10 % 10) 88
  | _ => Ta.ntext n
theorem of_step {n k : Nat} (W : Int) (c : UInt8) (m : Nat) (t : ByteArray) (ht : t = txt (pre n k)) (m' q : Nat) (h1 : rest n (k + 1) = m') (h2 : ((m : Nat) : Int).tdiv W = q) (h3 : ((m : Nat) : Int).tmod W = m')
    (h4 : pre n (k + 1) = pre n k ++ List.replicate q c) (h5 : q ≤ 9999) (h6 : (pre n k).length ≤ 9999) :
    ∃ (m' q : Nat) (u : ByteArray), m' = rest n (k + 1) ∧ q ≤ 9999 ∧ ((m : Nat) : Int).tdiv W = q ∧ ((m : Nat) : Int).tmod W = m' ∧ t ++ txt (List.replicate q c) = u ∧ ¬ (t.size + (txt (List.replicate q c)).size > 9223372036854775807) ∧ u = txt (pre n (k + 1)) := by
  subst ht
  exact ⟨m', q, txt (pre n (k + 1)), h1.symm, h5, h2, h3, by rw [h4, txt_append], by rw [txt_size, txt_size, List.length_replicate]; omega, rfl⟩
theorem wrap_nat {n : Nat} (h : n ≤ 1000000) : IntKind.i64.wrap (n : Int) = (n : Int) := IntWalk.i64_in _ (by omega)
theorem rest_bd (n k : Nat) (h : n ≤ 9999) : rest n k ≤ 1000000 := by
  unfold rest
  split <;> omega
theorem tdiv_nat (m k : Nat) : ((m : Nat) : Int).tdiv (k : Int) = ((m / k : Nat) : Int) := rfl
theorem tmod_nat (m k : Nat) : ((m : Nat) : Int).tmod (k : Int) = ((m % k : Nat) : Int) := rfl
theorem of_step0 (n m : Nat) (t : ByteArray) (hn : n ≤ 9999) (hm : m = rest n 0) (ht : t = txt (pre n 0)) :
    ∃ (m' q : Nat) (u : ByteArray), m' = rest n 1 ∧ q ≤ 9999 ∧ ((m : Nat) : Int).tdiv 1000 = q ∧ ((m : Nat) : Int).tmod 1000 = m' ∧ t ++ txt (List.replicate q 77) = u ∧ ¬ (t.size + (txt (List.replicate q 77)).size > 9223372036854775807) ∧ u = txt (pre n 1) := by
  subst hm
  exact of_step 1000 77 _ t ht (rest m 1) (m / 1000) rfl (tdiv_nat _ 1000) (tmod_nat _ 1000) (by simp [pre]) (by omega) (by simp [pre])
theorem of_step1 (n m : Nat) (t : ByteArray) (hn : n ≤ 9999) (hm : m = rest n 1) (ht : t = txt (pre n 1)) :
    ∃ (m' q : Nat) (u : ByteArray), m' = rest n 2 ∧ q ≤ 9999 ∧ ((m : Nat) : Int).tdiv 100 = q ∧ ((m : Nat) : Int).tmod 100 = m' ∧ t ++ txt (List.replicate q 67) = u ∧ ¬ (t.size + (txt (List.replicate q 67)).size > 9223372036854775807) ∧ u = txt (pre n 2) := by
  subst hm
  exact of_step 100 67 _ t ht (rest n 2) (n / 100 % 10) rfl ((tdiv_nat _ 100).trans (by simp only [rest]; congr 1 <;> omega)) ((tmod_nat _ 100).trans (by simp only [rest]; congr 1 <;> omega)) (by simp [pre]) (by omega) (by simp [pre] <;> omega)
theorem of_step2 (n m : Nat) (t : ByteArray) (hn : n ≤ 9999) (hm : m = rest n 2) (ht : t = txt (pre n 2)) :
    ∃ (m' q : Nat) (u : ByteArray), m' = rest n 3 ∧ q ≤ 9999 ∧ ((m : Nat) : Int).tdiv 10 = q ∧ ((m : Nat) : Int).tmod 10 = m' ∧ t ++ txt (List.replicate q 88) = u ∧ ¬ (t.size + (txt (List.replicate q 88)).size > 9223372036854775807) ∧ u = txt (pre n 3) := by
  subst hm
  exact of_step 10 88 _ t ht (rest n 3) (n / 10 % 10) rfl ((tdiv_nat _ 10).trans (by simp only [rest]; congr 1 <;> omega)) ((tmod_nat _ 10).trans (by simp only [rest]; congr 1 <;> omega)) (by simp [pre]) (by omega) (by simp [pre] <;> omega)
theorem of_step3 (n m : Nat) (t : ByteArray) (hn : n ≤ 9999) (hm : m = rest n 3) (ht : t = txt (pre n 3)) :
    ∃ (m' q : Nat) (u : ByteArray), m' = rest n 4 ∧ q ≤ 9999 ∧ ((m : Nat) : Int).tdiv 1 = q ∧ ((m : Nat) : Int).tmod 1 = m' ∧ t ++ txt (List.replicate q 73) = u ∧ ¬ (t.size + (txt (List.replicate q 73)).size > 9223372036854775807) ∧ u = txt (pre n 4) := by
  subst hm
  exact of_step 1 73 _ t ht (rest n 4) (n % 10) rfl ((tdiv_nat _ 1).trans (by simp only [rest]; congr 1 <;> omega)) ((tmod_nat _ 1).trans (by simp only [rest]; congr 1 <;> omega)) (by simp [pre, Ta.ntext, Ta.notes]) (by omega) (by simp [pre] <;> omega)
theorem NotchesOf_no (v : Int) (h : v < 0 ∨ 9999 < v) (w : World) : Calls Try.prog 39 #[.int .i64 v] w fun e w' => e = .returned (.tuple #[.string ⟨#[]⟩, .bool false]) ∧ w = w' := by
  by_cases h0 : v < 0
  · go_enter Try.func39, Try.ntmps39
    go_wp2
    go_ret2
    exact ⟨rfl, rfl⟩
  · have h1 : v > 9999 := by omega
    go_enter Try.func39, Try.ntmps39
    go_wp2
    go_ret2
    exact ⟨rfl, rfl⟩
set_option maxRecDepth 100000 in
set_option maxHeartbeats 4000000 in
theorem NotchesOf_yes (n : Nat) (hn : n ≤ 9999) (w : World) : Calls Try.prog 39 #[.int .i64 (n : Int)] w fun e w' => e = .returned (.tuple #[.string (txt (Ta.ntext n)), .bool true]) ∧ Below w.heap.size w w' := by
  have h0 : ¬ (n : Int) < 0 := by omega
  have h1 : ¬ (n : Int) > 9999 := by omega
  go_enter Try.func39, Try.ntmps39
  go_wp2
  go_loopw [0, 4, 5] (fun vv tv iv wr => ∃ (k m : Nat) (t : ByteArray), k ≤ 4 ∧ vv = .int .i64 (m : Int) ∧ tv = .string t ∧ iv = .int .i64 (k : Int) ∧ m = rest n k ∧ t = txt (pre n k) ∧ Below w.heap.size w wr) (fun _ _ iv _ => 4 - (intOf iv).toNat)
  case atStart => exact ⟨0, n, _, by omega, rfl, rfl, rfl, rfl, rfl, Below.refl _ _⟩
  case round =>
    obtain ⟨k, m, t, hk, rfl, rfl, rfl, hm, ht, hbr⟩ := hrel
    have HBR := Lib.hid hbr
    clear hbr
    by_cases h4 : k < 4
    · have hkk : k = 0 ∨ k = 1 ∨ k = 2 ∨ k = 3 := by omega
      clear hk h4
      rcases hkk with rfl | rfl | rfl | rfl
      · obtain ⟨m', q, u, hm2, hq1, hq, hrm, hcat, hno, hu⟩ := of_step0 n m t hn hm ht
        have hwr : IntKind.i64.wrap 1 = 1 := by decide
        have hsl := slice_letter 0 0 1 77 (by omega) rfl rfl rfl
        have HM2 := Lib.hid hm2
        have HQ := Lib.hid hq1
        have HU := Lib.hid hu
        have hwq := wrap_nat (n := q) (by omega)
        have hwm := wrap_nat (n := m') (by rw [hm2]; exact rest_bd n 1 hn)
        clear hm2 hq1 hu hm ht
        go_wp2_with fail
        refine wp_region_held_drew (S := (fun _ => True)) (by kernel_rfl) ?_ (fun hHeld => ?_)
        · (try dsimp only)
          all_goals (trivial)
        refine wpAnyH_take (i := 0) (oi := { dst := some 16, op := _, type := _, pos := _, after := _, guard := _ }) (v := ?v1) rfl (by kernel_rfl) (by kernel_rfl) (by kernel_rfl) (fun _ _ _ h => h) (Or.inl ⟨by rfl, ?hy1⟩) (by first | assumption | exact hHeld) ?rest1
        case hy1 => ((intro w0 hSw; (try dsimp only at hSw); go_simp) <;> with_reducible rfl)
        (try simp only [Act.put, List.setIfInBounds_toArray, List.set_cons_zero, List.set_cons_succ])
        refine wpAnyH_take (i := 1) (oi := { dst := some 17, op := _, type := _, pos := _, after := _, guard := _ }) (v := ?v2) rfl (by kernel_rfl) (by kernel_rfl) (by kernel_rfl) (fun _ _ _ h => h) (Or.inl ⟨by rfl, ?hy2⟩) (by first | assumption | exact hHeld) ?rest2
        case hy2 => ((intro w0 hSw; (try dsimp only at hSw); go_simp) <;> with_reducible rfl)
        (try simp only [Act.put, List.setIfInBounds_toArray, List.set_cons_zero, List.set_cons_succ])
        refine wpAnyH_take (i := 2) (oi := { dst := some 18, op := _, type := _, pos := _, after := _, guard := _ }) (v := ?v3) rfl (by kernel_rfl) (by kernel_rfl) (by kernel_rfl) (fun _ _ _ h => h) (Or.inl ⟨by rfl, ?hy3⟩) (by first | assumption | exact hHeld) ?rest3
        case hy3 => ((intro w0 hSw; (try dsimp only at hSw); go_simp) <;> with_reducible rfl)
        (try simp only [Act.put, List.setIfInBounds_toArray, List.set_cons_zero, List.set_cons_succ])
        refine wpAnyH_take (i := 3) (oi := { dst := some 19, op := _, type := _, pos := _, after := _, guard := _ }) (v := ?v4) rfl (by kernel_rfl) (by kernel_rfl) (by kernel_rfl) (fun _ _ _ h => h) (Or.inl ⟨by rfl, ?hy4⟩) (by first | assumption | exact hHeld) ?rest4
        case hy4 => ((intro w0 hSw; (try dsimp only at hSw); go_simp) <;> with_reducible rfl)
        (try simp only [Act.put, List.setIfInBounds_toArray, List.set_cons_zero, List.set_cons_succ])
        refine wpAnyH_take (i := 4) (oi := { dst := some 20, op := _, type := _, pos := _, after := _, guard := _ }) (v := ?v5) rfl (by kernel_rfl) (by kernel_rfl) (by kernel_rfl) (fun _ _ _ h => h) (Or.inl ⟨by rfl, ?hy5⟩) (by first | assumption | exact hHeld) ?rest5
        case hy5 => ((intro w0 hSw; (try dsimp only at hSw); go_simp) <;> with_reducible rfl)
        (try simp only [Act.put, List.setIfInBounds_toArray, List.set_cons_zero, List.set_cons_succ])
        refine wpAnyH_take (i := 5) (oi := { dst := some 21, op := _, type := _, pos := _, after := _, guard := _ }) (v := ?v6) rfl (by kernel_rfl) (by kernel_rfl) (by kernel_rfl) (fun _ _ _ h => h) (Or.inl ⟨by rfl, ?hy6⟩) (by first | assumption | exact hHeld) ?rest6
        case hy6 => ((intro w0 hSw; (try dsimp only at hSw); go_simp) <;> with_reducible rfl)
        (try simp only [Act.put, List.setIfInBounds_toArray, List.set_cons_zero, List.set_cons_succ])
        refine wpAnyH_take (i := 6) (oi := { dst := some 22, op := _, type := _, pos := _, after := _, guard := _ }) (v := ?v7) rfl (by kernel_rfl) (by kernel_rfl) (by kernel_rfl) (fun _ _ _ h => h) (Or.inl ⟨by rfl, ?hy7⟩) (by first | assumption | exact hHeld) ?rest7
        case hy7 => ((intro w0 hSw; (try dsimp only at hSw); go_simp) <;> with_reducible rfl)
        (try simp only [Act.put, List.setIfInBounds_toArray, List.set_cons_zero, List.set_cons_succ])
        refine wpAnyH_ready (rs := [7]) (by kernel_rfl) (by simp) ?_
        refine AllReadyH.cons (o := { dst := some 23, op := _, type := _, pos := _, after := _, guard := _ }) rfl (fun K hK => ?_) ?_
        · go_simp
          refine (letterWorth_is 0 0 1000 rfl (by omega) rfl _).mono ?_
          rintro e wy ⟨rfl, rfl⟩
          (try go_wp2_with fail)
          refine hK.out _ _ ?_ (fun hHeld8 => ?_)
          · (try dsimp only)
            all_goals (trivial)
          clear hK K
          (try clear hHeld)
          (try simp only [Act.put, List.setIfInBounds_toArray, List.set_cons_zero, List.set_cons_succ])
          refine wpAnyH_take (i := 8) (oi := { dst := some 24, op := _, type := _, pos := _, after := _, guard := _ }) (v := ?v9) rfl (by kernel_rfl) (by kernel_rfl) (by kernel_rfl) (fun _ _ _ h => h) (Or.inl ⟨by rfl, ?hy9⟩) (by first | assumption | exact hHeld8) ?rest9
          case hy9 => ((intro w0 hSw; (try dsimp only at hSw); go_simp) <;> with_reducible rfl)
          (try simp only [Act.put, List.setIfInBounds_toArray, List.set_cons_zero, List.set_cons_succ])
          refine wpAnyH_ready (rs := [9]) (by kernel_rfl) (by simp) ?_
          refine AllReadyH.cons (o := { dst := some 25, op := _, type := _, pos := _, after := _, guard := _ }) rfl (fun K hK => ?_) ?_
          · go_simp
            refine (rep_any _ 77 q rfl HQ.out _).mono ?_
            rintro e wz ⟨rfl, hbz⟩
            have HBZ := Lib.hid hbz
            clear hbz
            (try go_wp2_with fail)
            refine hK.out _ _ ?_ (fun hHeld10 => ?_)
            · (try dsimp only)
              all_goals (trivial)
            clear hK K
            (try clear hHeld8)
            (try simp only [Act.put, List.setIfInBounds_toArray, List.set_cons_zero, List.set_cons_succ])
            refine wpAnyH_take (i := 10) (oi := { dst := some 26, op := _, type := _, pos := _, after := _, guard := _ }) (v := ?v11) rfl (by kernel_rfl) (by kernel_rfl) (by kernel_rfl) (fun _ _ _ h => h) (Or.inl ⟨by rfl, ?hy11⟩) (by first | assumption | exact hHeld10) ?rest11
            case hy11 => ((intro w0 hSw; (try dsimp only at hSw); go_simp) <;> with_reducible rfl)
            (try simp only [Act.put, List.setIfInBounds_toArray, List.set_cons_zero, List.set_cons_succ])
            refine wpAnyH_take (i := 11) (oi := { dst := some 4, op := _, type := _, pos := _, after := _, guard := _ }) (v := ?v12) rfl (by kernel_rfl) (by kernel_rfl) (by kernel_rfl) (fun _ _ _ h => h) (Or.inl ⟨by rfl, ?hy12⟩) (by first | assumption | exact hHeld10) ?rest12
            case hy12 => ((intro w0 hSw; (try dsimp only at hSw); go_simp) <;> with_reducible rfl)
            (try simp only [Act.put, List.setIfInBounds_toArray, List.set_cons_zero, List.set_cons_succ])
            refine wpAnyH_done (by kernel_rfl) ?_ _
            go_wp2_with fail
            refine (letterWorth_is 0 0 1000 rfl (by omega) rfl _).mono ?_
            rintro e wy ⟨rfl, rfl⟩
            go_wp2_with fail
            refine ⟨⟨1, m', u, by omega, rfl, rfl, rfl, HM2.out, HU.out, HBR.out.drew.trans (HBZ.out.mono HBR.out.size)⟩, ?_⟩
            simp [intOf]
          exact AllReadyH.nil
        exact AllReadyH.nil
      · obtain ⟨m', q, u, hm2, hq1, hq, hrm, hcat, hno, hu⟩ := of_step1 n m t hn hm ht
        have hwr : IntKind.i64.wrap 2 = 2 := by decide
        have hsl := slice_letter 1 1 2 67 (by omega) rfl rfl rfl
        have HM2 := Lib.hid hm2
        have HQ := Lib.hid hq1
        have HU := Lib.hid hu
        have hwq := wrap_nat (n := q) (by omega)
        have hwm := wrap_nat (n := m') (by rw [hm2]; exact rest_bd n 2 hn)
        clear hm2 hq1 hu hm ht
        go_wp2_with fail
        refine wp_region_held_drew (S := (fun _ => True)) (by kernel_rfl) ?_ (fun hHeld => ?_)
        · (try dsimp only)
          all_goals (trivial)
        refine wpAnyH_take (i := 0) (oi := { dst := some 16, op := _, type := _, pos := _, after := _, guard := _ }) (v := ?v101) rfl (by kernel_rfl) (by kernel_rfl) (by kernel_rfl) (fun _ _ _ h => h) (Or.inl ⟨by rfl, ?hy101⟩) (by first | assumption | exact hHeld) ?rest101
        case hy101 => ((intro w0 hSw; (try dsimp only at hSw); go_simp) <;> with_reducible rfl)
        (try simp only [Act.put, List.setIfInBounds_toArray, List.set_cons_zero, List.set_cons_succ])
        refine wpAnyH_take (i := 1) (oi := { dst := some 17, op := _, type := _, pos := _, after := _, guard := _ }) (v := ?v102) rfl (by kernel_rfl) (by kernel_rfl) (by kernel_rfl) (fun _ _ _ h => h) (Or.inl ⟨by rfl, ?hy102⟩) (by first | assumption | exact hHeld) ?rest102
        case hy102 => ((intro w0 hSw; (try dsimp only at hSw); go_simp) <;> with_reducible rfl)
        (try simp only [Act.put, List.setIfInBounds_toArray, List.set_cons_zero, List.set_cons_succ])
        refine wpAnyH_take (i := 2) (oi := { dst := some 18, op := _, type := _, pos := _, after := _, guard := _ }) (v := ?v103) rfl (by kernel_rfl) (by kernel_rfl) (by kernel_rfl) (fun _ _ _ h => h) (Or.inl ⟨by rfl, ?hy103⟩) (by first | assumption | exact hHeld) ?rest103
        case hy103 => ((intro w0 hSw; (try dsimp only at hSw); go_simp) <;> with_reducible rfl)
        (try simp only [Act.put, List.setIfInBounds_toArray, List.set_cons_zero, List.set_cons_succ])
        refine wpAnyH_take (i := 3) (oi := { dst := some 19, op := _, type := _, pos := _, after := _, guard := _ }) (v := ?v104) rfl (by kernel_rfl) (by kernel_rfl) (by kernel_rfl) (fun _ _ _ h => h) (Or.inl ⟨by rfl, ?hy104⟩) (by first | assumption | exact hHeld) ?rest104
        case hy104 => ((intro w0 hSw; (try dsimp only at hSw); go_simp) <;> with_reducible rfl)
        (try simp only [Act.put, List.setIfInBounds_toArray, List.set_cons_zero, List.set_cons_succ])
        refine wpAnyH_take (i := 4) (oi := { dst := some 20, op := _, type := _, pos := _, after := _, guard := _ }) (v := ?v105) rfl (by kernel_rfl) (by kernel_rfl) (by kernel_rfl) (fun _ _ _ h => h) (Or.inl ⟨by rfl, ?hy105⟩) (by first | assumption | exact hHeld) ?rest105
        case hy105 => ((intro w0 hSw; (try dsimp only at hSw); go_simp) <;> with_reducible rfl)
        (try simp only [Act.put, List.setIfInBounds_toArray, List.set_cons_zero, List.set_cons_succ])
        refine wpAnyH_take (i := 5) (oi := { dst := some 21, op := _, type := _, pos := _, after := _, guard := _ }) (v := ?v106) rfl (by kernel_rfl) (by kernel_rfl) (by kernel_rfl) (fun _ _ _ h => h) (Or.inl ⟨by rfl, ?hy106⟩) (by first | assumption | exact hHeld) ?rest106
        case hy106 => ((intro w0 hSw; (try dsimp only at hSw); go_simp) <;> with_reducible rfl)
        (try simp only [Act.put, List.setIfInBounds_toArray, List.set_cons_zero, List.set_cons_succ])
        refine wpAnyH_take (i := 6) (oi := { dst := some 22, op := _, type := _, pos := _, after := _, guard := _ }) (v := ?v107) rfl (by kernel_rfl) (by kernel_rfl) (by kernel_rfl) (fun _ _ _ h => h) (Or.inl ⟨by rfl, ?hy107⟩) (by first | assumption | exact hHeld) ?rest107
        case hy107 => ((intro w0 hSw; (try dsimp only at hSw); go_simp) <;> with_reducible rfl)
        (try simp only [Act.put, List.setIfInBounds_toArray, List.set_cons_zero, List.set_cons_succ])
        refine wpAnyH_ready (rs := [7]) (by kernel_rfl) (by simp) ?_
        refine AllReadyH.cons (o := { dst := some 23, op := _, type := _, pos := _, after := _, guard := _ }) rfl (fun K hK => ?_) ?_
        · go_simp
          refine (letterWorth_is 1 1 100 rfl (by omega) rfl _).mono ?_
          rintro e wy ⟨rfl, rfl⟩
          (try go_wp2_with fail)
          refine hK.out _ _ ?_ (fun hHeld108 => ?_)
          · (try dsimp only)
            all_goals (trivial)
          clear hK K
          (try clear hHeld)
          (try simp only [Act.put, List.setIfInBounds_toArray, List.set_cons_zero, List.set_cons_succ])
          refine wpAnyH_take (i := 8) (oi := { dst := some 24, op := _, type := _, pos := _, after := _, guard := _ }) (v := ?v109) rfl (by kernel_rfl) (by kernel_rfl) (by kernel_rfl) (fun _ _ _ h => h) (Or.inl ⟨by rfl, ?hy109⟩) (by first | assumption | exact hHeld108) ?rest109
          case hy109 => ((intro w0 hSw; (try dsimp only at hSw); go_simp) <;> with_reducible rfl)
          (try simp only [Act.put, List.setIfInBounds_toArray, List.set_cons_zero, List.set_cons_succ])
          refine wpAnyH_ready (rs := [9]) (by kernel_rfl) (by simp) ?_
          refine AllReadyH.cons (o := { dst := some 25, op := _, type := _, pos := _, after := _, guard := _ }) rfl (fun K hK => ?_) ?_
          · go_simp
            refine (rep_any _ 67 q rfl HQ.out _).mono ?_
            rintro e wz ⟨rfl, hbz⟩
            have HBZ := Lib.hid hbz
            clear hbz
            (try go_wp2_with fail)
            refine hK.out _ _ ?_ (fun hHeld110 => ?_)
            · (try dsimp only)
              all_goals (trivial)
            clear hK K
            (try clear hHeld108)
            (try simp only [Act.put, List.setIfInBounds_toArray, List.set_cons_zero, List.set_cons_succ])
            refine wpAnyH_take (i := 10) (oi := { dst := some 26, op := _, type := _, pos := _, after := _, guard := _ }) (v := ?v111) rfl (by kernel_rfl) (by kernel_rfl) (by kernel_rfl) (fun _ _ _ h => h) (Or.inl ⟨by rfl, ?hy111⟩) (by first | assumption | exact hHeld110) ?rest111
            case hy111 => ((intro w0 hSw; (try dsimp only at hSw); go_simp) <;> with_reducible rfl)
            (try simp only [Act.put, List.setIfInBounds_toArray, List.set_cons_zero, List.set_cons_succ])
            refine wpAnyH_take (i := 11) (oi := { dst := some 4, op := _, type := _, pos := _, after := _, guard := _ }) (v := ?v112) rfl (by kernel_rfl) (by kernel_rfl) (by kernel_rfl) (fun _ _ _ h => h) (Or.inl ⟨by rfl, ?hy112⟩) (by first | assumption | exact hHeld110) ?rest112
            case hy112 => ((intro w0 hSw; (try dsimp only at hSw); go_simp) <;> with_reducible rfl)
            (try simp only [Act.put, List.setIfInBounds_toArray, List.set_cons_zero, List.set_cons_succ])
            refine wpAnyH_done (by kernel_rfl) ?_ _
            go_wp2_with fail
            refine (letterWorth_is 1 1 100 rfl (by omega) rfl _).mono ?_
            rintro e wy ⟨rfl, rfl⟩
            go_wp2_with fail
            refine ⟨⟨2, m', u, by omega, rfl, rfl, rfl, HM2.out, HU.out, HBR.out.drew.trans (HBZ.out.mono HBR.out.size)⟩, ?_⟩
            simp [intOf]
          exact AllReadyH.nil
        exact AllReadyH.nil
      · obtain ⟨m', q, u, hm2, hq1, hq, hrm, hcat, hno, hu⟩ := of_step2 n m t hn hm ht
        have hwr : IntKind.i64.wrap 3 = 3 := by decide
        have hsl := slice_letter 2 2 3 88 (by omega) rfl rfl rfl
        have HM2 := Lib.hid hm2
        have HQ := Lib.hid hq1
        have HU := Lib.hid hu
        have hwq := wrap_nat (n := q) (by omega)
        have hwm := wrap_nat (n := m') (by rw [hm2]; exact rest_bd n 3 hn)
        clear hm2 hq1 hu hm ht
        go_wp2_with fail
        refine wp_region_held_drew (S := (fun _ => True)) (by kernel_rfl) ?_ (fun hHeld => ?_)
        · (try dsimp only)
          all_goals (trivial)
        refine wpAnyH_take (i := 0) (oi := { dst := some 16, op := _, type := _, pos := _, after := _, guard := _ }) (v := ?v201) rfl (by kernel_rfl) (by kernel_rfl) (by kernel_rfl) (fun _ _ _ h => h) (Or.inl ⟨by rfl, ?hy201⟩) (by first | assumption | exact hHeld) ?rest201
        case hy201 => ((intro w0 hSw; (try dsimp only at hSw); go_simp) <;> with_reducible rfl)
        (try simp only [Act.put, List.setIfInBounds_toArray, List.set_cons_zero, List.set_cons_succ])
        refine wpAnyH_take (i := 1) (oi := { dst := some 17, op := _, type := _, pos := _, after := _, guard := _ }) (v := ?v202) rfl (by kernel_rfl) (by kernel_rfl) (by kernel_rfl) (fun _ _ _ h => h) (Or.inl ⟨by rfl, ?hy202⟩) (by first | assumption | exact hHeld) ?rest202
        case hy202 => ((intro w0 hSw; (try dsimp only at hSw); go_simp) <;> with_reducible rfl)
        (try simp only [Act.put, List.setIfInBounds_toArray, List.set_cons_zero, List.set_cons_succ])
        refine wpAnyH_take (i := 2) (oi := { dst := some 18, op := _, type := _, pos := _, after := _, guard := _ }) (v := ?v203) rfl (by kernel_rfl) (by kernel_rfl) (by kernel_rfl) (fun _ _ _ h => h) (Or.inl ⟨by rfl, ?hy203⟩) (by first | assumption | exact hHeld) ?rest203
        case hy203 => ((intro w0 hSw; (try dsimp only at hSw); go_simp) <;> with_reducible rfl)
        (try simp only [Act.put, List.setIfInBounds_toArray, List.set_cons_zero, List.set_cons_succ])
        refine wpAnyH_take (i := 3) (oi := { dst := some 19, op := _, type := _, pos := _, after := _, guard := _ }) (v := ?v204) rfl (by kernel_rfl) (by kernel_rfl) (by kernel_rfl) (fun _ _ _ h => h) (Or.inl ⟨by rfl, ?hy204⟩) (by first | assumption | exact hHeld) ?rest204
        case hy204 => ((intro w0 hSw; (try dsimp only at hSw); go_simp) <;> with_reducible rfl)
        (try simp only [Act.put, List.setIfInBounds_toArray, List.set_cons_zero, List.set_cons_succ])
        refine wpAnyH_take (i := 4) (oi := { dst := some 20, op := _, type := _, pos := _, after := _, guard := _ }) (v := ?v205) rfl (by kernel_rfl) (by kernel_rfl) (by kernel_rfl) (fun _ _ _ h => h) (Or.inl ⟨by rfl, ?hy205⟩) (by first | assumption | exact hHeld) ?rest205
        case hy205 => ((intro w0 hSw; (try dsimp only at hSw); go_simp) <;> with_reducible rfl)
        (try simp only [Act.put, List.setIfInBounds_toArray, List.set_cons_zero, List.set_cons_succ])
        refine wpAnyH_take (i := 5) (oi := { dst := some 21, op := _, type := _, pos := _, after := _, guard := _ }) (v := ?v206) rfl (by kernel_rfl) (by kernel_rfl) (by kernel_rfl) (fun _ _ _ h => h) (Or.inl ⟨by rfl, ?hy206⟩) (by first | assumption | exact hHeld) ?rest206
        case hy206 => ((intro w0 hSw; (try dsimp only at hSw); go_simp) <;> with_reducible rfl)
        (try simp only [Act.put, List.setIfInBounds_toArray, List.set_cons_zero, List.set_cons_succ])
        refine wpAnyH_take (i := 6) (oi := { dst := some 22, op := _, type := _, pos := _, after := _, guard := _ }) (v := ?v207) rfl (by kernel_rfl) (by kernel_rfl) (by kernel_rfl) (fun _ _ _ h => h) (Or.inl ⟨by rfl, ?hy207⟩) (by first | assumption | exact hHeld) ?rest207
        case hy207 => ((intro w0 hSw; (try dsimp only at hSw); go_simp) <;> with_reducible rfl)
        (try simp only [Act.put, List.setIfInBounds_toArray, List.set_cons_zero, List.set_cons_succ])
        refine wpAnyH_ready (rs := [7]) (by kernel_rfl) (by simp) ?_
        refine AllReadyH.cons (o := { dst := some 23, op := _, type := _, pos := _, after := _, guard := _ }) rfl (fun K hK => ?_) ?_
        · go_simp
          refine (letterWorth_is 2 2 10 rfl (by omega) rfl _).mono ?_
          rintro e wy ⟨rfl, rfl⟩
          (try go_wp2_with fail)
          refine hK.out _ _ ?_ (fun hHeld208 => ?_)
          · (try dsimp only)
            all_goals (trivial)
          clear hK K
          (try clear hHeld)
          (try simp only [Act.put, List.setIfInBounds_toArray, List.set_cons_zero, List.set_cons_succ])
          refine wpAnyH_take (i := 8) (oi := { dst := some 24, op := _, type := _, pos := _, after := _, guard := _ }) (v := ?v209) rfl (by kernel_rfl) (by kernel_rfl) (by kernel_rfl) (fun _ _ _ h => h) (Or.inl ⟨by rfl, ?hy209⟩) (by first | assumption | exact hHeld208) ?rest209
          case hy209 => ((intro w0 hSw; (try dsimp only at hSw); go_simp) <;> with_reducible rfl)
          (try simp only [Act.put, List.setIfInBounds_toArray, List.set_cons_zero, List.set_cons_succ])
          refine wpAnyH_ready (rs := [9]) (by kernel_rfl) (by simp) ?_
          refine AllReadyH.cons (o := { dst := some 25, op := _, type := _, pos := _, after := _, guard := _ }) rfl (fun K hK => ?_) ?_
          · go_simp
            refine (rep_any _ 88 q rfl HQ.out _).mono ?_
            rintro e wz ⟨rfl, hbz⟩
            have HBZ := Lib.hid hbz
            clear hbz
            (try go_wp2_with fail)
            refine hK.out _ _ ?_ (fun hHeld210 => ?_)
            · (try dsimp only)
              all_goals (trivial)
            clear hK K
            (try clear hHeld208)
            (try simp only [Act.put, List.setIfInBounds_toArray, List.set_cons_zero, List.set_cons_succ])
            refine wpAnyH_take (i := 10) (oi := { dst := some 26, op := _, type := _, pos := _, after := _, guard := _ }) (v := ?v211) rfl (by kernel_rfl) (by kernel_rfl) (by kernel_rfl) (fun _ _ _ h => h) (Or.inl ⟨by rfl, ?hy211⟩) (by first | assumption | exact hHeld210) ?rest211
            case hy211 => ((intro w0 hSw; (try dsimp only at hSw); go_simp) <;> with_reducible rfl)
            (try simp only [Act.put, List.setIfInBounds_toArray, List.set_cons_zero, List.set_cons_succ])
            refine wpAnyH_take (i := 11) (oi := { dst := some 4, op := _, type := _, pos := _, after := _, guard := _ }) (v := ?v212) rfl (by kernel_rfl) (by kernel_rfl) (by kernel_rfl) (fun _ _ _ h => h) (Or.inl ⟨by rfl, ?hy212⟩) (by first | assumption | exact hHeld210) ?rest212
            case hy212 => ((intro w0 hSw; (try dsimp only at hSw); go_simp) <;> with_reducible rfl)
            (try simp only [Act.put, List.setIfInBounds_toArray, List.set_cons_zero, List.set_cons_succ])
            refine wpAnyH_done (by kernel_rfl) ?_ _
            go_wp2_with fail
            refine (letterWorth_is 2 2 10 rfl (by omega) rfl _).mono ?_
            rintro e wy ⟨rfl, rfl⟩
            go_wp2_with fail
            refine ⟨⟨3, m', u, by omega, rfl, rfl, rfl, HM2.out, HU.out, HBR.out.drew.trans (HBZ.out.mono HBR.out.size)⟩, ?_⟩
            simp [intOf]
          exact AllReadyH.nil
        exact AllReadyH.nil
      · obtain ⟨m', q, u, hm2, hq1, hq, hrm, hcat, hno, hu⟩ := of_step3 n m t hn hm ht
        have hwr : IntKind.i64.wrap 4 = 4 := by decide
        have hsl := slice_letter 3 3 4 73 (by omega) rfl rfl rfl
        have HM2 := Lib.hid hm2
        have HQ := Lib.hid hq1
        have HU := Lib.hid hu
        have hwq := wrap_nat (n := q) (by omega)
        have hwm := wrap_nat (n := m') (by rw [hm2]; exact rest_bd n 4 hn)
        clear hm2 hq1 hu hm ht
        go_wp2_with fail
        refine wp_region_held_drew (S := (fun _ => True)) (by kernel_rfl) ?_ (fun hHeld => ?_)
        · (try dsimp only)
          all_goals (trivial)
        refine wpAnyH_take (i := 0) (oi := { dst := some 16, op := _, type := _, pos := _, after := _, guard := _ }) (v := ?v301) rfl (by kernel_rfl) (by kernel_rfl) (by kernel_rfl) (fun _ _ _ h => h) (Or.inl ⟨by rfl, ?hy301⟩) (by first | assumption | exact hHeld) ?rest301
        case hy301 => ((intro w0 hSw; (try dsimp only at hSw); go_simp) <;> with_reducible rfl)
        (try simp only [Act.put, List.setIfInBounds_toArray, List.set_cons_zero, List.set_cons_succ])
        refine wpAnyH_take (i := 1) (oi := { dst := some 17, op := _, type := _, pos := _, after := _, guard := _ }) (v := ?v302) rfl (by kernel_rfl) (by kernel_rfl) (by kernel_rfl) (fun _ _ _ h => h) (Or.inl ⟨by rfl, ?hy302⟩) (by first | assumption | exact hHeld) ?rest302
        case hy302 => ((intro w0 hSw; (try dsimp only at hSw); go_simp) <;> with_reducible rfl)
        (try simp only [Act.put, List.setIfInBounds_toArray, List.set_cons_zero, List.set_cons_succ])
        refine wpAnyH_take (i := 2) (oi := { dst := some 18, op := _, type := _, pos := _, after := _, guard := _ }) (v := ?v303) rfl (by kernel_rfl) (by kernel_rfl) (by kernel_rfl) (fun _ _ _ h => h) (Or.inl ⟨by rfl, ?hy303⟩) (by first | assumption | exact hHeld) ?rest303
        case hy303 => ((intro w0 hSw; (try dsimp only at hSw); go_simp) <;> with_reducible rfl)
        (try simp only [Act.put, List.setIfInBounds_toArray, List.set_cons_zero, List.set_cons_succ])
        refine wpAnyH_take (i := 3) (oi := { dst := some 19, op := _, type := _, pos := _, after := _, guard := _ }) (v := ?v304) rfl (by kernel_rfl) (by kernel_rfl) (by kernel_rfl) (fun _ _ _ h => h) (Or.inl ⟨by rfl, ?hy304⟩) (by first | assumption | exact hHeld) ?rest304
        case hy304 => ((intro w0 hSw; (try dsimp only at hSw); go_simp) <;> with_reducible rfl)
        (try simp only [Act.put, List.setIfInBounds_toArray, List.set_cons_zero, List.set_cons_succ])
        refine wpAnyH_take (i := 4) (oi := { dst := some 20, op := _, type := _, pos := _, after := _, guard := _ }) (v := ?v305) rfl (by kernel_rfl) (by kernel_rfl) (by kernel_rfl) (fun _ _ _ h => h) (Or.inl ⟨by rfl, ?hy305⟩) (by first | assumption | exact hHeld) ?rest305
        case hy305 => ((intro w0 hSw; (try dsimp only at hSw); go_simp) <;> with_reducible rfl)
        (try simp only [Act.put, List.setIfInBounds_toArray, List.set_cons_zero, List.set_cons_succ])
        refine wpAnyH_take (i := 5) (oi := { dst := some 21, op := _, type := _, pos := _, after := _, guard := _ }) (v := ?v306) rfl (by kernel_rfl) (by kernel_rfl) (by kernel_rfl) (fun _ _ _ h => h) (Or.inl ⟨by rfl, ?hy306⟩) (by first | assumption | exact hHeld) ?rest306
        case hy306 => ((intro w0 hSw; (try dsimp only at hSw); go_simp) <;> with_reducible rfl)
        (try simp only [Act.put, List.setIfInBounds_toArray, List.set_cons_zero, List.set_cons_succ])
        refine wpAnyH_take (i := 6) (oi := { dst := some 22, op := _, type := _, pos := _, after := _, guard := _ }) (v := ?v307) rfl (by kernel_rfl) (by kernel_rfl) (by kernel_rfl) (fun _ _ _ h => h) (Or.inl ⟨by rfl, ?hy307⟩) (by first | assumption | exact hHeld) ?rest307
        case hy307 => ((intro w0 hSw; (try dsimp only at hSw); go_simp) <;> with_reducible rfl)
        (try simp only [Act.put, List.setIfInBounds_toArray, List.set_cons_zero, List.set_cons_succ])
        refine wpAnyH_ready (rs := [7]) (by kernel_rfl) (by simp) ?_
        refine AllReadyH.cons (o := { dst := some 23, op := _, type := _, pos := _, after := _, guard := _ }) rfl (fun K hK => ?_) ?_
        · go_simp
          refine (letterWorth_is 3 3 1 rfl (by omega) rfl _).mono ?_
          rintro e wy ⟨rfl, rfl⟩
          (try go_wp2_with fail)
          refine hK.out _ _ ?_ (fun hHeld308 => ?_)
          · (try dsimp only)
            all_goals (trivial)
          clear hK K
          (try clear hHeld)
          (try simp only [Act.put, List.setIfInBounds_toArray, List.set_cons_zero, List.set_cons_succ])
          refine wpAnyH_take (i := 8) (oi := { dst := some 24, op := _, type := _, pos := _, after := _, guard := _ }) (v := ?v309) rfl (by kernel_rfl) (by kernel_rfl) (by kernel_rfl) (fun _ _ _ h => h) (Or.inl ⟨by rfl, ?hy309⟩) (by first | assumption | exact hHeld308) ?rest309
          case hy309 => ((intro w0 hSw; (try dsimp only at hSw); go_simp) <;> with_reducible rfl)
          (try simp only [Act.put, List.setIfInBounds_toArray, List.set_cons_zero, List.set_cons_succ])
          refine wpAnyH_ready (rs := [9]) (by kernel_rfl) (by simp) ?_
          refine AllReadyH.cons (o := { dst := some 25, op := _, type := _, pos := _, after := _, guard := _ }) rfl (fun K hK => ?_) ?_
          · go_simp
            refine (rep_any _ 73 q rfl HQ.out _).mono ?_
            rintro e wz ⟨rfl, hbz⟩
            have HBZ := Lib.hid hbz
            clear hbz
            (try go_wp2_with fail)
            refine hK.out _ _ ?_ (fun hHeld310 => ?_)
            · (try dsimp only)
              all_goals (trivial)
            clear hK K
            (try clear hHeld308)
            (try simp only [Act.put, List.setIfInBounds_toArray, List.set_cons_zero, List.set_cons_succ])
            refine wpAnyH_take (i := 10) (oi := { dst := some 26, op := _, type := _, pos := _, after := _, guard := _ }) (v := ?v311) rfl (by kernel_rfl) (by kernel_rfl) (by kernel_rfl) (fun _ _ _ h => h) (Or.inl ⟨by rfl, ?hy311⟩) (by first | assumption | exact hHeld310) ?rest311
            case hy311 => ((intro w0 hSw; (try dsimp only at hSw); go_simp) <;> with_reducible rfl)
            (try simp only [Act.put, List.setIfInBounds_toArray, List.set_cons_zero, List.set_cons_succ])
            refine wpAnyH_take (i := 11) (oi := { dst := some 4, op := _, type := _, pos := _, after := _, guard := _ }) (v := ?v312) rfl (by kernel_rfl) (by kernel_rfl) (by kernel_rfl) (fun _ _ _ h => h) (Or.inl ⟨by rfl, ?hy312⟩) (by first | assumption | exact hHeld310) ?rest312
            case hy312 => ((intro w0 hSw; (try dsimp only at hSw); go_simp) <;> with_reducible rfl)
            (try simp only [Act.put, List.setIfInBounds_toArray, List.set_cons_zero, List.set_cons_succ])
            refine wpAnyH_done (by kernel_rfl) ?_ _
            go_wp2_with fail
            refine (letterWorth_is 3 3 1 rfl (by omega) rfl _).mono ?_
            rintro e wy ⟨rfl, rfl⟩
            go_wp2_with fail
            refine ⟨⟨4, m', u, by omega, rfl, rfl, rfl, HM2.out, HU.out, HBR.out.drew.trans (HBZ.out.mono HBR.out.size)⟩, ?_⟩
            simp [intOf]
          exact AllReadyH.nil
        exact AllReadyH.nil
    · obtain rfl : k = 4 := by omega
      have HT := Lib.hid ht
      clear ht hm
      go_wp2
      go_ret2
      exact ⟨by rw [HT.out]; rfl, HBR.out⟩
end Go.Proofs.Ytogplbnabffcfaa
