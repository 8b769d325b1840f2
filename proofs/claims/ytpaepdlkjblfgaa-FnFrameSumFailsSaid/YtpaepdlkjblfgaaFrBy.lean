/-
  A frame is changed by a number.
-/
import Derived.Test.YtpaepdlkjblfgaaFrFns
namespace Go.Proofs.Ytpaepdlkjblfgaa
open Go.RowKit

/-- what is left to be done from rod k on, p pushes behind it -/
def allP (s : Int) (ds : List Int) (k : Nat) (N p : Int) : Option (List Int × Int) := (Fr.allF s (ds.length - k) (ds.drop k) N).map fun q => (ds.take k ++ q.1, p + q.2)
theorem allP_zero (s : Int) (ds : List Int) (N : Int) : allP s ds 0 N 0 = Fr.all s ds N := by
  unfold allP Fr.all
  rw [List.drop_zero, Nat.sub_zero]
  cases Fr.allF s ds.length ds N <;> simp
theorem allP_done (s : Int) (ds : List Int) (k : Nat) (p : Int) : allP s ds k 0 p = some (ds, p) := by
  unfold allP
  cases h : ds.length - k with
  | zero => simp [Fr.allF]
  | succ m => simp [Fr.allF]
theorem chg_upper (s : Int) (ds : List Int) : ∀ g r n, Fr.chg s ds g = some (r, n) → 0 ≤ n ∧ n ≤ 2 * ds.length := by
  induction ds with
  | nil =>
    intro g r n h
    simp only [Fr.chg] at h
    split at h
    · simp at h; omega
    · cases h
  | cons d ds ih =>
    intro g r n h
    simp only [Fr.chg] at h
    split at h
    · simp at h; simp; omega
    · split at h
      · simp at h; have := cost_le d (d + s * g); simp; omega
      · rw [Option.map_eq_some_iff] at h
        obtain ⟨⟨r', n'⟩, hr, h⟩ := h
        simp at h
        have := ih _ _ _ hr
        have := cost_le d (d + s * g - 10 * s)
        simp; omega
theorem chgAt_upper {s : Int} {ds : List Int} {k : Nat} {g : Int} {R : List Int × Int} (h : chgAt s ds k g = some R) : 0 ≤ R.2 ∧ R.2 ≤ 2 * ds.length := by
  unfold chgAt at h
  rw [Option.map_eq_some_iff] at h
  obtain ⟨⟨r', n'⟩, hr, h⟩ := h
  subst h
  have := chg_upper _ _ _ _ _ hr
  simp at this ⊢
  omega
/-- one digit more -/
theorem allP_none {s : Int} {ds : List Int} {k : Nat} {N p : Int} (hk : k < ds.length) (hN : N ≠ 0) (h : chgAt s ds k (N % 10) = none) : allP s ds k N p = none := by
  obtain ⟨m, hm⟩ : ∃ m, ds.length - k = m + 1 := ⟨ds.length - k - 1, by omega⟩
  unfold allP
  rw [hm]
  simp only [Fr.allF, if_neg hN]
  unfold chgAt at h
  rw [Option.map_eq_none_iff] at h
  rw [h]
  rfl
theorem allP_some {s : Int} (hs : Fr.Sgn s) {ds es : List Int} {k : Nat} {N p n : Int} (hd : Fr.Digs ds) (hk : k < ds.length) (hN : N ≠ 0) (h : chgAt s ds k (N % 10) = some (es, n)) : allP s ds k N p = allP s es (k + 1) (N / 10) (p + n) := by
  obtain ⟨m, hm⟩ : ∃ m, ds.length - k = m + 1 := ⟨ds.length - k - 1, by omega⟩
  have h' := h
  unfold chgAt at h'
  rw [Option.map_eq_some_iff] at h'
  obtain ⟨⟨r, n'⟩, hr, h'⟩ := h'
  simp only [Prod.mk.injEq] at h'
  obtain ⟨rfl, rfl⟩ := h'
  obtain ⟨c1, c2, _⟩ := Fr.chg_some s hs _ _ _ _ (digs_drop hd k) (Int.emod_nonneg N (by omega)) (by have := Int.emod_lt_of_pos N (b := 10) (by omega); omega) hr
  rw [List.length_drop] at c2
  cases r with
  | nil => simp at c2; omega
  | cons d1 ds1 =>
    have hl : (ds.take k).length = k := by rw [List.length_take]; omega
    have e1 : (ds.take k ++ d1 :: ds1).length - (k + 1) = m := by simp at c2 ⊢; omega
    have e2 : (ds.take k ++ d1 :: ds1).drop (k + 1) = ds1 := by
      rw [List.drop_append, hl, List.drop_of_length_le (by omega), List.nil_append, show k + 1 - k = 1 from by omega]; rfl
    have e3 : (ds.take k ++ d1 :: ds1).take (k + 1) = ds.take k ++ [d1] := by
      rw [List.take_append, hl, List.take_of_length_le (by omega), show k + 1 - k = 1 from by omega]; rfl
    unfold allP
    rw [e1, e2, e3, hm]
    simp only [Fr.allF, if_neg hN, hr]
    cases Fr.allF s m ds1 (N / 10) with
    | none => rfl
    | some q => simp; omega

theorem chgAt_digs' {s : Int} (hs : Fr.Sgn s) {ds es : List Int} {k : Nat} {g n : Int} (hd : Fr.Digs ds) (h0 : 0 ≤ g) (h9 : g ≤ 9) (h : chgAt s ds k g = some (es, n)) : Fr.Digs es ∧ es.length = ds.length := by
  unfold chgAt at h
  rw [Option.map_eq_some_iff] at h
  obtain ⟨⟨r, n'⟩, hr, h'⟩ := h
  simp only [Prod.mk.injEq] at h'
  obtain ⟨rfl, rfl⟩ := h'
  obtain ⟨c1, c2, _⟩ := Fr.chg_some s hs _ _ _ _ (digs_drop hd k) h0 h9 hr
  rw [List.length_drop] at c2
  refine ⟨?_, ?_⟩
  · intro d hd'
    rcases List.mem_append.1 hd' with h | h
    · exact hd d (List.mem_of_mem_take h)
    · exact c1 d h
  · simp; omega

/-- a number in its range -/
def frBy (s : Int) (ds : List Int) (N : Int) : Option (List Int × Int) := if 0 ≤ N ∧ N < Fr.ten ds.length then Fr.all s ds N else none
theorem frBy_in {s : Int} {ds : List Int} {N : Int} (h : 0 ≤ N ∧ N < Fr.ten ds.length) : frBy s ds N = Fr.all s ds N := if_pos h
theorem frBy_out {s : Int} {ds : List Int} {N : Int} (h : ¬ (0 ≤ N ∧ N < Fr.ten ds.length)) : frBy s ds N = none := if_neg h

set_option maxRecDepth 100000 in
set_option maxHeartbeats 4000000 in
theorem changeByAdd_yes (A A' : Option Addr) (n c c' : Nat) (ds : List Int) (N : Int) (w : World) (hx : Ints w w.heap.size A n (HiL ds)) (hy : Ints w w.heap.size A' n (LoL ds)) (hds : Fr.Digs ds) (h1 : 1 ≤ n) (h6 : n ≤ 6) :
    Calls Try.prog 60 #[.agg #[.slice A n c, .slice A' n c'], .int .i64 N, .func (Fn.func 53) #[] #[]] w (FrRes w (frBy 1 ds N)) := by
  have hl : ds.length = n := by have := hx.len; rwa [HiL_length] at this
  have HL := Lib.hid hl
  have HX := Lib.hid hx
  have HY := Lib.hid hy
  have HD := Lib.hid hds
  obtain ⟨R, hR⟩ : ∃ R, frBy 1 ds N = R := ⟨_, rfl⟩
  rw [hR]
  have HE := Lib.hid hR
  have hten := ten_bd n h6
  obtain ⟨T, hT⟩ : ∃ T, Fr.ten n = T := ⟨_, rfl⟩
  rw [hT] at hten
  obtain ⟨t0, t1⟩ := hten
  have HT := Lib.hid hT
  clear hx hy hds hl hR hT
  have hpow : ∀ v, Calls Try.prog 56 #[.int .i64 (n : Int)] v fun e w' => e = .returned (.int .i64 T) ∧ v = w' := fun v => by rw [← HT.out]; exact powerOfTen_any n v h6
  have HP := Lib.hid hpow
  clear hpow
  go_enter Try.func60, Try.ntmps60
  go_wp2_with fail
  refine (rodsOf_yes A A' n c c' ds _ ((HX.out.al _).al _) ((HY.out.al _).al _) HD.out h1 h6).mono ?_
  rintro e w1 ⟨⟨g, h, rfl, hr⟩, hb1⟩
  have hz := ((Box.new (w.alloc (.cells #[.slice A n c, .slice A' n c'] 25)) (.slice none 0 0) (.slice none 0 0)).next hb1)
  have hz0 := hz.fst
  have hz1 := hz.snd
  have hf0 := hz.free 0
  have hf1 := hz.free 1
  have hsl := hr.slice
  rw [HL.out] at hsl
  simp only [World.size_alloc] at hz hz0 hz1 hf0 hf1
  have HZ := Lib.hid hz
  have HB := Lib.hid ((below_two w _ _).trans (hb1.mono (by simp; omega)))
  have HR := Lib.hid hr
  clear hz hb1 hr
  have hhl := HR.out.hl
  have hgb := HR.out.2.2.2.1
  simp only [World.size_alloc] at hgb
  by_cases hin : 0 ≤ N ∧ N < T
  · obtain ⟨N0, N1⟩ := hin
    have he := HE.out
    rw [frBy_in (by rw [HL.out, HT.out]; exact ⟨N0, N1⟩), ← allP_zero] at he
    have HA := Lib.hid he
    clear he
    go_wp2_with fail
    refine (HP.out _).mono ?_
    rintro e w2 ⟨rfl, rfl⟩
    go_wp2_with fail
    have HG := Lib.hid (World.grownBy.refl w1 (some h))
    go_loopw [1, 11, 12] (fun nv pv kv wr => ∃ (k : Nat) (M p : Int) (es : List Int), nv = .int .i64 M ∧ pv = .int .i64 p ∧ kv = .int .i64 (k : Int) ∧ k ≤ n ∧ 0 ≤ M ∧ M < Fr.ten (n - k) ∧ M ≤ 1000000 ∧ 0 ≤ p ∧ p ≤ 20 * k ∧ Rods wr (w.heap.size + 1 + 1) g h es ∧ Fr.Digs es ∧ es.length = n ∧ allP 1 es k M p = R ∧ w1.grownBy wr (some h)) (fun nv _ _ _ => (intOf nv).toNat)
    case atStart => exact ⟨0, N, 0, ds, rfl, rfl, rfl, by omega, N0, by rw [Nat.sub_zero, HT.out]; exact N1, by omega, by omega, by omega, by have := HR.out; simpa using this, HD.out, HL.out, HA.out, HG.out⟩
    case round =>
      clear HR HG HA hsl hz0 hz1 hf0 hf1
      obtain ⟨k, M, p, es, rfl, rfl, rfl, hk, M0, M1, M2, p0, p1, hr, hd, hl, hA, hg⟩ := hrel
      have HR := Lib.hid hr
      have HD2 := Lib.hid hd
      have HL2 := Lib.hid hl
      have HA := Lib.hid hA
      have HG := Lib.hid hg
      have HM := Lib.hid M1
      have hsl := hr.slice
      rw [hl] at hsl
      have HZ2 := Lib.hid (HZ.out.grown hg (by intro e; injection e with e; omega))
      have z0 := HZ2.out.fst
      have z1 := HZ2.out.snd
      have f0 := HZ2.out.free 0
      have f1 := HZ2.out.free 1
      have HB2 := Lib.hid (HB.out.grown hg HB.out.size (by rintro q ⟨⟩; omega))
      have hws := HB2.out.size
      clear hr hd hl hA hg M1
      by_cases hM : 0 < M
      · have hkn : k < n := by
          rcases (show k < n ∨ k = n from by omega) with h | rfl
          · exact h
          · have h9 := HM.out; rw [Nat.sub_self] at h9; have h10 : Fr.ten 0 = 1 := rfl; omega
        have m0 : 0 ≤ M % 10 := Int.emod_nonneg M (by omega)
        have m9 : M % 10 ≤ 9 := by have := Int.emod_lt_of_pos M (b := 10) (by omega); omega
        have hcall := add_any wr _ g h es n k (M % 10) HR.out HD2.out HL2.out h6 m0 m9 (by omega)
        obtain ⟨Q, hQ⟩ : ∃ Q, chgAt 1 es k (M % 10) = Q := ⟨_, rfl⟩
        rw [hQ] at hcall
        have HC := Lib.hid hcall
        have HQ := Lib.hid hQ
        clear hcall hQ
        rcases Q with _ | ⟨es0, n0⟩
        · have he := HA.out
          rw [allP_none (by rw [HL2.out]; exact hkn) (by omega) HQ.out] at he
          subst he
          go_wp2_with fail
          refine HC.out.mono ?_
          rintro e w2 ⟨⟨es, hr2, hd2, hl2, rfl, -⟩, hg2⟩
          have HZ3 := Lib.hid (HZ2.out.grown hg2 (by intro e; injection e with e; omega))
          have z30 := HZ3.out.fst
          have z31 := HZ3.out.snd
          have f30 := HZ3.out.free 0
          have f31 := HZ3.out.free 1
          have HB3 := Lib.hid (HB2.out.grown hg2 HB2.out.size (by rintro q ⟨⟩; omega))
          clear hr2 hg2 hl2 z0 z1 f0 f1
          go_wp2
          exact bodyPost_ret (v := .tuple #[.agg #[.slice none 0 0, .slice none 0 0], .int .i64 0, .bool false]) (by simp [results, Try.results60, go_sem, over_fst HZ3.out, over_snd HZ3.out]) rfl (FrRes.none_ (below_over HB3.out (by omega) _ _))
        · have hup := chgAt_upper HQ.out
          rw [HL2.out] at hup
          simp only at hup
          obtain ⟨u0, u1⟩ := hup
          have u2 : n0 ≤ 12 := by omega
          go_wp2_with fail
          refine HC.out.mono ?_
          rintro e w2 ⟨⟨es2, hr2, hd2, hl2, rfl, hes⟩, hg2⟩
          obtain rfl : es0 = es2 := hes _ rfl
          have HR3 := Lib.hid hr2
          have HD3 := Lib.hid hd2
          have HL3 := Lib.hid hl2
          have HG3 := Lib.hid (HG.out.trans hg2)
          clear hr2 hg2 hl2 hes hd2 z0 z1 f0 f1 u1
          go_wp2
          go_roundw
          case rel =>
            have hA := HA.out
            rw [allP_some (.inl rfl) HD2.out (by rw [HL2.out]; exact hkn) (by omega) HQ.out] at hA
            refine ⟨k + 1, M / 10, p + n0, es0, by go_num, by go_num, by go_num, by omega, by omega, ?_, by omega, by omega, by omega, HR3.out, HD3.out, HL3.out, hA, HG3.out⟩
            have h9 := HM.out
            rw [show n - k = n - (k + 1) + 1 from by omega, Fr.ten_succ] at h9
            omega
          case measure => simp [intOf]; omega
      · obtain rfl : M = 0 := by omega
        have he := HA.out
        rw [allP_done] at he
        subst he
        go_wp2_with fail
        refine (frame_any wr _ g h es n HR.out HL2.out HD2.out h6).mono ?_
        rintro e w3 ⟨⟨v, rfl, ho⟩, hb3⟩
        have hos := ho.mono (show w.heap.size + 2 ≤ wr.heap.size by have := HR.out.hl; omega)
        obtain ⟨A2, c2, A3, c3, rfl, -⟩ := ho
        have HO := Lib.hid hos
        have HZ3 := Lib.hid (HZ2.out.next hb3)
        have z30 := HZ3.out.fst
        have z31 := HZ3.out.snd
        have f30 := HZ3.out.free 0
        have f31 := HZ3.out.free 1
        have HB3 := Lib.hid (below_chain HB2.out hb3)
        clear hb3 hos z0 z1 f0 f1
        go_wp2
        refine bodyPost_ret (v := .tuple #[.agg #[.slice A2 es.length c2, .slice A3 es.length c3], .int .i64 p, .bool true]) (by simp [results, Try.results60, go_sem, over_fst HZ3.out, over_snd HZ3.out]) rfl ⟨⟨_, rfl, ?_⟩, below_over HB3.out (by omega) _ _⟩
        exact (HO.out.over (by omega) _ _).mono (by omega)
  · have he := HE.out
    rw [frBy_out (by rw [HL.out, HT.out]; exact hin)] at he
    subst he
    rcases (show N < 0 ∨ (0 ≤ N ∧ T ≤ N) from by omega) with q1 | ⟨q1, q2⟩
    · clear hin
      go_wp2
      exact bodyPost_ret (v := .tuple #[.agg #[.slice none 0 0, .slice none 0 0], .int .i64 0, .bool false]) (by simp [results, Try.results60, go_sem, over_fst HZ.out, over_snd HZ.out]) rfl (FrRes.none_ (below_over HB.out (by omega) _ _))
    · clear hin
      go_wp2_with fail
      refine (HP.out _).mono ?_
      rintro e w2 ⟨rfl, rfl⟩
      go_wp2
      exact bodyPost_ret (v := .tuple #[.agg #[.slice none 0 0, .slice none 0 0], .int .i64 0, .bool false]) (by simp [results, Try.results60, go_sem, over_fst HZ.out, over_snd HZ.out]) rfl (FrRes.none_ (below_over HB.out (by omega) _ _))
set_option maxRecDepth 100000 in
set_option maxHeartbeats 2000000 in
theorem changeByAdd_no (A A' : Option Addr) (n m c c' : Nat) (hs ls : List Int) (N : Int) (w : World) (hx : Ints w w.heap.size A n hs) (hy : Ints w w.heap.size A' m ls) (hno : ¬ FrOk hs ls) :
    Calls Try.prog 60 #[.agg #[.slice A n c, .slice A' m c'], .int .i64 N, .func (Fn.func 53) #[] #[]] w (FrRes w none) := by
  have HX := Lib.hid hx
  have HY := Lib.hid hy
  have HN := Lib.hid hno
  clear hx hy hno
  go_enter Try.func60, Try.ntmps60
  go_wp2_with fail
  refine (rodsOf_no A A' n m c c' hs ls _ ((HX.out.al _).al _) ((HY.out.al _).al _) HN.out).mono ?_
  rintro e w1 ⟨rfl, hb1⟩
  have hz := ((Box.new (w.alloc (.cells #[.slice A n c, .slice A' m c'] 25)) (.slice none 0 0) (.slice none 0 0)).next hb1)
  have hz0 := hz.fst
  have hz1 := hz.snd
  have hf0 := hz.free 0
  have hf1 := hz.free 1
  simp only [World.size_alloc] at hz hz0 hz1 hf0 hf1
  have HZ := Lib.hid hz
  have HB := Lib.hid ((below_two w _ _).trans (hb1.mono (by simp; omega)))
  clear hz hb1
  go_wp2
  exact bodyPost_ret (v := .tuple #[.agg #[.slice none 0 0, .slice none 0 0], .int .i64 0, .bool false]) (by simp [results, Try.results60, go_sem, over_fst HZ.out, over_snd HZ.out]) rfl (FrRes.none_ (below_over HB.out (by omega) _ _))

theorem changeByAdd_any (A A' : Option Addr) (n m c c' : Nat) (hs ls : List Int) (N : Int) (R : Option (List Int × Int)) (w : World) (hx : Ints w w.heap.size A n hs) (hy : Ints w w.heap.size A' m ls) (hR : frOf hs ls (fun ds => frBy 1 ds N) R) :
    Calls Try.prog 60 #[.agg #[.slice A n c, .slice A' m c'], .int .i64 N, .func (Fn.func 53) #[] #[]] w (FrRes w R) := by
  rcases hR with ⟨hno, rfl⟩ | ⟨ds, hd, rfl, rfl, h1, h6, rfl⟩
  · exact changeByAdd_no A A' n m c c' hs ls N w hx hy hno
  · have e1 := hx.len
    have e2 := hy.len
    rw [HiL_length] at e1
    rw [LoL_length] at e2
    subst e1
    subst e2
    exact changeByAdd_yes A A' _ c c' ds N w hx hy hd h1 h6
set_option maxRecDepth 100000 in
set_option maxHeartbeats 2000000 in
theorem FrameSum_any (A A' : Option Addr) (n m c c' : Nat) (hs ls : List Int) (N : Int) (R : Option (List Int × Int)) (w : World) (hx : Ints w w.heap.size A n hs) (hy : Ints w w.heap.size A' m ls) (hR : frOf hs ls (fun ds => frBy 1 ds N) R) :
    Calls Try.prog 24 #[.agg #[.slice A n c, .slice A' m c'], .int .i64 N] w (FrRes w R) := by
  have HX := Lib.hid hx
  have HY := Lib.hid hy
  have HE := Lib.hid hR
  clear hx hy hR
  go_enter Try.func24, Try.ntmps24
  go_wp2_with fail
  refine (changeByAdd_any A A' n m c c' hs ls N R _ ((HX.out.al _).al _) ((HY.out.al _).al _) HE.out).mono ?_
  rintro e w1 ⟨⟨v, rfl, ho⟩, hb1⟩
  have hz := ((Box.new (w.alloc (.cells #[.slice A n c, .slice A' m c'] 25)) (.slice none 0 0) (.slice none 0 0)).next hb1)
  have hz0 := hz.fst
  have hz1 := hz.snd
  have hf0 := hz.free 0
  have hf1 := hz.free 1
  simp only [World.size_alloc] at hz hz0 hz1 hf0 hf1 ho
  have HZ := Lib.hid hz
  have HB := Lib.hid ((below_two w _ _).trans (hb1.mono (by simp; omega)))
  have HO := Lib.hid ho
  obtain ⟨A2, c2, A3, c3, rfl, -⟩ := ho
  clear hz hb1
  go_wp2
  refine bodyPost_ret (v := .tuple #[.agg #[.slice A2 (resL R).length c2, .slice A3 (resL R).length c3], .int .i64 (resN R), .bool R.isSome]) (by simp [results, Try.results24, go_sem, over_fst HZ.out, over_snd HZ.out]) rfl ⟨⟨_, rfl, ?_⟩, below_over HB.out (by omega) _ _⟩
  exact (HO.out.over (by omega) _ _).mono (by omega)
set_option maxRecDepth 100000 in
set_option maxHeartbeats 4000000 in
theorem changeByTake_yes (A A' : Option Addr) (n c c' : Nat) (ds : List Int) (N : Int) (w : World) (hx : Ints w w.heap.size A n (HiL ds)) (hy : Ints w w.heap.size A' n (LoL ds)) (hds : Fr.Digs ds) (h1 : 1 ≤ n) (h6 : n ≤ 6) :
    Calls Try.prog 60 #[.agg #[.slice A n c, .slice A' n c'], .int .i64 N, .func (Fn.func 61) #[] #[]] w (FrRes w (frBy (-1) ds N)) := by
  have hl : ds.length = n := by have := hx.len; rwa [HiL_length] at this
  have HL := Lib.hid hl
  have HX := Lib.hid hx
  have HY := Lib.hid hy
  have HD := Lib.hid hds
  obtain ⟨R, hR⟩ : ∃ R, frBy (-1) ds N = R := ⟨_, rfl⟩
  rw [hR]
  have HE := Lib.hid hR
  have hten := ten_bd n h6
  obtain ⟨T, hT⟩ : ∃ T, Fr.ten n = T := ⟨_, rfl⟩
  rw [hT] at hten
  obtain ⟨t0, t1⟩ := hten
  have HT := Lib.hid hT
  clear hx hy hds hl hR hT
  have hpow : ∀ v, Calls Try.prog 56 #[.int .i64 (n : Int)] v fun e w' => e = .returned (.int .i64 T) ∧ v = w' := fun v => by rw [← HT.out]; exact powerOfTen_any n v h6
  have HP := Lib.hid hpow
  clear hpow
  go_enter Try.func60, Try.ntmps60
  go_wp2_with fail
  refine (rodsOf_yes A A' n c c' ds _ ((HX.out.al _).al _) ((HY.out.al _).al _) HD.out h1 h6).mono ?_
  rintro e w1 ⟨⟨g, h, rfl, hr⟩, hb1⟩
  have hz := ((Box.new (w.alloc (.cells #[.slice A n c, .slice A' n c'] 25)) (.slice none 0 0) (.slice none 0 0)).next hb1)
  have hz0 := hz.fst
  have hz1 := hz.snd
  have hf0 := hz.free 0
  have hf1 := hz.free 1
  have hsl := hr.slice
  rw [HL.out] at hsl
  simp only [World.size_alloc] at hz hz0 hz1 hf0 hf1
  have HZ := Lib.hid hz
  have HB := Lib.hid ((below_two w _ _).trans (hb1.mono (by simp; omega)))
  have HR := Lib.hid hr
  clear hz hb1 hr
  have hhl := HR.out.hl
  have hgb := HR.out.2.2.2.1
  simp only [World.size_alloc] at hgb
  by_cases hin : 0 ≤ N ∧ N < T
  · obtain ⟨N0, N1⟩ := hin
    have he := HE.out
    rw [frBy_in (by rw [HL.out, HT.out]; exact ⟨N0, N1⟩), ← allP_zero] at he
    have HA := Lib.hid he
    clear he
    go_wp2_with fail
    refine (HP.out _).mono ?_
    rintro e w2 ⟨rfl, rfl⟩
    go_wp2_with fail
    have HG := Lib.hid (World.grownBy.refl w1 (some h))
    go_loopw [1, 11, 12] (fun nv pv kv wr => ∃ (k : Nat) (M p : Int) (es : List Int), nv = .int .i64 M ∧ pv = .int .i64 p ∧ kv = .int .i64 (k : Int) ∧ k ≤ n ∧ 0 ≤ M ∧ M < Fr.ten (n - k) ∧ M ≤ 1000000 ∧ 0 ≤ p ∧ p ≤ 20 * k ∧ Rods wr (w.heap.size + 1 + 1) g h es ∧ Fr.Digs es ∧ es.length = n ∧ allP (-1) es k M p = R ∧ w1.grownBy wr (some h)) (fun nv _ _ _ => (intOf nv).toNat)
    case atStart => exact ⟨0, N, 0, ds, rfl, rfl, rfl, by omega, N0, by rw [Nat.sub_zero, HT.out]; exact N1, by omega, by omega, by omega, by have := HR.out; simpa using this, HD.out, HL.out, HA.out, HG.out⟩
    case round =>
      clear HR HG HA hsl hz0 hz1 hf0 hf1
      obtain ⟨k, M, p, es, rfl, rfl, rfl, hk, M0, M1, M2, p0, p1, hr, hd, hl, hA, hg⟩ := hrel
      have HR := Lib.hid hr
      have HD2 := Lib.hid hd
      have HL2 := Lib.hid hl
      have HA := Lib.hid hA
      have HG := Lib.hid hg
      have HM := Lib.hid M1
      have hsl := hr.slice
      rw [hl] at hsl
      have HZ2 := Lib.hid (HZ.out.grown hg (by intro e; injection e with e; omega))
      have z0 := HZ2.out.fst
      have z1 := HZ2.out.snd
      have f0 := HZ2.out.free 0
      have f1 := HZ2.out.free 1
      have HB2 := Lib.hid (HB.out.grown hg HB.out.size (by rintro q ⟨⟩; omega))
      have hws := HB2.out.size
      clear hr hd hl hA hg M1
      by_cases hM : 0 < M
      · have hkn : k < n := by
          rcases (show k < n ∨ k = n from by omega) with h | rfl
          · exact h
          · have h9 := HM.out; rw [Nat.sub_self] at h9; have h10 : Fr.ten 0 = 1 := rfl; omega
        have m0 : 0 ≤ M % 10 := Int.emod_nonneg M (by omega)
        have m9 : M % 10 ≤ 9 := by have := Int.emod_lt_of_pos M (b := 10) (by omega); omega
        have hcall := take_any wr _ g h es n k (M % 10) HR.out HD2.out HL2.out h6 m0 m9 (by omega)
        obtain ⟨Q, hQ⟩ : ∃ Q, chgAt (-1) es k (M % 10) = Q := ⟨_, rfl⟩
        rw [hQ] at hcall
        have HC := Lib.hid hcall
        have HQ := Lib.hid hQ
        clear hcall hQ
        rcases Q with _ | ⟨es0, n0⟩
        · have he := HA.out
          rw [allP_none (by rw [HL2.out]; exact hkn) (by omega) HQ.out] at he
          subst he
          go_wp2_with fail
          refine HC.out.mono ?_
          rintro e w2 ⟨⟨es, hr2, hd2, hl2, rfl, -⟩, hg2⟩
          have HZ3 := Lib.hid (HZ2.out.grown hg2 (by intro e; injection e with e; omega))
          have z30 := HZ3.out.fst
          have z31 := HZ3.out.snd
          have f30 := HZ3.out.free 0
          have f31 := HZ3.out.free 1
          have HB3 := Lib.hid (HB2.out.grown hg2 HB2.out.size (by rintro q ⟨⟩; omega))
          clear hr2 hg2 hl2 z0 z1 f0 f1
          go_wp2
          exact bodyPost_ret (v := .tuple #[.agg #[.slice none 0 0, .slice none 0 0], .int .i64 0, .bool false]) (by simp [results, Try.results60, go_sem, over_fst HZ3.out, over_snd HZ3.out]) rfl (FrRes.none_ (below_over HB3.out (by omega) _ _))
        · have hup := chgAt_upper HQ.out
          rw [HL2.out] at hup
          simp only at hup
          obtain ⟨u0, u1⟩ := hup
          have u2 : n0 ≤ 12 := by omega
          go_wp2_with fail
          refine HC.out.mono ?_
          rintro e w2 ⟨⟨es2, hr2, hd2, hl2, rfl, hes⟩, hg2⟩
          obtain rfl : es0 = es2 := hes _ rfl
          have HR3 := Lib.hid hr2
          have HD3 := Lib.hid hd2
          have HL3 := Lib.hid hl2
          have HG3 := Lib.hid (HG.out.trans hg2)
          clear hr2 hg2 hl2 hes hd2 z0 z1 f0 f1 u1
          go_wp2
          go_roundw
          case rel =>
            have hA := HA.out
            rw [allP_some (.inr rfl) HD2.out (by rw [HL2.out]; exact hkn) (by omega) HQ.out] at hA
            refine ⟨k + 1, M / 10, p + n0, es0, by go_num, by go_num, by go_num, by omega, by omega, ?_, by omega, by omega, by omega, HR3.out, HD3.out, HL3.out, hA, HG3.out⟩
            have h9 := HM.out
            rw [show n - k = n - (k + 1) + 1 from by omega, Fr.ten_succ] at h9
            omega
          case measure => simp [intOf]; omega
      · obtain rfl : M = 0 := by omega
        have he := HA.out
        rw [allP_done] at he
        subst he
        go_wp2_with fail
        refine (frame_any wr _ g h es n HR.out HL2.out HD2.out h6).mono ?_
        rintro e w3 ⟨⟨v, rfl, ho⟩, hb3⟩
        have hos := ho.mono (show w.heap.size + 2 ≤ wr.heap.size by have := HR.out.hl; omega)
        obtain ⟨A2, c2, A3, c3, rfl, -⟩ := ho
        have HO := Lib.hid hos
        have HZ3 := Lib.hid (HZ2.out.next hb3)
        have z30 := HZ3.out.fst
        have z31 := HZ3.out.snd
        have f30 := HZ3.out.free 0
        have f31 := HZ3.out.free 1
        have HB3 := Lib.hid (below_chain HB2.out hb3)
        clear hb3 hos z0 z1 f0 f1
        go_wp2
        refine bodyPost_ret (v := .tuple #[.agg #[.slice A2 es.length c2, .slice A3 es.length c3], .int .i64 p, .bool true]) (by simp [results, Try.results60, go_sem, over_fst HZ3.out, over_snd HZ3.out]) rfl ⟨⟨_, rfl, ?_⟩, below_over HB3.out (by omega) _ _⟩
        exact (HO.out.over (by omega) _ _).mono (by omega)
  · have he := HE.out
    rw [frBy_out (by rw [HL.out, HT.out]; exact hin)] at he
    subst he
    rcases (show N < 0 ∨ (0 ≤ N ∧ T ≤ N) from by omega) with q1 | ⟨q1, q2⟩
    · clear hin
      go_wp2
      exact bodyPost_ret (v := .tuple #[.agg #[.slice none 0 0, .slice none 0 0], .int .i64 0, .bool false]) (by simp [results, Try.results60, go_sem, over_fst HZ.out, over_snd HZ.out]) rfl (FrRes.none_ (below_over HB.out (by omega) _ _))
    · clear hin
      go_wp2_with fail
      refine (HP.out _).mono ?_
      rintro e w2 ⟨rfl, rfl⟩
      go_wp2
      exact bodyPost_ret (v := .tuple #[.agg #[.slice none 0 0, .slice none 0 0], .int .i64 0, .bool false]) (by simp [results, Try.results60, go_sem, over_fst HZ.out, over_snd HZ.out]) rfl (FrRes.none_ (below_over HB.out (by omega) _ _))
set_option maxRecDepth 100000 in
set_option maxHeartbeats 2000000 in
theorem changeByTake_no (A A' : Option Addr) (n m c c' : Nat) (hs ls : List Int) (N : Int) (w : World) (hx : Ints w w.heap.size A n hs) (hy : Ints w w.heap.size A' m ls) (hno : ¬ FrOk hs ls) :
    Calls Try.prog 60 #[.agg #[.slice A n c, .slice A' m c'], .int .i64 N, .func (Fn.func 61) #[] #[]] w (FrRes w none) := by
  have HX := Lib.hid hx
  have HY := Lib.hid hy
  have HN := Lib.hid hno
  clear hx hy hno
  go_enter Try.func60, Try.ntmps60
  go_wp2_with fail
  refine (rodsOf_no A A' n m c c' hs ls _ ((HX.out.al _).al _) ((HY.out.al _).al _) HN.out).mono ?_
  rintro e w1 ⟨rfl, hb1⟩
  have hz := ((Box.new (w.alloc (.cells #[.slice A n c, .slice A' m c'] 25)) (.slice none 0 0) (.slice none 0 0)).next hb1)
  have hz0 := hz.fst
  have hz1 := hz.snd
  have hf0 := hz.free 0
  have hf1 := hz.free 1
  simp only [World.size_alloc] at hz hz0 hz1 hf0 hf1
  have HZ := Lib.hid hz
  have HB := Lib.hid ((below_two w _ _).trans (hb1.mono (by simp; omega)))
  clear hz hb1
  go_wp2
  exact bodyPost_ret (v := .tuple #[.agg #[.slice none 0 0, .slice none 0 0], .int .i64 0, .bool false]) (by simp [results, Try.results60, go_sem, over_fst HZ.out, over_snd HZ.out]) rfl (FrRes.none_ (below_over HB.out (by omega) _ _))

theorem changeByTake_any (A A' : Option Addr) (n m c c' : Nat) (hs ls : List Int) (N : Int) (R : Option (List Int × Int)) (w : World) (hx : Ints w w.heap.size A n hs) (hy : Ints w w.heap.size A' m ls) (hR : frOf hs ls (fun ds => frBy (-1) ds N) R) :
    Calls Try.prog 60 #[.agg #[.slice A n c, .slice A' m c'], .int .i64 N, .func (Fn.func 61) #[] #[]] w (FrRes w R) := by
  rcases hR with ⟨hno, rfl⟩ | ⟨ds, hd, rfl, rfl, h1, h6, rfl⟩
  · exact changeByTake_no A A' n m c c' hs ls N w hx hy hno
  · have e1 := hx.len
    have e2 := hy.len
    rw [HiL_length] at e1
    rw [LoL_length] at e2
    subst e1
    subst e2
    exact changeByTake_yes A A' _ c c' ds N w hx hy hd h1 h6
set_option maxRecDepth 100000 in
set_option maxHeartbeats 2000000 in
theorem FrameLess_any (A A' : Option Addr) (n m c c' : Nat) (hs ls : List Int) (N : Int) (R : Option (List Int × Int)) (w : World) (hx : Ints w w.heap.size A n hs) (hy : Ints w w.heap.size A' m ls) (hR : frOf hs ls (fun ds => frBy (-1) ds N) R) :
    Calls Try.prog 25 #[.agg #[.slice A n c, .slice A' m c'], .int .i64 N] w (FrRes w R) := by
  have HX := Lib.hid hx
  have HY := Lib.hid hy
  have HE := Lib.hid hR
  clear hx hy hR
  go_enter Try.func25, Try.ntmps25
  go_wp2_with fail
  refine (changeByTake_any A A' n m c c' hs ls N R _ ((HX.out.al _).al _) ((HY.out.al _).al _) HE.out).mono ?_
  rintro e w1 ⟨⟨v, rfl, ho⟩, hb1⟩
  have hz := ((Box.new (w.alloc (.cells #[.slice A n c, .slice A' m c'] 25)) (.slice none 0 0) (.slice none 0 0)).next hb1)
  have hz0 := hz.fst
  have hz1 := hz.snd
  have hf0 := hz.free 0
  have hf1 := hz.free 1
  simp only [World.size_alloc] at hz hz0 hz1 hf0 hf1 ho
  have HZ := Lib.hid hz
  have HB := Lib.hid ((below_two w _ _).trans (hb1.mono (by simp; omega)))
  have HO := Lib.hid ho
  obtain ⟨A2, c2, A3, c3, rfl, -⟩ := ho
  clear hz hb1
  go_wp2
  refine bodyPost_ret (v := .tuple #[.agg #[.slice A2 (resL R).length c2, .slice A3 (resL R).length c3], .int .i64 (resN R), .bool R.isSome]) (by simp [results, Try.results25, go_sem, over_fst HZ.out, over_snd HZ.out]) rfl ⟨⟨_, rfl, ?_⟩, below_over HB.out (by omega) _ _⟩
  exact (HO.out.over (by omega) _ _).mono (by omega)
theorem frOf_ex (hs ls : List Int) (f : List Int → Option (List Int × Int)) : ∃ R, frOf hs ls f R := by
  by_cases h : FrOk hs ls
  · obtain ⟨ds, h1, h2, h3, h4, h5⟩ := h
    exact ⟨f ds, .inr ⟨ds, h1, h2, h3, h4, h5, rfl⟩⟩
  · exact ⟨none, .inl ⟨h, rfl⟩⟩
theorem frAt_digs {s : Int} (hs : Fr.Sgn s) {ds : List Int} {k x : Int} {R : List Int × Int} (hd : Fr.Digs ds) (h : frAt s ds k x = some R) : Fr.Digs R.1 ∧ R.1.length = ds.length := by
  unfold frAt at h
  split at h
  · next hk => exact chgAt_digs' hs hd hk.2.2.1 hk.2.2.2 (by rw [h])
  · cases h
theorem frBy_digs {s : Int} (hs : Fr.Sgn s) {ds : List Int} {N : Int} {R : List Int × Int} (hd : Fr.Digs ds) (h : frBy s ds N = some R) : Fr.Digs R.1 ∧ R.1.length = ds.length := by
  unfold frBy at h
  split at h
  · next hk =>
    obtain ⟨a1, a2, _⟩ := Fr.all_some s hs ds N R.1 R.2 hd hk.1 h
    exact ⟨a1, a2⟩
  · cases h
theorem resL_len_at {s : Int} (hsg : Fr.Sgn s) {hs ls : List Int} {k x : Int} {R : Option (List Int × Int)} (h : frOf hs ls (fun ds => frAt s ds k x) R) : (resL R).length ≤ 6 := by
  rcases h with ⟨_, rfl⟩ | ⟨ds, h1, _, _, _, h5, h6⟩
  · simp [resL]
  · cases R with
    | none => simp [resL]
    | some p => have := (frAt_digs hsg h1 h6.symm).2; simp [resL]; omega
theorem resL_len_by {s : Int} (hsg : Fr.Sgn s) {hs ls : List Int} {N : Int} {R : Option (List Int × Int)} (h : frOf hs ls (fun ds => frBy s ds N) R) : (resL R).length ≤ 6 := by
  rcases h with ⟨_, rfl⟩ | ⟨ds, h1, _, _, _, h5, h6⟩
  · simp [resL]
  · cases R with
    | none => simp [resL]
    | some p => have := (frBy_digs hsg h1 h6.symm).2; simp [resL]; omega
end Go.Proofs.Ytpaepdlkjblfgaa
