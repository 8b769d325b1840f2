/-
  The program's TalliesSettle.
-/
import Derived.Test.YtogplbnabffcfaaTaSettle
namespace Go.Proofs.Ytogplbnabffcfaa
open Go.RowKit
set_option linter.unusedSimpArgs false

/-- a payment's tally -/
def payT (t : Nat × Nat × Int) : Tl := tallyOf t.1 t.2.1 t.2.2
def SettlePost (w : World) (ts : List Tl) (e : Ending) (w' : World) : Prop :=
  ((∃ out, okL ts = true ∧ Ta.settle 5 (bal (ts.map debtOf)) = some out ∧ ∃ A c, e = .returned (.tuple #[.slice A out.length c, .bool true]) ∧ OwnT w' w.heap.size A out.length c (out.map payT)) ∨
    ((okL ts = false ∨ Ta.settle 5 (bal (ts.map debtOf)) = none) ∧ e = .returned (.tuple #[.slice none 0 0, .bool false]))) ∧ Below w.heap.size w w'
/-- behind the first loop: both heaps hold the balances up to person k -/
def Filled (w wr : World) (B g h : Nat) (b : List Int) (k : Nat) : Prop :=
  ∃ A n c xs A2 n2 c2 ys, Lay wr B g h A n c xs A2 n2 c2 ys ∧ Ta.Holds (Ta.owe b) k xs ∧ Ta.Heap xs ∧ Ta.Holds (Ta.claim b) k ys ∧ Ta.Heap ys ∧ Below B w wr
theorem lay_start {w1 : World} (B : Nat) (hB : B ≤ w1.heap.size) :
    Lay ((w1.alloc (.cells #[.slice none 0 0] 47)).alloc (.cells #[.slice none 0 0] 47)) B w1.heap.size (w1.heap.size + 1) none 0 0 [] none 0 0 [] := by
  refine ⟨⟨(Blk.new _ _ _).alloc _, OwnR.nil _ _ _ _, fun k hk => (by cases hk)⟩, ⟨?_, OwnR.nil _ _ _ _, fun k hk => (by cases hk)⟩, hB, by omega, by omega, fun k hk => (by cases hk), fun k hk => (by cases hk), fun k hk => (by cases hk)⟩
  have := Blk.new (w1.alloc (.cells #[.slice none 0 0] 47)) #[.slice none 0 0] 47
  rw [World.size_alloc] at this
  exact this
/-- in the second loop: the tallies so far, and what both heaps still hold -/
def Settling (w wr : World) (B g h : Nat) (b0 : List Int) (sv : Value) : Prop :=
  ∃ (b : List Int) (f : Nat) (out : List (Nat × Nat × Int)) (A : Option Addr) (n c : Nat) (xs : List (Nat × Int)) (A2 : Option Addr) (n2 c2 : Nat) (ys : List (Nat × Int)) (AT : Option Addr) (cT : Nat),
    sv = .slice AT out.length cT ∧ Ta.Todo b0 f b out ∧ Ta.Bd 432000 b ∧ Ta.St b xs ys ∧ Lay wr B g h A n c xs A2 n2 c2 ys ∧ OwnT wr B AT out.length cT (out.map payT) ∧ Sep g h A n c A2 n2 c2 (.slice AT out.length cT) ∧ Below B w wr
def rowLen : Value → Nat
  | .slice _ n _ => n
  | _ => 0
theorem neg_in {u : Int} (h : -432000 ≤ u ∧ u ≤ 432000) : IntKind.i64.wrap (-u) = -u := IntWalk.i64_in _ (by omega)
set_option maxRecDepth 100000 in
set_option maxHeartbeats 1000000 in
theorem TalliesSettle_any (A : Option Addr) (n c : Nat) (ts : List Tl) (w : World) (hr : Tals w w.heap.size A n ts) (hsm : Small ts) : Calls Try.prog 7 #[.slice A n c] w (SettlePost w ts) := by
  go_enter Try.func7, Try.ntmps7
  go_wp2_with fail
  refine (debtsOf_any A n c ts w hr hsm).mono ?_
  rintro e w1 ⟨⟨hok, A1, c1, rfl, ho⟩ | ⟨hno, rfl⟩, hb⟩
  rotate_left
  · have HB := Lib.hid hb
    have HNO := Lib.hid hno
    clear hno hb hr hsm
    go_wp2
    go_ret2
    exact ⟨.inr ⟨.inl HNO.out, rfl⟩, HB.out⟩
  obtain ⟨b, hbb⟩ : ∃ b, bal (ts.map debtOf) = b := ⟨_, rfl⟩
  have hF := fair_of hok
  obtain ⟨hbal, hbd⟩ := bal_ok hF
  have hbl := bal_length (ts.map debtOf)
  rw [hbb] at hbal hbd hbl
  have HPS := Lib.hid (show ∀ e w', (((∃ out, Ta.settle 5 b = some out ∧ ∃ A c, e = .returned (.tuple #[.slice A out.length c, .bool true]) ∧ OwnT w' w.heap.size A out.length c (out.map payT)) ∨
    (Ta.settle 5 b = none ∧ e = .returned (.tuple #[.slice none 0 0, .bool false]))) ∧ Below w.heap.size w w') → SettlePost w ts e w' from fun e w' h => by
      unfold SettlePost
      rw [hbb]
      rcases h with ⟨⟨out, h1, h2⟩ | ⟨h1, h2⟩, h3⟩
      · exact ⟨.inl ⟨out, hok, h1, h2⟩, h3⟩
      · exact ⟨.inr ⟨.inr h1, h2⟩, h3⟩)
  obtain ⟨W, hW⟩ : ∃ W, (w1.alloc (.cells #[.slice none 0 0] 47)).alloc (.cells #[.slice none 0 0] 47) = W := ⟨_, rfl⟩
  have hL := lay_start w.heap.size hb.size
  rw [hW] at hL
  have hbW : Below w1.heap.size w1 W := by rw [← hW]; exact ((Below.refl _ _).alloc (Nat.le_refl _) _).alloc (by simp) _
  have HD := Lib.hid (ho.dbs.next hbW)
  have HB := Lib.hid (hb.trans (hbW.mono hb.size))
  have HL0 := Lib.hid hL
  have HW := Lib.hid hW
  have HF := Lib.hid hF
  have HBB := Lib.hid hbb
  have HBAL := Lib.hid hbal
  have HBD := Lib.hid hbd
  clear hok hF hbb hbal hbd hW hL hbW ho hb hr hsm
  go_wp2_with fail
  rw [HW.out]
  refine (balances_any A1 n c1 (ts.map debtOf) W HD.out HF.out).mono ?_
  rintro e w2 ⟨rfl, hb2⟩
  rw [HBB.out]
  have HB2 := Lib.hid (HB.out.trans (hb2.mono HB.out.size))
  have HL2 := Lib.hid (HL0.out.next hb2)
  clear hb2
  go_wp2_with fail
  go_loopw [25] (fun iv wr => ∃ (k : Nat), k ≤ 5 ∧ iv = .int .i64 (k : Int) ∧ Filled w wr w.heap.size w1.heap.size (w1.heap.size + 1) b k) (fun iv _ => 5 - (intOf iv).toNat)
  case atStart => exact ⟨0, by omega, rfl, none, 0, 0, [], none, 0, 0, [], HL2.out, Ta.Holds.zero _, trivial, Ta.Holds.zero _, trivial, HB2.out⟩
  case round =>
    obtain ⟨k, hk, rfl, hfl⟩ := hrel
    have HFL := Lib.hid hfl
    clear hfl
    by_cases hlt : k < 5
    · obtain ⟨u, hu⟩ : ∃ u, b[k]? = some u := ⟨_, List.getElem?_eq_getElem (by omega)⟩
      have hix := run_index_five b k u hbl hu
      have hgu : b.getD k 0 = u := by rw [List.getD_eq_getElem?_getD, hu]; rfl
      have hub := HBD.out k
      rw [hgu] at hub
      have hng := neg_in hub
      have HGU := Lib.hid hgu
      clear hu hgu
      obtain ⟨A3, n3, c3, xs, A4, n4, c4, ys, hL3, hx, hhx, hy, hhy, hb3⟩ := HFL.out
      have lx : n3 ≤ 4 := by rw [← hL3.one.len]; have := hx.len; omega
      have ly : n4 ≤ 4 := by rw [← hL3.two.len]; have := hy.len; omega
      have hxk : Ta.owe b k = -u := by unfold Ta.owe; rw [HGU.out]
      have hyk : Ta.claim b k = u := HGU.out
      have hX := hx.putL hhx (by omega)
      have hY := hy.putL hhy (by omega)
      rw [hxk] at hX
      rw [hyk] at hY
      have HL3 := Lib.hid hL3
      have HX := Lib.hid hX
      have HY := Lib.hid hY
      have HB3 := Lib.hid hb3
      clear hL3 hx hhx hy hhy hb3 hX hY hxk hyk
      go_wp2_with fail
      refine (put_any wr w.heap.size w1.heap.size n3 c3 A3 xs (k, -u) HL3.out.one HB3.out.size lx).mono ?_
      rintro e w3 ⟨⟨v3, rfl⟩, hP⟩
      obtain ⟨A5, c5, hL4, hb4, _, _⟩ := HL3.out.put1 hP
      have HL4 := Lib.hid hL4
      have HB4 := Lib.hid (HB3.out.trans hb4)
      clear hP hL4 hb4
      go_wp2_with fail
      refine (put_any w3 w.heap.size (w1.heap.size + 1) n4 c4 A4 ys (k, u) HL4.out.two HB4.out.size ly).mono ?_
      rintro e w4 ⟨⟨v4, rfl⟩, hP⟩
      obtain ⟨A6, c6, hL5, hb5, _, _⟩ := HL4.out.put2 hP
      have HFI := Lib.hid (show Filled w w4 w.heap.size w1.heap.size (w1.heap.size + 1) b (k + 1) from ⟨A5, _, c5, _, A6, _, c6, _, hL5, HX.out.1, HX.out.2, HY.out.1, HY.out.2, HB4.out.trans hb5⟩)
      clear hP hL5 hb5
      go_wp2_with fail
      exact ⟨⟨k + 1, by omega, by go_num, HFI.out⟩, by simp [intOf]; omega⟩
    · have HFL5 := Lib.hid (show Filled w wr w.heap.size w1.heap.size (w1.heap.size + 1) b 5 from by have := HFL.out; rwa [show k = 5 from by omega] at this)
      go_wp2_with fail
      obtain ⟨A3, n3, c3, xs, A4, n4, c4, ys, hL3, hx, hhx, hy, hhy, hb3⟩ := HFL5.out
      have hST : Settling w (wr.alloc (.cells #[] 33)) w.heap.size w1.heap.size (w1.heap.size + 1) b (.slice (some ⟨wr.heap.size, 0, none⟩) 0 0) := by
        have hbn := (Below.refl wr.heap.size wr).alloc (Nat.le_refl _) (.cells #[] 33)
        refine ⟨b, 5, [], A3, n3, c3, xs, A4, n4, c4, ys, _, _, rfl, Ta.Todo.start hbl, HBD.out, ⟨HBAL.out, hhx, hhy, hx, hy⟩, hL3.next hbn, lit_nil_t wr _ hb3.size, ?_, hb3.trans (hbn.mono hb3.size)⟩
        intro k hk
        have hk : wr.heap.size = k := by injection hk
        exact ⟨by have := hL3.one.blk.lt; omega, by have := hL3.two.blk.lt; omega, fun e => by have := (hL3.one.own.blk _ e).2; omega, fun e => by have := (hL3.two.own.blk _ e).2; omega⟩
      have HST := Lib.hid hST
      clear hST hL3 hx hhx hy hhy hb3
      go_loopw [10] (fun sv wr => Settling w wr w.heap.size w1.heap.size (w1.heap.size + 1) b sv) (fun sv _ => 5 - rowLen sv)
      case atStart => exact HST.out
      case round =>
        obtain ⟨b2, f, out, A5, n5, c5, xs5, A6, n6, c6, ys6, AT, cT, rfl, hT, hBd, hSt, hL5, hoT, hS, hb5⟩ := hrel
        have l5 := hL5.one.len
        have l6 := hL5.two.len
        have k0 := hL5.one.cell
        have k1 := hL5.two.cell
        have HST := Lib.hid (And.intro hT (And.intro hBd hSt))
        have HL5 := Lib.hid hL5
        have HOT := Lib.hid (And.intro hoT hS)
        have HB5 := Lib.hid hb5
        clear hT hBd hSt hL5 hoT hS hb5
        have hquit : (xs5 = [] ∨ ys6 = []) → SettlePost w ts (.returned (.tuple #[.slice AT out.length cT, .bool true])) wr := fun he =>
          HPS.out _ _ ⟨.inl ⟨out, HST.out.1.done (HST.out.2.2.done he), AT, cT, rfl, HOT.out.1⟩, HB5.out⟩
        rcases xs5 with _ | ⟨x, xs5⟩
        · have HQ := Lib.hid (hquit (.inl rfl))
          clear hquit
          simp only [List.length_nil] at l5
          subst l5
          go_wp2
          go_ret2
          exact HQ.out
        rcases ys6 with _ | ⟨y, ys6⟩
        · have HQ := Lib.hid (hquit (.inr rfl))
          clear hquit
          simp only [List.length_nil] at l6
          subst l6
          have h5 : 0 < n5 := by rw [← l5]; simp
          go_wp2
          go_ret2
          exact HQ.out
        clear hquit
        simp only [List.length_cons] at l5 l6
        subst l5
        subst l6
        have n4 : xs5.length ≤ 4 := by have := HST.out.2.2.2.2.2.1.len; simp at this; omega
        have n5 : ys6.length ≤ 4 := by have := HST.out.2.2.2.2.2.2.len; simp at this; omega
        obtain ⟨r, rfl, hr0, hr1⟩ := HL5.out.one.some_ (by omega)
        obtain ⟨q, rfl, hq0, hq1⟩ := HL5.out.two.some_ (by omega)
        obtain ⟨ex, ey, hd0, hdm, hd1, hstep⟩ := HST.out.2.2.step
        have hbd2 := HST.out.2.1
        have bx := hbd2 (Ta.low b2)
        have by_ := hbd2 (Ta.high b2)
        obtain ⟨l, hl⟩ : ∃ l, Ta.low b2 = l := ⟨_, rfl⟩
        obtain ⟨t, ht⟩ : ∃ t, Ta.high b2 = t := ⟨_, rfl⟩
        obtain ⟨u, hu⟩ : ∃ u, Ta.owe b2 l = u := ⟨_, rfl⟩
        obtain ⟨v, hv⟩ : ∃ v, Ta.claim b2 t = v := ⟨_, rfl⟩
        obtain ⟨m, hm⟩ : ∃ m, Ta.due b2 = m := ⟨_, rfl⟩
        rw [hl, hu] at ex
        rw [ht, hv] at ey
        rw [hl] at bx
        rw [ht] at by_
        have hu2 : b2.getD l 0 = -u := by rw [← hu]; unfold Ta.owe; omega
        have hv2 : b2.getD t 0 = v := hv
        rw [hu2] at bx
        rw [hv2] at by_
        rw [hl, ht, hu, hv, hm] at hdm
        rw [hm] at hd0 hd1
        rw [hl, ht, hu, hv, hm] at hstep
        subst ex
        subst ey
        have HSTEP := Lib.hid hstep
        have HEQ := Lib.hid (And.intro hl (And.intro ht hm))
        clear hstep hbd2 hl ht hu hv hu2 hv2 hm
        go_wp2_with fail
        refine (take_any wr w.heap.size w1.heap.size r xs5.length c5 (l, u) xs5 HL5.out.one HST.out.2.2.2.1 n4).mono ?_
        rintro e w3 ⟨he, xs7, hx7, px7, hP⟩
        have he : e = .returned (.agg #[.int .i64 (l : Int), .int .i64 (l : Int), .int .i64 u]) := he
        subst he
        obtain ⟨hL7, hb7, hk7, hs7⟩ := HL5.out.take1 hP
        have HOT7 := Lib.hid (And.intro (HOT.out.1.apart hk7 (fun z hz => ⟨(HOT.out.2 z hz).1, (HOT.out.2 z hz).2.2.1⟩)) (hs7 _ HOT.out.2 (fun z hz => (HOT.out.1.blk z hz).2)))
        have HL7 := Lib.hid hL7
        have HB7 := Lib.hid (HB5.out.trans hb7)
        have HX7 := Lib.hid (And.intro hx7 px7)
        clear hL7 hb7 hk7 hs7 hP hx7 px7
        go_wp2_with fail
        refine (take_any w3 w.heap.size (w1.heap.size + 1) q ys6.length c6 (t, v) ys6 HL7.out.two HST.out.2.2.2.2.1 n5).mono ?_
        rintro e w4 ⟨he, ys7, hy7, py7, hP⟩
        have he : e = .returned (.agg #[.int .i64 (t : Int), .int .i64 (t : Int), .int .i64 v]) := he
        subst he
        obtain ⟨hL8, hb8, hk8, hs8⟩ := HL7.out.take2 hP
        have HOT8 := Lib.hid (And.intro (HOT7.out.1.apart hk8 (fun z hz => ⟨(HOT7.out.2 z hz).2.1, (HOT7.out.2 z hz).2.2.2⟩)) (hs8 _ HOT7.out.2 (fun z hz => (HOT7.out.1.blk z hz).2)))
        have HL8 := Lib.hid hL8
        have HB8 := Lib.hid (HB7.out.trans hb8)
        have HY7 := Lib.hid (And.intro hy7 py7)
        clear hL8 hb8 hk8 hs8 hP hy7 py7
        have hmin : min u v = m := hdm.symm
        have HMIN := Lib.hid hmin
        clear hmin hdm k0 k1
        go_wp2_with fail
        rw [HMIN.out]
        obtain ⟨W5, hW5⟩ : ∃ W5, (((w4.alloc (.cells #[.int .i64 (l : Int), .int .i64 (l : Int), .int .i64 u] 54)).alloc (.cells #[.int .i64 (t : Int), .int .i64 (t : Int), .int .i64 v] 54)).alloc (.cells #[.int .i64 (l : Int), .int .i64 (t : Int), .int .i64 m] 54)) = W5 := ⟨_, rfl⟩
        have hb5 : Below w4.heap.size w4 W5 := by rw [← hW5]; exact (((Below.refl _ _).alloc (Nat.le_refl _) _).alloc (by simp) _).alloc (by simp; omega) _
        have d1 : Blk W5 w4.heap.size #[.int .i64 (l : Int), .int .i64 (l : Int), .int .i64 u] 54 := by rw [← hW5]; exact ((Blk.new _ _ _).alloc _).alloc _
        have d2 : Blk W5 (w4.heap.size + 1) #[.int .i64 (t : Int), .int .i64 (t : Int), .int .i64 v] 54 := by
          rw [← hW5]
          have := Blk.new (w4.alloc (.cells #[.int .i64 (l : Int), .int .i64 (l : Int), .int .i64 u] 54)) #[.int .i64 (t : Int), .int .i64 (t : Int), .int .i64 v] 54
          rw [World.size_alloc] at this
          exact this.alloc _
        have d3 : Blk W5 (w4.heap.size + 1 + 1) #[.int .i64 (l : Int), .int .i64 (t : Int), .int .i64 m] 54 := by
          rw [← hW5]
          have := Blk.new ((w4.alloc (.cells #[.int .i64 (l : Int), .int .i64 (l : Int), .int .i64 u] 54)).alloc (.cells #[.int .i64 (t : Int), .int .i64 (t : Int), .int .i64 v] 54)) #[.int .i64 (l : Int), .int .i64 (t : Int), .int .i64 m] 54
          rw [World.size_alloc, World.size_alloc] at this
          exact this
        rw [hW5]
        have HB5' := Lib.hid (HB8.out.trans (hb5.mono HB8.out.size))
        have HL5' := Lib.hid (HL8.out.next hb5)
        have HOT5 := Lib.hid (And.intro (HOT8.out.1.next hb5) HOT8.out.2)
        have HBW5 := Lib.hid hb5
        have HD5 := Lib.hid (And.intro d1 (And.intro d2 d3))
        clear hW5 hb5 d1 d2 d3
        have hsp := (Ta.due_spec HST.out.2.2.1).2.2 (by rw [HEQ.out.2.2]; exact hd0)
        have hll := Ta.low_lt b2
        have htl := Ta.high_lt b2
        rw [HEQ.out.1, HEQ.out.2.1] at hsp
        rw [HEQ.out.1] at hll
        rw [HEQ.out.2.1] at htl
        have htwo : Two (l : Int) (t : Int) := ⟨by omega, by omega, by omega, by omega, fun e => hsp.2.2 (by omega)⟩
        have HTW := Lib.hid htwo
        clear hsp htwo
        refine (tally_walk (l : Int) (t : Int) m W5).mono ?_
        rintro e w6 ⟨⟨hok, he⟩ | ⟨hno, he⟩, hb6⟩
        rotate_left
        · subst he
          have hm9 : 9999 < m := by
            by_cases h9 : 9999 < m
            · exact h9
            · exact absurd ⟨HTW.out, by omega, by omega⟩ hno
          have HN := Lib.hid (show ∀ o, SettlePost w ts (.returned (.tuple #[.slice none 0 0, .bool false])) (w6.alloc o) from fun o => HPS.out _ _ ⟨.inr ⟨HST.out.1.no HST.out.2.2.1 (by rw [HEQ.out.2.2]; exact hd0) (by rw [HEQ.out.2.2]; exact .inr hm9), rfl⟩,
            (HB5'.out.trans (hb6.mono HB5'.out.size)).alloc (Nat.le_trans HB5'.out.size hb6.size) _⟩)
          clear hb6 hno hm9
          unfold noTl
          go_wp2
          go_ret2
          exact HN.out _
        · have he : e = .returned (.tuple #[.agg #[.int .i64 (l : Int), .int .i64 (t : Int), .string (txt (Ta.ntext m.toNat)), .string (txt (Ta.ntext m.toNat))], .bool true]) := he
          subst he
          obtain ⟨s, hs⟩ : ∃ s, txt (Ta.ntext m.toNat) = s := ⟨_, rfl⟩
          have hpt : payT (l, t, m) = ⟨(l : Int), (t : Int), s, s⟩ := by rw [← hs]; rfl
          rw [hs]
          obtain ⟨W7, hW7⟩ : ∃ W7, w6.alloc (.cells #[.int .i64 (l : Int), .int .i64 (t : Int), .string s, .string s] 33) = W7 := ⟨_, rfl⟩
          have hb7 : Below W5.heap.size W5 W7 := by rw [← hW7]; exact hb6.alloc hb6.size _
          obtain ⟨d1, d2, d3⟩ := HD5.out
          have e1 := d1.next hb7
          have e2 := d2.next hb7
          have e3 := d3.next hb7
          have e4 : Blk W7 w6.heap.size #[.int .i64 (l : Int), .int .i64 (t : Int), .string s, .string s] 33 := by rw [← hW7]; exact Blk.new _ _ _
          have HPT := Lib.hid hpt
          have HM := Lib.hid hok
          have HL7' := Lib.hid (HL5'.out.next hb7)
          have HOT7' := Lib.hid (And.intro (HOT5.out.1.next hb7) HOT5.out.2)
          have HB7' := Lib.hid (HB5'.out.trans (hb7.mono HB5'.out.size))
          have HD7 := Lib.hid (And.intro e1 (And.intro e2 (And.intro e3 e4)))
          obtain ⟨f2, rfl⟩ := HST.out.1.pos HST.out.2.2.1 (by rw [HEQ.out.2.2]; exact hd0)
          have hout : out.length ≤ 4 := by have := HST.out.1.2.2; omega
          have HNB := Lib.hid (show w6.heap.size + 1 = W7.heap.size by rw [← hW7]; simp)
          clear hpt hok hb7 e1 e2 e3 e4 d1 d2 d3 hb6 hs he
          subst hW7
          have HMB := Lib.hid (show m ≤ u ∧ m ≤ v from by have := HMIN.out; omega)
          have hwu : IntKind.i64.wrap (u - m) = u - m := IntWalk.i64_in _ (by have := HMB.out; omega)
          have hwv : IntKind.i64.wrap (v - m) = v - m := IntWalk.i64_in _ (by have := HMB.out; omega)
          clear bx by_
          go_wp2_with (refine wpList_app_t_at rfl _ _ rfl rfl HOT7'.out.1 ⟨(l : Int), (t : Int), s, s⟩ _ _ rfl HNB.out _ rfl (by omega) HB7'.out.size ?_; intro A9 c9 w9 ho9 hg9 hat9; have hne9 : ∀ z, w4.heap.size ≤ z → some z ≠ (Value.slice AT out.length cT).ownBlock := (fun z hz e => by have := (HOT8.out.1.blk z e.symm).2; omega); have j1 := HD7.out.1.grown hg9 (hne9 _ (by omega)); have j2 := HD7.out.2.1.grown hg9 (hne9 _ (by omega)); have j3 := HD7.out.2.2.1.grown hg9 (hne9 _ (by omega)); have x0 : w9.cell? ⟨w4.heap.size, 0, none⟩ = some (.int .i64 (l : Int)) := j1.cell rfl; have x1 : w9.cell? ⟨w4.heap.size, 1, none⟩ = some (.int .i64 (l : Int)) := j1.cell rfl; have x2 : w9.cell? ⟨w4.heap.size, 2, none⟩ = some (.int .i64 u) := j1.cell rfl; have y0 : w9.cell? ⟨w4.heap.size + 1, 0, none⟩ = some (.int .i64 (t : Int)) := j2.cell rfl; have y1 : w9.cell? ⟨w4.heap.size + 1, 1, none⟩ = some (.int .i64 (t : Int)) := j2.cell rfl; have y2 : w9.cell? ⟨w4.heap.size + 1, 2, none⟩ = some (.int .i64 v) := j2.cell rfl; have z2 : w9.cell? ⟨w4.heap.size + 1 + 1, 2, none⟩ = some (.int .i64 m) := j3.cell rfl; have f1 := j1.free 2; have f2 := j2.free 2; have HO9 := Lib.hid ho9; have HG9 := Lib.hid hg9; have HAT9 := Lib.hid hat9; have HJ := Lib.hid (And.intro j1 (And.intro j2 j3)); clear ho9 hg9 hat9 hne9 j1 j2 j3)
          obtain ⟨W10, hW10⟩ : ∃ W10, (w9.setCell ⟨w4.heap.size, 2, none⟩ (.int .i64 (u - m))).setCell ⟨w4.heap.size + 1, 2, none⟩ (.int .i64 (v - m)) = W10 := ⟨_, rfl⟩
          rw [hW10]
          obtain ⟨hL9, hS9⟩ := HL7'.out.grown HOT7'.out.2 HG9.out HAT9.out
          have hL10 := (hL9.aside HL8.out (Nat.le_refl _) 2 (.int .i64 (u - m))).aside HL8.out (Nat.le_succ _) 2 (.int .i64 (v - m))
          rw [hW10] at hL10
          have hq9 : ∀ z, w4.heap.size ≤ z → z ≤ w4.heap.size + 1 → ∀ q, (Value.slice A9 (out.length + 1) c9).ownBlock = some q → q ≠ z := fun z h1 h2 q hq => by
            have hsz := HBW5.out.size
            rcases HAT9.out q hq with e | e
            · have := (HOT8.out.1.blk q e).2; omega
            · have h6 : w4.heap.size + 1 + 1 < w6.heap.size + 1 := by have := HD7.out.2.2.1.lt; simpa using this
              have h7 := HNB.out
              omega
          have hO10 := (HO9.out.aside (hq9 w4.heap.size (Nat.le_refl _) (Nat.le_succ _)) 2 (.int .i64 (u - m))).aside (hq9 (w4.heap.size + 1) (Nat.le_succ _) (Nat.le_refl _)) 2 (.int .i64 (v - m))
          rw [hW10] at hO10
          have hB10 : Below w.heap.size w W10 := by
            rw [← hW10]
            have h4 := HB8.out.size
            exact ((HB7'.out.grown HG9.out HB7'.out.size (fun q hq => (HOT7'.out.1.blk q hq).1)).setCell (p := ⟨w4.heap.size, 2, none⟩) h4 _).setCell (p := ⟨w4.heap.size + 1, 2, none⟩) (Nat.le_succ_of_le h4) _
          have hJ10 : Blk W10 (w4.heap.size + 1) #[.int .i64 (t : Int), .int .i64 (t : Int), .int .i64 (v - m)] 54 := by
            rw [← hW10]
            have := (HJ.out.2.1.other (p := ⟨w4.heap.size, 2, none⟩) (by show ¬ w4.heap.size + 1 = w4.heap.size; omega) (.int .i64 (u - m))).set 2 (.int .i64 (v - m))
            simpa using this
          have HL10 := Lib.hid hL10
          have HO10 := Lib.hid (And.intro hO10 hS9)
          have HB10 := Lib.hid hB10
          have HJ10 := Lib.hid hJ10
          clear hW10 hL9 hS9 hL10 hq9 hO10 hB10 hJ10 x0 x1 x2 y0 y1 y2 z2 f1 f2 hwu hwv
          refine (put_any W10 w.heap.size w1.heap.size xs5.length c5 _ xs7 (l, u - m) HL10.out.one HB10.out.size n4).mono ?_
          rintro e w11 ⟨⟨v11, rfl⟩, hP⟩
          obtain ⟨A11, c11, hL11, hb11, hk11, hs11⟩ := HL10.out.put1 hP
          have hj11 : Blk w11 (w4.heap.size + 1) #[.int .i64 (t : Int), .int .i64 (t : Int), .int .i64 (v - m)] 54 := HJ10.out.keep (hk11.block _ HJ10.out.lt (by
            rintro (e | e)
            · have := HL8.out.one.blk.lt; omega
            · have := (HL8.out.one.own.blk _ e).2; omega))
          have hO11 := HO10.out.1.apart hk11 (fun z hz => ⟨(HO10.out.2 z hz).1, (HO10.out.2 z hz).2.2.1⟩)
          have hS11 := hs11 _ HO10.out.2 (fun z hz => (HO10.out.1.blk z hz).2)
          have y0 : w11.cell? ⟨w4.heap.size + 1, 0, none⟩ = some (.int .i64 (t : Int)) := hj11.cell rfl
          have y1 : w11.cell? ⟨w4.heap.size + 1, 1, none⟩ = some (.int .i64 (t : Int)) := hj11.cell rfl
          have y2 : w11.cell? ⟨w4.heap.size + 1, 2, none⟩ = some (.int .i64 (v - m)) := hj11.cell rfl
          have HL11 := Lib.hid hL11
          have HO11 := Lib.hid (And.intro hO11 hS11)
          have HB11 := Lib.hid (HB10.out.trans hb11)
          clear hP hL11 hb11 hk11 hs11 hj11 hO11 hS11
          go_wp2_with fail
          refine (put_any w11 w.heap.size (w1.heap.size + 1) ys6.length c6 _ ys7 (t, v - m) HL11.out.two HB11.out.size n5).mono ?_
          rintro e w12 ⟨⟨v12, rfl⟩, hP⟩
          obtain ⟨A12, c12, hL12, hb12, hk12, hs12⟩ := HL11.out.put2 hP
          have hO12 := HO11.out.1.apart hk12 (fun z hz => ⟨(HO11.out.2 z hz).2.1, (HO11.out.2 z hz).2.2.2⟩)
          have hS12 := hs12 _ HO11.out.2 (fun z hz => (HO11.out.1.blk z hz).2)
          have hnext := HST.out.1.next HST.out.2.2.1 (by rw [HEQ.out.2.2]; exact hd0) (by rw [HEQ.out.2.2]; exact HM.out.2.1) (by rw [HEQ.out.2.2]; exact HM.out.2.2)
          have hbd3 := HST.out.2.1.pay HST.out.2.2.1 (by rw [HEQ.out.2.2]; exact hd0)
          rw [HEQ.out.1, HEQ.out.2.1, HEQ.out.2.2] at hnext hbd3
          have hlen : (out ++ [(l, t, m)]).length = out.length + 1 := by simp
          have HFIN := Lib.hid (show Settling w w12 w.heap.size w1.heap.size (w1.heap.size + 1) b (.slice A9 (out.length + 1) c9) from by
            refine ⟨_, f2, out ++ [(l, t, m)], A11, _, c11, _, A12, _, c12, _, A9, c9, by rw [hlen], hnext, hbd3, HSTEP.out _ _ HX7.out.2 HY7.out.2 HX7.out.1 HY7.out.1, hL12, ?_, by rw [hlen]; exact hS12, HB11.out.trans hb12⟩
            rw [hlen, List.map_append, List.map_cons, List.map_nil, HPT.out]
            exact hO12)
          clear hP hL12 hb12 hk12 hs12 hO12 hS12 hnext hbd3 hlen y0 y1 y2
          go_wp2_with fail
          exact ⟨HFIN.out, by simp [rowLen]; omega⟩
end Go.Proofs.Ytogplbnabffcfaa
