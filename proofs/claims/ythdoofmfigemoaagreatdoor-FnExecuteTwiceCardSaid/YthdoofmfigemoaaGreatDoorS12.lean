/-
  Joined texts.
-/
import Derived.Test.YthdoofmfigemoaaGreatDoorS8
import Derived.Test.YthdoofmfigemoaaGreatDoorS9
set_option linter.unusedSimpArgs false
set_option linter.unusedVariables false
set_option maxRecDepth 100000
set_option maxHeartbeats 4000000
namespace Go.Proofs.YthdoofmfigemoaaGreatDoor
open Go.RowKit
def payT (t : Nat × Nat × Int) : Tl := tallyOf t.1 t.2.1 t.2.2
def SettlePost (w : World) (ts : List Tl) (e : Ending) (w' : World) : Prop :=
 ((∃ out, okL ts = true ∧ Ta.settle 5 (bal (ts.map debtOf)) = some out ∧ ∃ A c, e = .returned (.tuple #[.slice A out.length c, .bool true]) ∧ OwnT w' w.heap.size A out.length c (out.map payT)) ∨
  ((okL ts = false ∨ Ta.settle 5 (bal (ts.map debtOf)) = none) ∧ e = .returned (.tuple #[.slice none 0 0, .bool false]))) ∧ Below w.heap.size w w'
def Filled (w wr : World) (B g h : Nat) (b : List Int) (k : Nat) : Prop :=
 ∃ A n c xs A2 n2 c2 ys, Lay wr B g h A n c xs A2 n2 c2 ys ∧ Ta.Holds (Ta.owe b) k xs ∧ Ta.Heap xs ∧ Ta.Holds (Ta.claim b) k ys ∧ Ta.Heap ys ∧ Below B w wr
theorem lay_start {w1 : World} (B : Nat) (hB : B ≤ w1.heap.size) :
  Lay ((w1.alloc (.cells #[.slice none 0 0] 116)).alloc (.cells #[.slice none 0 0] 116)) B w1.heap.size (w1.heap.size + 1) none 0 0 [] none 0 0 [] := by
 refine ⟨⟨(Blk.new _ _ _).alloc _, OwnR.nil _ _ _ _, fun k hk => (by cases hk)⟩, ⟨?_, OwnR.nil _ _ _ _, fun k hk => (by cases hk)⟩, hB, by omega, by omega, fun k hk => (by cases hk), fun k hk => (by cases hk), fun k hk => (by cases hk)⟩
 have := Blk.new (w1.alloc (.cells #[.slice none 0 0] 116)) #[.slice none 0 0] 116
 rw [World.size_alloc] at this
 exact this
def Settling (w wr : World) (B g h : Nat) (b0 : List Int) (sv : Value) : Prop :=
 ∃ (b : List Int) (f : Nat) (out : List (Nat × Nat × Int)) (A : Option Addr) (n c : Nat) (xs : List (Nat × Int)) (A2 : Option Addr) (n2 c2 : Nat) (ys : List (Nat × Int)) (AT : Option Addr) (cT : Nat),
  sv = .slice AT out.length cT ∧ Ta.Todo b0 f b out ∧ Ta.Bd 432000 b ∧ Ta.St b xs ys ∧ Lay wr B g h A n c xs A2 n2 c2 ys ∧ OwnT wr B AT out.length cT (out.map payT) ∧ Sep g h A n c A2 n2 c2 (.slice AT out.length cT) ∧ Below B w wr
def rowLen : Value → Nat
 | .slice _ n _ => n
 | _ => 0
theorem neg_in {u : Int} (h : -432000 ≤ u ∧ u ≤ 432000) : IntKind.i64.wrap (-u) = -u := IntWalk.i64_in _ (by omega)
theorem TalliesSettle_any (A : Option Addr) (n c : Nat) (ts : List Tl) (w : World) (hr : Tals w w.heap.size A n ts) (hsm : Small ts) : Calls Tryz.prog 36 #[.slice A n c] w (SettlePost w ts) := by
 go_enter Tryz.func36, Tryz.ntmps36
 go_wp2_with fail
 refine (debtsOf_any A n c ts w hr hsm).mono ?_
 rintro e w1 ⟨⟨hok, A1, c1, rfl, ho⟩ | ⟨hno, rfl⟩, hb⟩
 rotate_left
 ·have HB := Hd hb
  have HNO := Hd hno
  clear hno hb hr hsm
  go_wp2
  go_ret2
  exact ⟨.inr ⟨.inl HNO.out, rfl⟩, HB.out⟩
 obtain ⟨b, hbb⟩ : ∃ b, bal (ts.map debtOf) = b := ⟨_, rfl⟩
 have hF := fair_of hok
 obtain ⟨hbal, hbd⟩ := bal_ok hF
 have hbl := bal_length (ts.map debtOf)
 rw [hbb] at hbal hbd hbl
 have HPS := Hd (show ∀ e w', (((∃ out, Ta.settle 5 b = some out ∧ ∃ A c, e = .returned (.tuple #[.slice A out.length c, .bool true]) ∧ OwnT w' w.heap.size A out.length c (out.map payT)) ∨
  (Ta.settle 5 b = none ∧ e = .returned (.tuple #[.slice none 0 0, .bool false]))) ∧ Below w.heap.size w w') → SettlePost w ts e w' from fun e w' h => by
   unfold SettlePost
   rw [hbb]
   rcases h with ⟨⟨out, h1, h2⟩ | ⟨h1, h2⟩, h3⟩
   ·exact ⟨.inl ⟨out, hok, h1, h2⟩, h3⟩
   ·exact ⟨.inr ⟨.inr h1, h2⟩, h3⟩)
 obtain ⟨W, hW⟩ : ∃ W, (w1.alloc (.cells #[.slice none 0 0] 116)).alloc (.cells #[.slice none 0 0] 116) = W := ⟨_, rfl⟩
 have hL := lay_start w.heap.size hb.size
 rw [hW] at hL
 have hbW : Below w1.heap.size w1 W := by rw [← hW]; exact ((Below.refl _ _).alloc (Nat.le_refl _) _).alloc (by simp) _
 have HD := Hd (ho.dbs.next hbW)
 have HB := Hd (hb.trans (hbW.mono hb.size))
 have HL0 := Hd hL
 have HW := Hd hW
 have HF := Hd hF
 have HBB := Hd hbb
 have HBAL := Hd hbal
 have HBD := Hd hbd
 clear hok hF hbb hbal hbd hW hL hbW ho hb hr hsm
 go_wp2_with fail
 rw [HW.out]
 refine (balances_any A1 n c1 (ts.map debtOf) W HD.out HF.out).mono ?_
 rintro e w2 ⟨rfl, hb2⟩
 rw [HBB.out]
 have HB2 := Hd (HB.out.trans (hb2.mono HB.out.size))
 have HL2 := Hd (HL0.out.next hb2)
 clear hb2
 go_wp2_with fail
 go_loopw [25] (fun iv wr => ∃ (k : Nat), k ≤ 5 ∧ iv = .int .i64 (k : Int) ∧ Filled w wr w.heap.size w1.heap.size (w1.heap.size + 1) b k) (fun iv _ => 5 - (intOf iv).toNat)
 case atStart => exact ⟨0, by omega, rfl, none, 0, 0, [], none, 0, 0, [], HL2.out, Ta.Holds.zero _, trivial, Ta.Holds.zero _, trivial, HB2.out⟩
 case round =>
  obtain ⟨k, hk, rfl, hfl⟩ := hrel
  have HFL := Hd hfl
  clear hfl
  by_cases hlt : k < 5
  ·obtain ⟨u, hu⟩ : ∃ u, b[k]? = some u := ⟨_, List.getElem?_eq_getElem (by omega)⟩
   have hix := run_index_five b k u hbl hu
   have hgu : b.getD k 0 = u := by rw [List.getD_eq_getElem?_getD, hu]; rfl
   have hub := HBD.out k
   rw [hgu] at hub
   have hng := neg_in hub
   have HGU := Hd hgu
   clear hu hgu
   obtain ⟨A3, n3, c3, xs, A4, n4, c4, ys, hL3, hx, hhx, hy, hhy, hb3⟩ := HFL.out
   have lx : n3 ≤ 4 := by rw [← hL3.one.len]; have := hx.len; omega
   have ly : n4 ≤ 4 := by rw [← hL3.two.len]; have := hy.len; omega
   have hxk : Ta.owe b k = -u := by unfold Ta.owe; rw [HGU.out]
   have hyk : Ta.claim b k = u := HGU.out
   have hX := hx.putL hhx (by omega)
   have hY := hy.putL hhy (by omega)
   rw [hxk] at hX
   rw [hyk] at hY
   have HL3 := Hd hL3
   have HX := Hd hX
   have HY := Hd hY
   have HB3 := Hd hb3
   clear hL3 hx hhx hy hhy hb3 hX hY hxk hyk
   go_wp2_with fail
   refine (put_any wr w.heap.size w1.heap.size n3 c3 A3 xs (k, -u) HL3.out.one HB3.out.size lx).mono ?_
   rintro e w3 ⟨⟨v3, rfl⟩, hP⟩
   obtain ⟨A5, c5, hL4, hb4, _, _⟩ := HL3.out.put1 hP
   have HL4 := Hd hL4
   have HB4 := Hd (HB3.out.trans hb4)
   clear hP hL4 hb4
   go_wp2_with fail
   refine (put_any w3 w.heap.size (w1.heap.size + 1) n4 c4 A4 ys (k, u) HL4.out.two HB4.out.size ly).mono ?_
   rintro e w4 ⟨⟨v4, rfl⟩, hP⟩
   obtain ⟨A6, c6, hL5, hb5, _, _⟩ := HL4.out.put2 hP
   have HFI := Hd (show Filled w w4 w.heap.size w1.heap.size (w1.heap.size + 1) b (k + 1) from ⟨A5, _, c5, _, A6, _, c6, _, hL5, HX.out.1, HX.out.2, HY.out.1, HY.out.2, HB4.out.trans hb5⟩)
   clear hP hL5 hb5
   go_wp2_with fail
   exact ⟨⟨k + 1, by omega, by go_num, HFI.out⟩, by simp [intOf]; omega⟩
  ·have HFL5 := Hd (show Filled w wr w.heap.size w1.heap.size (w1.heap.size + 1) b 5 from by have := HFL.out; rwa [show k = 5 from by omega] at this)
   go_wp2_with fail
   obtain ⟨A3, n3, c3, xs, A4, n4, c4, ys, hL3, hx, hhx, hy, hhy, hb3⟩ := HFL5.out
   have hST : Settling w (wr.alloc (.cells #[] 52)) w.heap.size w1.heap.size (w1.heap.size + 1) b (.slice (some ⟨wr.heap.size, 0, none⟩) 0 0) := by
    have hbn := (Below.refl wr.heap.size wr).alloc (Nat.le_refl _) (.cells #[] 52)
    refine ⟨b, 5, [], A3, n3, c3, xs, A4, n4, c4, ys, _, _, rfl, Ta.Todo.start hbl, HBD.out, ⟨HBAL.out, hhx, hhy, hx, hy⟩, hL3.next hbn, lit_nil_t wr _ hb3.size, ?_, hb3.trans (hbn.mono hb3.size)⟩
    intro k hk
    have hk : wr.heap.size = k := by injection hk
    exact ⟨by have := hL3.one.blk.lt; omega, by have := hL3.two.blk.lt; omega, fun e => by have := (hL3.one.own.blk _ e).2; omega, fun e => by have := (hL3.two.own.blk _ e).2; omega⟩
   have HST := Hd hST
   clear hST hL3 hx hhx hy hhy hb3
   go_loopw [10] (fun sv wr => Settling w wr w.heap.size w1.heap.size (w1.heap.size + 1) b sv) (fun sv _ => 5 - rowLen sv)
   case atStart => exact HST.out
   case round =>
    obtain ⟨b2, f, out, A5, n5, c5, xs5, A6, n6, c6, ys6, AT, cT, rfl, hT, hBd, hSt, hL5, hoT, hS, hb5⟩ := hrel
    have l5 := hL5.one.len
    have l6 := hL5.two.len
    have k0 := hL5.one.cell
    have k1 := hL5.two.cell
    have HST := Hd (And.intro hT (And.intro hBd hSt))
    have HL5 := Hd hL5
    have HOT := Hd (And.intro hoT hS)
    have HB5 := Hd hb5
    clear hT hBd hSt hL5 hoT hS hb5
    have hquit : (xs5 = [] ∨ ys6 = []) → SettlePost w ts (.returned (.tuple #[.slice AT out.length cT, .bool true])) wr := fun he =>
     HPS.out _ _ ⟨.inl ⟨out, HST.out.1.done (HST.out.2.2.done he), AT, cT, rfl, HOT.out.1⟩, HB5.out⟩
    rcases xs5 with _ | ⟨x, xs5⟩
    ·have HQ := Hd (hquit (.inl rfl))
     clear hquit
     simp only [List.length_nil] at l5
     subst l5
     go_wp2
     go_ret2
     exact HQ.out
    rcases ys6 with _ | ⟨y, ys6⟩
    ·have HQ := Hd (hquit (.inr rfl))
     clear hquit
     simp only [List.length_nil] at l6
     subst l6
     have h5 : 0 < n5 := by rw [← l5]; simp
     go_wp2
     go_ret2
     exact HQ.out
    clear hquit
    simp only [List.length_cons] at l5 l6
    subst l5
    subst l6
    have n4 : xs5.length ≤ 4 := by have := HST.out.2.2.2.2.2.1.len; simp at this; omega
    have n5 : ys6.length ≤ 4 := by have := HST.out.2.2.2.2.2.2.len; simp at this; omega
    obtain ⟨r, rfl, hr0, hr1⟩ := HL5.out.one.some_ (by omega)
    obtain ⟨q, rfl, hq0, hq1⟩ := HL5.out.two.some_ (by omega)
    obtain ⟨ex, ey, hd0, hdm, hd1, hstep⟩ := HST.out.2.2.step
    have hbd2 := HST.out.2.1
    have bx := hbd2 (Ta.low b2)
    have by_ := hbd2 (Ta.high b2)
    obtain ⟨l, hl⟩ : ∃ l, Ta.low b2 = l := ⟨_, rfl⟩
    obtain ⟨t, ht⟩ : ∃ t, Ta.high b2 = t := ⟨_, rfl⟩
    obtain ⟨u, hu⟩ : ∃ u, Ta.owe b2 l = u := ⟨_, rfl⟩
    obtain ⟨v, hv⟩ : ∃ v, Ta.claim b2 t = v := ⟨_, rfl⟩
    obtain ⟨m, hm⟩ : ∃ m, Ta.due b2 = m := ⟨_, rfl⟩
    rw [hl, hu] at ex
    rw [ht, hv] at ey
    rw [hl] at bx
    rw [ht] at by_
    have hu2 : b2.getD l 0 = -u := by rw [← hu]; unfold Ta.owe; omega
    have hv2 : b2.getD t 0 = v := hv
    rw [hu2] at bx
    rw [hv2] at by_
    rw [hl, ht, hu, hv, hm] at hdm
    rw [hm] at hd0 hd1
    rw [hl, ht, hu, hv, hm] at hstep
    subst ex
    subst ey
    have HSTEP := Hd hstep
    have HEQ := Hd (And.intro hl (And.intro ht hm))
    clear hstep hbd2 hl ht hu hv hu2 hv2 hm
    go_wp2_with fail
    refine (heap_take_any wr w.heap.size w1.heap.size r xs5.length c5 (l, u) xs5 HL5.out.one HST.out.2.2.2.1 n4).mono ?_
    rintro e w3 ⟨he, xs7, hx7, px7, hP⟩
    have he : e = .returned (.agg #[.int .i64 (l : Int), .int .i64 (l : Int), .int .i64 u]) := he
    subst he
    obtain ⟨hL7, hb7, hk7, hs7⟩ := HL5.out.take1 hP
    have HOT7 := Hd (And.intro (HOT.out.1.apart hk7 (fun z hz => ⟨(HOT.out.2 z hz).1, (HOT.out.2 z hz).2.2.1⟩)) (hs7 _ HOT.out.2 (fun z hz => (HOT.out.1.blk z hz).2)))
    have HL7 := Hd hL7
    have HB7 := Hd (HB5.out.trans hb7)
    have HX7 := Hd (And.intro hx7 px7)
    clear hL7 hb7 hk7 hs7 hP hx7 px7
    go_wp2_with fail
    refine (heap_take_any w3 w.heap.size (w1.heap.size + 1) q ys6.length c6 (t, v) ys6 HL7.out.two HST.out.2.2.2.2.1 n5).mono ?_
    rintro e w4 ⟨he, ys7, hy7, py7, hP⟩
    have he : e = .returned (.agg #[.int .i64 (t : Int), .int .i64 (t : Int), .int .i64 v]) := he
    subst he
    obtain ⟨hL8, hb8, hk8, hs8⟩ := HL7.out.take2 hP
    have HOT8 := Hd (And.intro (HOT7.out.1.apart hk8 (fun z hz => ⟨(HOT7.out.2 z hz).2.1, (HOT7.out.2 z hz).2.2.2⟩)) (hs8 _ HOT7.out.2 (fun z hz => (HOT7.out.1.blk z hz).2)))
    have HL8 := Hd hL8
    have HB8 := Hd (HB7.out.trans hb8)
    have HY7 := Hd (And.intro hy7 py7)
    clear hL8 hb8 hk8 hs8 hP hy7 py7
    have hmin : min u v = m := hdm.symm
    have HMIN := Hd hmin
    clear hmin hdm k0 k1
    go_wp2_with fail
    rw [HMIN.out]
    obtain ⟨W5, hW5⟩ : ∃ W5, (((w4.alloc (.cells #[.int .i64 (l : Int), .int .i64 (l : Int), .int .i64 u] 123)).alloc (.cells #[.int .i64 (t : Int), .int .i64 (t : Int), .int .i64 v] 123)).alloc (.cells #[.int .i64 (l : Int), .int .i64 (t : Int), .int .i64 m] 123)) = W5 := ⟨_, rfl⟩
    have hb5 : Below w4.heap.size w4 W5 := by rw [← hW5]; exact (((Below.refl _ _).alloc (Nat.le_refl _) _).alloc (by simp) _).alloc (by simp; omega) _
    have d1 : Blk W5 w4.heap.size #[.int .i64 (l : Int), .int .i64 (l : Int), .int .i64 u] 123 := by rw [← hW5]; exact ((Blk.new _ _ _).alloc _).alloc _
    have d2 : Blk W5 (w4.heap.size + 1) #[.int .i64 (t : Int), .int .i64 (t : Int), .int .i64 v] 123 := by
     rw [← hW5]
     have := Blk.new (w4.alloc (.cells #[.int .i64 (l : Int), .int .i64 (l : Int), .int .i64 u] 123)) #[.int .i64 (t : Int), .int .i64 (t : Int), .int .i64 v] 123
     rw [World.size_alloc] at this
     exact this.alloc _
    have d3 : Blk W5 (w4.heap.size + 1 + 1) #[.int .i64 (l : Int), .int .i64 (t : Int), .int .i64 m] 123 := by
     rw [← hW5]
     have := Blk.new ((w4.alloc (.cells #[.int .i64 (l : Int), .int .i64 (l : Int), .int .i64 u] 123)).alloc (.cells #[.int .i64 (t : Int), .int .i64 (t : Int), .int .i64 v] 123)) #[.int .i64 (l : Int), .int .i64 (t : Int), .int .i64 m] 123
     rw [World.size_alloc, World.size_alloc] at this
     exact this
    rw [hW5]
    have HB5' := Hd (HB8.out.trans (hb5.mono HB8.out.size))
    have HL5' := Hd (HL8.out.next hb5)
    have HOT5 := Hd (And.intro (HOT8.out.1.next hb5) HOT8.out.2)
    have HBW5 := Hd hb5
    have HD5 := Hd (And.intro d1 (And.intro d2 d3))
    clear hW5 hb5 d1 d2 d3
    have hsp := (Ta.due_spec HST.out.2.2.1).2.2 (by rw [HEQ.out.2.2]; exact hd0)
    have hll := Ta.low_lt b2
    have htl := Ta.high_lt b2
    rw [HEQ.out.1, HEQ.out.2.1] at hsp
    rw [HEQ.out.1] at hll
    rw [HEQ.out.2.1] at htl
    have htwo : Two (l : Int) (t : Int) := ⟨by omega, by omega, by omega, by omega, fun e => hsp.2.2 (by omega)⟩
    have HTW := Hd htwo
    clear hsp htwo
    refine (tally_walk (l : Int) (t : Int) m W5).mono ?_
    rintro e w6 ⟨⟨hok, he⟩ | ⟨hno, he⟩, hb6⟩
    rotate_left
    ·subst he
     have hm9 : 9999 < m := by
      by_cases h9 : 9999 < m
      ·exact h9
      ·exact absurd ⟨HTW.out, by omega, by omega⟩ hno
     have HN := Hd (show ∀ o, SettlePost w ts (.returned (.tuple #[.slice none 0 0, .bool false])) (w6.alloc o) from fun o => HPS.out _ _ ⟨.inr ⟨HST.out.1.no HST.out.2.2.1 (by rw [HEQ.out.2.2]; exact hd0) (by rw [HEQ.out.2.2]; exact .inr hm9), rfl⟩,
      (HB5'.out.trans (hb6.mono HB5'.out.size)).alloc (Nat.le_trans HB5'.out.size hb6.size) _⟩)
     clear hb6 hno hm9
     unfold noTl
     go_wp2
     go_ret2
     exact HN.out _
    ·have he : e = .returned (.tuple #[.agg #[.int .i64 (l : Int), .int .i64 (t : Int), .string (txt (Ta.ntext m.toNat)), .string (txt (Ta.ntext m.toNat))], .bool true]) := he
     subst he
     obtain ⟨s, hs⟩ : ∃ s, txt (Ta.ntext m.toNat) = s := ⟨_, rfl⟩
     have hpt : payT (l, t, m) = ⟨(l : Int), (t : Int), s, s⟩ := by rw [← hs]; rfl
     rw [hs]
     obtain ⟨W7, hW7⟩ : ∃ W7, w6.alloc (.cells #[.int .i64 (l : Int), .int .i64 (t : Int), .string s, .string s] 52) = W7 := ⟨_, rfl⟩
     have hb7 : Below W5.heap.size W5 W7 := by rw [← hW7]; exact hb6.alloc hb6.size _
     obtain ⟨d1, d2, d3⟩ := HD5.out
     have e1 := d1.next hb7
     have e2 := d2.next hb7
     have e3 := d3.next hb7
     have e4 : Blk W7 w6.heap.size #[.int .i64 (l : Int), .int .i64 (t : Int), .string s, .string s] 52 := by rw [← hW7]; exact Blk.new _ _ _
     have HPT := Hd hpt
     have HM := Hd hok
     have HL7' := Hd (HL5'.out.next hb7)
     have HOT7' := Hd (And.intro (HOT5.out.1.next hb7) HOT5.out.2)
     have HB7' := Hd (HB5'.out.trans (hb7.mono HB5'.out.size))
     have HD7 := Hd (And.intro e1 (And.intro e2 (And.intro e3 e4)))
     obtain ⟨f2, rfl⟩ := HST.out.1.pos HST.out.2.2.1 (by rw [HEQ.out.2.2]; exact hd0)
     have hout : out.length ≤ 4 := by have := HST.out.1.2.2; omega
     have HNB := Hd (show w6.heap.size + 1 = W7.heap.size by rw [← hW7]; simp)
     clear hpt hok hb7 e1 e2 e3 e4 d1 d2 d3 hb6 hs he
     subst hW7
     have HMB := Hd (show m ≤ u ∧ m ≤ v from by have := HMIN.out; omega)
     have hwu : IntKind.i64.wrap (u - m) = u - m := IntWalk.i64_in _ (by have := HMB.out; omega)
     have hwv : IntKind.i64.wrap (v - m) = v - m := IntWalk.i64_in _ (by have := HMB.out; omega)
     clear bx by_
     go_wp2_with (refine wpList_app_t_at rfl _ _ rfl rfl HOT7'.out.1 ⟨(l : Int), (t : Int), s, s⟩ _ _ rfl HNB.out _ rfl (by omega) HB7'.out.size ?_; intro A9 c9 w9 ho9 hg9 hat9; have hne9 : ∀ z, w4.heap.size ≤ z → some z ≠ (Value.slice AT out.length cT).ownBlock := (fun z hz e => by have := (HOT8.out.1.blk z e.symm).2; omega); have j1 := HD7.out.1.grown hg9 (hne9 _ (by omega)); have j2 := HD7.out.2.1.grown hg9 (hne9 _ (by omega)); have j3 := HD7.out.2.2.1.grown hg9 (hne9 _ (by omega)); have x0 : w9.cell? ⟨w4.heap.size, 0, none⟩ = some (.int .i64 (l : Int)) := j1.cell rfl; have x1 : w9.cell? ⟨w4.heap.size, 1, none⟩ = some (.int .i64 (l : Int)) := j1.cell rfl; have x2 : w9.cell? ⟨w4.heap.size, 2, none⟩ = some (.int .i64 u) := j1.cell rfl; have y0 : w9.cell? ⟨w4.heap.size + 1, 0, none⟩ = some (.int .i64 (t : Int)) := j2.cell rfl; have y1 : w9.cell? ⟨w4.heap.size + 1, 1, none⟩ = some (.int .i64 (t : Int)) := j2.cell rfl; have y2 : w9.cell? ⟨w4.heap.size + 1, 2, none⟩ = some (.int .i64 v) := j2.cell rfl; have z2 : w9.cell? ⟨w4.heap.size + 1 + 1, 2, none⟩ = some (.int .i64 m) := j3.cell rfl; have f1 := j1.free 2; have f2 := j2.free 2; have HO9 := Hd ho9; have HG9 := Hd hg9; have HAT9 := Hd hat9; have HJ := Hd (And.intro j1 (And.intro j2 j3)); clear ho9 hg9 hat9 hne9 j1 j2 j3)
     obtain ⟨W10, hW10⟩ : ∃ W10, (w9.setCell ⟨w4.heap.size, 2, none⟩ (.int .i64 (u - m))).setCell ⟨w4.heap.size + 1, 2, none⟩ (.int .i64 (v - m)) = W10 := ⟨_, rfl⟩
     rw [hW10]
     obtain ⟨hL9, hS9⟩ := HL7'.out.grown HOT7'.out.2 HG9.out HAT9.out
     have hL10 := (hL9.aside HL8.out (Nat.le_refl _) 2 (.int .i64 (u - m))).aside HL8.out (Nat.le_succ _) 2 (.int .i64 (v - m))
     rw [hW10] at hL10
     have hq9 : ∀ z, w4.heap.size ≤ z → z ≤ w4.heap.size + 1 → ∀ q, (Value.slice A9 (out.length + 1) c9).ownBlock = some q → q ≠ z := fun z h1 h2 q hq => by
      have hsz := HBW5.out.size
      rcases HAT9.out q hq with e | e
      ·have := (HOT8.out.1.blk q e).2; omega
      ·have h6 : w4.heap.size + 1 + 1 < w6.heap.size + 1 := by have := HD7.out.2.2.1.lt; simpa using this
       have h7 := HNB.out
       omega
     have hO10 := (HO9.out.aside (hq9 w4.heap.size (Nat.le_refl _) (Nat.le_succ _)) 2 (.int .i64 (u - m))).aside (hq9 (w4.heap.size + 1) (Nat.le_succ _) (Nat.le_refl _)) 2 (.int .i64 (v - m))
     rw [hW10] at hO10
     have hB10 : Below w.heap.size w W10 := by
      rw [← hW10]
      have h4 := HB8.out.size
      exact ((HB7'.out.grown HG9.out HB7'.out.size (fun q hq => (HOT7'.out.1.blk q hq).1)).setCell (p := ⟨w4.heap.size, 2, none⟩) h4 _).setCell (p := ⟨w4.heap.size + 1, 2, none⟩) (Nat.le_succ_of_le h4) _
     have hJ10 : Blk W10 (w4.heap.size + 1) #[.int .i64 (t : Int), .int .i64 (t : Int), .int .i64 (v - m)] 123 := by
      rw [← hW10]
      have := (HJ.out.2.1.other (p := ⟨w4.heap.size, 2, none⟩) (by show ¬ w4.heap.size + 1 = w4.heap.size; omega) (.int .i64 (u - m))).set 2 (.int .i64 (v - m))
      simpa using this
     have HL10 := Hd hL10
     have HO10 := Hd (And.intro hO10 hS9)
     have HB10 := Hd hB10
     have HJ10 := Hd hJ10
     clear hW10 hL9 hS9 hL10 hq9 hO10 hB10 hJ10 x0 x1 x2 y0 y1 y2 z2 f1 f2 hwu hwv
     refine (put_any W10 w.heap.size w1.heap.size xs5.length c5 _ xs7 (l, u - m) HL10.out.one HB10.out.size n4).mono ?_
     rintro e w11 ⟨⟨v11, rfl⟩, hP⟩
     obtain ⟨A11, c11, hL11, hb11, hk11, hs11⟩ := HL10.out.put1 hP
     have hj11 : Blk w11 (w4.heap.size + 1) #[.int .i64 (t : Int), .int .i64 (t : Int), .int .i64 (v - m)] 123 := HJ10.out.keep (hk11.block _ HJ10.out.lt (by
      rintro (e | e)
      ·have := HL8.out.one.blk.lt; omega
      ·have := (HL8.out.one.own.blk _ e).2; omega))
     have hO11 := HO10.out.1.apart hk11 (fun z hz => ⟨(HO10.out.2 z hz).1, (HO10.out.2 z hz).2.2.1⟩)
     have hS11 := hs11 _ HO10.out.2 (fun z hz => (HO10.out.1.blk z hz).2)
     have y0 : w11.cell? ⟨w4.heap.size + 1, 0, none⟩ = some (.int .i64 (t : Int)) := hj11.cell rfl
     have y1 : w11.cell? ⟨w4.heap.size + 1, 1, none⟩ = some (.int .i64 (t : Int)) := hj11.cell rfl
     have y2 : w11.cell? ⟨w4.heap.size + 1, 2, none⟩ = some (.int .i64 (v - m)) := hj11.cell rfl
     have HL11 := Hd hL11
     have HO11 := Hd (And.intro hO11 hS11)
     have HB11 := Hd (HB10.out.trans hb11)
     clear hP hL11 hb11 hk11 hs11 hj11 hO11 hS11
     go_wp2_with fail
     refine (put_any w11 w.heap.size (w1.heap.size + 1) ys6.length c6 _ ys7 (t, v - m) HL11.out.two HB11.out.size n5).mono ?_
     rintro e w12 ⟨⟨v12, rfl⟩, hP⟩
     obtain ⟨A12, c12, hL12, hb12, hk12, hs12⟩ := HL11.out.put2 hP
     have hO12 := HO11.out.1.apart hk12 (fun z hz => ⟨(HO11.out.2 z hz).2.1, (HO11.out.2 z hz).2.2.2⟩)
     have hS12 := hs12 _ HO11.out.2 (fun z hz => (HO11.out.1.blk z hz).2)
     have hnext := HST.out.1.next HST.out.2.2.1 (by rw [HEQ.out.2.2]; exact hd0) (by rw [HEQ.out.2.2]; exact HM.out.2.1) (by rw [HEQ.out.2.2]; exact HM.out.2.2)
     have hbd3 := HST.out.2.1.pay HST.out.2.2.1 (by rw [HEQ.out.2.2]; exact hd0)
     rw [HEQ.out.1, HEQ.out.2.1, HEQ.out.2.2] at hnext hbd3
     have hlen : (out ++ [(l, t, m)]).length = out.length + 1 := by simp
     have HFIN := Hd (show Settling w w12 w.heap.size w1.heap.size (w1.heap.size + 1) b (.slice A9 (out.length + 1) c9) from by
      refine ⟨_, f2, out ++ [(l, t, m)], A11, _, c11, _, A12, _, c12, _, A9, c9, by rw [hlen], hnext, hbd3, HSTEP.out _ _ HX7.out.2 HY7.out.2 HX7.out.1 HY7.out.1, hL12, ?_, by rw [hlen]; exact hS12, HB11.out.trans hb12⟩
      rw [hlen, List.map_append, List.map_cons, List.map_nil, HPT.out]
      exact hO12)
     clear hP hL12 hb12 hk12 hs12 hO12 hS12 hnext hbd3 hlen y0 y1 y2
     go_wp2_with fail
     exact ⟨HFIN.out, by simp [rowLen]; omega⟩
theorem TallyNew_any (a c v : Int) (w : World) : Calls Tryz.prog 203 #[.int .i64 a, .int .i64 c, .int .i64 v] w fun e w' =>
  ((DebtOk a c v ∧ e = .returned (.tuple #[(tallyOf a c v).val, .bool true])) ∨ (¬ DebtOk a c v ∧ e = .returned (.tuple #[noTl, .bool false]))) ∧ Below w.heap.size w w' := by
 have hbt : Blk (w.alloc (.cells #[.int .i64 0, .int .i64 0, .string ⟨#[]⟩, .string ⟨#[]⟩] 52)) w.heap.size #[.int .i64 0, .int .i64 0, .string ⟨#[]⟩, .string ⟨#[]⟩] 52 := Blk.new _ _ _
 have hbl : Below w.heap.size w (w.alloc (.cells #[.int .i64 0, .int .i64 0, .string ⟨#[]⟩, .string ⟨#[]⟩] 52)) := (Below.refl _ _).alloc (Nat.le_refl _) _
 have HT := Hd hbt
 have HB := Hd hbl
 clear hbt hbl
 go_enter Tryz.func203, Tryz.ntmps203
 go_wp2_with fail
 refine (tally_walk a c v _).mono ?_
 rintro e w1 ⟨hcase, hb1⟩
 obtain ⟨y0, y1, y2, y3, ok, he, hx⟩ : ∃ y0 y1 y2 y3 ok, e = .returned (.tuple #[.agg #[.int .i64 y0, .int .i64 y1, .string y2, .string y3], .bool ok]) ∧ ((DebtOk a c v ∧ Value.tuple #[.agg #[.int .i64 y0, .int .i64 y1, .string y2, .string y3], .bool ok] = .tuple #[(tallyOf a c v).val, .bool true]) ∨ (¬ DebtOk a c v ∧ Value.tuple #[.agg #[.int .i64 y0, .int .i64 y1, .string y2, .string y3], .bool ok] = .tuple #[noTl, .bool false])) := by
  rcases hcase with ⟨h, rfl⟩ | ⟨h, rfl⟩
  ·exact ⟨_, _, _, _, _, rfl, .inl ⟨h, rfl⟩⟩
  ·exact ⟨_, _, _, _, _, rfl, .inr ⟨h, rfl⟩⟩
 subst he
 clear hcase
 have hT1 := HT.out.next hb1
 have f0 := hT1.free 0
 have f1 := hT1.free 1
 have f2 := hT1.free 2
 have f3 := hT1.free 3
 have hf := hT1.set4 (.int .i64 y0) (.int .i64 y1) (.string y2) (.string y3)
 have HF := Hd hf
 have HBF := Hd (below_set4 (HB.out.trans (hb1.mono HB.out.size)) (Nat.le_refl w.heap.size) (.int .i64 y0) (.int .i64 y1) (.string y2) (.string y3))
 have t0 := hT1.cell (j := 0) (v := .int .i64 0) rfl
 have t1 := hT1.cell (j := 1) (v := .int .i64 0) rfl
 have t2 := hT1.cell (j := 2) (v := .string ⟨#[]⟩) rfl
 have t3 := hT1.cell (j := 3) (v := .string ⟨#[]⟩) rfl
 have HX := Hd hx
 clear hT1 hf hb1 hx
 go_wp2_with fail
 have g0 := HF.out.cell (j := 0) (v := .int .i64 y0) rfl
 have g1 := HF.out.cell (j := 1) (v := .int .i64 y1) rfl
 have g2 := HF.out.cell (j := 2) (v := .string y2) rfl
 have g3 := HF.out.cell (j := 3) (v := .string y3) rfl
 refine bodyPost_ret (v := .tuple #[.agg #[.int .i64 y0, .int .i64 y1, .string y2, .string y3], .bool ok]) (by simp [results, Tryz.results203, go_sem, g0, g1, g2, g3]) rfl ⟨?_, HBF.out⟩
 rcases HX.out with ⟨h, e⟩ | ⟨h, e⟩
 ·exact .inl ⟨h, congrArg _ e⟩
 ·exact .inr ⟨h, congrArg _ e⟩
instance (a c v : Int) : Decidable (DebtOk a c v) := by unfold DebtOk; exact inferInstance
def oweOk (ts : List Tl) (a c v : Int) : Bool := decide (DebtOk a c v) && decide (ts.length < 12)
def OweCmd (B0 tb : Nat) (bds ds : List Int) (ts' : List Tl) (ok' : Bool) (s : ByteArray) (ok : Bool) (w' : World) : Prop := ok = ok' ∧ (s = if ok' then okT else ⟨#[]⟩) ∧ Tab B0 w' tb bds ds ts'
theorem KeptT.grow {B0 n c : Nat} {w w' : World} {A : Option Addr} {ts : List Tl} (ho : OwnT w B0 A n c ts) (hg : w.grownBy w' (Value.slice A n c).ownBlock) : KeptT B0 w w' :=
 (Kept.of_grown hg).mono fun k _ e => by
  obtain ⟨cur, z, h⟩ := OwnR.ty ho e
  exact ⟨(OwnR.blk ho k e).1, cur, z, _, h, .inr rfl⟩
theorem blk_ty2 {w : World} {k : Nat} {cs cur : Array Value} {T e : TypeId} {z : Nat × Nat} (h : Blk w k cs T) (h1 : w.heap[k]? = some (.cells cur e z)) : e = T := by
 have h2 : some (Obj.cells cur e z) = some (Obj.cells cs T (0, 0)) := h1.symm.trans h
 exact (Obj.cells.inj (Option.some.inj h2)).2.1
theorem Tab.grow {B0 tb nt ct n' c' : Nat} {w w' : World} {bds ds : List Int} {ts ts' : List Tl} {At A' : Option Addr} (h : Tab B0 w tb bds ds ts) (ho : OwnT w B0 At nt ct ts)
  (hg : w.grownBy w' (Value.slice At nt ct).ownBlock) (ho' : OwnT w' B0 A' n' c' ts') : Tab B0 (w'.setCell ⟨tb, 3, none⟩ (.slice A' n' c')) tb bds ds ts' := by
 obtain ⟨hB, Ab, nb, cb, A1, c1, A2, c2, At0, nt0, ct0, g0, g1, g2, g3, g4⟩ := h
 have hne : some tb ≠ (Value.slice At nt ct).ownBlock := fun e => by
  obtain ⟨cur, z, h1⟩ := OwnR.ty ho e.symm
  exact absurd (blk_ty2 g0 h1) (by decide)
 have g0' := g0.grown hg hne
 have row : ∀ {A : Option Addr} {n c : Nat} {xs : List Int}, Own w B0 A n c xs → Own w' B0 A n c xs := fun hr => (hr.r.kept hg fun q hq e => by
  obtain ⟨cur, z, h1⟩ := OwnR.ty hr.r hq
  obtain ⟨cur2, z2, h2⟩ := OwnR.ty ho e
  rw [h1] at h2
  have := (Obj.cells.inj (Option.some.inj h2)).2.1
  exact absurd this (by decide))
 exact ⟨hB, Ab, nb, cb, A1, c1, A2, c2, A', n', c', g0'.set 3 _, (row g1).r.far g0' (by decide) _ _, (row g2).r.far g0' (by decide) _ _, (row g3).r.far g0' (by decide) _ _, ho'.far g0' (by decide) _ _⟩
theorem tally_cells {t : Tl} {y0 y1 : Int} {y2 y3 : ByteArray} {ok b : Bool} (h : Value.tuple #[.agg #[.int .i64 y0, .int .i64 y1, .string y2, .string y3], .bool ok] = .tuple #[t.val, .bool b]) : t.cells = [.int .i64 y0, .int .i64 y1, .string y2, .string y3] := by
 have h1 := Value.tuple.inj h
 simp [Tl.val] at h1
 obtain ⟨⟨h2, h3, h4, h5⟩, _⟩ := h1
 simp [Tl.cells, h2, h3, h4, h5]
theorem tal_res {a c v : Int} {e : Ending} (h : (DebtOk a c v ∧ e = .returned (.tuple #[(tallyOf a c v).val, .bool true])) ∨ (¬ DebtOk a c v ∧ e = .returned (.tuple #[noTl, .bool false]))) :
  ∃ y0 y1 y2 y3 ok, e = .returned (.tuple #[.agg #[.int .i64 y0, .int .i64 y1, .string y2, .string y3], .bool ok]) ∧ ((DebtOk a c v ∧ Value.tuple #[.agg #[.int .i64 y0, .int .i64 y1, .string y2, .string y3], .bool ok] = .tuple #[(tallyOf a c v).val, .bool true]) ∨ (¬ DebtOk a c v ∧ Value.tuple #[.agg #[.int .i64 y0, .int .i64 y1, .string y2, .string y3], .bool ok] = .tuple #[noTl, .bool false])) := by
 rcases h with ⟨h, rfl⟩ | ⟨h, rfl⟩
 ·exact ⟨_, _, _, _, _, rfl, .inl ⟨h, rfl⟩⟩
 ·exact ⟨_, _, _, _, _, rfl, .inr ⟨h, rfl⟩⟩
theorem owe_app {B0 nt ct : Nat} {At : Option Addr} {ts : List Tl} {t : Tl} {y0 y1 : Int} {y2 y3 : ByteArray} {W3 : World} (ho3 : OwnT W3 B0 At nt ct ts) (hn : nt ≤ 12) (hB : B0 ≤ W3.heap.size) (hcs : t.cells = [.int .i64 y0, .int .i64 y1, .string y2, .string y3]) :
  ∃ A5 c5 w5, (Builtin.append_ #[46, 46] 46 #[.slice At nt ct, .slice (some ⟨W3.heap.size, 0, none⟩) 1 1]).run Tryz.prog (W3.alloc (.cells #[.int .i64 y0, .int .i64 y1, .string y2, .string y3] 52)).drew = .ok (.slice A5 (nt + 1) c5) w5 ∧ OwnT w5 B0 A5 (nt + 1) c5 (ts ++ [t]) ∧ W3.grownBy w5 (Value.slice At nt ct).ownBlock := by
 obtain ⟨i0, hi, hz0, hz1, hz2⟩ := info_parts tally_info
 obtain ⟨v5, w5, hr, ho5, hg5, -⟩ := run_append_own_at (P := Tryz.prog) (W3.alloc (.cells #[.int .i64 y0, .int .i64 y1, .string y2, .string y3] 52)).drew B0 46 46 52 i0 _ 4 48 Tryz.underlying46 hi hz0 hz1 hz2 rfl (by decide) (.slice At nt ct) nt (TV ts) (ho3.alloc _).drew.1 ⟨W3.heap.size, 0, none⟩ 1 1 [.int .i64 y0, .int .i64 y1, .string y2, .string y3] rfl (fun j u hj => by rw [add_row]; have := cell_of_row _ W3.heap.size j _ _ _ (heap_alloc_new W3 (.cells #[.int .i64 y0, .int .i64 y1, .string y2, .string y3] 52)); rw [World.cell?_drew, this]; simpa using hj) (by intro u hu; simp at hu; rcases hu with rfl | rfl | rfl | rfl <;> rfl) (by unfold maxLen; omega) (by omega) (by simp; omega)
 rw [← hcs, ← TV_one, ← TV_append] at ho5
 obtain ⟨A5, c5, rfl, ho5'⟩ := shape_own ho5 (by omega)
 exact ⟨A5, c5, w5, hr, ho5', ⟨hg5.os, hg5.tape, hg5.output, by have := hg5.size; simp at this; omega, fun k hk hne => (hg5.block k (by simp; omega) hne).trans (Below.heap_alloc W3 _ k hk)⟩⟩
theorem owe_cmd (B0 tb : Nat) (bds ds : List Int) (ts : List Tl) (a c v : Int) (A0 : Option Addr) (n0 : Nat) (w : World) (hn : Own w B0 A0 3 n0 [a, c, v]) (h : Tab B0 w tb bds ds ts) (hw : B0 ≤ w.heap.size) (Q : Ending → World → Prop)
  (hQ : Q = CmdPost B0 (OweCmd B0 tb bds ds (if oweOk ts a c v then ts ++ [tallyOf a c v] else ts) (oweOk ts a c v)) w) :
  Calls Tryz.prog 167 #[.pointer (some ⟨tb, 0, none⟩), .slice A0 3 n0] w Q := by
 obtain ⟨hB0, Ab, nb, cb, A1, c1, A1', c1', At, nt, ct, g0, g1, g2, g3, g4⟩ := id h
 obtain ⟨g, rfl, _, hg, hcell, _⟩ := hn.at_ (by omega)
 have d0 := hcell 0 a rfl
 have d1 := hcell 1 c rfl
 have d2 := hcell 2 v rfl
 have hnt : ts.length = nt := (OwnT.tals g4).len
 have HT := Hd h
 have HG0 := Hd g0
 have HG4 := Hd g4
 have HW := Hd hw
 have HQ := Hd hQ
 have HN := Hd hnt
 have HB0 := Hd hB0
 clear h hB0 g0 g1 g2 g3 g4 hw hQ hn hcell hnt
 go_enter Tryz.func167, Tryz.ntmps167
 go_wp2_with fail
 refine wp_region_held_drew (S := (fun w' => w'.cell? ⟨g, 0, none⟩ = some (.int .i64 a) ∧ w'.cell? ⟨g, 1, none⟩ = some (.int .i64 c) ∧ w'.cell? ⟨g, 2, none⟩ = some (.int .i64 v))) (by kernel_rfl) ?_ (fun hHeld => ?_)
 ·(try dsimp only)
  all_goals (first | (refine ⟨?_, ?_, ?_⟩ <;> go_simp) | go_keep)
 refine Tk 0 (some 9) (v := ?v1) rfl (Or.inl ⟨by rfl, ?hy1⟩) (by first | assumption | exact hHeld) ?rest1
 case hy1 => ((intro w0 hSw; (try dsimp only at hSw); go_simp) <;> with_reducible rfl)
 (try simp only [Tp0, Tp1, Tp2, Tp3, Tp4])
 refine Tk 1 (some 10) (v := ?v2) rfl (Or.inl ⟨by rfl, ?hy2⟩) (by first | assumption | exact hHeld) ?rest2
 case hy2 => ((intro w0 hSw; (try dsimp only at hSw); go_simp) <;> with_reducible rfl)
 (try simp only [Tp0, Tp1, Tp2, Tp3, Tp4])
 refine Tk 2 (some 11) (v := ?v3) rfl (Or.inl ⟨by rfl, ?hy3⟩) (by first | assumption | exact hHeld) ?rest3
 case hy3 => ((intro w0 hSw; (try dsimp only at hSw); go_simp) <;> with_reducible rfl)
 (try simp only [Tp0, Tp1, Tp2, Tp3, Tp4])
 refine Tk 3 (some 12) (v := ?v4) rfl (Or.inl ⟨by rfl, ?hy4⟩) (by first | assumption | exact hHeld) ?rest4
 case hy4 => ((intro w0 hSw; (try dsimp only at hSw); go_simp) <;> with_reducible rfl)
 (try simp only [Tp0, Tp1, Tp2, Tp3, Tp4])
 refine Tk 4 (some 13) (v := ?v5) rfl (Or.inl ⟨by rfl, ?hy5⟩) (by first | assumption | exact hHeld) ?rest5
 case hy5 => ((intro w0 hSw; (try dsimp only at hSw); go_simp) <;> with_reducible rfl)
 (try simp only [Tp0, Tp1, Tp2, Tp3, Tp4])
 refine Tk 5 (some 14) (v := ?v6) rfl (Or.inl ⟨by rfl, ?hy6⟩) (by first | assumption | exact hHeld) ?rest6
 case hy6 => ((intro w0 hSw; (try dsimp only at hSw); go_simp) <;> with_reducible rfl)
 (try simp only [Tp0, Tp1, Tp2, Tp3, Tp4])
 refine Tk 6 (some 15) (v := ?v7) rfl (Or.inl ⟨by rfl, ?hy7⟩) (by first | assumption | exact hHeld) ?rest7
 case hy7 => ((intro w0 hSw; (try dsimp only at hSw); go_simp) <;> with_reducible rfl)
 (try simp only [Tp0, Tp1, Tp2, Tp3, Tp4])
 refine Tk 7 (some 16) (v := ?v8) rfl (Or.inl ⟨by rfl, ?hy8⟩) (by first | assumption | exact hHeld) ?rest8
 case hy8 => ((intro w0 hSw; (try dsimp only at hSw); go_simp) <;> with_reducible rfl)
 (try simp only [Tp0, Tp1, Tp2, Tp3, Tp4])
 refine Tk 8 (some 17) (v := ?v9) rfl (Or.inl ⟨by rfl, ?hy9⟩) (by first | assumption | exact hHeld) ?rest9
 case hy9 => ((intro w0 hSw; (try dsimp only at hSw); go_simp) <;> with_reducible rfl)
 (try simp only [Tp0, Tp1, Tp2, Tp3, Tp4])
 refine wpAnyH_ready (rs := [9, 13]) (by kernel_rfl) (by simp) ?_
 refine AllReadyH.cons (o := ⟨some 18, _, _, _, _, _⟩) rfl (fun K hK => ?_) ?_
 ·go_simp
  refine (TallyNew_any a c v _).mono ?_
  rintro e w2 ⟨hcase, hb2⟩
  obtain ⟨y0, y1, y2, y3, ok, rfl, hx⟩ := tal_res hcase
  have HX := Hd hx
  clear hcase hx
  have hbw : Below w.heap.size w w2 := (Below.refl w.heap.size w).drew.trans hb2
  have e0 := (hbw.cell (p := ⟨g, 0, none⟩) hg).trans d0
  have e1 := (hbw.cell (p := ⟨g, 1, none⟩) hg).trans d1
  have e2 := (hbw.cell (p := ⟨g, 2, none⟩) hg).trans d2
  have hg2 : g < w2.heap.size := Nat.lt_of_lt_of_le hg hbw.size
  (try go_wp2_with fail)
  refine hK.out _ _ ?_ (fun hHeld10 => ?_)
  ·(try dsimp only)
   all_goals (first | (refine ⟨?_, ?_, ?_⟩ <;> go_simp) | go_keep)
  clear hK K
  (try clear hHeld)
  (try simp only [Tp0, Tp1, Tp2, Tp3, Tp4])
  refine Tk 10 (some 8) (v := ?v11) rfl (Or.inl ⟨by rfl, ?hy11⟩) (by first | assumption | exact hHeld10) ?rest11
  case hy11 => ((intro w0 hSw; (try dsimp only at hSw); go_simp) <;> with_reducible rfl)
  (try simp only [Tp0, Tp1, Tp2, Tp3, Tp4])
  refine Tk 11 (some 19) (v := ?v12) rfl (Or.inl ⟨by rfl, ?hy12⟩) (by first | assumption | exact hHeld10) ?rest12
  case hy12 => ((intro w0 hSw; (try dsimp only at hSw); go_simp) <;> with_reducible rfl)
  (try simp only [Tp0, Tp1, Tp2, Tp3, Tp4])
  refine Tk 12 (some 20) (v := ?v13) rfl (Or.inl ⟨by rfl, ?hy13⟩) (by first | assumption | exact hHeld10) ?rest13
  case hy13 => ((intro w0 hSw; (try dsimp only at hSw); go_simp) <;> with_reducible rfl)
  (try simp only [Tp0, Tp1, Tp2, Tp3, Tp4])
  refine wpAnyH_ready (rs := [13]) (by kernel_rfl) (by simp) ?_
  refine AllReadyH.cons (o := ⟨some 6, _, _, _, _, _⟩) rfl (fun K hK => ?_) ?_
  ·go_simp
   refine hK.out _ _ ?_ (fun hHeld14 => ?_)
   ·(try dsimp only)
    all_goals (first | (refine ⟨?_, ?_, ?_⟩ <;> go_simp) | go_keep)
   clear hK K
   (try clear hHeld10)
   (try simp only [Tp0, Tp1, Tp2, Tp3, Tp4])
   refine wpAnyH_ready (rs := [14]) (by kernel_rfl) (by simp) ?_
   refine AllReadyH.cons (o := ⟨none, _, _, _, _, _⟩) rfl (fun K hK => ?_) ?_
   ·go_simp
    refine hK.out _ _ ?_ (fun hHeld15 => ?_)
    ·(try dsimp only)
     all_goals (first | (refine ⟨?_, ?_, ?_⟩ <;> go_simp) | go_keep)
    clear hK K
    (try clear hHeld14)
    (try simp only [Tp0, Tp1, Tp2, Tp3, Tp4])
    refine Tk 15 (some 7) (v := ?v16) rfl (Or.inl ⟨by rfl, ?hy16⟩) (by first | assumption | exact hHeld15) ?rest16
    case hy16 => ((intro w0 hSw; (try dsimp only at hSw); go_simp) <;> with_reducible rfl)
    (try simp only [Tp0, Tp1, Tp2, Tp3, Tp4])
    refine wpAnyH_done (by kernel_rfl) ?_ _
    obtain ⟨W3, hW3⟩ : ∃ V, w2.alloc (.cells #[.int .i64 y0, .int .i64 y1, .string y2, .string y3] 52) = V := ⟨_, rfl⟩
    have hbox : Blk W3 w2.heap.size #[.int .i64 y0, .int .i64 y1, .string y2, .string y3] 52 := by rw [← hW3]; exact Blk.new _ _ _
    have hbl : Below w.heap.size w W3 := by rw [← hW3]; exact hbw.alloc hbw.size _
    rw [hW3]
    obtain ⟨b, hb⟩ : ∃ b, w2.heap.size = b := ⟨_, rfl⟩
    rw [hb] at hbox ⊢
    have g3 := (HG0.out.next hbl).cell (j := 3) (v := .slice At nt ct) rfl
    have HBX := Hd (And.intro hbox (And.intro hbl trivial))
    clear hbox hbl hbw hb2 hW3 hb e0 e1 e2 hg2
    rcases HX.out with ⟨hdo, hv⟩ | ⟨hdo, hv⟩
    rotate_left
    ·have hno : oweOk ts a c v = false := by simp [oweOk, hdo]
     have hok : ok = false := by have h1 := congrArg (fun x : Value => match x with | .tuple t => t[1]? | _ => Option.none) hv; simpa using h1
     subst hok
     have HNO := Hd hno
     clear hno hv hdo
     go_wp2_with fail
     try go_ret2
     rw [HQ.out, HNO.out]
     exact ⟨_, _, rfl, ⟨rfl, rfl, HT.out.next HBX.out.2.1⟩, KeptT.of_below HBX.out.2.1⟩
    have hok : ok = true := by have h1 := congrArg (fun x : Value => match x with | .tuple t => t[1]? | _ => Option.none) hv; simpa using h1
    subst hok
    have HV := Hd hv
    have HDO := Hd hdo
    clear hv hdo
    by_cases hlt : 12 ≤ nt
    ·have hno : oweOk ts a c v = false := by have := HN.out; simp [oweOk]; omega
     have HNO := Hd hno
     have h12 : (nt : Int) ≥ 12 := by omega
     clear hno
     go_wp2_with fail
     try go_ret2
     rw [HQ.out, HNO.out]
     exact ⟨_, _, rfl, ⟨rfl, rfl, HT.out.next HBX.out.2.1⟩, KeptT.of_below HBX.out.2.1⟩
    have h12 : ¬ (nt : Int) ≥ 12 := by omega
    have hyes : oweOk ts a c v = true := by have := HN.out; have := HDO.out; simp [oweOk, this]; omega
    have HY := Hd hyes
    clear hyes
    have q0 := HBX.out.1.cell (j := 0) (v := .int .i64 y0) rfl
    have q1 := HBX.out.1.cell (j := 1) (v := .int .i64 y1) rfl
    have q2 := HBX.out.1.cell (j := 2) (v := .string y2) rfl
    have q3 := HBX.out.1.cell (j := 3) (v := .string y3) rfl
    have hblt := HBX.out.1.lt
    have hg3 := HG0.out.next HBX.out.2.1
    have htl := hg3.lt
    go_wp2_with fail
    refine wp_region_held_drew (S := (fun _ => True)) (by kernel_rfl) ?_ (fun hHeld => ?_)
    ·(try dsimp only)
     all_goals (exact True.intro)
    refine Tk 0 (some 31) (v := ?v1001) rfl (Or.inl ⟨by rfl, ?hy1001⟩) (by first | assumption | exact hHeld) ?rest1001
    case hy1001 => ((intro w0 hSw; (try dsimp only at hSw); go_simp) <;> with_reducible rfl)
    (try simp only [Tp0, Tp1, Tp2, Tp3, Tp4])
    refine Tk 1 (some 32) (v := ?v1002) rfl (Or.inl ⟨by rfl, ?hy1002⟩) (by first | assumption | exact hHeld) ?rest1002
    case hy1002 => ((intro w0 hSw; (try dsimp only at hSw); go_simp) <;> with_reducible rfl)
    (try simp only [Tp0, Tp1, Tp2, Tp3, Tp4])
    refine Tk 2 (some 33) (v := ?v1003) rfl (Or.inl ⟨by rfl, ?hy1003⟩) (by first | assumption | exact hHeld) ?rest1003
    case hy1003 => ((intro w0 hSw; (try dsimp only at hSw); go_simp) <;> with_reducible rfl)
    (try simp only [Tp0, Tp1, Tp2, Tp3, Tp4])
    refine Tk 3 (some 34) (v := ?v1004) rfl (Or.inl ⟨by rfl, ?hy1004⟩) (by first | assumption | exact hHeld) ?rest1004
    case hy1004 => ((intro w0 hSw; (try dsimp only at hSw); go_simp) <;> with_reducible rfl)
    (try simp only [Tp0, Tp1, Tp2, Tp3, Tp4])
    refine wpAnyH_ready (rs := [4, 5]) (by kernel_rfl) (by simp) ?_
    refine AllReadyH.cons (o := ⟨some 35, _, _, _, _, _⟩) rfl (fun K hK => ?_) ?_
    ·go_simp
     refine hK.out _ _ ?_ (fun hHeld1005 => ?_)
     ·(try dsimp only)
      all_goals (exact True.intro)
     clear hK K
     (try clear hHeld)
     (try simp only [Tp0, Tp1, Tp2, Tp3, Tp4])
     refine wpAnyH_ready (rs := [5]) (by kernel_rfl) (by simp) ?_
     refine AllReadyH.cons (o := ⟨some 36, _, _, _, _, _⟩) rfl (fun K hK => ?_) ?_
     ·go_simp
      refine hK.out _ _ ?_ (fun hHeld1006 => ?_)
      ·(try dsimp only)
       all_goals (exact True.intro)
      clear hK K
      (try clear hHeld1005)
      (try simp only [Tp0, Tp1, Tp2, Tp3, Tp4])
      refine wpAnyH_ready (rs := [6]) (by kernel_rfl) (by simp) ?_
      refine AllReadyH.cons (o := ⟨some 37, _, _, _, _, _⟩) rfl (fun K hK => ?_) ?_
      ·go_simp
       refine hK.out _ _ ?_ (fun hHeld1007 => ?_)
       ·(try dsimp only)
        all_goals (exact True.intro)
       clear hK K
       (try clear hHeld1006)
       (try simp only [Tp0, Tp1, Tp2, Tp3, Tp4])
       refine wpAnyH_ready (rs := [7]) (by kernel_rfl) (by simp) ?_
       refine AllReadyH.cons (o := ⟨some 38, _, _, _, _, _⟩) rfl (fun K hK => ?_) ?_
       ·rw [if_pos (by rfl)]
        unfold Oper.wp execOp
        simp only [resolve, invoke, builtin, Sem.run_bind, Sem.run_pure, Result.andThen_ok, List.map_toArray, List.map_cons, List.map_nil]
        have ho3 := HG4.out.next HBX.out.2.1
        obtain ⟨A5, c5, w5, hr, ho5', hg5'⟩ := owe_app ho3 (by omega) (by have := HBX.out.2.1.size; have := HW.out; omega) (tally_cells HV.out)
        change Oper.upon _ _ _ _ _ ((Sem.run Tryz.prog (Builtin.append_ #[46, 46] 46 #[.slice At nt ct, .slice (some ⟨W3.heap.size, 0, none⟩) 1 1]) (W3.alloc (.cells #[.int .i64 y0, .int .i64 y1, .string y2, .string y3] 52)).drew).andThen _)
        rw [hr]
        simp only [Result.andThen_ok]
        rw [Oper.upon_value]
        have hfin := Tab.grow (HT.out.next HBX.out.2.1) ho3 hg5' ho5'
        have htb5 : Blk w5 tb #[.slice Ab nb cb, .slice A1 4 c1, .slice A1' 4 c1', .slice At nt ct] 62 := hg3.grown hg5' (fun e => by obtain ⟨cur, z, h1⟩ := OwnR.ty ho3 e.symm; exact absurd (blk_ty2 hg3 h1) (by decide))
        have c53 := htb5.cell (j := 3) (v := .slice At nt ct) rfl
        have f53 := htb5.free 3
        have HFIN := Hd (And.intro hfin (((KeptT.of_below HBX.out.2.1).trans (KeptT.grow ho3 hg5')).trans (KeptT.set htb5 HB0.out 3 (.slice A5 (nt + 1) c5))))
        clear hr ho3 ho5' hg5' hfin htb5
        refine hK.out _ _ ?_ (fun hHeld1008 => ?_)
        ·(try dsimp only)
         all_goals (exact True.intro)
        clear hK K
        (try clear hHeld1007)
        (try simp only [Tp0, Tp1, Tp2, Tp3, Tp4])
        refine Tk 8 (some 39) (v := ?v1009) rfl (Or.inl ⟨by rfl, ?hy1009⟩) (by first | assumption | exact hHeld1008) ?rest1009
        case hy1009 => ((intro w0 hSw; (try dsimp only at hSw); go_simp) <;> with_reducible rfl)
        (try simp only [Tp0, Tp1, Tp2, Tp3, Tp4])
        refine Tk 9 (some 40) (v := ?v1010) rfl (Or.inl ⟨by rfl, ?hy1010⟩) (by first | assumption | exact hHeld1008) ?rest1010
        case hy1010 => ((intro w0 hSw; (try dsimp only at hSw); go_simp) <;> with_reducible rfl)
        (try simp only [Tp0, Tp1, Tp2, Tp3, Tp4])
        refine wpAnyH_ready (rs := [10]) (by kernel_rfl) (by simp) ?_
        refine AllReadyH.cons (o := ⟨none, _, _, _, _, _⟩) rfl (fun K hK => ?_) ?_
        ·go_simp
         refine hK.out _ _ ?_ (fun hHeld1011 => ?_)
         ·(try dsimp only)
          all_goals (exact True.intro)
         clear hK K
         (try clear hHeld1008)
         (try simp only [Tp0, Tp1, Tp2, Tp3, Tp4])
         refine wpAnyH_done (by kernel_rfl) ?_ _
         go_wp2_with fail
         try go_ret2
         rw [HQ.out, HY.out]
         exact ⟨_, _, rfl, ⟨rfl, rfl, HFIN.out.1⟩, HFIN.out.2⟩
        exact AllReadyH.nil
       exact AllReadyH.nil
      exact AllReadyH.nil
     exact AllReadyH.nil
    refine AllReadyH.cons (o := ⟨some 36, _, _, _, _, _⟩) rfl (fun K hK => ?_) ?_
    ·go_simp
     refine hK.out _ _ ?_ (fun hHeld1012 => ?_)
     ·(try dsimp only)
      all_goals (exact True.intro)
     clear hK K
     (try clear hHeld)
     (try simp only [Tp0, Tp1, Tp2, Tp3, Tp4])
     refine wpAnyH_ready (rs := [4, 6]) (by kernel_rfl) (by simp) ?_
     refine AllReadyH.cons (o := ⟨some 35, _, _, _, _, _⟩) rfl (fun K hK => ?_) ?_
     ·go_simp
      refine hK.out _ _ ?_ (fun hHeld1013 => ?_)
      ·(try dsimp only)
       all_goals (exact True.intro)
      clear hK K
      (try clear hHeld1012)
      (try simp only [Tp0, Tp1, Tp2, Tp3, Tp4])
      refine wpAnyH_ready (rs := [6]) (by kernel_rfl) (by simp) ?_
      refine AllReadyH.cons (o := ⟨some 37, _, _, _, _, _⟩) rfl (fun K hK => ?_) ?_
      ·go_simp
       refine hK.out _ _ ?_ (fun hHeld1014 => ?_)
       ·(try dsimp only)
        all_goals (exact True.intro)
       clear hK K
       (try clear hHeld1013)
       (try simp only [Tp0, Tp1, Tp2, Tp3, Tp4])
       refine wpAnyH_ready (rs := [7]) (by kernel_rfl) (by simp) ?_
       refine AllReadyH.cons (o := ⟨some 38, _, _, _, _, _⟩) rfl (fun K hK => ?_) ?_
       ·rw [if_pos (by rfl)]
        unfold Oper.wp execOp
        simp only [resolve, invoke, builtin, Sem.run_bind, Sem.run_pure, Result.andThen_ok, List.map_toArray, List.map_cons, List.map_nil]
        have ho3 := HG4.out.next HBX.out.2.1
        obtain ⟨A5, c5, w5, hr, ho5', hg5'⟩ := owe_app ho3 (by omega) (by have := HBX.out.2.1.size; have := HW.out; omega) (tally_cells HV.out)
        change Oper.upon _ _ _ _ _ ((Sem.run Tryz.prog (Builtin.append_ #[46, 46] 46 #[.slice At nt ct, .slice (some ⟨W3.heap.size, 0, none⟩) 1 1]) (W3.alloc (.cells #[.int .i64 y0, .int .i64 y1, .string y2, .string y3] 52)).drew).andThen _)
        rw [hr]
        simp only [Result.andThen_ok]
        rw [Oper.upon_value]
        have hfin := Tab.grow (HT.out.next HBX.out.2.1) ho3 hg5' ho5'
        have htb5 : Blk w5 tb #[.slice Ab nb cb, .slice A1 4 c1, .slice A1' 4 c1', .slice At nt ct] 62 := hg3.grown hg5' (fun e => by obtain ⟨cur, z, h1⟩ := OwnR.ty ho3 e.symm; exact absurd (blk_ty2 hg3 h1) (by decide))
        have c53 := htb5.cell (j := 3) (v := .slice At nt ct) rfl
        have f53 := htb5.free 3
        have HFIN := Hd (And.intro hfin (((KeptT.of_below HBX.out.2.1).trans (KeptT.grow ho3 hg5')).trans (KeptT.set htb5 HB0.out 3 (.slice A5 (nt + 1) c5))))
        clear hr ho3 ho5' hg5' hfin htb5
        refine hK.out _ _ ?_ (fun hHeld1015 => ?_)
        ·(try dsimp only)
         all_goals (exact True.intro)
        clear hK K
        (try clear hHeld1014)
        (try simp only [Tp0, Tp1, Tp2, Tp3, Tp4])
        refine Tk 8 (some 39) (v := ?v1016) rfl (Or.inl ⟨by rfl, ?hy1016⟩) (by first | assumption | exact hHeld1015) ?rest1016
        case hy1016 => ((intro w0 hSw; (try dsimp only at hSw); go_simp) <;> with_reducible rfl)
        (try simp only [Tp0, Tp1, Tp2, Tp3, Tp4])
        refine Tk 9 (some 40) (v := ?v1017) rfl (Or.inl ⟨by rfl, ?hy1017⟩) (by first | assumption | exact hHeld1015) ?rest1017
        case hy1017 => ((intro w0 hSw; (try dsimp only at hSw); go_simp) <;> with_reducible rfl)
        (try simp only [Tp0, Tp1, Tp2, Tp3, Tp4])
        refine wpAnyH_ready (rs := [10]) (by kernel_rfl) (by simp) ?_
        refine AllReadyH.cons (o := ⟨none, _, _, _, _, _⟩) rfl (fun K hK => ?_) ?_
        ·go_simp
         refine hK.out _ _ ?_ (fun hHeld1018 => ?_)
         ·(try dsimp only)
          all_goals (exact True.intro)
         clear hK K
         (try clear hHeld1015)
         (try simp only [Tp0, Tp1, Tp2, Tp3, Tp4])
         refine wpAnyH_done (by kernel_rfl) ?_ _
         go_wp2_with fail
         try go_ret2
         rw [HQ.out, HY.out]
         exact ⟨_, _, rfl, ⟨rfl, rfl, HFIN.out.1⟩, HFIN.out.2⟩
        exact AllReadyH.nil
       exact AllReadyH.nil
      exact AllReadyH.nil
     refine AllReadyH.cons (o := ⟨some 37, _, _, _, _, _⟩) rfl (fun K hK => ?_) ?_
     ·go_simp
      refine hK.out _ _ ?_ (fun hHeld1019 => ?_)
      ·(try dsimp only)
       all_goals (exact True.intro)
      clear hK K
      (try clear hHeld1012)
      (try simp only [Tp0, Tp1, Tp2, Tp3, Tp4])
      refine wpAnyH_ready (rs := [4]) (by kernel_rfl) (by simp) ?_
      refine AllReadyH.cons (o := ⟨some 35, _, _, _, _, _⟩) rfl (fun K hK => ?_) ?_
      ·go_simp
       refine hK.out _ _ ?_ (fun hHeld1020 => ?_)
       ·(try dsimp only)
        all_goals (exact True.intro)
       clear hK K
       (try clear hHeld1019)
       (try simp only [Tp0, Tp1, Tp2, Tp3, Tp4])
       refine wpAnyH_ready (rs := [7]) (by kernel_rfl) (by simp) ?_
       refine AllReadyH.cons (o := ⟨some 38, _, _, _, _, _⟩) rfl (fun K hK => ?_) ?_
       ·rw [if_pos (by rfl)]
        unfold Oper.wp execOp
        simp only [resolve, invoke, builtin, Sem.run_bind, Sem.run_pure, Result.andThen_ok, List.map_toArray, List.map_cons, List.map_nil]
        have ho3 := HG4.out.next HBX.out.2.1
        obtain ⟨A5, c5, w5, hr, ho5', hg5'⟩ := owe_app ho3 (by omega) (by have := HBX.out.2.1.size; have := HW.out; omega) (tally_cells HV.out)
        change Oper.upon _ _ _ _ _ ((Sem.run Tryz.prog (Builtin.append_ #[46, 46] 46 #[.slice At nt ct, .slice (some ⟨W3.heap.size, 0, none⟩) 1 1]) (W3.alloc (.cells #[.int .i64 y0, .int .i64 y1, .string y2, .string y3] 52)).drew).andThen _)
        rw [hr]
        simp only [Result.andThen_ok]
        rw [Oper.upon_value]
        have hfin := Tab.grow (HT.out.next HBX.out.2.1) ho3 hg5' ho5'
        have htb5 : Blk w5 tb #[.slice Ab nb cb, .slice A1 4 c1, .slice A1' 4 c1', .slice At nt ct] 62 := hg3.grown hg5' (fun e => by obtain ⟨cur, z, h1⟩ := OwnR.ty ho3 e.symm; exact absurd (blk_ty2 hg3 h1) (by decide))
        have c53 := htb5.cell (j := 3) (v := .slice At nt ct) rfl
        have f53 := htb5.free 3
        have HFIN := Hd (And.intro hfin (((KeptT.of_below HBX.out.2.1).trans (KeptT.grow ho3 hg5')).trans (KeptT.set htb5 HB0.out 3 (.slice A5 (nt + 1) c5))))
        clear hr ho3 ho5' hg5' hfin htb5
        refine hK.out _ _ ?_ (fun hHeld1021 => ?_)
        ·(try dsimp only)
         all_goals (exact True.intro)
        clear hK K
        (try clear hHeld1020)
        (try simp only [Tp0, Tp1, Tp2, Tp3, Tp4])
        refine Tk 8 (some 39) (v := ?v1022) rfl (Or.inl ⟨by rfl, ?hy1022⟩) (by first | assumption | exact hHeld1021) ?rest1022
        case hy1022 => ((intro w0 hSw; (try dsimp only at hSw); go_simp) <;> with_reducible rfl)
        (try simp only [Tp0, Tp1, Tp2, Tp3, Tp4])
        refine Tk 9 (some 40) (v := ?v1023) rfl (Or.inl ⟨by rfl, ?hy1023⟩) (by first | assumption | exact hHeld1021) ?rest1023
        case hy1023 => ((intro w0 hSw; (try dsimp only at hSw); go_simp) <;> with_reducible rfl)
        (try simp only [Tp0, Tp1, Tp2, Tp3, Tp4])
        refine wpAnyH_ready (rs := [10]) (by kernel_rfl) (by simp) ?_
        refine AllReadyH.cons (o := ⟨none, _, _, _, _, _⟩) rfl (fun K hK => ?_) ?_
        ·go_simp
         refine hK.out _ _ ?_ (fun hHeld1024 => ?_)
         ·(try dsimp only)
          all_goals (exact True.intro)
         clear hK K
         (try clear hHeld1021)
         (try simp only [Tp0, Tp1, Tp2, Tp3, Tp4])
         refine wpAnyH_done (by kernel_rfl) ?_ _
         go_wp2_with fail
         try go_ret2
         rw [HQ.out, HY.out]
         exact ⟨_, _, rfl, ⟨rfl, rfl, HFIN.out.1⟩, HFIN.out.2⟩
        exact AllReadyH.nil
       exact AllReadyH.nil
      exact AllReadyH.nil
     exact AllReadyH.nil
    exact AllReadyH.nil
   exact AllReadyH.nil
  exact AllReadyH.nil
 refine AllReadyH.cons (o := ⟨some 6, _, _, _, _, _⟩) rfl (fun K hK => ?_) ?_
 ·go_simp
  refine hK.out _ _ ?_ (fun hHeld17 => ?_)
  ·(try dsimp only)
   all_goals (first | (refine ⟨?_, ?_, ?_⟩ <;> go_simp) | go_keep)
  clear hK K
  (try clear hHeld)
  (try simp only [Tp0, Tp1, Tp2, Tp3, Tp4])
  refine wpAnyH_ready (rs := [9]) (by kernel_rfl) (by simp) ?_
  refine AllReadyH.cons (o := ⟨some 18, _, _, _, _, _⟩) rfl (fun K hK => ?_) ?_
  ·go_simp
   refine (TallyNew_any a c v _).mono ?_
   rintro e w2 ⟨hcase, hb2⟩
   obtain ⟨y0, y1, y2, y3, ok, rfl, hx⟩ := tal_res hcase
   have HX := Hd hx
   clear hcase hx
   have hbw : Below w.heap.size w w2 := ((Below.refl w.heap.size w).alloc (Nat.le_refl _) (.cells #[.int .i64 0, .int .i64 0, .string ⟨#[]⟩, .string ⟨#[]⟩] 52)).drew.trans (hb2.mono (by simp))
   have hT1 := (Blk.drew (Blk.new w #[.int .i64 0, .int .i64 0, .string ⟨#[]⟩, .string ⟨#[]⟩] 52)).next hb2
   have f0 := hT1.free 0
   have f1 := hT1.free 1
   have f2 := hT1.free 2
   have f3 := hT1.free 3
   have t0 := hT1.cell (j := 0) (v := .int .i64 0) rfl
   have t1 := hT1.cell (j := 1) (v := .int .i64 0) rfl
   have t2 := hT1.cell (j := 2) (v := .string ⟨#[]⟩) rfl
   have t3 := hT1.cell (j := 3) (v := .string ⟨#[]⟩) rfl
   have e0 := (hbw.cell (p := ⟨g, 0, none⟩) hg).trans d0
   have e1 := (hbw.cell (p := ⟨g, 1, none⟩) hg).trans d1
   have e2 := (hbw.cell (p := ⟨g, 2, none⟩) hg).trans d2
   have hg2 : g < w2.heap.size := Nat.lt_of_lt_of_le hg hbw.size
   (try go_wp2_with fail)
   refine hK.out _ _ ?_ (fun hHeld18 => ?_)
   ·(try dsimp only)
    all_goals (first | (refine ⟨?_, ?_, ?_⟩ <;> go_simp) | go_keep)
   clear hK K
   (try clear hHeld17)
   (try simp only [Tp0, Tp1, Tp2, Tp3, Tp4])
   refine Tk 10 (some 8) (v := ?v19) rfl (Or.inl ⟨by rfl, ?hy19⟩) (by first | assumption | exact hHeld18) ?rest19
   case hy19 => ((intro w0 hSw; (try dsimp only at hSw); go_simp) <;> with_reducible rfl)
   (try simp only [Tp0, Tp1, Tp2, Tp3, Tp4])
   refine Tk 11 (some 19) (v := ?v20) rfl (Or.inl ⟨by rfl, ?hy20⟩) (by first | assumption | exact hHeld18) ?rest20
   case hy20 => ((intro w0 hSw; (try dsimp only at hSw); go_simp) <;> with_reducible rfl)
   (try simp only [Tp0, Tp1, Tp2, Tp3, Tp4])
   refine Tk 12 (some 20) (v := ?v21) rfl (Or.inl ⟨by rfl, ?hy21⟩) (by first | assumption | exact hHeld18) ?rest21
   case hy21 => ((intro w0 hSw; (try dsimp only at hSw); go_simp) <;> with_reducible rfl)
   (try simp only [Tp0, Tp1, Tp2, Tp3, Tp4])
   refine wpAnyH_ready (rs := [14]) (by kernel_rfl) (by simp) ?_
   refine AllReadyH.cons (o := ⟨none, _, _, _, _, _⟩) rfl (fun K hK => ?_) ?_
   ·go_simp
    refine hK.out _ _ ?_ (fun hHeld22 => ?_)
    ·(try dsimp only)
     all_goals (first | (refine ⟨?_, ?_, ?_⟩ <;> go_simp) | go_keep)
    clear hK K
    (try clear hHeld18)
    (try simp only [Tp0, Tp1, Tp2, Tp3, Tp4])
    refine Tk 15 (some 7) (v := ?v23) rfl (Or.inl ⟨by rfl, ?hy23⟩) (by first | assumption | exact hHeld22) ?rest23
    case hy23 => ((intro w0 hSw; (try dsimp only at hSw); go_simp) <;> with_reducible rfl)
    (try simp only [Tp0, Tp1, Tp2, Tp3, Tp4])
    refine wpAnyH_done (by kernel_rfl) ?_ _
    obtain ⟨W3, hW3⟩ : ∃ V, (((w2.setCell ⟨w.heap.size, 0, none⟩ (.int .i64 y0)).setCell ⟨w.heap.size, 1, none⟩ (.int .i64 y1)).setCell ⟨w.heap.size, 2, none⟩ (.string y2)).setCell ⟨w.heap.size, 3, none⟩ (.string y3) = V := ⟨_, rfl⟩
    have hbox : Blk W3 w.heap.size #[.int .i64 y0, .int .i64 y1, .string y2, .string y3] 52 := by rw [← hW3]; exact hT1.set4 (.int .i64 y0) (.int .i64 y1) (.string y2) (.string y3)
    have hbl : Below w.heap.size w W3 := by rw [← hW3]; exact below_set4 hbw (Nat.le_refl _) (.int .i64 y0) (.int .i64 y1) (.string y2) (.string y3)
    rw [hW3]
    clear hT1 f0 f1 f2 f3 t0 t1 t2 t3
    obtain ⟨b, hb⟩ : ∃ b, w.heap.size = b := ⟨_, rfl⟩
    rw [hb] at hbox ⊢
    have g3 := (HG0.out.next hbl).cell (j := 3) (v := .slice At nt ct) rfl
    have HBX := Hd (And.intro hbox (And.intro hbl trivial))
    clear hbox hbl hbw hb2 hW3 hb e0 e1 e2 hg2
    rcases HX.out with ⟨hdo, hv⟩ | ⟨hdo, hv⟩
    rotate_left
    ·have hno : oweOk ts a c v = false := by simp [oweOk, hdo]
     have hok : ok = false := by have h1 := congrArg (fun x : Value => match x with | .tuple t => t[1]? | _ => Option.none) hv; simpa using h1
     subst hok
     have HNO := Hd hno
     clear hno hv hdo
     go_wp2_with fail
     try go_ret2
     rw [HQ.out, HNO.out]
     exact ⟨_, _, rfl, ⟨rfl, rfl, HT.out.next HBX.out.2.1⟩, KeptT.of_below HBX.out.2.1⟩
    have hok : ok = true := by have h1 := congrArg (fun x : Value => match x with | .tuple t => t[1]? | _ => Option.none) hv; simpa using h1
    subst hok
    have HV := Hd hv
    have HDO := Hd hdo
    clear hv hdo
    by_cases hlt : 12 ≤ nt
    ·have hno : oweOk ts a c v = false := by have := HN.out; simp [oweOk]; omega
     have HNO := Hd hno
     have h12 : (nt : Int) ≥ 12 := by omega
     clear hno
     go_wp2_with fail
     try go_ret2
     rw [HQ.out, HNO.out]
     exact ⟨_, _, rfl, ⟨rfl, rfl, HT.out.next HBX.out.2.1⟩, KeptT.of_below HBX.out.2.1⟩
    have h12 : ¬ (nt : Int) ≥ 12 := by omega
    have hyes : oweOk ts a c v = true := by have := HN.out; have := HDO.out; simp [oweOk, this]; omega
    have HY := Hd hyes
    clear hyes
    have q0 := HBX.out.1.cell (j := 0) (v := .int .i64 y0) rfl
    have q1 := HBX.out.1.cell (j := 1) (v := .int .i64 y1) rfl
    have q2 := HBX.out.1.cell (j := 2) (v := .string y2) rfl
    have q3 := HBX.out.1.cell (j := 3) (v := .string y3) rfl
    have hblt := HBX.out.1.lt
    have hg3 := HG0.out.next HBX.out.2.1
    have htl := hg3.lt
    go_wp2_with fail
    refine wp_region_held_drew (S := (fun _ => True)) (by kernel_rfl) ?_ (fun hHeld => ?_)
    ·(try dsimp only)
     all_goals (exact True.intro)
    refine Tk 0 (some 31) (v := ?v1025) rfl (Or.inl ⟨by rfl, ?hy1025⟩) (by first | assumption | exact hHeld) ?rest1025
    case hy1025 => ((intro w0 hSw; (try dsimp only at hSw); go_simp) <;> with_reducible rfl)
    (try simp only [Tp0, Tp1, Tp2, Tp3, Tp4])
    refine Tk 1 (some 32) (v := ?v1026) rfl (Or.inl ⟨by rfl, ?hy1026⟩) (by first | assumption | exact hHeld) ?rest1026
    case hy1026 => ((intro w0 hSw; (try dsimp only at hSw); go_simp) <;> with_reducible rfl)
    (try simp only [Tp0, Tp1, Tp2, Tp3, Tp4])
    refine Tk 2 (some 33) (v := ?v1027) rfl (Or.inl ⟨by rfl, ?hy1027⟩) (by first | assumption | exact hHeld) ?rest1027
    case hy1027 => ((intro w0 hSw; (try dsimp only at hSw); go_simp) <;> with_reducible rfl)
    (try simp only [Tp0, Tp1, Tp2, Tp3, Tp4])
    refine Tk 3 (some 34) (v := ?v1028) rfl (Or.inl ⟨by rfl, ?hy1028⟩) (by first | assumption | exact hHeld) ?rest1028
    case hy1028 => ((intro w0 hSw; (try dsimp only at hSw); go_simp) <;> with_reducible rfl)
    (try simp only [Tp0, Tp1, Tp2, Tp3, Tp4])
    refine wpAnyH_ready (rs := [4, 5]) (by kernel_rfl) (by simp) ?_
    refine AllReadyH.cons (o := ⟨some 35, _, _, _, _, _⟩) rfl (fun K hK => ?_) ?_
    ·go_simp
     refine hK.out _ _ ?_ (fun hHeld1029 => ?_)
     ·(try dsimp only)
      all_goals (exact True.intro)
     clear hK K
     (try clear hHeld)
     (try simp only [Tp0, Tp1, Tp2, Tp3, Tp4])
     refine wpAnyH_ready (rs := [5]) (by kernel_rfl) (by simp) ?_
     refine AllReadyH.cons (o := ⟨some 36, _, _, _, _, _⟩) rfl (fun K hK => ?_) ?_
     ·go_simp
      refine hK.out _ _ ?_ (fun hHeld1030 => ?_)
      ·(try dsimp only)
       all_goals (exact True.intro)
      clear hK K
      (try clear hHeld1029)
      (try simp only [Tp0, Tp1, Tp2, Tp3, Tp4])
      refine wpAnyH_ready (rs := [6]) (by kernel_rfl) (by simp) ?_
      refine AllReadyH.cons (o := ⟨some 37, _, _, _, _, _⟩) rfl (fun K hK => ?_) ?_
      ·go_simp
       refine hK.out _ _ ?_ (fun hHeld1031 => ?_)
       ·(try dsimp only)
        all_goals (exact True.intro)
       clear hK K
       (try clear hHeld1030)
       (try simp only [Tp0, Tp1, Tp2, Tp3, Tp4])
       refine wpAnyH_ready (rs := [7]) (by kernel_rfl) (by simp) ?_
       refine AllReadyH.cons (o := ⟨some 38, _, _, _, _, _⟩) rfl (fun K hK => ?_) ?_
       ·rw [if_pos (by rfl)]
        unfold Oper.wp execOp
        simp only [resolve, invoke, builtin, Sem.run_bind, Sem.run_pure, Result.andThen_ok, List.map_toArray, List.map_cons, List.map_nil]
        have ho3 := HG4.out.next HBX.out.2.1
        obtain ⟨A5, c5, w5, hr, ho5', hg5'⟩ := owe_app ho3 (by omega) (by have := HBX.out.2.1.size; have := HW.out; omega) (tally_cells HV.out)
        change Oper.upon _ _ _ _ _ ((Sem.run Tryz.prog (Builtin.append_ #[46, 46] 46 #[.slice At nt ct, .slice (some ⟨W3.heap.size, 0, none⟩) 1 1]) (W3.alloc (.cells #[.int .i64 y0, .int .i64 y1, .string y2, .string y3] 52)).drew).andThen _)
        rw [hr]
        simp only [Result.andThen_ok]
        rw [Oper.upon_value]
        have hfin := Tab.grow (HT.out.next HBX.out.2.1) ho3 hg5' ho5'
        have htb5 : Blk w5 tb #[.slice Ab nb cb, .slice A1 4 c1, .slice A1' 4 c1', .slice At nt ct] 62 := hg3.grown hg5' (fun e => by obtain ⟨cur, z, h1⟩ := OwnR.ty ho3 e.symm; exact absurd (blk_ty2 hg3 h1) (by decide))
        have c53 := htb5.cell (j := 3) (v := .slice At nt ct) rfl
        have f53 := htb5.free 3
        have HFIN := Hd (And.intro hfin (((KeptT.of_below HBX.out.2.1).trans (KeptT.grow ho3 hg5')).trans (KeptT.set htb5 HB0.out 3 (.slice A5 (nt + 1) c5))))
        clear hr ho3 ho5' hg5' hfin htb5
        refine hK.out _ _ ?_ (fun hHeld1032 => ?_)
        ·(try dsimp only)
         all_goals (exact True.intro)
        clear hK K
        (try clear hHeld1031)
        (try simp only [Tp0, Tp1, Tp2, Tp3, Tp4])
        refine Tk 8 (some 39) (v := ?v1033) rfl (Or.inl ⟨by rfl, ?hy1033⟩) (by first | assumption | exact hHeld1032) ?rest1033
        case hy1033 => ((intro w0 hSw; (try dsimp only at hSw); go_simp) <;> with_reducible rfl)
        (try simp only [Tp0, Tp1, Tp2, Tp3, Tp4])
        refine Tk 9 (some 40) (v := ?v1034) rfl (Or.inl ⟨by rfl, ?hy1034⟩) (by first | assumption | exact hHeld1032) ?rest1034
        case hy1034 => ((intro w0 hSw; (try dsimp only at hSw); go_simp) <;> with_reducible rfl)
        (try simp only [Tp0, Tp1, Tp2, Tp3, Tp4])
        refine wpAnyH_ready (rs := [10]) (by kernel_rfl) (by simp) ?_
        refine AllReadyH.cons (o := ⟨none, _, _, _, _, _⟩) rfl (fun K hK => ?_) ?_
        ·go_simp
         refine hK.out _ _ ?_ (fun hHeld1035 => ?_)
         ·(try dsimp only)
          all_goals (exact True.intro)
         clear hK K
         (try clear hHeld1032)
         (try simp only [Tp0, Tp1, Tp2, Tp3, Tp4])
         refine wpAnyH_done (by kernel_rfl) ?_ _
         go_wp2_with fail
         try go_ret2
         rw [HQ.out, HY.out]
         exact ⟨_, _, rfl, ⟨rfl, rfl, HFIN.out.1⟩, HFIN.out.2⟩
        exact AllReadyH.nil
       exact AllReadyH.nil
      exact AllReadyH.nil
     exact AllReadyH.nil
    refine AllReadyH.cons (o := ⟨some 36, _, _, _, _, _⟩) rfl (fun K hK => ?_) ?_
    ·go_simp
     refine hK.out _ _ ?_ (fun hHeld1036 => ?_)
     ·(try dsimp only)
      all_goals (exact True.intro)
     clear hK K
     (try clear hHeld)
     (try simp only [Tp0, Tp1, Tp2, Tp3, Tp4])
     refine wpAnyH_ready (rs := [4, 6]) (by kernel_rfl) (by simp) ?_
     refine AllReadyH.cons (o := ⟨some 35, _, _, _, _, _⟩) rfl (fun K hK => ?_) ?_
     ·go_simp
      refine hK.out _ _ ?_ (fun hHeld1037 => ?_)
      ·(try dsimp only)
       all_goals (exact True.intro)
      clear hK K
      (try clear hHeld1036)
      (try simp only [Tp0, Tp1, Tp2, Tp3, Tp4])
      refine wpAnyH_ready (rs := [6]) (by kernel_rfl) (by simp) ?_
      refine AllReadyH.cons (o := ⟨some 37, _, _, _, _, _⟩) rfl (fun K hK => ?_) ?_
      ·go_simp
       refine hK.out _ _ ?_ (fun hHeld1038 => ?_)
       ·(try dsimp only)
        all_goals (exact True.intro)
       clear hK K
       (try clear hHeld1037)
       (try simp only [Tp0, Tp1, Tp2, Tp3, Tp4])
       refine wpAnyH_ready (rs := [7]) (by kernel_rfl) (by simp) ?_
       refine AllReadyH.cons (o := ⟨some 38, _, _, _, _, _⟩) rfl (fun K hK => ?_) ?_
       ·rw [if_pos (by rfl)]
        unfold Oper.wp execOp
        simp only [resolve, invoke, builtin, Sem.run_bind, Sem.run_pure, Result.andThen_ok, List.map_toArray, List.map_cons, List.map_nil]
        have ho3 := HG4.out.next HBX.out.2.1
        obtain ⟨A5, c5, w5, hr, ho5', hg5'⟩ := owe_app ho3 (by omega) (by have := HBX.out.2.1.size; have := HW.out; omega) (tally_cells HV.out)
        change Oper.upon _ _ _ _ _ ((Sem.run Tryz.prog (Builtin.append_ #[46, 46] 46 #[.slice At nt ct, .slice (some ⟨W3.heap.size, 0, none⟩) 1 1]) (W3.alloc (.cells #[.int .i64 y0, .int .i64 y1, .string y2, .string y3] 52)).drew).andThen _)
        rw [hr]
        simp only [Result.andThen_ok]
        rw [Oper.upon_value]
        have hfin := Tab.grow (HT.out.next HBX.out.2.1) ho3 hg5' ho5'
        have htb5 : Blk w5 tb #[.slice Ab nb cb, .slice A1 4 c1, .slice A1' 4 c1', .slice At nt ct] 62 := hg3.grown hg5' (fun e => by obtain ⟨cur, z, h1⟩ := OwnR.ty ho3 e.symm; exact absurd (blk_ty2 hg3 h1) (by decide))
        have c53 := htb5.cell (j := 3) (v := .slice At nt ct) rfl
        have f53 := htb5.free 3
        have HFIN := Hd (And.intro hfin (((KeptT.of_below HBX.out.2.1).trans (KeptT.grow ho3 hg5')).trans (KeptT.set htb5 HB0.out 3 (.slice A5 (nt + 1) c5))))
        clear hr ho3 ho5' hg5' hfin htb5
        refine hK.out _ _ ?_ (fun hHeld1039 => ?_)
        ·(try dsimp only)
         all_goals (exact True.intro)
        clear hK K
        (try clear hHeld1038)
        (try simp only [Tp0, Tp1, Tp2, Tp3, Tp4])
        refine Tk 8 (some 39) (v := ?v1040) rfl (Or.inl ⟨by rfl, ?hy1040⟩) (by first | assumption | exact hHeld1039) ?rest1040
        case hy1040 => ((intro w0 hSw; (try dsimp only at hSw); go_simp) <;> with_reducible rfl)
        (try simp only [Tp0, Tp1, Tp2, Tp3, Tp4])
        refine Tk 9 (some 40) (v := ?v1041) rfl (Or.inl ⟨by rfl, ?hy1041⟩) (by first | assumption | exact hHeld1039) ?rest1041
        case hy1041 => ((intro w0 hSw; (try dsimp only at hSw); go_simp) <;> with_reducible rfl)
        (try simp only [Tp0, Tp1, Tp2, Tp3, Tp4])
        refine wpAnyH_ready (rs := [10]) (by kernel_rfl) (by simp) ?_
        refine AllReadyH.cons (o := ⟨none, _, _, _, _, _⟩) rfl (fun K hK => ?_) ?_
        ·go_simp
         refine hK.out _ _ ?_ (fun hHeld1042 => ?_)
         ·(try dsimp only)
          all_goals (exact True.intro)
         clear hK K
         (try clear hHeld1039)
         (try simp only [Tp0, Tp1, Tp2, Tp3, Tp4])
         refine wpAnyH_done (by kernel_rfl) ?_ _
         go_wp2_with fail
         try go_ret2
         rw [HQ.out, HY.out]
         exact ⟨_, _, rfl, ⟨rfl, rfl, HFIN.out.1⟩, HFIN.out.2⟩
        exact AllReadyH.nil
       exact AllReadyH.nil
      exact AllReadyH.nil
     refine AllReadyH.cons (o := ⟨some 37, _, _, _, _, _⟩) rfl (fun K hK => ?_) ?_
     ·go_simp
      refine hK.out _ _ ?_ (fun hHeld1043 => ?_)
      ·(try dsimp only)
       all_goals (exact True.intro)
      clear hK K
      (try clear hHeld1036)
      (try simp only [Tp0, Tp1, Tp2, Tp3, Tp4])
      refine wpAnyH_ready (rs := [4]) (by kernel_rfl) (by simp) ?_
      refine AllReadyH.cons (o := ⟨some 35, _, _, _, _, _⟩) rfl (fun K hK => ?_) ?_
      ·go_simp
       refine hK.out _ _ ?_ (fun hHeld1044 => ?_)
       ·(try dsimp only)
        all_goals (exact True.intro)
       clear hK K
       (try clear hHeld1043)
       (try simp only [Tp0, Tp1, Tp2, Tp3, Tp4])
       refine wpAnyH_ready (rs := [7]) (by kernel_rfl) (by simp) ?_
       refine AllReadyH.cons (o := ⟨some 38, _, _, _, _, _⟩) rfl (fun K hK => ?_) ?_
       ·rw [if_pos (by rfl)]
        unfold Oper.wp execOp
        simp only [resolve, invoke, builtin, Sem.run_bind, Sem.run_pure, Result.andThen_ok, List.map_toArray, List.map_cons, List.map_nil]
        have ho3 := HG4.out.next HBX.out.2.1
        obtain ⟨A5, c5, w5, hr, ho5', hg5'⟩ := owe_app ho3 (by omega) (by have := HBX.out.2.1.size; have := HW.out; omega) (tally_cells HV.out)
        change Oper.upon _ _ _ _ _ ((Sem.run Tryz.prog (Builtin.append_ #[46, 46] 46 #[.slice At nt ct, .slice (some ⟨W3.heap.size, 0, none⟩) 1 1]) (W3.alloc (.cells #[.int .i64 y0, .int .i64 y1, .string y2, .string y3] 52)).drew).andThen _)
        rw [hr]
        simp only [Result.andThen_ok]
        rw [Oper.upon_value]
        have hfin := Tab.grow (HT.out.next HBX.out.2.1) ho3 hg5' ho5'
        have htb5 : Blk w5 tb #[.slice Ab nb cb, .slice A1 4 c1, .slice A1' 4 c1', .slice At nt ct] 62 := hg3.grown hg5' (fun e => by obtain ⟨cur, z, h1⟩ := OwnR.ty ho3 e.symm; exact absurd (blk_ty2 hg3 h1) (by decide))
        have c53 := htb5.cell (j := 3) (v := .slice At nt ct) rfl
        have f53 := htb5.free 3
        have HFIN := Hd (And.intro hfin (((KeptT.of_below HBX.out.2.1).trans (KeptT.grow ho3 hg5')).trans (KeptT.set htb5 HB0.out 3 (.slice A5 (nt + 1) c5))))
        clear hr ho3 ho5' hg5' hfin htb5
        refine hK.out _ _ ?_ (fun hHeld1045 => ?_)
        ·(try dsimp only)
         all_goals (exact True.intro)
        clear hK K
        (try clear hHeld1044)
        (try simp only [Tp0, Tp1, Tp2, Tp3, Tp4])
        refine Tk 8 (some 39) (v := ?v1046) rfl (Or.inl ⟨by rfl, ?hy1046⟩) (by first | assumption | exact hHeld1045) ?rest1046
        case hy1046 => ((intro w0 hSw; (try dsimp only at hSw); go_simp) <;> with_reducible rfl)
        (try simp only [Tp0, Tp1, Tp2, Tp3, Tp4])
        refine Tk 9 (some 40) (v := ?v1047) rfl (Or.inl ⟨by rfl, ?hy1047⟩) (by first | assumption | exact hHeld1045) ?rest1047
        case hy1047 => ((intro w0 hSw; (try dsimp only at hSw); go_simp) <;> with_reducible rfl)
        (try simp only [Tp0, Tp1, Tp2, Tp3, Tp4])
        refine wpAnyH_ready (rs := [10]) (by kernel_rfl) (by simp) ?_
        refine AllReadyH.cons (o := ⟨none, _, _, _, _, _⟩) rfl (fun K hK => ?_) ?_
        ·go_simp
         refine hK.out _ _ ?_ (fun hHeld1048 => ?_)
         ·(try dsimp only)
          all_goals (exact True.intro)
         clear hK K
         (try clear hHeld1045)
         (try simp only [Tp0, Tp1, Tp2, Tp3, Tp4])
         refine wpAnyH_done (by kernel_rfl) ?_ _
         go_wp2_with fail
         try go_ret2
         rw [HQ.out, HY.out]
         exact ⟨_, _, rfl, ⟨rfl, rfl, HFIN.out.1⟩, HFIN.out.2⟩
        exact AllReadyH.nil
       exact AllReadyH.nil
      exact AllReadyH.nil
     exact AllReadyH.nil
    exact AllReadyH.nil
   exact AllReadyH.nil
  exact AllReadyH.nil
 exact AllReadyH.nil
theorem does_owe (s : St) (a c v : Int) : CmdDoes 167 [a, c, v] s (if oweOk s.ts a c v then okT else noT) { s with ts := if oweOk s.ts a c v then s.ts ++ [tallyOf a c v] else s.ts } := by
 refine ⟨fun args w => by simp [go_sem], fun B0 tb w A n hn ht hw hp => ?_⟩
 refine (owe_cmd B0 tb s.bs s.ds s.ts a c v A n w hn ht hw _ rfl).mono fun e w' h => h.mono ?_
 rintro t ok w2 ⟨rfl, rfl, h⟩
 exact ⟨by cases oweOk s.ts a c v <;> rfl, h⟩
def settleOf (ts : List Tl) : Option (List Tl) := if okL ts then (Ta.settle 5 (bal (ts.map debtOf))).map (fun out => out.map payT) else none
theorem settleOf_yes {ts : List Tl} {out : List (Nat × Nat × Int)} (h1 : okL ts = true) (h2 : Ta.settle 5 (bal (ts.map debtOf)) = some out) : settleOf ts = some (out.map payT) := by
 unfold settleOf
 rw [if_pos h1, h2]
 rfl
theorem settleOf_no {ts : List Tl} (h : okL ts = false ∨ Ta.settle 5 (bal (ts.map debtOf)) = none) : settleOf ts = none := by
 unfold settleOf
 rcases h with h | h
 ·rw [if_neg (by simp [h])]
 ·split
  ·rw [h]; rfl
  ·rfl
def SetCmd (B0 tb : Nat) (bds ds : List Int) (ts : List Tl) (R : Option (List Tl)) (s : ByteArray) (ok : Bool) (w' : World) : Prop := ok = R.isSome ∧ (s = if R.isSome then okT else ⟨#[]⟩) ∧ Tab B0 w' tb bds ds (R.getD ts)
theorem settle_cmd (B0 tb : Nat) (bds ds : List Int) (ts : List Tl) (v : Value) (w : World) (h : Tab B0 w tb bds ds ts) (hw : B0 ≤ w.heap.size) (hsm : Small ts) (Q : Ending → World → Prop) (hQ : Q = CmdPost B0 (SetCmd B0 tb bds ds ts (settleOf ts)) w) :
  Calls Tryz.prog 168 #[.pointer (some ⟨tb, 0, none⟩), v] w Q := by
 obtain ⟨hB0, Ab, nb, cb, A1, c1, A1', c1', At, nt, ct, g0, g1, g2, g3, g4⟩ := id h
 have HT := Hd h
 have c3 := g0.cell (j := 3) (v := .slice At nt ct) rfl
 have HG0 := Hd g0
 have HI := Hd (OwnT.tals g4)
 have HW := Hd hw
 have HQ := Hd hQ
 have HSM := Hd hsm
 have HB0 := Hd hB0
 clear h hB0 g0 g1 g2 g3 g4 hw hQ hsm
 go_enter Tryz.func168, Tryz.ntmps168
 go_wp2_with fail
 refine (TalliesSettle_any At nt ct ts w HI.out HSM.out).mono ?_
 rintro e w1 ⟨⟨out, hok, hset, A2, c2, rfl, ho2⟩ | ⟨hno, rfl⟩, hb1⟩
 ·have hR := settleOf_yes hok hset
  have htb := HG0.out.next hb1
  have c31 := htb.cell (j := 3) (v := .slice At nt ct) rfl
  have f31 := htb.free 3
  have hfin := Tab.setTallies (HT.out.next hb1) (OwnR.mono ho2 HW.out)
  have HFIN := Hd (And.intro hfin ((KeptT.of_below hb1).trans (KeptT.set htb HB0.out 3 (.slice A2 out.length c2))))
  have HR := Hd hR
  clear hok hset ho2 hb1 hR hfin htb
  go_wp2_with fail
  try go_ret2
  rw [HQ.out, HR.out]
  exact ⟨_, _, rfl, ⟨rfl, rfl, HFIN.out.1⟩, HFIN.out.2⟩
 ·have HR := Hd (settleOf_no hno)
  have HB := Hd hb1
  clear hno hb1
  go_wp2_with fail
  try go_ret2
  rw [HQ.out, HR.out]
  exact ⟨_, _, rfl, ⟨rfl, rfl, HT.out.next HB.out⟩, KeptT.of_below HB.out⟩
theorem does_settle (s : St) (hsm : Small s.ts) : CmdDoes 168 [] s (if (settleOf s.ts).isSome then okT else noT) { s with ts := (settleOf s.ts).getD s.ts } := by
 refine ⟨fun args w => by simp [go_sem], fun B0 tb w A n hn ht hw hp => ?_⟩
 refine (settle_cmd B0 tb s.bs s.ds s.ts _ w ht hw hsm _ rfl).mono fun e w' h => h.mono ?_
 rintro t ok w2 ⟨rfl, rfl, h⟩
 exact ⟨by cases (settleOf s.ts).isSome <;> rfl, h⟩
def tlLine (t : Tl) : List UInt8 := Lib.itoa t.a ++ 62 :: (Lib.itoa t.c ++ 32 :: (t.s.data.toList ++ [10]))
def tlText (ts : List Tl) : List UInt8 := ts.flatMap tlLine
def Told (t : Tl) : Prop := 0 ≤ t.a ∧ t.a ≤ 4 ∧ 0 ≤ t.c ∧ t.c ≤ 4 ∧ t.s.size ≤ 36
theorem tlLine_len {t : Tl} (h : Told t) : (tlLine t).length ≤ 90 := by
 obtain ⟨a0, a1, c0, c1, hs⟩ := h
 have d1 := dec_size t.a (by omega) (by omega)
 have d2 := dec_size t.c (by omega) (by omega)
 have e1 : (dec t.a).size = (Lib.itoa t.a).length := by show (Lib.itoa t.a).toArray.size = _; simp
 have e2 : (dec t.c).size = (Lib.itoa t.c).length := by show (Lib.itoa t.c).toArray.size = _; simp
 have e3 : t.s.data.toList.length = t.s.size := by simp
 simp only [tlLine, List.length_append, List.length_cons, List.length_nil]
 omega
theorem tlText_len : ∀ {ts : List Tl}, (∀ t ∈ ts, Told t) → (tlText ts).length ≤ 90 * ts.length
 | [], _ => by simp [tlText]
 | t :: ts, h => by
  have h1 := tlLine_len (h t List.mem_cons_self)
  have h2 := tlText_len (ts := ts) (fun u hu => h u (List.mem_cons_of_mem _ hu))
  simp only [tlText, List.flatMap_cons, List.length_append, List.length_cons] at h2 ⊢
  omega
theorem tlText_snoc (ts : List Tl) (t : Tl) : tlText (ts ++ [t]) = tlText ts ++ tlLine t := by simp [tlText]
theorem tlLine_eq (t : Tl) : (((((dec t.a ++ ⟨#[62]⟩) ++ dec t.c) ++ ⟨#[32]⟩) ++ t.s) ++ ⟨#[10]⟩) = bs (tlLine t) := by
 have e : t.s = bs t.s.data.toList := (bs_eta t.s).symm
 rw [e]
 show ((((bs (Lib.itoa t.a) ++ bs [62]) ++ bs (Lib.itoa t.c)) ++ bs [32]) ++ bs t.s.data.toList) ++ bs [10] = _
 simp only [bs_append]
 congr 1
 simp [tlLine, bs_list]
theorem Blk.oth' {w w' : World} {b k : Nat} {cs : Array Value} {T : TypeId} (h : Blk w k cs T) (ho : Oth b w w') (hk : k ≠ b) (h2 : T ≠ 5) : Blk w' k cs T := h.keep (ho k cs T h hk h2)
def TellAll (B0 tb : Nat) (bds ds : List Int) (ts : List Tl) (s : ByteArray) (ok : Bool) (w' : World) : Prop := ok = true ∧ s = bs (tlText ts) ∧ Tab B0 w' tb bds ds ts
theorem tallies_cmd (B0 tb : Nat) (bds ds : List Int) (ts : List Tl) (v : Value) (w : World) (h : Tab B0 w tb bds ds ts) (hw : B0 ≤ w.heap.size) (hp : Pow B0 w) (h12 : ts.length ≤ 12) (hta : ∀ t ∈ ts, Told t) :
  Calls Tryz.prog 169 #[.pointer (some ⟨tb, 0, none⟩), v] w (CmdPost B0 (TellAll B0 tb bds ds ts) w) := by
 obtain ⟨hB0, Ab, nb, cb, A1, c1, A1', c1', At, nt, ct, g0, g1, g2, g3, g4⟩ := id h
 have HT := Hd h
 have hI := OwnT.tals g4
 have hnt : ts.length = nt := hI.len
 have hb1 : Below w.heap.size w (w.alloc (.cells #[.pointer none, .slice none 0 0] 65)) := (Below.refl _ _).alloc (Nat.le_refl _) _
 have hBu : Bu (w.alloc (.cells #[.pointer none, .slice none 0 0] 65)) w.heap.size w.heap.size [] := Lib.fresh_isBuilder _ _ w
 have c3 := g0.cell (j := 3) (v := .slice At nt ct) rfl
 have htlt := g0.lt
 have HI := Hd hI
 have HW := Hd hw
 have HP := Hd hp
 have HN := Hd (And.intro hnt (And.intro h12 hta))
 have HB1 := Hd (And.intro hb1 hBu)
 have hnt0 : (0 : Int) ≤ (nt : Int) := by omega
 have hnt9 : (nt : Int) ≤ 12 := by omega
 clear h hB0 g0 g1 g2 g3 g4 hw hp hI hnt h12 hta hb1 hBu
 go_enter Tryz.func169, Tryz.ntmps169
 go_wp2_with fail
 obtain ⟨W, hW⟩ : ∃ W, w.alloc (.cells #[.pointer none, .slice none 0 0] 65) = W := ⟨_, rfl⟩
 rw [hW] at HB1 ⊢
 clear hW c3
 go_loopw [14] (fun iv wr => ∃ (i : Nat), i ≤ nt ∧ iv = .int .i64 (i : Int) ∧ Bu wr w.heap.size w.heap.size (tlText (ts.take i)) ∧ Below w.heap.size w wr) (fun iv _ => nt - (intOf iv).toNat)
 case atStart => exact ⟨0, by omega, rfl, HB1.out.2, HB1.out.1⟩
 case round =>
  obtain ⟨i, hi, rfl, hbu, hbel⟩ := hrel
  have hsz := hbel.size
  have hszl : w.heap.size < wr.heap.size := by obtain ⟨cb, hcb⟩ := Bu.blk hbu; exact hcb.lt
  by_cases hlt : i < nt
  ·obtain ⟨bk, off, t, rfl, hbk, ht, k0, k1, k2, k3⟩ := HI.out.at_ hlt
   have hto := HN.out.2.2 t (List.mem_of_getElem? ht)
   have m0 := (hbel.cell (p := ⟨bk, off + i * 4, none⟩) hbk).trans k0
   have m1 := (hbel.cell (p := ⟨bk, off + i * 4 + 1, none⟩) hbk).trans k1
   have m2 := (hbel.cell (p := ⟨bk, off + i * 4 + 2, none⟩) hbk).trans k2
   have m3 := (hbel.cell (p := ⟨bk, off + i * 4 + 3, none⟩) hbk).trans k3
   have hi0 : (0 : Int) ≤ (i : Int) := by omega
   have hi1 : (i : Int) < (nt : Int) := by omega
   have hbox := Blk.new wr #[.int .i64 t.a, .int .i64 t.c, .string t.s, .string t.f] 52
   have HX := Hd (And.intro hbu (And.intro hbel (And.intro ht hto)))
   have HBOX := Hd hbox
   clear hbu hbel ht hto k0 k1 k2 k3 hbox
   go_wp2_with fail
   obtain ⟨W4, hW4⟩ : ∃ V, wr.alloc (.cells #[.int .i64 t.a, .int .i64 t.c, .string t.s, .string t.f] 52) = V := ⟨_, rfl⟩
   have HBOX4 := Hd (show Blk W4 wr.heap.size #[.int .i64 t.a, .int .i64 t.c, .string t.s, .string t.f] 52 by rw [← hW4]; exact HBOX.out)
   have HB4 := Hd (show Below w.heap.size w W4 by rw [← hW4]; exact HX.out.2.1.alloc HX.out.2.1.size _)
   have HBU4 := Hd (show Bu W4 w.heap.size w.heap.size (tlText (ts.take i)) by rw [← hW4]; exact Bu.keptT HX.out.1 (KeptT.of_below (B0 := 0) ((Below.refl _ _).alloc (Nat.le_refl _) _)))
   have HP4 := Hd (show ∀ w', Below w.heap.size w w' → Pow B0 w' from fun w' hb => HP.out.below (hb.mono HW.out))
   have HLINE := Hd (tlLine_eq t)
   have hlt4 : wr.heap.size < W4.heap.size := HBOX4.out.lt
   have HLEN := Hd (show (tlText (ts.take i)).length + (bs (tlLine t)).size ≤ 2000 from by
    have h1 := tlText_len (ts := ts.take i) (fun u hu => HN.out.2.2 u (List.mem_of_mem_take hu))
    have h2 := tlLine_len HX.out.2.2.2
    have e : (bs (tlLine t)).size = (tlLine t).length := by show (tlLine t).toArray.size = _; simp
    have e2 : (ts.take i).length ≤ 12 := by rw [List.length_take]; omega
    omega)
   obtain ⟨a0, a1, b0, b1, hs⟩ := HX.out.2.2.2
   have d1 := dec_size t.a (by omega) (by omega)
   have d2 := dec_size t.c (by omega) (by omega)
   have l1 := no_long (n := (dec t.a).size) (by omega) 1 (by omega)
   have l2 := no_long (n := (dec t.a).size + 1) (by omega) (dec t.c).size (by omega)
   have l3 := no_long (n := (dec t.a).size + 1 + (dec t.c).size) (by omega) 1 (by omega)
   have l4 := no_long (n := (dec t.a).size + 1 + (dec t.c).size + 1) (by omega) t.s.size (by omega)
   have l5 := no_long (n := (dec t.a).size + 1 + (dec t.c).size + 1 + t.s.size) (by omega) 1 (by omega)
   have z0 := HBOX4.out.cell (j := 0) (v := .int .i64 t.a) rfl
   have z1 := HBOX4.out.cell (j := 1) (v := .int .i64 t.c) rfl
   have z2 := HBOX4.out.cell (j := 2) (v := .string t.s) rfl
   rw [hW4]
   clear hW4 m0 m1 m2 m3
   refine wp_region_held_drew (S := (fun w' => w'.cell? ⟨wr.heap.size, 0, none⟩ = some (.int .i64 t.a) ∧ w'.cell? ⟨wr.heap.size, 1, none⟩ = some (.int .i64 t.c) ∧ w'.cell? ⟨wr.heap.size, 2, none⟩ = some (.string t.s))) (by kernel_rfl) ?_ (fun hHeld => ?_)
   ·(try dsimp only)
    all_goals (first | (refine ⟨?_, ?_, ?_⟩ <;> go_simp) | go_keep)
   refine Tk 0 (some 18) (v := ?v1) rfl (Or.inl ⟨by rfl, ?hy1⟩) (by first | assumption | exact hHeld) ?rest1
   case hy1 => ((intro w0 hSw; (try dsimp only at hSw); go_simp) <;> with_reducible rfl)
   (try simp only [Tp0, Tp1, Tp2, Tp3, Tp4])
   refine Tk 1 (some 19) (v := ?v2) rfl (Or.inl ⟨by rfl, ?hy2⟩) (by first | assumption | exact hHeld) ?rest2
   case hy2 => ((intro w0 hSw; (try dsimp only at hSw); go_simp) <;> with_reducible rfl)
   (try simp only [Tp0, Tp1, Tp2, Tp3, Tp4])
   refine Tk 4 (some 22) (v := ?v3) rfl (Or.inl ⟨by rfl, ?hy3⟩) (by first | assumption | exact hHeld) ?rest3
   case hy3 => ((intro w0 hSw; (try dsimp only at hSw); go_simp) <;> with_reducible rfl)
   (try simp only [Tp0, Tp1, Tp2, Tp3, Tp4])
   refine Tk 5 (some 23) (v := ?v4) rfl (Or.inl ⟨by rfl, ?hy4⟩) (by first | assumption | exact hHeld) ?rest4
   case hy4 => ((intro w0 hSw; (try dsimp only at hSw); go_simp) <;> with_reducible rfl)
   (try simp only [Tp0, Tp1, Tp2, Tp3, Tp4])
   refine Tk 9 (some 27) (v := ?v5) rfl (Or.inl ⟨by rfl, ?hy5⟩) (by first | assumption | exact hHeld) ?rest5
   case hy5 => ((intro w0 hSw; (try dsimp only at hSw); go_simp) <;> with_reducible rfl)
   (try simp only [Tp0, Tp1, Tp2, Tp3, Tp4])
   refine Tk 10 (some 28) (v := ?v6) rfl (Or.inl ⟨by rfl, ?hy6⟩) (by first | assumption | exact hHeld) ?rest6
   case hy6 => ((intro w0 hSw; (try dsimp only at hSw); go_simp) <;> with_reducible rfl)
   (try simp only [Tp0, Tp1, Tp2, Tp3, Tp4])
   refine wpAnyH_ready (rs := [2]) (by kernel_rfl) (by simp) ?_
   refine AllReadyH.cons (o := ⟨some 20, _, _, _, _, _⟩) rfl (fun K hK => ?_) ?_
   ·go_simp
    refine (Itoa_any (HP4.out _ (HB4.out.drew)) t.a (by omega) (by omega)).mono ?_
    rintro e w5 ⟨rfl, hb5'⟩
    have hb5 := (Below.refl W4.heap.size W4).drew.trans hb5'
    have p0 := (HBOX4.out.next hb5).cell (j := 0) (v := .int .i64 t.a) rfl
    have p1 := (HBOX4.out.next hb5).cell (j := 1) (v := .int .i64 t.c) rfl
    have p2 := (HBOX4.out.next hb5).cell (j := 2) (v := .string t.s) rfl
    have HB5 := Hd hb5
    clear hb5 hb5'
    refine hK.out _ _ ?_ (fun hHeld7 => ?_)
    ·(try dsimp only)
     all_goals (first | (refine ⟨?_, ?_, ?_⟩ <;> go_simp) | go_keep)
    clear hK K
    (try clear hHeld)
    (try simp only [Tp0, Tp1, Tp2, Tp3, Tp4])
    refine Tk 3 (some 21) (v := ?v8) rfl (Or.inl ⟨by rfl, ?hy8⟩) (by first | assumption | exact hHeld7) ?rest8
    case hy8 => ((intro w0 hSw; (try dsimp only at hSw); go_simp) <;> with_reducible rfl)
    (try simp only [Tp0, Tp1, Tp2, Tp3, Tp4])
    refine wpAnyH_ready (rs := [6]) (by kernel_rfl) (by simp) ?_
    refine AllReadyH.cons (o := ⟨some 24, _, _, _, _, _⟩) rfl (fun K hK => ?_) ?_
    ·go_simp
     refine (Itoa_any (HP4.out _ (HB4.out.trans (HB5.out.mono HB4.out.size))) t.c (by omega) (by omega)).mono ?_
     rintro e w6 ⟨rfl, hb6'⟩
     have hb6 := HB5.out.trans (hb6'.mono HB5.out.size)
     have q0 := (HBOX4.out.next hb6).cell (j := 0) (v := .int .i64 t.a) rfl
     have q1 := (HBOX4.out.next hb6).cell (j := 1) (v := .int .i64 t.c) rfl
     have q2 := (HBOX4.out.next hb6).cell (j := 2) (v := .string t.s) rfl
     have HB6 := Hd hb6
     clear hb6 hb6'
     refine hK.out _ _ ?_ (fun hHeld9 => ?_)
     ·(try dsimp only)
      all_goals (first | (refine ⟨?_, ?_, ?_⟩ <;> go_simp) | go_keep)
     clear hK K
     (try clear hHeld7)
     (try simp only [Tp0, Tp1, Tp2, Tp3, Tp4])
     refine Tk 7 (some 25) (v := ?v10) rfl (Or.inl ⟨by rfl, ?hy10⟩) (by first | assumption | exact hHeld9) ?rest10
     case hy10 => ((intro w0 hSw; (try dsimp only at hSw); go_simp) <;> with_reducible rfl)
     (try simp only [Tp0, Tp1, Tp2, Tp3, Tp4])
     refine Tk 8 (some 26) (v := ?v11) rfl (Or.inl ⟨by rfl, ?hy11⟩) (by first | assumption | exact hHeld9) ?rest11
     case hy11 => ((intro w0 hSw; (try dsimp only at hSw); go_simp) <;> with_reducible rfl)
     (try simp only [Tp0, Tp1, Tp2, Tp3, Tp4])
     refine Tk 11 (some 29) (v := ?v12) rfl (Or.inl ⟨by rfl, ?hy12⟩) (by first | assumption | exact hHeld9) ?rest12
     case hy12 => ((intro w0 hSw; (try dsimp only at hSw); go_simp) <;> with_reducible rfl)
     (try simp only [Tp0, Tp1, Tp2, Tp3, Tp4])
     refine Tk 12 (some 30) (v := ?v13) rfl (Or.inl ⟨by rfl, ?hy13⟩) (by first | assumption | exact hHeld9) ?rest13
     case hy13 => ((intro w0 hSw; (try dsimp only at hSw); go_simp) <;> with_reducible rfl)
     (try simp only [Tp0, Tp1, Tp2, Tp3, Tp4])
     refine wpAnyH_ready (rs := [13]) (by kernel_rfl) (by simp) ?_
     refine AllReadyH.cons (o := ⟨some 31, _, _, _, _, _⟩) rfl (fun K hK => ?_) ?_
     ·go_simp
      rw [HLINE.out]
      refine (WriteString_any w.heap.size w.heap.size (tlText (ts.take i)) _ _ (Bu.keptT HBU4.out (KeptT.of_below (B0 := 0) HB6.out)) (by have := HLEN.out; omega) (Nat.le_trans HB4.out.size HB6.out.size)).mono ?_
      rintro e w7 ⟨⟨v7, rfl⟩, hbu7, hb7, hot7⟩
      have hbx7 := Blk.oth' (HBOX4.out.next HB6.out) hot7 (by omega) (by decide)
      rw [bs_list] at hbu7
      have r0 := (hbx7).cell (j := 0) (v := .int .i64 t.a) rfl
      have r1 := (hbx7).cell (j := 1) (v := .int .i64 t.c) rfl
      have r2 := (hbx7).cell (j := 2) (v := .string t.s) rfl
      have HB7 := Hd (And.intro hbu7 ((HB4.out.trans (HB6.out.mono HB4.out.size)).trans hb7))
      clear hbu7 hb7 hot7 hbx7
      (try go_wp2_with fail)
      refine hK.out _ _ ?_ (fun hHeld14 => ?_)
      ·(try dsimp only)
       all_goals (first | (refine ⟨?_, ?_, ?_⟩ <;> go_simp) | go_keep)
      clear hK K
      (try clear hHeld9)
      (try simp only [Tp0, Tp1, Tp2, Tp3, Tp4])
      refine wpAnyH_done (by kernel_rfl) ?_ _
      go_wp2_with fail
      exact ⟨⟨i + 1, by omega, by go_num, by rw [take_next HX.out.2.2.1, tlText_snoc]; exact HB7.out.1, HB7.out.2⟩, by simp [intOf]; omega⟩
     exact AllReadyH.nil
    exact AllReadyH.nil
   exact AllReadyH.nil
  ·obtain rfl : i = nt := by omega
   have hall : ts.take i = ts := List.take_of_length_le (by rw [HN.out.1]; omega)
   rw [hall] at hbu
   have HX := Hd (And.intro hbu hbel)
   clear hbu hbel hall
   go_wp2_with fail
   refine (Tryz.Builder_String_any w.heap.size w.heap.size (tlText ts) wr HX.out.1 hsz).mono ?_
   rintro e w8 ⟨rfl, hb8⟩
   have HB8 := Hd (HX.out.2.trans hb8)
   clear hb8
   go_wp2_with fail
   refine bodyPost_ret (v := .tuple #[.string (bs (tlText ts)), .bool true]) (by simp [results, Tryz.results169, go_sem, bs]) rfl ?_
   exact ⟨_, _, rfl, ⟨rfl, rfl, HT.out.next HB8.out⟩, KeptT.of_below HB8.out⟩
theorem does_tallies (s : St) (h12 : s.ts.length ≤ 12) (hta : ∀ t ∈ s.ts, Told t) : CmdDoes 169 [] s (bs (tlText s.ts)) s := by
 refine ⟨fun args w => by simp [go_sem], fun B0 tb w A n hn ht hw hp => ?_⟩
 refine (tallies_cmd B0 tb s.bs s.ds s.ts _ w ht hw hp h12 hta).mono fun e w' h => h.mono ?_
 rintro t ok w2 ⟨rfl, rfl, h⟩
 exact ⟨rfl, h⟩
end Go.Proofs.YthdoofmfigemoaaGreatDoor
