/-
  Units of a list as a chain: unitsOf, UnitsValid and list.
-/
import Derived.Test.YtnljemgglmokjaaUnMem
import Derived.BigQuiet
namespace Go.Proofs.Ytnljemgglmokjaa
open Go.RowKit

def ltH (x : Int) : List Int → Bool
  | [] => true
  | y :: _ => decide (x < y)
/-- the check from the end on -/
def bac : List Int → Bool
  | [] => true
  | x :: xs => decide (2 ≤ x) && decide (x ≤ 1000000000) && ltH x xs && bac xs
theorem bac_asc (l : List Int) : bac l = Un.asc 1 l := by
  induction l with
  | nil => rfl
  | cons x xs ih =>
    rw [bac, ih, Un.asc]
    cases xs with
    | nil =>
      by_cases h1 : 1 < x
      · have h3 : 2 ≤ x := by omega
        simp [Un.asc, ltH, h1, h3]
      · have h3 : ¬ 2 ≤ x := by omega
        simp [Un.asc, ltH, h1, h3]
    | cons y ys =>
      simp only [Un.asc, ltH]
      by_cases h1 : 1 < x <;> by_cases h2 : x < y
      · have h3 : 2 ≤ x := by omega
        have h4 : 1 < y := by omega
        simp [h1, h2, h3, h4]
      · simp [h2]
      · have h3 : ¬ 2 ≤ x := by omega
        simp [h1, h3]
      · simp [h2]
theorem okU_bac (l : List Int) : Un.okU l = (decide (l.length ≤ 8) && bac l) := by rw [Un.okU, bac_asc]
theorem bac_drop {l : List Int} (h : bac l = true) : ∀ j, bac (l.drop j) = true := by
  intro j
  induction j with
  | zero => simpa using h
  | succ j ih =>
    by_cases hj : j < l.length
    · rw [List.drop_eq_getElem_cons hj, bac] at ih
      simp only [Bool.and_eq_true] at ih
      exact ih.2
    · rw [List.drop_of_length_le (by omega)]; rfl
/-- whether one number more goes ahead -/
def okH (x : Int) (xs : List Int) : Prop := 2 ≤ x ∧ x ≤ 1000000000 ∧ ∀ y ys, xs = y :: ys → x < y
theorem bac_next {l : List Int} {i : Nat} {u : Int} (hu : l[i]? = some u) (hb : bac (l.drop (i + 1)) = true) (h : okH u (l.drop (i + 1))) : bac (l.drop i) = true ∧ l.drop i = u :: l.drop (i + 1) := by
  have hi := (List.getElem?_eq_some_iff.1 hu).1
  have e : l[i] = u := (List.getElem?_eq_some_iff.1 hu).2
  have e2 : l.drop i = u :: l.drop (i + 1) := by rw [List.drop_eq_getElem_cons hi, e]
  refine ⟨?_, e2⟩
  rw [e2, bac, hb]
  obtain ⟨h1, h2, h3⟩ := h
  cases hd : l.drop (i + 1) with
  | nil => simp [h1, h2, ltH]
  | cons y ys => simp [h1, h2, ltH, h3 y ys hd]
theorem bac_no {l : List Int} {i : Nat} {u : Int} (hu : l[i]? = some u) (h : ¬ okH u (l.drop (i + 1))) : Un.okU l = false := by
  rw [okU_bac]
  cases hb : bac l with
  | false => simp
  | true =>
    exfalso
    have hi := (List.getElem?_eq_some_iff.1 hu).1
    have e : l[i] = u := (List.getElem?_eq_some_iff.1 hu).2
    have := bac_drop hb i
    rw [List.drop_eq_getElem_cons hi, e, bac] at this
    simp only [Bool.and_eq_true, decide_eq_true_eq] at this
    refine h ⟨this.1.1.1, this.1.1.2, fun y ys hy => ?_⟩
    have h2 := this.1.2
    rw [hy, ltH] at h2
    simpa using h2

/-- a chain and whether there is one -/
def UOf (w : World) (xs : List Int) (e : Ending) (w' : World) : Prop :=
  (∃ p, e = .returned (.tuple #[.pointer p, .bool (Un.okU xs)]) ∧ (Un.okU xs = true → Cha w' w.heap.size p xs)) ∧ Below w.heap.size w w'

set_option maxRecDepth 100000 in
set_option maxHeartbeats 2000000 in
theorem unitsOf_any (A : Option Addr) (n c : Nat) (xs : List Int) (w : World) (hx : Ints w w.heap.size A n xs) :
    Calls Try.prog 25 #[.slice A n c] w (UOf w xs) := by
  have hl := hx.len
  have hbd := hx.bound
  by_cases hn : 8 < n
  · have HF : Hid (Un.okU xs = false) := Lib.hid (by simp [Un.okU]; omega)
    clear hx hl
    go_enter Try.func25, Try.ntmps25
    go_wp2_with fail
    go_ret2
    exact ⟨⟨none, by rw [HF.out]; rfl, fun h => by rw [HF.out] at h; cases h⟩, Below.refl _ _⟩
  · have HX := Lib.hid hx
    have HL := Lib.hid hl
    have HC0 : Hid (Cha w w.heap.size none (xs.drop n)) := Lib.hid (by rw [List.drop_of_length_le (by omega)]; exact Cha.nil _ _)
    have HB0 : Hid (bac (xs.drop n) = true) := Lib.hid (by rw [List.drop_of_length_le (by omega)]; rfl)
    clear hx hl
    go_enter Try.func25, Try.ntmps25
    go_wp2_with fail
    go_loopw [4, 5] (fun hv iv wr => ∃ (j : Nat) (p : Option Addr), j ≤ n ∧ hv = .pointer p ∧ iv = .int .i64 ((j : Int) - 1) ∧ Cha wr w.heap.size p (xs.drop j) ∧ bac (xs.drop j) = true ∧ Below w.heap.size w wr) (fun _ iv _ => (intOf iv + 1).toNat)
    case atStart => exact ⟨n, none, by omega, rfl, by go_num, HC0.out, HB0.out, Below.refl _ _⟩
    case round =>
      clear HC0 HB0
      obtain ⟨j, p, hj, rfl, rfl, hch, hbc, hbel⟩ := hrel
      have hsz := hbel.size
      have HCH := Lib.hid hch
      have HBC := Lib.hid hbc
      have HB := Lib.hid hbel
      clear hch hbc hbel
      cases j with
      | zero =>
        have HF : Hid (Un.okU xs = true) := Lib.hid (by have := HBC.out; have := HL.out; rw [okU_bac]; simp at *; exact ⟨by omega, by assumption⟩)
        rw [List.drop_zero] at HCH
        go_wp2_with fail
        go_ret2
        exact ⟨⟨_, by rw [HF.out]; rfl, fun _ => HCH.out⟩, HB.out⟩
      | succ i =>
        obtain ⟨b2, off, u, rfl, hub, hu, hcu⟩ := (HX.out.below HB.out).at_ (show i < n by omega)
        have hi1 : ((i + 1 : Nat) : Int) - 1 = (i : Int) := by omega
        rw [hi1]
        clear hi1
        by_cases hok : okH u (xs.drop (i + 1))
        · obtain ⟨h1, h2⟩ := bac_next hu HBC.out hok
          obtain ⟨u2, u9, hy⟩ := hok
          have HC1 : Hid (∀ k, Cha ((wr.drewN k).alloc (.cells #[.int .i64 u, .pointer p] 50)) w.heap.size (some ⟨wr.heap.size, 0, none⟩) (xs.drop i)) := Lib.hid fun k => by rw [h2]; exact (HCH.out.drewN k).cons u hsz
          have HB1 := Lib.hid h1
          have HB2 : Hid (∀ k, Below w.heap.size w ((wr.drewN k).alloc (.cells #[.int .i64 u, .pointer p] 50))) := Lib.hid fun k => (below_drewN HB.out k).alloc hsz _
          have t1 : decide (u < 2) = false := by simp; omega
          have t2 : decide (1000000000 < u) = false := by simp; omega
          cases hd : xs.drop (i + 1) with
          | nil =>
            rw [hd] at HCH
            obtain rfl := HCH.out.isNil
            clear hu h1 h2 hy hd HCH HBC
            go_wp2_with fail
            go_quiet (fail)
            go_wp2_with fail
            go_roundw
            case rel => exact ⟨i, _, by omega, rfl, by go_num, HC1.out _, HB1.out, HB2.out _⟩
            case measure => simp [intOf]
          | cons y ys =>
            have hlt := hy y ys hd
            rw [hd] at HCH
            obtain ⟨b, rfl, hcb⟩ := HCH.out.head
            have t3 : decide (y ≤ u) = false := by simp; omega
            clear hu h1 h2 hy hd HCH HBC
            go_wp2_with fail
            go_quiet (fail)
            go_wp2_with fail
            go_roundw
            case rel => exact ⟨i, _, by omega, rfl, by go_num, HC1.out _, HB1.out, HB2.out _⟩
            case measure => simp [intOf]
        · have HF := Lib.hid (bac_no hu hok)
          by_cases h1 : u < 2
          · have t1 : decide (u < 2) = true := by simp; omega
            clear hu hok HCH HBC
            go_wp2_with fail
            go_quiet (fail)
            go_wp2_with fail
            go_ret2
            exact ⟨⟨none, by rw [HF.out]; rfl, fun h => by rw [HF.out] at h; cases h⟩, below_drewN HB.out _⟩
          · have t1 : decide (u < 2) = false := by simp; omega
            by_cases h2 : 1000000000 < u
            · have t2 : decide (1000000000 < u) = true := by simp; omega
              clear hu hok HCH HBC
              go_wp2_with fail
              go_quiet (fail)
              go_wp2_with fail
              go_ret2
              exact ⟨⟨none, by rw [HF.out]; rfl, fun h => by rw [HF.out] at h; cases h⟩, below_drewN HB.out _⟩
            · have t2 : decide (1000000000 < u) = false := by simp; omega
              cases hd : xs.drop (i + 1) with
              | nil => exact absurd ⟨by omega, by omega, fun y ys e => by rw [hd] at e; cases e⟩ hok
              | cons y ys =>
                have hge : y ≤ u := by
                  rcases Int.lt_or_le u y with hlt | hle
                  · exact absurd ⟨by omega, by omega, fun y' ys' e => by rw [hd] at e; injection e with e1; omega⟩ hok
                  · exact hle
                rw [hd] at HCH
                obtain ⟨b, rfl, hcb⟩ := HCH.out.head
                have t3 : decide (y ≤ u) = true := by simp; omega
                clear hu hok hd HCH HBC
                go_wp2_with fail
                go_quiet (fail)
                go_wp2_with fail
                go_ret2
                exact ⟨⟨none, by rw [HF.out]; rfl, fun h => by rw [HF.out] at h; cases h⟩, below_drewN HB.out _⟩
theorem unitsOf_yes {A : Option Addr} {n c : Nat} {xs : List Int} {w : World} (hx : Ints w w.heap.size A n xs) (h : Un.okU xs = true) :
    Calls Try.prog 25 #[.slice A n c] w fun e w' => (∃ p, e = .returned (.tuple #[.pointer p, .bool true]) ∧ Cha w' w.heap.size p xs) ∧ Below w.heap.size w w' :=
  (unitsOf_any A n c xs w hx).mono fun _ _ ⟨⟨p, h1, h2⟩, h3⟩ => ⟨⟨p, by rw [h1, h], h2 h⟩, h3⟩
theorem unitsOf_no {A : Option Addr} {n c : Nat} {xs : List Int} {w : World} (hx : Ints w w.heap.size A n xs) (h : Un.okU xs = false) :
    Calls Try.prog 25 #[.slice A n c] w fun e w' => (∃ p, e = .returned (.tuple #[.pointer p, .bool false])) ∧ Below w.heap.size w w' :=
  (unitsOf_any A n c xs w hx).mono fun _ _ ⟨⟨p, h1, _⟩, h3⟩ => ⟨⟨p, by rw [h1, h]⟩, h3⟩

set_option maxHeartbeats 1000000 in
theorem UnitsValid_any (A : Option Addr) (n c : Nat) (xs : List Int) (w : World) (hx : Ints w w.heap.size A n xs) :
    Calls Try.prog 35 #[.slice A n c] w fun e w' => e = .returned (.bool (Un.okU xs)) ∧ Below w.heap.size w w' := by
  have HX := Lib.hid hx
  clear hx
  go_enter Try.func35, Try.ntmps35
  go_wp2_with fail
  refine (unitsOf_any _ _ _ _ _ HX.out).mono ?_
  rintro e w1 ⟨⟨p, rfl, -⟩, hb⟩
  have HB := Lib.hid hb
  clear hb
  obtain ⟨ok, hok⟩ : ∃ ok, Un.okU xs = ok := ⟨_, rfl⟩
  rw [hok]
  have HOK := Lib.hid hok
  clear hok
  go_wp2
  go_ret
  exact ⟨ret_bool HOK.out.symm, HB.out⟩
theorem UnitsValid_is {A : Option Addr} {n c : Nat} {xs : List Int} {r : Bool} {w : World} (hx : Ints w w.heap.size A n xs) (h : Un.okU xs = r) :
    Calls Try.prog 35 #[.slice A n c] w fun e w' => e = .returned (.bool r) ∧ Below w.heap.size w w' := by
  rw [← h]; exact UnitsValid_any A n c xs w hx

theorem vals_cons (b : Nat) (x : Int) (r : List (Nat × Int)) : vals ((b, x) :: r) = x :: vals r := rfl
set_option maxRecDepth 100000 in
set_option maxHeartbeats 1000000 in
theorem list_any (B : Nat) (p : Option Addr) (l : List Int) (w : World) (hc : Cha w B p l) (hl : l.length ≤ 1000) :
    Calls Try.prog 29 #[.pointer p] w fun e w' => (∃ A c, e = .returned (.slice A l.length c) ∧ Own w' w.heap.size A l.length c l) ∧ Below w.heap.size w w' := by
  obtain ⟨ns, hs, -, -, hv⟩ := hc
  have HS := Lib.hid hs
  have HV := Lib.hid hv
  have HLN := Lib.hid (lit_nil w)
  have HBN := Lib.hid ((Below.refl w.heap.size w).alloc (Nat.le_refl _) (.cells #[] 3))
  clear hs hv
  go_enter Try.func29, Try.ntmps29
  go_wp2_with fail
  go_loopw [0, 3] (fun uv v wr => ∃ (q A : Option Addr) (c : Nat) (dn : List Int) (r : List (Nat × Int)), uv = .pointer q ∧ v = .slice A dn.length c ∧ Own wr w.heap.size A dn.length c dn ∧ Seg w q r none ∧ dn ++ vals r = l ∧ Below w.heap.size w wr) (fun uv _ _ => lenOf w (ptrOf uv))
  case atStart => exact ⟨p, _, _, [], ns, rfl, rfl, HLN.out, HS.out, HV.out, HBN.out⟩
  case round =>
    clear HS HV HLN HBN
    obtain ⟨q, A, c, dn, r, rfl, rfl, hown, hseg, heq, hb⟩ := hrel
    have hsz := hb.size
    have hlen : dn.length ≤ l.length := by rw [← heq, List.length_append]; omega
    have HO := Lib.hid hown
    have HEQ := Lib.hid heq
    have HB := Lib.hid hb
    have HSG := Lib.hid hseg
    clear hown heq hb
    cases r with
    | nil =>
      obtain rfl : q = none := hseg
      obtain rfl : dn = l := by have := HEQ.out; simpa [vals] using this
      go_wp2
      go_ret
      exact ⟨⟨_, _, rfl, HO.out⟩, HB.out⟩
    | cons z r =>
      obtain ⟨b, x⟩ := z
      have hm1 := lenOf_is hseg
      obtain ⟨rfl, m, hnd, hseg2⟩ := hseg
      have hlt := hnd.lt
      have c0 := (HB.out.cell (p := ⟨b, 0, none⟩) hlt).trans hnd.cell0
      have HN := Lib.hid hnd
      have hm2 := lenOf_is hseg2
      have HS2 := Lib.hid hseg2
      clear hnd hseg2
      go_wp2_with (at_builtin; refine wpList_app rfl _ _ rfl rfl HO.out [x] 1 rfl _ rfl _ rfl (by omega) (by omega) ?_; intro A5 c5 w5 hown5 hg5; have HB5 := Lib.hid (below_step HB.out hg5 HO.out hsz); have c1 := (HB5.out.cell (p := ⟨b, 1, none⟩) hlt).trans HN.out.cell1)
      have hdl : (dn ++ [x]).length = dn.length + 1 := by simp
      have HDL := Lib.hid hdl
      clear hdl
      go_roundw
      case rel => exact ⟨m, A5, c5, dn ++ [x], r, rfl, by rw [HDL.out], by rw [HDL.out]; exact hown5, HS2.out, by rw [← HEQ.out, vals_cons]; simp, HB5.out⟩
      case measure => simp only [ptrOf]; rw [hm1, hm2]; simp
end Go.Proofs.Ytnljemgglmokjaa
