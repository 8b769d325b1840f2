/-
  add and take on the rods.
-/
import Derived.Test.YtpaepdlkjblfgaaDoorFrMem
namespace Go.Proofs.YtpaepdlkjblfgaaDoor
open Go.RowKit

/-- a change of a rod that is not the first -/
def chgAt (s : Int) (ds : List Int) (k : Nat) (g : Int) : Option (List Int × Int) := (Fr.chg s (ds.drop k) g).map fun p => (ds.take k ++ p.1, p.2)
/-- what is left to be done, p pushes behind it -/
def chgP (s : Int) (ds : List Int) (k : Nat) (g p : Int) : Option (List Int × Int) := (chgAt s ds k g).map fun q => (q.1, p + q.2)
theorem chgP_zero (s : Int) (ds : List Int) (k : Nat) (g : Int) : chgP s ds k g 0 = chgAt s ds k g := by
  unfold chgP
  cases chgAt s ds k g <;> simp
theorem chgP_done (s : Int) (ds : List Int) (k : Nat) (p : Int) : chgP s ds k 0 p = some (ds, p) := by
  unfold chgP chgAt
  cases h : ds.drop k with
  | nil => simp [Fr.chg]; exact List.take_of_length_le (by simpa using h)
  | cons a l => simp only [Fr.chg, if_pos, Option.map_some]; rw [← h, List.take_append_drop, Int.add_zero]
theorem chgP_out (s : Int) (ds : List Int) (k : Nat) (g p : Int) (hg : g ≠ 0) (hk : ds.length ≤ k) : chgP s ds k g p = none := by
  unfold chgP chgAt
  rw [List.drop_of_length_le hk]
  simp [Fr.chg, hg]
theorem drop_cons {ds : List Int} {k : Nat} {d : Int} (hd : ds[k]? = some d) : ds.drop k = d :: ds.drop (k + 1) := by
  obtain ⟨h, rfl⟩ := List.getElem?_eq_some_iff.1 hd
  exact List.drop_eq_getElem_cons h
theorem chgP_in (s : Int) (ds : List Int) (k : Nat) (g p d : Int) (hg : g ≠ 0) (hd : ds[k]? = some d) (h0 : 0 ≤ d + s * g) (h9 : d + s * g ≤ 9) : chgP s ds k g p = some (ds.set k (d + s * g), p + Fr.cost d (d + s * g)) := by
  have hl := (List.getElem?_eq_some_iff.1 hd).1
  unfold chgP chgAt
  rw [drop_cons hd]
  simp only [Fr.chg, if_neg hg, if_pos (And.intro h0 h9), Option.map_some]
  rw [List.set_eq_take_append_cons_drop, if_pos hl]
theorem chgP_over (s : Int) (ds : List Int) (k : Nat) (g p d : Int) (hg : g ≠ 0) (hd : ds[k]? = some d) (h : ¬ (0 ≤ d + s * g ∧ d + s * g ≤ 9)) :
    chgP s ds k g p = chgP s (ds.set k (d + s * g - 10 * s)) (k + 1) 1 (p + Fr.cost d (d + s * g - 10 * s)) := by
  have hl := (List.getElem?_eq_some_iff.1 hd).1
  unfold chgP chgAt
  rw [drop_cons hd]
  simp only [Fr.chg, if_neg hg, if_neg h]
  have e1 : (ds.set k (d + s * g - 10 * s)).drop (k + 1) = ds.drop (k + 1) := List.drop_set_of_lt (by omega)
  have e2 : (ds.set k (d + s * g - 10 * s)).take (k + 1) = ds.take k ++ [d + s * g - 10 * s] := by
    rw [List.take_add_one, List.take_set_of_le (by omega), List.getElem?_set_self hl]; rfl
  rw [e1, e2]
  cases Fr.chg s (ds.drop (k + 1)) 1 with
  | none => rfl
  | some q => simp; omega

theorem digs_set {ds : List Int} (h : Fr.Digs ds) (k : Nat) {x : Int} (h0 : 0 ≤ x) (h9 : x ≤ 9) : Fr.Digs (ds.set k x) := by
  intro d hd
  rcases List.mem_or_eq_of_mem_set hd with h1 | h1
  · exact h d h1
  · subst h1; exact ⟨h0, h9⟩
theorem cost_le (a b : Int) : 0 ≤ Fr.cost a b ∧ Fr.cost a b ≤ 2 := by unfold Fr.cost; split <;> split <;> omega

theorem grown_undrewN {a w : World} {q : Nat} {row : Option Nat} (h : (a.drewN q).grownBy w row) : a.grownBy w row := ⟨h.os, h.tape, h.output, h.size, h.block⟩
/-- what a change on rods leaves -/
def ChgPost (w : World) (B g h : Nat) (R : Option (List Int × Int)) (n : Nat) (e : Ending) (w' : World) : Prop :=
  (∃ es, Rods w' B g h es ∧ Fr.Digs es ∧ es.length = n ∧ e = .returned (.tuple #[.int .i64 (match R with | some p => p.2 | none => 0), .bool R.isSome]) ∧ (∀ p, R = some p → p.1 = es)) ∧ w.grownBy w' (some h)

set_option maxRecDepth 100000 in
set_option maxHeartbeats 2000000 in
theorem add_any (w : World) (B g h : Nat) (ds : List Int) (n k : Nat) (x : Int) (hr : Rods w B g h ds) (hds : Fr.Digs ds) (hn : ds.length = n) (hn6 : n ≤ 6) (x0 : 0 ≤ x) (x9 : x ≤ 9) (hk6 : k ≤ 6) :
    Calls Tryd.prog 17 #[.pointer (some ⟨g, 0, none⟩), .int .i64 (k : Int), .int .i64 x] w (ChgPost w B g h (chgAt 1 ds k x) n) := by
  rw [← chgP_zero]
  obtain ⟨R, hR⟩ : ∃ R, chgP 1 ds k x 0 = R := ⟨_, rfl⟩
  rw [hR]
  have HR := Lib.hid hr
  have HD := Lib.hid hds
  have HN := Lib.hid hn
  have HE := Lib.hid hR
  have HG := Lib.hid (World.grownBy.refl w (some h))
  clear hr hds hn hR
  go_enter Tryd.func17, Tryd.ntmps17
  go_wp2
  go_loopw [1, 2, 8] (fun kv xv pv wr => ∃ (j : Nat) (y p : Int) (es : List Int), kv = .int .i64 (j : Int) ∧ xv = .int .i64 y ∧ pv = .int .i64 p ∧ j ≤ 6 + 1 ∧ 0 ≤ y ∧ y ≤ 9 ∧ 0 ≤ p ∧ p ≤ 2 * j ∧ Rods wr B g h es ∧ Fr.Digs es ∧ es.length = n ∧ chgP 1 es j y p = R ∧ w.grownBy wr (some h)) (fun kv _ _ _ => 7 - (intOf kv).toNat)
  case atStart => exact ⟨k, x, 0, ds, rfl, rfl, rfl, by omega, x0, x9, by omega, by omega, HR.out, HD.out, HN.out, HE.out, HG.out⟩
  case round =>
    clear HR HD HN HE HG
    obtain ⟨j, y, p, es, rfl, rfl, rfl, hj, y0, y9, p0, p1, hr, hds, hn, hE, hg⟩ := hrel
    have hsl := hr.slice
    rw [hn] at hsl
    have HR := Lib.hid hr
    have HD := Lib.hid hds
    have HN := Lib.hid hn
    have HE := Lib.hid hE
    have HG := Lib.hid hg
    clear hr hds hn hE hg
    by_cases hy : y = 0
    · subst hy
      go_wp2
      go_ret2
      have he := HE.out
      rw [chgP_done] at he
      subst he
      exact ⟨⟨es, HR.out, HD.out, HN.out, rfl, by rintro q ⟨⟩; rfl⟩, HG.out⟩
    · have yp : 0 < y := by omega
      by_cases hjn : j < n
      · obtain ⟨d, hd⟩ : ∃ d, es[j]? = some d := ⟨_, List.getElem?_eq_getElem (by have := HN.out; omega)⟩
        obtain ⟨d0, d9⟩ := HD.out d (List.mem_of_getElem? hd)
        have hch := HR.out.hi hd
        have hcl := HR.out.lo hd
        have HDD := Lib.hid hd
        have HY := Lib.hid hy
        clear hd hy
        have j0 : (0 : Int) ≤ (j : Int) := by omega
        have j1 : (j : Int) < (n : Int) := by omega
        by_cases hin : d ≤ 9 - y
        · obtain ⟨t0, t1⟩ := cost_le d (d + y)
          go_wp2_with fail
          refine (rod_digit HR.out HDD.out d0 d9).mono ?_
          rintro e w1 ⟨rfl, q1, rfl⟩
          go_wp2_with fail
          refine (rod_digit (HR.out.drewN _) HDD.out d0 d9).mono ?_
          rintro e w1 ⟨rfl, q2, rfl⟩
          go_wp2_with fail
          refine (show_any _ B g h es j d (d + y) (HR.out.drewN _) HDD.out (by omega) (by omega)).mono ?_
          rintro e w3 ⟨rfl, hr3, hg3⟩
          have HR3 := Lib.hid hr3
          have HG3 := Lib.hid (HG.out.trans (grown_undrewN hg3))
          clear hr3 hg3
          go_wp2
          go_ret2
          have he := HE.out
          rw [chgP_in _ _ _ _ _ d HY.out HDD.out (by omega) (by omega)] at he
          subst he
          rw [Int.one_mul]
          exact ⟨⟨_, HR3.out, digs_set HD.out j (by omega) (by omega), by rw [List.length_set]; exact HN.out, rfl, by rintro q ⟨⟩; rfl⟩, HG3.out⟩
        · obtain ⟨t0, t1⟩ := cost_le d (d - (10 - y))
          have hin' : 9 - y < d := by omega
          clear hin
          go_wp2_with fail
          refine (rod_digit HR.out HDD.out d0 d9).mono ?_
          rintro e w1 ⟨rfl, q1, rfl⟩
          go_wp2_with fail
          refine (rod_digit (HR.out.drewN _) HDD.out d0 d9).mono ?_
          rintro e w1 ⟨rfl, q2, rfl⟩
          go_wp2_with fail
          refine (show_any _ B g h es j d (d - (10 - y)) (HR.out.drewN _) HDD.out (by omega) (by omega)).mono ?_
          rintro e w3 ⟨rfl, hr3, hg3⟩
          have HR3 := Lib.hid hr3
          have HG3 := Lib.hid (HG.out.trans (grown_undrewN hg3))
          clear hr3 hg3
          go_wp2
          go_roundw
          case rel =>
            have he := HE.out
            rw [chgP_over _ _ _ _ _ d HY.out HDD.out (by omega)] at he
            have e1 : d + 1 * y - 10 * 1 = d - (10 - y) := by omega
            rw [e1] at he
            exact ⟨j + 1, 1, _, _, by go_num, rfl, rfl, by omega, by omega, by omega, by omega, by omega, HR3.out, digs_set HD.out j (by omega) (by omega), by rw [List.length_set]; exact HN.out, he, HG3.out⟩
          case measure => simp [intOf]; omega
      · go_wp2
        go_ret2
        have he := HE.out
        rw [chgP_out _ _ _ _ _ hy (by have := HN.out; omega)] at he
        subst he
        exact ⟨⟨es, HR.out, HD.out, HN.out, rfl, by rintro q ⟨⟩⟩, HG.out⟩

end Go.Proofs.YtpaepdlkjblfgaaDoor
