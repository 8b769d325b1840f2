/-
  Lists of steps that are compared, marked and held, as the exact laws do.
-/
import Derived.Test.YtphokfdaimbaiaaGlLong2
import Derived.Test.YtphokfdaimbaiaaExactKit
import Derived.StillTailTactics
namespace Go.Proofs.Ytphokfdaimbaiaa
open Go.RowKit

theorem apart_lt {v u : Value} {N : Nat} (h1 : ∀ k, v.ownBlock = some k → k < N) (h2 : ∀ k, u.ownBlock = some k → N ≤ k) : Apart v u := by
  intro k hk e
  have := h1 k e
  have := h2 k hk
  omega
theorem apart_gt {v u : Value} {N : Nat} (h1 : ∀ k, v.ownBlock = some k → k < N) (h2 : ∀ k, u.ownBlock = some k → N ≤ k) : Apart u v := by
  intro k hk e
  have := h1 k hk
  have := h2 k e
  omega
theorem eqStep_eq (u v : Int) (w : World) : Calls Try.prog 68 #[.agg #[.int .i64 u, .int .i64 v], .agg #[.int .i64 u, .int .i64 v]] w fun e w' => e = .returned (.bool true) ∧ Below w.heap.size w w' := by
  go_enter Try.func68, Try.ntmps68
  go_wp2
  go_ret
  exact ⟨rfl, ((Below.refl _ _).alloc (Nat.le_refl _) _).alloc (by simp) _⟩
set_option maxHeartbeats 1000000 in
theorem eqStepS_eq (A B : Option Addr) (n m ca cb : Nat) (l : List (Int × Int)) (w : World) (hx : Stps w w.heap.size A n l) (hy : Stps w w.heap.size B m l) :
    Calls Try.prog 36 #[.slice A n ca, .slice B m cb] w fun e w' => e = .returned (.bool true) ∧ Below w.heap.size w w' := by
  obtain rfl : n = m := by have := hx.len; have := hy.len; omega
  have hbx := hx.2.1
  have HX := Lib.hid hx
  have HY := Lib.hid hy
  clear hx hy
  go_enter Try.func36, Try.ntmps36
  go_wp2
  go_loopw [5] (fun i wr => ∃ k : Nat, k ≤ n ∧ i = .int .i64 (k : Int) ∧ Below w.heap.size w wr) (fun i _ => n - (intOf i).toNat)
  case atStart => exact ⟨0, Nat.zero_le _, rfl, Below.refl _ _⟩
  case round =>
    obtain ⟨k, hk, rfl, hb⟩ := hrel
    have HB := Lib.hid hb
    clear hb
    by_cases hlt : k < n
    · obtain ⟨b1, o1, u, v, rfl, hb1, hu, hc1, hc2⟩ := (HX.out.below HB.out).at_ hlt
      obtain ⟨b2, o2, u2, v2, rfl, hb2, hu2, hd1, hd2⟩ := (HY.out.below HB.out).at_ hlt
      rw [hu] at hu2
      obtain ⟨rfl, rfl⟩ : u = u2 ∧ v = v2 := by simpa using hu2
      clear hu hu2
      go_wp2_with fail
      go_still_tail 8, (by kernel_rfl)
      change wpList _ _ _ _ _ wr.drew
      go_wp2_with fail
      refine (eqStep_eq u v _).mono ?_
      rintro e w3 ⟨rfl, hb3⟩
      have HB3 := Lib.hid ((below_drewN HB.out 1).trans (hb3.mono HB.out.size))
      clear hb3
      go_wp2
      go_roundw
      case rel => exact ⟨k + 1, by omega, by go_num, HB3.out⟩
      case measure => simp [intOf]; omega
    · go_wp2
      go_ret
      exact ⟨rfl, HB.out⟩

/-- the steps k, k + 1, then k + 2, k + 3, .. of so many -/
def markS (k : Int) : Nat → List (Int × Int)
  | 0 => []
  | n + 1 => (k, k + 1) :: markS (k + 2) n
theorem markS_length (n : Nat) : ∀ k, (markS k n).length = n := by
  induction n with
  | zero => intro k; rfl
  | succ n ih => intro k; simp [markS, ih]
theorem markS_get (n : Nat) : ∀ k j, j < n → (markS k n)[j]? = some (k + 2 * j, k + 2 * j + 1) := by
  induction n with
  | zero => intro k j h; omega
  | succ n ih =>
    intro k j h
    cases j with
    | zero => simp [markS]
    | succ j =>
      rw [markS, List.getElem?_cons_succ, ih (k + 2) j (by omega)]
      simp only [Option.some.injEq, Prod.mk.injEq]
      omega
theorem markS_next {l : List (Int × Int)} {n j : Nat} (k : Int) (hl : l.length = n) (hj : j < n) :
    ((markS k n).take j ++ l.drop j).set j (k + 2 * j, k + 2 * j + 1) = (markS k n).take (j + 1) ++ l.drop (j + 1) := by
  have hu := markS_get n k j hj
  have hln := markS_length n k
  rw [take_next hu, List.drop_eq_getElem_cons (by omega : j < l.length), List.set_append_right _ _ (by rw [List.length_take]; omega), List.length_take,
    show j - min j (markS k n).length = 0 from by omega, List.set_cons_zero, List.append_assoc]
  rfl
theorem markS_at {l : List (Int × Int)} {n j : Nat} (k : Int) (hl : l.length = n) (hj : j < n) : ∃ s, ((markS k n).take j ++ l.drop j)[j]? = some s := by
  have hln := markS_length n k
  exact ⟨_, List.getElem?_eq_getElem (by simp; omega)⟩
theorem SV_set (l : List (Int × Int)) : ∀ (j : Nat) (u v : Int), j < l.length → ((SV l).set (j * 2) (.int .i64 u)).set (j * 2 + 1) (.int .i64 v) = SV (l.set j (u, v)) := by
  induction l with
  | nil => intro j u v h; simp at h
  | cons s l ih =>
    intro j u v h
    have e : ∀ s : Int × Int, ∀ l, SV (s :: l) = .int .i64 s.1 :: .int .i64 s.2 :: SV l := fun _ _ => rfl
    cases j with
    | zero => simp only [List.set_cons_zero, e]; rfl
    | succ j =>
      rw [List.set_cons_succ, e, e, ← ih j u v (by simpa using h), show (j + 1) * 2 = j * 2 + 1 + 1 from by omega]
      rfl
theorem OwnS.store {w : World} {B g n c : Nat} {l : List (Int × Int)} (h : OwnS w B (some ⟨g, 0, none⟩) n c l) (j : Nat) (u v : Int) (hj : j < n) :
    OwnS ((w.setCell ⟨g, j * 2, none⟩ (.int .i64 u)).setCell ⟨g, j * 2 + 1, none⟩ (.int .i64 v)) B (some ⟨g, 0, none⟩) n c (l.set j (u, v)) ∧
    w.grownBy ((w.setCell ⟨g, j * 2, none⟩ (.int .i64 u)).setCell ⟨g, j * 2 + 1, none⟩ (.int .i64 v)) (some g) ∧
    (w.setCell ⟨g, j * 2, none⟩ (.int .i64 u)).cell? ⟨g, j * 2 + 1, none⟩ = w.cell? ⟨g, j * 2 + 1, none⟩ ∧ (w.setCell ⟨g, j * 2, none⟩ (.int .i64 u)).frozen? ⟨g, j * 2 + 1, none⟩ = false := by
  obtain ⟨h1, g1⟩ := h.1.stored (j * 2) (.int .i64 u)
  obtain ⟨h2, g2⟩ := h1.stored (j * 2 + 1) (.int .i64 v)
  rw [SV_set l j u v (by have := h.len; omega)] at h2
  refine ⟨⟨h2, h.2⟩, ⟨g2.os.trans g1.os, g2.tape.trans g1.tape, g2.output.trans g1.output, Nat.le_trans g1.size g2.size, fun b hb hne => (g2.block b (Nat.lt_of_lt_of_le hb g1.size) hne).trans (g1.block b hb hne)⟩, ?_, h1.frozenAt _⟩
  exact World.cell?_setCell_other w _ _ _ (by simp)

set_option maxHeartbeats 1000000 in
theorem markStepS_any (A : Option Addr) (n c : Nat) (l : List (Int × Int)) (w : World) (B : Nat) (k : Int) (hk0 : 0 ≤ k) (hk1 : k ≤ 1099511627776) (hx : OwnS w B A n c l) :
    Calls Try.prog 39 #[.slice A n c, .int .i64 k] w fun e w' => e = .returned (.int .i64 (k + 2 * n)) ∧ OwnS w' B A n c (markS k n) ∧ w.grownBy w' (Value.slice A n c).ownBlock := by
  have hb := hx.bound
  have HX := Lib.hid hx.len
  go_enter Try.func39, Try.ntmps39
  go_wp2
  go_loopw [1, 5] (fun kv i wr => ∃ j : Nat, j ≤ n ∧ i = .int .i64 (j : Int) ∧ kv = .int .i64 (k + 2 * (j : Int)) ∧ OwnS wr B A n c ((markS k n).take j ++ l.drop j) ∧ w.grownBy wr (Value.slice A n c).ownBlock) (fun _ i _ => n - (intOf i).toNat)
  case atStart => exact ⟨0, by omega, rfl, by simp, by simpa using hx, World.grownBy.refl _ _⟩
  case round =>
    clear hx
    obtain ⟨j, hj, rfl, rfl, hown, hg⟩ := hrel
    by_cases hlt : j < n
    · obtain ⟨g, rfl, hg1, hg2, hcells, hfr⟩ := hown.at_ (by omega)
      obtain ⟨s0, hs0⟩ := markS_at k HX.out hlt
      obtain ⟨hc0, hc1⟩ := hcells j s0 hs0
      have hf0 := hfr (j * 2)
      have hst := hown.store j (k + 2 * (j : Int)) (k + 2 * (j : Int) + 1) hlt
      obtain ⟨hs1, hs2, hs3, hs4⟩ := hst
      rw [hc1] at hs3
      have HS := Lib.hid hs1
      have HS2 := Lib.hid hs2
      have HN := Lib.hid (markS_next k HX.out hlt)
      have HG := Lib.hid hg
      clear hcells hfr hg hs0 hs1 hs2 hown hc1
      go_wp2
      go_roundw
      case rel =>
        have h1 := HS.out
        rw [HN.out] at h1
        have hG := HG.out
        have h2 := HS2.out
        refine ⟨j + 1, by omega, by go_num, by congr 1; omega, h1, ⟨h2.os.trans hG.os, h2.tape.trans hG.tape, h2.output.trans hG.output, Nat.le_trans hG.size h2.size, fun b hb hne => (h2.block b (Nat.lt_of_lt_of_le hb hG.size) hne).trans (hG.block b hb hne)⟩⟩
      case measure => simp [intOf]; omega
    · go_wp2
      go_ret
      obtain rfl : j = n := by omega
      refine ⟨rfl, ?_, hg⟩
      have := hown
      rwa [List.take_of_length_le (by rw [markS_length]; omega), List.drop_eq_nil_of_le (by have := HX.out; omega), List.append_nil] at this
set_option maxHeartbeats 1000000 in
theorem heldStepS_any (A : Option Addr) (n c : Nat) (w : World) (B : Nat) (k : Int) (hk0 : 0 ≤ k) (hk1 : k ≤ 1099511627776) (hx : Stps w B A n (markS k n)) :
    Calls Try.prog 40 #[.slice A n c, .int .i64 k] w fun e w' => e = .returned (.int .i64 (k + 2 * n)) ∧ w = w' := by
  have hb := hx.2.1
  go_enter Try.func40, Try.ntmps40
  go_wp2
  go_loop [1, 5] (fun kv i => ∃ j : Nat, j ≤ n ∧ i = .int .i64 (j : Int) ∧ kv = .int .i64 (k + 2 * (j : Int))) (fun _ i => n - (intOf i).toNat)
  case atStart => exact ⟨0, by omega, rfl, by simp⟩
  case round =>
    obtain ⟨j, hj, rfl, rfl⟩ := hrel
    by_cases hlt : j < n
    · obtain ⟨b, off, u, v, rfl, hlb, hu, hc1, hc2⟩ := hx.at_ hlt
      rw [markS_get n k j hlt] at hu
      obtain ⟨rfl, rfl⟩ : k + 2 * (j : Int) = u ∧ k + 2 * (j : Int) + 1 = v := by simpa using hu
      clear hu
      go_wp2
      go_round
      case rel => exact ⟨j + 1, by omega, by go_num, by congr 1; omega⟩
      case measure => simp [intOf]; omega
    · go_wp2
      go_ret
      obtain rfl : j = n := by omega
      exact ⟨rfl, rfl⟩
end Go.Proofs.Ytphokfdaimbaiaa
