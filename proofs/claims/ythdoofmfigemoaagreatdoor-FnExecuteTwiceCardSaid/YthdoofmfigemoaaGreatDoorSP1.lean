/-
  Joined texts.
-/
import Derived.Test.YthdoofmfigemoaaGreatDoorS21
import Derived.WalkKit
import Derived.Deep.AppendLies
import Derived.Deep.Draws
import Derived.Maps.AppendAt
import Derived.RegionTactic
import Derived.OwnWalk
import Derived.Laws.Rows
import Derived.Laws.CopyOwn
import Derived.Lib.Hide
import Derived.Laws.BitsLemmas
import Derived.Lib.ItoaNum
set_option linter.unusedSimpArgs false
set_option linter.unusedVariables false
set_option maxRecDepth 100000
set_option maxHeartbeats 4000000
section
namespace Go.Proofs.YthdoofmfigemoaaGreatDoor
open Go.RowKit
def IsRow (k : IntKind) (w : World) (a : Option Addr) (len cap : Nat) (zs : List Int) : Prop :=
 (a = none ∧ len = 0 ∧ cap = 0 ∧ zs = []) ∨
 ∃ x, a = some x ∧ len ≤ cap ∧ cap ≤ maxLen ∧ zs.length = cap ∧ (∀ i, i < zs.length → w.cell? (x.add i) = some (.int k (zs.getD i 0))) ∧ ∀ n ∈ zs, (Lit.int k n).wf = true
section
variable {w w' : World} {B B' n c : Nat} {A : Option Addr} {xs : List Int}
end
end Go.Proofs.YthdoofmfigemoaaGreatDoor
end
namespace Go.Proofs.YthdoofmfigemoaaGreatDoor
open Go.RowKit
def Rd (w : World) (B g p : Nat) : Prop :=
 ∃ A n c, w.heap[g]? = some (.cells #[.slice A n c, .int .i64 p] 133 (0, 0)) ∧ n ≤ 2000 ∧ B ≤ g ∧
  (0 < n → ∃ b off, A = some ⟨b, off, none⟩ ∧ b < B ∧ ∀ j, j < n → ∃ u : Int, 0 ≤ u ∧ u ≤ 255 ∧ w.cell? ⟨b, off + j, none⟩ = some (.int .u8 u))
theorem Rd.keep {w w' : World} {B g p : Nat} (h : Rd w B g p) (hg : w'.heap[g]? = w.heap[g]?) (hB : ∀ k, k < B → w'.heap[k]? = w.heap[k]?) : Rd w' B g p := by
 obtain ⟨A, n, c, h1, h2, h3, h4⟩ := h
 refine ⟨A, n, c, hg.trans h1, h2, h3, fun hn => ?_⟩
 obtain ⟨b, off, e, hb, hc⟩ := h4 hn
 refine ⟨b, off, e, hb, fun j hj => ?_⟩
 obtain ⟨u, u0, u1, hu⟩ := hc j hj
 exact ⟨u, u0, u1, (World.cell?_of_block (hB b hb)).trans hu⟩
theorem Rd.lt {w : World} {B g p : Nat} (h : Rd w B g p) : g < w.heap.size := by
 obtain ⟨A, n, c, h1, _⟩ := h
 exact (Array.getElem?_eq_some_iff.1 h1).1
theorem Rd.base {w : World} {B g p : Nat} (h : Rd w B g p) : B ≤ g := by
 obtain ⟨A, n, c, _, _, h3, _⟩ := h
 exact h3
theorem Rd.alloc {w : World} {B g p : Nat} (h : Rd w B g p) (o : Obj) : Rd (w.alloc o) B g p :=
 h.keep (Below.heap_alloc w o g h.lt) (fun k hk => Below.heap_alloc w o k (by have := h.lt; have := h.base; omega))
theorem Rd.drewN {w : World} {B g p : Nat} (h : Rd w B g p) (k : Nat) : Rd (w.drewN k) B g p := h
theorem Rd.next {w w' : World} {B g p : Nat} (h : Rd w B g p) (hb : Below w.heap.size w w') : Rd w' B g p :=
 h.keep (hb.block g h.lt) (fun k hk => hb.block k (by have := h.lt; have := h.base; omega))
def PickPost (w : World) (B g p : Nat) (n : Int) (e : Ending) (w' : World) : Prop :=
 ∃ v : Int, e = .returned (.int .i64 v) ∧ (1 ≤ n → 0 ≤ v ∧ v < n) ∧ Rd w' B g (p + 1) ∧ w.grownBy w' (some g)
theorem grown_drewN {a w : World} {row : Option Nat} (h : a.grownBy w row) (n : Nat) : a.grownBy (w.drewN n) row := ⟨h.os, h.tape, h.output, h.size, h.block⟩
theorem rd_store {w : World} {B g p n c : Nat} {A : Option Addr} (h1 : w.heap[g]? = some (.cells #[.slice A n c, .int .i64 p] 133 (0, 0))) (h2 : n ≤ 2000) (h3 : B ≤ g)
  (h4 : 0 < n → ∃ b off, A = some ⟨b, off, none⟩ ∧ b < B ∧ ∀ j, j < n → ∃ u : Int, 0 ≤ u ∧ u ≤ 255 ∧ w.cell? ⟨b, off + j, none⟩ = some (.int .u8 u)) {q : Int} (hq : q = ((p + 1 : Nat) : Int)) :
  Rd (w.setCell ⟨g, 1, none⟩ (.int .i64 q)) B g (p + 1) ∧ w.grownBy (w.setCell ⟨g, 1, none⟩ (.int .i64 q)) (some g) := by
 subst hq
 refine ⟨⟨A, n, c, ?_, h2, h3, fun hn => ?_⟩, ⟨rfl, rfl, rfl, by simp [World.setCell], fun k hk hne => heap_setCell_other w _ k _ (fun e => hne (by rw [e]))⟩⟩
 ·have := heap_setCell_same w g 1 _ _ (.int .i64 ((p + 1 : Nat) : Int)) h1
  simpa using this
 ·obtain ⟨b, off, e, hb, hc⟩ := h4 hn
  refine ⟨b, off, e, hb, fun j hj => ?_⟩
  obtain ⟨u, u0, u1, hu⟩ := hc j hj
  exact ⟨u, u0, u1, (World.cell?_of_block (heap_setCell_other w _ b _ (by show b ≠ g; omega))).trans hu⟩
theorem xor_nonneg (x y : Int) (h0 : 0 ≤ x) (h1 : x < 4611686018427387904) (h2 : 0 ≤ y) (h3 : y < 4611686018427387904) : 0 ≤ bits .xor .i64 x y := by
 obtain ⟨a, rfl⟩ := Int.eq_ofNat_of_zero_le h0
 obtain ⟨b, rfl⟩ := Int.eq_ofNat_of_zero_le h2
 have hx : a ^^^ b < 2 ^ 62 := Nat.xor_lt_two_pow (by omega) (by omega)
 have ofi : ∀ a : Nat, a < 9223372036854775808 → (BitVec.ofInt 64 (a : Int)).toNat = a := fun a ha => by
  rw [BitVec.ofInt_natCast, BitVec.toNat_ofNat]; exact Nat.mod_eq_of_lt (by omega)
 show 0 ≤ IntKind.i64.wrap ((BitVec.ofInt 64 (a : Int) ^^^ BitVec.ofInt 64 (b : Int)).toNat : Int)
 rw [BitVec.toNat_xor, ofi a (by omega), ofi b (by omega), IntKind.wrap_i64]
 omega
theorem pick_any (w : World) (B g p : Nat) (n : Int) (h : Rd w B g p) (hp : p ≤ 1000000) :
  Calls Tryz.prog 41 #[.pointer (some ⟨g, 0, none⟩), .int .i64 n] w (PickPost w B g p n) := by
 obtain ⟨A, len, c, h1, h2, h3, h4⟩ := h
 have hst := rd_store h1 h2 h3 h4 (q := (p : Int) + 1) (by simp)
 have c0 := cell_of_row w g 0 _ _ _ h1
 have c1 := cell_of_row w g 1 _ _ _ h1
 have f1 := frozen_of_row w g 1 _ _ h1
 have HST := Hd hst
 clear hst
 have H1 := Hd h1
 clear h1
 simp only [List.getElem?_toArray, List.getElem?_cons_zero, List.getElem?_cons_succ] at c0 c1
 by_cases hn : n < 1
 ·have H4 := Hd h4
  clear h4
  go_enter Tryz.func41, Tryz.ntmps41
  go_wp2
  go_ret
  exact ⟨0, rfl, by omega, HST.out⟩
 ·by_cases hl : len = 0
  ·subst hl
   have H4 := Hd h4
   clear h4
   go_enter Tryz.func41, Tryz.ntmps41
   go_wp2
   go_ret
   exact ⟨0, rfl, by omega, HST.out⟩
  ·obtain ⟨b, off, rfl, hb, hc⟩ := h4 (by omega)
   have hl0 : ((len : Int) == 0) = false := by simpa using hl
   by_cases hk : p < len
   ·obtain ⟨u, u0, u1, hu⟩ := hc p hk
    have hu' : (w.setCell ⟨g, 1, none⟩ (.int .i64 ((p : Int) + 1))).cell? ⟨b, off + p, none⟩ = some (.int .u8 u) :=
     (World.cell?_of_block (heap_setCell_other w _ b _ (by show b ≠ g; omega))).trans hu
    have HC := Hd hc
    clear hc
    go_enter Tryz.func41, Tryz.ntmps41
    go_wp2
    go_ret
    exact ⟨_, rfl, fun _ => ⟨Int.emod_nonneg _ (by omega), Int.emod_lt_of_pos _ (by omega)⟩, HST.out⟩
   ·obtain ⟨u, u0, u1, hu⟩ := hc (p % len) (Nat.mod_lt _ (by omega))
    obtain ⟨v, v0, v1, hv⟩ := hc ((p * 7 + 3) % len) (Nat.mod_lt _ (by omega))
    have cell' : ∀ j x, w.cell? ⟨b, off + j, none⟩ = some x → (w.setCell ⟨g, 1, none⟩ (.int .i64 ((p : Int) + 1))).cell? ⟨b, off + j, none⟩ = some x :=
     fun j x hx => (World.cell?_of_block (heap_setCell_other w _ b _ (by show b ≠ g; omega))).trans hx
    have hu' := cell' _ _ hu
    have hv' := cell' _ _ hv
    have HC := Hd hc
    clear hc cell' hu hv
    have i1 : p % len < len := Nat.mod_lt _ (by omega)
    have i2 : (p * 7 + 3) % len < len := Nat.mod_lt _ (by omega)
    have q0 : p / len ≤ p := Nat.div_le_self _ _
    have m1 : (p : Int).tmod (len : Int) = ((p % len : Nat) : Int) := (Int.ofNat_tmod p len).symm
    have m2 : ((p : Int) * 7 + 3).tmod (len : Int) = (((p * 7 + 3) % len : Nat) : Int) := (Int.ofNat_tmod (p * 7 + 3) len).symm
    have m3 : (p : Int).tdiv (len : Int) = ((p / len : Nat) : Int) := (Int.ofNat_tdiv p len).symm
    generalize (p * 7 + 3) % len = j2 at *
    generalize p % len = j1 at *
    generalize p / len = q at *
    have s1 : IntKind.i64.wrap ((p : Int) * 7) = (p : Int) * 7 := IntWalk.i64_in _ (by omega)
    have s2 : IntKind.i64.wrap ((p : Int) * 7 + 3) = (p : Int) * 7 + 3 := IntWalk.i64_in _ (by omega)
    have s3 : IntKind.i64.wrap (u * 131) = u * 131 := IntWalk.i64_in _ (by omega)
    have s4 : IntKind.i64.wrap (v * 1117) = v * 1117 := IntWalk.i64_in _ (by omega)
    have s5 : IntKind.i64.wrap (u * 131 + v * 1117) = u * 131 + v * 1117 := IntWalk.i64_in _ (by omega)
    have s6 : IntKind.i64.wrap ((p : Int) * 29) = (p : Int) * 29 := IntWalk.i64_in _ (by omega)
    have s7 : IntKind.i64.wrap (u * 131 + v * 1117 + (p : Int) * 29) = u * 131 + v * 1117 + (p : Int) * 29 := IntWalk.i64_in _ (by omega)
    have s8 : IntKind.i64.wrap ((q : Int) * 53) = (q : Int) * 53 := IntWalk.i64_in _ (by omega)
    have s9 : IntKind.i64.wrap (u * 131 + v * 1117 + (p : Int) * 29 + (q : Int) * 53) = u * 131 + v * 1117 + (p : Int) * 29 + (q : Int) * 53 := IntWalk.i64_in _ (by omega)
    have s10 : IntKind.i64.wrap (j1 : Int) = (j1 : Int) := IntWalk.i64_in _ (by omega)
    have s11 : IntKind.i64.wrap (j2 : Int) = (j2 : Int) := IntWalk.i64_in _ (by omega)
    have s12 : IntKind.i64.wrap (q : Int) = (q : Int) := IntWalk.i64_in _ (by omega)
    have s13 : IntKind.i64.wrap u = u := IntWalk.i64_in _ (by omega)
    have s14 : IntKind.i64.wrap v = v := IntWalk.i64_in _ (by omega)
    go_enter Tryz.func41, Tryz.ntmps41
    go_wp2_with fail
    go_quiet (fail)
    have b0 : 0 ≤ u * 131 + v * 1117 + (p : Int) * 29 + (q : Int) * 53 := by omega
    have b1 : u * 131 + v * 1117 + (p : Int) * 29 + (q : Int) * 53 ≤ 100000000 := by omega
    clear s1 s2 s3 s4 s5 s6 s7 s8 s9 s10 s11 s12 s13 s14 m1 m2 m3
    have hx := xor_nonneg _ _ b0 (by omega) (Int.ediv_nonneg b0 (by omega : (0 : Int) ≤ 64)) (by omega)
    go_wp2
    go_ret
    exact ⟨_, rfl, fun _ => ⟨Int.emod_nonneg _ (by omega), Int.emod_lt_of_pos _ (by omega)⟩, HST.out.1.drewN _, grown_drewN HST.out.2 _⟩
theorem cut_none (c : UInt8) : ∀ a : List UInt8, c ∉ a → cut c a = [a]
 | [], _ => rfl
 | b :: a, h => by
  have hb : b ≠ c := fun e => h (by simp [e])
  have ih := cut_none c a (fun e => h (List.mem_cons_of_mem _ e))
  simp only [cut, hb, if_false, ih]
theorem dec_mem {c : UInt8} (u : Nat) : c ∈ Lib.decDigits u → 48 ≤ c.toNat ∧ c.toNat ≤ 57 := by
 induction u using Nat.strongRecOn with
 | ind u ih =>
  rw [Lib.decDigits]
  split
  ·rename_i h
   intro hc
   have := List.mem_singleton.1 hc
   subst this
   rw [digit_nat u h]
   omega
  ·rename_i h
   intro hc
   rcases List.mem_append.1 hc with hc | hc
   ·exact ih (u / 10) (by omega) hc
   ·have := List.mem_singleton.1 hc
    subst this
    rw [digit_nat (u % 10) (by omega)]
    omega
theorem itoa_free {c : UInt8} (hc : c.toNat < 48) {v : Int} (h0 : 0 ≤ v) : c ∉ Lib.itoa v := by
 unfold Lib.itoa
 rw [if_neg (by omega)]
 intro h
 have := dec_mem _ h
 omega
theorem bs_line (l : List UInt8) : (bs l ++ ⟨#[10]⟩).data.toList = l ++ [10] := by
 show (bs l ++ bs [10]).data.toList = _
 rw [bs_append, bs_list]
def Bytes (w : World) (B : Nat) (A : Option Addr) (n c : Nat) : Prop :=
 n ≤ c ∧ (0 < n → ∃ b off, A = some ⟨b, off, none⟩ ∧ b < B ∧ ∀ j, j < n → ∃ u : Int, 0 ≤ u ∧ u ≤ 255 ∧ w.cell? ⟨b, off + j, none⟩ = some (.int .u8 u))
theorem Bytes.of_row {w : World} {a : Option Addr} {len cap : Nat} {zs : List Int} (h : IsRow .u8 w a len cap zs) : Bytes w w.heap.size a len cap := by
 rcases h with ⟨rfl, rfl, rfl, rfl⟩ | ⟨x, rfl, h1, h2, h3, h4, h5⟩
 ·exact ⟨by omega, fun h => absurd h (by omega)⟩
 ·refine ⟨h1, fun hn => ?_⟩
  obtain ⟨b, off, spot⟩ := x
  have h0 := h4 0 (by omega)
  have hs : spot = none := by simpa [Addr.add] using World.cell?_spot h0
  subst hs
  refine ⟨b, off, rfl, by simpa [Addr.add] using World.block_lt_of_cell? w _ h0, fun j hj => ?_⟩
  have := h4 j (by omega)
  rw [show (⟨b, off, none⟩ : Addr).add j = ⟨b, off + j, none⟩ from by unfold Addr.add; split <;> simp_all] at this
  have hm := h5 (zs.getD j 0) (by rw [List.getD_eq_getElem?_getD, List.getElem?_eq_getElem (by omega)]; exact List.getElem_mem _)
  generalize zs.getD j 0 = u at hm this
  have m0 : IntKind.u8.min = 0 := rfl
  have m1 : IntKind.u8.max = 255 := rfl
  simp [Lit.wf, m0, m1] at hm
  exact ⟨u, by omega, by omega, this⟩
theorem l6Open_any (A : Option Addr) (n c : Nat) (w : World) (h : Bytes w w.heap.size A n c) (hn : n ≤ 1048576) :
  Calls Tryz.prog 40 #[.slice A n c] w fun e w' => e = .returned (.pointer (some ⟨w.heap.size, 0, none⟩)) ∧ Rd w' w.heap.size w.heap.size 0 ∧ Below w.heap.size w w' := by
 have hc := h.1
 have H := Hd h
 clear h
 have fin : ∀ (m : Nat) (A' : Option Addr) (c' : Nat), m ≤ 2000 → m ≤ n → A' = A → Rd (w.alloc (.cells #[.slice A' m c', .int .i64 0] 133)) w.heap.size w.heap.size 0 ∧ Below w.heap.size w (w.alloc (.cells #[.slice A' m c', .int .i64 0] 133)) := by
  intro m A' c' hm hmn hA
  subst hA
  refine ⟨⟨_, m, c', heap_alloc_new w _, hm, Nat.le_refl _, fun h0 => ?_⟩, (Below.refl _ _).alloc (Nat.le_refl _) _⟩
  obtain ⟨b, off, e, hlt, hc⟩ := H.out.2 (by omega)
  refine ⟨b, off, e, hlt, fun j hj => ?_⟩
  obtain ⟨u, h0, h1, hu⟩ := hc j (by omega)
  exact ⟨u, h0, h1, (World.cell?_alloc_lt w _ _ hlt).trans hu⟩
 have FIN := Hd fin
 clear fin
 by_cases hbig : 2000 < n
 ·obtain ⟨b, off, rfl, hlt, hcc⟩ := H.out.2 (by omega)
  clear hcc
  go_enter Tryz.func40, Tryz.ntmps40
  go_wp2
  go_ret
  exact ⟨rfl, FIN.out _ _ _ (by omega) (by omega) rfl⟩
 ·go_enter Tryz.func40, Tryz.ntmps40
  go_wp2
  go_ret
  exact ⟨rfl, FIN.out _ _ _ (by omega) (by omega) rfl⟩
theorem cut_app (c : UInt8) : ∀ a b : List UInt8, cut c (a ++ c :: b) = cut c a ++ cut c b
 | [], b => by simp [cut]
 | x :: a, b => by
  have ih := cut_app c a b
  by_cases hx : x = c
  ·subst hx
   simp [cut, ih]
  ·have e1 : cut c (x :: (a ++ c :: b)) = match cut c (a ++ c :: b) with | [] => [[x]] | y :: ys => (x :: y) :: ys := by rw [cut, if_neg hx]; rfl
   have e2 : cut c (x :: a) = match cut c a with | [] => [[x]] | y :: ys => (x :: y) :: ys := by rw [cut, if_neg hx]; rfl
   show cut c (x :: (a ++ c :: b)) = _
   rw [e1, e2, ih]
   cases ha : cut c a with
   | nil => exact absurd ha (cut_ne c a)
   | cons y ys => rfl
theorem lines_nl (a r : List UInt8) (h : (10 : UInt8) ∉ r) : lines (a ++ 10 :: r) = cut 10 a := by
 rw [lines, cut_app, cut_none 10 r h, List.dropLast_concat]
theorem lines_none {t : List UInt8} (h : (10 : UInt8) ∉ t) : lines t = [] := by rw [lines, cut_none 10 t h]; rfl
theorem runL_app : ∀ (a b : List (List UInt8)) (s : St), runL s (a ++ b) = ((runL s a).1 ++ (runL (runL s a).2 b).1, (runL (runL s a).2 b).2)
 | [], _, _ => rfl
 | x :: a, b, s => by
  have ih := runL_app a b (stepL s x).2
  show ((stepL s x).1.data.toList ++ (runL (stepL s x).2 (a ++ b)).1, (runL (stepL s x).2 (a ++ b)).2) = (((stepL s x).1.data.toList ++ (runL (stepL s x).2 a).1) ++ (runL (runL (stepL s x).2 a).2 b).1, (runL (runL (stepL s x).2 a).2 b).2)
  rw [ih, List.append_assoc]
def Full (s : List UInt8) : Prop := s = [] ∨ ∃ a, s = a ++ [10]
def Comp (t s : List UInt8) : Prop := (∃ a r, t = a ++ 10 :: r ∧ (10 : UInt8) ∉ r ∧ s = a ++ [10]) ∨ ((10 : UInt8) ∉ t ∧ s = [])
theorem Comp.full {t s : List UInt8} (h : Comp t s) : Full s := by
 rcases h with ⟨a, r, -, -, rfl⟩ | ⟨-, rfl⟩
 ·exact .inr ⟨a, rfl⟩
 ·exact .inl rfl
theorem Comp.lines {t s : List UInt8} (h : Comp t s) : lines s = lines t := by
 rcases h with ⟨a, r, rfl, hr, rfl⟩ | ⟨ht, rfl⟩
 ·rw [lines_nl a r hr, lines_nl a [] (by simp)]
 ·rw [lines_none ht]; rfl
theorem Comp.len {t s : List UInt8} (h : Comp t s) : s.length ≤ t.length := by
 rcases h with ⟨a, r, rfl, hr, rfl⟩ | ⟨ht, rfl⟩ <;> simp
theorem Comp.exec {t s : List UInt8} (h : Comp t s) (ht : t.length ≤ 400) : execT s = execT t := by
 rw [execT_short ht, execT_short (Nat.le_trans h.len ht), preOf, preOf, finOf, finOf, h.lines]
theorem lines_more {s x : List UInt8} (hs : Full s) (hx : (10 : UInt8) ∉ x) : lines (s ++ (x ++ [10])) = lines s ++ [x] := by
 rcases hs with rfl | ⟨a, rfl⟩
 ·rw [List.nil_append, lines_nl x [] (by simp), cut_none 10 x hx]; rfl
 ·have e : (a ++ [10]) ++ (x ++ [10]) = (a ++ 10 :: x) ++ 10 :: [] := by simp
  rw [e, lines_nl _ [] (by simp), lines_nl a [] (by simp), cut_app, cut_none 10 x hx]
theorem Full.more {s x : List UInt8} : Full (s ++ (x ++ [10])) := .inr ⟨s ++ x, by simp⟩
theorem pre_more {s x : List UInt8} (hs : Full s) (hx : (10 : UInt8) ∉ x) : preOf (s ++ (x ++ [10])) = preOf s ++ (stepL (finOf s) x).1.data.toList ∧ finOf (s ++ (x ++ [10])) = (stepL (finOf s) x).2 := by
 unfold preOf finOf
 rw [lines_more hs hx, runL_app]
 refine ⟨?_, rfl⟩
 show _ ++ ((stepL _ x).1.data.toList ++ []) = _
 rw [List.append_nil]
def Ends (o : List UInt8) : Prop := o = [] ∨ ∃ p, o = p ++ [10]
theorem Ends.app {a b : List UInt8} (ha : Ends a) (hb : Ends b) : Ends (a ++ b) := by
 rcases hb with rfl | ⟨p, rfl⟩
 ·rw [List.append_nil]; exact ha
 ·exact .inr ⟨a ++ p, by simp⟩
theorem ends_line (l : List UInt8) : Ends (bs l ++ ⟨#[10]⟩).data.toList := .inr ⟨l, bs_line l⟩
theorem ends_what : Ends whatT.data.toList := .inr ⟨[119, 104, 97, 116], rfl⟩
theorem ends_no : Ends noT.data.toList := .inr ⟨[110, 111], rfl⟩
theorem ends_ok (c : Bool) : Ends (if c = true then okT else noT).data.toList := by
 cases c
 ·rw [if_neg (by decide)]; exact ends_no
 ·rw [if_pos rfl]; exact .inr ⟨[111, 107], rfl⟩
theorem ends_fr (R : Option (List Int × Int)) : Ends (frSays R).data.toList := by
 cases R with
 | none => exact ends_no
 | some p => exact ends_line (Lib.itoa p.2)
theorem ends_tl : ∀ ts : List Tl, Ends (tlText ts)
 | [] => .inl rfl
 | t :: ts => by
  have h1 : Ends (tlLine t) := .inr ⟨Lib.itoa t.a ++ 62 :: (Lib.itoa t.c ++ 32 :: t.s.data.toList), by simp [tlLine]⟩
  have h2 : tlText (t :: ts) = tlLine t ++ tlText ts := by simp [tlText]
  rw [h2]
  exact h1.app (ends_tl ts)
theorem ends_step (s : St) (k : List UInt8) (ns : List Int) : Ends (stepW s k ns).1.data.toList := by
 match ns with
 | [] =>
  show Ends (step0 s k).1.data.toList
  unfold step0
  split
  ·exact ends_ok _
  split
  ·exact ends_line _
  split
  ·exact ends_line _
  split
  ·exact ends_line _
  split
  ·exact ends_ok _
  split
  ·show Ends (bs (tlText s.ts)).data.toList
   rw [bs_list]
   exact ends_tl _
  ·exact ends_what
 | [a] =>
  show Ends (step1 s k a).1.data.toList
  unfold step1
  split
  ·exact ends_ok _
  split
  ·exact ends_ok _
  split
  ·exact ends_fr _
  split
  ·exact ends_fr _
  split
  ·exact ends_line _
  ·exact ends_what
 | [a, b] =>
  show Ends (step2 s k a b).1.data.toList
  unfold step2
  split
  ·show Ends (timesT _ _).data.toList
   unfold timesT
   split
   ·exact ends_line _
   ·exact ends_no
  split
  ·show Ends (doubleT _ _).data.toList
   unfold doubleT
   split
   ·exact ends_line _
   ·exact ends_no
  split
  ·show Ends (unitsT _).data.toList
   cases unitsR a.toNat b.toNat with
   | none => exact ends_no
   | some l => exact ends_line _
  ·exact ends_what
 | [a, b, c] =>
  show Ends (step3 s k a b c).1.data.toList
  unfold step3
  split
  ·exact ends_ok _
  ·exact ends_what
 | _ :: _ :: _ :: _ :: _ => exact ends_what
theorem ends_stepL (s : St) (l : List UInt8) : Ends (stepL s l).1.data.toList := by
 unfold stepL
 split
 ·exact ends_what
 ·exact ends_step _ _ _
theorem ends_runL : ∀ (ls : List (List UInt8)) (s : St), Ends (runL s ls).1
 | [], _ => .inl rfl
 | l :: ls, s => (ends_stepL s l).app (ends_runL ls _)
theorem ends_pre (t : List UInt8) : Ends (preOf t) := ends_runL _ _
theorem finOf_inv (t : List UInt8) : InvS (finOf t) := InvS.runL _ _ InvS.start
def endQ (s : St) : List UInt8 := [118, 97, 108, 117, 101, 32] ++ Lib.itoa (bVal s.bs) ++ [32, 116, 97, 108, 108, 105, 101, 115, 32] ++ Lib.itoa (s.ts.length : Int)
theorem endS_is (s : St) : endS s = endQ s ++ [10] := rfl
theorem endQ_nl {s : St} (h : InvS s) : (10 : UInt8) ∉ endQ s := by
 have hv := h.b.bval
 intro hm
 simp only [endQ, List.mem_append] at hm
 rcases hm with ((hm | hm) | hm) | hm
 ·exact absurd hm (by decide)
 ·exact itoa_free (by decide) (by omega) hm
 ·exact absurd hm (by decide)
 ·exact itoa_free (by decide) (by omega) hm
theorem endQ_len {s : St} (h : InvS s) : (endQ s).length ≤ 60 ∧ 1 ≤ (endQ s).length := by
 have hv := h.b.bval
 obtain ⟨t1, -, -⟩ := okL_told h.t
 have h1 := itoa_le (bVal s.bs) (by omega) (by omega)
 have h2 := itoa_le (s.ts.length : Int) (by omega) (by omega)
 simp only [endQ, List.length_append, List.length_cons, List.length_nil]
 omega
def wZzz : List UInt8 := [122, 122, 122]
def lineX : List UInt8 := [108, 97, 121, 32, 120]
theorem step_zzz (s : St) : stepL s wZzz = (whatT, s) := rfl
theorem step_x (s : St) : stepL s lineX = (noT, s) := by
 have h1 : stepL s lineX = step1 s wLay 9999999 := rfl
 have h2 : layOk s 9999999 = false := by
  have : okV 9999999 = false := by decide
  simp [layOk, this]
 rw [h1]
 show (if layOk s 9999999 = true then okT else noT, layTo s 9999999) = _
 rw [h2, if_neg (by decide)]
 have h3 : layTo s 9999999 = s := by
  show ({ s with bs := if layOk s 9999999 = true then _ else s.bs } : St) = s
  rw [h2, if_neg (by decide)]
 rw [h3]
theorem step_board (s : St) : stepL s wBoard = (bs (bdText s.bs) ++ ⟨#[10]⟩, s) := rfl
theorem exec_what {s : List UInt8} (hs : Full s) (hl : s.length ≤ 388) : execT (s ++ ((wZzz ++ [10]) ++ (lineX ++ [10]))) = preOf s ++ ([119, 104, 97, 116, 10, 110, 111, 10] ++ endS (finOf s)) := by
 have e : s ++ ((wZzz ++ [10]) ++ (lineX ++ [10])) = (s ++ (wZzz ++ [10])) ++ (lineX ++ [10]) := by simp only [List.append_assoc]
 obtain ⟨p1, f1⟩ := pre_more (x := wZzz) hs (by decide)
 obtain ⟨p2, f2⟩ := pre_more (s := s ++ (wZzz ++ [10])) (x := lineX) Full.more (by decide)
 rw [execT_short (by simp [wZzz, lineX]; omega), e, p2, f2, p1, f1, step_zzz, step_x, List.append_assoc, List.append_assoc]
 rfl
theorem exec_board {s : List UInt8} (hs : Full s) (hl : s.length ≤ 394) : execT (s ++ (wBoard ++ [10])) = preOf s ++ ((bdText (finOf s).bs ++ [10]) ++ endS (finOf s)) := by
 obtain ⟨p1, f1⟩ := pre_more (x := wBoard) hs (by decide)
 rw [execT_short (by simp [wBoard]; omega), p1, f1, step_board, List.append_assoc]
 show _ ++ ((bs _ ++ ⟨#[10]⟩ : ByteArray).data.toList ++ _) = _
 rw [bs_line]
theorem exec_boards {s : List UInt8} (hs : Full s) (hl : s.length ≤ 384) : execT (s ++ ((wBoard ++ [10]) ++ (wBoard ++ [10]))) = preOf s ++ ((bdText (finOf s).bs ++ [10]) ++ ((bdText (finOf s).bs ++ [10]) ++ endS (finOf s))) := by
 have e : s ++ ((wBoard ++ [10]) ++ (wBoard ++ [10])) = (s ++ (wBoard ++ [10])) ++ (wBoard ++ [10]) := by simp only [List.append_assoc]
 obtain ⟨p1, f1⟩ := pre_more (x := wBoard) hs (by decide)
 rw [e, exec_board Full.more (by simp [wBoard]; omega), p1, f1, step_board, List.append_assoc]
 show _ ++ ((bs _ ++ ⟨#[10]⟩ : ByteArray).data.toList ++ _) = _
 rw [bs_line]
theorem grown_belowE {w w' : World} (h : Below w.heap.size w w') (row : Option Nat) : w.grownBy w' row := ⟨h.os, h.tape, h.output, h.size, fun k hk _ => h.block k hk⟩
theorem l6Dec_sz (v : Int) (w : World) (h0 : 0 ≤ v) (h1 : v ≤ 1000000000) : Calls Tryz.prog 53 #[.int .i64 v] w fun e w' => ∃ s : ByteArray, e = .returned (.string s) ∧ s.size ≤ 20 ∧ Below w.heap.size w w' := by
 obtain ⟨n, rfl⟩ := Int.eq_ofNat_of_zero_le h0
 refine (l6Dec_any n (by omega) w).mono ?_
 rintro e w' ⟨rfl, hb⟩
 exact ⟨_, rfl, dec_size _ (by omega) (by omega), hb⟩
def DTxt (N : Nat) (w : World) (B g p : Nat) (e : Ending) (w' : World) : Prop := ∃ (s : ByteArray) (q : Nat), e = .returned (.string s) ∧ s.size ≤ N ∧ Rd w' B g q ∧ q ≤ p + 10 ∧ w.grownBy w' (some g)
theorem of_list (w : World) (B g p nb : Nat) (h : Rd w B g p) (hp : p ≤ 900100) (ts : List ByteArray) (m : Nat) (hm : ts.length = m) (h1 : 1 ≤ m) (h20 : m ≤ 20) (ty : TypeId) (hb : Blk w nb (ts.map Value.string).toArray ty) (hne : nb ≠ g) (K : Nat) (hK : ∀ t ∈ ts, t.size ≤ K) :
  Calls Tryz.prog 89 #[.pointer (some ⟨g, 0, none⟩), .slice (some ⟨nb, 0, none⟩) m m] w fun e w' => ∃ s : ByteArray, e = .returned (.string s) ∧ s.size ≤ K ∧ Rd w' B g (p + 1) ∧ w.grownBy w' (some g) := by
 have HR := Hd h
 have HBL := Hd hb
 have HK := Hd hK
 have HM := Hd hm
 have hm1 : (1 : Int) ≤ (m : Int) := by omega
 have hm2 : (m : Int) ≤ 20 := by omega
 clear h hb hK hm
 go_enter Tryz.func89, Tryz.ntmps89
 go_wp2_with fail
 refine (pick_any _ _ _ _ _ HR.out (by omega)).mono ?_
 rintro e w1 ⟨v1, rfl, hv1, hrd1, hg1⟩
 obtain ⟨hva1, hvb1⟩ := hv1 (by omega)
 obtain ⟨k, rfl⟩ := Int.eq_ofNat_of_zero_le hva1
 have hbl := HBL.out.grown hg1 (by intro e; injection e with e; exact hne e)
 have hk : k < ts.length := by have := HM.out; omega
 have c0 : w1.cell? ⟨nb, k, none⟩ = some (.string ts[k]) := hbl.cell (by simp [hk])
 have HS := Hd (HK.out ts[k] (List.getElem_mem hk))
 have HRD := Hd (And.intro hrd1 hg1)
 obtain ⟨u, hu⟩ : ∃ u, ts[k] = u := ⟨_, rfl⟩
 rw [hu] at c0 HS
 have hkm : (k : Int) < (m : Int) := by omega
 clear hv1 hbl hrd1 hg1 hu hk hvb1
 go_wp2_with fail
 go_ret
 exact ⟨u, rfl, HS.out, HRD.out.1, HRD.out.2⟩
theorem mul_bd {a c : Int} (h0 : 0 ≤ a) (h1 : a ≤ 1000) (h2 : 0 ≤ c) (h3 : c ≤ 100) : 0 ≤ a * c ∧ a * c ≤ 100000 := by
 refine ⟨Int.mul_nonneg h0 h2, ?_⟩
 have := Int.mul_le_mul h1 h3 h2 (by omega)
 omega
theorem l92Line_any (w : World) (B g p : Nat) (h : Rd w B g p) (hp : p ≤ 900000) : Calls Tryz.prog 42 #[.pointer (some ⟨g, 0, none⟩)] w (DTxt 100 w B g p) := by
 have hlt := h.lt
 have hbs := h.base
 have HR := Hd h
 have HG := Hd (World.grownBy.refl w (some g))
 clear h
 go_enter Tryz.func42, Tryz.ntmps42
 go_wp2_with fail
 refine (pick_any _ _ _ _ 12 HR.out (by omega)).mono ?_
 rintro e w1 ⟨v1, rfl, hv1, hrd1, hg1⟩
 obtain ⟨ha1, hb1⟩ := hv1 (by omega)
 replace HG := Hd (HG.out.trans hg1)
 replace HR := Hd hrd1
 have hsz1 := hg1.size
 clear hv1 hrd1 hg1
 have hcase : (v1 = 0 ∨ v1 = 1) ∨ v1 = 2 ∨ v1 = 3 ∨ v1 = 4 ∨ (v1 = 5 ∨ v1 = 6) ∨ v1 = 7 ∨ v1 = 8 ∨ 9 ≤ v1 := by omega
 rcases hcase with h | rfl | rfl | rfl | h | rfl | rfl | h9
 ·rcases h with rfl | rfl
  all_goals
   go_wp2_with fail
   refine (pick_any _ _ _ _ 300 HR.out (by omega)).mono ?_
   rintro e w2 ⟨v2, rfl, hv2, hrd2, hg2⟩
   obtain ⟨ha2, hb2⟩ := hv2 (by omega)
   have hsz2 := hg2.size
   replace HG := Hd (HG.out.trans hg2)
   replace HR := Hd (hrd2)
   clear hv2 hrd2 hg2
   go_wp2_with fail
   refine (pick_any _ _ _ _ 40 HR.out (by omega)).mono ?_
   rintro e w3 ⟨v3, rfl, hv3, hrd3, hg3⟩
   obtain ⟨ha3, hb3⟩ := hv3 (by omega)
   have hsz3 := hg3.size
   replace HG := Hd (HG.out.trans hg3)
   replace HR := Hd (hrd3)
   clear hv3 hrd3 hg3
   have hm3 := mul_bd (a := v2) (c := (1 + v3)) (by omega) (by omega) (by omega) (by omega)
   obtain ⟨x3, hx3⟩ : ∃ x, v2 * (1 + v3) = x := ⟨_, rfl⟩
   rw [hx3] at hm3
   have wx3 : IntKind.i64.wrap x3 = x3 := IntWalk.i64_in _ (by omega)
   go_wp2_with fail
   refine (l6Dec_sz x3 _ (by omega) (by omega)).mono ?_
   rintro e w4 ⟨s4, rfl, hs4, hb4⟩
   have hsz4 := hb4.size
   replace HG := Hd (HG.out.trans (grown_belowE hb4 _))
   replace HR := Hd (HR.out.next hb4)
   clear hb4
   have l1 := no_long (n := 4) (by omega) (s4.size) (by omega)
   have hfin : ((⟨#[108, 97, 121, 32]⟩ : ByteArray) ++ s4).size ≤ 100 := by simp only [ByteArray.size_append]; have : (⟨#[108, 97, 121, 32]⟩ : ByteArray).size = 4 := rfl; omega
   have HF := Hd hfin
   clear hfin
   go_wp2_with fail
   go_ret
   exact ⟨_, _, rfl, HF.out, HR.out, by omega, HG.out⟩
 ·go_wp2_with fail
  refine (pick_any _ _ _ _ 11 HR.out (by omega)).mono ?_
  rintro e w2 ⟨v2, rfl, hv2, hrd2, hg2⟩
  obtain ⟨ha2, hb2⟩ := hv2 (by omega)
  have hsz2 := hg2.size
  replace HG := Hd (HG.out.trans hg2)
  replace HR := Hd (hrd2)
  clear hv2 hrd2 hg2
  go_wp2_with fail
  refine (l6Dec_sz v2 _ (by omega) (by omega)).mono ?_
  rintro e w3 ⟨s3, rfl, hs3, hb3⟩
  have hsz3 := hb3.size
  replace HG := Hd (HG.out.trans (grown_belowE hb3 _))
  replace HR := Hd (HR.out.next hb3)
  clear hb3
  have l1 := no_long (n := 6) (by omega) (s3.size) (by omega)
  have hfin : ((⟨#[114, 97, 105, 115, 101, 32]⟩ : ByteArray) ++ s3).size ≤ 100 := by simp only [ByteArray.size_append]; have : (⟨#[114, 97, 105, 115, 101, 32]⟩ : ByteArray).size = 6 := rfl; omega
  have HF := Hd hfin
  clear hfin
  go_wp2_with fail
  go_ret
  exact ⟨_, _, rfl, HF.out, HR.out, by omega, HG.out⟩
 ·go_wp2_with fail
  refine (of_list _ _ _ _ _ (HR.out.alloc _) (by omega) [⟨#[97, 100, 100, 32]⟩, ⟨#[116, 97, 107, 101, 32]⟩] 2 rfl (by omega) (by omega) _ (Blk.new _ _ _) (by omega) 5 (by decide)).mono ?_
  rintro e w2 ⟨s2, rfl, hs2, hrd2, hg2⟩
  replace HG := Hd ((HG.out.trans (World.grownBy_alloc _ _ _)).trans hg2)
  replace HR := Hd (hrd2)
  clear hrd2 hg2
  go_wp2_with fail
  refine (pick_any _ _ _ _ 100 HR.out (by omega)).mono ?_
  rintro e w3 ⟨v3, rfl, hv3, hrd3, hg3⟩
  obtain ⟨ha3, hb3⟩ := hv3 (by omega)
  have hsz3 := hg3.size
  replace HG := Hd (HG.out.trans hg3)
  replace HR := Hd (hrd3)
  clear hv3 hrd3 hg3
  go_wp2_with fail
  refine (pick_any _ _ _ _ 30 HR.out (by omega)).mono ?_
  rintro e w4 ⟨v4, rfl, hv4, hrd4, hg4⟩
  obtain ⟨ha4, hb4⟩ := hv4 (by omega)
  have hsz4 := hg4.size
  replace HG := Hd (HG.out.trans hg4)
  replace HR := Hd (hrd4)
  clear hv4 hrd4 hg4
  have hm4 := mul_bd (a := v3) (c := (1 + v4)) (by omega) (by omega) (by omega) (by omega)
  obtain ⟨x4, hx4⟩ : ∃ x, v3 * (1 + v4) = x := ⟨_, rfl⟩
  rw [hx4] at hm4
  have wx4 : IntKind.i64.wrap x4 = x4 := IntWalk.i64_in _ (by omega)
  go_wp2_with fail
  refine (l6Dec_sz x4 _ (by omega) (by omega)).mono ?_
  rintro e w5 ⟨s5, rfl, hs5, hb5⟩
  have hsz5 := hb5.size
  replace HG := Hd (HG.out.trans (grown_belowE hb5 _))
  replace HR := Hd (HR.out.next hb5)
  clear hb5
  have l1 := no_long (n := s2.size) (by omega) (s5.size) (by omega)
  have hfin : (s2 ++ s5).size ≤ 100 := by simp only [ByteArray.size_append]; omega
  have HF := Hd hfin
  clear hfin
  go_wp2_with fail
  go_ret
  exact ⟨_, _, rfl, HF.out, HR.out, by omega, HG.out⟩
 ·go_wp2_with fail
  refine (of_list _ _ _ _ _ (HR.out.alloc _) (by omega) [⟨#[116, 105, 109, 101, 115, 32]⟩, ⟨#[100, 111, 117, 98, 108, 101, 32]⟩, ⟨#[117, 110, 105, 116, 115, 32]⟩] 3 rfl (by omega) (by omega) _ (Blk.new _ _ _) (by omega) 7 (by decide)).mono ?_
  rintro e w2 ⟨s2, rfl, hs2, hrd2, hg2⟩
  replace HG := Hd ((HG.out.trans (World.grownBy_alloc _ _ _)).trans hg2)
  replace HR := Hd (hrd2)
  clear hrd2 hg2
  go_wp2_with fail
  refine (pick_any _ _ _ _ 40 HR.out (by omega)).mono ?_
  rintro e w3 ⟨v3, rfl, hv3, hrd3, hg3⟩
  obtain ⟨ha3, hb3⟩ := hv3 (by omega)
  have hsz3 := hg3.size
  replace HG := Hd (HG.out.trans hg3)
  replace HR := Hd (hrd3)
  clear hv3 hrd3 hg3
  go_wp2_with fail
  refine (l6Dec_sz v3 _ (by omega) (by omega)).mono ?_
  rintro e w4 ⟨s4, rfl, hs4, hb4⟩
  have hsz4 := hb4.size
  replace HG := Hd (HG.out.trans (grown_belowE hb4 _))
  replace HR := Hd (HR.out.next hb4)
  clear hb4
  go_wp2_with fail
  refine (pick_any _ _ _ _ 60 HR.out (by omega)).mono ?_
  rintro e w5 ⟨v5, rfl, hv5, hrd5, hg5⟩
  obtain ⟨ha5, hb5⟩ := hv5 (by omega)
  have hsz5 := hg5.size
  replace HG := Hd (HG.out.trans hg5)
  replace HR := Hd (hrd5)
  clear hv5 hrd5 hg5
  go_wp2_with fail
  refine (l6Dec_sz v5 _ (by omega) (by omega)).mono ?_
  rintro e w6 ⟨s6, rfl, hs6, hb6⟩
  have hsz6 := hb6.size
  replace HG := Hd (HG.out.trans (grown_belowE hb6 _))
  replace HR := Hd (HR.out.next hb6)
  clear hb6
  have l1 := no_long (n := s2.size) (by omega) (s4.size) (by omega)
  have l2 := no_long (n := s2.size + s4.size) (by omega) (1) (by omega)
  have l3 := no_long (n := s2.size + s4.size + 1) (by omega) (s6.size) (by omega)
  have hfin : (((s2 ++ s4) ++ (⟨#[32]⟩ : ByteArray)) ++ s6).size ≤ 100 := by simp only [ByteArray.size_append]; have : (⟨#[32]⟩ : ByteArray).size = 1 := rfl; omega
  have HF := Hd hfin
  clear hfin
  go_wp2_with fail
  go_ret
  exact ⟨_, _, rfl, HF.out, HR.out, by omega, HG.out⟩
 ·rcases h with rfl | rfl
  all_goals
   go_wp2_with fail
   refine (pick_any _ _ _ _ 5 HR.out (by omega)).mono ?_
   rintro e w2 ⟨v2, rfl, hv2, hrd2, hg2⟩
   obtain ⟨ha2, hb2⟩ := hv2 (by omega)
   have hsz2 := hg2.size
   replace HG := Hd (HG.out.trans hg2)
   replace HR := Hd (hrd2)
   clear hv2 hrd2 hg2
   go_wp2_with fail
   refine (l6Dec_sz v2 _ (by omega) (by omega)).mono ?_
   rintro e w3 ⟨s3, rfl, hs3, hb3⟩
   have hsz3 := hb3.size
   replace HG := Hd (HG.out.trans (grown_belowE hb3 _))
   replace HR := Hd (HR.out.next hb3)
   clear hb3
   go_wp2_with fail
   refine (pick_any _ _ _ _ 5 HR.out (by omega)).mono ?_
   rintro e w4 ⟨v4, rfl, hv4, hrd4, hg4⟩
   obtain ⟨ha4, hb4⟩ := hv4 (by omega)
   have hsz4 := hg4.size
   replace HG := Hd (HG.out.trans hg4)
   replace HR := Hd (hrd4)
   clear hv4 hrd4 hg4
   go_wp2_with fail
   refine (l6Dec_sz v4 _ (by omega) (by omega)).mono ?_
   rintro e w5 ⟨s5, rfl, hs5, hb5⟩
   have hsz5 := hb5.size
   replace HG := Hd (HG.out.trans (grown_belowE hb5 _))
   replace HR := Hd (HR.out.next hb5)
   clear hb5
   go_wp2_with fail
   refine (pick_any _ _ _ _ 50 HR.out (by omega)).mono ?_
   rintro e w6 ⟨v6, rfl, hv6, hrd6, hg6⟩
   obtain ⟨ha6, hb6⟩ := hv6 (by omega)
   have hsz6 := hg6.size
   replace HG := Hd (HG.out.trans hg6)
   replace HR := Hd (hrd6)
   clear hv6 hrd6 hg6
   go_wp2_with fail
   refine (pick_any _ _ _ _ 9 HR.out (by omega)).mono ?_
   rintro e w7 ⟨v7, rfl, hv7, hrd7, hg7⟩
   obtain ⟨ha7, hb7⟩ := hv7 (by omega)
   have hsz7 := hg7.size
   replace HG := Hd (HG.out.trans hg7)
   replace HR := Hd (hrd7)
   clear hv7 hrd7 hg7
   have hm7 := mul_bd (a := v6) (c := v7) (by omega) (by omega) (by omega) (by omega)
   obtain ⟨x7, hx7⟩ : ∃ x, v6 * v7 = x := ⟨_, rfl⟩
   rw [hx7] at hm7
   have wx7 : IntKind.i64.wrap x7 = x7 := IntWalk.i64_in _ (by omega)
   go_wp2_with fail
   refine (l6Dec_sz x7 _ (by omega) (by omega)).mono ?_
   rintro e w8 ⟨s8, rfl, hs8, hb8⟩
   have hsz8 := hb8.size
   replace HG := Hd (HG.out.trans (grown_belowE hb8 _))
   replace HR := Hd (HR.out.next hb8)
   clear hb8
   have l1 := no_long (n := 4) (by omega) (s3.size) (by omega)
   have l2 := no_long (n := 4 + s3.size) (by omega) (1) (by omega)
   have l3 := no_long (n := 4 + s3.size + 1) (by omega) (s5.size) (by omega)
   have l4 := no_long (n := 4 + s3.size + 1 + s5.size) (by omega) (1) (by omega)
   have l5 := no_long (n := 4 + s3.size + 1 + s5.size + 1) (by omega) (s8.size) (by omega)
   have hfin : ((((((⟨#[111, 119, 101, 32]⟩ : ByteArray) ++ s3) ++ (⟨#[32]⟩ : ByteArray)) ++ s5) ++ (⟨#[32]⟩ : ByteArray)) ++ s8).size ≤ 100 := by simp only [ByteArray.size_append]; have : (⟨#[111, 119, 101, 32]⟩ : ByteArray).size = 4 := rfl; have : (⟨#[32]⟩ : ByteArray).size = 1 := rfl; have : (⟨#[32]⟩ : ByteArray).size = 1 := rfl; omega
   have HF := Hd hfin
   clear hfin
   go_wp2_with fail
   go_ret
   exact ⟨_, _, rfl, HF.out, HR.out, by omega, HG.out⟩
 ·go_wp2_with fail
  refine (pick_any _ _ _ _ 500 HR.out (by omega)).mono ?_
  rintro e w2 ⟨v2, rfl, hv2, hrd2, hg2⟩
  obtain ⟨ha2, hb2⟩ := hv2 (by omega)
  have hsz2 := hg2.size
  replace HG := Hd (HG.out.trans hg2)
  replace HR := Hd (hrd2)
  clear hv2 hrd2 hg2
  go_wp2_with fail
  refine (pick_any _ _ _ _ 90 HR.out (by omega)).mono ?_
  rintro e w3 ⟨v3, rfl, hv3, hrd3, hg3⟩
  obtain ⟨ha3, hb3⟩ := hv3 (by omega)
  have hsz3 := hg3.size
  replace HG := Hd (HG.out.trans hg3)
  replace HR := Hd (hrd3)
  clear hv3 hrd3 hg3
  have hm3 := mul_bd (a := v2) (c := (1 + v3)) (by omega) (by omega) (by omega) (by omega)
  obtain ⟨x3, hx3⟩ : ∃ x, v2 * (1 + v3) = x := ⟨_, rfl⟩
  rw [hx3] at hm3
  have wx3 : IntKind.i64.wrap x3 = x3 := IntWalk.i64_in _ (by omega)
  go_wp2_with fail
  refine (l6Dec_sz x3 _ (by omega) (by omega)).mono ?_
  rintro e w4 ⟨s4, rfl, hs4, hb4⟩
  have hsz4 := hb4.size
  replace HG := Hd (HG.out.trans (grown_belowE hb4 _))
  replace HR := Hd (HR.out.next hb4)
  clear hb4
  have l1 := no_long (n := 5) (by omega) (s4.size) (by omega)
  have hfin : ((⟨#[114, 111, 111, 116, 32]⟩ : ByteArray) ++ s4).size ≤ 100 := by simp only [ByteArray.size_append]; have : (⟨#[114, 111, 111, 116, 32]⟩ : ByteArray).size = 5 := rfl; omega
  have HF := Hd hfin
  clear hfin
  go_wp2_with fail
  go_ret
  exact ⟨_, _, rfl, HF.out, HR.out, by omega, HG.out⟩
 ·go_wp2_with fail
  refine (of_list _ _ _ _ _ (HR.out.alloc _) (by omega) [⟨#[]⟩, ⟨#[122, 122, 122]⟩, ⟨#[108, 97, 121]⟩, ⟨#[108, 97, 121, 32, 120]⟩, ⟨#[98, 111, 97, 114, 100, 32, 49]⟩, ⟨#[114, 111, 111, 116, 32, 49, 50, 51, 52, 53, 54, 55]⟩, ⟨#[111, 119, 101, 32, 48, 32, 49]⟩, ⟨#[97, 100, 100, 32, 48, 48, 49, 50]⟩, ⟨#[116, 105, 109, 101, 115, 32, 55, 32, 56, 32]⟩] 9 rfl (by omega) (by omega) _ (Blk.new _ _ _) (by omega) 12 (by decide)).mono ?_
  rintro e w2 ⟨s2, rfl, hs2, hrd2, hg2⟩
  replace HG := Hd ((HG.out.trans (World.grownBy_alloc _ _ _)).trans hg2)
  replace HR := Hd (hrd2)
  clear hrd2 hg2
  have hfin : s2.size ≤ 100 := by omega
  have HF := Hd hfin
  clear hfin
  go_wp2_with fail
  go_ret
  exact ⟨_, _, rfl, HF.out, HR.out, by omega, HG.out⟩
 ·go_wp2_with fail
  refine (of_list _ _ _ _ _ (HR.out.alloc _) (by omega) [⟨#[114, 101, 100, 117, 99, 101]⟩, ⟨#[98, 111, 97, 114, 100]⟩, ⟨#[118, 97, 108, 117, 101]⟩, ⟨#[102, 114, 97, 109, 101]⟩, ⟨#[116, 97, 108, 108, 105, 101, 115]⟩, ⟨#[115, 101, 116, 116, 108, 101]⟩] 6 rfl (by omega) (by omega) _ (Blk.new _ _ _) (by omega) 7 (by decide)).mono ?_
  rintro e w2 ⟨s2, rfl, hs2, hrd2, hg2⟩
  replace HG := Hd ((HG.out.trans (World.grownBy_alloc _ _ _)).trans hg2)
  replace HR := Hd (hrd2)
  clear hrd2 hg2
  have hfin : s2.size ≤ 100 := by omega
  have HF := Hd hfin
  clear hfin
  go_wp2_with fail
  go_ret
  exact ⟨_, _, rfl, HF.out, HR.out, by omega, HG.out⟩
theorem ext_take (s : ByteArray) (i : Nat) : s.extract 0 i = bs (s.data.toList.take i) := by rw [ext_bs]; simp
theorem notin_drop {l : List UInt8} {i : Nat} {b : UInt8} (h : l[i]? = some b) (hb : b ≠ 10) (hd : (10 : UInt8) ∉ l.drop (i + 1)) : (10 : UInt8) ∉ l.drop i := by
 rw [ex_drop_at h]
 intro hm
 rcases List.mem_cons.1 hm with hm | hm
 ·exact hb hm.symm
 ·exact hd hm
theorem comp_hit {l : List UInt8} {i : Nat} (h : l[i]? = some 10) (hd : (10 : UInt8) ∉ l.drop (i + 1)) : Comp l (l.take (i + 1)) := by
 refine .inl ⟨l.take i, l.drop (i + 1), ?_, hd, ?_⟩
 ·rw [← ex_drop_at h, List.take_append_drop]
 ·rw [List.take_add_one, h]; rfl
theorem complete_any (s : ByteArray) (w : World) (hs : s.size ≤ 900000) : Calls Tryz.prog 15 #[.string s] w fun e w' => ∃ r, e = .returned (.string (bs r)) ∧ Comp s.data.toList r ∧ w = w' := by
 have hlen : s.data.toList.length = s.size := by simp
 obtain ⟨l, hl⟩ : ∃ l, s.data.toList = l := ⟨_, rfl⟩
 rw [hl] at hlen ⊢
 have HL := Hd hl
 clear hl
 go_enter Tryz.func15, Tryz.ntmps15
 go_wp2_with fail
 go_loopw [3] (fun iv wr => ∃ (i : Nat), i ≤ s.size ∧ iv = .int .i64 (i : Int) ∧ (10 : UInt8) ∉ l.drop i ∧ w = wr) (fun iv _ => (intOf iv).toNat)
 case atStart => exact ⟨s.size, by omega, rfl, by rw [List.drop_eq_nil_of_le (by omega)]; simp, rfl⟩
 case round =>
  obtain ⟨i, hi, rfl, hd, rfl⟩ := hrel
  by_cases h0 : 0 < i
  ·obtain ⟨j, rfl⟩ : ∃ j, i = j + 1 := ⟨i - 1, by omega⟩
   have e1 : ((j + 1 : Nat) : Int) - 1 = (j : Int) := by omega
   have hjs : j < s.size := by omega
   obtain ⟨b, hb⟩ : ∃ b, s[j] = b := ⟨_, rfl⟩
   have hb2 : l[j]? = some b := by
    rw [← HL.out, List.getElem?_eq_getElem (by simpa using hjs), ← hb]; rfl
   have hext := ext_take s (j + 1)
   rw [HL.out] at hext
   by_cases hbc : b = 10
   ·subst hbc
    have HC := Hd (comp_hit hb2 hd)
    have HX := Hd hext
    clear hb2 hd hext
    go_wp2_with fail
    go_ret
    exact ⟨_, by rw [HX.out]; rfl, HC.out, rfl⟩
   ·have hbn : ¬ (b.toNat : Int) = 10 := fun e => hbc (UInt8.toNat_inj.1 (by have : (10 : UInt8).toNat = 10 := rfl; omega))
    have HD := Hd (notin_drop hb2 hbc hd)
    clear hb2 hd hext
    go_wp2_with fail
    go_roundw
    case rel => exact ⟨j, by omega, by go_num, HD.out, trivial⟩
    case measure => simp [intOf] <;> omega
  ·obtain rfl : i = 0 := by omega
   have HD := Hd (show Comp l [] from .inr ⟨by simpa using hd, rfl⟩)
   clear hd
   go_wp2_with fail
   go_ret
   exact ⟨[], rfl, HD.out, rfl⟩
theorem ext_last (s : ByteArray) (i : Nat) : s.extract i s.size = bs (s.data.toList.drop i) := by
 rw [ext_bs, List.take_of_length_le (by simp)]
theorem lastLine_any (p q : List UInt8) (hp : Ends p) (hq : (10 : UInt8) ∉ q) (s : ByteArray) (hs : s.size ≤ 900000) (hpq : s.data.toList = p ++ (q ++ [10])) (w : World) :
  Calls Tryz.prog 16 #[.string s] w fun e w' => e = .returned (.string (bs (q ++ [10]))) ∧ w = w' := by
 have hlen : s.data.toList.length = s.size := by simp
 have hsz : s.size = p.length + (q.length + 1) := by rw [← hlen, hpq]; simp
 have HL := Hd hpq
 have HQ := Hd hq
 have HP := Hd hp
 have HS := Hd hsz
 have hs2 : 1 ≤ s.size := by omega
 clear hpq hq hp hlen hsz
 go_enter Tryz.func16, Tryz.ntmps16
 go_wp2_with fail
 go_loopw [3] (fun iv wr => ∃ (i : Nat), p.length ≤ i ∧ i + 1 ≤ s.size ∧ iv = .int .i64 ((i : Int) - 1) ∧ w = wr) (fun iv _ => (intOf iv + 1).toNat)
 case atStart => exact ⟨s.size - 1, by have := HS.out; omega, by omega, by congr 1; omega, rfl⟩
 case round =>
  obtain ⟨i, hpi, hi, rfl, rfl⟩ := hrel
  by_cases h0 : 0 < i
  ·obtain ⟨j, rfl⟩ : ∃ j, i = j + 1 := ⟨i - 1, by omega⟩
   have e1 : ((j + 1 : Nat) : Int) - 1 = (j : Int) := by omega
   rw [e1]
   have hjs : j < s.size := by omega
   obtain ⟨b, hb⟩ : ∃ b, s[j] = b := ⟨_, rfl⟩
   have hb2 : s.data.toList[j]? = some b := by
    rw [List.getElem?_eq_getElem (by simpa using hjs), ← hb]; rfl
   have hext := ext_last s (j + 1)
   rw [HL.out] at hb2 hext
   by_cases hj : j + 1 = p.length
   ·have hb10 : b = 10 := by
     rcases HP.out with h | ⟨p', h⟩
     ·rw [h] at hj; cases hj
     ·subst h
      have hj2 : j = p'.length := by simpa using hj
      subst hj2
      simp at hb2
      exact hb2.symm
    subst hb10
    have hfin : (p ++ (q ++ [10])).drop (j + 1) = q ++ [10] := by rw [hj, List.drop_left]
    rw [hfin] at hext
    have HX := Hd hext
    clear hb2 hext hfin hj hpi
    go_wp2_with fail
    go_ret
    exact ⟨by rw [HX.out]; rfl, rfl⟩
   ·have hbc : b ≠ 10 := fun e => by
     subst e
     refine HQ.out ?_
     rw [List.getElem?_append_right (by omega), List.getElem?_append_left (by have := HS.out; omega)] at hb2
     exact List.mem_of_getElem? hb2
    have hbn : ¬ (b.toNat : Int) = 10 := fun e => hbc (UInt8.toNat_inj.1 (by have : (10 : UInt8).toNat = 10 := rfl; omega))
    clear hb2 hext
    go_wp2_with fail
    go_roundw
    case rel => exact ⟨j, by omega, by omega, rfl, trivial⟩
    case measure => simp [intOf] <;> omega
  ·obtain rfl : i = 0 := by omega
   have hp0 : p = [] := List.eq_nil_of_length_eq_zero (by omega)
   have hfin : s = bs (q ++ [10]) := by
    have := HL.out
    rw [hp0, List.nil_append] at this
    rw [← this]
    exact (bs_eta s).symm
   have HX := Hd hfin
   clear hfin hp0
   go_wp2_with fail
   go_ret
   exact ⟨by rw [← HX.out]; rfl, rfl⟩
theorem l6Many_size (s : ByteArray) (m n : Nat) (hm : s.size = m) (hm6 : m ≤ 10) (hn : n ≤ 100) (w : World) : Calls Tryz.prog 43 #[.string s, .int .i64 (n : Int)] w fun e w' => ∃ r : ByteArray, e = .returned (.string r) ∧ r.size ≤ m * n ∧ w = w' := by
 have HM := Hd hm
 clear hm
 go_enter Tryz.func43, Tryz.ntmps43
 go_wp2_with fail
 go_loopw [0, 1, 5] (fun sv nv ov wr => ∃ (s1 o1 : ByteArray) (k : Nat), k ≤ 100 ∧ s1.size ≤ 20000 ∧ o1.size ≤ 20000 ∧ (0 < k → s1.size ≤ 1000) ∧ o1.size + s1.size * k ≤ m * n ∧ sv = .string s1 ∧ nv = .int .i64 (k : Int) ∧ ov = .string o1 ∧ w = wr) (fun _ nv _ _ => (intOf nv).toNat)
 case atStart => exact ⟨s, ⟨#[]⟩, n, hn, by have := HM.out; omega, by decide, by have := HM.out; omega, by rw [HM.out]; show 0 + m * n ≤ m * n; omega, rfl, rfl, rfl, rfl⟩
 case round =>
  have hmn : m * n ≤ 10 * 100 := Nat.mul_le_mul hm6 hn
  obtain ⟨s1, o1, k, hk9, hs1, ho1, hsk, hab, rfl, rfl, rfl, rfl⟩ := hrel
  have HAB := Hd hab
  have HSK := Hd hsk
  clear hab hsk
  by_cases hk : k = 0
  ·subst hk
   go_wp2
   go_ret
   exact ⟨_, rfl, by have := HAB.out; omega, rfl⟩
  ·obtain ⟨q, hq⟩ : ∃ q, k = 2 * q + 1 ∨ k = 2 * q := ⟨k / 2, by omega⟩
   have hpos : (k : Int) > 0 := by omega
   have hs9 := HSK.out (by omega)
   have ho9 : o1.size ≤ 1000 := by have := HAB.out; have := Nat.le_mul_of_pos_right s1.size (show 0 < k by omega); omega
   have hwq : IntKind.i64.wrap (q : Int) = q := IntWalk.i64_in _ (by omega)
   have hwr := wrap64_nat (n := q) (by omega)
   have hdiv : ((k : Int)).tdiv 2 = (q : Int) := by rw [show (2 : Int) = ((2 : Nat) : Int) from rfl, tdiv_nat]; omega
   have hl1 := no_long (n := o1.size) (by omega) s1.size (by omega)
   have hl2 := no_long (n := s1.size) (by omega) s1.size (by omega)
   have hq2 : 0 < q → (s1 ++ s1).size ≤ 1000 := fun h => by
    rw [ByteArray.size_append]
    have h1 := HAB.out
    have h2 : s1.size * 2 ≤ s1.size * k := Nat.mul_le_mul_left _ (by omega)
    omega
   have hdd : (s1 ++ s1).size ≤ 20000 := by rw [ByteArray.size_append]; omega
   rcases hq with hq | hq
   ·have hmod : ((k : Int)).tmod 2 = 1 := by rw [show (2 : Int) = ((2 : Nat) : Int) from rfl, tmod_nat]; omega
    have HN := Hd (show (o1 ++ s1).size + (s1 ++ s1).size * q ≤ m * n by
     rw [ByteArray.size_append, ByteArray.size_append]
     have h1 := HAB.out
     rw [hq, Nat.mul_add, Nat.mul_one, Nat.mul_left_comm] at h1
     rw [Nat.add_mul]
     omega)
    have HQ := Hd hq
    have HQ2 := Hd (And.intro hq2 (And.intro hdd (show (o1 ++ s1).size ≤ 20000 by rw [ByteArray.size_append]; omega)))
    clear hq hq2 hdd
    go_wp2_with fail
    exact ⟨⟨s1 ++ s1, o1 ++ s1, q, by have := HQ.out; omega, HQ2.out.2.1, HQ2.out.2.2, HQ2.out.1, HN.out, rfl, rfl, rfl, trivial⟩, by have := HQ.out; simp [intOf]; omega⟩
   ·have hmod : ((k : Int)).tmod 2 = 0 := by rw [show (2 : Int) = ((2 : Nat) : Int) from rfl, tmod_nat]; omega
    have HN := Hd (show o1.size + (s1 ++ s1).size * q ≤ m * n by
     rw [ByteArray.size_append]
     have h1 := HAB.out
     rw [hq, Nat.mul_left_comm] at h1
     rw [Nat.add_mul]
     omega)
    have HQ := Hd hq
    have HQ2 := Hd (And.intro hq2 hdd)
    clear hq hq2 hdd
    go_wp2_with fail
    exact ⟨⟨s1 ++ s1, o1, q, by have := HQ.out; omega, HQ2.out.2, ho1, HQ2.out.1, HN.out, rfl, rfl, rfl, trivial⟩, by have := HQ.out; simp [intOf]; omega⟩
theorem DrawExecute_any (A : Option Addr) (n c : Nat) (w : World) (h : Bytes w w.heap.size A n c) (hn : n ≤ 1048576) :
  Calls Tryz.prog 12 #[.slice A n c] w fun e w' => ∃ s : ByteArray, e = .returned (.string s) ∧ s.size ≤ 3000 ∧ Below w.heap.size w w' := by
 have HBY := Hd h
 clear h
 go_enter Tryz.func12, Tryz.ntmps12
 go_wp2_with fail
 refine (l6Open_any A n c w HBY.out hn).mono ?_
 rintro e w1 ⟨rfl, hrd, hb⟩
 have HR := Hd hrd
 have HB := Hd hb
 have hlt := hrd.lt
 clear hrd hb
 go_wp2_with fail
 refine (pick_any _ _ _ _ 14 HR.out (by omega)).mono ?_
 rintro e w2 ⟨v, rfl, hv, hrd, hg⟩
 obtain ⟨v0, v1⟩ := hv (by omega)
 obtain ⟨k, rfl⟩ := Int.eq_ofNat_of_zero_le v0
 have hk : k ≤ 13 := by omega
 have HB2 := Hd (HB.out.grown hg HB.out.size (fun q e => by injection e with e; omega))
 have HR2 := Hd hrd
 have HK := Hd v1
 clear hv hrd hg HR HB v1
 go_wp2_with fail
 go_loopw [4, 6] (fun sv iv wr => ∃ (i p : Nat) (s : ByteArray), i ≤ k ∧ p ≤ 1 + 10 * i ∧ sv = .string s ∧ iv = .int .i64 (i : Int) ∧ s.size ≤ 110 * i ∧ Rd wr w.heap.size w.heap.size p ∧ Below w.heap.size w wr) (fun _ iv _ => k - (intOf iv).toNat)
 case atStart => exact ⟨0, 1, ⟨#[]⟩, by omega, by omega, rfl, rfl, by decide, HR2.out, HB2.out⟩
 case round =>
  obtain ⟨i, p, s, hi, hp, rfl, rfl, hs, hrd, hb⟩ := hrel
  have HRR := Hd hrd
  have HBB := Hd hb
  have hlt2 := hrd.lt
  clear hrd hb
  by_cases hik : i < k
  ·have hikI : (i : Int) < (k : Int) := by omega
   go_wp2_with fail
   refine (l92Line_any _ _ _ _ HRR.out (by omega)).mono ?_
   rintro e w4 ⟨u, q, rfl, hu, hrd4, hq, hg4⟩
   have HR4 := Hd hrd4
   have HB4 := Hd (HBB.out.grown hg4 HBB.out.size (fun q e => by injection e with e; omega))
   have l1 := no_long (n := s.size) (by omega) u.size (by omega)
   have l2 := no_long (n := s.size + u.size) (by omega) 1 (by omega)
   have HSZ := Hd (show ((s ++ u) ++ ⟨#[10]⟩ : ByteArray).size ≤ 110 * (i + 1) by rw [ByteArray.size_append, ByteArray.size_append]; have : (⟨#[10]⟩ : ByteArray).size = 1 := rfl; omega)
   clear hrd4 hg4
   go_wp2_with fail
   exact ⟨⟨i + 1, q, _, by omega, by omega, rfl, by go_num, HSZ.out, HR4.out, HB4.out⟩, by simp [intOf]; omega⟩
  ·have hikI : ¬ (i : Int) < (k : Int) := by omega
   go_wp2_with fail
   refine (pick_any _ _ _ _ 24 HRR.out (by omega)).mono ?_
   rintro e w4 ⟨v, rfl, hv, hrd4, hg4⟩
   obtain ⟨v0, v1⟩ := hv (by omega)
   have HB4 := Hd (HBB.out.grown hg4 HBB.out.size (fun q e => by injection e with e; omega))
   have hs2 : s.size ≤ 1430 := by omega
   clear hv hrd4 hg4
   by_cases h0 : v = 0
   ·subst h0
    have l1 := no_long (n := s.size) (by omega) 5 (by omega)
    have HSZ := Hd (show (s ++ ⟨#[98, 111, 97, 114, 100]⟩ : ByteArray).size ≤ 3000 by rw [ByteArray.size_append]; have : (⟨#[98, 111, 97, 114, 100]⟩ : ByteArray).size = 5 := rfl; omega)
    go_wp2_with fail
    go_ret
    exact ⟨_, rfl, HSZ.out, HB4.out⟩
   ·by_cases h1 : v = 1
    ·subst h1
     go_wp2_with fail
     refine (l6Many_size _ 6 90 rfl (by omega) (by omega) _).mono ?_
     rintro e w5 ⟨r, rfl, hr, rfl⟩
     have l1 := no_long (n := s.size) (by omega) r.size (by omega)
     have HSZ := Hd (show (s ++ r).size ≤ 3000 by rw [ByteArray.size_append]; omega)
     go_wp2_with fail
     go_ret
     exact ⟨_, rfl, HSZ.out, HB4.out⟩
    ·go_wp2_with fail
     go_ret
     exact ⟨_, rfl, by omega, HB4.out⟩
end Go.Proofs.YthdoofmfigemoaaGreatDoor
