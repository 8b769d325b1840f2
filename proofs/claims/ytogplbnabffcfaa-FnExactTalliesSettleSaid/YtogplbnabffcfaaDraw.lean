/-
  The reader of a code, from which the inputs of the laws are drawn: its state in memory; one pick.
-/
import Derived.Test.YtogplbnabffcfaaCommon
import Derived.Laws.BitsLemmas
namespace Go.Proofs.Ytogplbnabffcfaa
open Go.RowKit

/-- the reader lies in block g; p picks were made; its bytes lie below block B -/
def Rd (w : World) (B g p : Nat) : Prop :=
  ∃ A n c, w.heap[g]? = some (.cells #[.slice A n c, .int .i64 p] 68 (0, 0)) ∧ n ≤ 2000 ∧ B ≤ g ∧
    (0 < n → ∃ b off, A = some ⟨b, off, none⟩ ∧ b < B ∧ ∀ j, j < n → ∃ u : Int, 0 ≤ u ∧ u ≤ 255 ∧ w.cell? ⟨b, off + j, none⟩ = some (.int .u8 u))

theorem Rd.keep {w w' : World} {B g p : Nat} (h : Rd w B g p) (hg : w'.heap[g]? = w.heap[g]?) (hB : ∀ k, k < B → w'.heap[k]? = w.heap[k]?) : Rd w' B g p := by
  obtain ⟨A, n, c, h1, h2, h3, h4⟩ := h
  refine ⟨A, n, c, hg.trans h1, h2, h3, fun hn => ?_⟩
  obtain ⟨b, off, e, hb, hc⟩ := h4 hn
  refine ⟨b, off, e, hb, fun j hj => ?_⟩
  obtain ⟨u, u0, u1, hu⟩ := hc j hj
  exact ⟨u, u0, u1, (World.cell?_of_block (hB b hb)).trans hu⟩
theorem Rd.lt {w : World} {B g p : Nat} (h : Rd w B g p) : g < w.heap.size := by
  obtain ⟨A, n, c, h1, _⟩ := h
  exact (Array.getElem?_eq_some_iff.1 h1).1
theorem Rd.base {w : World} {B g p : Nat} (h : Rd w B g p) : B ≤ g := by
  obtain ⟨A, n, c, _, _, h3, _⟩ := h
  exact h3
theorem Rd.alloc {w : World} {B g p : Nat} (h : Rd w B g p) (o : Obj) : Rd (w.alloc o) B g p :=
  h.keep (Below.heap_alloc w o g h.lt) (fun k hk => Below.heap_alloc w o k (by have := h.lt; have := h.base; omega))
theorem Rd.drew {w : World} {B g p : Nat} (h : Rd w B g p) : Rd w.drew B g p := h
theorem Rd.drewN {w : World} {B g p : Nat} (h : Rd w B g p) (k : Nat) : Rd (w.drewN k) B g p := h
theorem Rd.grown {w w' : World} {B g p : Nat} {row : Option Nat} (h : Rd w B g p) (hg : w.grownBy w' row) (hr : ∀ k, row = some k → B ≤ k ∧ k ≠ g) : Rd w' B g p :=
  h.keep (hg.block g h.lt (fun e => (hr g e.symm).2 rfl)) (fun k hk => hg.block k (by have := h.lt; have := h.base; omega) (fun e => by have := (hr k e.symm).1; omega))
theorem Rd.far {w : World} {B g p : Nat} (h : Rd w B g p) {a : Addr} (h1 : B ≤ a.block) (h2 : a.block ≠ g) (u : Value) : Rd (w.setCell a u) B g p :=
  h.keep (heap_setCell_other w a g u (fun e => h2 e.symm)) (fun k hk => heap_setCell_other w a k u (by omega))
theorem Rd.next {w w' : World} {B g p : Nat} (h : Rd w B g p) (hb : Below w.heap.size w w') : Rd w' B g p :=
  h.keep (hb.block g h.lt) (fun k hk => hb.block k (by have := h.lt; have := h.base; omega))

def PickPost (w : World) (B g p : Nat) (n : Int) (e : Ending) (w' : World) : Prop :=
  ∃ v : Int, e = .returned (.int .i64 v) ∧ (1 ≤ n → 0 ≤ v ∧ v < n) ∧ Rd w' B g (p + 1) ∧ w.grownBy w' (some g)

theorem grown_drewN {a w : World} {row : Option Nat} (h : a.grownBy w row) (n : Nat) : a.grownBy (w.drewN n) row := ⟨h.os, h.tape, h.output, h.size, h.block⟩

theorem rd_store {w : World} {B g p n c : Nat} {A : Option Addr} (h1 : w.heap[g]? = some (.cells #[.slice A n c, .int .i64 p] 68 (0, 0))) (h2 : n ≤ 2000) (h3 : B ≤ g)
    (h4 : 0 < n → ∃ b off, A = some ⟨b, off, none⟩ ∧ b < B ∧ ∀ j, j < n → ∃ u : Int, 0 ≤ u ∧ u ≤ 255 ∧ w.cell? ⟨b, off + j, none⟩ = some (.int .u8 u)) {q : Int} (hq : q = ((p + 1 : Nat) : Int)) :
    Rd (w.setCell ⟨g, 1, none⟩ (.int .i64 q)) B g (p + 1) ∧ w.grownBy (w.setCell ⟨g, 1, none⟩ (.int .i64 q)) (some g) := by
  subst hq
  refine ⟨⟨A, n, c, ?_, h2, h3, fun hn => ?_⟩, ⟨rfl, rfl, rfl, by simp [World.setCell], fun k hk hne => heap_setCell_other w _ k _ (fun e => hne (by rw [e]))⟩⟩
  · have := heap_setCell_same w g 1 _ _ (.int .i64 ((p + 1 : Nat) : Int)) h1
    simpa using this
  · obtain ⟨b, off, e, hb, hc⟩ := h4 hn
    refine ⟨b, off, e, hb, fun j hj => ?_⟩
    obtain ⟨u, u0, u1, hu⟩ := hc j hj
    exact ⟨u, u0, u1, (World.cell?_of_block (heap_setCell_other w _ b _ (by show b ≠ g; omega))).trans hu⟩

theorem xor_nonneg (x y : Int) (h0 : 0 ≤ x) (h1 : x < 4611686018427387904) (h2 : 0 ≤ y) (h3 : y < 4611686018427387904) : 0 ≤ bits .xor .i64 x y := by
  obtain ⟨a, rfl⟩ := Int.eq_ofNat_of_zero_le h0
  obtain ⟨b, rfl⟩ := Int.eq_ofNat_of_zero_le h2
  have hx : a ^^^ b < 2 ^ 62 := Nat.xor_lt_two_pow (by omega) (by omega)
  have ofi : ∀ a : Nat, a < 9223372036854775808 → (BitVec.ofInt 64 (a : Int)).toNat = a := fun a ha => by
    rw [BitVec.ofInt_natCast, BitVec.toNat_ofNat]; exact Nat.mod_eq_of_lt (by omega)
  show 0 ≤ IntKind.i64.wrap ((BitVec.ofInt 64 (a : Int) ^^^ BitVec.ofInt 64 (b : Int)).toNat : Int)
  rw [BitVec.toNat_xor, ofi a (by omega), ofi b (by omega), IntKind.wrap_i64]
  omega

set_option maxRecDepth 100000 in
set_option maxHeartbeats 1000000 in
theorem pick_any (w : World) (B g p : Nat) (n : Int) (h : Rd w B g p) (hp : p ≤ 1000000) :
    Calls Try.prog 32 #[.pointer (some ⟨g, 0, none⟩), .int .i64 n] w (PickPost w B g p n) := by
  obtain ⟨A, len, c, h1, h2, h3, h4⟩ := h
  have hst := rd_store h1 h2 h3 h4 (q := (p : Int) + 1) (by simp)
  have c0 := cell_of_row w g 0 _ _ _ h1
  have c1 := cell_of_row w g 1 _ _ _ h1
  have f1 := frozen_of_row w g 1 _ _ h1
  have HST := Lib.hid hst
  clear hst
  have H1 := Lib.hid h1
  clear h1
  simp only [List.getElem?_toArray, List.getElem?_cons_zero, List.getElem?_cons_succ] at c0 c1
  by_cases hn : n < 1
  · have H4 := Lib.hid h4
    clear h4
    go_enter Try.func32, Try.ntmps32
    go_wp2
    go_ret
    exact ⟨0, rfl, by omega, HST.out⟩
  · by_cases hl : len = 0
    · subst hl
      have H4 := Lib.hid h4
      clear h4
      go_enter Try.func32, Try.ntmps32
      go_wp2
      go_ret
      exact ⟨0, rfl, by omega, HST.out⟩
    · obtain ⟨b, off, rfl, hb, hc⟩ := h4 (by omega)
      have hl0 : ((len : Int) == 0) = false := by simpa using hl
      by_cases hk : p < len
      · obtain ⟨u, u0, u1, hu⟩ := hc p hk
        have hu' : (w.setCell ⟨g, 1, none⟩ (.int .i64 ((p : Int) + 1))).cell? ⟨b, off + p, none⟩ = some (.int .u8 u) :=
          (World.cell?_of_block (heap_setCell_other w _ b _ (by show b ≠ g; omega))).trans hu
        have HC := Lib.hid hc
        clear hc
        go_enter Try.func32, Try.ntmps32
        go_wp2
        go_ret
        exact ⟨_, rfl, fun _ => ⟨Int.emod_nonneg _ (by omega), Int.emod_lt_of_pos _ (by omega)⟩, HST.out⟩
      · obtain ⟨u, u0, u1, hu⟩ := hc (p % len) (Nat.mod_lt _ (by omega))
        obtain ⟨v, v0, v1, hv⟩ := hc ((p * 7 + 3) % len) (Nat.mod_lt _ (by omega))
        have cell' : ∀ j x, w.cell? ⟨b, off + j, none⟩ = some x → (w.setCell ⟨g, 1, none⟩ (.int .i64 ((p : Int) + 1))).cell? ⟨b, off + j, none⟩ = some x :=
          fun j x hx => (World.cell?_of_block (heap_setCell_other w _ b _ (by show b ≠ g; omega))).trans hx
        have hu' := cell' _ _ hu
        have hv' := cell' _ _ hv
        have HC := Lib.hid hc
        clear hc cell' hu hv
        have i1 : p % len < len := Nat.mod_lt _ (by omega)
        have i2 : (p * 7 + 3) % len < len := Nat.mod_lt _ (by omega)
        have q0 : p / len ≤ p := Nat.div_le_self _ _
        have m1 : (p : Int).tmod (len : Int) = ((p % len : Nat) : Int) := (Int.ofNat_tmod p len).symm
        have m2 : ((p : Int) * 7 + 3).tmod (len : Int) = (((p * 7 + 3) % len : Nat) : Int) := (Int.ofNat_tmod (p * 7 + 3) len).symm
        have m3 : (p : Int).tdiv (len : Int) = ((p / len : Nat) : Int) := (Int.ofNat_tdiv p len).symm
        generalize (p * 7 + 3) % len = j2 at *
        generalize p % len = j1 at *
        generalize p / len = q at *
        have s1 : IntKind.i64.wrap ((p : Int) * 7) = (p : Int) * 7 := IntWalk.i64_in _ (by omega)
        have s2 : IntKind.i64.wrap ((p : Int) * 7 + 3) = (p : Int) * 7 + 3 := IntWalk.i64_in _ (by omega)
        have s3 : IntKind.i64.wrap (u * 131) = u * 131 := IntWalk.i64_in _ (by omega)
        have s4 : IntKind.i64.wrap (v * 1117) = v * 1117 := IntWalk.i64_in _ (by omega)
        have s5 : IntKind.i64.wrap (u * 131 + v * 1117) = u * 131 + v * 1117 := IntWalk.i64_in _ (by omega)
        have s6 : IntKind.i64.wrap ((p : Int) * 29) = (p : Int) * 29 := IntWalk.i64_in _ (by omega)
        have s7 : IntKind.i64.wrap (u * 131 + v * 1117 + (p : Int) * 29) = u * 131 + v * 1117 + (p : Int) * 29 := IntWalk.i64_in _ (by omega)
        have s8 : IntKind.i64.wrap ((q : Int) * 53) = (q : Int) * 53 := IntWalk.i64_in _ (by omega)
        have s9 : IntKind.i64.wrap (u * 131 + v * 1117 + (p : Int) * 29 + (q : Int) * 53) = u * 131 + v * 1117 + (p : Int) * 29 + (q : Int) * 53 := IntWalk.i64_in _ (by omega)
        have s10 : IntKind.i64.wrap (j1 : Int) = (j1 : Int) := IntWalk.i64_in _ (by omega)
        have s11 : IntKind.i64.wrap (j2 : Int) = (j2 : Int) := IntWalk.i64_in _ (by omega)
        have s12 : IntKind.i64.wrap (q : Int) = (q : Int) := IntWalk.i64_in _ (by omega)
        have s13 : IntKind.i64.wrap u = u := IntWalk.i64_in _ (by omega)
        have s14 : IntKind.i64.wrap v = v := IntWalk.i64_in _ (by omega)
        go_enter Try.func32, Try.ntmps32
        go_wp2_with fail
        go_quiet (fail)
        have b0 : 0 ≤ u * 131 + v * 1117 + (p : Int) * 29 + (q : Int) * 53 := by omega
        have b1 : u * 131 + v * 1117 + (p : Int) * 29 + (q : Int) * 53 ≤ 100000000 := by omega
        clear s1 s2 s3 s4 s5 s6 s7 s8 s9 s10 s11 s12 s13 s14 m1 m2 m3
        have hx := xor_nonneg _ _ b0 (by omega) (Int.ediv_nonneg b0 (by omega : (0 : Int) ≤ 64)) (by omega)
        go_wp2
        go_ret
        exact ⟨_, rfl, fun _ => ⟨Int.emod_nonneg _ (by omega), Int.emod_lt_of_pos _ (by omega)⟩, HST.out.1.drewN _, grown_drewN HST.out.2 _⟩
end Go.Proofs.Ytogplbnabffcfaa
