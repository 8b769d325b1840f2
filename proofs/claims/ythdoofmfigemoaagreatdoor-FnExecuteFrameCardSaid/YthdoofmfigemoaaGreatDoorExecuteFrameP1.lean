/-
  Joined texts: Draw2, FrDraw, FrDraw2, FrDraw4, FrDraw6, ExecuteFrameWalk.
-/
import Derived.Test.YthdoofmfigemoaaGreatDoorBase4
import Derived.Maps.AppendAt
import Derived.Deep.RegionHeld3

section
/-
  A code is opened: a reader in a new block.
-/
namespace Go.Proofs.YthdoofmfigemoaaGreatDoor
open Go.RowKit

/-- a slice of bytes that can be read; its cells lie below block B -/
def Bytes (w : World) (B : Nat) (A : Option Addr) (n c : Nat) : Prop :=
  n ≤ c ∧ (0 < n → ∃ b off, A = some ⟨b, off, none⟩ ∧ b < B ∧ ∀ j, j < n → ∃ u : Int, 0 ≤ u ∧ u ≤ 255 ∧ w.cell? ⟨b, off + j, none⟩ = some (.int .u8 u))
theorem Bytes.of_row {w : World} {a : Option Addr} {len cap : Nat} {zs : List Int} (h : IsRow .u8 w a len cap zs) : Bytes w w.heap.size a len cap := by
  rcases h with ⟨rfl, rfl, rfl, rfl⟩ | ⟨x, rfl, h1, h2, h3, h4, h5⟩
  · exact ⟨by omega, fun h => absurd h (by omega)⟩
  · refine ⟨h1, fun hn => ?_⟩
    obtain ⟨b, off, spot⟩ := x
    have h0 := h4 0 (by omega)
    have hs : spot = none := by simpa [Addr.add] using World.cell?_spot h0
    subst hs
    refine ⟨b, off, rfl, by simpa [Addr.add] using World.block_lt_of_cell? w _ h0, fun j hj => ?_⟩
    have := h4 j (by omega)
    rw [show (⟨b, off, none⟩ : Addr).add j = ⟨b, off + j, none⟩ from by unfold Addr.add; split <;> simp_all] at this
    have hm := h5 (zs.getD j 0) (by rw [List.getD_eq_getElem?_getD, List.getElem?_eq_getElem (by omega)]; exact List.getElem_mem _)
    generalize zs.getD j 0 = u at hm this
    have m0 : IntKind.u8.min = 0 := rfl
    have m1 : IntKind.u8.max = 255 := rfl
    simp [Lit.wf, m0, m1] at hm
    exact ⟨u, by omega, by omega, this⟩
theorem Bytes.next {w w' : World} {A : Option Addr} {n c : Nat} (h : Bytes w w.heap.size A n c) (hb : Below w.heap.size w w') : Bytes w' w'.heap.size A n c := by
  refine ⟨h.1, fun hn => ?_⟩
  obtain ⟨b, off, e, hlt, hc⟩ := h.2 hn
  have := hb.size
  refine ⟨b, off, e, by omega, fun j hj => ?_⟩
  obtain ⟨u, h0, h1, hu⟩ := hc j hj
  exact ⟨u, h0, h1, (hb.cell (p := ⟨b, off + j, none⟩) hlt).trans hu⟩

set_option maxHeartbeats 1000000 in
theorem l6Open_any (A : Option Addr) (n c : Nat) (w : World) (h : Bytes w w.heap.size A n c) (hn : n ≤ 1048576) :
    Calls Tryz.prog 40 #[.slice A n c] w fun e w' => e = .returned (.pointer (some ⟨w.heap.size, 0, none⟩)) ∧ Rd w' w.heap.size w.heap.size 0 ∧ Below w.heap.size w w' := by
  have hc := h.1
  have H := Lib.hid h
  clear h
  have fin : ∀ (m : Nat) (A' : Option Addr) (c' : Nat), m ≤ 2000 → m ≤ n → A' = A → Rd (w.alloc (.cells #[.slice A' m c', .int .i64 0] 133)) w.heap.size w.heap.size 0 ∧ Below w.heap.size w (w.alloc (.cells #[.slice A' m c', .int .i64 0] 133)) := by
    intro m A' c' hm hmn hA
    subst hA
    refine ⟨⟨_, m, c', heap_alloc_new w _, hm, Nat.le_refl _, fun h0 => ?_⟩, (Below.refl _ _).alloc (Nat.le_refl _) _⟩
    obtain ⟨b, off, e, hlt, hc⟩ := H.out.2 (by omega)
    refine ⟨b, off, e, hlt, fun j hj => ?_⟩
    obtain ⟨u, h0, h1, hu⟩ := hc j (by omega)
    exact ⟨u, h0, h1, (World.cell?_alloc_lt w _ _ hlt).trans hu⟩
  have FIN := Lib.hid fin
  clear fin
  by_cases hbig : 2000 < n
  · obtain ⟨b, off, rfl, hlt, hcc⟩ := H.out.2 (by omega)
    clear hcc
    go_enter Tryz.func40, Tryz.ntmps40
    go_wp2
    go_ret
    exact ⟨rfl, FIN.out _ _ _ (by omega) (by omega) rfl⟩
  · go_enter Tryz.func40, Tryz.ntmps40
    go_wp2
    go_ret
    exact ⟨rfl, FIN.out _ _ _ (by omega) (by omega) rfl⟩
end Go.Proofs.YthdoofmfigemoaaGreatDoor
end

section
/-
  The draws of frames.
-/
namespace Go.Proofs.YthdoofmfigemoaaGreatDoor
open Go.RowKit
set_option linter.unusedSimpArgs false

/-- append(out, u, ..), and where the new row lies -/
theorem wpList_app2 {ops : Array Oper} {rest : List Oper} {o : Oper} {a : Act} {w : World} {Q : Exit → Act → World → Prop} (hgd : o.guard = none) (s x : Operand)
    (ho : o.op = .call { callee := .builtin .append, args := #[s, x], argTypes := #[28, 28] })
    {B : Nat} {A : Option Addr} {n c : Nat} {xs : List Int} (hs : a.eval s = .slice A n c) (hown : Own w B A n c xs) (us : List Int) (m : Nat) (hm : us.length = m) (c0 nb : Nat)
    (hx : a.eval x = .slice (some ⟨nb, 0, none⟩) m c0) (hnb : nb = w.heap.size) (cs : Array Value) (hcs : cs = (IV us).toArray) (hn : n + m ≤ 1099511627776) (hB : B ≤ w.heap.size)
    (h : ∀ A' c' w', Own w' B A' (n + m) c' (xs ++ us) → w.grownBy w' (Value.slice A n c).ownBlock → (∀ k, (Value.slice A' (n + m) c').ownBlock = some k → (Value.slice A n c).ownBlock = some k ∨ w.heap.size ≤ k) → wpList Tryz.prog ops Q rest (a.put o.dst (.slice A' (n + m) c')) w') :
    wpList Tryz.prog ops Q (o :: rest) a (w.alloc (.cells cs 3)) := by
  obtain ⟨i0, hi, hz0, hz1, hz2⟩ := info_parts own_int_info
  subst hcs
  subst hm
  subst hnb
  refine wpList_append_own_at _ hgd s x 28 ho B 3 i0 (.int .i64 0) 1 8 Tryz.underlying28 hi hz0 hz1 hz2 rfl (by decide) _ n (IV xs) hs (hown.1.alloc _)
    ⟨w.heap.size, 0, none⟩ us.length c0 (IV us) hx (by simp [IV]) ?_ (IV_one us) (by unfold maxLen; omega) (by omega) (by simp; omega) ?_
  · intro j u hj
    rw [add_row, cell_of_row _ w.heap.size j _ _ _ (heap_alloc_new w _)]
    simpa using hj
  · intro v' w' hown' hg _ hat
    obtain ⟨A', c', rfl, h'⟩ := Own.of_app us rfl hown' hn
    refine h A' c' w' h' ⟨hg.os, hg.tape, hg.output, by have := hg.size; simp at this; omega, fun k hk hne => (hg.block k (by simp; omega) hne).trans (Below.heap_alloc w _ k hk)⟩ ?_
    intro k hk
    rcases hat with h1 | h1
    · left; rw [← h1]; exact hk
    · right; rw [hk] at h1; injection h1 with h1; simp at h1; omega

theorem blk_eq {a n c j : Nat} (h : (Value.slice (some ⟨a, 0, none⟩) n c).ownBlock = some j) : a = j := by injection h
theorem apart_new {s s' t : Value} {N : Nat} (hk : ∀ j, s'.ownBlock = some j → s.ownBlock = some j ∨ N ≤ j) (ha : Apart s t) (hb : Apart t s) (h2 : ∀ j, t.ownBlock = some j → j < N) : Apart s' t ∧ Apart t s' := by
  refine ⟨fun j hj e => ?_, fun j hj e => ?_⟩
  · rcases hk j e with h | h
    · exact ha j hj h
    · have := h2 j hj; omega
  · rcases hk j hj with h | h
    · exact hb j h e
    · have := h2 j e; omega
/-- what lies below N is as it was -/
def Low (N : Nat) (w w' : World) : Prop := w'.os = w.os ∧ w'.tape = w.tape ∧ w'.output = w.output ∧ w.heap.size ≤ w'.heap.size ∧ ∀ j, j < w.heap.size → j ≤ N → w'.heap[j]? = w.heap[j]?
theorem _root_.Go.World.grownBy.row_in {w w' : World} {row : Option Nat} {N : Nat} (h : w.grownBy w' row) (hr : ∀ j, row = some j → N < j) : Low N w w' :=
  ⟨h.os, h.tape, h.output, h.size, fun j hj hN => h.block j hj (fun e => by have := hr j e.symm; omega)⟩
theorem _root_.Go.World.grownBy.row_in' {w w' : World} {r N : Nat} (h : w.grownBy w' (some r)) (hr : N < r) : Low N w w' := h.row_in (by rintro j ⟨⟩; exact hr)
theorem Low.trans {N : Nat} {a b c : World} (h : Low N a b) (k : Low N b c) : Low N a c :=
  ⟨k.1.trans h.1, k.2.1.trans h.2.1, k.2.2.1.trans h.2.2.1, Nat.le_trans h.2.2.2.1 k.2.2.2.1, fun j hj hN => (k.2.2.2.2 j (Nat.lt_of_lt_of_le hj h.2.2.2.1) hN).trans (h.2.2.2.2 j hj hN)⟩
theorem Low.box_ {N : Nat} {a b : World} {u v : Value} (h : Low N a b) (hx : FBox a N u v) : FBox b N u v := hx.keep (h.2.2.2.2 N hx.lt (Nat.le_refl _))
theorem Low.rd_ {N B g p : Nat} {a b : World} (h : Low N a b) (hr : Rd a B g p) (hg : g ≤ N) : Rd b B g p :=
  hr.keep (h.2.2.2.2 g hr.lt hg) (fun j hj => h.2.2.2.2 j (by have := hr.lt; have := hr.base; omega) (by have := hr.base; omega))
theorem Low.on_ {N : Nat} {w a b : World} {row : Option Nat} (h : Low N a b) (hg : w.grownBy a row) (hN : w.heap.size ≤ N + 1 := by omega) : w.grownBy b row :=
  ⟨h.1.trans hg.os, h.2.1.trans hg.tape, h.2.2.1.trans hg.output, Nat.le_trans hg.size h.2.2.2.1, fun j hj hne => (h.2.2.2.2 j (Nat.lt_of_lt_of_le hj hg.size) (by omega)).trans (hg.block j hj hne)⟩
theorem fr_cell_kept {w w' : World} {g b o : Nat} (hg : w.grownBy w' (some g)) (hb : b < w.heap.size) (hne : b ≠ g) : w'.cell? ⟨b, o, none⟩ = w.cell? ⟨b, o, none⟩ :=
  World.cell?_of_block (hg.block b hb (fun e => hne (by injection e)))
theorem fr_pick_mem {us : List Int} {n : Nat} {v : Int} (hn : us.length = n) (hn2 : n ≤ 1000) (h0 : 0 ≤ v) (h1 : v < n) :
    ∃ (j : Nat) (u : Int), v = (j : Int) ∧ us[j]? = some u ∧ ∀ W : World, (W.alloc (.cells (IV us).toArray 3)).cell? ⟨W.heap.size, j, none⟩ = some (.int .i64 u) := by
  obtain ⟨j, rfl⟩ := Int.eq_ofNat_of_zero_le h0
  have hj : j < us.length := by omega
  refine ⟨j, us[j], rfl, List.getElem?_eq_getElem hj, fun W => ?_⟩
  have hl := own_lit W us W.heap.size n hn (by omega) (Nat.le_refl _)
  obtain ⟨g7, e7, _, _, hc7, _⟩ := hl.at_ (by omega)
  obtain rfl : W.heap.size = g7 := by simpa using e7
  exact hc7 j _ (List.getElem?_eq_getElem hj)
theorem own_first {w : World} {B g n c : Nat} {xs : List Int} (h : Own w B (some ⟨g, 0, none⟩) n c xs) (hn : 0 < n) : (∃ y, w.cell? ⟨g, 0, none⟩ = some y) ∧ w.frozen? ⟨g, 0, none⟩ = false ∧ g < w.heap.size := by
  obtain ⟨g7, e7, _, h2, hc7, hf⟩ := h.at_ hn
  obtain rfl : g = g7 := by simpa using e7
  have := h.len
  exact ⟨⟨_, hc7 0 _ (List.getElem?_eq_getElem (by omega))⟩, hf 0, h2⟩
theorem size_setCell_ (w : World) (p : Addr) (u : Value) : (w.setCell p u).heap.size = w.heap.size := by simp [World.setCell]
/-- a drawn frame -/
def DFrame (w : World) (B g p : Nat) (e : Ending) (w' : World) : Prop :=
  ∃ A n c A' m c' hs ls q, e = .returned (.agg #[.slice A n c, .slice A' m c']) ∧ (∀ v, w'.grownBy v (some g) → Ints v v.heap.size A n hs ∧ Ints v v.heap.size A' m ls) ∧ n ≤ 6 ∧ (1 ≤ n ∧ n ≤ c ∧ m ≤ c') ∧ m ≤ 6 ∧ Rd w' B g q ∧ q ≤ p + 20 ∧ w.grownBy w' (some g)
theorem own_pick2 {w w' : World} {B g n c : Nat} {A : Option Addr} {xs : List Int} (h : Own w B A n c xs) (hg : w.grownBy w' (some g)) (hlt : g < B) : Own w' B A n c xs :=
  h.kept hg fun k hk e => by have := (h.blk k hk).1; injection e; omega

theorem DFrame.alloc {w w' : World} {B g p : Nat} {e : Ending} (h : DFrame w B g p e w') (o : Obj) : DFrame w B g p e (w'.alloc o) := by
  obtain ⟨A, n, c, A', m, c', hs, ls, q, rfl, h1, h2, h3, h4, h5, h6, h7⟩ := h
  exact ⟨A, n, c, A', m, c', hs, ls, q, rfl, fun v hv => h1 v (((World.grownBy_alloc w' o _)).trans hv), h2, h3, h4, h5.alloc o, h6, h7.trans (World.grownBy_alloc w' o _)⟩
theorem dframe_end2 {w W3 : World} {B g p q n c m c' n0 c0 : Nat} {A A' A0 : Option Addr} {hs ls ls0 : List Int} (h1 : Own W3 (w.heap.size + 1) A n c hs) (h2 : Own W3 (w.heap.size + 1) A0 n0 c0 ls0)
    (ht : ∀ v, Own v (w.heap.size + 1) A0 n0 c0 ls0 → Ints v v.heap.size A' m ls) (hr : Rd W3 B g q) (hlt : g < w.heap.size) (hg : w.grownBy W3 (some g)) (hn : n ≤ 6) (hn1 : 1 ≤ n) (hm : m ≤ 6) (hq : q ≤ p + 20) (hcm : m ≤ c') :
    DFrame w B g p (.returned (.agg #[.slice A n c, .slice A' m c'])) ((W3.setCell ⟨w.heap.size, 0, none⟩ (.slice A n c)).setCell ⟨w.heap.size, 1, none⟩ (.slice A' m c')) := by
  have hB := hr.base
  have o1 := (h1.low (b := w.heap.size) (j := 0) (by omega) (u := .slice A n c)).low (b := w.heap.size) (j := 1) (by omega) (u := .slice A' m c')
  have o2 := (h2.low (b := w.heap.size) (j := 0) (by omega) (u := .slice A n c)).low (b := w.heap.size) (j := 1) (by omega) (u := .slice A' m c')
  refine ⟨A, n, c, A', m, c', hs, ls, q, rfl, fun v hv => ⟨(own_pick2 o1 hv (by omega)).ints, ht v (own_pick2 o2 hv (by omega))⟩, hn, ⟨hn1, own_cap h1, hcm⟩, hm, ?_, hq, ?_⟩
  · exact (hr.far (a := ⟨w.heap.size, 0, none⟩) (by show B ≤ w.heap.size; omega) (by show w.heap.size ≠ g; omega) _).far (a := ⟨w.heap.size, 1, none⟩) (by show B ≤ w.heap.size; omega) (by show w.heap.size ≠ g; omega) _
  · exact (((grown_set w.heap.size 0 _).row_in' (N := w.heap.size - 1) (by omega)).trans ((grown_set w.heap.size 1 _).row_in' (N := w.heap.size - 1) (by omega))).on_ hg
theorem dframe_end {w W3 : World} {B g p q n c m c' : Nat} {A A' : Option Addr} {hs ls : List Int} (h1 : Own W3 (w.heap.size + 1) A n c hs) (h2 : Own W3 (w.heap.size + 1) A' m c' ls)
    (hr : Rd W3 B g q) (hlt : g < w.heap.size) (hg : w.grownBy W3 (some g)) (hn : n ≤ 6) (hn1 : 1 ≤ n) (hm : m ≤ 6) (hq : q ≤ p + 20) :
    DFrame w B g p (.returned (.agg #[.slice A n c, .slice A' m c'])) ((W3.setCell ⟨w.heap.size, 0, none⟩ (.slice A n c)).setCell ⟨w.heap.size, 1, none⟩ (.slice A' m c')) :=
  dframe_end2 h1 h2 (fun _ h => h.ints) hr hlt hg hn hn1 hm hq (own_cap h2)
theorem own_tail2 {w : World} {B g n c : Nat} {xs : List Int} (h : Own w B (some ⟨g, 0, none⟩) n c xs) (hn : n ≤ 6) (hn1 : 1 ≤ n) : Ints w w.heap.size (some ⟨g, 1, none⟩) (n - 1) (xs.drop 1) := by
  obtain ⟨g8, e8, hg8, hl8, hc8, hf8⟩ := h.at_ (by omega)
  obtain rfl : g = g8 := by simpa using e8
  exact ⟨by have := h.len; simp; omega, by omega, fun _ => ⟨g, 1, rfl, hl8, fun j u hu => hc8 (1 + j) u (by rw [List.getElem?_drop] at hu; exact hu)⟩⟩
theorem dend_box {w w2 : World} {B g q n c m c' x j : Nat} {A A' : Option Addr} {hs ls : List Int} {u v y : Value} (hz : FBox w2 w.heap.size u v) (h1 : Own w2 (w.heap.size + 1) A n c hs) (n1 : ∀ k, (Value.slice A n c).ownBlock = some k → k ≠ x)
    (h2 : Own w2 (w.heap.size + 1) A' m c' ls) (n2 : ∀ k, (Value.slice A' m c').ownBlock = some k → k ≠ x) (hr : Rd w2 B g q) (hlt : g < w.heap.size) (hg : w.grownBy w2 (some g)) (hx : w.heap.size + 1 ≤ x) :
    FBox (w2.setCell ⟨x, j, none⟩ y) w.heap.size u v ∧ Own (w2.setCell ⟨x, j, none⟩ y) (w.heap.size + 1) A n c hs ∧ Own (w2.setCell ⟨x, j, none⟩ y) (w.heap.size + 1) A' m c' ls ∧ Rd (w2.setCell ⟨x, j, none⟩ y) B g q ∧ w.grownBy (w2.setCell ⟨x, j, none⟩ y) (some g) := by
  have hB := hr.base
  refine ⟨hz.grown (grown_set x j y) (by intro e; injection e; omega), h1.kept (grown_set x j y) (fun k hk e => n1 k hk (by injection e with e; exact e.symm)), h2.kept (grown_set x j y) (fun k hk e => n2 k hk (by injection e with e; exact e.symm)),
    hr.far (a := ⟨x, j, none⟩) (by show B ≤ x; omega) (by show x ≠ g; omega) _, ((grown_set x j y).row_in' (N := w.heap.size - 1) (by omega)).on_ hg⟩
/-- the end's facts behind a store in one of the rows -/
theorem dend_set {w w2 : World} {B g q n c m c' x : Nat} {A' : Option Addr} {ls : List Int} {u v y : Value} (hz : FBox w2 w.heap.size u v) (h2 : Own w2 (w.heap.size + 1) A' m c' ls)
    (hr : Rd w2 B g q) (hlt : g < w.heap.size) (hg : w.grownBy w2 (some g)) (hx : w.heap.size + 1 ≤ x) (hap : Apart (.slice (some ⟨x, 0, none⟩) n c) (.slice A' m c')) :
    FBox (w2.setCell ⟨x, 0, none⟩ y) w.heap.size u v ∧ Own (w2.setCell ⟨x, 0, none⟩ y) (w.heap.size + 1) A' m c' ls ∧ Rd (w2.setCell ⟨x, 0, none⟩ y) B g q ∧ w.grownBy (w2.setCell ⟨x, 0, none⟩ y) (some g) := by
  have hB := hr.base
  refine ⟨hz.grown (grown_set x 0 y) (by intro e; injection e; omega), h2.kept (grown_set x 0 y) (fun j hj e => ?_), hr.far (a := ⟨x, 0, none⟩) (by show B ≤ x; omega) (by show x ≠ g; omega) _, ((grown_set x 0 y).row_in' (N := w.heap.size - 1) (by omega)).on_ hg⟩
  injection e with e
  exact hap j hj (by rw [← e]; rfl)
end Go.Proofs.YthdoofmfigemoaaGreatDoor
end

section
/-
  The draws of frames: a frame of some rods, and the laws' draws.
-/
namespace Go.Proofs.YthdoofmfigemoaaGreatDoor
open Go.RowKit

/-- a drawn row stays when the result's cell is filled: it does not lie there -/
theorem pers_set {w2 : World} {g r n : Nat} {A : Option Addr} {hs : List Int} {X Y : Value} (h : ∀ v, w2.grownBy v (some g) → Ints v v.heap.size A n hs) (hb : FBox w2 r (.slice none 0 0) (.slice none 0 0)) :
    ∀ v, ((w2.setCell ⟨r, 0, none⟩ X).setCell ⟨r, 1, none⟩ Y).grownBy v (some g) → Ints v v.heap.size A n hs := by
  intro v hv
  have g1 := grown_set (w := w2) r 0 X
  have g2 := grown_set (w := w2.setCell ⟨r, 0, none⟩ X) r 1 Y
  have hsz : r < v.heap.size := by have := hb.lt; have := g1.size; have := g2.size; have := hv.size; omega
  obtain ⟨o, ho⟩ : ∃ o, o = Obj.cells #[.slice none 0 0, .slice none 0 0] 30 (0, 0) := ⟨_, rfl⟩
  have hself : (v.heap.setIfInBounds r o)[r]? = some o := by simp [hsz]
  have hother : ∀ j, j ≠ r → (v.heap.setIfInBounds r o)[j]? = v.heap[j]? := fun j hj => Array.getElem?_setIfInBounds_ne (by omega)
  have hg : w2.grownBy { v with heap := v.heap.setIfInBounds r o } (some g) := by
    refine ⟨hv.os.trans (g2.os.trans g1.os), hv.tape.trans (g2.tape.trans g1.tape), hv.output.trans (g2.output.trans g1.output), ?_, fun j hj hne => ?_⟩
    · have := g1.size; have := g2.size; have := hv.size
      simp only [Array.size_setIfInBounds]; omega
    · by_cases hjr : j = r
      · subst hjr
        show (v.heap.setIfInBounds j o)[j]? = _
        rw [hself, ho]; exact hb.symm
      · show (v.heap.setIfInBounds r o)[j]? = _
        rw [hother j hjr, hv.block j (by have := g1.size; have := g2.size; omega) hne, g2.block j (by have := g1.size; omega) (by intro e; injection e; omega), g1.block j hj (by intro e; injection e; omega)]
  have hi := h _ hg
  refine ⟨hi.len, hi.bound, fun h0 => ?_⟩
  obtain ⟨b, off, e, hlt, hc⟩ := hi.addr h0
  have hlt' : b < v.heap.size := by simpa only [Array.size_setIfInBounds] using hlt
  have hne : b ≠ r := by
    rintro rfl
    have hl := hi.len
    have h1 := hc 0 _ (List.getElem?_eq_getElem (by omega))
    rw [cell_of_row _ b (off + 0) _ _ _ (by show (v.heap.setIfInBounds b o)[b]? = _; rw [hself, ho])] at h1
    rcases off with _ | _ | off <;> simp at h1
  refine ⟨b, off, e, hlt', fun j u hu => ?_⟩
  rw [← hc j u hu]
  exact World.cell?_of_block (hother b hne).symm
theorem dframe_out {w w2 : World} {B g p q n c m c' : Nat} {A A' : Option Addr} {hs ls : List Int} (hx : ∀ v, w2.grownBy v (some g) → Ints v v.heap.size A n hs ∧ Ints v v.heap.size A' m ls) (hb : FBox w2 w.heap.size (.slice none 0 0) (.slice none 0 0))
    (hn : n ≤ 6) (hn1 : 1 ≤ n ∧ n ≤ c ∧ m ≤ c') (hm : m ≤ 6) (hr : Rd w2 B g q) (hlt : g < w.heap.size) (hg : w.grownBy w2 (some g)) (hq : q ≤ p + 20) :
    DFrame w B g p (.returned (.agg #[.slice A n c, .slice A' m c'])) ((w2.setCell ⟨w.heap.size, 0, none⟩ (.slice A n c)).setCell ⟨w.heap.size, 1, none⟩ (.slice A' m c')) := by
  have hB := hr.base
  refine ⟨A, n, c, A', m, c', hs, ls, q, rfl, fun v hv => ⟨pers_set (fun v h => (hx v h).1) hb v hv, pers_set (fun v h => (hx v h).2) hb v hv⟩, hn, hn1, hm, ?_, hq, ?_⟩
  · exact (hr.far (a := ⟨w.heap.size, 0, none⟩) (by show B ≤ w.heap.size; omega) (by show w.heap.size ≠ g; omega) _).far (a := ⟨w.heap.size, 1, none⟩) (by show B ≤ w.heap.size; omega) (by show w.heap.size ≠ g; omega) _
  · exact (((grown_set w.heap.size 0 _).row_in' (N := w.heap.size - 1) (by omega)).trans ((grown_set w.heap.size 1 _).row_in' (N := w.heap.size - 1) (by omega))).on_ hg

/-- a law's drawn frame: what the law holds behind the draw -/
def DrewF (w : World) (v : Value) (w' : World) : Prop :=
  ∃ A n c A' m c' hs ls, v = .agg #[.slice A n c, .slice A' m c'] ∧ Ints w' w'.heap.size A n hs ∧ Ints w' w'.heap.size A' m ls ∧ n ≤ 6 ∧ (1 ≤ n ∧ n ≤ c ∧ m ≤ c') ∧ m ≤ 6 ∧ Below w.heap.size w w'
theorem below_al1 (w : World) (o : Obj) : Below w.heap.size w (w.alloc o) := (Below.refl _ _).alloc (Nat.le_refl _) o
theorem drewF_of {w w2 : World} {r g n c m c' : Nat} {A A' : Option Addr} {hs ls : List Int} (hx : ∀ v, w2.grownBy v (some g) → Ints v v.heap.size A n hs ∧ Ints v v.heap.size A' m ls) (hb : FBox w2 r (.slice none 0 0) (.slice none 0 0))
    (hn : n ≤ 6) (hn1 : 1 ≤ n ∧ n ≤ c ∧ m ≤ c') (hm : m ≤ 6) (hB : Below w.heap.size w w2) (hr : w.heap.size ≤ r) :
    DrewF w (.agg #[.slice A n c, .slice A' m c']) ((w2.setCell ⟨r, 0, none⟩ (.slice A n c)).setCell ⟨r, 1, none⟩ (.slice A' m c')) :=
  ⟨A, n, c, A', m, c', hs, ls, rfl, pers_set (fun v h => (hx v h).1) hb _ (World.grownBy.refl _ _), pers_set (fun v h => (hx v h).2) hb _ (World.grownBy.refl _ _), hn, hn1, hm, below_over hB hr _ _⟩

/-- a drawn frame, a rod and a digit -/
def DChange (w : World) (g : Nat) (e : Ending) (w' : World) : Prop :=
  ∃ A n c A' m c' hs ls k t, e = .returned (.tuple #[.agg #[.slice A n c, .slice A' m c'], .int .i64 k, .int .i64 t]) ∧ (∀ v, w'.grownBy v (some g) → Ints v v.heap.size A n hs ∧ Ints v v.heap.size A' m ls) ∧ n ≤ 6 ∧ (1 ≤ n ∧ n ≤ c ∧ m ≤ c') ∧ m ≤ 6 ∧ -1 ≤ k ∧ k ≤ 100 ∧ -1 ≤ t ∧ t ≤ 10 ∧ w.grownBy w' (some g)

end Go.Proofs.YthdoofmfigemoaaGreatDoor
end

section
/-
  The draws of frames: a frame and a number.
-/
namespace Go.Proofs.YthdoofmfigemoaaGreatDoor
open Go.RowKit
set_option linter.unusedSimpArgs false

/-- a drawn frame and a number -/
def DNumber (w : World) (B g p : Nat) (e : Ending) (w' : World) : Prop :=
  ∃ A n c A' m c' hs ls N q, e = .returned (.tuple #[.agg #[.slice A n c, .slice A' m c'], .int .i64 N]) ∧ (∀ v, w'.grownBy v (some g) → Ints v v.heap.size A n hs ∧ Ints v v.heap.size A' m ls) ∧ n ≤ 6 ∧ (1 ≤ n ∧ n ≤ c ∧ m ≤ c') ∧ m ≤ 6 ∧ -1 ≤ N ∧ N ≤ 1000000 ∧ Rd w' B g q ∧ q ≤ p + 60 ∧ w.grownBy w' (some g)

theorem DNumber.alloc {w w' : World} {B g p : Nat} {e : Ending} (h : DNumber w B g p e w') (o : Obj) : DNumber w B g p e (w'.alloc o) := by
  obtain ⟨A, n, c, A', m, c', hs, ls, N, q, he, hx, h1, h2, h3, h4, h5, hr, hq, hg⟩ := h
  exact ⟨A, n, c, A', m, c', hs, ls, N, q, he, fun v hv => hx v ((World.grownBy_alloc w' o _).trans hv), h1, h2, h3, h4, h5, hr.alloc o, hq, hg.trans (World.grownBy_alloc w' o _)⟩
theorem dnumber_of {w w4 : World} {B g p q n m c c' : Nat} {A A' : Option Addr} {hs ls : List Int} {N : Int} (hp : ∀ v, w4.grownBy v (some g) → Ints v v.heap.size A n hs ∧ Ints v v.heap.size A' m ls) (hz : FBox w4 w.heap.size (.slice none 0 0) (.slice none 0 0))
    (hn : n ≤ 6) (hn1 : 1 ≤ n ∧ n ≤ c ∧ m ≤ c') (hm : m ≤ 6) (h0 : -1 ≤ N) (h1 : N ≤ 1000000) (hr : Rd w4 B g q) (hq : q ≤ p + 60) (hg : w.grownBy w4 (some g)) (hgl : g < w.heap.size) :
    DNumber w B g p (.returned (.tuple #[.agg #[.slice A n c, .slice A' m c'], .int .i64 N])) ((w4.setCell ⟨w.heap.size, 0, none⟩ (.slice A n c)).setCell ⟨w.heap.size, 1, none⟩ (.slice A' m c')) := by
  have hg9 := (((grown_set w.heap.size 0 (.slice A n c)).row_in' (w := w4) (N := w.heap.size - 1) (by omega)).trans ((grown_set w.heap.size 1 (.slice A' m c')).row_in' (N := w.heap.size - 1) (by omega))).on_ hg
  have hb := hr.base
  exact ⟨_, _, _, _, _, _, hs, ls, _, q, rfl, fun v hv => ⟨pers_set (fun v h => (hp v h).1) hz v hv, pers_set (fun v h => (hp v h).2) hz v hv⟩, hn, hn1, hm, h0, h1, (hr.far (a := ⟨w.heap.size, 0, none⟩) (by show B ≤ w.heap.size; omega) (by show w.heap.size ≠ g; omega) _).far (a := ⟨w.heap.size, 1, none⟩) (by show B ≤ w.heap.size; omega) (by show w.heap.size ≠ g; omega) _, hq, hg9⟩
end Go.Proofs.YthdoofmfigemoaaGreatDoor
end

section
/-
  The draw of a number of rods and a value.
-/
namespace Go.Proofs.YthdoofmfigemoaaGreatDoor
open Go.RowKit
set_option linter.unusedSimpArgs false

section
variable {P : Program} {md : Region.Mode} {ops : Array Oper} {Q : Exit → Act → World → Prop} {S S' : World → Prop}
/-- more may be held of the world from here on -/
theorem wpAnyH_strong (h : ∀ w, S' w → S w) : ∀ (fuel : Nat) (listed : Array Bool) (a : Act) (w : World), wpAnyH P md ops Q S' fuel listed a w → wpAnyH P md ops Q S fuel listed a w
  | 0, _, _, _, k => k
  | fuel + 1, _, _, _, k => ⟨k.1, fun i hi => wpOp_mono (fun a' w' k' => ⟨h w' k'.1, wpAnyH_strong h fuel _ a' w' k'.2⟩) (k.2 i hi)⟩
end
theorem own_elem {w : World} {B b n c j : Nat} {us : List Int} {u : Int} (h : Own w B (some ⟨b, 0, none⟩) n c us) (hj : us[j]? = some u) : w.cell? ⟨b, j, none⟩ = some (.int .i64 u) := by
  have hjl := (List.getElem?_eq_some_iff.1 hj).1
  obtain ⟨g7, e7, _, _, hc7, _⟩ := h.at_ (by have := h.len; omega)
  obtain rfl : b = g7 := by simpa using e7
  exact hc7 j u hj
theorem l5Ten_at {k T : Int} {n : Nat} (hk : k = (n : Int)) (hn : n ≤ 6) (hT : Fr.ten n = T) (w : World) : Calls Tryz.prog 55 #[.int .i64 k] w fun e w' => e = .returned (.int .i64 T) ∧ w = w' := by
  subst hk
  exact hT ▸ l5Ten_any n w hn
/-- two drawn numbers -/
def DrewN (w : World) (e : Ending) (w' : World) : Prop := ∃ n v : Int, e = .returned (.tuple #[.int .i64 n, .int .i64 v]) ∧ 0 ≤ n ∧ n ≤ 7 ∧ -1 ≤ v ∧ v ≤ 1000000 ∧ Below w.heap.size w w'
theorem mem_bd {us : List Int} {j : Nat} {u a b : Int} (h : us[j]? = some u) (hb : ∀ x ∈ us, a ≤ x ∧ x ≤ b) : a ≤ u ∧ u ≤ b := hb u (List.mem_of_getElem? h)
set_option maxRecDepth 100000 in
set_option maxHeartbeats 4000000 in
theorem DrawFrameOf_any (A : Option Addr) (n c : Nat) (w : World) (h : Bytes w w.heap.size A n c) (hn : n ≤ 1048576) :
    Calls Tryz.prog 17 #[.slice A n c] w (DrewN w) := by
  have H := Lib.hid h
  clear h
  go_enter Tryz.func17, Tryz.ntmps17
  go_wp2_with fail
  refine (l6Open_any _ _ _ _ H.out hn).mono ?_
  rintro e w0 ⟨rfl, hrd, hb⟩
  obtain ⟨g, hg0⟩ : ∃ g, w.heap.size = g := ⟨_, rfl⟩
  rw [hg0] at hrd hb ⊢
  have HB := Lib.hid hb
  have hlt := hrd.lt
  have HR := Lib.hid hrd
  have HG0 := Lib.hid hg0
  clear hrd hb hg0
  go_wp2_with fail
  refine (pick_any _ _ _ _ _ HR.out (by omega)).mono ?_
  rintro e w1 ⟨v1, rfl, hv1, hrd1, hg1⟩
  obtain ⟨hva1, hvb1⟩ := hv1 (by omega)
  clear hv1
  have hsz1 := hg1.size
  have HG := Lib.hid hg1
  replace HR := Lib.hid hrd1
  clear hrd1 hg1
  obtain ⟨K, hK⟩ : ∃ K : Nat, 1 + v1 = (K : Int) := Int.eq_ofNat_of_zero_le (by omega)
  have hK6 : K ≤ 6 := by omega
  have hK1 : 1 ≤ K := by omega
  obtain ⟨T, hT⟩ : ∃ T, Fr.ten K = T := ⟨_, rfl⟩
  obtain ⟨T0, T1⟩ := ten_bd K hK6
  rw [hT] at T0 T1
  have HK := Lib.hid hK
  have HT := Lib.hid hT
  clear hT hK
  go_wp2_with fail
  refine (pick_any _ _ _ _ _ HR.out (by omega)).mono ?_
  rintro e w2 ⟨v2, rfl, hv2, hrd2, hg2⟩
  obtain ⟨hva2, hvb2⟩ := hv2 (by omega)
  clear hv2
  have hsz2 := hg2.size
  replace HG := Lib.hid (HG.out.trans hg2)
  replace HR := Lib.hid hrd2
  clear hrd2 hg2
  by_cases h0 : v2 = 0
  · subst h0
    have hT1 : IntKind.i64.wrap (T - 1) = T - 1 := IntWalk.i64_in _ (by omega)
    go_wp2_with fail
    refine wp_region_held_drew (S := (fun _ => True)) (by kernel_rfl) ?_ (fun hHeld => ?_)
    · (try dsimp only)
      all_goals (((repeat' apply And.intro) <;> first | trivial | assumption | (exact (World.cell?_alloc_lt _ _ _ (by first | omega | (simp <;> omega) | (simp only; omega))).trans (by assumption)) | go_simp | go_keep))
    refine wpAnyH_take (i := 0) (oi := { dst := some 14, op := _, type := _, pos := _, after := _, guard := _ }) (v := ?v1) rfl (by kernel_rfl) (by kernel_rfl) (by kernel_rfl) (fun _ _ _ h => h) (Or.inl ⟨by rfl, ?hy1⟩) (by first | assumption | exact hHeld) ?rest1
    case hy1 => ((intro w0 hSw; (try dsimp only at hSw); go_simp) <;> with_reducible rfl)
    (try simp only [Act.put, List.setIfInBounds_toArray, List.set_cons_zero, List.set_cons_succ])
    refine wpAnyH_take (i := 2) (oi := { dst := some 16, op := _, type := _, pos := _, after := _, guard := _ }) (v := ?v2) rfl (by kernel_rfl) (by kernel_rfl) (by kernel_rfl) (fun _ _ _ h => h) (Or.inl ⟨by rfl, ?hy2⟩) (by first | assumption | exact hHeld) ?rest2
    case hy2 => ((intro w0 hSw; (try dsimp only at hSw); go_simp) <;> with_reducible rfl)
    (try simp only [Act.put, List.setIfInBounds_toArray, List.set_cons_zero, List.set_cons_succ])
    refine wpAnyH_take (i := 6) (oi := { dst := some 20, op := _, type := _, pos := _, after := _, guard := _ }) (v := ?v3) rfl (by kernel_rfl) (by kernel_rfl) (by kernel_rfl) (fun _ _ _ h => h) (Or.inl ⟨by rfl, ?hy3⟩) (by first | assumption | exact hHeld) ?rest3
    case hy3 => ((intro w0 hSw; (try dsimp only at hSw); go_simp) <;> with_reducible rfl)
    (try simp only [Act.put, List.setIfInBounds_toArray, List.set_cons_zero, List.set_cons_succ])
    refine wpAnyH_take (i := 8) (oi := { dst := some 22, op := _, type := _, pos := _, after := _, guard := _ }) (v := ?v4) rfl (by kernel_rfl) (by kernel_rfl) (by kernel_rfl) (fun _ _ _ h => h) (Or.inl ⟨by rfl, ?hy4⟩) (by first | assumption | exact hHeld) ?rest4
    case hy4 => ((intro w0 hSw; (try dsimp only at hSw); go_simp) <;> with_reducible rfl)
    (try simp only [Act.put, List.setIfInBounds_toArray, List.set_cons_zero, List.set_cons_succ])
    refine wpAnyH_take (i := 12) (oi := { dst := some 26, op := _, type := _, pos := _, after := _, guard := _ }) (v := ?v5) rfl (by kernel_rfl) (by kernel_rfl) (by kernel_rfl) (fun _ _ _ h => h) (Or.inl ⟨by rfl, ?hy5⟩) (by first | assumption | exact hHeld) ?rest5
    case hy5 => ((intro w0 hSw; (try dsimp only at hSw); go_simp) <;> with_reducible rfl)
    (try simp only [Act.put, List.setIfInBounds_toArray, List.set_cons_zero, List.set_cons_succ])
    refine wpAnyH_ready (rs := [1, 3]) (by kernel_rfl) (by simp) ?_
    refine AllReadyH.cons (o := { dst := some 15, op := _, type := _, pos := _, after := _, guard := _ }) rfl (fun K hK => ?_) ?_
    · go_simp
      refine hK.out _ _ ?_ (fun hHeld6 => ?_)
      · (try dsimp only)
        all_goals (((repeat' apply And.intro) <;> first | trivial | assumption | (exact (World.cell?_alloc_lt _ _ _ (by first | omega | (simp <;> omega) | (simp only; omega))).trans (by assumption)) | go_simp | go_keep))
      clear hK K
      (try clear hHeld)
      (try simp only [Act.put, List.setIfInBounds_toArray, List.set_cons_zero, List.set_cons_succ])
      refine wpAnyH_ready (rs := [3]) (by kernel_rfl) (by simp) ?_
      refine AllReadyH.cons (o := { dst := some 17, op := _, type := _, pos := _, after := _, guard := _ }) rfl (fun K hK => ?_) ?_
      · go_simp
        refine (pick_any _ _ _ _ _ ((HR.out).alloc (.cells #[.int .i64 0, .int .i64 7, .int .i64 (1 + v1)] 3)).drew (by omega)).mono ?_
        rintro e w3 ⟨v3, rfl, hv3, hrd3, hg3'⟩
        obtain ⟨hva3, hvb3⟩ := hv3 (by omega)
        clear hv3
        obtain ⟨j3, u3, rfl, hj3, -⟩ := fr_pick_mem (us := [0, 7, 1 + v1]) (n := 3) rfl (by omega) hva3 hvb3
        have HJ3 := Lib.hid hj3
        have hg3 : (w2.alloc (.cells #[.int .i64 0, .int .i64 7, .int .i64 (1 + v1)] 3)).grownBy w3 (some g) := ⟨hg3'.os, hg3'.tape, hg3'.output, hg3'.size, hg3'.block⟩
        have hsz3 := hg3.size
        (try simp only [World.size_alloc] at hsz3)
        have HR3 := Lib.hid hrd3
        have HG3 := Lib.hid (((HG.out).trans (World.grownBy_alloc _ (.cells #[.int .i64 0, .int .i64 7, .int .i64 (1 + v1)] 3) _)).trans hg3)
        have ho3_1 := own_pick2 (own_lit w2 [0, 7, 1 + v1] (g + 1) 3 rfl (by omega) (by first | omega | (simp; omega))) hg3 (by omega)
        (try simp only [World.size_alloc] at ho3_1)
        have HO3_1 := Lib.hid ho3_1
        clear ho3_1
        have hc3_5 : w3.cell? ⟨w2.heap.size, j3, none⟩ = some (.int .i64 u3) := own_elem HO3_1.out HJ3.out
        clear hrd3 hg3 hg3'
        clear hj3
        (try go_wp2_with fail)
        refine hK.out _ _ ?_ (fun hHeld7 => ?_)
        · (try dsimp only)
          all_goals (((repeat' apply And.intro) <;> first | trivial | assumption | (exact (World.cell?_alloc_lt _ _ _ (by first | omega | (simp <;> omega) | (simp only; omega))).trans (by assumption)) | go_simp | go_keep))
        clear hK K
        (try clear hHeld6)
        (try simp only [Act.put, List.setIfInBounds_toArray, List.set_cons_zero, List.set_cons_succ])
        refine wpAnyH_take (i := 4) (oi := { dst := some 18, op := _, type := _, pos := _, after := _, guard := _ }) (v := ?v8) rfl (by kernel_rfl) (by kernel_rfl) (by kernel_rfl) (fun _ _ _ h => h) (Or.inl ⟨by rfl, ?hy8⟩) (by first | assumption | exact hHeld7) ?rest8
        case hy8 => ((intro w0 hSw; (try dsimp only at hSw); go_simp) <;> with_reducible rfl)
        (try simp only [Act.put, List.setIfInBounds_toArray, List.set_cons_zero, List.set_cons_succ])
        have hs5 : (w3).cell? ⟨w2.heap.size, j3, none⟩ = some (.int .i64 u3) := by have := HO3_1.out; (try simp only [World.size_alloc] at this); exact own_elem this HJ3.out
        refine wpAnyH_strong (S' := (fun w' => w'.cell? ⟨w2.heap.size, j3, none⟩ = some (.int .i64 u3) ∧ ((fun _ => True) w'))) (fun _ h => h.2) _ _ _ _ ?_
        have hHeld9 := And.intro hs5 hHeld7
        refine wpAnyH_take (i := 5) (oi := { dst := some 19, op := _, type := _, pos := _, after := _, guard := _ }) (v := ?v10) rfl (by kernel_rfl) (by kernel_rfl) (by kernel_rfl) (fun _ _ _ h => h) (Or.inl ⟨by rfl, ?hy10⟩) (by first | assumption | exact hHeld9) ?rest10
        case hy10 => ((intro w0 hSw; (try dsimp only at hSw); go_simp) <;> with_reducible rfl)
        (try simp only [Act.put, List.setIfInBounds_toArray, List.set_cons_zero, List.set_cons_succ])
        refine wpAnyH_ready (rs := [7]) (by kernel_rfl) (by simp) ?_
        refine AllReadyH.cons (o := { dst := some 21, op := _, type := _, pos := _, after := _, guard := _ }) rfl (fun K hK => ?_) ?_
        · go_simp
          refine (l5Ten_at HK.out hK6 HT.out _).mono ?_
          rintro e w9 ⟨rfl, hw9⟩
          subst hw9
          (try go_wp2_with fail)
          refine hK.out _ _ ?_ (fun hHeld11 => ?_)
          · (try dsimp only)
            all_goals (((repeat' apply And.intro) <;> first | trivial | assumption | (exact (World.cell?_alloc_lt _ _ _ (by first | omega | (simp <;> omega) | (simp only; omega))).trans (by assumption)) | go_simp | go_keep))
          clear hK K
          (try clear hHeld9)
          (try simp only [Act.put, List.setIfInBounds_toArray, List.set_cons_zero, List.set_cons_succ])
          refine wpAnyH_ready (rs := [9]) (by kernel_rfl) (by simp) ?_
          refine AllReadyH.cons (o := { dst := some 23, op := _, type := _, pos := _, after := _, guard := _ }) rfl (fun K hK => ?_) ?_
          · go_simp
            refine (l5Ten_at HK.out hK6 HT.out _).mono ?_
            rintro e w9 ⟨rfl, hw9⟩
            subst hw9
            (try go_wp2_with fail)
            refine hK.out _ _ ?_ (fun hHeld12 => ?_)
            · (try dsimp only)
              all_goals (((repeat' apply And.intro) <;> first | trivial | assumption | (exact (World.cell?_alloc_lt _ _ _ (by first | omega | (simp <;> omega) | (simp only; omega))).trans (by assumption)) | go_simp | go_keep))
            clear hK K
            (try clear hHeld11)
            (try simp only [Act.put, List.setIfInBounds_toArray, List.set_cons_zero, List.set_cons_succ])
            refine wpAnyH_take (i := 10) (oi := { dst := some 24, op := _, type := _, pos := _, after := _, guard := _ }) (v := ?v13) rfl (by kernel_rfl) (by kernel_rfl) (by kernel_rfl) (fun _ _ _ h => h) (Or.inl ⟨by rfl, ?hy13⟩) (by first | assumption | exact hHeld12) ?rest13
            case hy13 => ((intro w0 hSw; (try dsimp only at hSw); go_simp) <;> with_reducible rfl)
            (try simp only [Act.put, List.setIfInBounds_toArray, List.set_cons_zero, List.set_cons_succ])
            refine wpAnyH_ready (rs := [11, 13]) (by kernel_rfl) (by simp) ?_
            refine AllReadyH.cons (o := { dst := some 25, op := _, type := _, pos := _, after := _, guard := _ }) rfl (fun K hK => ?_) ?_
            · go_simp
              refine hK.out _ _ ?_ (fun hHeld14 => ?_)
              · (try dsimp only)
                all_goals (((repeat' apply And.intro) <;> first | trivial | assumption | (exact (World.cell?_alloc_lt _ _ _ (by first | omega | (simp <;> omega) | (simp only; omega))).trans (by assumption)) | go_simp | go_keep))
              clear hK K
              (try clear hHeld12)
              (try simp only [Act.put, List.setIfInBounds_toArray, List.set_cons_zero, List.set_cons_succ])
              refine wpAnyH_ready (rs := [13]) (by kernel_rfl) (by simp) ?_
              refine AllReadyH.cons (o := { dst := some 27, op := _, type := _, pos := _, after := _, guard := _ }) rfl (fun K hK => ?_) ?_
              · go_simp
                refine (pick_any _ _ _ _ _ ((HR3.out).alloc (.cells #[.int .i64 (-1), .int .i64 T, .int .i64 (T - 1)] 3)) (by omega)).mono ?_
                rintro e w13 ⟨v13, rfl, hv13, hrd13, hg13'⟩
                obtain ⟨hva13, hvb13⟩ := hv13 (by omega)
                clear hv13
                obtain ⟨j13, u13, rfl, hj13, -⟩ := fr_pick_mem (us := [-1, T, T - 1]) (n := 3) rfl (by omega) hva13 hvb13
                have HJ13 := Lib.hid hj13
                have hg13 : (w3.alloc (.cells #[.int .i64 (-1), .int .i64 T, .int .i64 (T - 1)] 3)).grownBy w13 (some g) := ⟨hg13'.os, hg13'.tape, hg13'.output, hg13'.size, hg13'.block⟩
                have hsz13 := hg13.size
                (try simp only [World.size_alloc] at hsz13)
                have HR13 := Lib.hid hrd13
                have HG13 := Lib.hid (((HG3.out).trans (World.grownBy_alloc _ (.cells #[.int .i64 (-1), .int .i64 T, .int .i64 (T - 1)] 3) _)).trans hg13)
                have ho13_1 := own_pick2 ((HO3_1.out).alloc (.cells #[.int .i64 (-1), .int .i64 T, .int .i64 (T - 1)] 3)) hg13 (by omega)
                (try simp only [World.size_alloc] at ho13_1)
                have HO13_1 := Lib.hid ho13_1
                have hc13_5 : w13.cell? ⟨w2.heap.size, j3, none⟩ = some (.int .i64 u3) := own_elem ho13_1 HJ3.out
                clear ho13_1
                have ho13_11 := own_pick2 (own_lit w3 [-1, T, T - 1] (g + 1) 3 rfl (by omega) (by first | omega | (simp; omega))) hg13 (by omega)
                (try simp only [World.size_alloc] at ho13_11)
                have HO13_11 := Lib.hid ho13_11
                clear ho13_11
                have hc13_15 : w13.cell? ⟨w3.heap.size, j13, none⟩ = some (.int .i64 u13) := own_elem HO13_11.out HJ13.out
                clear hrd13 hg13 hg13'
                clear hj13
                (try go_wp2_with fail)
                refine hK.out _ _ ?_ (fun hHeld15 => ?_)
                · (try dsimp only)
                  all_goals (((repeat' apply And.intro) <;> first | trivial | assumption | (exact (World.cell?_alloc_lt _ _ _ (by first | omega | (simp <;> omega) | (simp only; omega))).trans (by assumption)) | go_simp | go_keep))
                clear hK K
                (try clear hHeld14)
                (try simp only [Act.put, List.setIfInBounds_toArray, List.set_cons_zero, List.set_cons_succ])
                refine wpAnyH_take (i := 14) (oi := { dst := some 28, op := _, type := _, pos := _, after := _, guard := _ }) (v := ?v16) rfl (by kernel_rfl) (by kernel_rfl) (by kernel_rfl) (fun _ _ _ h => h) (Or.inl ⟨by rfl, ?hy16⟩) (by first | assumption | exact hHeld15) ?rest16
                case hy16 => ((intro w0 hSw; (try dsimp only at hSw); go_simp) <;> with_reducible rfl)
                (try simp only [Act.put, List.setIfInBounds_toArray, List.set_cons_zero, List.set_cons_succ])
                have hs15 : (w13).cell? ⟨w3.heap.size, j13, none⟩ = some (.int .i64 u13) := by have := HO13_11.out; (try simp only [World.size_alloc] at this); exact own_elem this HJ13.out
                refine wpAnyH_strong (S' := (fun w' => w'.cell? ⟨w3.heap.size, j13, none⟩ = some (.int .i64 u13) ∧ ((fun w' => w'.cell? ⟨w2.heap.size, j3, none⟩ = some (.int .i64 u3) ∧ ((fun _ => True) w')) w'))) (fun _ h => h.2) _ _ _ _ ?_
                have hHeld17 := And.intro hs15 hHeld15
                refine wpAnyH_take (i := 15) (oi := { dst := some 29, op := _, type := _, pos := _, after := _, guard := _ }) (v := ?v18) rfl (by kernel_rfl) (by kernel_rfl) (by kernel_rfl) (fun _ _ _ h => h) (Or.inl ⟨by rfl, ?hy18⟩) (by first | assumption | exact hHeld17) ?rest18
                case hy18 => ((intro w0 hSw; (try dsimp only at hSw); go_simp) <;> with_reducible rfl)
                (try simp only [Act.put, List.setIfInBounds_toArray, List.set_cons_zero, List.set_cons_succ])
                refine wpAnyH_take (i := 16) (oi := { dst := some 2, op := _, type := _, pos := _, after := _, guard := _ }) (v := ?v19) rfl (by kernel_rfl) (by kernel_rfl) (by kernel_rfl) (fun _ _ _ h => h) (Or.inl ⟨by rfl, ?hy19⟩) (by first | assumption | exact hHeld17) ?rest19
                case hy19 => ((intro w0 hSw; (try dsimp only at hSw); go_simp) <;> with_reducible rfl)
                (try simp only [Act.put, List.setIfInBounds_toArray, List.set_cons_zero, List.set_cons_succ])
                refine wpAnyH_take (i := 17) (oi := { dst := some 3, op := _, type := _, pos := _, after := _, guard := _ }) (v := ?v20) rfl (by kernel_rfl) (by kernel_rfl) (by kernel_rfl) (fun _ _ _ h => h) (Or.inl ⟨by rfl, ?hy20⟩) (by first | assumption | exact hHeld17) ?rest20
                case hy20 => ((intro w0 hSw; (try dsimp only at hSw); go_simp) <;> with_reducible rfl)
                (try simp only [Act.put, List.setIfInBounds_toArray, List.set_cons_zero, List.set_cons_succ])
                refine wpAnyH_done (by kernel_rfl) ?_ _
                go_wp2
                go_ret2
                obtain ⟨m1, m2⟩ := mem_bd (a := 0) (b := 7) HJ3.out (by intro x hx; simp at hx; omega)
                obtain ⟨m3, m4⟩ := mem_bd (a := -1) (b := 1000000) HJ13.out (by intro x hx; simp at hx; omega)
                exact ⟨_, _, rfl, m1, m2, m3, m4, by have hh := HG0.out; rw [hh]; exact HB.out.trans ((base_in (HG13.out) (Nat.le_refl _) (by omega)))⟩
              exact AllReadyH.nil
            refine AllReadyH.cons (o := { dst := some 27, op := _, type := _, pos := _, after := _, guard := _ }) rfl (fun K hK => ?_) ?_
            · go_simp
              refine (pick_any _ _ _ _ _ (HR3.out) (by omega)).mono ?_
              rintro e w13 ⟨v13, rfl, hv13, hrd13, hg13'⟩
              obtain ⟨hva13, hvb13⟩ := hv13 (by omega)
              clear hv13
              obtain ⟨j13, u13, rfl, hj13, -⟩ := fr_pick_mem (us := [-1, T, T - 1]) (n := 3) rfl (by omega) hva13 hvb13
              have HJ13 := Lib.hid hj13
              have hg13 : (w3).grownBy w13 (some g) := ⟨hg13'.os, hg13'.tape, hg13'.output, hg13'.size, hg13'.block⟩
              have hsz13 := hg13.size
              (try simp only [World.size_alloc] at hsz13)
              have HR13 := Lib.hid hrd13
              have HG13 := Lib.hid ((HG3.out).trans hg13)
              have ho13_1 := own_pick2 (HO3_1.out) hg13 (by omega)
              (try simp only [World.size_alloc] at ho13_1)
              have HO13_1 := Lib.hid ho13_1
              have hc13_5 : w13.cell? ⟨w2.heap.size, j3, none⟩ = some (.int .i64 u3) := own_elem ho13_1 HJ3.out
              clear ho13_1
              clear hrd13 hg13 hg13'
              clear hj13
              (try go_wp2_with fail)
              refine hK.out _ _ ?_ (fun hHeld21 => ?_)
              · (try dsimp only)
                all_goals (((repeat' apply And.intro) <;> first | trivial | assumption | (exact (World.cell?_alloc_lt _ _ _ (by first | omega | (simp <;> omega) | (simp only; omega))).trans (by assumption)) | go_simp | go_keep))
              clear hK K
              (try clear hHeld12)
              (try simp only [Act.put, List.setIfInBounds_toArray, List.set_cons_zero, List.set_cons_succ])
              refine wpAnyH_take (i := 16) (oi := { dst := some 2, op := _, type := _, pos := _, after := _, guard := _ }) (v := ?v22) rfl (by kernel_rfl) (by kernel_rfl) (by kernel_rfl) (fun _ _ _ h => h) (Or.inl ⟨by rfl, ?hy22⟩) (by first | assumption | exact hHeld21) ?rest22
              case hy22 => ((intro w0 hSw; (try dsimp only at hSw); go_simp) <;> with_reducible rfl)
              (try simp only [Act.put, List.setIfInBounds_toArray, List.set_cons_zero, List.set_cons_succ])
              refine wpAnyH_ready (rs := [11]) (by kernel_rfl) (by simp) ?_
              refine AllReadyH.cons (o := { dst := some 25, op := _, type := _, pos := _, after := _, guard := _ }) rfl (fun K hK => ?_) ?_
              · go_simp
                refine hK.out _ _ ?_ (fun hHeld23 => ?_)
                · (try dsimp only)
                  all_goals (((repeat' apply And.intro) <;> first | trivial | assumption | (exact (World.cell?_alloc_lt _ _ _ (by first | omega | (simp <;> omega) | (simp only; omega))).trans (by assumption)) | go_simp | go_keep))
                clear hK K
                (try clear hHeld21)
                (try simp only [Act.put, List.setIfInBounds_toArray, List.set_cons_zero, List.set_cons_succ])
                refine wpAnyH_take (i := 14) (oi := { dst := some 28, op := _, type := _, pos := _, after := _, guard := _ }) (v := ?v24) rfl (by kernel_rfl) (by kernel_rfl) (by kernel_rfl) (fun _ _ _ h => h) (Or.inl ⟨by rfl, ?hy24⟩) (by first | assumption | exact hHeld23) ?rest24
                case hy24 => ((intro w0 hSw; (try dsimp only at hSw); go_simp) <;> with_reducible rfl)
                (try simp only [Act.put, List.setIfInBounds_toArray, List.set_cons_zero, List.set_cons_succ])
                have hs15 : (w13.alloc (.cells #[.int .i64 (-1), .int .i64 T, .int .i64 (T - 1)] 3)).cell? ⟨w13.heap.size, j13, none⟩ = some (.int .i64 u13) := by have := own_lit w13 [-1, T, T - 1] (g + 1) 3 rfl (by omega) (by first | omega | (simp; omega)); (try simp only [World.size_alloc] at this); exact own_elem this HJ13.out
                refine wpAnyH_strong (S' := (fun w' => w'.cell? ⟨w13.heap.size, j13, none⟩ = some (.int .i64 u13) ∧ ((fun w' => w'.cell? ⟨w2.heap.size, j3, none⟩ = some (.int .i64 u3) ∧ ((fun _ => True) w')) w'))) (fun _ h => h.2) _ _ _ _ ?_
                have hHeld25 := And.intro hs15 hHeld23
                refine wpAnyH_take (i := 15) (oi := { dst := some 29, op := _, type := _, pos := _, after := _, guard := _ }) (v := ?v26) rfl (by kernel_rfl) (by kernel_rfl) (by kernel_rfl) (fun _ _ _ h => h) (Or.inl ⟨by rfl, ?hy26⟩) (by first | assumption | exact hHeld25) ?rest26
                case hy26 => ((intro w0 hSw; (try dsimp only at hSw); go_simp) <;> with_reducible rfl)
                (try simp only [Act.put, List.setIfInBounds_toArray, List.set_cons_zero, List.set_cons_succ])
                refine wpAnyH_take (i := 17) (oi := { dst := some 3, op := _, type := _, pos := _, after := _, guard := _ }) (v := ?v27) rfl (by kernel_rfl) (by kernel_rfl) (by kernel_rfl) (fun _ _ _ h => h) (Or.inl ⟨by rfl, ?hy27⟩) (by first | assumption | exact hHeld25) ?rest27
                case hy27 => ((intro w0 hSw; (try dsimp only at hSw); go_simp) <;> with_reducible rfl)
                (try simp only [Act.put, List.setIfInBounds_toArray, List.set_cons_zero, List.set_cons_succ])
                refine wpAnyH_done (by kernel_rfl) ?_ _
                go_wp2
                go_ret2
                obtain ⟨m1, m2⟩ := mem_bd (a := 0) (b := 7) HJ3.out (by intro x hx; simp at hx; omega)
                obtain ⟨m3, m4⟩ := mem_bd (a := -1) (b := 1000000) HJ13.out (by intro x hx; simp at hx; omega)
                exact ⟨_, _, rfl, m1, m2, m3, m4, by have hh := HG0.out; rw [hh]; exact HB.out.trans ((base_in ((HG13.out).trans (World.grownBy_alloc _ (.cells #[.int .i64 (-1), .int .i64 T, .int .i64 (T - 1)] 3) _)) (Nat.le_refl _) (by omega)))⟩
              exact AllReadyH.nil
            exact AllReadyH.nil
          exact AllReadyH.nil
        exact AllReadyH.nil
      exact AllReadyH.nil
    refine AllReadyH.cons (o := { dst := some 17, op := _, type := _, pos := _, after := _, guard := _ }) rfl (fun K hK => ?_) ?_
    · go_simp
      refine (pick_any _ _ _ _ _ (HR.out).drew (by omega)).mono ?_
      rintro e w3 ⟨v3, rfl, hv3, hrd3, hg3'⟩
      obtain ⟨hva3, hvb3⟩ := hv3 (by omega)
      clear hv3
      obtain ⟨j3, u3, rfl, hj3, -⟩ := fr_pick_mem (us := [0, 7, 1 + v1]) (n := 3) rfl (by omega) hva3 hvb3
      have HJ3 := Lib.hid hj3
      have hg3 : (w2).grownBy w3 (some g) := ⟨hg3'.os, hg3'.tape, hg3'.output, hg3'.size, hg3'.block⟩
      have hsz3 := hg3.size
      (try simp only [World.size_alloc] at hsz3)
      have HR3 := Lib.hid hrd3
      have HG3 := Lib.hid ((HG.out).trans hg3)
      clear hrd3 hg3 hg3'
      clear hj3
      (try go_wp2_with fail)
      refine hK.out _ _ ?_ (fun hHeld28 => ?_)
      · (try dsimp only)
        all_goals (((repeat' apply And.intro) <;> first | trivial | assumption | (exact (World.cell?_alloc_lt _ _ _ (by first | omega | (simp <;> omega) | (simp only; omega))).trans (by assumption)) | go_simp | go_keep))
      clear hK K
      (try clear hHeld)
      (try simp only [Act.put, List.setIfInBounds_toArray, List.set_cons_zero, List.set_cons_succ])
      refine wpAnyH_ready (rs := [1, 7]) (by kernel_rfl) (by simp) ?_
      refine AllReadyH.cons (o := { dst := some 15, op := _, type := _, pos := _, after := _, guard := _ }) rfl (fun K hK => ?_) ?_
      · go_simp
        refine hK.out _ _ ?_ (fun hHeld29 => ?_)
        · (try dsimp only)
          all_goals (((repeat' apply And.intro) <;> first | trivial | assumption | (exact (World.cell?_alloc_lt _ _ _ (by first | omega | (simp <;> omega) | (simp only; omega))).trans (by assumption)) | go_simp | go_keep))
        clear hK K
        (try clear hHeld28)
        (try simp only [Act.put, List.setIfInBounds_toArray, List.set_cons_zero, List.set_cons_succ])
        refine wpAnyH_take (i := 4) (oi := { dst := some 18, op := _, type := _, pos := _, after := _, guard := _ }) (v := ?v30) rfl (by kernel_rfl) (by kernel_rfl) (by kernel_rfl) (fun _ _ _ h => h) (Or.inl ⟨by rfl, ?hy30⟩) (by first | assumption | exact hHeld29) ?rest30
        case hy30 => ((intro w0 hSw; (try dsimp only at hSw); go_simp) <;> with_reducible rfl)
        (try simp only [Act.put, List.setIfInBounds_toArray, List.set_cons_zero, List.set_cons_succ])
        have hs5 : (w3.alloc (.cells #[.int .i64 0, .int .i64 7, .int .i64 (1 + v1)] 3)).cell? ⟨w3.heap.size, j3, none⟩ = some (.int .i64 u3) := by have := own_lit w3 [0, 7, 1 + v1] (g + 1) 3 rfl (by omega) (by first | omega | (simp; omega)); (try simp only [World.size_alloc] at this); exact own_elem this HJ3.out
        refine wpAnyH_strong (S' := (fun w' => w'.cell? ⟨w3.heap.size, j3, none⟩ = some (.int .i64 u3) ∧ ((fun _ => True) w'))) (fun _ h => h.2) _ _ _ _ ?_
        have hHeld31 := And.intro hs5 hHeld29
        refine wpAnyH_take (i := 5) (oi := { dst := some 19, op := _, type := _, pos := _, after := _, guard := _ }) (v := ?v32) rfl (by kernel_rfl) (by kernel_rfl) (by kernel_rfl) (fun _ _ _ h => h) (Or.inl ⟨by rfl, ?hy32⟩) (by first | assumption | exact hHeld31) ?rest32
        case hy32 => ((intro w0 hSw; (try dsimp only at hSw); go_simp) <;> with_reducible rfl)
        (try simp only [Act.put, List.setIfInBounds_toArray, List.set_cons_zero, List.set_cons_succ])
        refine wpAnyH_ready (rs := [7]) (by kernel_rfl) (by simp) ?_
        refine AllReadyH.cons (o := { dst := some 21, op := _, type := _, pos := _, after := _, guard := _ }) rfl (fun K hK => ?_) ?_
        · go_simp
          refine (l5Ten_at HK.out hK6 HT.out _).mono ?_
          rintro e w9 ⟨rfl, hw9⟩
          subst hw9
          (try go_wp2_with fail)
          refine hK.out _ _ ?_ (fun hHeld33 => ?_)
          · (try dsimp only)
            all_goals (((repeat' apply And.intro) <;> first | trivial | assumption | (exact (World.cell?_alloc_lt _ _ _ (by first | omega | (simp <;> omega) | (simp only; omega))).trans (by assumption)) | go_simp | go_keep))
          clear hK K
          (try clear hHeld31)
          (try simp only [Act.put, List.setIfInBounds_toArray, List.set_cons_zero, List.set_cons_succ])
          refine wpAnyH_ready (rs := [9]) (by kernel_rfl) (by simp) ?_
          refine AllReadyH.cons (o := { dst := some 23, op := _, type := _, pos := _, after := _, guard := _ }) rfl (fun K hK => ?_) ?_
          · go_simp
            refine (l5Ten_at HK.out hK6 HT.out _).mono ?_
            rintro e w9 ⟨rfl, hw9⟩
            subst hw9
            (try go_wp2_with fail)
            refine hK.out _ _ ?_ (fun hHeld34 => ?_)
            · (try dsimp only)
              all_goals (((repeat' apply And.intro) <;> first | trivial | assumption | (exact (World.cell?_alloc_lt _ _ _ (by first | omega | (simp <;> omega) | (simp only; omega))).trans (by assumption)) | go_simp | go_keep))
            clear hK K
            (try clear hHeld33)
            (try simp only [Act.put, List.setIfInBounds_toArray, List.set_cons_zero, List.set_cons_succ])
            refine wpAnyH_take (i := 10) (oi := { dst := some 24, op := _, type := _, pos := _, after := _, guard := _ }) (v := ?v35) rfl (by kernel_rfl) (by kernel_rfl) (by kernel_rfl) (fun _ _ _ h => h) (Or.inl ⟨by rfl, ?hy35⟩) (by first | assumption | exact hHeld34) ?rest35
            case hy35 => ((intro w0 hSw; (try dsimp only at hSw); go_simp) <;> with_reducible rfl)
            (try simp only [Act.put, List.setIfInBounds_toArray, List.set_cons_zero, List.set_cons_succ])
            refine wpAnyH_ready (rs := [11, 13]) (by kernel_rfl) (by simp) ?_
            refine AllReadyH.cons (o := { dst := some 25, op := _, type := _, pos := _, after := _, guard := _ }) rfl (fun K hK => ?_) ?_
            · go_simp
              refine hK.out _ _ ?_ (fun hHeld36 => ?_)
              · (try dsimp only)
                all_goals (((repeat' apply And.intro) <;> first | trivial | assumption | (exact (World.cell?_alloc_lt _ _ _ (by first | omega | (simp <;> omega) | (simp only; omega))).trans (by assumption)) | go_simp | go_keep))
              clear hK K
              (try clear hHeld34)
              (try simp only [Act.put, List.setIfInBounds_toArray, List.set_cons_zero, List.set_cons_succ])
              refine wpAnyH_ready (rs := [13]) (by kernel_rfl) (by simp) ?_
              refine AllReadyH.cons (o := { dst := some 27, op := _, type := _, pos := _, after := _, guard := _ }) rfl (fun K hK => ?_) ?_
              · go_simp
                refine (pick_any _ _ _ _ _ (((HR3.out).alloc (.cells #[.int .i64 0, .int .i64 7, .int .i64 (1 + v1)] 3)).alloc (.cells #[.int .i64 (-1), .int .i64 T, .int .i64 (T - 1)] 3)) (by omega)).mono ?_
                rintro e w13 ⟨v13, rfl, hv13, hrd13, hg13'⟩
                obtain ⟨hva13, hvb13⟩ := hv13 (by omega)
                clear hv13
                obtain ⟨j13, u13, rfl, hj13, -⟩ := fr_pick_mem (us := [-1, T, T - 1]) (n := 3) rfl (by omega) hva13 hvb13
                have HJ13 := Lib.hid hj13
                have hg13 : ((w3.alloc (.cells #[.int .i64 0, .int .i64 7, .int .i64 (1 + v1)] 3)).alloc (.cells #[.int .i64 (-1), .int .i64 T, .int .i64 (T - 1)] 3)).grownBy w13 (some g) := ⟨hg13'.os, hg13'.tape, hg13'.output, hg13'.size, hg13'.block⟩
                have hsz13 := hg13.size
                (try simp only [World.size_alloc] at hsz13)
                have HR13 := Lib.hid hrd13
                have HG13 := Lib.hid ((((HG3.out).trans (World.grownBy_alloc _ (.cells #[.int .i64 0, .int .i64 7, .int .i64 (1 + v1)] 3) _)).trans (World.grownBy_alloc _ (.cells #[.int .i64 (-1), .int .i64 T, .int .i64 (T - 1)] 3) _)).trans hg13)
                have ho13_1 := own_pick2 ((own_lit w3 [0, 7, 1 + v1] (g + 1) 3 rfl (by omega) (by first | omega | (simp; omega))).alloc (.cells #[.int .i64 (-1), .int .i64 T, .int .i64 (T - 1)] 3)) hg13 (by omega)
                (try simp only [World.size_alloc] at ho13_1)
                have HO13_1 := Lib.hid ho13_1
                have hc13_5 : w13.cell? ⟨w3.heap.size, j3, none⟩ = some (.int .i64 u3) := own_elem ho13_1 HJ3.out
                clear ho13_1
                have ho13_11 := own_pick2 (own_lit (w3.alloc (.cells #[.int .i64 0, .int .i64 7, .int .i64 (1 + v1)] 3)) [-1, T, T - 1] (g + 1) 3 rfl (by omega) (by first | omega | (simp; omega))) hg13 (by omega)
                (try simp only [World.size_alloc] at ho13_11)
                have HO13_11 := Lib.hid ho13_11
                clear ho13_11
                have hc13_15 : w13.cell? ⟨w3.heap.size + 1, j13, none⟩ = some (.int .i64 u13) := own_elem HO13_11.out HJ13.out
                clear hrd13 hg13 hg13'
                clear hj13
                (try go_wp2_with fail)
                refine hK.out _ _ ?_ (fun hHeld37 => ?_)
                · (try dsimp only)
                  all_goals (((repeat' apply And.intro) <;> first | trivial | assumption | (exact (World.cell?_alloc_lt _ _ _ (by first | omega | (simp <;> omega) | (simp only; omega))).trans (by assumption)) | go_simp | go_keep))
                clear hK K
                (try clear hHeld36)
                (try simp only [Act.put, List.setIfInBounds_toArray, List.set_cons_zero, List.set_cons_succ])
                refine wpAnyH_take (i := 14) (oi := { dst := some 28, op := _, type := _, pos := _, after := _, guard := _ }) (v := ?v38) rfl (by kernel_rfl) (by kernel_rfl) (by kernel_rfl) (fun _ _ _ h => h) (Or.inl ⟨by rfl, ?hy38⟩) (by first | assumption | exact hHeld37) ?rest38
                case hy38 => ((intro w0 hSw; (try dsimp only at hSw); go_simp) <;> with_reducible rfl)
                (try simp only [Act.put, List.setIfInBounds_toArray, List.set_cons_zero, List.set_cons_succ])
                have hs15 : (w13).cell? ⟨w3.heap.size + 1, j13, none⟩ = some (.int .i64 u13) := by have := HO13_11.out; (try simp only [World.size_alloc] at this); exact own_elem this HJ13.out
                refine wpAnyH_strong (S' := (fun w' => w'.cell? ⟨w3.heap.size + 1, j13, none⟩ = some (.int .i64 u13) ∧ ((fun w' => w'.cell? ⟨w3.heap.size, j3, none⟩ = some (.int .i64 u3) ∧ ((fun _ => True) w')) w'))) (fun _ h => h.2) _ _ _ _ ?_
                have hHeld39 := And.intro hs15 hHeld37
                refine wpAnyH_take (i := 15) (oi := { dst := some 29, op := _, type := _, pos := _, after := _, guard := _ }) (v := ?v40) rfl (by kernel_rfl) (by kernel_rfl) (by kernel_rfl) (fun _ _ _ h => h) (Or.inl ⟨by rfl, ?hy40⟩) (by first | assumption | exact hHeld39) ?rest40
                case hy40 => ((intro w0 hSw; (try dsimp only at hSw); go_simp) <;> with_reducible rfl)
                (try simp only [Act.put, List.setIfInBounds_toArray, List.set_cons_zero, List.set_cons_succ])
                refine wpAnyH_take (i := 16) (oi := { dst := some 2, op := _, type := _, pos := _, after := _, guard := _ }) (v := ?v41) rfl (by kernel_rfl) (by kernel_rfl) (by kernel_rfl) (fun _ _ _ h => h) (Or.inl ⟨by rfl, ?hy41⟩) (by first | assumption | exact hHeld39) ?rest41
                case hy41 => ((intro w0 hSw; (try dsimp only at hSw); go_simp) <;> with_reducible rfl)
                (try simp only [Act.put, List.setIfInBounds_toArray, List.set_cons_zero, List.set_cons_succ])
                refine wpAnyH_take (i := 17) (oi := { dst := some 3, op := _, type := _, pos := _, after := _, guard := _ }) (v := ?v42) rfl (by kernel_rfl) (by kernel_rfl) (by kernel_rfl) (fun _ _ _ h => h) (Or.inl ⟨by rfl, ?hy42⟩) (by first | assumption | exact hHeld39) ?rest42
                case hy42 => ((intro w0 hSw; (try dsimp only at hSw); go_simp) <;> with_reducible rfl)
                (try simp only [Act.put, List.setIfInBounds_toArray, List.set_cons_zero, List.set_cons_succ])
                refine wpAnyH_done (by kernel_rfl) ?_ _
                go_wp2
                go_ret2
                obtain ⟨m1, m2⟩ := mem_bd (a := 0) (b := 7) HJ3.out (by intro x hx; simp at hx; omega)
                obtain ⟨m3, m4⟩ := mem_bd (a := -1) (b := 1000000) HJ13.out (by intro x hx; simp at hx; omega)
                exact ⟨_, _, rfl, m1, m2, m3, m4, by have hh := HG0.out; rw [hh]; exact HB.out.trans ((base_in (HG13.out) (Nat.le_refl _) (by omega)))⟩
              exact AllReadyH.nil
            refine AllReadyH.cons (o := { dst := some 27, op := _, type := _, pos := _, after := _, guard := _ }) rfl (fun K hK => ?_) ?_
            · go_simp
              refine (pick_any _ _ _ _ _ ((HR3.out).alloc (.cells #[.int .i64 0, .int .i64 7, .int .i64 (1 + v1)] 3)) (by omega)).mono ?_
              rintro e w13 ⟨v13, rfl, hv13, hrd13, hg13'⟩
              obtain ⟨hva13, hvb13⟩ := hv13 (by omega)
              clear hv13
              obtain ⟨j13, u13, rfl, hj13, -⟩ := fr_pick_mem (us := [-1, T, T - 1]) (n := 3) rfl (by omega) hva13 hvb13
              have HJ13 := Lib.hid hj13
              have hg13 : (w3.alloc (.cells #[.int .i64 0, .int .i64 7, .int .i64 (1 + v1)] 3)).grownBy w13 (some g) := ⟨hg13'.os, hg13'.tape, hg13'.output, hg13'.size, hg13'.block⟩
              have hsz13 := hg13.size
              (try simp only [World.size_alloc] at hsz13)
              have HR13 := Lib.hid hrd13
              have HG13 := Lib.hid (((HG3.out).trans (World.grownBy_alloc _ (.cells #[.int .i64 0, .int .i64 7, .int .i64 (1 + v1)] 3) _)).trans hg13)
              have ho13_1 := own_pick2 (own_lit w3 [0, 7, 1 + v1] (g + 1) 3 rfl (by omega) (by first | omega | (simp; omega))) hg13 (by omega)
              (try simp only [World.size_alloc] at ho13_1)
              have HO13_1 := Lib.hid ho13_1
              have hc13_5 : w13.cell? ⟨w3.heap.size, j3, none⟩ = some (.int .i64 u3) := own_elem ho13_1 HJ3.out
              clear ho13_1
              clear hrd13 hg13 hg13'
              clear hj13
              (try go_wp2_with fail)
              refine hK.out _ _ ?_ (fun hHeld43 => ?_)
              · (try dsimp only)
                all_goals (((repeat' apply And.intro) <;> first | trivial | assumption | (exact (World.cell?_alloc_lt _ _ _ (by first | omega | (simp <;> omega) | (simp only; omega))).trans (by assumption)) | go_simp | go_keep))
              clear hK K
              (try clear hHeld34)
              (try simp only [Act.put, List.setIfInBounds_toArray, List.set_cons_zero, List.set_cons_succ])
              refine wpAnyH_take (i := 16) (oi := { dst := some 2, op := _, type := _, pos := _, after := _, guard := _ }) (v := ?v44) rfl (by kernel_rfl) (by kernel_rfl) (by kernel_rfl) (fun _ _ _ h => h) (Or.inl ⟨by rfl, ?hy44⟩) (by first | assumption | exact hHeld43) ?rest44
              case hy44 => ((intro w0 hSw; (try dsimp only at hSw); go_simp) <;> with_reducible rfl)
              (try simp only [Act.put, List.setIfInBounds_toArray, List.set_cons_zero, List.set_cons_succ])
              refine wpAnyH_ready (rs := [11]) (by kernel_rfl) (by simp) ?_
              refine AllReadyH.cons (o := { dst := some 25, op := _, type := _, pos := _, after := _, guard := _ }) rfl (fun K hK => ?_) ?_
              · go_simp
                refine hK.out _ _ ?_ (fun hHeld45 => ?_)
                · (try dsimp only)
                  all_goals (((repeat' apply And.intro) <;> first | trivial | assumption | (exact (World.cell?_alloc_lt _ _ _ (by first | omega | (simp <;> omega) | (simp only; omega))).trans (by assumption)) | go_simp | go_keep))
                clear hK K
                (try clear hHeld43)
                (try simp only [Act.put, List.setIfInBounds_toArray, List.set_cons_zero, List.set_cons_succ])
                refine wpAnyH_take (i := 14) (oi := { dst := some 28, op := _, type := _, pos := _, after := _, guard := _ }) (v := ?v46) rfl (by kernel_rfl) (by kernel_rfl) (by kernel_rfl) (fun _ _ _ h => h) (Or.inl ⟨by rfl, ?hy46⟩) (by first | assumption | exact hHeld45) ?rest46
                case hy46 => ((intro w0 hSw; (try dsimp only at hSw); go_simp) <;> with_reducible rfl)
                (try simp only [Act.put, List.setIfInBounds_toArray, List.set_cons_zero, List.set_cons_succ])
                have hs15 : (w13.alloc (.cells #[.int .i64 (-1), .int .i64 T, .int .i64 (T - 1)] 3)).cell? ⟨w13.heap.size, j13, none⟩ = some (.int .i64 u13) := by have := own_lit w13 [-1, T, T - 1] (g + 1) 3 rfl (by omega) (by first | omega | (simp; omega)); (try simp only [World.size_alloc] at this); exact own_elem this HJ13.out
                refine wpAnyH_strong (S' := (fun w' => w'.cell? ⟨w13.heap.size, j13, none⟩ = some (.int .i64 u13) ∧ ((fun w' => w'.cell? ⟨w3.heap.size, j3, none⟩ = some (.int .i64 u3) ∧ ((fun _ => True) w')) w'))) (fun _ h => h.2) _ _ _ _ ?_
                have hHeld47 := And.intro hs15 hHeld45
                refine wpAnyH_take (i := 15) (oi := { dst := some 29, op := _, type := _, pos := _, after := _, guard := _ }) (v := ?v48) rfl (by kernel_rfl) (by kernel_rfl) (by kernel_rfl) (fun _ _ _ h => h) (Or.inl ⟨by rfl, ?hy48⟩) (by first | assumption | exact hHeld47) ?rest48
                case hy48 => ((intro w0 hSw; (try dsimp only at hSw); go_simp) <;> with_reducible rfl)
                (try simp only [Act.put, List.setIfInBounds_toArray, List.set_cons_zero, List.set_cons_succ])
                refine wpAnyH_take (i := 17) (oi := { dst := some 3, op := _, type := _, pos := _, after := _, guard := _ }) (v := ?v49) rfl (by kernel_rfl) (by kernel_rfl) (by kernel_rfl) (fun _ _ _ h => h) (Or.inl ⟨by rfl, ?hy49⟩) (by first | assumption | exact hHeld47) ?rest49
                case hy49 => ((intro w0 hSw; (try dsimp only at hSw); go_simp) <;> with_reducible rfl)
                (try simp only [Act.put, List.setIfInBounds_toArray, List.set_cons_zero, List.set_cons_succ])
                refine wpAnyH_done (by kernel_rfl) ?_ _
                go_wp2
                go_ret2
                obtain ⟨m1, m2⟩ := mem_bd (a := 0) (b := 7) HJ3.out (by intro x hx; simp at hx; omega)
                obtain ⟨m3, m4⟩ := mem_bd (a := -1) (b := 1000000) HJ13.out (by intro x hx; simp at hx; omega)
                exact ⟨_, _, rfl, m1, m2, m3, m4, by have hh := HG0.out; rw [hh]; exact HB.out.trans ((base_in ((HG13.out).trans (World.grownBy_alloc _ (.cells #[.int .i64 (-1), .int .i64 T, .int .i64 (T - 1)] 3) _)) (Nat.le_refl _) (by omega)))⟩
              exact AllReadyH.nil
            exact AllReadyH.nil
          exact AllReadyH.nil
        exact AllReadyH.nil
      refine AllReadyH.cons (o := { dst := some 21, op := _, type := _, pos := _, after := _, guard := _ }) rfl (fun K hK => ?_) ?_
      · go_simp
        refine (l5Ten_at HK.out hK6 HT.out _).mono ?_
        rintro e w9 ⟨rfl, hw9⟩
        subst hw9
        (try go_wp2_with fail)
        refine hK.out _ _ ?_ (fun hHeld50 => ?_)
        · (try dsimp only)
          all_goals (((repeat' apply And.intro) <;> first | trivial | assumption | (exact (World.cell?_alloc_lt _ _ _ (by first | omega | (simp <;> omega) | (simp only; omega))).trans (by assumption)) | go_simp | go_keep))
        clear hK K
        (try clear hHeld28)
        (try simp only [Act.put, List.setIfInBounds_toArray, List.set_cons_zero, List.set_cons_succ])
        refine wpAnyH_ready (rs := [1, 9]) (by kernel_rfl) (by simp) ?_
        refine AllReadyH.cons (o := { dst := some 15, op := _, type := _, pos := _, after := _, guard := _ }) rfl (fun K hK => ?_) ?_
        · go_simp
          refine hK.out _ _ ?_ (fun hHeld51 => ?_)
          · (try dsimp only)
            all_goals (((repeat' apply And.intro) <;> first | trivial | assumption | (exact (World.cell?_alloc_lt _ _ _ (by first | omega | (simp <;> omega) | (simp only; omega))).trans (by assumption)) | go_simp | go_keep))
          clear hK K
          (try clear hHeld50)
          (try simp only [Act.put, List.setIfInBounds_toArray, List.set_cons_zero, List.set_cons_succ])
          refine wpAnyH_take (i := 4) (oi := { dst := some 18, op := _, type := _, pos := _, after := _, guard := _ }) (v := ?v52) rfl (by kernel_rfl) (by kernel_rfl) (by kernel_rfl) (fun _ _ _ h => h) (Or.inl ⟨by rfl, ?hy52⟩) (by first | assumption | exact hHeld51) ?rest52
          case hy52 => ((intro w0 hSw; (try dsimp only at hSw); go_simp) <;> with_reducible rfl)
          (try simp only [Act.put, List.setIfInBounds_toArray, List.set_cons_zero, List.set_cons_succ])
          have hs5 : (w3.alloc (.cells #[.int .i64 0, .int .i64 7, .int .i64 (1 + v1)] 3)).cell? ⟨w3.heap.size, j3, none⟩ = some (.int .i64 u3) := by have := own_lit w3 [0, 7, 1 + v1] (g + 1) 3 rfl (by omega) (by first | omega | (simp; omega)); (try simp only [World.size_alloc] at this); exact own_elem this HJ3.out
          refine wpAnyH_strong (S' := (fun w' => w'.cell? ⟨w3.heap.size, j3, none⟩ = some (.int .i64 u3) ∧ ((fun _ => True) w'))) (fun _ h => h.2) _ _ _ _ ?_
          have hHeld53 := And.intro hs5 hHeld51
          refine wpAnyH_take (i := 5) (oi := { dst := some 19, op := _, type := _, pos := _, after := _, guard := _ }) (v := ?v54) rfl (by kernel_rfl) (by kernel_rfl) (by kernel_rfl) (fun _ _ _ h => h) (Or.inl ⟨by rfl, ?hy54⟩) (by first | assumption | exact hHeld53) ?rest54
          case hy54 => ((intro w0 hSw; (try dsimp only at hSw); go_simp) <;> with_reducible rfl)
          (try simp only [Act.put, List.setIfInBounds_toArray, List.set_cons_zero, List.set_cons_succ])
          refine wpAnyH_ready (rs := [9]) (by kernel_rfl) (by simp) ?_
          refine AllReadyH.cons (o := { dst := some 23, op := _, type := _, pos := _, after := _, guard := _ }) rfl (fun K hK => ?_) ?_
          · go_simp
            refine (l5Ten_at HK.out hK6 HT.out _).mono ?_
            rintro e w9 ⟨rfl, hw9⟩
            subst hw9
            (try go_wp2_with fail)
            refine hK.out _ _ ?_ (fun hHeld55 => ?_)
            · (try dsimp only)
              all_goals (((repeat' apply And.intro) <;> first | trivial | assumption | (exact (World.cell?_alloc_lt _ _ _ (by first | omega | (simp <;> omega) | (simp only; omega))).trans (by assumption)) | go_simp | go_keep))
            clear hK K
            (try clear hHeld53)
            (try simp only [Act.put, List.setIfInBounds_toArray, List.set_cons_zero, List.set_cons_succ])
            refine wpAnyH_take (i := 10) (oi := { dst := some 24, op := _, type := _, pos := _, after := _, guard := _ }) (v := ?v56) rfl (by kernel_rfl) (by kernel_rfl) (by kernel_rfl) (fun _ _ _ h => h) (Or.inl ⟨by rfl, ?hy56⟩) (by first | assumption | exact hHeld55) ?rest56
            case hy56 => ((intro w0 hSw; (try dsimp only at hSw); go_simp) <;> with_reducible rfl)
            (try simp only [Act.put, List.setIfInBounds_toArray, List.set_cons_zero, List.set_cons_succ])
            refine wpAnyH_ready (rs := [11, 13]) (by kernel_rfl) (by simp) ?_
            refine AllReadyH.cons (o := { dst := some 25, op := _, type := _, pos := _, after := _, guard := _ }) rfl (fun K hK => ?_) ?_
            · go_simp
              refine hK.out _ _ ?_ (fun hHeld57 => ?_)
              · (try dsimp only)
                all_goals (((repeat' apply And.intro) <;> first | trivial | assumption | (exact (World.cell?_alloc_lt _ _ _ (by first | omega | (simp <;> omega) | (simp only; omega))).trans (by assumption)) | go_simp | go_keep))
              clear hK K
              (try clear hHeld55)
              (try simp only [Act.put, List.setIfInBounds_toArray, List.set_cons_zero, List.set_cons_succ])
              refine wpAnyH_ready (rs := [13]) (by kernel_rfl) (by simp) ?_
              refine AllReadyH.cons (o := { dst := some 27, op := _, type := _, pos := _, after := _, guard := _ }) rfl (fun K hK => ?_) ?_
              · go_simp
                refine (pick_any _ _ _ _ _ (((HR3.out).alloc (.cells #[.int .i64 0, .int .i64 7, .int .i64 (1 + v1)] 3)).alloc (.cells #[.int .i64 (-1), .int .i64 T, .int .i64 (T - 1)] 3)) (by omega)).mono ?_
                rintro e w13 ⟨v13, rfl, hv13, hrd13, hg13'⟩
                obtain ⟨hva13, hvb13⟩ := hv13 (by omega)
                clear hv13
                obtain ⟨j13, u13, rfl, hj13, -⟩ := fr_pick_mem (us := [-1, T, T - 1]) (n := 3) rfl (by omega) hva13 hvb13
                have HJ13 := Lib.hid hj13
                have hg13 : ((w3.alloc (.cells #[.int .i64 0, .int .i64 7, .int .i64 (1 + v1)] 3)).alloc (.cells #[.int .i64 (-1), .int .i64 T, .int .i64 (T - 1)] 3)).grownBy w13 (some g) := ⟨hg13'.os, hg13'.tape, hg13'.output, hg13'.size, hg13'.block⟩
                have hsz13 := hg13.size
                (try simp only [World.size_alloc] at hsz13)
                have HR13 := Lib.hid hrd13
                have HG13 := Lib.hid ((((HG3.out).trans (World.grownBy_alloc _ (.cells #[.int .i64 0, .int .i64 7, .int .i64 (1 + v1)] 3) _)).trans (World.grownBy_alloc _ (.cells #[.int .i64 (-1), .int .i64 T, .int .i64 (T - 1)] 3) _)).trans hg13)
                have ho13_1 := own_pick2 ((own_lit w3 [0, 7, 1 + v1] (g + 1) 3 rfl (by omega) (by first | omega | (simp; omega))).alloc (.cells #[.int .i64 (-1), .int .i64 T, .int .i64 (T - 1)] 3)) hg13 (by omega)
                (try simp only [World.size_alloc] at ho13_1)
                have HO13_1 := Lib.hid ho13_1
                have hc13_5 : w13.cell? ⟨w3.heap.size, j3, none⟩ = some (.int .i64 u3) := own_elem ho13_1 HJ3.out
                clear ho13_1
                have ho13_11 := own_pick2 (own_lit (w3.alloc (.cells #[.int .i64 0, .int .i64 7, .int .i64 (1 + v1)] 3)) [-1, T, T - 1] (g + 1) 3 rfl (by omega) (by first | omega | (simp; omega))) hg13 (by omega)
                (try simp only [World.size_alloc] at ho13_11)
                have HO13_11 := Lib.hid ho13_11
                clear ho13_11
                have hc13_15 : w13.cell? ⟨w3.heap.size + 1, j13, none⟩ = some (.int .i64 u13) := own_elem HO13_11.out HJ13.out
                clear hrd13 hg13 hg13'
                clear hj13
                (try go_wp2_with fail)
                refine hK.out _ _ ?_ (fun hHeld58 => ?_)
                · (try dsimp only)
                  all_goals (((repeat' apply And.intro) <;> first | trivial | assumption | (exact (World.cell?_alloc_lt _ _ _ (by first | omega | (simp <;> omega) | (simp only; omega))).trans (by assumption)) | go_simp | go_keep))
                clear hK K
                (try clear hHeld57)
                (try simp only [Act.put, List.setIfInBounds_toArray, List.set_cons_zero, List.set_cons_succ])
                refine wpAnyH_take (i := 14) (oi := { dst := some 28, op := _, type := _, pos := _, after := _, guard := _ }) (v := ?v59) rfl (by kernel_rfl) (by kernel_rfl) (by kernel_rfl) (fun _ _ _ h => h) (Or.inl ⟨by rfl, ?hy59⟩) (by first | assumption | exact hHeld58) ?rest59
                case hy59 => ((intro w0 hSw; (try dsimp only at hSw); go_simp) <;> with_reducible rfl)
                (try simp only [Act.put, List.setIfInBounds_toArray, List.set_cons_zero, List.set_cons_succ])
                have hs15 : (w13).cell? ⟨w3.heap.size + 1, j13, none⟩ = some (.int .i64 u13) := by have := HO13_11.out; (try simp only [World.size_alloc] at this); exact own_elem this HJ13.out
                refine wpAnyH_strong (S' := (fun w' => w'.cell? ⟨w3.heap.size + 1, j13, none⟩ = some (.int .i64 u13) ∧ ((fun w' => w'.cell? ⟨w3.heap.size, j3, none⟩ = some (.int .i64 u3) ∧ ((fun _ => True) w')) w'))) (fun _ h => h.2) _ _ _ _ ?_
                have hHeld60 := And.intro hs15 hHeld58
                refine wpAnyH_take (i := 15) (oi := { dst := some 29, op := _, type := _, pos := _, after := _, guard := _ }) (v := ?v61) rfl (by kernel_rfl) (by kernel_rfl) (by kernel_rfl) (fun _ _ _ h => h) (Or.inl ⟨by rfl, ?hy61⟩) (by first | assumption | exact hHeld60) ?rest61
                case hy61 => ((intro w0 hSw; (try dsimp only at hSw); go_simp) <;> with_reducible rfl)
                (try simp only [Act.put, List.setIfInBounds_toArray, List.set_cons_zero, List.set_cons_succ])
                refine wpAnyH_take (i := 16) (oi := { dst := some 2, op := _, type := _, pos := _, after := _, guard := _ }) (v := ?v62) rfl (by kernel_rfl) (by kernel_rfl) (by kernel_rfl) (fun _ _ _ h => h) (Or.inl ⟨by rfl, ?hy62⟩) (by first | assumption | exact hHeld60) ?rest62
                case hy62 => ((intro w0 hSw; (try dsimp only at hSw); go_simp) <;> with_reducible rfl)
                (try simp only [Act.put, List.setIfInBounds_toArray, List.set_cons_zero, List.set_cons_succ])
                refine wpAnyH_take (i := 17) (oi := { dst := some 3, op := _, type := _, pos := _, after := _, guard := _ }) (v := ?v63) rfl (by kernel_rfl) (by kernel_rfl) (by kernel_rfl) (fun _ _ _ h => h) (Or.inl ⟨by rfl, ?hy63⟩) (by first | assumption | exact hHeld60) ?rest63
                case hy63 => ((intro w0 hSw; (try dsimp only at hSw); go_simp) <;> with_reducible rfl)
                (try simp only [Act.put, List.setIfInBounds_toArray, List.set_cons_zero, List.set_cons_succ])
                refine wpAnyH_done (by kernel_rfl) ?_ _
                go_wp2
                go_ret2
                obtain ⟨m1, m2⟩ := mem_bd (a := 0) (b := 7) HJ3.out (by intro x hx; simp at hx; omega)
                obtain ⟨m3, m4⟩ := mem_bd (a := -1) (b := 1000000) HJ13.out (by intro x hx; simp at hx; omega)
                exact ⟨_, _, rfl, m1, m2, m3, m4, by have hh := HG0.out; rw [hh]; exact HB.out.trans ((base_in (HG13.out) (Nat.le_refl _) (by omega)))⟩
              exact AllReadyH.nil
            refine AllReadyH.cons (o := { dst := some 27, op := _, type := _, pos := _, after := _, guard := _ }) rfl (fun K hK => ?_) ?_
            · go_simp
              refine (pick_any _ _ _ _ _ ((HR3.out).alloc (.cells #[.int .i64 0, .int .i64 7, .int .i64 (1 + v1)] 3)) (by omega)).mono ?_
              rintro e w13 ⟨v13, rfl, hv13, hrd13, hg13'⟩
              obtain ⟨hva13, hvb13⟩ := hv13 (by omega)
              clear hv13
              obtain ⟨j13, u13, rfl, hj13, -⟩ := fr_pick_mem (us := [-1, T, T - 1]) (n := 3) rfl (by omega) hva13 hvb13
              have HJ13 := Lib.hid hj13
              have hg13 : (w3.alloc (.cells #[.int .i64 0, .int .i64 7, .int .i64 (1 + v1)] 3)).grownBy w13 (some g) := ⟨hg13'.os, hg13'.tape, hg13'.output, hg13'.size, hg13'.block⟩
              have hsz13 := hg13.size
              (try simp only [World.size_alloc] at hsz13)
              have HR13 := Lib.hid hrd13
              have HG13 := Lib.hid (((HG3.out).trans (World.grownBy_alloc _ (.cells #[.int .i64 0, .int .i64 7, .int .i64 (1 + v1)] 3) _)).trans hg13)
              have ho13_1 := own_pick2 (own_lit w3 [0, 7, 1 + v1] (g + 1) 3 rfl (by omega) (by first | omega | (simp; omega))) hg13 (by omega)
              (try simp only [World.size_alloc] at ho13_1)
              have HO13_1 := Lib.hid ho13_1
              have hc13_5 : w13.cell? ⟨w3.heap.size, j3, none⟩ = some (.int .i64 u3) := own_elem ho13_1 HJ3.out
              clear ho13_1
              clear hrd13 hg13 hg13'
              clear hj13
              (try go_wp2_with fail)
              refine hK.out _ _ ?_ (fun hHeld64 => ?_)
              · (try dsimp only)
                all_goals (((repeat' apply And.intro) <;> first | trivial | assumption | (exact (World.cell?_alloc_lt _ _ _ (by first | omega | (simp <;> omega) | (simp only; omega))).trans (by assumption)) | go_simp | go_keep))
              clear hK K
              (try clear hHeld55)
              (try simp only [Act.put, List.setIfInBounds_toArray, List.set_cons_zero, List.set_cons_succ])
              refine wpAnyH_take (i := 16) (oi := { dst := some 2, op := _, type := _, pos := _, after := _, guard := _ }) (v := ?v65) rfl (by kernel_rfl) (by kernel_rfl) (by kernel_rfl) (fun _ _ _ h => h) (Or.inl ⟨by rfl, ?hy65⟩) (by first | assumption | exact hHeld64) ?rest65
              case hy65 => ((intro w0 hSw; (try dsimp only at hSw); go_simp) <;> with_reducible rfl)
              (try simp only [Act.put, List.setIfInBounds_toArray, List.set_cons_zero, List.set_cons_succ])
              refine wpAnyH_ready (rs := [11]) (by kernel_rfl) (by simp) ?_
              refine AllReadyH.cons (o := { dst := some 25, op := _, type := _, pos := _, after := _, guard := _ }) rfl (fun K hK => ?_) ?_
              · go_simp
                refine hK.out _ _ ?_ (fun hHeld66 => ?_)
                · (try dsimp only)
                  all_goals (((repeat' apply And.intro) <;> first | trivial | assumption | (exact (World.cell?_alloc_lt _ _ _ (by first | omega | (simp <;> omega) | (simp only; omega))).trans (by assumption)) | go_simp | go_keep))
                clear hK K
                (try clear hHeld64)
                (try simp only [Act.put, List.setIfInBounds_toArray, List.set_cons_zero, List.set_cons_succ])
                refine wpAnyH_take (i := 14) (oi := { dst := some 28, op := _, type := _, pos := _, after := _, guard := _ }) (v := ?v67) rfl (by kernel_rfl) (by kernel_rfl) (by kernel_rfl) (fun _ _ _ h => h) (Or.inl ⟨by rfl, ?hy67⟩) (by first | assumption | exact hHeld66) ?rest67
                case hy67 => ((intro w0 hSw; (try dsimp only at hSw); go_simp) <;> with_reducible rfl)
                (try simp only [Act.put, List.setIfInBounds_toArray, List.set_cons_zero, List.set_cons_succ])
                have hs15 : (w13.alloc (.cells #[.int .i64 (-1), .int .i64 T, .int .i64 (T - 1)] 3)).cell? ⟨w13.heap.size, j13, none⟩ = some (.int .i64 u13) := by have := own_lit w13 [-1, T, T - 1] (g + 1) 3 rfl (by omega) (by first | omega | (simp; omega)); (try simp only [World.size_alloc] at this); exact own_elem this HJ13.out
                refine wpAnyH_strong (S' := (fun w' => w'.cell? ⟨w13.heap.size, j13, none⟩ = some (.int .i64 u13) ∧ ((fun w' => w'.cell? ⟨w3.heap.size, j3, none⟩ = some (.int .i64 u3) ∧ ((fun _ => True) w')) w'))) (fun _ h => h.2) _ _ _ _ ?_
                have hHeld68 := And.intro hs15 hHeld66
                refine wpAnyH_take (i := 15) (oi := { dst := some 29, op := _, type := _, pos := _, after := _, guard := _ }) (v := ?v69) rfl (by kernel_rfl) (by kernel_rfl) (by kernel_rfl) (fun _ _ _ h => h) (Or.inl ⟨by rfl, ?hy69⟩) (by first | assumption | exact hHeld68) ?rest69
                case hy69 => ((intro w0 hSw; (try dsimp only at hSw); go_simp) <;> with_reducible rfl)
                (try simp only [Act.put, List.setIfInBounds_toArray, List.set_cons_zero, List.set_cons_succ])
                refine wpAnyH_take (i := 17) (oi := { dst := some 3, op := _, type := _, pos := _, after := _, guard := _ }) (v := ?v70) rfl (by kernel_rfl) (by kernel_rfl) (by kernel_rfl) (fun _ _ _ h => h) (Or.inl ⟨by rfl, ?hy70⟩) (by first | assumption | exact hHeld68) ?rest70
                case hy70 => ((intro w0 hSw; (try dsimp only at hSw); go_simp) <;> with_reducible rfl)
                (try simp only [Act.put, List.setIfInBounds_toArray, List.set_cons_zero, List.set_cons_succ])
                refine wpAnyH_done (by kernel_rfl) ?_ _
                go_wp2
                go_ret2
                obtain ⟨m1, m2⟩ := mem_bd (a := 0) (b := 7) HJ3.out (by intro x hx; simp at hx; omega)
                obtain ⟨m3, m4⟩ := mem_bd (a := -1) (b := 1000000) HJ13.out (by intro x hx; simp at hx; omega)
                exact ⟨_, _, rfl, m1, m2, m3, m4, by have hh := HG0.out; rw [hh]; exact HB.out.trans ((base_in ((HG13.out).trans (World.grownBy_alloc _ (.cells #[.int .i64 (-1), .int .i64 T, .int .i64 (T - 1)] 3) _)) (Nat.le_refl _) (by omega)))⟩
              exact AllReadyH.nil
            exact AllReadyH.nil
          exact AllReadyH.nil
        refine AllReadyH.cons (o := { dst := some 23, op := _, type := _, pos := _, after := _, guard := _ }) rfl (fun K hK => ?_) ?_
        · go_simp
          refine (l5Ten_at HK.out hK6 HT.out _).mono ?_
          rintro e w9 ⟨rfl, hw9⟩
          subst hw9
          (try go_wp2_with fail)
          refine hK.out _ _ ?_ (fun hHeld71 => ?_)
          · (try dsimp only)
            all_goals (((repeat' apply And.intro) <;> first | trivial | assumption | (exact (World.cell?_alloc_lt _ _ _ (by first | omega | (simp <;> omega) | (simp only; omega))).trans (by assumption)) | go_simp | go_keep))
          clear hK K
          (try clear hHeld50)
          (try simp only [Act.put, List.setIfInBounds_toArray, List.set_cons_zero, List.set_cons_succ])
          refine wpAnyH_take (i := 10) (oi := { dst := some 24, op := _, type := _, pos := _, after := _, guard := _ }) (v := ?v72) rfl (by kernel_rfl) (by kernel_rfl) (by kernel_rfl) (fun _ _ _ h => h) (Or.inl ⟨by rfl, ?hy72⟩) (by first | assumption | exact hHeld71) ?rest72
          case hy72 => ((intro w0 hSw; (try dsimp only at hSw); go_simp) <;> with_reducible rfl)
          (try simp only [Act.put, List.setIfInBounds_toArray, List.set_cons_zero, List.set_cons_succ])
          refine wpAnyH_ready (rs := [1, 11, 13]) (by kernel_rfl) (by simp) ?_
          refine AllReadyH.cons (o := { dst := some 15, op := _, type := _, pos := _, after := _, guard := _ }) rfl (fun K hK => ?_) ?_
          · go_simp
            refine hK.out _ _ ?_ (fun hHeld73 => ?_)
            · (try dsimp only)
              all_goals (((repeat' apply And.intro) <;> first | trivial | assumption | (exact (World.cell?_alloc_lt _ _ _ (by first | omega | (simp <;> omega) | (simp only; omega))).trans (by assumption)) | go_simp | go_keep))
            clear hK K
            (try clear hHeld71)
            (try simp only [Act.put, List.setIfInBounds_toArray, List.set_cons_zero, List.set_cons_succ])
            refine wpAnyH_take (i := 4) (oi := { dst := some 18, op := _, type := _, pos := _, after := _, guard := _ }) (v := ?v74) rfl (by kernel_rfl) (by kernel_rfl) (by kernel_rfl) (fun _ _ _ h => h) (Or.inl ⟨by rfl, ?hy74⟩) (by first | assumption | exact hHeld73) ?rest74
            case hy74 => ((intro w0 hSw; (try dsimp only at hSw); go_simp) <;> with_reducible rfl)
            (try simp only [Act.put, List.setIfInBounds_toArray, List.set_cons_zero, List.set_cons_succ])
            have hs5 : (w3.alloc (.cells #[.int .i64 0, .int .i64 7, .int .i64 (1 + v1)] 3)).cell? ⟨w3.heap.size, j3, none⟩ = some (.int .i64 u3) := by have := own_lit w3 [0, 7, 1 + v1] (g + 1) 3 rfl (by omega) (by first | omega | (simp; omega)); (try simp only [World.size_alloc] at this); exact own_elem this HJ3.out
            refine wpAnyH_strong (S' := (fun w' => w'.cell? ⟨w3.heap.size, j3, none⟩ = some (.int .i64 u3) ∧ ((fun _ => True) w'))) (fun _ h => h.2) _ _ _ _ ?_
            have hHeld75 := And.intro hs5 hHeld73
            refine wpAnyH_take (i := 5) (oi := { dst := some 19, op := _, type := _, pos := _, after := _, guard := _ }) (v := ?v76) rfl (by kernel_rfl) (by kernel_rfl) (by kernel_rfl) (fun _ _ _ h => h) (Or.inl ⟨by rfl, ?hy76⟩) (by first | assumption | exact hHeld75) ?rest76
            case hy76 => ((intro w0 hSw; (try dsimp only at hSw); go_simp) <;> with_reducible rfl)
            (try simp only [Act.put, List.setIfInBounds_toArray, List.set_cons_zero, List.set_cons_succ])
            refine wpAnyH_ready (rs := [11, 13]) (by kernel_rfl) (by simp) ?_
            refine AllReadyH.cons (o := { dst := some 25, op := _, type := _, pos := _, after := _, guard := _ }) rfl (fun K hK => ?_) ?_
            · go_simp
              refine hK.out _ _ ?_ (fun hHeld77 => ?_)
              · (try dsimp only)
                all_goals (((repeat' apply And.intro) <;> first | trivial | assumption | (exact (World.cell?_alloc_lt _ _ _ (by first | omega | (simp <;> omega) | (simp only; omega))).trans (by assumption)) | go_simp | go_keep))
              clear hK K
              (try clear hHeld75)
              (try simp only [Act.put, List.setIfInBounds_toArray, List.set_cons_zero, List.set_cons_succ])
              refine wpAnyH_ready (rs := [13]) (by kernel_rfl) (by simp) ?_
              refine AllReadyH.cons (o := { dst := some 27, op := _, type := _, pos := _, after := _, guard := _ }) rfl (fun K hK => ?_) ?_
              · go_simp
                refine (pick_any _ _ _ _ _ (((HR3.out).alloc (.cells #[.int .i64 0, .int .i64 7, .int .i64 (1 + v1)] 3)).alloc (.cells #[.int .i64 (-1), .int .i64 T, .int .i64 (T - 1)] 3)) (by omega)).mono ?_
                rintro e w13 ⟨v13, rfl, hv13, hrd13, hg13'⟩
                obtain ⟨hva13, hvb13⟩ := hv13 (by omega)
                clear hv13
                obtain ⟨j13, u13, rfl, hj13, -⟩ := fr_pick_mem (us := [-1, T, T - 1]) (n := 3) rfl (by omega) hva13 hvb13
                have HJ13 := Lib.hid hj13
                have hg13 : ((w3.alloc (.cells #[.int .i64 0, .int .i64 7, .int .i64 (1 + v1)] 3)).alloc (.cells #[.int .i64 (-1), .int .i64 T, .int .i64 (T - 1)] 3)).grownBy w13 (some g) := ⟨hg13'.os, hg13'.tape, hg13'.output, hg13'.size, hg13'.block⟩
                have hsz13 := hg13.size
                (try simp only [World.size_alloc] at hsz13)
                have HR13 := Lib.hid hrd13
                have HG13 := Lib.hid ((((HG3.out).trans (World.grownBy_alloc _ (.cells #[.int .i64 0, .int .i64 7, .int .i64 (1 + v1)] 3) _)).trans (World.grownBy_alloc _ (.cells #[.int .i64 (-1), .int .i64 T, .int .i64 (T - 1)] 3) _)).trans hg13)
                have ho13_1 := own_pick2 ((own_lit w3 [0, 7, 1 + v1] (g + 1) 3 rfl (by omega) (by first | omega | (simp; omega))).alloc (.cells #[.int .i64 (-1), .int .i64 T, .int .i64 (T - 1)] 3)) hg13 (by omega)
                (try simp only [World.size_alloc] at ho13_1)
                have HO13_1 := Lib.hid ho13_1
                have hc13_5 : w13.cell? ⟨w3.heap.size, j3, none⟩ = some (.int .i64 u3) := own_elem ho13_1 HJ3.out
                clear ho13_1
                have ho13_11 := own_pick2 (own_lit (w3.alloc (.cells #[.int .i64 0, .int .i64 7, .int .i64 (1 + v1)] 3)) [-1, T, T - 1] (g + 1) 3 rfl (by omega) (by first | omega | (simp; omega))) hg13 (by omega)
                (try simp only [World.size_alloc] at ho13_11)
                have HO13_11 := Lib.hid ho13_11
                clear ho13_11
                have hc13_15 : w13.cell? ⟨w3.heap.size + 1, j13, none⟩ = some (.int .i64 u13) := own_elem HO13_11.out HJ13.out
                clear hrd13 hg13 hg13'
                clear hj13
                (try go_wp2_with fail)
                refine hK.out _ _ ?_ (fun hHeld78 => ?_)
                · (try dsimp only)
                  all_goals (((repeat' apply And.intro) <;> first | trivial | assumption | (exact (World.cell?_alloc_lt _ _ _ (by first | omega | (simp <;> omega) | (simp only; omega))).trans (by assumption)) | go_simp | go_keep))
                clear hK K
                (try clear hHeld77)
                (try simp only [Act.put, List.setIfInBounds_toArray, List.set_cons_zero, List.set_cons_succ])
                refine wpAnyH_take (i := 14) (oi := { dst := some 28, op := _, type := _, pos := _, after := _, guard := _ }) (v := ?v79) rfl (by kernel_rfl) (by kernel_rfl) (by kernel_rfl) (fun _ _ _ h => h) (Or.inl ⟨by rfl, ?hy79⟩) (by first | assumption | exact hHeld78) ?rest79
                case hy79 => ((intro w0 hSw; (try dsimp only at hSw); go_simp) <;> with_reducible rfl)
                (try simp only [Act.put, List.setIfInBounds_toArray, List.set_cons_zero, List.set_cons_succ])
                have hs15 : (w13).cell? ⟨w3.heap.size + 1, j13, none⟩ = some (.int .i64 u13) := by have := HO13_11.out; (try simp only [World.size_alloc] at this); exact own_elem this HJ13.out
                refine wpAnyH_strong (S' := (fun w' => w'.cell? ⟨w3.heap.size + 1, j13, none⟩ = some (.int .i64 u13) ∧ ((fun w' => w'.cell? ⟨w3.heap.size, j3, none⟩ = some (.int .i64 u3) ∧ ((fun _ => True) w')) w'))) (fun _ h => h.2) _ _ _ _ ?_
                have hHeld80 := And.intro hs15 hHeld78
                refine wpAnyH_take (i := 15) (oi := { dst := some 29, op := _, type := _, pos := _, after := _, guard := _ }) (v := ?v81) rfl (by kernel_rfl) (by kernel_rfl) (by kernel_rfl) (fun _ _ _ h => h) (Or.inl ⟨by rfl, ?hy81⟩) (by first | assumption | exact hHeld80) ?rest81
                case hy81 => ((intro w0 hSw; (try dsimp only at hSw); go_simp) <;> with_reducible rfl)
                (try simp only [Act.put, List.setIfInBounds_toArray, List.set_cons_zero, List.set_cons_succ])
                refine wpAnyH_take (i := 16) (oi := { dst := some 2, op := _, type := _, pos := _, after := _, guard := _ }) (v := ?v82) rfl (by kernel_rfl) (by kernel_rfl) (by kernel_rfl) (fun _ _ _ h => h) (Or.inl ⟨by rfl, ?hy82⟩) (by first | assumption | exact hHeld80) ?rest82
                case hy82 => ((intro w0 hSw; (try dsimp only at hSw); go_simp) <;> with_reducible rfl)
                (try simp only [Act.put, List.setIfInBounds_toArray, List.set_cons_zero, List.set_cons_succ])
                refine wpAnyH_take (i := 17) (oi := { dst := some 3, op := _, type := _, pos := _, after := _, guard := _ }) (v := ?v83) rfl (by kernel_rfl) (by kernel_rfl) (by kernel_rfl) (fun _ _ _ h => h) (Or.inl ⟨by rfl, ?hy83⟩) (by first | assumption | exact hHeld80) ?rest83
                case hy83 => ((intro w0 hSw; (try dsimp only at hSw); go_simp) <;> with_reducible rfl)
                (try simp only [Act.put, List.setIfInBounds_toArray, List.set_cons_zero, List.set_cons_succ])
                refine wpAnyH_done (by kernel_rfl) ?_ _
                go_wp2
                go_ret2
                obtain ⟨m1, m2⟩ := mem_bd (a := 0) (b := 7) HJ3.out (by intro x hx; simp at hx; omega)
                obtain ⟨m3, m4⟩ := mem_bd (a := -1) (b := 1000000) HJ13.out (by intro x hx; simp at hx; omega)
                exact ⟨_, _, rfl, m1, m2, m3, m4, by have hh := HG0.out; rw [hh]; exact HB.out.trans ((base_in (HG13.out) (Nat.le_refl _) (by omega)))⟩
              exact AllReadyH.nil
            refine AllReadyH.cons (o := { dst := some 27, op := _, type := _, pos := _, after := _, guard := _ }) rfl (fun K hK => ?_) ?_
            · go_simp
              refine (pick_any _ _ _ _ _ ((HR3.out).alloc (.cells #[.int .i64 0, .int .i64 7, .int .i64 (1 + v1)] 3)) (by omega)).mono ?_
              rintro e w13 ⟨v13, rfl, hv13, hrd13, hg13'⟩
              obtain ⟨hva13, hvb13⟩ := hv13 (by omega)
              clear hv13
              obtain ⟨j13, u13, rfl, hj13, -⟩ := fr_pick_mem (us := [-1, T, T - 1]) (n := 3) rfl (by omega) hva13 hvb13
              have HJ13 := Lib.hid hj13
              have hg13 : (w3.alloc (.cells #[.int .i64 0, .int .i64 7, .int .i64 (1 + v1)] 3)).grownBy w13 (some g) := ⟨hg13'.os, hg13'.tape, hg13'.output, hg13'.size, hg13'.block⟩
              have hsz13 := hg13.size
              (try simp only [World.size_alloc] at hsz13)
              have HR13 := Lib.hid hrd13
              have HG13 := Lib.hid (((HG3.out).trans (World.grownBy_alloc _ (.cells #[.int .i64 0, .int .i64 7, .int .i64 (1 + v1)] 3) _)).trans hg13)
              have ho13_1 := own_pick2 (own_lit w3 [0, 7, 1 + v1] (g + 1) 3 rfl (by omega) (by first | omega | (simp; omega))) hg13 (by omega)
              (try simp only [World.size_alloc] at ho13_1)
              have HO13_1 := Lib.hid ho13_1
              have hc13_5 : w13.cell? ⟨w3.heap.size, j3, none⟩ = some (.int .i64 u3) := own_elem ho13_1 HJ3.out
              clear ho13_1
              clear hrd13 hg13 hg13'
              clear hj13
              (try go_wp2_with fail)
              refine hK.out _ _ ?_ (fun hHeld84 => ?_)
              · (try dsimp only)
                all_goals (((repeat' apply And.intro) <;> first | trivial | assumption | (exact (World.cell?_alloc_lt _ _ _ (by first | omega | (simp <;> omega) | (simp only; omega))).trans (by assumption)) | go_simp | go_keep))
              clear hK K
              (try clear hHeld75)
              (try simp only [Act.put, List.setIfInBounds_toArray, List.set_cons_zero, List.set_cons_succ])
              refine wpAnyH_take (i := 16) (oi := { dst := some 2, op := _, type := _, pos := _, after := _, guard := _ }) (v := ?v85) rfl (by kernel_rfl) (by kernel_rfl) (by kernel_rfl) (fun _ _ _ h => h) (Or.inl ⟨by rfl, ?hy85⟩) (by first | assumption | exact hHeld84) ?rest85
              case hy85 => ((intro w0 hSw; (try dsimp only at hSw); go_simp) <;> with_reducible rfl)
              (try simp only [Act.put, List.setIfInBounds_toArray, List.set_cons_zero, List.set_cons_succ])
              refine wpAnyH_ready (rs := [11]) (by kernel_rfl) (by simp) ?_
              refine AllReadyH.cons (o := { dst := some 25, op := _, type := _, pos := _, after := _, guard := _ }) rfl (fun K hK => ?_) ?_
              · go_simp
                refine hK.out _ _ ?_ (fun hHeld86 => ?_)
                · (try dsimp only)
                  all_goals (((repeat' apply And.intro) <;> first | trivial | assumption | (exact (World.cell?_alloc_lt _ _ _ (by first | omega | (simp <;> omega) | (simp only; omega))).trans (by assumption)) | go_simp | go_keep))
                clear hK K
                (try clear hHeld84)
                (try simp only [Act.put, List.setIfInBounds_toArray, List.set_cons_zero, List.set_cons_succ])
                refine wpAnyH_take (i := 14) (oi := { dst := some 28, op := _, type := _, pos := _, after := _, guard := _ }) (v := ?v87) rfl (by kernel_rfl) (by kernel_rfl) (by kernel_rfl) (fun _ _ _ h => h) (Or.inl ⟨by rfl, ?hy87⟩) (by first | assumption | exact hHeld86) ?rest87
                case hy87 => ((intro w0 hSw; (try dsimp only at hSw); go_simp) <;> with_reducible rfl)
                (try simp only [Act.put, List.setIfInBounds_toArray, List.set_cons_zero, List.set_cons_succ])
                have hs15 : (w13.alloc (.cells #[.int .i64 (-1), .int .i64 T, .int .i64 (T - 1)] 3)).cell? ⟨w13.heap.size, j13, none⟩ = some (.int .i64 u13) := by have := own_lit w13 [-1, T, T - 1] (g + 1) 3 rfl (by omega) (by first | omega | (simp; omega)); (try simp only [World.size_alloc] at this); exact own_elem this HJ13.out
                refine wpAnyH_strong (S' := (fun w' => w'.cell? ⟨w13.heap.size, j13, none⟩ = some (.int .i64 u13) ∧ ((fun w' => w'.cell? ⟨w3.heap.size, j3, none⟩ = some (.int .i64 u3) ∧ ((fun _ => True) w')) w'))) (fun _ h => h.2) _ _ _ _ ?_
                have hHeld88 := And.intro hs15 hHeld86
                refine wpAnyH_take (i := 15) (oi := { dst := some 29, op := _, type := _, pos := _, after := _, guard := _ }) (v := ?v89) rfl (by kernel_rfl) (by kernel_rfl) (by kernel_rfl) (fun _ _ _ h => h) (Or.inl ⟨by rfl, ?hy89⟩) (by first | assumption | exact hHeld88) ?rest89
                case hy89 => ((intro w0 hSw; (try dsimp only at hSw); go_simp) <;> with_reducible rfl)
                (try simp only [Act.put, List.setIfInBounds_toArray, List.set_cons_zero, List.set_cons_succ])
                refine wpAnyH_take (i := 17) (oi := { dst := some 3, op := _, type := _, pos := _, after := _, guard := _ }) (v := ?v90) rfl (by kernel_rfl) (by kernel_rfl) (by kernel_rfl) (fun _ _ _ h => h) (Or.inl ⟨by rfl, ?hy90⟩) (by first | assumption | exact hHeld88) ?rest90
                case hy90 => ((intro w0 hSw; (try dsimp only at hSw); go_simp) <;> with_reducible rfl)
                (try simp only [Act.put, List.setIfInBounds_toArray, List.set_cons_zero, List.set_cons_succ])
                refine wpAnyH_done (by kernel_rfl) ?_ _
                go_wp2
                go_ret2
                obtain ⟨m1, m2⟩ := mem_bd (a := 0) (b := 7) HJ3.out (by intro x hx; simp at hx; omega)
                obtain ⟨m3, m4⟩ := mem_bd (a := -1) (b := 1000000) HJ13.out (by intro x hx; simp at hx; omega)
                exact ⟨_, _, rfl, m1, m2, m3, m4, by have hh := HG0.out; rw [hh]; exact HB.out.trans ((base_in ((HG13.out).trans (World.grownBy_alloc _ (.cells #[.int .i64 (-1), .int .i64 T, .int .i64 (T - 1)] 3) _)) (Nat.le_refl _) (by omega)))⟩
              exact AllReadyH.nil
            exact AllReadyH.nil
          refine AllReadyH.cons (o := { dst := some 25, op := _, type := _, pos := _, after := _, guard := _ }) rfl (fun K hK => ?_) ?_
          · go_simp
            refine hK.out _ _ ?_ (fun hHeld91 => ?_)
            · (try dsimp only)
              all_goals (((repeat' apply And.intro) <;> first | trivial | assumption | (exact (World.cell?_alloc_lt _ _ _ (by first | omega | (simp <;> omega) | (simp only; omega))).trans (by assumption)) | go_simp | go_keep))
            clear hK K
            (try clear hHeld71)
            (try simp only [Act.put, List.setIfInBounds_toArray, List.set_cons_zero, List.set_cons_succ])
            refine wpAnyH_ready (rs := [1, 13]) (by kernel_rfl) (by simp) ?_
            refine AllReadyH.cons (o := { dst := some 15, op := _, type := _, pos := _, after := _, guard := _ }) rfl (fun K hK => ?_) ?_
            · go_simp
              refine hK.out _ _ ?_ (fun hHeld92 => ?_)
              · (try dsimp only)
                all_goals (((repeat' apply And.intro) <;> first | trivial | assumption | (exact (World.cell?_alloc_lt _ _ _ (by first | omega | (simp <;> omega) | (simp only; omega))).trans (by assumption)) | go_simp | go_keep))
              clear hK K
              (try clear hHeld91)
              (try simp only [Act.put, List.setIfInBounds_toArray, List.set_cons_zero, List.set_cons_succ])
              refine wpAnyH_take (i := 4) (oi := { dst := some 18, op := _, type := _, pos := _, after := _, guard := _ }) (v := ?v93) rfl (by kernel_rfl) (by kernel_rfl) (by kernel_rfl) (fun _ _ _ h => h) (Or.inl ⟨by rfl, ?hy93⟩) (by first | assumption | exact hHeld92) ?rest93
              case hy93 => ((intro w0 hSw; (try dsimp only at hSw); go_simp) <;> with_reducible rfl)
              (try simp only [Act.put, List.setIfInBounds_toArray, List.set_cons_zero, List.set_cons_succ])
              have hs5 : ((w3.alloc (.cells #[.int .i64 (-1), .int .i64 T, .int .i64 (T - 1)] 3)).alloc (.cells #[.int .i64 0, .int .i64 7, .int .i64 (1 + v1)] 3)).cell? ⟨w3.heap.size + 1, j3, none⟩ = some (.int .i64 u3) := by have := own_lit (w3.alloc (.cells #[.int .i64 (-1), .int .i64 T, .int .i64 (T - 1)] 3)) [0, 7, 1 + v1] (g + 1) 3 rfl (by omega) (by first | omega | (simp; omega)); (try simp only [World.size_alloc] at this); exact own_elem this HJ3.out
              refine wpAnyH_strong (S' := (fun w' => w'.cell? ⟨w3.heap.size + 1, j3, none⟩ = some (.int .i64 u3) ∧ ((fun _ => True) w'))) (fun _ h => h.2) _ _ _ _ ?_
              have hHeld94 := And.intro hs5 hHeld92
              refine wpAnyH_take (i := 5) (oi := { dst := some 19, op := _, type := _, pos := _, after := _, guard := _ }) (v := ?v95) rfl (by kernel_rfl) (by kernel_rfl) (by kernel_rfl) (fun _ _ _ h => h) (Or.inl ⟨by rfl, ?hy95⟩) (by first | assumption | exact hHeld94) ?rest95
              case hy95 => ((intro w0 hSw; (try dsimp only at hSw); go_simp) <;> with_reducible rfl)
              (try simp only [Act.put, List.setIfInBounds_toArray, List.set_cons_zero, List.set_cons_succ])
              refine wpAnyH_ready (rs := [13]) (by kernel_rfl) (by simp) ?_
              refine AllReadyH.cons (o := { dst := some 27, op := _, type := _, pos := _, after := _, guard := _ }) rfl (fun K hK => ?_) ?_
              · go_simp
                refine (pick_any _ _ _ _ _ (((HR3.out).alloc (.cells #[.int .i64 (-1), .int .i64 T, .int .i64 (T - 1)] 3)).alloc (.cells #[.int .i64 0, .int .i64 7, .int .i64 (1 + v1)] 3)) (by omega)).mono ?_
                rintro e w13 ⟨v13, rfl, hv13, hrd13, hg13'⟩
                obtain ⟨hva13, hvb13⟩ := hv13 (by omega)
                clear hv13
                obtain ⟨j13, u13, rfl, hj13, -⟩ := fr_pick_mem (us := [-1, T, T - 1]) (n := 3) rfl (by omega) hva13 hvb13
                have HJ13 := Lib.hid hj13
                have hg13 : ((w3.alloc (.cells #[.int .i64 (-1), .int .i64 T, .int .i64 (T - 1)] 3)).alloc (.cells #[.int .i64 0, .int .i64 7, .int .i64 (1 + v1)] 3)).grownBy w13 (some g) := ⟨hg13'.os, hg13'.tape, hg13'.output, hg13'.size, hg13'.block⟩
                have hsz13 := hg13.size
                (try simp only [World.size_alloc] at hsz13)
                have HR13 := Lib.hid hrd13
                have HG13 := Lib.hid ((((HG3.out).trans (World.grownBy_alloc _ (.cells #[.int .i64 (-1), .int .i64 T, .int .i64 (T - 1)] 3) _)).trans (World.grownBy_alloc _ (.cells #[.int .i64 0, .int .i64 7, .int .i64 (1 + v1)] 3) _)).trans hg13)
                have ho13_11 := own_pick2 ((own_lit w3 [-1, T, T - 1] (g + 1) 3 rfl (by omega) (by first | omega | (simp; omega))).alloc (.cells #[.int .i64 0, .int .i64 7, .int .i64 (1 + v1)] 3)) hg13 (by omega)
                (try simp only [World.size_alloc] at ho13_11)
                have HO13_11 := Lib.hid ho13_11
                clear ho13_11
                have ho13_1 := own_pick2 (own_lit (w3.alloc (.cells #[.int .i64 (-1), .int .i64 T, .int .i64 (T - 1)] 3)) [0, 7, 1 + v1] (g + 1) 3 rfl (by omega) (by first | omega | (simp; omega))) hg13 (by omega)
                (try simp only [World.size_alloc] at ho13_1)
                have HO13_1 := Lib.hid ho13_1
                have hc13_5 : w13.cell? ⟨w3.heap.size + 1, j3, none⟩ = some (.int .i64 u3) := own_elem ho13_1 HJ3.out
                clear ho13_1
                have hc13_15 : w13.cell? ⟨w3.heap.size, j13, none⟩ = some (.int .i64 u13) := own_elem HO13_11.out HJ13.out
                clear hrd13 hg13 hg13'
                clear hj13
                (try go_wp2_with fail)
                refine hK.out _ _ ?_ (fun hHeld96 => ?_)
                · (try dsimp only)
                  all_goals (((repeat' apply And.intro) <;> first | trivial | assumption | (exact (World.cell?_alloc_lt _ _ _ (by first | omega | (simp <;> omega) | (simp only; omega))).trans (by assumption)) | go_simp | go_keep))
                clear hK K
                (try clear hHeld94)
                (try simp only [Act.put, List.setIfInBounds_toArray, List.set_cons_zero, List.set_cons_succ])
                refine wpAnyH_take (i := 14) (oi := { dst := some 28, op := _, type := _, pos := _, after := _, guard := _ }) (v := ?v97) rfl (by kernel_rfl) (by kernel_rfl) (by kernel_rfl) (fun _ _ _ h => h) (Or.inl ⟨by rfl, ?hy97⟩) (by first | assumption | exact hHeld96) ?rest97
                case hy97 => ((intro w0 hSw; (try dsimp only at hSw); go_simp) <;> with_reducible rfl)
                (try simp only [Act.put, List.setIfInBounds_toArray, List.set_cons_zero, List.set_cons_succ])
                have hs15 : (w13).cell? ⟨w3.heap.size, j13, none⟩ = some (.int .i64 u13) := by have := HO13_11.out; (try simp only [World.size_alloc] at this); exact own_elem this HJ13.out
                refine wpAnyH_strong (S' := (fun w' => w'.cell? ⟨w3.heap.size, j13, none⟩ = some (.int .i64 u13) ∧ ((fun w' => w'.cell? ⟨w3.heap.size + 1, j3, none⟩ = some (.int .i64 u3) ∧ ((fun _ => True) w')) w'))) (fun _ h => h.2) _ _ _ _ ?_
                have hHeld98 := And.intro hs15 hHeld96
                refine wpAnyH_take (i := 15) (oi := { dst := some 29, op := _, type := _, pos := _, after := _, guard := _ }) (v := ?v99) rfl (by kernel_rfl) (by kernel_rfl) (by kernel_rfl) (fun _ _ _ h => h) (Or.inl ⟨by rfl, ?hy99⟩) (by first | assumption | exact hHeld98) ?rest99
                case hy99 => ((intro w0 hSw; (try dsimp only at hSw); go_simp) <;> with_reducible rfl)
                (try simp only [Act.put, List.setIfInBounds_toArray, List.set_cons_zero, List.set_cons_succ])
                refine wpAnyH_take (i := 16) (oi := { dst := some 2, op := _, type := _, pos := _, after := _, guard := _ }) (v := ?v100) rfl (by kernel_rfl) (by kernel_rfl) (by kernel_rfl) (fun _ _ _ h => h) (Or.inl ⟨by rfl, ?hy100⟩) (by first | assumption | exact hHeld98) ?rest100
                case hy100 => ((intro w0 hSw; (try dsimp only at hSw); go_simp) <;> with_reducible rfl)
                (try simp only [Act.put, List.setIfInBounds_toArray, List.set_cons_zero, List.set_cons_succ])
                refine wpAnyH_take (i := 17) (oi := { dst := some 3, op := _, type := _, pos := _, after := _, guard := _ }) (v := ?v101) rfl (by kernel_rfl) (by kernel_rfl) (by kernel_rfl) (fun _ _ _ h => h) (Or.inl ⟨by rfl, ?hy101⟩) (by first | assumption | exact hHeld98) ?rest101
                case hy101 => ((intro w0 hSw; (try dsimp only at hSw); go_simp) <;> with_reducible rfl)
                (try simp only [Act.put, List.setIfInBounds_toArray, List.set_cons_zero, List.set_cons_succ])
                refine wpAnyH_done (by kernel_rfl) ?_ _
                go_wp2
                go_ret2
                obtain ⟨m1, m2⟩ := mem_bd (a := 0) (b := 7) HJ3.out (by intro x hx; simp at hx; omega)
                obtain ⟨m3, m4⟩ := mem_bd (a := -1) (b := 1000000) HJ13.out (by intro x hx; simp at hx; omega)
                exact ⟨_, _, rfl, m1, m2, m3, m4, by have hh := HG0.out; rw [hh]; exact HB.out.trans ((base_in (HG13.out) (Nat.le_refl _) (by omega)))⟩
              exact AllReadyH.nil
            refine AllReadyH.cons (o := { dst := some 27, op := _, type := _, pos := _, after := _, guard := _ }) rfl (fun K hK => ?_) ?_
            · go_simp
              refine (pick_any _ _ _ _ _ ((HR3.out).alloc (.cells #[.int .i64 (-1), .int .i64 T, .int .i64 (T - 1)] 3)) (by omega)).mono ?_
              rintro e w13 ⟨v13, rfl, hv13, hrd13, hg13'⟩
              obtain ⟨hva13, hvb13⟩ := hv13 (by omega)
              clear hv13
              obtain ⟨j13, u13, rfl, hj13, -⟩ := fr_pick_mem (us := [-1, T, T - 1]) (n := 3) rfl (by omega) hva13 hvb13
              have HJ13 := Lib.hid hj13
              have hg13 : (w3.alloc (.cells #[.int .i64 (-1), .int .i64 T, .int .i64 (T - 1)] 3)).grownBy w13 (some g) := ⟨hg13'.os, hg13'.tape, hg13'.output, hg13'.size, hg13'.block⟩
              have hsz13 := hg13.size
              (try simp only [World.size_alloc] at hsz13)
              have HR13 := Lib.hid hrd13
              have HG13 := Lib.hid (((HG3.out).trans (World.grownBy_alloc _ (.cells #[.int .i64 (-1), .int .i64 T, .int .i64 (T - 1)] 3) _)).trans hg13)
              have ho13_11 := own_pick2 (own_lit w3 [-1, T, T - 1] (g + 1) 3 rfl (by omega) (by first | omega | (simp; omega))) hg13 (by omega)
              (try simp only [World.size_alloc] at ho13_11)
              have HO13_11 := Lib.hid ho13_11
              clear ho13_11
              have hc13_15 : w13.cell? ⟨w3.heap.size, j13, none⟩ = some (.int .i64 u13) := own_elem HO13_11.out HJ13.out
              clear hrd13 hg13 hg13'
              clear hj13
              (try go_wp2_with fail)
              refine hK.out _ _ ?_ (fun hHeld102 => ?_)
              · (try dsimp only)
                all_goals (((repeat' apply And.intro) <;> first | trivial | assumption | (exact (World.cell?_alloc_lt _ _ _ (by first | omega | (simp <;> omega) | (simp only; omega))).trans (by assumption)) | go_simp | go_keep))
              clear hK K
              (try clear hHeld91)
              (try simp only [Act.put, List.setIfInBounds_toArray, List.set_cons_zero, List.set_cons_succ])
              refine wpAnyH_take (i := 14) (oi := { dst := some 28, op := _, type := _, pos := _, after := _, guard := _ }) (v := ?v103) rfl (by kernel_rfl) (by kernel_rfl) (by kernel_rfl) (fun _ _ _ h => h) (Or.inl ⟨by rfl, ?hy103⟩) (by first | assumption | exact hHeld102) ?rest103
              case hy103 => ((intro w0 hSw; (try dsimp only at hSw); go_simp) <;> with_reducible rfl)
              (try simp only [Act.put, List.setIfInBounds_toArray, List.set_cons_zero, List.set_cons_succ])
              have hs15 : (w13).cell? ⟨w3.heap.size, j13, none⟩ = some (.int .i64 u13) := by have := HO13_11.out; (try simp only [World.size_alloc] at this); exact own_elem this HJ13.out
              refine wpAnyH_strong (S' := (fun w' => w'.cell? ⟨w3.heap.size, j13, none⟩ = some (.int .i64 u13) ∧ ((fun _ => True) w'))) (fun _ h => h.2) _ _ _ _ ?_
              have hHeld104 := And.intro hs15 hHeld102
              refine wpAnyH_take (i := 15) (oi := { dst := some 29, op := _, type := _, pos := _, after := _, guard := _ }) (v := ?v105) rfl (by kernel_rfl) (by kernel_rfl) (by kernel_rfl) (fun _ _ _ h => h) (Or.inl ⟨by rfl, ?hy105⟩) (by first | assumption | exact hHeld104) ?rest105
              case hy105 => ((intro w0 hSw; (try dsimp only at hSw); go_simp) <;> with_reducible rfl)
              (try simp only [Act.put, List.setIfInBounds_toArray, List.set_cons_zero, List.set_cons_succ])
              refine wpAnyH_ready (rs := [1]) (by kernel_rfl) (by simp) ?_
              refine AllReadyH.cons (o := { dst := some 15, op := _, type := _, pos := _, after := _, guard := _ }) rfl (fun K hK => ?_) ?_
              · go_simp
                refine hK.out _ _ ?_ (fun hHeld106 => ?_)
                · (try dsimp only)
                  all_goals (((repeat' apply And.intro) <;> first | trivial | assumption | (exact (World.cell?_alloc_lt _ _ _ (by first | omega | (simp <;> omega) | (simp only; omega))).trans (by assumption)) | go_simp | go_keep))
                clear hK K
                (try clear hHeld104)
                (try simp only [Act.put, List.setIfInBounds_toArray, List.set_cons_zero, List.set_cons_succ])
                refine wpAnyH_take (i := 4) (oi := { dst := some 18, op := _, type := _, pos := _, after := _, guard := _ }) (v := ?v107) rfl (by kernel_rfl) (by kernel_rfl) (by kernel_rfl) (fun _ _ _ h => h) (Or.inl ⟨by rfl, ?hy107⟩) (by first | assumption | exact hHeld106) ?rest107
                case hy107 => ((intro w0 hSw; (try dsimp only at hSw); go_simp) <;> with_reducible rfl)
                (try simp only [Act.put, List.setIfInBounds_toArray, List.set_cons_zero, List.set_cons_succ])
                have hs5 : (w13.alloc (.cells #[.int .i64 0, .int .i64 7, .int .i64 (1 + v1)] 3)).cell? ⟨w13.heap.size, j3, none⟩ = some (.int .i64 u3) := by have := own_lit w13 [0, 7, 1 + v1] (g + 1) 3 rfl (by omega) (by first | omega | (simp; omega)); (try simp only [World.size_alloc] at this); exact own_elem this HJ3.out
                refine wpAnyH_strong (S' := (fun w' => w'.cell? ⟨w13.heap.size, j3, none⟩ = some (.int .i64 u3) ∧ ((fun w' => w'.cell? ⟨w3.heap.size, j13, none⟩ = some (.int .i64 u13) ∧ ((fun _ => True) w')) w'))) (fun _ h => h.2) _ _ _ _ ?_
                have hHeld108 := And.intro hs5 hHeld106
                refine wpAnyH_take (i := 5) (oi := { dst := some 19, op := _, type := _, pos := _, after := _, guard := _ }) (v := ?v109) rfl (by kernel_rfl) (by kernel_rfl) (by kernel_rfl) (fun _ _ _ h => h) (Or.inl ⟨by rfl, ?hy109⟩) (by first | assumption | exact hHeld108) ?rest109
                case hy109 => ((intro w0 hSw; (try dsimp only at hSw); go_simp) <;> with_reducible rfl)
                (try simp only [Act.put, List.setIfInBounds_toArray, List.set_cons_zero, List.set_cons_succ])
                refine wpAnyH_take (i := 16) (oi := { dst := some 2, op := _, type := _, pos := _, after := _, guard := _ }) (v := ?v110) rfl (by kernel_rfl) (by kernel_rfl) (by kernel_rfl) (fun _ _ _ h => h) (Or.inl ⟨by rfl, ?hy110⟩) (by first | assumption | exact hHeld108) ?rest110
                case hy110 => ((intro w0 hSw; (try dsimp only at hSw); go_simp) <;> with_reducible rfl)
                (try simp only [Act.put, List.setIfInBounds_toArray, List.set_cons_zero, List.set_cons_succ])
                refine wpAnyH_take (i := 17) (oi := { dst := some 3, op := _, type := _, pos := _, after := _, guard := _ }) (v := ?v111) rfl (by kernel_rfl) (by kernel_rfl) (by kernel_rfl) (fun _ _ _ h => h) (Or.inl ⟨by rfl, ?hy111⟩) (by first | assumption | exact hHeld108) ?rest111
                case hy111 => ((intro w0 hSw; (try dsimp only at hSw); go_simp) <;> with_reducible rfl)
                (try simp only [Act.put, List.setIfInBounds_toArray, List.set_cons_zero, List.set_cons_succ])
                refine wpAnyH_done (by kernel_rfl) ?_ _
                go_wp2
                go_ret2
                obtain ⟨m1, m2⟩ := mem_bd (a := 0) (b := 7) HJ3.out (by intro x hx; simp at hx; omega)
                obtain ⟨m3, m4⟩ := mem_bd (a := -1) (b := 1000000) HJ13.out (by intro x hx; simp at hx; omega)
                exact ⟨_, _, rfl, m1, m2, m3, m4, by have hh := HG0.out; rw [hh]; exact HB.out.trans ((base_in ((HG13.out).trans (World.grownBy_alloc _ (.cells #[.int .i64 0, .int .i64 7, .int .i64 (1 + v1)] 3) _)) (Nat.le_refl _) (by omega)))⟩
              exact AllReadyH.nil
            exact AllReadyH.nil
          refine AllReadyH.cons (o := { dst := some 27, op := _, type := _, pos := _, after := _, guard := _ }) rfl (fun K hK => ?_) ?_
          · go_simp
            refine (pick_any _ _ _ _ _ (HR3.out) (by omega)).mono ?_
            rintro e w13 ⟨v13, rfl, hv13, hrd13, hg13'⟩
            obtain ⟨hva13, hvb13⟩ := hv13 (by omega)
            clear hv13
            obtain ⟨j13, u13, rfl, hj13, -⟩ := fr_pick_mem (us := [-1, T, T - 1]) (n := 3) rfl (by omega) hva13 hvb13
            have HJ13 := Lib.hid hj13
            have hg13 : (w3).grownBy w13 (some g) := ⟨hg13'.os, hg13'.tape, hg13'.output, hg13'.size, hg13'.block⟩
            have hsz13 := hg13.size
            (try simp only [World.size_alloc] at hsz13)
            have HR13 := Lib.hid hrd13
            have HG13 := Lib.hid ((HG3.out).trans hg13)
            clear hrd13 hg13 hg13'
            clear hj13
            (try go_wp2_with fail)
            refine hK.out _ _ ?_ (fun hHeld112 => ?_)
            · (try dsimp only)
              all_goals (((repeat' apply And.intro) <;> first | trivial | assumption | (exact (World.cell?_alloc_lt _ _ _ (by first | omega | (simp <;> omega) | (simp only; omega))).trans (by assumption)) | go_simp | go_keep))
            clear hK K
            (try clear hHeld71)
            (try simp only [Act.put, List.setIfInBounds_toArray, List.set_cons_zero, List.set_cons_succ])
            refine wpAnyH_ready (rs := [1, 11]) (by kernel_rfl) (by simp) ?_
            refine AllReadyH.cons (o := { dst := some 15, op := _, type := _, pos := _, after := _, guard := _ }) rfl (fun K hK => ?_) ?_
            · go_simp
              refine hK.out _ _ ?_ (fun hHeld113 => ?_)
              · (try dsimp only)
                all_goals (((repeat' apply And.intro) <;> first | trivial | assumption | (exact (World.cell?_alloc_lt _ _ _ (by first | omega | (simp <;> omega) | (simp only; omega))).trans (by assumption)) | go_simp | go_keep))
              clear hK K
              (try clear hHeld112)
              (try simp only [Act.put, List.setIfInBounds_toArray, List.set_cons_zero, List.set_cons_succ])
              refine wpAnyH_take (i := 4) (oi := { dst := some 18, op := _, type := _, pos := _, after := _, guard := _ }) (v := ?v114) rfl (by kernel_rfl) (by kernel_rfl) (by kernel_rfl) (fun _ _ _ h => h) (Or.inl ⟨by rfl, ?hy114⟩) (by first | assumption | exact hHeld113) ?rest114
              case hy114 => ((intro w0 hSw; (try dsimp only at hSw); go_simp) <;> with_reducible rfl)
              (try simp only [Act.put, List.setIfInBounds_toArray, List.set_cons_zero, List.set_cons_succ])
              have hs5 : (w13.alloc (.cells #[.int .i64 0, .int .i64 7, .int .i64 (1 + v1)] 3)).cell? ⟨w13.heap.size, j3, none⟩ = some (.int .i64 u3) := by have := own_lit w13 [0, 7, 1 + v1] (g + 1) 3 rfl (by omega) (by first | omega | (simp; omega)); (try simp only [World.size_alloc] at this); exact own_elem this HJ3.out
              refine wpAnyH_strong (S' := (fun w' => w'.cell? ⟨w13.heap.size, j3, none⟩ = some (.int .i64 u3) ∧ ((fun _ => True) w'))) (fun _ h => h.2) _ _ _ _ ?_
              have hHeld115 := And.intro hs5 hHeld113
              refine wpAnyH_take (i := 5) (oi := { dst := some 19, op := _, type := _, pos := _, after := _, guard := _ }) (v := ?v116) rfl (by kernel_rfl) (by kernel_rfl) (by kernel_rfl) (fun _ _ _ h => h) (Or.inl ⟨by rfl, ?hy116⟩) (by first | assumption | exact hHeld115) ?rest116
              case hy116 => ((intro w0 hSw; (try dsimp only at hSw); go_simp) <;> with_reducible rfl)
              (try simp only [Act.put, List.setIfInBounds_toArray, List.set_cons_zero, List.set_cons_succ])
              refine wpAnyH_take (i := 16) (oi := { dst := some 2, op := _, type := _, pos := _, after := _, guard := _ }) (v := ?v117) rfl (by kernel_rfl) (by kernel_rfl) (by kernel_rfl) (fun _ _ _ h => h) (Or.inl ⟨by rfl, ?hy117⟩) (by first | assumption | exact hHeld115) ?rest117
              case hy117 => ((intro w0 hSw; (try dsimp only at hSw); go_simp) <;> with_reducible rfl)
              (try simp only [Act.put, List.setIfInBounds_toArray, List.set_cons_zero, List.set_cons_succ])
              refine wpAnyH_ready (rs := [11]) (by kernel_rfl) (by simp) ?_
              refine AllReadyH.cons (o := { dst := some 25, op := _, type := _, pos := _, after := _, guard := _ }) rfl (fun K hK => ?_) ?_
              · go_simp
                refine hK.out _ _ ?_ (fun hHeld118 => ?_)
                · (try dsimp only)
                  all_goals (((repeat' apply And.intro) <;> first | trivial | assumption | (exact (World.cell?_alloc_lt _ _ _ (by first | omega | (simp <;> omega) | (simp only; omega))).trans (by assumption)) | go_simp | go_keep))
                clear hK K
                (try clear hHeld115)
                (try simp only [Act.put, List.setIfInBounds_toArray, List.set_cons_zero, List.set_cons_succ])
                refine wpAnyH_take (i := 14) (oi := { dst := some 28, op := _, type := _, pos := _, after := _, guard := _ }) (v := ?v119) rfl (by kernel_rfl) (by kernel_rfl) (by kernel_rfl) (fun _ _ _ h => h) (Or.inl ⟨by rfl, ?hy119⟩) (by first | assumption | exact hHeld118) ?rest119
                case hy119 => ((intro w0 hSw; (try dsimp only at hSw); go_simp) <;> with_reducible rfl)
                (try simp only [Act.put, List.setIfInBounds_toArray, List.set_cons_zero, List.set_cons_succ])
                have hs15 : ((w13.alloc (.cells #[.int .i64 0, .int .i64 7, .int .i64 (1 + v1)] 3)).alloc (.cells #[.int .i64 (-1), .int .i64 T, .int .i64 (T - 1)] 3)).cell? ⟨w13.heap.size + 1, j13, none⟩ = some (.int .i64 u13) := by have := own_lit (w13.alloc (.cells #[.int .i64 0, .int .i64 7, .int .i64 (1 + v1)] 3)) [-1, T, T - 1] (g + 1) 3 rfl (by omega) (by first | omega | (simp; omega)); (try simp only [World.size_alloc] at this); exact own_elem this HJ13.out
                refine wpAnyH_strong (S' := (fun w' => w'.cell? ⟨w13.heap.size + 1, j13, none⟩ = some (.int .i64 u13) ∧ ((fun w' => w'.cell? ⟨w13.heap.size, j3, none⟩ = some (.int .i64 u3) ∧ ((fun _ => True) w')) w'))) (fun _ h => h.2) _ _ _ _ ?_
                have hHeld120 := And.intro hs15 hHeld118
                refine wpAnyH_take (i := 15) (oi := { dst := some 29, op := _, type := _, pos := _, after := _, guard := _ }) (v := ?v121) rfl (by kernel_rfl) (by kernel_rfl) (by kernel_rfl) (fun _ _ _ h => h) (Or.inl ⟨by rfl, ?hy121⟩) (by first | assumption | exact hHeld120) ?rest121
                case hy121 => ((intro w0 hSw; (try dsimp only at hSw); go_simp) <;> with_reducible rfl)
                (try simp only [Act.put, List.setIfInBounds_toArray, List.set_cons_zero, List.set_cons_succ])
                refine wpAnyH_take (i := 17) (oi := { dst := some 3, op := _, type := _, pos := _, after := _, guard := _ }) (v := ?v122) rfl (by kernel_rfl) (by kernel_rfl) (by kernel_rfl) (fun _ _ _ h => h) (Or.inl ⟨by rfl, ?hy122⟩) (by first | assumption | exact hHeld120) ?rest122
                case hy122 => ((intro w0 hSw; (try dsimp only at hSw); go_simp) <;> with_reducible rfl)
                (try simp only [Act.put, List.setIfInBounds_toArray, List.set_cons_zero, List.set_cons_succ])
                refine wpAnyH_done (by kernel_rfl) ?_ _
                go_wp2
                go_ret2
                obtain ⟨m1, m2⟩ := mem_bd (a := 0) (b := 7) HJ3.out (by intro x hx; simp at hx; omega)
                obtain ⟨m3, m4⟩ := mem_bd (a := -1) (b := 1000000) HJ13.out (by intro x hx; simp at hx; omega)
                exact ⟨_, _, rfl, m1, m2, m3, m4, by have hh := HG0.out; rw [hh]; exact HB.out.trans ((base_in (((HG13.out).trans (World.grownBy_alloc _ (.cells #[.int .i64 0, .int .i64 7, .int .i64 (1 + v1)] 3) _)).trans (World.grownBy_alloc _ (.cells #[.int .i64 (-1), .int .i64 T, .int .i64 (T - 1)] 3) _)) (Nat.le_refl _) (by omega)))⟩
              exact AllReadyH.nil
            refine AllReadyH.cons (o := { dst := some 25, op := _, type := _, pos := _, after := _, guard := _ }) rfl (fun K hK => ?_) ?_
            · go_simp
              refine hK.out _ _ ?_ (fun hHeld123 => ?_)
              · (try dsimp only)
                all_goals (((repeat' apply And.intro) <;> first | trivial | assumption | (exact (World.cell?_alloc_lt _ _ _ (by first | omega | (simp <;> omega) | (simp only; omega))).trans (by assumption)) | go_simp | go_keep))
              clear hK K
              (try clear hHeld112)
              (try simp only [Act.put, List.setIfInBounds_toArray, List.set_cons_zero, List.set_cons_succ])
              refine wpAnyH_take (i := 14) (oi := { dst := some 28, op := _, type := _, pos := _, after := _, guard := _ }) (v := ?v124) rfl (by kernel_rfl) (by kernel_rfl) (by kernel_rfl) (fun _ _ _ h => h) (Or.inl ⟨by rfl, ?hy124⟩) (by first | assumption | exact hHeld123) ?rest124
              case hy124 => ((intro w0 hSw; (try dsimp only at hSw); go_simp) <;> with_reducible rfl)
              (try simp only [Act.put, List.setIfInBounds_toArray, List.set_cons_zero, List.set_cons_succ])
              have hs15 : (w13.alloc (.cells #[.int .i64 (-1), .int .i64 T, .int .i64 (T - 1)] 3)).cell? ⟨w13.heap.size, j13, none⟩ = some (.int .i64 u13) := by have := own_lit w13 [-1, T, T - 1] (g + 1) 3 rfl (by omega) (by first | omega | (simp; omega)); (try simp only [World.size_alloc] at this); exact own_elem this HJ13.out
              refine wpAnyH_strong (S' := (fun w' => w'.cell? ⟨w13.heap.size, j13, none⟩ = some (.int .i64 u13) ∧ ((fun _ => True) w'))) (fun _ h => h.2) _ _ _ _ ?_
              have hHeld125 := And.intro hs15 hHeld123
              refine wpAnyH_take (i := 15) (oi := { dst := some 29, op := _, type := _, pos := _, after := _, guard := _ }) (v := ?v126) rfl (by kernel_rfl) (by kernel_rfl) (by kernel_rfl) (fun _ _ _ h => h) (Or.inl ⟨by rfl, ?hy126⟩) (by first | assumption | exact hHeld125) ?rest126
              case hy126 => ((intro w0 hSw; (try dsimp only at hSw); go_simp) <;> with_reducible rfl)
              (try simp only [Act.put, List.setIfInBounds_toArray, List.set_cons_zero, List.set_cons_succ])
              refine wpAnyH_ready (rs := [1]) (by kernel_rfl) (by simp) ?_
              refine AllReadyH.cons (o := { dst := some 15, op := _, type := _, pos := _, after := _, guard := _ }) rfl (fun K hK => ?_) ?_
              · go_simp
                refine hK.out _ _ ?_ (fun hHeld127 => ?_)
                · (try dsimp only)
                  all_goals (((repeat' apply And.intro) <;> first | trivial | assumption | (exact (World.cell?_alloc_lt _ _ _ (by first | omega | (simp <;> omega) | (simp only; omega))).trans (by assumption)) | go_simp | go_keep))
                clear hK K
                (try clear hHeld125)
                (try simp only [Act.put, List.setIfInBounds_toArray, List.set_cons_zero, List.set_cons_succ])
                refine wpAnyH_take (i := 4) (oi := { dst := some 18, op := _, type := _, pos := _, after := _, guard := _ }) (v := ?v128) rfl (by kernel_rfl) (by kernel_rfl) (by kernel_rfl) (fun _ _ _ h => h) (Or.inl ⟨by rfl, ?hy128⟩) (by first | assumption | exact hHeld127) ?rest128
                case hy128 => ((intro w0 hSw; (try dsimp only at hSw); go_simp) <;> with_reducible rfl)
                (try simp only [Act.put, List.setIfInBounds_toArray, List.set_cons_zero, List.set_cons_succ])
                have hs5 : ((w13.alloc (.cells #[.int .i64 (-1), .int .i64 T, .int .i64 (T - 1)] 3)).alloc (.cells #[.int .i64 0, .int .i64 7, .int .i64 (1 + v1)] 3)).cell? ⟨w13.heap.size + 1, j3, none⟩ = some (.int .i64 u3) := by have := own_lit (w13.alloc (.cells #[.int .i64 (-1), .int .i64 T, .int .i64 (T - 1)] 3)) [0, 7, 1 + v1] (g + 1) 3 rfl (by omega) (by first | omega | (simp; omega)); (try simp only [World.size_alloc] at this); exact own_elem this HJ3.out
                refine wpAnyH_strong (S' := (fun w' => w'.cell? ⟨w13.heap.size + 1, j3, none⟩ = some (.int .i64 u3) ∧ ((fun w' => w'.cell? ⟨w13.heap.size, j13, none⟩ = some (.int .i64 u13) ∧ ((fun _ => True) w')) w'))) (fun _ h => h.2) _ _ _ _ ?_
                have hHeld129 := And.intro hs5 hHeld127
                refine wpAnyH_take (i := 5) (oi := { dst := some 19, op := _, type := _, pos := _, after := _, guard := _ }) (v := ?v130) rfl (by kernel_rfl) (by kernel_rfl) (by kernel_rfl) (fun _ _ _ h => h) (Or.inl ⟨by rfl, ?hy130⟩) (by first | assumption | exact hHeld129) ?rest130
                case hy130 => ((intro w0 hSw; (try dsimp only at hSw); go_simp) <;> with_reducible rfl)
                (try simp only [Act.put, List.setIfInBounds_toArray, List.set_cons_zero, List.set_cons_succ])
                refine wpAnyH_take (i := 16) (oi := { dst := some 2, op := _, type := _, pos := _, after := _, guard := _ }) (v := ?v131) rfl (by kernel_rfl) (by kernel_rfl) (by kernel_rfl) (fun _ _ _ h => h) (Or.inl ⟨by rfl, ?hy131⟩) (by first | assumption | exact hHeld129) ?rest131
                case hy131 => ((intro w0 hSw; (try dsimp only at hSw); go_simp) <;> with_reducible rfl)
                (try simp only [Act.put, List.setIfInBounds_toArray, List.set_cons_zero, List.set_cons_succ])
                refine wpAnyH_take (i := 17) (oi := { dst := some 3, op := _, type := _, pos := _, after := _, guard := _ }) (v := ?v132) rfl (by kernel_rfl) (by kernel_rfl) (by kernel_rfl) (fun _ _ _ h => h) (Or.inl ⟨by rfl, ?hy132⟩) (by first | assumption | exact hHeld129) ?rest132
                case hy132 => ((intro w0 hSw; (try dsimp only at hSw); go_simp) <;> with_reducible rfl)
                (try simp only [Act.put, List.setIfInBounds_toArray, List.set_cons_zero, List.set_cons_succ])
                refine wpAnyH_done (by kernel_rfl) ?_ _
                go_wp2
                go_ret2
                obtain ⟨m1, m2⟩ := mem_bd (a := 0) (b := 7) HJ3.out (by intro x hx; simp at hx; omega)
                obtain ⟨m3, m4⟩ := mem_bd (a := -1) (b := 1000000) HJ13.out (by intro x hx; simp at hx; omega)
                exact ⟨_, _, rfl, m1, m2, m3, m4, by have hh := HG0.out; rw [hh]; exact HB.out.trans ((base_in (((HG13.out).trans (World.grownBy_alloc _ (.cells #[.int .i64 (-1), .int .i64 T, .int .i64 (T - 1)] 3) _)).trans (World.grownBy_alloc _ (.cells #[.int .i64 0, .int .i64 7, .int .i64 (1 + v1)] 3) _)) (Nat.le_refl _) (by omega)))⟩
              exact AllReadyH.nil
            exact AllReadyH.nil
          exact AllReadyH.nil
        exact AllReadyH.nil
      exact AllReadyH.nil
    exact AllReadyH.nil
  · have h0' : (v2 == 0) = false := by simpa using h0
    have hne : ¬ T = 0 := by omega
    have T2 : (T == 0) = false := by simp; omega
    go_wp2_with fail
    refine wp_region_held_drew (S := (fun _ => True)) (by kernel_rfl) ?_ (fun hHeld => ?_)
    · (try dsimp only)
      all_goals (((repeat' apply And.intro) <;> first | trivial | assumption | (exact (World.cell?_alloc_lt _ _ _ (by first | omega | (simp <;> omega) | (simp only; omega))).trans (by assumption)) | go_simp | go_keep))
    refine wpAnyH_take (i := 0) (oi := { dst := some 30, op := _, type := _, pos := _, after := _, guard := _ }) (v := ?v9001) rfl (by kernel_rfl) (by kernel_rfl) (by kernel_rfl) (fun _ _ _ h => h) (Or.inl ⟨by rfl, ?hy9001⟩) (by first | assumption | exact hHeld) ?rest9001
    case hy9001 => ((intro w0 hSw; (try dsimp only at hSw); go_simp) <;> with_reducible rfl)
    (try simp only [Act.put, List.setIfInBounds_toArray, List.set_cons_zero, List.set_cons_succ])
    refine wpAnyH_take (i := 1) (oi := { dst := some 31, op := _, type := _, pos := _, after := _, guard := _ }) (v := ?v9002) rfl (by kernel_rfl) (by kernel_rfl) (by kernel_rfl) (fun _ _ _ h => h) (Or.inl ⟨by rfl, ?hy9002⟩) (by first | assumption | exact hHeld) ?rest9002
    case hy9002 => ((intro w0 hSw; (try dsimp only at hSw); go_simp) <;> with_reducible rfl)
    (try simp only [Act.put, List.setIfInBounds_toArray, List.set_cons_zero, List.set_cons_succ])
    refine wpAnyH_take (i := 3) (oi := { dst := some 33, op := _, type := _, pos := _, after := _, guard := _ }) (v := ?v9003) rfl (by kernel_rfl) (by kernel_rfl) (by kernel_rfl) (fun _ _ _ h => h) (Or.inl ⟨by rfl, ?hy9003⟩) (by first | assumption | exact hHeld) ?rest9003
    case hy9003 => ((intro w0 hSw; (try dsimp only at hSw); go_simp) <;> with_reducible rfl)
    (try simp only [Act.put, List.setIfInBounds_toArray, List.set_cons_zero, List.set_cons_succ])
    refine wpAnyH_ready (rs := [2]) (by kernel_rfl) (by simp) ?_
    refine AllReadyH.cons (o := { dst := some 32, op := _, type := _, pos := _, after := _, guard := _ }) rfl (fun K hK => ?_) ?_
    · go_simp
      refine (pick_any _ _ _ _ _ (HR.out).drew (by omega)).mono ?_
      rintro e wb2 ⟨v2, rfl, hv2, hrd2, hg2'⟩
      obtain ⟨hva2, hvb2⟩ := hv2 (by omega)
      clear hv2
      have hg2 : (w2).grownBy wb2 (some g) := ⟨hg2'.os, hg2'.tape, hg2'.output, hg2'.size, hg2'.block⟩
      have hsz2 := hg2.size
      (try simp only [World.size_alloc] at hsz2)
      have HRb2 := Lib.hid hrd2
      have HGb2 := Lib.hid ((HG.out).trans hg2)
      clear hrd2 hg2 hg2'
      skip
      (try go_wp2_with fail)
      refine hK.out _ _ ?_ (fun hHeld9004 => ?_)
      · (try dsimp only)
        all_goals (((repeat' apply And.intro) <;> first | trivial | assumption | (exact (World.cell?_alloc_lt _ _ _ (by first | omega | (simp <;> omega) | (simp only; omega))).trans (by assumption)) | go_simp | go_keep))
      clear hK K
      (try clear hHeld)
      (try simp only [Act.put, List.setIfInBounds_toArray, List.set_cons_zero, List.set_cons_succ])
      refine wpAnyH_ready (rs := [4]) (by kernel_rfl) (by simp) ?_
      refine AllReadyH.cons (o := { dst := some 34, op := _, type := _, pos := _, after := _, guard := _ }) rfl (fun K hK => ?_) ?_
      · go_simp
        refine (l5Ten_at HK.out hK6 HT.out _).mono ?_
        rintro e w9 ⟨rfl, hw9⟩
        subst hw9
        (try go_wp2_with fail)
        refine hK.out _ _ ?_ (fun hHeld9005 => ?_)
        · (try dsimp only)
          all_goals (((repeat' apply And.intro) <;> first | trivial | assumption | (exact (World.cell?_alloc_lt _ _ _ (by first | omega | (simp <;> omega) | (simp only; omega))).trans (by assumption)) | go_simp | go_keep))
        clear hK K
        (try clear hHeld9004)
        (try simp only [Act.put, List.setIfInBounds_toArray, List.set_cons_zero, List.set_cons_succ])
        refine wpAnyH_take (i := 5) (oi := { dst := some 35, op := _, type := _, pos := _, after := _, guard := _ }) (v := ?v9006) rfl (by kernel_rfl) (by kernel_rfl) (by kernel_rfl) (fun _ _ _ h => h) (Or.inl ⟨by rfl, ?hy9006⟩) (by first | assumption | exact hHeld9005) ?rest9006
        case hy9006 => ((intro w0 hSw; (try dsimp only at hSw); go_simp) <;> with_reducible rfl)
        (try simp only [Act.put, List.setIfInBounds_toArray, List.set_cons_zero, List.set_cons_succ])
        refine wpAnyH_take (i := 6) (oi := { dst := some 2, op := _, type := _, pos := _, after := _, guard := _ }) (v := ?v9007) rfl (by kernel_rfl) (by kernel_rfl) (by kernel_rfl) (fun _ _ _ h => h) (Or.inl ⟨by rfl, ?hy9007⟩) (by first | assumption | exact hHeld9005) ?rest9007
        case hy9007 => ((intro w0 hSw; (try dsimp only at hSw); go_simp) <;> with_reducible rfl)
        (try simp only [Act.put, List.setIfInBounds_toArray, List.set_cons_zero, List.set_cons_succ])
        refine wpAnyH_take (i := 7) (oi := { dst := some 3, op := _, type := _, pos := _, after := _, guard := _ }) (v := ?v9008) rfl (by kernel_rfl) (by kernel_rfl) (by kernel_rfl) (fun _ _ _ h => h) (Or.inl ⟨by rfl, ?hy9008⟩) (by first | assumption | exact hHeld9005) ?rest9008
        case hy9008 => ((intro w0 hSw; (try dsimp only at hSw); go_simp) <;> with_reducible rfl)
        (try simp only [Act.put, List.setIfInBounds_toArray, List.set_cons_zero, List.set_cons_succ])
        refine wpAnyH_done (by kernel_rfl) ?_ _
        go_wp2
        go_ret2
        have hr0 : 0 ≤ v2.tmod T := Int.tmod_nonneg _ hva2
        have hr1 : v2.tmod T < T := Int.tmod_lt_of_pos _ (by omega)
        exact ⟨_, _, rfl, by omega, by omega, by omega, by omega, by have hh := HG0.out; rw [hh]; exact HB.out.trans ((base_in (HGb2.out) (Nat.le_refl _) (by omega)))⟩
      exact AllReadyH.nil
    exact AllReadyH.nil
end Go.Proofs.YthdoofmfigemoaaGreatDoor
end

section
/-
  FnExecuteFrame returns true for every code: beads are added and taken.
-/
namespace Go.Proofs.YthdoofmfigemoaaGreatDoor.fnExecuteFrame
open Go.RowKit
set_option linter.unusedSimpArgs false

theorem script_eq (v : Int) : (((⟨#[97, 100, 100, 32]⟩ ++ dec v) ++ ⟨#[10, 102, 114, 97, 109, 101, 10, 116, 97, 107, 101, 32]⟩) ++ dec v) ++ ⟨#[10]⟩ = bs (scriptFr v) := by
  show (((bs [97, 100, 100, 32] ++ bs (Lib.itoa v)) ++ bs [10, 102, 114, 97, 109, 101, 10, 116, 97, 107, 101, 32]) ++ bs (Lib.itoa v)) ++ bs [10] = _
  simp only [bs_append]
  congr 1
  simp [scriptFr, wAdd, wTake, wFrame]
theorem answer_eq (es : List Int) (p q : Int) : (((((dec p ++ ⟨#[10]⟩) ++ txt (digText es)) ++ ⟨#[10]⟩) ++ dec q) ++ ⟨#[10]⟩) ++ bs (endL 0 0) = bs (outFr es p q ++ endL 0 0) := by
  show (((((bs (Lib.itoa p) ++ bs [10]) ++ bs (digText es)) ++ bs [10]) ++ bs (Lib.itoa q)) ++ bs [10]) ++ bs (endL 0 0) = _
  simp only [bs_append]
  congr 1
  simp [outFr]
theorem _root_.Go.Proofs.YthdoofmfigemoaaGreatDoor.Max.drew_ {w : World} (h : Max w) : Max w.drew := h
theorem _root_.Go.Proofs.YthdoofmfigemoaaGreatDoor.Pow.drew_ {w : World} (h : Pow w.heap.size w) : Pow w.drew.heap.size w.drew := Pow.below (B := w.heap.size) h ((Below.refl _ _).drew)
set_option maxRecDepth 100000 in
set_option maxHeartbeats 4000000 in
theorem walk (a0 : Option Addr) (len0 cap0 : Nat) (z0 : List Int) (w : World) (w0 : IsRow .u8 w a0 len0 cap0 z0) (hm : Max w) (hp : Pow w.heap.size w) :
    Calls Tryz.prog 6 #[.slice a0 len0 cap0] w fun e w' => e = .returned (.bool true) ∧ Below w.heap.size w w' := by
  by_cases hbig : 1048576 < len0
  · clear w0
    go_enter Tryz.func6, Tryz.ntmps6
    go_wp2
    go_ret
    exact ⟨rfl, Below.refl _ _⟩
  · have HC := Lib.hid (Bytes.of_row w0)
    have HM := Lib.hid hm
    have HP := Lib.hid hp
    have h0w : 0 < w.heap.size := by obtain ⟨m, hm0⟩ := hm; exact World.block_lt_of_cell? w _ hm0
    clear w0 hm hp
    go_enter Tryz.func6, Tryz.ntmps6
    go_wp2_with fail
    refine (DrawFrameOf_any _ _ _ _ HC.out (by omega)).mono ?_
    rintro e w1 ⟨n, v, rfl, hn0, hn1, hv0, hv1, hb1⟩
    have s1 := hb1.size
    have HB1 := Lib.hid hb1
    clear hb1
    go_wp2_with fail
    refine ((FrameOf_yes 4 0 w1 (by omega) (by omega) (by omega) (by decide)).mono fun _ _ q => FrPair.got q (digs_digitsOf 4 0) (digitsOf_length 4 0) (by omega) (by omega)).mono ?_
    rintro e w2 ⟨A, c, A', c', rfl, hg, hb2⟩
    have hz : digitsOf 4 0 = zeros4 := by decide
    rw [hz] at hg
    have s2 := hb2.size
    obtain ⟨w3, hw3⟩ : ∃ V, w2.alloc (.cells #[.slice A 4 c, .slice A' 4 c'] 30) = V := ⟨_, rfl⟩
    have hb3 : Below w2.heap.size w2 w3 := by rw [← hw3]; exact (Below.refl _ _).alloc (Nat.le_refl _) _
    have HX := Lib.hid (show FBox w3 w2.heap.size (.slice A 4 c) (.slice A' 4 c') by rw [← hw3]; exact FBox.new w2 _ _)
    have HG := Lib.hid (hg.next hb3)
    have HB3 := Lib.hid (below_chain (below_chain HB1.out hb2) hb3)
    have HW3 := Lib.hid hw3
    have s3 := hb3.size
    clear hz hg hb2 hb3 hw3
    go_wp2_with fail
    rw [HW3.out]
    have x0 := HX.out.fst
    have x1 := HX.out.snd
    have xl := HX.out.lt
    go_wp2_with fail
    by_cases hv : 0 ≤ v ∧ v < 10000
    · obtain ⟨k, rfl⟩ := Int.eq_ofNat_of_zero_le hv.1
      obtain ⟨es, p, q, hR, hQ, hd, h4, p0, p1, q0, q1⟩ := fr_both (k : Int) hv.1 hv.2
      refine (sum_g HG.out hR).mono ?_
      rintro e w4 ⟨A2, c2, A2', c2', rfl, hg4, hb4⟩
      obtain ⟨P, rfl⟩ := Int.eq_ofNat_of_zero_le p0
      obtain ⟨Q, rfl⟩ := Int.eq_ofNat_of_zero_le q0
      have hk : k ≤ 9999 := by omega
      have hP : P ≤ 1000 := by omega
      have hQ1 : Q ≤ 1000 := by omega
      have HE := Lib.hid (show ∀ w : World, Max w → Pow w.heap.size w → ∀ s : ByteArray, s = bs (scriptFr k) → Calls Tryz.prog 13 #[.string s] w fun e w' => e = .returned (.string (bs (outFr es P Q ++ endL 0 0))) ∧ Below w.heap.size w w' from fun w h1 h2 s h3 => Execute_fr k es P Q w hv.1 hv.2 hR hQ hd h4 p0 p1 q0 q1 h1 h2 h3)
      have HL := Lib.hid hQ
      have HA := Lib.hid (answer_eq es P Q)
      have HS := Lib.hid (script_eq (k : Int))
      have k1 := dec_size (k : Int) (by omega) (by omega)
      have k2 := dec_size (P : Int) (by omega) (by omega)
      have k3 := dec_size (Q : Int) (by omega) (by omega)
      have ht4 : (txt (digText es)).size ≤ 4 := by rw [txt_size, digText_length, h4]; omega
      have hez := endL_size 0 0 (by omega) (by omega) (by omega) (by omega)
      obtain ⟨D, hD⟩ : ∃ D, dec (k : Int) = D := ⟨_, rfl⟩
      obtain ⟨E, hE⟩ : ∃ E, dec (P : Int) = E := ⟨_, rfl⟩
      obtain ⟨F, hF⟩ : ∃ F, dec (Q : Int) = F := ⟨_, rfl⟩
      obtain ⟨T, hT⟩ : ∃ T, txt (digText es) = T := ⟨_, rfl⟩
      obtain ⟨L, hL⟩ : ∃ L, bs (endL 0 0) = L := ⟨_, rfl⟩
      obtain ⟨R, hRR⟩ : ∃ R, bs (outFr es P Q ++ endL 0 0) = R := ⟨_, rfl⟩
      rw [hD] at k1
      rw [hE] at k2
      rw [hF] at k3
      rw [hT] at ht4
      rw [hL] at hez
      have HDD := Lib.hid (show ∀ w : World, Calls Tryz.prog 21 #[.int .i64 (k : Int)] w fun e w' => e = .returned (.string D) ∧ Below w.heap.size w w' from fun w => hD ▸ digits_any k (by omega) w)
      have HDN := Lib.hid (show ∀ (n : Nat), n ≤ 1000 → ∀ w : World, Calls Tryz.prog 21 #[.int .i64 (n : Int)] w fun e w' => e = .returned (.string (dec n)) ∧ Below w.heap.size w w' from fun n hn w => digits_any n (by omega) w)
      have HEE := Lib.hid (And.intro hE (And.intro hF (And.intro hP hQ1)))
      have HDL := Lib.hid (show ∀ w : World, Calls Tryz.prog 23 #[.int .i64 0, .int .i64 0] w fun e w' => e = .returned (.string L) ∧ Below w.heap.size w w' from fun w => hL ▸ endLine_any 0 0 (by omega) (by omega) w)
      rw [hD] at HS
      rw [hE, hF, hT, hL, hRR] at HA
      rw [hRR] at HE
      have HT := Lib.hid hT
      have m1 := no_long (n := 4) (by omega) D.size (by omega)
      have m2 := no_long (n := 4 + D.size) (by omega) 12 (by omega)
      have m3 := no_long (n := 4 + D.size + 12) (by omega) D.size (by omega)
      have m4 := no_long (n := 4 + D.size + 12 + D.size) (by omega) 1 (by omega)
      have m5 := no_long (n := E.size) (by omega) 1 (by omega)
      have m6 := no_long (n := E.size + 1) (by omega) T.size (by omega)
      have m7 := no_long (n := E.size + 1 + T.size) (by omega) 1 (by omega)
      have m8 := no_long (n := E.size + 1 + T.size + 1) (by omega) F.size (by omega)
      have m9 := no_long (n := E.size + 1 + T.size + 1 + F.size) (by omega) 1 (by omega)
      have m10 := no_long (n := E.size + 1 + T.size + 1 + F.size + 1) (by omega) L.size (by omega)
      have HV := Lib.hid hv
      obtain ⟨w5, hw5⟩ : ∃ V, w4.alloc (.cells #[.slice A2 4 c2, .slice A2' 4 c2'] 30) = V := ⟨_, rfl⟩
      have hb5 : Below w4.heap.size w4 w5 := by rw [← hw5]; exact (Below.refl _ _).alloc (Nat.le_refl _) _
      have HX5 := Lib.hid (show FBox w5 w4.heap.size (.slice A2 4 c2) (.slice A2' 4 c2') by rw [← hw5]; exact FBox.new w4 _ _)
      have HG5 := Lib.hid (hg4.next hb5)
      have HB5 := Lib.hid (below_chain (below_chain HB3.out hb4) hb5)
      have HW5 := Lib.hid hw5
      have s4 := hb4.size
      have s5 := hb5.size
      clear hR hQ hd h4 p0 p1 q0 q1 hv hg4 hb4 hb5 hw5 x0 x1 xl hD hE hF hT hL hRR hP hQ1
      go_wp2_with fail
      rw [HW5.out]
      have y0 := HX5.out.fst
      have y1 := HX5.out.snd
      have yl := HX5.out.lt
      go_wp2_with fail
      refine (less_g HG5.out HL.out).mono ?_
      rintro e w6 ⟨A3, c3, A3', c3', rfl, hg6, hb6⟩
      obtain ⟨w7, hw7⟩ : ∃ V, w6.alloc (.cells #[.slice A3 4 c3, .slice A3' 4 c3'] 30) = V := ⟨_, rfl⟩
      have hb7 : Below w5.heap.size w5 w7 := by rw [← hw7]; exact hb6.alloc hb6.size _
      have HB7 := Lib.hid (below_chain HB5.out hb7)
      have HG7 := Lib.hid (HG5.out.next hb7)
      have HX7 := Lib.hid (HX5.out.next hb7)
      have HW7 := Lib.hid hw7
      clear hg6 hb6 hb7 hw7 y0 y1 yl
      go_wp2_with fail
      rw [HW7.out]
      go_wp2_with fail
      refine (HDD.out _).mono ?_
      rintro e w8 ⟨rfl, hb8⟩
      have HB8 := Lib.hid hb8
      clear hb8
      go_wp2_with fail
      refine (HDD.out _).mono ?_
      rintro e w9 ⟨rfl, hb9⟩
      have hb9' := HB8.out.trans (hb9.mono HB8.out.size)
      have HB9 := Lib.hid (below_chain HB7.out hb9')
      have HG9 := Lib.hid (HG7.out.next hb9')
      have HX9 := Lib.hid (HX7.out.next hb9')
      have z0 := HX9.out.fst
      have z1 := HX9.out.snd
      have zl := HX9.out.lt
      have HM9 := Lib.hid (show Max w9 from by obtain ⟨m, hm⟩ := HM.out; exact ⟨m, (HB9.out.cell (p := ⟨0, 0, none⟩) h0w).trans hm⟩)
      have HP9 := Lib.hid (show Pow w9.heap.size w9 from fun w' hb => HP.out w' (HB9.out.trans (hb.mono HB9.out.size)))
      clear hb9 hb9'
      go_wp2_with fail
      --<R
      refine wp_region_held_drew (S := (fun w' => w'.cell? ⟨w4.heap.size, 0, none⟩ = some (.slice A2 4 c2) ∧ w'.cell? ⟨w4.heap.size, 1, none⟩ = some (.slice A2' 4 c2'))) (by kernel_rfl) ?_ (fun hHeld => ?_)
      · (try dsimp only)
        all_goals (first | (constructor <;> go_simp) | go_keep)
      refine wpAnyH_take (i := 0) (oi := { dst := some 60, op := _, type := _, pos := _, after := _, guard := _ }) (v := ?v1) rfl (by kernel_rfl) (by kernel_rfl) (by kernel_rfl) (fun _ _ _ h => h) (Or.inl ⟨by rfl, ?hy1⟩) (by first | assumption | exact hHeld) ?rest1
      case hy1 => ((intro w0 hSw; (try dsimp only at hSw); go_simp) <;> with_reducible rfl)
      (try simp only [Act.put, List.setIfInBounds_toArray, List.set_cons_zero, List.set_cons_succ])
      refine wpAnyH_take (i := 1) (oi := { dst := some 61, op := _, type := _, pos := _, after := _, guard := _ }) (v := ?v2) rfl (by kernel_rfl) (by kernel_rfl) (by kernel_rfl) (fun _ _ _ h => h) (Or.inl ⟨by rfl, ?hy2⟩) (by first | assumption | exact hHeld) ?rest2
      case hy2 => ((intro w0 hSw; (try dsimp only at hSw); go_simp) <;> with_reducible rfl)
      (try simp only [Act.put, List.setIfInBounds_toArray, List.set_cons_zero, List.set_cons_succ])
      refine wpAnyH_take (i := 2) (oi := { dst := some 62, op := _, type := _, pos := _, after := _, guard := _ }) (v := ?v3) rfl (by kernel_rfl) (by kernel_rfl) (by kernel_rfl) (fun _ _ _ h => h) (Or.inl ⟨by rfl, ?hy3⟩) (by first | assumption | exact hHeld) ?rest3
      case hy3 => ((intro w0 hSw; (try dsimp only at hSw); go_simp) <;> with_reducible rfl)
      (try simp only [Act.put, List.setIfInBounds_toArray, List.set_cons_zero, List.set_cons_succ])
      refine wpAnyH_take (i := 4) (oi := { dst := some 64, op := _, type := _, pos := _, after := _, guard := _ }) (v := ?v4) rfl (by kernel_rfl) (by kernel_rfl) (by kernel_rfl) (fun _ _ _ h => h) (Or.inl ⟨by rfl, ?hy4⟩) (by first | assumption | exact hHeld) ?rest4
      case hy4 => ((intro w0 hSw; (try dsimp only at hSw); go_simp) <;> with_reducible rfl)
      (try simp only [Act.put, List.setIfInBounds_toArray, List.set_cons_zero, List.set_cons_succ])
      refine wpAnyH_take (i := 7) (oi := { dst := some 67, op := _, type := _, pos := _, after := _, guard := _ }) (v := ?v5) rfl (by kernel_rfl) (by kernel_rfl) (by kernel_rfl) (fun _ _ _ h => h) (Or.inl ⟨by rfl, ?hy5⟩) (by first | assumption | exact hHeld) ?rest5
      case hy5 => ((intro w0 hSw; (try dsimp only at hSw); go_simp) <;> with_reducible rfl)
      (try simp only [Act.put, List.setIfInBounds_toArray, List.set_cons_zero, List.set_cons_succ])
      refine wpAnyH_take (i := 11) (oi := { dst := some 71, op := _, type := _, pos := _, after := _, guard := _ }) (v := ?v6) rfl (by kernel_rfl) (by kernel_rfl) (by kernel_rfl) (fun _ _ _ h => h) (Or.inl ⟨by rfl, ?hy6⟩) (by first | assumption | exact hHeld) ?rest6
      case hy6 => ((intro w0 hSw; (try dsimp only at hSw); go_simp) <;> with_reducible rfl)
      (try simp only [Act.put, List.setIfInBounds_toArray, List.set_cons_zero, List.set_cons_succ])
      refine wpAnyH_ready (rs := [3]) (by kernel_rfl) (by simp) ?_
      refine AllReadyH.cons (o := { dst := some 63, op := _, type := _, pos := _, after := _, guard := _ }) rfl (fun K hK => ?_) ?_
      · go_simp
        rw [HS.out]
        refine (HE.out _ HM9.out.drew_ HP9.out.drew_ _ rfl).mono ?_
        rintro e w10 ⟨rfl, hb10'⟩
        have hb10 := (Below.refl w9.heap.size w9).drew.trans hb10'
        have a0 := (HX9.out.next hb10).fst
        have a1 := (HX9.out.next hb10).snd
        have HB10 := Lib.hid hb10
        clear hb10 hb10'
        refine hK.out _ _ ?_ (fun hHeld7 => ?_)
        · (try dsimp only)
          all_goals (first | (constructor <;> go_simp) | go_keep)
        clear hK K
        (try clear hHeld)
        (try simp only [Act.put, List.setIfInBounds_toArray, List.set_cons_zero, List.set_cons_succ])
        refine wpAnyH_ready (rs := [5]) (by kernel_rfl) (by simp) ?_
        refine AllReadyH.cons (o := { dst := some 65, op := _, type := _, pos := _, after := _, guard := _ }) rfl (fun K hK => ?_) ?_
        · go_simp
          refine (HDN.out P HEE.out.2.2.1 _).mono ?_
          rw [HEE.out.1]
          rintro e w11 ⟨rfl, hb11'⟩
          have hb11 := HB10.out.trans (hb11'.mono HB10.out.size)
          have b0 := (HX9.out.next hb11).fst
          have b1 := (HX9.out.next hb11).snd
          have HB11 := Lib.hid hb11
          clear hb11 hb11'
          refine hK.out _ _ ?_ (fun hHeld8 => ?_)
          · (try dsimp only)
            all_goals (first | (constructor <;> go_simp) | go_keep)
          clear hK K
          (try clear hHeld7)
          (try simp only [Act.put, List.setIfInBounds_toArray, List.set_cons_zero, List.set_cons_succ])
          refine wpAnyH_take (i := 6) (oi := { dst := some 66, op := _, type := _, pos := _, after := _, guard := _ }) (v := ?v9) rfl (by kernel_rfl) (by kernel_rfl) (by kernel_rfl) (fun _ _ _ h => h) (Or.inl ⟨by rfl, ?hy9⟩) (by first | assumption | exact hHeld8) ?rest9
          case hy9 => ((intro w0 hSw; (try dsimp only at hSw); go_simp) <;> with_reducible rfl)
          (try simp only [Act.put, List.setIfInBounds_toArray, List.set_cons_zero, List.set_cons_succ])
          refine wpAnyH_ready (rs := [8]) (by kernel_rfl) (by simp) ?_
          refine AllReadyH.cons (o := { dst := some 68, op := _, type := _, pos := _, after := _, guard := _ }) rfl (fun K hK => ?_) ?_
          · go_simp
            refine (text_g (HG9.out.next HB11.out) HT.out).mono ?_
            rintro e w12 ⟨rfl, hb12'⟩
            have hb12 := HB11.out.trans (hb12'.mono HB11.out.size)
            have d0 := (HX9.out.next hb12).fst
            have d1 := (HX9.out.next hb12).snd
            have HB12 := Lib.hid hb12
            clear hb12 hb12'
            refine hK.out _ _ ?_ (fun hHeld10 => ?_)
            · (try dsimp only)
              all_goals (first | (constructor <;> go_simp) | go_keep)
            clear hK K
            (try clear hHeld8)
            (try simp only [Act.put, List.setIfInBounds_toArray, List.set_cons_zero, List.set_cons_succ])
            refine wpAnyH_take (i := 9) (oi := { dst := some 69, op := _, type := _, pos := _, after := _, guard := _ }) (v := ?v11) rfl (by kernel_rfl) (by kernel_rfl) (by kernel_rfl) (fun _ _ _ h => h) (Or.inl ⟨by rfl, ?hy11⟩) (by first | assumption | exact hHeld10) ?rest11
            case hy11 => ((intro w0 hSw; (try dsimp only at hSw); go_simp) <;> with_reducible rfl)
            (try simp only [Act.put, List.setIfInBounds_toArray, List.set_cons_zero, List.set_cons_succ])
            refine wpAnyH_take (i := 10) (oi := { dst := some 70, op := _, type := _, pos := _, after := _, guard := _ }) (v := ?v12) rfl (by kernel_rfl) (by kernel_rfl) (by kernel_rfl) (fun _ _ _ h => h) (Or.inl ⟨by rfl, ?hy12⟩) (by first | assumption | exact hHeld10) ?rest12
            case hy12 => ((intro w0 hSw; (try dsimp only at hSw); go_simp) <;> with_reducible rfl)
            (try simp only [Act.put, List.setIfInBounds_toArray, List.set_cons_zero, List.set_cons_succ])
            refine wpAnyH_ready (rs := [12]) (by kernel_rfl) (by simp) ?_
            refine AllReadyH.cons (o := { dst := some 72, op := _, type := _, pos := _, after := _, guard := _ }) rfl (fun K hK => ?_) ?_
            · go_simp
              refine (HDN.out Q HEE.out.2.2.2 _).mono ?_
              rw [HEE.out.2.1]
              rintro e w13 ⟨rfl, hb13'⟩
              have hb13 := HB12.out.trans (hb13'.mono HB12.out.size)
              have e0 := (HX9.out.next hb13).fst
              have e1 := (HX9.out.next hb13).snd
              have HB13 := Lib.hid hb13
              clear hb13 hb13'
              refine hK.out _ _ ?_ (fun hHeld13 => ?_)
              · (try dsimp only)
                all_goals (first | (constructor <;> go_simp) | go_keep)
              clear hK K
              (try clear hHeld10)
              (try simp only [Act.put, List.setIfInBounds_toArray, List.set_cons_zero, List.set_cons_succ])
              refine wpAnyH_take (i := 13) (oi := { dst := some 73, op := _, type := _, pos := _, after := _, guard := _ }) (v := ?v14) rfl (by kernel_rfl) (by kernel_rfl) (by kernel_rfl) (fun _ _ _ h => h) (Or.inl ⟨by rfl, ?hy14⟩) (by first | assumption | exact hHeld13) ?rest14
              case hy14 => ((intro w0 hSw; (try dsimp only at hSw); go_simp) <;> with_reducible rfl)
              (try simp only [Act.put, List.setIfInBounds_toArray, List.set_cons_zero, List.set_cons_succ])
              refine wpAnyH_take (i := 14) (oi := { dst := some 74, op := _, type := _, pos := _, after := _, guard := _ }) (v := ?v15) rfl (by kernel_rfl) (by kernel_rfl) (by kernel_rfl) (fun _ _ _ h => h) (Or.inl ⟨by rfl, ?hy15⟩) (by first | assumption | exact hHeld13) ?rest15
              case hy15 => ((intro w0 hSw; (try dsimp only at hSw); go_simp) <;> with_reducible rfl)
              (try simp only [Act.put, List.setIfInBounds_toArray, List.set_cons_zero, List.set_cons_succ])
              refine wpAnyH_ready (rs := [15]) (by kernel_rfl) (by simp) ?_
              refine AllReadyH.cons (o := { dst := some 75, op := _, type := _, pos := _, after := _, guard := _ }) rfl (fun K hK => ?_) ?_
              · go_simp
                refine (HDL.out _).mono ?_
                rintro e w14 ⟨rfl, hb14'⟩
                have hb14 := HB13.out.trans (hb14'.mono HB13.out.size)
                have f0 := (HX9.out.next hb14).fst
                have f1 := (HX9.out.next hb14).snd
                have HB14 := Lib.hid hb14
                clear hb14 hb14'
                refine hK.out _ _ ?_ (fun hHeld16 => ?_)
                · (try dsimp only)
                  all_goals (first | (constructor <;> go_simp) | go_keep)
                clear hK K
                (try clear hHeld13)
                (try simp only [Act.put, List.setIfInBounds_toArray, List.set_cons_zero, List.set_cons_succ])
                refine wpAnyH_take (i := 16) (oi := { dst := some 76, op := _, type := _, pos := _, after := _, guard := _ }) (v := ?v17) rfl (by kernel_rfl) (by kernel_rfl) (by kernel_rfl) (fun _ _ _ h => h) (Or.inl ⟨by rfl, ?hy17⟩) (by first | assumption | exact hHeld16) ?rest17
                case hy17 => ((intro w0 hSw; (try dsimp only at hSw); go_simp) <;> with_reducible rfl)
                (try simp only [Act.put, List.setIfInBounds_toArray, List.set_cons_zero, List.set_cons_succ])
                refine wpAnyH_take (i := 17) (oi := { dst := some 77, op := _, type := _, pos := _, after := _, guard := _ }) (v := ?v18) rfl (by kernel_rfl) (by kernel_rfl) (by kernel_rfl) (fun _ _ _ h => h) (Or.inl ⟨by rfl, ?hy18⟩) (by first | assumption | exact hHeld16) ?rest18
                case hy18 => ((intro w0 hSw; (try dsimp only at hSw); go_simp) <;> with_reducible rfl)
                (try simp only [Act.put, List.setIfInBounds_toArray, List.set_cons_zero, List.set_cons_succ])
                refine wpAnyH_take (i := 18) (oi := { dst := some 78, op := _, type := _, pos := _, after := _, guard := _ }) (v := ?v19) rfl (by kernel_rfl) (by kernel_rfl) (by kernel_rfl) (fun _ _ _ h => h) (Or.inl ⟨by rfl, ?hy19⟩) (by first | assumption | exact hHeld16) ?rest19
                case hy19 => ((intro w0 hSw; (try dsimp only at hSw); go_simp) <;> with_reducible rfl)
                (try simp only [Act.put, List.setIfInBounds_toArray, List.set_cons_zero, List.set_cons_succ])
                refine wpAnyH_take (i := 19) (oi := { dst := some 2, op := _, type := _, pos := _, after := _, guard := _ }) (v := ?v20) rfl (by kernel_rfl) (by kernel_rfl) (by kernel_rfl) (fun _ _ _ h => h) (Or.inl ⟨by rfl, ?hy20⟩) (by first | assumption | exact hHeld16) ?rest20
                case hy20 => ((intro w0 hSw; (try dsimp only at hSw); go_simp) <;> with_reducible rfl)
                (try simp only [Act.put, List.setIfInBounds_toArray, List.set_cons_zero, List.set_cons_succ])
                refine wpAnyH_done (by kernel_rfl) ?_ _
                rw [HA.out, beq_self_eq_true]
                go_wp2_with fail
                go_ret
                exact ⟨rfl, below_chain HB9.out HB14.out⟩
              exact AllReadyH.nil
            exact AllReadyH.nil
          exact AllReadyH.nil
        exact AllReadyH.nil
      exact AllReadyH.nil
      --R>
    · refine ((FrameSum_any _ _ 4 4 c c' _ _ v _ _ HG.out.1.rows.1 HG.out.1.rows.2 (HG.out.ok (fun ds => frBy 1 ds v))).mono fun _ _ q => FrRes.not_ (fr_out v hv ▸ q)).mono ?_
      rintro e w4 ⟨A2, c2, A2', c2', rfl, hg4, hb4⟩
      have HB4 := Lib.hid (below_chain HB3.out hb4)
      have s4 := hb4.size
      clear hb4 hg4 x0 x1 xl
      by_cases hneg : v < 0
      · clear hv
        go_wp2_with fail
        go_ret
        exact ⟨rfl, HB4.out.alloc (by omega) _⟩
      · have hgt : v > 9999 := by omega
        clear hv
        go_wp2_with fail
        go_ret
        exact ⟨rfl, HB4.out.alloc (by omega) _⟩
end Go.Proofs.YthdoofmfigemoaaGreatDoor.fnExecuteFrame
end
