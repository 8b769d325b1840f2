/-
  The draws of frames.
-/
import Derived.Test.YtpaepdlkjblfgaaDoorFrLaw
import Derived.Test.YtpaepdlkjblfgaaDoorDraw2
import Derived.Test.YtpaepdlkjblfgaaDoorKit
import Derived.Maps.AppendAt
import Derived.Deep.RegionHeld3
namespace Go.Proofs.YtpaepdlkjblfgaaDoor
open Go.RowKit
set_option linter.unusedSimpArgs false

/-- append(out, u, ..), and where the new row lies -/
theorem wpList_app2 {ops : Array Oper} {rest : List Oper} {o : Oper} {a : Act} {w : World} {Q : Exit → Act → World → Prop} (hgd : o.guard = none) (s x : Operand)
    (ho : o.op = .call { callee := .builtin .append, args := #[s, x], argTypes := #[23, 23] })
    {B : Nat} {A : Option Addr} {n c : Nat} {xs : List Int} (hs : a.eval s = .slice A n c) (hown : Own w B A n c xs) (us : List Int) (m : Nat) (hm : us.length = m) (c0 nb : Nat)
    (hx : a.eval x = .slice (some ⟨nb, 0, none⟩) m c0) (hnb : nb = w.heap.size) (cs : Array Value) (hcs : cs = (IV us).toArray) (hn : n + m ≤ 1099511627776) (hB : B ≤ w.heap.size)
    (h : ∀ A' c' w', Own w' B A' (n + m) c' (xs ++ us) → w.grownBy w' (Value.slice A n c).ownBlock → (∀ k, (Value.slice A' (n + m) c').ownBlock = some k → (Value.slice A n c).ownBlock = some k ∨ w.heap.size ≤ k) → wpList Tryd.prog ops Q rest (a.put o.dst (.slice A' (n + m) c')) w') :
    wpList Tryd.prog ops Q (o :: rest) a (w.alloc (.cells cs 3)) := by
  obtain ⟨i0, hi, hz0, hz1, hz2⟩ := info_parts own_int_info
  subst hcs
  subst hm
  subst hnb
  refine wpList_append_own_at _ hgd s x 23 ho B 3 i0 (.int .i64 0) 1 8 Tryd.underlying23 hi hz0 hz1 hz2 rfl (by decide) _ n (IV xs) hs (hown.1.alloc _)
    ⟨w.heap.size, 0, none⟩ us.length c0 (IV us) hx (by simp [IV]) ?_ (IV_one us) (by unfold maxLen; omega) (by omega) (by simp; omega) ?_
  · intro j u hj
    rw [add_row, cell_of_row _ w.heap.size j _ _ _ (heap_alloc_new w _)]
    simpa using hj
  · intro v' w' hown' hg _ hat
    obtain ⟨A', c', rfl, h'⟩ := Own.of_app us rfl hown' hn
    refine h A' c' w' h' ⟨hg.os, hg.tape, hg.output, by have := hg.size; simp at this; omega, fun k hk hne => (hg.block k (by simp; omega) hne).trans (Below.heap_alloc w _ k hk)⟩ ?_
    intro k hk
    rcases hat with h1 | h1
    · left; rw [← h1]; exact hk
    · right; rw [hk] at h1; injection h1 with h1; simp at h1; omega

theorem blk_eq {a n c j : Nat} (h : (Value.slice (some ⟨a, 0, none⟩) n c).ownBlock = some j) : a = j := by injection h
theorem apart_new {s s' t : Value} {N : Nat} (hk : ∀ j, s'.ownBlock = some j → s.ownBlock = some j ∨ N ≤ j) (ha : Apart s t) (hb : Apart t s) (h2 : ∀ j, t.ownBlock = some j → j < N) : Apart s' t ∧ Apart t s' := by
  refine ⟨fun j hj e => ?_, fun j hj e => ?_⟩
  · rcases hk j e with h | h
    · exact ha j hj h
    · have := h2 j hj; omega
  · rcases hk j hj with h | h
    · exact hb j h e
    · have := h2 j e; omega
/-- what lies below N is as it was -/
def Low (N : Nat) (w w' : World) : Prop := w'.os = w.os ∧ w'.tape = w.tape ∧ w'.output = w.output ∧ w.heap.size ≤ w'.heap.size ∧ ∀ j, j < w.heap.size → j ≤ N → w'.heap[j]? = w.heap[j]?
theorem _root_.Go.World.grownBy.row_in {w w' : World} {row : Option Nat} {N : Nat} (h : w.grownBy w' row) (hr : ∀ j, row = some j → N < j) : Low N w w' :=
  ⟨h.os, h.tape, h.output, h.size, fun j hj hN => h.block j hj (fun e => by have := hr j e.symm; omega)⟩
theorem _root_.Go.World.grownBy.row_in' {w w' : World} {r N : Nat} (h : w.grownBy w' (some r)) (hr : N < r) : Low N w w' := h.row_in (by rintro j ⟨⟩; exact hr)
theorem Low.trans {N : Nat} {a b c : World} (h : Low N a b) (k : Low N b c) : Low N a c :=
  ⟨k.1.trans h.1, k.2.1.trans h.2.1, k.2.2.1.trans h.2.2.1, Nat.le_trans h.2.2.2.1 k.2.2.2.1, fun j hj hN => (k.2.2.2.2 j (Nat.lt_of_lt_of_le hj h.2.2.2.1) hN).trans (h.2.2.2.2 j hj hN)⟩
theorem Low.box_ {N : Nat} {a b : World} {u v : Value} (h : Low N a b) (hx : Box a N u v) : Box b N u v := hx.keep (h.2.2.2.2 N hx.lt (Nat.le_refl _))
theorem Low.rd_ {N B g p : Nat} {a b : World} (h : Low N a b) (hr : Rd a B g p) (hg : g ≤ N) : Rd b B g p :=
  hr.keep (h.2.2.2.2 g hr.lt hg) (fun j hj => h.2.2.2.2 j (by have := hr.lt; have := hr.base; omega) (by have := hr.base; omega))
theorem Low.on_ {N : Nat} {w a b : World} {row : Option Nat} (h : Low N a b) (hg : w.grownBy a row) (hN : w.heap.size ≤ N + 1 := by omega) : w.grownBy b row :=
  ⟨h.1.trans hg.os, h.2.1.trans hg.tape, h.2.2.1.trans hg.output, Nat.le_trans hg.size h.2.2.2.1, fun j hj hne => (h.2.2.2.2 j (Nat.lt_of_lt_of_le hj hg.size) (by omega)).trans (hg.block j hj hne)⟩
theorem cell_kept {w w' : World} {g b o : Nat} (hg : w.grownBy w' (some g)) (hb : b < w.heap.size) (hne : b ≠ g) : w'.cell? ⟨b, o, none⟩ = w.cell? ⟨b, o, none⟩ :=
  World.cell?_of_block (hg.block b hb (fun e => hne (by injection e)))
theorem pick_mem {us : List Int} {n : Nat} {v : Int} (hn : us.length = n) (hn2 : n ≤ 1000) (h0 : 0 ≤ v) (h1 : v < n) :
    ∃ (j : Nat) (u : Int), v = (j : Int) ∧ us[j]? = some u ∧ ∀ W : World, (W.alloc (.cells (IV us).toArray 3)).cell? ⟨W.heap.size, j, none⟩ = some (.int .i64 u) := by
  obtain ⟨j, rfl⟩ := Int.eq_ofNat_of_zero_le h0
  have hj : j < us.length := by omega
  refine ⟨j, us[j], rfl, List.getElem?_eq_getElem hj, fun W => ?_⟩
  have hl := own_lit W us W.heap.size n hn (by omega) (Nat.le_refl _)
  obtain ⟨g7, e7, _, _, hc7, _⟩ := hl.at_ (by omega)
  obtain rfl : W.heap.size = g7 := by simpa using e7
  exact hc7 j _ (List.getElem?_eq_getElem hj)
theorem own_first {w : World} {B g n c : Nat} {xs : List Int} (h : Own w B (some ⟨g, 0, none⟩) n c xs) (hn : 0 < n) : (∃ y, w.cell? ⟨g, 0, none⟩ = some y) ∧ w.frozen? ⟨g, 0, none⟩ = false ∧ g < w.heap.size := by
  obtain ⟨g7, e7, _, h2, hc7, hf⟩ := h.at_ hn
  obtain rfl : g = g7 := by simpa using e7
  have := h.len
  exact ⟨⟨_, hc7 0 _ (List.getElem?_eq_getElem (by omega))⟩, hf 0, h2⟩
theorem size_setCell_ (w : World) (p : Addr) (u : Value) : (w.setCell p u).heap.size = w.heap.size := by simp [World.setCell]
/-- a drawn frame -/
def DFrame (w : World) (B g p : Nat) (e : Ending) (w' : World) : Prop :=
  ∃ A n c A' m c' hs ls q, e = .returned (.agg #[.slice A n c, .slice A' m c']) ∧ (∀ v, w'.grownBy v (some g) → Ints v v.heap.size A n hs ∧ Ints v v.heap.size A' m ls) ∧ n ≤ 6 ∧ (1 ≤ n ∧ n ≤ c ∧ m ≤ c') ∧ m ≤ 6 ∧ Rd w' B g q ∧ q ≤ p + 20 ∧ w.grownBy w' (some g)
theorem own_pick2 {w w' : World} {B g n c : Nat} {A : Option Addr} {xs : List Int} (h : Own w B A n c xs) (hg : w.grownBy w' (some g)) (hlt : g < B) : Own w' B A n c xs :=
  h.kept hg fun k hk e => by have := (h.blk k hk).1; injection e; omega

theorem DFrame.alloc {w w' : World} {B g p : Nat} {e : Ending} (h : DFrame w B g p e w') (o : Obj) : DFrame w B g p e (w'.alloc o) := by
  obtain ⟨A, n, c, A', m, c', hs, ls, q, rfl, h1, h2, h3, h4, h5, h6, h7⟩ := h
  exact ⟨A, n, c, A', m, c', hs, ls, q, rfl, fun v hv => h1 v (((World.grownBy_alloc w' o _)).trans hv), h2, h3, h4, h5.alloc o, h6, h7.trans (World.grownBy_alloc w' o _)⟩
theorem dframe_end2 {w W3 : World} {B g p q n c m c' n0 c0 : Nat} {A A' A0 : Option Addr} {hs ls ls0 : List Int} (h1 : Own W3 (w.heap.size + 1) A n c hs) (h2 : Own W3 (w.heap.size + 1) A0 n0 c0 ls0)
    (ht : ∀ v, Own v (w.heap.size + 1) A0 n0 c0 ls0 → Ints v v.heap.size A' m ls) (hr : Rd W3 B g q) (hlt : g < w.heap.size) (hg : w.grownBy W3 (some g)) (hn : n ≤ 6) (hn1 : 1 ≤ n) (hm : m ≤ 6) (hq : q ≤ p + 20) (hcm : m ≤ c') :
    DFrame w B g p (.returned (.agg #[.slice A n c, .slice A' m c'])) ((W3.setCell ⟨w.heap.size, 0, none⟩ (.slice A n c)).setCell ⟨w.heap.size, 1, none⟩ (.slice A' m c')) := by
  have hB := hr.base
  have o1 := (h1.low (b := w.heap.size) (j := 0) (by omega) (u := .slice A n c)).low (b := w.heap.size) (j := 1) (by omega) (u := .slice A' m c')
  have o2 := (h2.low (b := w.heap.size) (j := 0) (by omega) (u := .slice A n c)).low (b := w.heap.size) (j := 1) (by omega) (u := .slice A' m c')
  refine ⟨A, n, c, A', m, c', hs, ls, q, rfl, fun v hv => ⟨(own_pick2 o1 hv (by omega)).ints, ht v (own_pick2 o2 hv (by omega))⟩, hn, ⟨hn1, own_cap h1, hcm⟩, hm, ?_, hq, ?_⟩
  · exact (hr.far (a := ⟨w.heap.size, 0, none⟩) (by show B ≤ w.heap.size; omega) (by show w.heap.size ≠ g; omega) _).far (a := ⟨w.heap.size, 1, none⟩) (by show B ≤ w.heap.size; omega) (by show w.heap.size ≠ g; omega) _
  · exact (((grown_set w.heap.size 0 _).row_in' (N := w.heap.size - 1) (by omega)).trans ((grown_set w.heap.size 1 _).row_in' (N := w.heap.size - 1) (by omega))).on_ hg
theorem dframe_end {w W3 : World} {B g p q n c m c' : Nat} {A A' : Option Addr} {hs ls : List Int} (h1 : Own W3 (w.heap.size + 1) A n c hs) (h2 : Own W3 (w.heap.size + 1) A' m c' ls)
    (hr : Rd W3 B g q) (hlt : g < w.heap.size) (hg : w.grownBy W3 (some g)) (hn : n ≤ 6) (hn1 : 1 ≤ n) (hm : m ≤ 6) (hq : q ≤ p + 20) :
    DFrame w B g p (.returned (.agg #[.slice A n c, .slice A' m c'])) ((W3.setCell ⟨w.heap.size, 0, none⟩ (.slice A n c)).setCell ⟨w.heap.size, 1, none⟩ (.slice A' m c')) :=
  dframe_end2 h1 h2 (fun _ h => h.ints) hr hlt hg hn hn1 hm hq (own_cap h2)
theorem own_tail2 {w : World} {B g n c : Nat} {xs : List Int} (h : Own w B (some ⟨g, 0, none⟩) n c xs) (hn : n ≤ 6) (hn1 : 1 ≤ n) : Ints w w.heap.size (some ⟨g, 1, none⟩) (n - 1) (xs.drop 1) := by
  obtain ⟨g8, e8, hg8, hl8, hc8, hf8⟩ := h.at_ (by omega)
  obtain rfl : g = g8 := by simpa using e8
  exact ⟨by have := h.len; simp; omega, by omega, fun _ => ⟨g, 1, rfl, hl8, fun j u hu => hc8 (1 + j) u (by rw [List.getElem?_drop] at hu; exact hu)⟩⟩
theorem dend_box {w w2 : World} {B g q n c m c' x j : Nat} {A A' : Option Addr} {hs ls : List Int} {u v y : Value} (hz : Box w2 w.heap.size u v) (h1 : Own w2 (w.heap.size + 1) A n c hs) (n1 : ∀ k, (Value.slice A n c).ownBlock = some k → k ≠ x)
    (h2 : Own w2 (w.heap.size + 1) A' m c' ls) (n2 : ∀ k, (Value.slice A' m c').ownBlock = some k → k ≠ x) (hr : Rd w2 B g q) (hlt : g < w.heap.size) (hg : w.grownBy w2 (some g)) (hx : w.heap.size + 1 ≤ x) :
    Box (w2.setCell ⟨x, j, none⟩ y) w.heap.size u v ∧ Own (w2.setCell ⟨x, j, none⟩ y) (w.heap.size + 1) A n c hs ∧ Own (w2.setCell ⟨x, j, none⟩ y) (w.heap.size + 1) A' m c' ls ∧ Rd (w2.setCell ⟨x, j, none⟩ y) B g q ∧ w.grownBy (w2.setCell ⟨x, j, none⟩ y) (some g) := by
  have hB := hr.base
  refine ⟨hz.grown (grown_set x j y) (by intro e; injection e; omega), h1.kept (grown_set x j y) (fun k hk e => n1 k hk (by injection e with e; exact e.symm)), h2.kept (grown_set x j y) (fun k hk e => n2 k hk (by injection e with e; exact e.symm)),
    hr.far (a := ⟨x, j, none⟩) (by show B ≤ x; omega) (by show x ≠ g; omega) _, ((grown_set x j y).row_in' (N := w.heap.size - 1) (by omega)).on_ hg⟩
/-- the end's facts behind a store in one of the rows -/
theorem dend_set {w w2 : World} {B g q n c m c' x : Nat} {A' : Option Addr} {ls : List Int} {u v y : Value} (hz : Box w2 w.heap.size u v) (h2 : Own w2 (w.heap.size + 1) A' m c' ls)
    (hr : Rd w2 B g q) (hlt : g < w.heap.size) (hg : w.grownBy w2 (some g)) (hx : w.heap.size + 1 ≤ x) (hap : Apart (.slice (some ⟨x, 0, none⟩) n c) (.slice A' m c')) :
    Box (w2.setCell ⟨x, 0, none⟩ y) w.heap.size u v ∧ Own (w2.setCell ⟨x, 0, none⟩ y) (w.heap.size + 1) A' m c' ls ∧ Rd (w2.setCell ⟨x, 0, none⟩ y) B g q ∧ w.grownBy (w2.setCell ⟨x, 0, none⟩ y) (some g) := by
  have hB := hr.base
  refine ⟨hz.grown (grown_set x 0 y) (by intro e; injection e; omega), h2.kept (grown_set x 0 y) (fun j hj e => ?_), hr.far (a := ⟨x, 0, none⟩) (by show B ≤ x; omega) (by show x ≠ g; omega) _, ((grown_set x 0 y).row_in' (N := w.heap.size - 1) (by omega)).on_ hg⟩
  injection e with e
  exact hap j hj (by rw [← e]; rfl)
set_option maxRecDepth 100000 in
set_option maxHeartbeats 8000000 in
theorem l92Frame_any (w : World) (B g p n : Nat) (h : Rd w B g p) (hp : p ≤ 900000) (hn1 : 1 ≤ n) (hn : n ≤ 5) :
    Calls Tryd.prog 18 #[.pointer (some ⟨g, 0, none⟩), .int .i64 (n : Int)] w (DFrame w B g p) := by
  have hlt := h.lt
  have hbs := h.base
  have HR := Lib.hid h
  obtain ⟨W, hW⟩ : ∃ W, (((w.alloc (.cells #[.slice none 0 0, .slice none 0 0] 25)).alloc (.cells #[] 3)).alloc (.cells #[] 3)).alloc (.cells #[.slice (some ⟨w.heap.size + 1, 0, none⟩) 0 0, .slice (some ⟨w.heap.size + 1 + 1, 0, none⟩) 0 0] 25) = W := ⟨_, rfl⟩
  have hsz : W.heap.size = w.heap.size + 1 + 1 + 1 + 1 := by rw [← hW]; simp
  have hz0 : Box W w.heap.size (.slice none 0 0) (.slice none 0 0) := by
    unfold Box; rw [← hW, heap_alloc_if, if_neg (by simp; omega), heap_alloc_if, if_neg (by simp; omega), heap_alloc_if, if_neg (by simp), heap_alloc_if, if_pos rfl]
  have hx0 : Box W (w.heap.size + 1 + 1 + 1) (.slice (some ⟨w.heap.size + 1, 0, none⟩) 0 0) (.slice (some ⟨w.heap.size + 1 + 1, 0, none⟩) 0 0) := by
    unfold Box; rw [← hW, heap_alloc_if, if_pos (by simp)]
  have ho1 : Own W (w.heap.size + 1) (some ⟨w.heap.size + 1, 0, none⟩) 0 0 [] := by
    refine own_lit_at W [] _ 0 _ rfl (by omega) (Nat.le_refl _) ?_
    rw [← hW, heap_alloc_if, if_neg (by simp), heap_alloc_if, if_neg (by simp), heap_alloc_if, if_pos (by simp)]; rfl
  have ho2 : Own W (w.heap.size + 1) (some ⟨w.heap.size + 1 + 1, 0, none⟩) 0 0 [] := by
    refine own_lit_at W [] _ 0 _ rfl (by omega) (by omega) ?_
    rw [← hW, heap_alloc_if, if_neg (by simp), heap_alloc_if, if_pos (by simp)]; rfl
  have hg0 : w.grownBy W (some g) := by
    rw [← hW]; exact (((World.grownBy_alloc _ _ _).trans (World.grownBy_alloc _ _ _)).trans (World.grownBy_alloc _ _ _)).trans (World.grownBy_alloc _ _ _)
  have hr0 : Rd W B g p := by rw [← hW]; exact (((h.alloc _).alloc _).alloc _).alloc _
  have HW := Lib.hid hW
  have HZ := Lib.hid hz0
  have HX := Lib.hid hx0
  have HO1 := Lib.hid ho1
  have HO2 := Lib.hid ho2
  have HG := Lib.hid hg0
  have HRW := Lib.hid hr0
  clear h hW hz0 hx0 ho1 ho2 hg0 hr0
  go_enter Tryd.func18, Tryd.ntmps18
  go_wp2
  rw [HW.out]
  go_loopw [6] (fun kv wr => ∃ (k : Nat) (A A' : Option Addr) (c c' : Nat) (xs ys : List Int) (q : Nat), kv = .int .i64 (k : Int) ∧ k ≤ n ∧ Box wr (w.heap.size + 1 + 1 + 1) (.slice A k c) (.slice A' k c') ∧ Box wr w.heap.size (.slice none 0 0) (.slice none 0 0) ∧
    Own wr (w.heap.size + 1) A k c xs ∧ Own wr (w.heap.size + 1) A' k c' ys ∧ Apart (.slice A k c) (.slice A' k c') ∧ Apart (.slice A' k c') (.slice A k c) ∧ (∀ j, (Value.slice A k c).ownBlock = some j → j ≠ w.heap.size + 1 + 1 + 1) ∧ (∀ j, (Value.slice A' k c').ownBlock = some j → j ≠ w.heap.size + 1 + 1 + 1) ∧ Rd wr B g q ∧ q ≤ p + 2 * k ∧ w.grownBy wr (some g) ∧ W.heap.size ≤ wr.heap.size) (fun kv _ => n - (intOf kv).toNat)
  case atStart => exact ⟨0, _, _, _, _, _, _, p, rfl, by omega, HX.out, HZ.out, HO1.out, HO2.out, apart_of (by omega), apart_of (by omega), by rintro j e; have := blk_eq e; omega, by rintro j e; have := blk_eq e; omega, HRW.out, by omega, HG.out, Nat.le_refl _⟩
  case round =>
    clear HX HZ HO1 HO2 HRW HG
    obtain ⟨k, A, A', c, c', xs, ys, q, rfl, hk, hbx, hbz, hown1, hown2, hap, hap', hne1, hne2, hrd, hq, hg, hsr⟩ := hrel
    have HX := Lib.hid hbx
    have HZ := Lib.hid hbz
    have HO1 := Lib.hid hown1
    have HO2 := Lib.hid hown2
    have HA1 := Lib.hid hap
    have HA2 := Lib.hid hap'
    have HN1 := Lib.hid hne1
    have HN2 := Lib.hid hne2
    have HRD := Lib.hid hrd
    have HG := Lib.hid hg
    clear hbx hbz hown1 hown2 hap hap' hne1 hne2 hrd hg
    by_cases hlk : k < n
    · go_wp2_with fail
      refine (pick_any _ _ _ _ _ HRD.out (by omega)).mono ?_
      rintro e w1 ⟨v1, rfl, hv1, hrd1, hg1⟩
      obtain ⟨hva1, hvb1⟩ := hv1 (by omega)
      clear hv1
      have hsz1 := hg1.size
      replace HG := Lib.hid (HG.out.trans hg1)
      replace HRD := Lib.hid hrd1
      replace HO1 := Lib.hid (own_pick2 HO1.out hg1 (by omega))
      replace HO2 := Lib.hid (own_pick2 HO2.out hg1 (by omega))
      replace HX := Lib.hid (HX.out.grown hg1 (by intro e; injection e; omega))
      replace HZ := Lib.hid (HZ.out.grown hg1 (by intro e; injection e; omega))
      clear hrd1 hg1
      have hnw : (n : Int) - 1 < 9223372036854775807 := by omega
      by_cases hlast : (k : Int) = (n : Int) - 1
      · have hkb : ((k : Int) == (n : Int) - 1) = true := by simpa using hlast
        clear hlast
        go_wp2_with fail
        refine (pick_any _ _ _ _ _ HRD.out (by omega)).mono ?_
        rintro e w2 ⟨v2, rfl, hv2, hrd2, hg2⟩
        obtain ⟨hva2, hvb2⟩ := hv2 (by omega)
        clear hv2
        have hsz2 := hg2.size
        replace HG := Lib.hid (HG.out.trans hg2)
        replace HRD := Lib.hid hrd2
        replace HO1 := Lib.hid (own_pick2 HO1.out hg2 (by omega))
        replace HO2 := Lib.hid (own_pick2 HO2.out hg2 (by omega))
        replace HX := Lib.hid (HX.out.grown hg2 (by intro e; injection e; omega))
        replace HZ := Lib.hid (HZ.out.grown hg2 (by intro e; injection e; omega))
        clear hrd2 hg2
        by_cases hv0 : v2 = 0
        · subst hv0
          have hx0 := HX.out.fst
          have hx1 := HX.out.snd
          have hfx0 := HX.out.free 0
          have hfx1 := HX.out.free 1
          have hxl := HX.out.lt
          go_wp2_with (first | (at_builtin; refine wpList_app2 rfl (.tmp 28) (.tmp 31) rfl rfl HO1.out [0 / 5] 1 rfl _ _ rfl rfl _ rfl (by omega) (by omega) ?_; intro A5 c5 w5 ho5 hg5 hk5; have hz5 := hg5.size; have HX5 := Lib.hid (HX.out.grown hg5 (fun e => HN1.out _ e.symm rfl)); have x50 := HX5.out.fst; have x51 := HX5.out.snd; have g50 := HX5.out.free 0; have g51 := HX5.out.free 1; have HO5 := Lib.hid ho5; have HG5 := Lib.hid hg5; have HK5 := Lib.hid hk5; have HO25 := Lib.hid ((HO2.out.kept hg5 HA1.out).kept (grown_set (w.heap.size + 1 + 1 + 1) 0 (.slice A5 (k + 1) c5)) (fun j hj e => HN2.out j hj (by injection e with e; exact e.symm))); have hz5' : (w5.setCell ⟨w.heap.size + 1 + 1 + 1, 0, none⟩ (.slice A5 (k + 1) c5)).heap.size = w5.heap.size := size_setCell_ _ _ _; have HZ5 := Lib.hid hz5'; clear ho5 hg5 hk5 hz5') | (at_builtin; refine wpList_app2 rfl (.tmp 35) (.tmp 38) rfl rfl HO25.out [0 % 5] 1 rfl _ _ rfl HZ5.out.symm _ rfl (by omega) (by rw [HZ5.out]; omega) ?_; intro A6 c6 w6 ho6 hg6 hk6; rw [HZ5.out] at hk6; have hz6 := hg6.size; rw [HZ5.out] at hz6; have HX6 := Lib.hid ((show Box (w5.setCell ⟨w.heap.size + 1 + 1 + 1, 0, none⟩ (.slice A5 (k + 1) c5)) (w.heap.size + 1 + 1 + 1) (.slice A5 (k + 1) c5) (.slice A' k c') by have := heap_setCell_same w5 (w.heap.size + 1 + 1 + 1) 0 _ _ (.slice A5 (k + 1) c5) HX5.out; simpa [Box] using this).grown hg6 (fun e => HN2.out _ e.symm rfl)); have x60 := HX6.out.fst; have x61 := HX6.out.snd; have g60 := HX6.out.free 0; have g61 := HX6.out.free 1; have HO6 := Lib.hid ho6; have HG6 := Lib.hid hg6; have HK6 := Lib.hid hk6; clear ho6 hg6 hk6))
          go_roundw
          case rel =>
            have b1 := HO1.out.blk
            have b2 := HO2.out.blk
            have b5 := HO5.out.blk
            have ap5 := apart_new HK5.out HA1.out HA2.out (fun j hj => (b2 j hj).2)
            have ap6 := apart_new HK6.out ap5.2 ap5.1 (fun j hj => (b5 j hj).2)
            have n5 : ∀ j, (Value.slice A5 (k + 1) c5).ownBlock = some j → j ≠ w.heap.size + 1 + 1 + 1 := fun j hj => (HK5.out j hj).elim (fun h => HN1.out j h) (fun h => by omega)
            have n6 : ∀ j, (Value.slice A6 (k + 1) c6).ownBlock = some j → j ≠ w.heap.size + 1 + 1 + 1 := fun j hj => (HK6.out j hj).elim (fun h => HN2.out j h) (fun h => by omega)
            have o5 := ((HO5.out.kept (grown_set (w.heap.size + 1 + 1 + 1) 0 (.slice A5 (k + 1) c5)) (fun j hj e => n5 j hj (by injection e with e; exact e.symm))).kept HG6.out ap5.2).kept (grown_set (w.heap.size + 1 + 1 + 1) 1 (.slice A6 (k + 1) c6)) (fun j hj e => n5 j hj (by injection e with e; exact e.symm))
            have o6 := HO6.out.kept (grown_set (w.heap.size + 1 + 1 + 1) 1 (.slice A6 (k + 1) c6)) (fun j hj e => n6 j hj (by injection e with e; exact e.symm))
            have bx6 : Box (w6.setCell ⟨w.heap.size + 1 + 1 + 1, 1, none⟩ (.slice A6 (k + 1) c6)) (w.heap.size + 1 + 1 + 1) (.slice A5 (k + 1) c5) (.slice A6 (k + 1) c6) := by have := heap_setCell_same w6 (w.heap.size + 1 + 1 + 1) 1 _ _ (.slice A6 (k + 1) c6) HX6.out; simpa [Box] using this
            have gall := ((HG5.out.row_in (N := w.heap.size) (fun j hj => by have := (b1 j hj).1; omega)).trans ((grown_set (w.heap.size + 1 + 1 + 1) 0 (.slice A5 (k + 1) c5)).row_in' (N := w.heap.size) (by omega))).trans ((HG6.out.row_in (N := w.heap.size) (fun j hj => by have := (b2 j hj).1; omega)).trans ((grown_set (w.heap.size + 1 + 1 + 1) 1 (.slice A6 (k + 1) c6)).row_in' (N := w.heap.size) (by omega)))
            exact ⟨k + 1, A5, A6, c5, c6, _, _, _, by go_num, by omega, bx6, gall.box_ HZ.out, o5, o6, ap6.2, ap6.1, n5, n6, gall.rd_ HRD.out (by omega), by omega, gall.on_ HG.out, by have := gall.2.2.2.1; omega⟩
          case measure => simp [intOf]; omega
        · have hvb : (v2 == 0) = false := by simpa using hv0
          have hx0 := HX.out.fst
          have hx1 := HX.out.snd
          have hfx0 := HX.out.free 0
          have hfx1 := HX.out.free 1
          have hxl := HX.out.lt
          go_wp2_with (first | (at_builtin; refine wpList_app2 rfl (.tmp 28) (.tmp 31) rfl rfl HO1.out [v1 / 5] 1 rfl _ _ rfl rfl _ rfl (by omega) (by omega) ?_; intro A5 c5 w5 ho5 hg5 hk5; have hz5 := hg5.size; have HX5 := Lib.hid (HX.out.grown hg5 (fun e => HN1.out _ e.symm rfl)); have x50 := HX5.out.fst; have x51 := HX5.out.snd; have g50 := HX5.out.free 0; have g51 := HX5.out.free 1; have HO5 := Lib.hid ho5; have HG5 := Lib.hid hg5; have HK5 := Lib.hid hk5; have HO25 := Lib.hid ((HO2.out.kept hg5 HA1.out).kept (grown_set (w.heap.size + 1 + 1 + 1) 0 (.slice A5 (k + 1) c5)) (fun j hj e => HN2.out j hj (by injection e with e; exact e.symm))); have hz5' : (w5.setCell ⟨w.heap.size + 1 + 1 + 1, 0, none⟩ (.slice A5 (k + 1) c5)).heap.size = w5.heap.size := size_setCell_ _ _ _; have HZ5 := Lib.hid hz5'; clear ho5 hg5 hk5 hz5') | (at_builtin; refine wpList_app2 rfl (.tmp 35) (.tmp 38) rfl rfl HO25.out [v1 % 5] 1 rfl _ _ rfl HZ5.out.symm _ rfl (by omega) (by rw [HZ5.out]; omega) ?_; intro A6 c6 w6 ho6 hg6 hk6; rw [HZ5.out] at hk6; have hz6 := hg6.size; rw [HZ5.out] at hz6; have HX6 := Lib.hid ((show Box (w5.setCell ⟨w.heap.size + 1 + 1 + 1, 0, none⟩ (.slice A5 (k + 1) c5)) (w.heap.size + 1 + 1 + 1) (.slice A5 (k + 1) c5) (.slice A' k c') by have := heap_setCell_same w5 (w.heap.size + 1 + 1 + 1) 0 _ _ (.slice A5 (k + 1) c5) HX5.out; simpa [Box] using this).grown hg6 (fun e => HN2.out _ e.symm rfl)); have x60 := HX6.out.fst; have x61 := HX6.out.snd; have g60 := HX6.out.free 0; have g61 := HX6.out.free 1; have HO6 := Lib.hid ho6; have HG6 := Lib.hid hg6; have HK6 := Lib.hid hk6; clear ho6 hg6 hk6))
          go_roundw
          case rel =>
            have b1 := HO1.out.blk
            have b2 := HO2.out.blk
            have b5 := HO5.out.blk
            have ap5 := apart_new HK5.out HA1.out HA2.out (fun j hj => (b2 j hj).2)
            have ap6 := apart_new HK6.out ap5.2 ap5.1 (fun j hj => (b5 j hj).2)
            have n5 : ∀ j, (Value.slice A5 (k + 1) c5).ownBlock = some j → j ≠ w.heap.size + 1 + 1 + 1 := fun j hj => (HK5.out j hj).elim (fun h => HN1.out j h) (fun h => by omega)
            have n6 : ∀ j, (Value.slice A6 (k + 1) c6).ownBlock = some j → j ≠ w.heap.size + 1 + 1 + 1 := fun j hj => (HK6.out j hj).elim (fun h => HN2.out j h) (fun h => by omega)
            have o5 := ((HO5.out.kept (grown_set (w.heap.size + 1 + 1 + 1) 0 (.slice A5 (k + 1) c5)) (fun j hj e => n5 j hj (by injection e with e; exact e.symm))).kept HG6.out ap5.2).kept (grown_set (w.heap.size + 1 + 1 + 1) 1 (.slice A6 (k + 1) c6)) (fun j hj e => n5 j hj (by injection e with e; exact e.symm))
            have o6 := HO6.out.kept (grown_set (w.heap.size + 1 + 1 + 1) 1 (.slice A6 (k + 1) c6)) (fun j hj e => n6 j hj (by injection e with e; exact e.symm))
            have bx6 : Box (w6.setCell ⟨w.heap.size + 1 + 1 + 1, 1, none⟩ (.slice A6 (k + 1) c6)) (w.heap.size + 1 + 1 + 1) (.slice A5 (k + 1) c5) (.slice A6 (k + 1) c6) := by have := heap_setCell_same w6 (w.heap.size + 1 + 1 + 1) 1 _ _ (.slice A6 (k + 1) c6) HX6.out; simpa [Box] using this
            have gall := ((HG5.out.row_in (N := w.heap.size) (fun j hj => by have := (b1 j hj).1; omega)).trans ((grown_set (w.heap.size + 1 + 1 + 1) 0 (.slice A5 (k + 1) c5)).row_in' (N := w.heap.size) (by omega))).trans ((HG6.out.row_in (N := w.heap.size) (fun j hj => by have := (b2 j hj).1; omega)).trans ((grown_set (w.heap.size + 1 + 1 + 1) 1 (.slice A6 (k + 1) c6)).row_in' (N := w.heap.size) (by omega)))
            exact ⟨k + 1, A5, A6, c5, c6, _, _, _, by go_num, by omega, bx6, gall.box_ HZ.out, o5, o6, ap6.2, ap6.1, n5, n6, gall.rd_ HRD.out (by omega), by omega, gall.on_ HG.out, by have := gall.2.2.2.1; omega⟩
          case measure => simp [intOf]; omega
      · have hvb : ((k : Int) == (n : Int) - 1) = false := by simpa using hlast
        have hx0 := HX.out.fst
        have hx1 := HX.out.snd
        have hfx0 := HX.out.free 0
        have hfx1 := HX.out.free 1
        have hxl := HX.out.lt
        go_wp2_with (first | (at_builtin; refine wpList_app2 rfl (.tmp 28) (.tmp 31) rfl rfl HO1.out [v1 / 5] 1 rfl _ _ rfl rfl _ rfl (by omega) (by omega) ?_; intro A5 c5 w5 ho5 hg5 hk5; have hz5 := hg5.size; have HX5 := Lib.hid (HX.out.grown hg5 (fun e => HN1.out _ e.symm rfl)); have x50 := HX5.out.fst; have x51 := HX5.out.snd; have g50 := HX5.out.free 0; have g51 := HX5.out.free 1; have HO5 := Lib.hid ho5; have HG5 := Lib.hid hg5; have HK5 := Lib.hid hk5; have HO25 := Lib.hid ((HO2.out.kept hg5 HA1.out).kept (grown_set (w.heap.size + 1 + 1 + 1) 0 (.slice A5 (k + 1) c5)) (fun j hj e => HN2.out j hj (by injection e with e; exact e.symm))); have hz5' : (w5.setCell ⟨w.heap.size + 1 + 1 + 1, 0, none⟩ (.slice A5 (k + 1) c5)).heap.size = w5.heap.size := size_setCell_ _ _ _; have HZ5 := Lib.hid hz5'; clear ho5 hg5 hk5 hz5') | (at_builtin; refine wpList_app2 rfl (.tmp 35) (.tmp 38) rfl rfl HO25.out [v1 % 5] 1 rfl _ _ rfl HZ5.out.symm _ rfl (by omega) (by rw [HZ5.out]; omega) ?_; intro A6 c6 w6 ho6 hg6 hk6; rw [HZ5.out] at hk6; have hz6 := hg6.size; rw [HZ5.out] at hz6; have HX6 := Lib.hid ((show Box (w5.setCell ⟨w.heap.size + 1 + 1 + 1, 0, none⟩ (.slice A5 (k + 1) c5)) (w.heap.size + 1 + 1 + 1) (.slice A5 (k + 1) c5) (.slice A' k c') by have := heap_setCell_same w5 (w.heap.size + 1 + 1 + 1) 0 _ _ (.slice A5 (k + 1) c5) HX5.out; simpa [Box] using this).grown hg6 (fun e => HN2.out _ e.symm rfl)); have x60 := HX6.out.fst; have x61 := HX6.out.snd; have g60 := HX6.out.free 0; have g61 := HX6.out.free 1; have HO6 := Lib.hid ho6; have HG6 := Lib.hid hg6; have HK6 := Lib.hid hk6; clear ho6 hg6 hk6))
        go_roundw
        case rel =>
          have b1 := HO1.out.blk
          have b2 := HO2.out.blk
          have b5 := HO5.out.blk
          have ap5 := apart_new HK5.out HA1.out HA2.out (fun j hj => (b2 j hj).2)
          have ap6 := apart_new HK6.out ap5.2 ap5.1 (fun j hj => (b5 j hj).2)
          have n5 : ∀ j, (Value.slice A5 (k + 1) c5).ownBlock = some j → j ≠ w.heap.size + 1 + 1 + 1 := fun j hj => (HK5.out j hj).elim (fun h => HN1.out j h) (fun h => by omega)
          have n6 : ∀ j, (Value.slice A6 (k + 1) c6).ownBlock = some j → j ≠ w.heap.size + 1 + 1 + 1 := fun j hj => (HK6.out j hj).elim (fun h => HN2.out j h) (fun h => by omega)
          have o5 := ((HO5.out.kept (grown_set (w.heap.size + 1 + 1 + 1) 0 (.slice A5 (k + 1) c5)) (fun j hj e => n5 j hj (by injection e with e; exact e.symm))).kept HG6.out ap5.2).kept (grown_set (w.heap.size + 1 + 1 + 1) 1 (.slice A6 (k + 1) c6)) (fun j hj e => n5 j hj (by injection e with e; exact e.symm))
          have o6 := HO6.out.kept (grown_set (w.heap.size + 1 + 1 + 1) 1 (.slice A6 (k + 1) c6)) (fun j hj e => n6 j hj (by injection e with e; exact e.symm))
          have bx6 : Box (w6.setCell ⟨w.heap.size + 1 + 1 + 1, 1, none⟩ (.slice A6 (k + 1) c6)) (w.heap.size + 1 + 1 + 1) (.slice A5 (k + 1) c5) (.slice A6 (k + 1) c6) := by have := heap_setCell_same w6 (w.heap.size + 1 + 1 + 1) 1 _ _ (.slice A6 (k + 1) c6) HX6.out; simpa [Box] using this
          have gall := ((HG5.out.row_in (N := w.heap.size) (fun j hj => by have := (b1 j hj).1; omega)).trans ((grown_set (w.heap.size + 1 + 1 + 1) 0 (.slice A5 (k + 1) c5)).row_in' (N := w.heap.size) (by omega))).trans ((HG6.out.row_in (N := w.heap.size) (fun j hj => by have := (b2 j hj).1; omega)).trans ((grown_set (w.heap.size + 1 + 1 + 1) 1 (.slice A6 (k + 1) c6)).row_in' (N := w.heap.size) (by omega)))
          exact ⟨k + 1, A5, A6, c5, c6, _, _, _, by go_num, by omega, bx6, gall.box_ HZ.out, o5, o6, ap6.2, ap6.1, n5, n6, gall.rd_ HRD.out (by omega), by omega, gall.on_ HG.out, by have := gall.2.2.2.1; omega⟩
        case measure => simp [intOf]; omega
    · obtain rfl : n = k := by omega
      have hs1 := HG.out.size
      obtain ⟨hi, rfl, b1, b2, -, -⟩ := HO1.out.at_ (by omega)
      obtain ⟨lo, rfl, b3, b4, -, -⟩ := HO2.out.at_ (by omega)
      have hcap := own_cap HO2.out
      have hnx1 : hi ≠ w.heap.size + 1 + 1 + 1 := HN1.out hi rfl
      have hnx2 : lo ≠ w.heap.size + 1 + 1 + 1 := HN2.out lo rfl
      have hnl : hi ≠ lo := fun e => HA1.out lo rfl (by rw [← e]; rfl)
      go_wp2_with fail
      refine (pick_any _ _ _ _ _ HRD.out (by omega)).mono ?_
      rintro e w1 ⟨v1, rfl, hv1, hrd1, hg1⟩
      obtain ⟨hva1, hvb1⟩ := hv1 (by omega)
      clear hv1
      have hsz1 := hg1.size
      replace HG := Lib.hid (HG.out.trans hg1)
      replace HRD := Lib.hid hrd1
      replace HO1 := Lib.hid (own_pick2 HO1.out hg1 (by omega))
      replace HO2 := Lib.hid (own_pick2 HO2.out hg1 (by omega))
      replace HX := Lib.hid (HX.out.grown hg1 (by intro e; injection e; omega))
      replace HZ := Lib.hid (HZ.out.grown hg1 (by intro e; injection e; omega))
      clear hrd1 hg1
      by_cases e0 : v1 = 0
      · subst e0
        obtain ⟨hx0, hx1⟩ : w1.cell? ⟨w.heap.size + 1 + 1 + 1, 0, none⟩ = some (.slice (some ⟨hi, 0, none⟩) n c) ∧ w1.cell? ⟨w.heap.size + 1 + 1 + 1, 1, none⟩ = some (.slice (some ⟨lo, 0, none⟩) n c') := ⟨HX.out.fst, HX.out.snd⟩
        go_wp2_with fail
        have k1 : (0 : Int) < (n : Int) := by omega
        have hxl := HX.out.lt
        have k1n : 0 < n := by omega
        refine wp_region_held_drew (S := (fun w' => w'.cell? ⟨w.heap.size + 1 + 1 + 1, 0, none⟩ = some (.slice (some ⟨hi, 0, none⟩) n c) ∧ w'.cell? ⟨w.heap.size + 1 + 1 + 1, 1, none⟩ = some (.slice (some ⟨lo, 0, none⟩) n c'))) (by kernel_rfl) ?_ (fun hHeld => ?_)
        · (try dsimp only)
          first | (constructor <;> go_simp) | go_keep
        refine wpAnyH_take (i := 0) (oi := { dst := some 45, op := _, type := _, pos := _, after := _, guard := _ }) (v := ?v1201) rfl (by kernel_rfl) (by kernel_rfl) (by kernel_rfl) (fun _ _ _ h => h) (Or.inl ⟨by rfl, ?hy1201⟩) (by assumption) ?rest1201
        case hy1201 => ((intro w0 hSw; (try dsimp only at hSw); go_simp) <;> with_reducible rfl)
        (try simp only [Act.put, List.setIfInBounds_toArray, List.set_cons_zero, List.set_cons_succ])
        refine wpAnyH_take (i := 1) (oi := { dst := some 46, op := _, type := _, pos := _, after := _, guard := _ }) (v := ?v1202) rfl (by kernel_rfl) (by kernel_rfl) (by kernel_rfl) (fun _ _ _ h => h) (Or.inl ⟨by rfl, ?hy1202⟩) (by assumption) ?rest1202
        case hy1202 => ((intro w0 hSw; (try dsimp only at hSw); go_simp) <;> with_reducible rfl)
        (try simp only [Act.put, List.setIfInBounds_toArray, List.set_cons_zero, List.set_cons_succ])
        refine wpAnyH_take (i := 3) (oi := { dst := some 48, op := _, type := _, pos := _, after := _, guard := _ }) (v := ?v1203) rfl (by kernel_rfl) (by kernel_rfl) (by kernel_rfl) (fun _ _ _ h => h) (Or.inl ⟨by rfl, ?hy1203⟩) (by assumption) ?rest1203
        case hy1203 => ((intro w0 hSw; (try dsimp only at hSw); go_simp) <;> with_reducible rfl)
        (try simp only [Act.put, List.setIfInBounds_toArray, List.set_cons_zero, List.set_cons_succ])
        refine wpAnyH_ready (rs := [2, 4]) (by kernel_rfl) (by simp) ?_
        refine AllReadyH.cons (o := { dst := some 47, op := _, type := _, pos := _, after := _, guard := _ }) rfl (fun K hK => ?_) ?_
        · go_simp
          refine hK.out _ _ ?_ (fun hHeld1204 => ?_)
          · (try dsimp only)
            first | (constructor <;> go_simp) | go_keep
          clear hK K
          (try clear hHeld)
          (try simp only [Act.put, List.setIfInBounds_toArray, List.set_cons_zero, List.set_cons_succ])
          refine wpAnyH_ready (rs := [4]) (by kernel_rfl) (by simp) ?_
          refine AllReadyH.cons (o := { dst := some 49, op := _, type := _, pos := _, after := _, guard := _ }) rfl (fun K hK => ?_) ?_
          · go_simp
            refine (pick_any _ _ _ _ _ (HRD.out.alloc (.cells #[.int .i64 (-1), .int .i64 2] 3)).drew (by omega)).mono ?_
            rintro e w2 ⟨v2, rfl, hv2, hrd2, hg2'⟩
            obtain ⟨hva2, hvb2⟩ := hv2 (by omega)
            obtain ⟨j2, u2, rfl, hj2, hJ2⟩ := pick_mem (us := [-1, 2]) (n := 2) rfl (by omega) hva2 hvb2
            have hg2 : w1.grownBy w2 (some g) := (World.grownBy_alloc w1 (.cells #[.int .i64 (-1), .int .i64 2] 3) _).trans (grown_undrew hg2')
            have hlc : w2.cell? ⟨w1.heap.size, j2, none⟩ = some (.int .i64 u2) := (cell_kept hg2' (by first | omega | (simp <;> omega)) (by first | omega | (simp <;> omega))).trans (hJ2 w1)
            have HJ2 := Lib.hid hJ2
            clear hJ2
            have hx2 := HX.out.grown hg2 (by intro e; injection e; omega)
            have x20 := hx2.fst
            have x21 := hx2.snd
            have hz2 := HZ.out.grown hg2 (by intro e; injection e; omega)
            have z20 := hz2.fst
            have z21 := hz2.snd
            have y20 := hz2.free 0
            have y21 := hz2.free 1
            have ho2 := own_pick2 HO1.out hg2 (by omega)
            obtain ⟨⟨y0, hy0⟩, ff0, hrl⟩ := own_first ho2 (by omega)
            have hbl : w.heap.size + 1 + 1 + 1 < w2.heap.size := (by have := hg2.size; omega)
            have hrl2 : w.heap.size < w2.heap.size := hz2.lt
            have hn1' : w.heap.size ≠ hi := (by omega)
            have hn2' : hi ≠ w.heap.size := (by omega)
            have HS := Lib.hid (ho2.store 0 u2)
            have HOT := Lib.hid (own_pick2 HO2.out hg2 (by omega))
            have HX2 := Lib.hid hx2
            have HZ2 := Lib.hid hz2
            have HG2 := Lib.hid (HG.out.trans hg2)
            have hsz2 := hg2.size
            have HR2 := Lib.hid hrd2
            clear ho2 hx2 hrd2 hz2 hg2 hg2'
            (try go_wp2_with fail)
            refine hK.out _ _ ?_ (fun hHeld1205 => ?_)
            · (try dsimp only)
              first | (constructor <;> go_simp) | go_keep
            clear hK K
            (try clear hHeld1204)
            (try simp only [Act.put, List.setIfInBounds_toArray, List.set_cons_zero, List.set_cons_succ])
            refine wpAnyH_take (i := 5) (oi := { dst := some 50, op := _, type := _, pos := _, after := _, guard := _ }) (v := ?v1206) rfl (by kernel_rfl) (by kernel_rfl) (by kernel_rfl) (fun _ _ _ h => h) (Or.inl ⟨by rfl, ?hy1206⟩) (by assumption) ?rest1206
            case hy1206 => ((intro w0 hSw; (try dsimp only at hSw); go_simp) <;> with_reducible rfl)
            (try simp only [Act.put, List.setIfInBounds_toArray, List.set_cons_zero, List.set_cons_succ])
            refine wpAnyH_ready (rs := [6]) (by kernel_rfl) (by simp) ?_
            refine AllReadyH.cons (o := { dst := some 51, op := _, type := _, pos := _, after := _, guard := _ }) rfl (fun K hK => ?_) ?_
            · go_simp
              refine hK.out _ _ ?_ (fun hHeld1207 => ?_)
              · (try dsimp only)
                first | (constructor <;> go_simp) | go_keep
              clear hK K
              (try clear hHeld1205)
              (try simp only [Act.put, List.setIfInBounds_toArray, List.set_cons_zero, List.set_cons_succ])
              refine wpAnyH_take (i := 7) (oi := { dst := some 52, op := _, type := _, pos := _, after := _, guard := _ }) (v := ?v1208) rfl (by kernel_rfl) (by kernel_rfl) (by kernel_rfl) (fun _ _ _ h => h) (Or.inl ⟨by rfl, ?hy1208⟩) (by assumption) ?rest1208
              case hy1208 => ((intro w0 hSw; (try dsimp only at hSw); go_simp) <;> with_reducible rfl)
              (try simp only [Act.put, List.setIfInBounds_toArray, List.set_cons_zero, List.set_cons_succ])
              refine wpAnyH_ready (rs := [8]) (by kernel_rfl) (by simp) ?_
              refine AllReadyH.cons (o := { dst := none, op := _, type := _, pos := _, after := _, guard := _ }) rfl (fun K hK => ?_) ?_
              · go_simp
                refine hK.out _ _ ?_ (fun hHeld1209 => ?_)
                · (try dsimp only)
                  first | (constructor <;> go_simp) | go_keep
                clear hK K
                (try clear hHeld1207)
                (try simp only [Act.put, List.setIfInBounds_toArray, List.set_cons_zero, List.set_cons_succ])
                refine wpAnyH_done (by kernel_rfl) ?_ _
                go_wp2
                obtain ⟨hz3, ho3, hr3, hg3⟩ := dend_set (y := .int .i64 u2) HZ2.out HOT.out HR2.out hlt HG2.out b1 HA1.out
                have hb3 := hz3.over (.slice (some ⟨hi, 0, none⟩) n c) (.slice (some ⟨lo, 0, none⟩) n c')
                have hc3 := hb3.fst
                have hd3 := hb3.snd
                have hfin := dframe_end (p := p) HS.out.1 ho3 hr3 hlt hg3 (by omega) hn1 (by omega) (by omega)
                first
                  | exact bodyPost_ret (v := .agg #[.slice (some ⟨hi, 0, none⟩) n c, .slice (some ⟨lo, 0, none⟩) n c']) (by simp [results, Tryd.results18, go_sem, hc3, hd3]) rfl hfin
                  | exact bodyPost_ret (v := .agg #[.slice (some ⟨hi, 0, none⟩) n c, .slice (some ⟨lo, 0, none⟩) n c']) (by simp [results, Tryd.results18, go_sem, (hb3.alloc _).fst, (hb3.alloc _).snd]) rfl (hfin.alloc _)
              exact AllReadyH.nil
            exact AllReadyH.nil
          exact AllReadyH.nil
        refine AllReadyH.cons (o := { dst := some 49, op := _, type := _, pos := _, after := _, guard := _ }) rfl (fun K hK => ?_) ?_
        · go_simp
          refine (pick_any _ _ _ _ _ HRD.out.drew (by omega)).mono ?_
          rintro e w2 ⟨v2, rfl, hv2, hrd2, hg2'⟩
          obtain ⟨hva2, hvb2⟩ := hv2 (by omega)
          obtain ⟨j2, u2, rfl, hj2, hJ2⟩ := pick_mem (us := [-1, 2]) (n := 2) rfl (by omega) hva2 hvb2
          have hg2 : w1.grownBy w2 (some g) := grown_undrew hg2'
          have hlc : (w2.alloc (.cells #[.int .i64 (-1), .int .i64 2] 3)).cell? ⟨w2.heap.size, j2, none⟩ = some (.int .i64 u2) := hJ2 w2
          have HJ2 := Lib.hid hJ2
          clear hJ2
          have hx2 := HX.out.grown hg2 (by intro e; injection e; omega)
          have x20 := hx2.fst
          have x21 := hx2.snd
          have hz2 := HZ.out.grown hg2 (by intro e; injection e; omega)
          have z20 := hz2.fst
          have z21 := hz2.snd
          have y20 := hz2.free 0
          have y21 := hz2.free 1
          have ho2 := own_pick2 HO1.out hg2 (by omega)
          obtain ⟨⟨y0, hy0⟩, ff0, hrl⟩ := own_first ho2 (by omega)
          have hbl : w.heap.size + 1 + 1 + 1 < w2.heap.size := (by have := hg2.size; omega)
          have hrl2 : w.heap.size < w2.heap.size := hz2.lt
          have hn1' : w.heap.size ≠ hi := (by omega)
          have hn2' : hi ≠ w.heap.size := (by omega)
          have HS := Lib.hid (ho2.store 0 u2)
          have HOT := Lib.hid (own_pick2 HO2.out hg2 (by omega))
          have HX2 := Lib.hid hx2
          have HZ2 := Lib.hid hz2
          have HG2 := Lib.hid (HG.out.trans hg2)
          have hsz2 := hg2.size
          have HR2 := Lib.hid hrd2
          clear ho2 hx2 hrd2 hz2 hg2 hg2'
          (try go_wp2_with fail)
          refine hK.out _ _ ?_ (fun hHeld1210 => ?_)
          · (try dsimp only)
            first | (constructor <;> go_simp) | go_keep
          clear hK K
          (try clear hHeld)
          (try simp only [Act.put, List.setIfInBounds_toArray, List.set_cons_zero, List.set_cons_succ])
          refine wpAnyH_ready (rs := [2]) (by kernel_rfl) (by simp) ?_
          refine AllReadyH.cons (o := { dst := some 47, op := _, type := _, pos := _, after := _, guard := _ }) rfl (fun K hK => ?_) ?_
          · go_simp
            refine hK.out _ _ ?_ (fun hHeld1211 => ?_)
            · (try dsimp only)
              first | (constructor <;> go_simp) | go_keep
            clear hK K
            (try clear hHeld1210)
            (try simp only [Act.put, List.setIfInBounds_toArray, List.set_cons_zero, List.set_cons_succ])
            refine wpAnyH_take (i := 5) (oi := { dst := some 50, op := _, type := _, pos := _, after := _, guard := _ }) (v := ?v1212) rfl (by kernel_rfl) (by kernel_rfl) (by kernel_rfl) (fun _ _ _ h => h) (Or.inl ⟨by rfl, ?hy1212⟩) (by assumption) ?rest1212
            case hy1212 => ((intro w0 hSw; (try dsimp only at hSw); go_simp) <;> with_reducible rfl)
            (try simp only [Act.put, List.setIfInBounds_toArray, List.set_cons_zero, List.set_cons_succ])
            refine wpAnyH_ready (rs := [6]) (by kernel_rfl) (by simp) ?_
            refine AllReadyH.cons (o := { dst := some 51, op := _, type := _, pos := _, after := _, guard := _ }) rfl (fun K hK => ?_) ?_
            · go_simp
              refine hK.out _ _ ?_ (fun hHeld1213 => ?_)
              · (try dsimp only)
                first | (constructor <;> go_simp) | go_keep
              clear hK K
              (try clear hHeld1211)
              (try simp only [Act.put, List.setIfInBounds_toArray, List.set_cons_zero, List.set_cons_succ])
              refine wpAnyH_take (i := 7) (oi := { dst := some 52, op := _, type := _, pos := _, after := _, guard := _ }) (v := ?v1214) rfl (by kernel_rfl) (by kernel_rfl) (by kernel_rfl) (fun _ _ _ h => h) (Or.inl ⟨by rfl, ?hy1214⟩) (by assumption) ?rest1214
              case hy1214 => ((intro w0 hSw; (try dsimp only at hSw); go_simp) <;> with_reducible rfl)
              (try simp only [Act.put, List.setIfInBounds_toArray, List.set_cons_zero, List.set_cons_succ])
              refine wpAnyH_ready (rs := [8]) (by kernel_rfl) (by simp) ?_
              refine AllReadyH.cons (o := { dst := none, op := _, type := _, pos := _, after := _, guard := _ }) rfl (fun K hK => ?_) ?_
              · go_simp
                refine hK.out _ _ ?_ (fun hHeld1215 => ?_)
                · (try dsimp only)
                  first | (constructor <;> go_simp) | go_keep
                clear hK K
                (try clear hHeld1213)
                (try simp only [Act.put, List.setIfInBounds_toArray, List.set_cons_zero, List.set_cons_succ])
                refine wpAnyH_done (by kernel_rfl) ?_ _
                go_wp2
                obtain ⟨hz3, ho3, hr3, hg3⟩ := dend_set (y := .int .i64 u2) HZ2.out HOT.out HR2.out hlt HG2.out b1 HA1.out
                have hb3 := hz3.over (.slice (some ⟨hi, 0, none⟩) n c) (.slice (some ⟨lo, 0, none⟩) n c')
                have hc3 := hb3.fst
                have hd3 := hb3.snd
                have hfin := dframe_end (p := p) HS.out.1 ho3 hr3 hlt hg3 (by omega) hn1 (by omega) (by omega)
                first
                  | exact bodyPost_ret (v := .agg #[.slice (some ⟨hi, 0, none⟩) n c, .slice (some ⟨lo, 0, none⟩) n c']) (by simp [results, Tryd.results18, go_sem, hc3, hd3]) rfl hfin
                  | exact bodyPost_ret (v := .agg #[.slice (some ⟨hi, 0, none⟩) n c, .slice (some ⟨lo, 0, none⟩) n c']) (by simp [results, Tryd.results18, go_sem, (hb3.alloc _).fst, (hb3.alloc _).snd]) rfl (hfin.alloc _)
              exact AllReadyH.nil
            exact AllReadyH.nil
          exact AllReadyH.nil
        exact AllReadyH.nil
      · have e0' : (v1 == 0) = false := by simpa using e0
        by_cases e1 : v1 = 1
        · subst e1
          obtain ⟨hx0, hx1⟩ : w1.cell? ⟨w.heap.size + 1 + 1 + 1, 0, none⟩ = some (.slice (some ⟨hi, 0, none⟩) n c) ∧ w1.cell? ⟨w.heap.size + 1 + 1 + 1, 1, none⟩ = some (.slice (some ⟨lo, 0, none⟩) n c') := ⟨HX.out.fst, HX.out.snd⟩
          go_wp2_with fail
          have k1 : (0 : Int) < (n : Int) := by omega
          have hxl := HX.out.lt
          have k1n : 0 < n := by omega
          refine wp_region_held_drew (S := (fun w' => w'.cell? ⟨w.heap.size + 1 + 1 + 1, 0, none⟩ = some (.slice (some ⟨hi, 0, none⟩) n c) ∧ w'.cell? ⟨w.heap.size + 1 + 1 + 1, 1, none⟩ = some (.slice (some ⟨lo, 0, none⟩) n c'))) (by kernel_rfl) ?_ (fun hHeld => ?_)
          · (try dsimp only)
            first | (constructor <;> go_simp) | go_keep
          refine wpAnyH_take (i := 0) (oi := { dst := some 55, op := _, type := _, pos := _, after := _, guard := _ }) (v := ?v1401) rfl (by kernel_rfl) (by kernel_rfl) (by kernel_rfl) (fun _ _ _ h => h) (Or.inl ⟨by rfl, ?hy1401⟩) (by assumption) ?rest1401
          case hy1401 => ((intro w0 hSw; (try dsimp only at hSw); go_simp) <;> with_reducible rfl)
          (try simp only [Act.put, List.setIfInBounds_toArray, List.set_cons_zero, List.set_cons_succ])
          refine wpAnyH_take (i := 1) (oi := { dst := some 56, op := _, type := _, pos := _, after := _, guard := _ }) (v := ?v1402) rfl (by kernel_rfl) (by kernel_rfl) (by kernel_rfl) (fun _ _ _ h => h) (Or.inl ⟨by rfl, ?hy1402⟩) (by assumption) ?rest1402
          case hy1402 => ((intro w0 hSw; (try dsimp only at hSw); go_simp) <;> with_reducible rfl)
          (try simp only [Act.put, List.setIfInBounds_toArray, List.set_cons_zero, List.set_cons_succ])
          refine wpAnyH_take (i := 3) (oi := { dst := some 58, op := _, type := _, pos := _, after := _, guard := _ }) (v := ?v1403) rfl (by kernel_rfl) (by kernel_rfl) (by kernel_rfl) (fun _ _ _ h => h) (Or.inl ⟨by rfl, ?hy1403⟩) (by assumption) ?rest1403
          case hy1403 => ((intro w0 hSw; (try dsimp only at hSw); go_simp) <;> with_reducible rfl)
          (try simp only [Act.put, List.setIfInBounds_toArray, List.set_cons_zero, List.set_cons_succ])
          refine wpAnyH_ready (rs := [2, 4]) (by kernel_rfl) (by simp) ?_
          refine AllReadyH.cons (o := { dst := some 57, op := _, type := _, pos := _, after := _, guard := _ }) rfl (fun K hK => ?_) ?_
          · go_simp
            refine hK.out _ _ ?_ (fun hHeld1404 => ?_)
            · (try dsimp only)
              first | (constructor <;> go_simp) | go_keep
            clear hK K
            (try clear hHeld)
            (try simp only [Act.put, List.setIfInBounds_toArray, List.set_cons_zero, List.set_cons_succ])
            refine wpAnyH_ready (rs := [4]) (by kernel_rfl) (by simp) ?_
            refine AllReadyH.cons (o := { dst := some 59, op := _, type := _, pos := _, after := _, guard := _ }) rfl (fun K hK => ?_) ?_
            · go_simp
              refine (pick_any _ _ _ _ _ (HRD.out.alloc (.cells #[.int .i64 (-1), .int .i64 5] 3)).drew (by omega)).mono ?_
              rintro e w2 ⟨v2, rfl, hv2, hrd2, hg2'⟩
              obtain ⟨hva2, hvb2⟩ := hv2 (by omega)
              obtain ⟨j2, u2, rfl, hj2, hJ2⟩ := pick_mem (us := [-1, 5]) (n := 2) rfl (by omega) hva2 hvb2
              have hg2 : w1.grownBy w2 (some g) := (World.grownBy_alloc w1 (.cells #[.int .i64 (-1), .int .i64 5] 3) _).trans (grown_undrew hg2')
              have hlc : w2.cell? ⟨w1.heap.size, j2, none⟩ = some (.int .i64 u2) := (cell_kept hg2' (by first | omega | (simp <;> omega)) (by first | omega | (simp <;> omega))).trans (hJ2 w1)
              have HJ2 := Lib.hid hJ2
              clear hJ2
              have hx2 := HX.out.grown hg2 (by intro e; injection e; omega)
              have x20 := hx2.fst
              have x21 := hx2.snd
              have hz2 := HZ.out.grown hg2 (by intro e; injection e; omega)
              have z20 := hz2.fst
              have z21 := hz2.snd
              have y20 := hz2.free 0
              have y21 := hz2.free 1
              have ho2 := own_pick2 HO2.out hg2 (by omega)
              obtain ⟨⟨y0, hy0⟩, ff0, hrl⟩ := own_first ho2 (by omega)
              have hbl : w.heap.size + 1 + 1 + 1 < w2.heap.size := (by have := hg2.size; omega)
              have hrl2 : w.heap.size < w2.heap.size := hz2.lt
              have hn1' : w.heap.size ≠ lo := (by omega)
              have hn2' : lo ≠ w.heap.size := (by omega)
              have HS := Lib.hid (ho2.store 0 u2)
              have HOT := Lib.hid (own_pick2 HO1.out hg2 (by omega))
              have HX2 := Lib.hid hx2
              have HZ2 := Lib.hid hz2
              have HG2 := Lib.hid (HG.out.trans hg2)
              have hsz2 := hg2.size
              have HR2 := Lib.hid hrd2
              clear ho2 hx2 hrd2 hz2 hg2 hg2'
              (try go_wp2_with fail)
              refine hK.out _ _ ?_ (fun hHeld1405 => ?_)
              · (try dsimp only)
                first | (constructor <;> go_simp) | go_keep
              clear hK K
              (try clear hHeld1404)
              (try simp only [Act.put, List.setIfInBounds_toArray, List.set_cons_zero, List.set_cons_succ])
              refine wpAnyH_take (i := 5) (oi := { dst := some 60, op := _, type := _, pos := _, after := _, guard := _ }) (v := ?v1406) rfl (by kernel_rfl) (by kernel_rfl) (by kernel_rfl) (fun _ _ _ h => h) (Or.inl ⟨by rfl, ?hy1406⟩) (by assumption) ?rest1406
              case hy1406 => ((intro w0 hSw; (try dsimp only at hSw); go_simp) <;> with_reducible rfl)
              (try simp only [Act.put, List.setIfInBounds_toArray, List.set_cons_zero, List.set_cons_succ])
              refine wpAnyH_ready (rs := [6]) (by kernel_rfl) (by simp) ?_
              refine AllReadyH.cons (o := { dst := some 61, op := _, type := _, pos := _, after := _, guard := _ }) rfl (fun K hK => ?_) ?_
              · go_simp
                refine hK.out _ _ ?_ (fun hHeld1407 => ?_)
                · (try dsimp only)
                  first | (constructor <;> go_simp) | go_keep
                clear hK K
                (try clear hHeld1405)
                (try simp only [Act.put, List.setIfInBounds_toArray, List.set_cons_zero, List.set_cons_succ])
                refine wpAnyH_take (i := 7) (oi := { dst := some 62, op := _, type := _, pos := _, after := _, guard := _ }) (v := ?v1408) rfl (by kernel_rfl) (by kernel_rfl) (by kernel_rfl) (fun _ _ _ h => h) (Or.inl ⟨by rfl, ?hy1408⟩) (by assumption) ?rest1408
                case hy1408 => ((intro w0 hSw; (try dsimp only at hSw); go_simp) <;> with_reducible rfl)
                (try simp only [Act.put, List.setIfInBounds_toArray, List.set_cons_zero, List.set_cons_succ])
                refine wpAnyH_ready (rs := [8]) (by kernel_rfl) (by simp) ?_
                refine AllReadyH.cons (o := { dst := none, op := _, type := _, pos := _, after := _, guard := _ }) rfl (fun K hK => ?_) ?_
                · go_simp
                  refine hK.out _ _ ?_ (fun hHeld1409 => ?_)
                  · (try dsimp only)
                    first | (constructor <;> go_simp) | go_keep
                  clear hK K
                  (try clear hHeld1407)
                  (try simp only [Act.put, List.setIfInBounds_toArray, List.set_cons_zero, List.set_cons_succ])
                  refine wpAnyH_done (by kernel_rfl) ?_ _
                  go_wp2
                  obtain ⟨hz3, ho3, hr3, hg3⟩ := dend_set (y := .int .i64 u2) HZ2.out HOT.out HR2.out hlt HG2.out b3 HA2.out
                  have hb3 := hz3.over (.slice (some ⟨hi, 0, none⟩) n c) (.slice (some ⟨lo, 0, none⟩) n c')
                  have hc3 := hb3.fst
                  have hd3 := hb3.snd
                  have hfin := dframe_end (p := p) ho3 HS.out.1 hr3 hlt hg3 (by omega) hn1 (by omega) (by omega)
                  first
                    | exact bodyPost_ret (v := .agg #[.slice (some ⟨hi, 0, none⟩) n c, .slice (some ⟨lo, 0, none⟩) n c']) (by simp [results, Tryd.results18, go_sem, hc3, hd3]) rfl hfin
                    | exact bodyPost_ret (v := .agg #[.slice (some ⟨hi, 0, none⟩) n c, .slice (some ⟨lo, 0, none⟩) n c']) (by simp [results, Tryd.results18, go_sem, (hb3.alloc _).fst, (hb3.alloc _).snd]) rfl (hfin.alloc _)
                exact AllReadyH.nil
              exact AllReadyH.nil
            exact AllReadyH.nil
          refine AllReadyH.cons (o := { dst := some 59, op := _, type := _, pos := _, after := _, guard := _ }) rfl (fun K hK => ?_) ?_
          · go_simp
            refine (pick_any _ _ _ _ _ HRD.out.drew (by omega)).mono ?_
            rintro e w2 ⟨v2, rfl, hv2, hrd2, hg2'⟩
            obtain ⟨hva2, hvb2⟩ := hv2 (by omega)
            obtain ⟨j2, u2, rfl, hj2, hJ2⟩ := pick_mem (us := [-1, 5]) (n := 2) rfl (by omega) hva2 hvb2
            have hg2 : w1.grownBy w2 (some g) := grown_undrew hg2'
            have hlc : (w2.alloc (.cells #[.int .i64 (-1), .int .i64 5] 3)).cell? ⟨w2.heap.size, j2, none⟩ = some (.int .i64 u2) := hJ2 w2
            have HJ2 := Lib.hid hJ2
            clear hJ2
            have hx2 := HX.out.grown hg2 (by intro e; injection e; omega)
            have x20 := hx2.fst
            have x21 := hx2.snd
            have hz2 := HZ.out.grown hg2 (by intro e; injection e; omega)
            have z20 := hz2.fst
            have z21 := hz2.snd
            have y20 := hz2.free 0
            have y21 := hz2.free 1
            have ho2 := own_pick2 HO2.out hg2 (by omega)
            obtain ⟨⟨y0, hy0⟩, ff0, hrl⟩ := own_first ho2 (by omega)
            have hbl : w.heap.size + 1 + 1 + 1 < w2.heap.size := (by have := hg2.size; omega)
            have hrl2 : w.heap.size < w2.heap.size := hz2.lt
            have hn1' : w.heap.size ≠ lo := (by omega)
            have hn2' : lo ≠ w.heap.size := (by omega)
            have HS := Lib.hid (ho2.store 0 u2)
            have HOT := Lib.hid (own_pick2 HO1.out hg2 (by omega))
            have HX2 := Lib.hid hx2
            have HZ2 := Lib.hid hz2
            have HG2 := Lib.hid (HG.out.trans hg2)
            have hsz2 := hg2.size
            have HR2 := Lib.hid hrd2
            clear ho2 hx2 hrd2 hz2 hg2 hg2'
            (try go_wp2_with fail)
            refine hK.out _ _ ?_ (fun hHeld1410 => ?_)
            · (try dsimp only)
              first | (constructor <;> go_simp) | go_keep
            clear hK K
            (try clear hHeld)
            (try simp only [Act.put, List.setIfInBounds_toArray, List.set_cons_zero, List.set_cons_succ])
            refine wpAnyH_ready (rs := [2]) (by kernel_rfl) (by simp) ?_
            refine AllReadyH.cons (o := { dst := some 57, op := _, type := _, pos := _, after := _, guard := _ }) rfl (fun K hK => ?_) ?_
            · go_simp
              refine hK.out _ _ ?_ (fun hHeld1411 => ?_)
              · (try dsimp only)
                first | (constructor <;> go_simp) | go_keep
              clear hK K
              (try clear hHeld1410)
              (try simp only [Act.put, List.setIfInBounds_toArray, List.set_cons_zero, List.set_cons_succ])
              refine wpAnyH_take (i := 5) (oi := { dst := some 60, op := _, type := _, pos := _, after := _, guard := _ }) (v := ?v1412) rfl (by kernel_rfl) (by kernel_rfl) (by kernel_rfl) (fun _ _ _ h => h) (Or.inl ⟨by rfl, ?hy1412⟩) (by assumption) ?rest1412
              case hy1412 => ((intro w0 hSw; (try dsimp only at hSw); go_simp) <;> with_reducible rfl)
              (try simp only [Act.put, List.setIfInBounds_toArray, List.set_cons_zero, List.set_cons_succ])
              refine wpAnyH_ready (rs := [6]) (by kernel_rfl) (by simp) ?_
              refine AllReadyH.cons (o := { dst := some 61, op := _, type := _, pos := _, after := _, guard := _ }) rfl (fun K hK => ?_) ?_
              · go_simp
                refine hK.out _ _ ?_ (fun hHeld1413 => ?_)
                · (try dsimp only)
                  first | (constructor <;> go_simp) | go_keep
                clear hK K
                (try clear hHeld1411)
                (try simp only [Act.put, List.setIfInBounds_toArray, List.set_cons_zero, List.set_cons_succ])
                refine wpAnyH_take (i := 7) (oi := { dst := some 62, op := _, type := _, pos := _, after := _, guard := _ }) (v := ?v1414) rfl (by kernel_rfl) (by kernel_rfl) (by kernel_rfl) (fun _ _ _ h => h) (Or.inl ⟨by rfl, ?hy1414⟩) (by assumption) ?rest1414
                case hy1414 => ((intro w0 hSw; (try dsimp only at hSw); go_simp) <;> with_reducible rfl)
                (try simp only [Act.put, List.setIfInBounds_toArray, List.set_cons_zero, List.set_cons_succ])
                refine wpAnyH_ready (rs := [8]) (by kernel_rfl) (by simp) ?_
                refine AllReadyH.cons (o := { dst := none, op := _, type := _, pos := _, after := _, guard := _ }) rfl (fun K hK => ?_) ?_
                · go_simp
                  refine hK.out _ _ ?_ (fun hHeld1415 => ?_)
                  · (try dsimp only)
                    first | (constructor <;> go_simp) | go_keep
                  clear hK K
                  (try clear hHeld1413)
                  (try simp only [Act.put, List.setIfInBounds_toArray, List.set_cons_zero, List.set_cons_succ])
                  refine wpAnyH_done (by kernel_rfl) ?_ _
                  go_wp2
                  obtain ⟨hz3, ho3, hr3, hg3⟩ := dend_set (y := .int .i64 u2) HZ2.out HOT.out HR2.out hlt HG2.out b3 HA2.out
                  have hb3 := hz3.over (.slice (some ⟨hi, 0, none⟩) n c) (.slice (some ⟨lo, 0, none⟩) n c')
                  have hc3 := hb3.fst
                  have hd3 := hb3.snd
                  have hfin := dframe_end (p := p) ho3 HS.out.1 hr3 hlt hg3 (by omega) hn1 (by omega) (by omega)
                  first
                    | exact bodyPost_ret (v := .agg #[.slice (some ⟨hi, 0, none⟩) n c, .slice (some ⟨lo, 0, none⟩) n c']) (by simp [results, Tryd.results18, go_sem, hc3, hd3]) rfl hfin
                    | exact bodyPost_ret (v := .agg #[.slice (some ⟨hi, 0, none⟩) n c, .slice (some ⟨lo, 0, none⟩) n c']) (by simp [results, Tryd.results18, go_sem, (hb3.alloc _).fst, (hb3.alloc _).snd]) rfl (hfin.alloc _)
                exact AllReadyH.nil
              exact AllReadyH.nil
            exact AllReadyH.nil
          exact AllReadyH.nil
        · have e1' : (v1 == 1) = false := by simpa using e1
          obtain ⟨hx0, hx1⟩ : w1.cell? ⟨w.heap.size + 1 + 1 + 1, 0, none⟩ = some (.slice (some ⟨hi, 0, none⟩) n c) ∧ w1.cell? ⟨w.heap.size + 1 + 1 + 1, 1, none⟩ = some (.slice (some ⟨lo, 0, none⟩) n c') := ⟨HX.out.fst, HX.out.snd⟩
          obtain ⟨hz0, hz1⟩ : w1.cell? ⟨w.heap.size, 0, none⟩ = some (.slice none 0 0) ∧ w1.cell? ⟨w.heap.size, 1, none⟩ = some (.slice none 0 0) := ⟨HZ.out.fst, HZ.out.snd⟩
          have hy0 := HX.out.free 0
          have hy1 := HX.out.free 1
          have hf0 := HZ.out.free 0
          have hf1 := HZ.out.free 1
          have hxl := HX.out.lt
          have hzl := HZ.out.lt
          by_cases e2 : v1 = 2
          · subst e2
            have k1 : (1 : Int) ≤ (c' : Int) := by omega
            have k2 : (1 : Int) ≤ (n : Int) := by omega
            have k3 : 1 ≤ c' := by omega
            by_cases ec : c' = 1
            · subst ec
              go_wp2
              obtain ⟨hz3, o13, o23, hr3, hg3⟩ := dend_box (j := 1) (y := .slice (some ⟨lo, 0, none⟩) 0 0) HZ.out HO1.out HN1.out HO2.out HN2.out HRD.out hlt HG.out (by omega)
              have hb3 := hz3.over (.slice (some ⟨hi, 0, none⟩) n c) (.slice (some ⟨lo, 0, none⟩) 0 0)
              have hc3 := hb3.fst
              have hd3 := hb3.snd
              exact bodyPost_ret (v := .agg #[.slice (some ⟨hi, 0, none⟩) n c, .slice (some ⟨lo, 0, none⟩) 0 0]) (by simp [results, Tryd.results18, go_sem, hc3, hd3]) rfl (dframe_end2 (p := p) o13 o23 (fun v _ => Ints.nil v _ _) hr3 hlt hg3 (by omega) hn1 (by omega) (by omega) (by omega))
            · have hvb3 : (c' == 1) = false := by simpa using ec
              go_wp2
              obtain ⟨hz3, o13, o23, hr3, hg3⟩ := dend_box (j := 1) (y := .slice (some ⟨lo, 1, none⟩) (n - 1) (c' - 1)) HZ.out HO1.out HN1.out HO2.out HN2.out HRD.out hlt HG.out (by omega)
              have hb3 := hz3.over (.slice (some ⟨hi, 0, none⟩) n c) (.slice (some ⟨lo, 1, none⟩) (n - 1) (c' - 1))
              have hc3 := hb3.fst
              have hd3 := hb3.snd
              exact bodyPost_ret (v := .agg #[.slice (some ⟨hi, 0, none⟩) n c, .slice (some ⟨lo, 1, none⟩) (n - 1) (c' - 1)]) (by simp [results, Tryd.results18, go_sem, hc3, hd3]) rfl (dframe_end2 (p := p) o13 o23 (fun v h => own_tail2 h (by omega) hn1) hr3 hlt hg3 (by omega) hn1 (by omega) (by omega) (by omega))
          · have e2' : (v1 == 2) = false := by simpa using e2
            go_wp2
            have hb3 := HZ.out.over (.slice (some ⟨hi, 0, none⟩) n c) (.slice (some ⟨lo, 0, none⟩) n c')
            have hc3 := hb3.fst
            have hd3 := hb3.snd
            exact bodyPost_ret (v := .agg #[.slice (some ⟨hi, 0, none⟩) n c, .slice (some ⟨lo, 0, none⟩) n c']) (by simp [results, Tryd.results18, go_sem, hc3, hd3]) rfl (dframe_end (p := p) HO1.out HO2.out HRD.out hlt HG.out (by omega) hn1 (by omega) (by omega))
end Go.Proofs.YtpaepdlkjblfgaaDoor
