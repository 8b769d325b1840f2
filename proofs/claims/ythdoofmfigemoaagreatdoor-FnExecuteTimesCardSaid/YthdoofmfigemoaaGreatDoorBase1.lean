/-
  Joined texts: Mem, Common, ExMap, ExMap2, ExFind, Own, Draw, Kit, ExWord, ExSplit, TaBlk, ExParse, TaPlain3, TaMem, Txt, TaNotch, TaNotch2, TaTally, TaPlain.
-/
import Derived.WalkKit
import Derived.Deep.AppendLies
import Derived.Deep.Draws
import Derived.Maps.AppendAt
import Derived.RegionTactic
import Derived.OwnWalk
import Derived.Laws.Rows
import Derived.Laws.CopyOwn
import Derived.Lib.Hide
import Derived.Test.YthdoofmfigemoaaGreatDoorChecked
import Derived.Deep.QuietTactic
import Derived.BigQuiet
import Derived.Handy
import Derived.WalkLawsBesides
import Derived.MapKept
import Derived.WideMake
import Derived.Laws.StructEq
import Derived.Laws.BitsLemmas
import Derived.ArgAppend
import Derived.Test.YthdoofmfigemoaaGreatDoorShelf
import Derived.Lib.SplitLaws
import Derived.Lib.IndexBytes
import Derived.Deep.RegionHeld3
import Derived.Laws.EntriesVeiled
import Derived.Laws.Concat
import Derived.Laws.IdiomStrings

section
/-
  Words for memory: a slice that reads as a list of integers; a row of integers that the call itself made.
-/
namespace Go.Proofs.YthdoofmfigemoaaGreatDoor
open Go.RowKit

/-- what a law's walk is told of a slice of integers that came in -/
def IsRow (k : IntKind) (w : World) (a : Option Addr) (len cap : Nat) (zs : List Int) : Prop :=
  (a = none ∧ len = 0 ∧ cap = 0 ∧ zs = []) ∨
  ∃ x, a = some x ∧ len ≤ cap ∧ cap ≤ maxLen ∧ zs.length = cap ∧ (∀ i, i < zs.length → w.cell? (x.add i) = some (.int k (zs.getD i 0))) ∧ ∀ n ∈ zs, (Lit.int k n).wf = true

theorem ret_int {k : IntKind} {a b : Int} (h : a = b) : Ending.returned (.int k a) = .returned (.int k b) := by rw [h]
theorem ret_bool {a b : Bool} (h : a = b) : Ending.returned (.bool a) = .returned (.bool b) := by rw [h]

/-- the integers as values -/
def IV (xs : List Int) : List Value := xs.map (Value.int .i64)
theorem IV_length (xs : List Int) : (IV xs).length = xs.length := by simp [IV]
theorem IV_append (xs ys : List Int) : IV (xs ++ ys) = IV xs ++ IV ys := by simp [IV]
theorem IV_get {xs : List Int} {j : Nat} {u : Int} (h : xs[j]? = some u) : (IV xs)[j]? = some (.int .i64 u) := by simp [IV, h]
theorem IV_set (xs : List Int) (j : Nat) (u : Int) : (IV xs).set j (.int .i64 u) = IV (xs.set j u) := by simp [IV, List.map_set]
theorem IV_one (xs : List Int) : ∀ u ∈ IV xs, u.oneCell' = true := ints_oneCell .i64 xs

/-- the greatest length of a list here -/
def lenMax : Nat := 1099511627776
/-- A slice of length n at A reads as the integers xs; its cells lie below block B. -/
def Ints (w : World) (B : Nat) (A : Option Addr) (n : Nat) (xs : List Int) : Prop :=
  xs.length = n ∧ n ≤ 1099511627776 ∧ (0 < n → ∃ b off, A = some ⟨b, off, none⟩ ∧ b < B ∧ ∀ j u, xs[j]? = some u → w.cell? ⟨b, off + j, none⟩ = some (.int .i64 u))
/-- A slice of the call's own, from block B on. -/
def Own (w : World) (B : Nat) (A : Option Addr) (n c : Nat) (xs : List Int) : Prop :=
  w.ownsRow B 3 1 (.slice A n c) n (IV xs) ∧ n ≤ 1099511627776

section
variable {w w' : World} {B B' n c : Nat} {A : Option Addr} {xs : List Int}

theorem Ints.len (h : Ints w B A n xs) : xs.length = n := h.1
theorem Ints.bound (h : Ints w B A n xs) : n ≤ 1099511627776 := h.2.1
theorem Ints.at_ {k : Nat} (h : Ints w B A n xs) (hk : k < n) : ∃ b off u, A = some ⟨b, off, none⟩ ∧ b < B ∧ xs[k]? = some u ∧ w.cell? ⟨b, off + k, none⟩ = some (.int .i64 u) := by
  obtain ⟨hl, _, hc⟩ := h
  obtain ⟨b, off, e, hb, hc⟩ := hc (by omega)
  exact ⟨b, off, xs[k], e, hb, List.getElem?_eq_getElem (by omega), hc k _ (List.getElem?_eq_getElem (by omega))⟩
theorem Ints.addr (h : Ints w B A n xs) (hn : 0 < n) : ∃ b off, A = some ⟨b, off, none⟩ ∧ b < B ∧ ∀ j u, xs[j]? = some u → w.cell? ⟨b, off + j, none⟩ = some (.int .i64 u) := h.2.2 hn
theorem Ints.nil (w : World) (B : Nat) (A : Option Addr) : Ints w B A 0 [] := ⟨rfl, by omega, fun h => absurd h (by omega)⟩
theorem Ints.keep (h : Ints w B A n xs) (hk : ∀ p : Addr, p.block < B → w'.cell? p = w.cell? p) : Ints w' B A n xs :=
  ⟨h.1, h.2.1, fun hn => by
    obtain ⟨b, off, e, hb, hc⟩ := h.2.2 hn
    exact ⟨b, off, e, hb, fun j u hu => (hk _ hb).trans (hc j u hu)⟩⟩
theorem Ints.mono (h : Ints w B A n xs) (hB : B ≤ B') : Ints w B' A n xs :=
  ⟨h.1, h.2.1, fun hn => by
    obtain ⟨b, off, e, hb, hc⟩ := h.2.2 hn
    exact ⟨b, off, e, by omega, hc⟩⟩
theorem Ints.below (h : Ints w B A n xs) (hb : Below B w w') : Ints w' B A n xs := h.keep fun _ hp => hb.cell hp
/-- behind a call: what is read there was there -/
theorem Ints.next (h : Ints w w.heap.size A n xs) (hb : Below w.heap.size w w') : Ints w' w'.heap.size A n xs := (h.below hb).mono hb.size
theorem Ints.drew (h : Ints w B A n xs) : Ints w.drew B A n xs := h
theorem Ints.drewN (h : Ints w B A n xs) (k : Nat) : Ints (w.drewN k) B A n xs := h
theorem Ints.alloc (h : Ints w B A n xs) (hB : B ≤ w.heap.size) (o : Obj) : Ints (w.alloc o) B A n xs := h.keep fun p hp => World.cell?_alloc_lt w o p (by omega)
theorem Ints.setCell (h : Ints w B A n xs) {p : Addr} (hB : B ≤ p.block) (u : Value) : Ints (w.setCell p u) B A n xs :=
  h.keep fun q hq => World.cell?_setCell_other w p q u (fun e => by subst e; omega)
theorem Ints.grown (h : Ints w B A n xs) {row : Option Nat} (hg : w.grownBy w' row) (hB : B ≤ w.heap.size) (hr : ∀ g, row = some g → B ≤ g) : Ints w' B A n xs :=
  h.keep fun p hp => World.cell?_of_block (hg.block p.block (by omega) (fun e => by have := hr _ e.symm; omega))
theorem add_row (g j : Nat) : (⟨g, 0, none⟩ : Addr).add j = ⟨g, j, none⟩ := by unfold Addr.add; split <;> simp_all

theorem Own.len (h : Own w B A n c xs) : xs.length = n := by have := h.1.1; simpa [IV] using this
theorem Own.bound (h : Own w B A n c xs) : n ≤ 1099511627776 := h.2
theorem Own.nil (w : World) (B : Nat) : Own w B none 0 0 [] := ⟨World.ownsRow_nil _ _ _ _, by omega⟩
theorem Own.ints (h : Own w B A n c xs) : Ints w w.heap.size A n xs := by
  refine ⟨h.len, h.2, fun hn => ?_⟩
  obtain ⟨g, cap, hv, _, hlt⟩ := h.1.form hn
  have hA : A = some ⟨g, 0, none⟩ := by injection hv
  subst hA
  refine ⟨g, 0, rfl, hlt, fun j u hu => ?_⟩
  have := h.1.cells (g := g) rfl j _ (IV_get hu)
  rw [add_row] at this
  simpa using this
/-- where a row of the call's own that holds something lies -/
theorem Own.at_ (h : Own w B A n c xs) (hn : 0 < n) : ∃ g, A = some ⟨g, 0, none⟩ ∧ B ≤ g ∧ g < w.heap.size ∧ (∀ j u, xs[j]? = some u → w.cell? ⟨g, j, none⟩ = some (.int .i64 u)) ∧ ∀ j, w.frozen? ⟨g, j, none⟩ = false := by
  obtain ⟨g, cap, hv, _, hlt⟩ := h.1.form hn
  have hA : A = some ⟨g, 0, none⟩ := by injection hv
  subst hA
  have hlt := h.1.lt g rfl
  refine ⟨g, rfl, hlt.1, hlt.2, fun j u hu => ?_, fun j => ?_⟩
  · have := h.1.cells (g := g) rfl j _ (IV_get hu)
    rwa [add_row] at this
  · exact h.1.frozenAt j
theorem Own.store {g : Nat} (h : Own w B (some ⟨g, 0, none⟩) n c xs) (j : Nat) (u : Int) :
    Own (w.setCell ⟨g, j, none⟩ (.int .i64 u)) B (some ⟨g, 0, none⟩) n c (xs.set j u) ∧ w.grownBy (w.setCell ⟨g, j, none⟩ (.int .i64 u)) (some g) := by
  obtain ⟨h1, h2⟩ := h.1.stored j (.int .i64 u)
  rw [IV_set] at h1
  exact ⟨⟨h1, h.2⟩, h2⟩
theorem Own.mono (h : Own w B A n c xs) (hB : B' ≤ B) : Own w B' A n c xs := by
  refine ⟨⟨h.1.1, ?_⟩, h.2⟩
  rcases h.1.2 with h0 | ⟨g, cap, cur, hv, hb, rest⟩
  · exact .inl h0
  · exact .inr ⟨g, cap, cur, hv, by omega, rest⟩
theorem Own.blk (h : Own w B A n c xs) : ∀ k, (Value.slice A n c).ownBlock = some k → B ≤ k ∧ k < w.heap.size := h.1.lt
theorem Own.kept {row : Option Nat} (h : Own w B A n c xs) (hg : w.grownBy w' row) (hne : ∀ k, (Value.slice A n c).ownBlock = some k → row ≠ some k) : Own w' B A n c xs :=
  ⟨h.1.kept hg (by
    cases hv : (Value.slice A n c).ownBlock with
    | none => exact .inl rfl
    | some k => exact .inr (fun e => hne k hv e.symm)), h.2⟩
theorem Own.alloc (h : Own w B A n c xs) (o : Obj) : Own (w.alloc o) B A n c xs := ⟨h.1.alloc o, h.2⟩
theorem Own.drew (h : Own w B A n c xs) : Own w.drew B A n c xs := h
theorem Own.drewN (h : Own w B A n c xs) (k : Nat) : Own (w.drewN k) B A n c xs := h
/-- what is owned stays owned over a call that leaves old memory alone -/
theorem Own.next (h : Own w B A n c xs) (hb : Below w.heap.size w w') : Own w' B A n c xs := by
  refine h.kept (row := none) ⟨hb.os, hb.tape, hb.output, hb.size, fun k hk _ => hb.block k hk⟩ ?_
  intro k _ e
  cases e
theorem Own.below {B1 : Nat} (h : Own w B A n c xs) (hlt : ∀ k, (Value.slice A n c).ownBlock = some k → k < B1) (hb : Below B1 w w') : Own w' B A n c xs := by
  refine ⟨⟨h.1.1, ?_⟩, h.2⟩
  rcases h.1.2 with h0 | ⟨g, cap, cur, hv, h1, hg, rest⟩
  · exact .inl h0
  · refine .inr ⟨g, cap, cur, hv, h1, ?_, rest⟩
    rw [hb.block g (hlt g (by rw [hv]; rfl))]
    exact hg
end

theorem Ints.of_row {w : World} {a : Option Addr} {len cap : Nat} {zs : List Int} (h : IsRow .i64 w a len cap zs) (hl : len ≤ 1099511627776) : Ints w w.heap.size a len (zs.take len) := by
  rcases h with ⟨rfl, rfl, rfl, rfl⟩ | ⟨x, rfl, h1, h2, h3, h4, _⟩
  · exact Ints.nil _ _ _
  · refine ⟨by rw [List.length_take]; omega, hl, fun hn => ?_⟩
    obtain ⟨b, off, spot⟩ := x
    have h0 := h4 0 (by omega)
    have hs : spot = none := by simpa [Addr.add] using World.cell?_spot h0
    subst hs
    refine ⟨b, off, rfl, by simpa [Addr.add] using World.block_lt_of_cell? w _ h0, fun j u hu => ?_⟩
    rw [List.getElem?_take] at hu
    split at hu
    · have := h4 j (by omega)
      rw [List.getD_eq_getElem?_getD, hu] at this
      have e : (⟨b, off, none⟩ : Addr).add j = ⟨b, off + j, none⟩ := by unfold Addr.add; split <;> simp_all
      rw [e] at this
      exact this
    · cases hu

/-- the append of one integer that lies in a new block of its own -/
theorem news_one (w : World) (u : Value) (t : TypeId) : ∀ j v, [u][j]? = some v → (w.alloc (.cells #[u] t)).cell? ((⟨w.heap.size, 0, none⟩ : Addr).add j) = some v := by
  intro j v hj
  match j, hj with
  | 0, hj => simp at hj; subst hj; simp [Addr.add]
  | j + 1, hj => simp at hj
theorem Own.of_app {w : World} {B n m : Nat} {v : Value} {xs : List Int} {ys : List Value} (us : List Int) (hy : ys = IV us) (h : w.ownsRow B 3 1 v (n + m) (IV xs ++ ys)) (hn : n + m ≤ 1099511627776) :
    ∃ A c, v = .slice A (n + m) c ∧ Own w B A (n + m) c (xs ++ us) := by
  subst hy
  rw [← IV_append] at h
  rcases h.2 with ⟨rfl, h0⟩ | ⟨g, cap, cur, rfl, _⟩
  · rw [h0] at h ⊢
    exact ⟨none, 0, rfl, h, by omega⟩
  · exact ⟨_, _, rfl, h, hn⟩
theorem below_drewN {B : Nat} {a w : World} (h : Below B a w) (n : Nat) : Below B a (w.drewN n) := ⟨h.os, h.tape, h.output, h.size, h.block⟩
theorem below_chain {a b c : World} (h : Below a.heap.size a b) (k : Below b.heap.size b c) : Below a.heap.size a c := h.trans (k.mono h.size)
theorem grown_below {B : Nat} {w w' : World} {row : Option Nat} (hg : w.grownBy w' row) (hB : B ≤ w.heap.size) (hr : ∀ k, row = some k → B ≤ k) : Below B w w' := (Below.refl B w).grown hg hB hr
/-- cells and marks that were there, behind a call: two rules of the walk -/
theorem bcell {W w1 : World} (hb : Below W.heap.size W w1) : (∀ b o, b < W.heap.size → w1.cell? ⟨b, o, none⟩ = W.cell? ⟨b, o, none⟩) ∧ (∀ b o, b < W.heap.size → w1.frozen? ⟨b, o, none⟩ = W.frozen? ⟨b, o, none⟩) :=
  ⟨fun b o h => hb.cell (p := ⟨b, o, none⟩) h, fun b o h => hb.frozen (p := ⟨b, o, none⟩) h⟩
end Go.Proofs.YthdoofmfigemoaaGreatDoor
end

section
/-
  The laws' own small helpers: lists of integers that are compared and copied; whatever the lists.
-/
namespace Go.Proofs.YthdoofmfigemoaaGreatDoor
open Go.RowKit

def sameB (xs ys : List Int) : Bool := decide (xs = ys)
theorem sameB_iff (xs ys : List Int) : sameB xs ys = true ↔ xs = ys := by simp [sameB]
theorem sameB_self (xs : List Int) : sameB xs xs = true := by simp [sameB]
theorem sameB_ne {xs ys : List Int} (h : xs ≠ ys) : sameB xs ys = false := by simpa [sameB] using h
theorem take_next {α : Type} {xs : List α} {k : Nat} {u : α} (h : xs[k]? = some u) : xs.take (k + 1) = xs.take k ++ [u] := by rw [List.take_add_one, h]; rfl
theorem at_ne {xs ys : List Int} {k : Nat} {u v : Int} (h1 : xs[k]? = some u) (h2 : ys[k]? = some v) (h : (u != v) = true) : sameB xs ys = false := by
  refine sameB_ne fun e => ?_
  rw [e, h2] at h1
  simp at h1
  simp [h1] at h
theorem take_all {xs ys : List Int} {n : Nat} (hx : xs.length = n) (hy : ys.length = n) (h : xs.take n = ys.take n) : sameB xs ys = true := by
  rw [List.take_of_length_le (by omega), List.take_of_length_le (by omega)] at h
  exact (sameB_iff _ _).2 h

set_option maxHeartbeats 400000 in
theorem sameInts_any (A B : Option Addr) (n m ca cb : Nat) (xs ys : List Int) (w : World) (B1 B2 : Nat) (hx : Ints w B1 A n xs) (hy : Ints w B2 B m ys) :
    Calls Tryz.prog 27 #[.slice A n ca, .slice B m cb] w fun e w' => e = .returned (.bool (sameB xs ys)) ∧ ∃ k, w' = w.drewN k := by
  have hlx := hx.len
  have hly := hy.len
  have hbx := hx.bound
  by_cases hnm : n = m
  · subst hnm
    have HX := Lib.hid hlx
    have HY := Lib.hid hly
    clear hlx hly
    go_enter Tryz.func27, Tryz.ntmps27
    go_wp2
    go_loopw [5] (fun i wr => ∃ k q : Nat, k ≤ n ∧ i = .int .i64 k ∧ wr = w.drewN q ∧ xs.take k = ys.take k) (fun i _ => n - (intOf i).toNat)
    case atStart => exact ⟨0, 0, Nat.zero_le _, rfl, rfl, rfl⟩
    case round =>
      obtain ⟨k, q, hk, rfl, rfl, heq⟩ := hrel
      have HEQ := Lib.hid heq
      clear heq
      by_cases hlt : k < n
      · obtain ⟨b1, o1, u, rfl, hb1, hu, hc1⟩ := hx.at_ hlt
        obtain ⟨b2, o2, v, rfl, hb2, hv, hc2⟩ := hy.at_ hlt
        have HU := Lib.hid hu
        have HV := Lib.hid hv
        clear hu hv
        rcases hne : (u != v) with _ | _
        · go_wp2_with fail
          go_quiet (fail)
          go_wp2
          go_roundw
          case rel =>
            have e : u = v := by simpa using hne
            subst e
            exact ⟨k + 1, _, by omega, by go_num, rfl, by rw [take_next HU.out, take_next HV.out, HEQ.out]⟩
          case measure => simp [intOf]; omega
        · go_wp2_with fail
          go_quiet (fail)
          go_wp2
          go_ret
          exact ⟨ret_bool (at_ne HU.out HV.out hne).symm, _, World.drewN_drewN _ _ _⟩
      · go_wp2
        go_ret
        obtain rfl : k = n := by omega
        exact ⟨ret_bool (take_all HX.out HY.out HEQ.out).symm, _, rfl⟩
  · go_enter Tryz.func27, Tryz.ntmps27
    go_wp2
    go_ret
    exact ⟨ret_bool (by simp [sameB]; intro h; rw [h] at hlx; omega), 0, rfl⟩

set_option maxHeartbeats 400000 in
theorem l6In_any (n a b : Int) (w : World) : Calls Tryz.prog 67 #[.int .i64 n, .int .i64 a, .int .i64 b] w fun e w' => e = .returned (.bool (decide (a ≤ n) && decide (n ≤ b))) ∧ w = w' := by
  by_cases h1 : a ≤ n <;> by_cases h2 : n ≤ b
  all_goals
    go_enter Tryz.func67, Tryz.ntmps67
    go_wp2
    go_ret
    exact ⟨ret_bool (by simp [h1, h2]), rfl⟩
end Go.Proofs.YthdoofmfigemoaaGreatDoor
end

section
/-
  The program's commands by their words: the map that commandsByWord makes, and a look-up in it.
-/
namespace Go.Proofs.YthdoofmfigemoaaGreatDoor
open Go.RowKit
set_option linter.unusedSimpArgs false

/-- none of the entries has this word -/
def Fresh (k : ByteArray) (es : List MapEntry) : Prop := Instr.findNow .string (.string k) es 0 = some none
theorem push_set (a : Array Obj) (o o' : Obj) : (a.push o).setIfInBounds a.size o' = a.push o' := by
  apply Array.ext'
  simp
theorem alloc_set (w : World) (o o' : Obj) : { (w.alloc o) with heap := (w.alloc o).heap.setIfInBounds w.heap.size o' } = w.alloc o' := by
  show ({ w with heap := (w.heap.push o).setIfInBounds w.heap.size o' } : World) = { w with heap := w.heap.push o' }
  rw [push_set]
theorem run_insert (w : World) (es : Array MapEntry) (cl : Nat) (k : ByteArray) (v : Value) (hf : Fresh k es.toList) :
    (Instr.mapUpdate 177 (.map (some w.heap.size)) (.string k) v).run Tryz.prog (w.alloc (.map es cl)) = .ok () (w.alloc (.map (es.push { key := .string k, val := v, born := cl }) (cl + 1))) := by
  have hb : (w.alloc (.map es cl)).heap[w.heap.size]? = some (.map es cl) := by unfold World.alloc; simp
  have hf' : Instr.findNow .string (.string k) es.toList 0 = some none := hf
  have hc : (Instr.checkKey false 10000 9 (.string k)).run Tryz.prog (w.alloc (.map es cl)) = .ok () (w.alloc (.map es cl)) := MapKept.run_checkKey (k := .string k) Tryz.underlying9 (by simp [MapKept.IsKey]) false 9999
  simp [Instr.mapUpdate, run_underlying Tryz.underlying177, MapKept.run_getObj_map hb, hc, MapKept.run_findKey Tryz.underlying9 hf', MapKept.run_setObj_map _ hb, Result.andThen]
  exact alloc_set w (.map es cl) _
theorem run_lookup_is (w : World) (r : Nat) (es : Array MapEntry) (cl : Nat) (hb : w.heap[r]? = some (.map es cl)) (k : ByteArray) (i : Nat) (v : Value) (hf : Instr.findNow .string (.string k) es.toList 0 = some (some (i, v))) :
    (Instr.lookup 177 (.map (some r)) (.string k) true).run Tryz.prog w = .ok (.tuple #[v, .bool true]) w := by
  have hc : (Instr.checkKey es.isEmpty 10000 9 (.string k)).run Tryz.prog w = .ok () w := MapKept.run_checkKey (k := .string k) Tryz.underlying9 (by simp [MapKept.IsKey]) _ 9999
  simp [Instr.lookup, run_underlying Tryz.underlying177, MapKept.run_getObj_map hb, hc, MapKept.run_findKey Tryz.underlying9 hf, Result.andThen]
theorem zero_cmd (w : World) : (zeroValue 139).run Tryz.prog w = .ok (.agg #[.int .i64 0, .nilFunc]) w := by kernel_rfl
theorem run_lookup_none (w : World) (r : Nat) (es : Array MapEntry) (cl : Nat) (hb : w.heap[r]? = some (.map es cl)) (k : ByteArray) (hf : Fresh k es.toList) :
    (Instr.lookup 177 (.map (some r)) (.string k) true).run Tryz.prog w = .ok (.tuple #[.agg #[.int .i64 0, .nilFunc], .bool false]) w := by
  have hf' : Instr.findNow .string (.string k) es.toList 0 = some none := hf
  have hc : (Instr.checkKey es.isEmpty 10000 9 (.string k)).run Tryz.prog w = .ok () w := MapKept.run_checkKey (k := .string k) Tryz.underlying9 (by simp [MapKept.IsKey]) _ 9999
  simp [Instr.lookup, run_underlying Tryz.underlying177, MapKept.run_getObj_map hb, hc, MapKept.run_findKey Tryz.underlying9 hf', zero_cmd, Result.andThen]
end Go.Proofs.YthdoofmfigemoaaGreatDoor
end

section
/-
  The map that commandsByWord makes.
-/
namespace Go.Proofs.YthdoofmfigemoaaGreatDoor
open Go.RowKit
set_option linter.unusedSimpArgs false

/-- the commands in their order: the word, how many numbers, the function -/
def cmds : List (List UInt8 × Nat × Nat) :=
  [([108, 97, 121], 1, 156),
   ([114, 101, 100, 117, 99, 101], 0, 157),
   ([114, 97, 105, 115, 101], 1, 158),
   ([98, 111, 97, 114, 100], 0, 159),
   ([118, 97, 108, 117, 101], 0, 160),
   ([97, 100, 100], 1, 161),
   ([116, 97, 107, 101], 1, 162),
   ([102, 114, 97, 109, 101], 0, 163),
   ([116, 105, 109, 101, 115], 2, 164),
   ([100, 111, 117, 98, 108, 101], 2, 165),
   ([117, 110, 105, 116, 115], 2, 166),
   ([111, 119, 101], 3, 167),
   ([115, 101, 116, 116, 108, 101], 0, 168),
   ([116, 97, 108, 108, 105, 101, 115], 0, 169),
   ([114, 111, 111, 116], 1, 170)]
def entryOf (x : (List UInt8 × Nat × Nat) × Nat) : MapEntry := { key := .string ⟨x.1.1.toArray⟩, val := .agg #[.int .i64 (x.1.2.1 : Int), .func (.func x.1.2.2) #[] #[]], born := x.2 }
def E (m : Nat) : Array MapEntry := ((cmds.take m).zipIdx.map entryOf).toArray
theorem ins0 (w : World) : (Instr.mapUpdate 177 (.map (some w.heap.size)) (.string ⟨#[108, 97, 121]⟩) (.agg #[.int .i64 1, .func (.func 156) #[] #[]])).run Tryz.prog (w.alloc (.map (E 0) 0)) = .ok () (w.alloc (.map (E 1) 1)) :=
  run_insert w (E 0) 0 ⟨#[108, 97, 121]⟩ _ (by unfold Fresh; rfl)
theorem ins1 (w : World) : (Instr.mapUpdate 177 (.map (some w.heap.size)) (.string ⟨#[114, 101, 100, 117, 99, 101]⟩) (.agg #[.int .i64 0, .func (.func 157) #[] #[]])).run Tryz.prog (w.alloc (.map (E 1) 1)) = .ok () (w.alloc (.map (E 2) 2)) :=
  run_insert w (E 1) 1 ⟨#[114, 101, 100, 117, 99, 101]⟩ _ (by unfold Fresh; rfl)
theorem ins2 (w : World) : (Instr.mapUpdate 177 (.map (some w.heap.size)) (.string ⟨#[114, 97, 105, 115, 101]⟩) (.agg #[.int .i64 1, .func (.func 158) #[] #[]])).run Tryz.prog (w.alloc (.map (E 2) 2)) = .ok () (w.alloc (.map (E 3) 3)) :=
  run_insert w (E 2) 2 ⟨#[114, 97, 105, 115, 101]⟩ _ (by unfold Fresh; rfl)
theorem ins3 (w : World) : (Instr.mapUpdate 177 (.map (some w.heap.size)) (.string ⟨#[98, 111, 97, 114, 100]⟩) (.agg #[.int .i64 0, .func (.func 159) #[] #[]])).run Tryz.prog (w.alloc (.map (E 3) 3)) = .ok () (w.alloc (.map (E 4) 4)) :=
  run_insert w (E 3) 3 ⟨#[98, 111, 97, 114, 100]⟩ _ (by unfold Fresh; rfl)
theorem ins4 (w : World) : (Instr.mapUpdate 177 (.map (some w.heap.size)) (.string ⟨#[118, 97, 108, 117, 101]⟩) (.agg #[.int .i64 0, .func (.func 160) #[] #[]])).run Tryz.prog (w.alloc (.map (E 4) 4)) = .ok () (w.alloc (.map (E 5) 5)) :=
  run_insert w (E 4) 4 ⟨#[118, 97, 108, 117, 101]⟩ _ (by unfold Fresh; rfl)
theorem ins5 (w : World) : (Instr.mapUpdate 177 (.map (some w.heap.size)) (.string ⟨#[97, 100, 100]⟩) (.agg #[.int .i64 1, .func (.func 161) #[] #[]])).run Tryz.prog (w.alloc (.map (E 5) 5)) = .ok () (w.alloc (.map (E 6) 6)) :=
  run_insert w (E 5) 5 ⟨#[97, 100, 100]⟩ _ (by unfold Fresh; rfl)
theorem ins6 (w : World) : (Instr.mapUpdate 177 (.map (some w.heap.size)) (.string ⟨#[116, 97, 107, 101]⟩) (.agg #[.int .i64 1, .func (.func 162) #[] #[]])).run Tryz.prog (w.alloc (.map (E 6) 6)) = .ok () (w.alloc (.map (E 7) 7)) :=
  run_insert w (E 6) 6 ⟨#[116, 97, 107, 101]⟩ _ (by unfold Fresh; rfl)
theorem ins7 (w : World) : (Instr.mapUpdate 177 (.map (some w.heap.size)) (.string ⟨#[102, 114, 97, 109, 101]⟩) (.agg #[.int .i64 0, .func (.func 163) #[] #[]])).run Tryz.prog (w.alloc (.map (E 7) 7)) = .ok () (w.alloc (.map (E 8) 8)) :=
  run_insert w (E 7) 7 ⟨#[102, 114, 97, 109, 101]⟩ _ (by unfold Fresh; rfl)
theorem ins8 (w : World) : (Instr.mapUpdate 177 (.map (some w.heap.size)) (.string ⟨#[116, 105, 109, 101, 115]⟩) (.agg #[.int .i64 2, .func (.func 164) #[] #[]])).run Tryz.prog (w.alloc (.map (E 8) 8)) = .ok () (w.alloc (.map (E 9) 9)) :=
  run_insert w (E 8) 8 ⟨#[116, 105, 109, 101, 115]⟩ _ (by unfold Fresh; rfl)
theorem ins9 (w : World) : (Instr.mapUpdate 177 (.map (some w.heap.size)) (.string ⟨#[100, 111, 117, 98, 108, 101]⟩) (.agg #[.int .i64 2, .func (.func 165) #[] #[]])).run Tryz.prog (w.alloc (.map (E 9) 9)) = .ok () (w.alloc (.map (E 10) 10)) :=
  run_insert w (E 9) 9 ⟨#[100, 111, 117, 98, 108, 101]⟩ _ (by unfold Fresh; rfl)
theorem ins10 (w : World) : (Instr.mapUpdate 177 (.map (some w.heap.size)) (.string ⟨#[117, 110, 105, 116, 115]⟩) (.agg #[.int .i64 2, .func (.func 166) #[] #[]])).run Tryz.prog (w.alloc (.map (E 10) 10)) = .ok () (w.alloc (.map (E 11) 11)) :=
  run_insert w (E 10) 10 ⟨#[117, 110, 105, 116, 115]⟩ _ (by unfold Fresh; rfl)
theorem ins11 (w : World) : (Instr.mapUpdate 177 (.map (some w.heap.size)) (.string ⟨#[111, 119, 101]⟩) (.agg #[.int .i64 3, .func (.func 167) #[] #[]])).run Tryz.prog (w.alloc (.map (E 11) 11)) = .ok () (w.alloc (.map (E 12) 12)) :=
  run_insert w (E 11) 11 ⟨#[111, 119, 101]⟩ _ (by unfold Fresh; rfl)
theorem ins12 (w : World) : (Instr.mapUpdate 177 (.map (some w.heap.size)) (.string ⟨#[115, 101, 116, 116, 108, 101]⟩) (.agg #[.int .i64 0, .func (.func 168) #[] #[]])).run Tryz.prog (w.alloc (.map (E 12) 12)) = .ok () (w.alloc (.map (E 13) 13)) :=
  run_insert w (E 12) 12 ⟨#[115, 101, 116, 116, 108, 101]⟩ _ (by unfold Fresh; rfl)
theorem ins13 (w : World) : (Instr.mapUpdate 177 (.map (some w.heap.size)) (.string ⟨#[116, 97, 108, 108, 105, 101, 115]⟩) (.agg #[.int .i64 0, .func (.func 169) #[] #[]])).run Tryz.prog (w.alloc (.map (E 13) 13)) = .ok () (w.alloc (.map (E 14) 14)) :=
  run_insert w (E 13) 13 ⟨#[116, 97, 108, 108, 105, 101, 115]⟩ _ (by unfold Fresh; rfl)
theorem ins14 (w : World) : (Instr.mapUpdate 177 (.map (some w.heap.size)) (.string ⟨#[114, 111, 111, 116]⟩) (.agg #[.int .i64 1, .func (.func 170) #[] #[]])).run Tryz.prog (w.alloc (.map (E 14) 14)) = .ok () (w.alloc (.map (E 15) 15)) :=
  run_insert w (E 14) 14 ⟨#[114, 111, 111, 116]⟩ _ (by unfold Fresh; rfl)
theorem made (w : World) : (Instr.makeMap 177 none).run Tryz.prog w = .ok (.map (some w.heap.size)) (w.alloc (.map (E 0) 0)) := run_makeMap_plain w _
set_option maxRecDepth 100000 in
set_option maxHeartbeats 1000000 in
theorem commandsByWord_any (w : World) : Calls Tryz.prog 128 #[] w fun e w' => e = .returned (.map (some w.heap.size)) ∧ w' = w.alloc (.map (E 15) 15) := by
  have hm := made w
  have h0 := ins0 w
  have h1 := ins1 w
  have h2 := ins2 w
  have h3 := ins3 w
  have h4 := ins4 w
  have h5 := ins5 w
  have h6 := ins6 w
  have h7 := ins7 w
  have h8 := ins8 w
  have h9 := ins9 w
  have h10 := ins10 w
  have h11 := ins11 w
  have h12 := ins12 w
  have h13 := ins13 w
  have h14 := ins14 w
  go_enter Tryz.func128, Tryz.ntmps128
  go_wp2
  go_ret
  exact ⟨rfl, rfl⟩
end Go.Proofs.YthdoofmfigemoaaGreatDoor
end

section
/-
  The command of a word, looked up in the map.
-/
namespace Go.Proofs.YthdoofmfigemoaaGreatDoor
open Go.RowKit
set_option linter.unusedSimpArgs false

/-- the command of a word: how many numbers, and the function -/
def cmdOf (k : ByteArray) : Option (Nat × Nat) := (cmds.find? fun x => decide (k.data.toList = x.1)).map (·.2)
def cmdVal (c : Nat × Nat) : Value := .agg #[.int .i64 (c.1 : Int), .func (.func c.2) #[] #[]]
theorem same_str (k : ByteArray) (l : List UInt8) : Instr.sameNow .string (.string k) (.string ⟨l.toArray⟩) = some (decide (k.data.toList = l)) := by
  show some (k == ⟨l.toArray⟩) = _
  congr 1
  rw [beq_toListBytes, ByteArray.toList_eq, ByteArray.toList_eq]
  by_cases h : k.data.toList = l
  · simp [h]
  · simp [h]
theorem find_now (k : ByteArray) : ∀ (l : List (List UInt8 × Nat × Nat)) (i j : Nat),
    match l.find? fun x => decide (k.data.toList = x.1) with
    | none => Instr.findNow .string (.string k) ((l.zipIdx j).map entryOf) i = some none
    | some x => ∃ q, Instr.findNow .string (.string k) ((l.zipIdx j).map entryOf) i = some (some (q, cmdVal x.2))
  | [], i, j => rfl
  | x :: l, i, j => by
    have ih := find_now k l (i + 1) (j + 1)
    rw [List.find?_cons]
    by_cases h : k.data.toList = x.1
    · simp only [h, decide_true]
      refine ⟨i, ?_⟩
      show (match Instr.sameNow .string (.string k) (.string ⟨x.1.toArray⟩) with | some true => _ | some false => _ | none => _) = _
      rw [same_str, decide_eq_true h]
      rfl
    · simp only [h, decide_false]
      have e : Instr.findNow .string (.string k) (((x :: l).zipIdx j).map entryOf) i = Instr.findNow .string (.string k) ((l.zipIdx (j + 1)).map entryOf) (i + 1) := by
        show (match Instr.sameNow .string (.string k) (.string ⟨x.1.toArray⟩) with | some true => _ | some false => _ | none => _) = _
        rw [same_str, decide_eq_false h]
      simp only [e]
      exact ih
theorem lookup_yes {k : ByteArray} {c : Nat × Nat} (h : cmdOf k = some c) (w : World) (r : Nat) (hb : w.heap[r]? = some (.map (E 15) 15)) :
    (Instr.lookup 177 (.map (some r)) (.string k) true).run Tryz.prog w = .ok (.tuple #[cmdVal c, .bool true]) w := by
  have := find_now k cmds 0 0
  unfold cmdOf at h
  cases hf : cmds.find? fun x => decide (k.data.toList = x.1) with
  | none => rw [hf] at h; cases h
  | some x =>
    rw [hf] at h this
    have h : x.2 = c := Option.some.inj h
    obtain ⟨q, hq⟩ := this
    rw [h] at hq
    exact run_lookup_is w r (E 15) 15 hb k q _ hq
theorem lookup_no {k : ByteArray} (h : cmdOf k = none) (w : World) (r : Nat) (hb : w.heap[r]? = some (.map (E 15) 15)) :
    (Instr.lookup 177 (.map (some r)) (.string k) true).run Tryz.prog w = .ok (.tuple #[.agg #[.int .i64 0, .nilFunc], .bool false]) w := by
  have := find_now k cmds 0 0
  unfold cmdOf at h
  cases hf : cmds.find? fun x => decide (k.data.toList = x.1) with
  | none =>
    rw [hf] at this
    exact run_lookup_none w r (E 15) 15 hb k this
  | some x => rw [hf] at h; cases h
end Go.Proofs.YthdoofmfigemoaaGreatDoor
end

section
/-
  append and make on lists of integers of the call's own: the walk's laws, in the words of Mem.
-/
namespace Go.Proofs.YthdoofmfigemoaaGreatDoor
open Go.RowKit

theorem own_int_info : (Tryz.prog.info? 3).map (fun i => (i.zero, i.size, i.bytes)) = some (some (.int .i64 0), 1, 8) := by kernel_rfl

/-- what was there below B is still there behind a step that wrote an own row alone -/
theorem below_step {B : Nat} {a w w' : World} {A : Option Addr} {n c : Nat} {xs : List Int} (h : Below B a w) (hg : w.grownBy w' (Value.slice A n c).ownBlock) (ho : Own w B A n c xs) (hB : B ≤ w.heap.size) : Below B a w' :=
  h.grown hg hB fun k hk => (ho.blk k hk).1

/-- append(out, u, ..): the new elements were laid in a block of their own just before -/
theorem wpList_app {ops : Array Oper} {rest : List Oper} {o : Oper} {a : Act} {w : World} {Q : Exit → Act → World → Prop} (hgd : o.guard = none) (s x : Operand)
    (ho : o.op = .call { callee := .builtin .append, args := #[s, x], argTypes := #[28, 28] })
    {B : Nat} {A : Option Addr} {n c : Nat} {xs : List Int} (hs : a.eval s = .slice A n c) (hown : Own w B A n c xs) (us : List Int) (m : Nat) (hm : us.length = m) (c0 : Nat)
    (hx : a.eval x = .slice (some ⟨w.heap.size, 0, none⟩) m c0) (cs : Array Value) (hcs : cs = (IV us).toArray) (hn : n + m ≤ 1099511627776) (hB : B ≤ w.heap.size)
    (h : ∀ A' c' w', Own w' B A' (n + m) c' (xs ++ us) → w.grownBy w' (Value.slice A n c).ownBlock → wpList Tryz.prog ops Q rest (a.put o.dst (.slice A' (n + m) c')) w') :
    wpList Tryz.prog ops Q (o :: rest) a (w.alloc (.cells cs 3)) := by
  obtain ⟨i0, hi, hz0, hz1, hz2⟩ := info_parts own_int_info
  subst hcs
  subst hm
  refine wpList_append_own _ hgd s x 28 ho B 3 i0 (.int .i64 0) 1 8 Tryz.underlying28 hi hz0 hz1 hz2 rfl (by decide) _ n (IV xs) hs (hown.1.alloc _)
    ⟨w.heap.size, 0, none⟩ us.length c0 (IV us) hx (by simp [IV]) ?_ (IV_one us) (by unfold maxLen; omega) (by omega) (by simp; omega) ?_
  · intro j u hj
    rw [add_row, cell_of_row _ w.heap.size j _ _ _ (heap_alloc_new w _)]
    simpa using hj
  · intro v' w' hown' hg _
    obtain ⟨A', c', rfl, h'⟩ := Own.of_app us rfl hown' hn
    exact h A' c' w' h' ⟨hg.os, hg.tape, hg.output, by have := hg.size; simp at this; omega, fun k hk hne => (hg.block k (by simp; omega) hne).trans (Below.heap_alloc w _ k hk)⟩

/-- append(out, ys...) where ys reads as a list -/
theorem wpList_app_ints {ops : Array Oper} {rest : List Oper} {o : Oper} {a : Act} {w : World} {Q : Exit → Act → World → Prop} (hgd : o.guard = none) (s x : Operand)
    (ho : o.op = .call { callee := .builtin .append, args := #[s, x], argTypes := #[28, 28] })
    {B : Nat} {A : Option Addr} {n c : Nat} {xs : List Int} (hs : a.eval s = .slice A n c) (hown : Own w B A n c xs) {B2 m c0 : Nat} {A2 : Option Addr} {us : List Int}
    (hx : a.eval x = .slice A2 m c0) (hr : Ints w B2 A2 m us) (hn : n + m ≤ 1099511627776) (hB : B ≤ w.heap.size)
    (h : ∀ A' c' w', Own w' B A' (n + m) c' (xs ++ us) → w.grownBy w' (Value.slice A n c).ownBlock → wpList Tryz.prog ops Q rest (a.put o.dst (.slice A' (n + m) c')) w') :
    wpList Tryz.prog ops Q (o :: rest) a w := by
  obtain ⟨i0, hi, hz0, hz1, hz2⟩ := info_parts own_int_info
  have hl := hr.len
  by_cases hm : 0 < m
  · obtain ⟨b, off, rfl, hb, hc⟩ := hr.addr hm
    refine wpList_append_own _ hgd s x 28 ho B 3 i0 (.int .i64 0) 1 8 Tryz.underlying28 hi hz0 hz1 hz2 rfl (by decide) _ n (IV xs) hs hown.1
      ⟨b, off, none⟩ m c0 (IV us) hx (by simp [IV, hl]) ?_ (IV_one us) (by unfold maxLen; omega) (by omega) hB ?_
    · intro j u hj
      have hj' : (us.map (Value.int .i64))[j]? = some u := hj
      rw [List.getElem?_map] at hj'
      obtain ⟨z, hz, rfl⟩ := Option.map_eq_some_iff.1 hj'
      have e : (⟨b, off, none⟩ : Addr).add j = ⟨b, off + j, none⟩ := by unfold Addr.add; split <;> simp_all
      rw [e]
      exact hc j z hz
    · intro v' w' hown' hg _
      obtain ⟨A', c', rfl, h'⟩ := Own.of_app us rfl hown' hn
      exact h A' c' w' h' hg
  · obtain rfl : m = 0 := by omega
    obtain rfl := List.eq_nil_of_length_eq_zero hl
    have hown0 : Own w B A (n + 0) c (xs ++ []) := by simpa using hown
    have hh := h A c w hown0 (World.grownBy.refl w _)
    rcases A2 with _ | ad
    · refine wpList_plain hgd fun K hK => ?_
      unfold Oper.wp execOp
      have hrun : (Builtin.append_ #[28, 28] o.type #[.slice A n c, .slice none 0 c0]).run Tryz.prog w = .ok (.slice A n c) w := by
        rcases hown.1.2 with ⟨h1, rfl⟩ | ⟨g, cap, cur, h1, _, _, hnc, _⟩
        · rw [h1]; simp [Builtin.append_, run_underlying Tryz.underlying28, sizeOf, typeInfo, hi, Builtin.lenOf, Builtin.firstCells]
        · rw [h1]; simp [Builtin.append_, run_underlying Tryz.underlying28, sizeOf, typeInfo, hi, Builtin.lenOf, Builtin.firstCells, hnc, storeCells]
      simp only [ho, resolve, invoke, builtin, Sem.run_bind, Sem.run_pure, Result.andThen_ok, List.map_toArray, List.map_cons, List.map_nil, hs, hx, hrun]
      exact hK _ _ hh
    · refine wpList_append_own _ hgd s x 28 ho B 3 i0 (.int .i64 0) 1 8 Tryz.underlying28 hi hz0 hz1 hz2 rfl (by decide) _ n (IV xs) hs hown.1
        ad 0 c0 [] hx rfl (by intro j u hj; simp at hj) (by simp) (by unfold maxLen; omega) (by omega) hB ?_
      intro v' w' hown' hg _
      obtain ⟨A', c', rfl, h'⟩ := Own.of_app [] rfl hown' hn
      exact h A' c' w' h' hg

/-- make([]int, n) -/
theorem wpList_make_ints {ops : Array Oper} {rest : List Oper} {o : Oper} {a : Act} {w : World} {Q : Exit → Act → World → Prop} (hgd : o.guard = none) (l c : Operand)
    (ho : o.op = .makeSlice 28 l c) {B n : Nat} (hl : a.eval l = .int .i64 (n : Int)) (hc : a.eval c = .int .i64 (n : Int)) (hn : n ≤ 1099511627776) (hB : B ≤ w.heap.size)
    (h : ∀ w', Own w' B (some ⟨w.heap.size, 0, none⟩) n n (List.replicate n 0) → w.grownBy w' none → wpList Tryz.prog ops Q rest (a.put o.dst (.slice (some ⟨w.heap.size, 0, none⟩) n n)) w') :
    wpList Tryz.prog ops Q (o :: rest) a w := by
  obtain ⟨i0, hi, hz0, hz1, hz2⟩ := info_parts own_int_info
  refine wpList_make_full w hgd l c 28 ho B 3 i0 (.int .i64 0) 1 Tryz.underlying28 hi hz0 hz1 .i64 .i64 _ _ n hl hc rfl rfl (by rw [hz2]; omega) (by unfold maxLen; omega) hB ?_
  intro w' hown hg
  have e : (madeCells (Value.int .i64 0).cells (n * 1)).toList = IV (List.replicate n 0) := by
    rw [Nat.mul_one]
    exact (toList_madeCells_one _ _).trans (by simp [IV])
  rw [e] at hown
  exact h w' ⟨hown, hn⟩ hg
/-- make([]int, 0, n) -/
theorem wpList_make_room {ops : Array Oper} {rest : List Oper} {o : Oper} {a : Act} {w : World} {Q : Exit → Act → World → Prop} (hgd : o.guard = none) (l c : Operand)
    (ho : o.op = .makeSlice 28 l c) {B n : Nat} (C : Int) (hl : a.eval l = .int .i64 0) (hc : a.eval c = .int .i64 C) (hC : C = (n : Int)) (hn : n ≤ 1099511627776) (hB : B ≤ w.heap.size)
    (h : ∀ w', Own w' B (some ⟨w.heap.size, 0, none⟩) 0 n [] → w.grownBy w' none → wpList Tryz.prog ops Q rest (a.put o.dst (.slice (some ⟨w.heap.size, 0, none⟩) 0 n)) w') :
    wpList Tryz.prog ops Q (o :: rest) a w := by
  obtain ⟨i0, hi, hz0, hz1, hz2⟩ := info_parts own_int_info
  refine wpList_make_own w hgd l c 28 ho B 3 i0 (.int .i64 0) 1 Tryz.underlying28 hi hz0 hz1 .i64 .i64 C n hl hc hC (by rw [hz2]; omega) (by unfold maxLen; omega) hB ?_
  intro w' hown hg
  exact h w' ⟨hown, by omega⟩ hg
/-- []int{..} just laid -/
theorem own_lit (w : World) (us : List Int) (B n : Nat) (hl : us.length = n) (hn : n ≤ 1099511627776) (hB : B ≤ w.heap.size) : Own (w.alloc (.cells (IV us).toArray 3)) B (some ⟨w.heap.size, 0, none⟩) n n us := by
  have h := World.ownsRow_lit (base := B) (e := 3) (size := 1) w (IV us).toArray n hB (by unfold maxLen; omega) (by simp [IV, hl])
  exact ⟨by simpa using h, hn⟩

theorem fill_next {xs : List Int} {n k : Nat} {u : Int} (hk : k < n) (hl : xs.length = n) (h : xs[k]? = some u) :
    (xs.take k ++ List.replicate (n - k) 0).set k u = xs.take (k + 1) ++ List.replicate (n - (k + 1)) 0 := by
  have e : n - k = (n - (k + 1)) + 1 := by omega
  rw [take_next h, e, List.replicate_succ, List.set_append_right _ _ (by rw [List.length_take]; omega), List.length_take]
  rw [show k - min k xs.length = 0 from by omega, List.set_cons_zero, List.append_assoc]
  rfl
theorem fill_at {xs : List Int} {n k : Nat} (hk : k < n) (hl : xs.length = n) : (xs.take k ++ List.replicate (n - k) (0 : Int))[k]? = some 0 := by
  rw [List.getElem?_append_right (by rw [List.length_take]; omega), List.length_take, show k - min k xs.length = 0 from by omega, List.getElem?_replicate, if_pos (by omega)]

def eqB (xs ys : List Int) : Bool := sameB xs ys
/-- the list k, k + 1, .. of so many -/
def upFrom (k : Int) : Nat → List Int
  | 0 => []
  | n + 1 => k :: upFrom (k + 1) n
theorem upFrom_length (n : Nat) : ∀ k, (upFrom k n).length = n := by
  induction n with
  | zero => intro k; rfl
  | succ n ih => intro k; simp [upFrom, ih]
theorem upFrom_get (n : Nat) : ∀ k j, j < n → (upFrom k n)[j]? = some (k + j) := by
  induction n with
  | zero => intro k j h; omega
  | succ n ih =>
    intro k j h
    cases j with
    | zero => simp [upFrom]
    | succ j => rw [upFrom, List.getElem?_cons_succ, ih (k + 1) j (by omega)]; congr 1; omega
theorem mark_next {xs : List Int} {n j : Nat} (k : Int) (hl : xs.length = n) (hj : j < n) :
    ((upFrom k n).take j ++ xs.drop j).set j (k + j) = (upFrom k n).take (j + 1) ++ xs.drop (j + 1) := by
  have hu := upFrom_get n k j hj
  have hln := upFrom_length n k
  rw [take_next hu, List.drop_eq_getElem_cons (by omega : j < xs.length), List.set_append_right _ _ (by rw [List.length_take]; omega), List.length_take,
    show j - min j (upFrom k n).length = 0 from by omega, List.set_cons_zero, List.append_assoc]
  rfl
theorem mark_at {xs : List Int} {n j : Nat} (k : Int) (hl : xs.length = n) (hj : j < n) : ∃ u, ((upFrom k n).take j ++ xs.drop j)[j]? = some u := by
  have hln := upFrom_length n k
  exact ⟨_, List.getElem?_eq_getElem (by simp; omega)⟩

end Go.Proofs.YthdoofmfigemoaaGreatDoor
end

section
/-
  The reader of a code, from which the inputs of the laws are drawn: its state in memory; one pick.
-/
namespace Go.Proofs.YthdoofmfigemoaaGreatDoor
open Go.RowKit

/-- the reader lies in block g; p picks were made; its bytes lie below block B -/
def Rd (w : World) (B g p : Nat) : Prop :=
  ∃ A n c, w.heap[g]? = some (.cells #[.slice A n c, .int .i64 p] 133 (0, 0)) ∧ n ≤ 2000 ∧ B ≤ g ∧
    (0 < n → ∃ b off, A = some ⟨b, off, none⟩ ∧ b < B ∧ ∀ j, j < n → ∃ u : Int, 0 ≤ u ∧ u ≤ 255 ∧ w.cell? ⟨b, off + j, none⟩ = some (.int .u8 u))

theorem Rd.keep {w w' : World} {B g p : Nat} (h : Rd w B g p) (hg : w'.heap[g]? = w.heap[g]?) (hB : ∀ k, k < B → w'.heap[k]? = w.heap[k]?) : Rd w' B g p := by
  obtain ⟨A, n, c, h1, h2, h3, h4⟩ := h
  refine ⟨A, n, c, hg.trans h1, h2, h3, fun hn => ?_⟩
  obtain ⟨b, off, e, hb, hc⟩ := h4 hn
  refine ⟨b, off, e, hb, fun j hj => ?_⟩
  obtain ⟨u, u0, u1, hu⟩ := hc j hj
  exact ⟨u, u0, u1, (World.cell?_of_block (hB b hb)).trans hu⟩
theorem Rd.lt {w : World} {B g p : Nat} (h : Rd w B g p) : g < w.heap.size := by
  obtain ⟨A, n, c, h1, _⟩ := h
  exact (Array.getElem?_eq_some_iff.1 h1).1
theorem Rd.base {w : World} {B g p : Nat} (h : Rd w B g p) : B ≤ g := by
  obtain ⟨A, n, c, _, _, h3, _⟩ := h
  exact h3
theorem Rd.alloc {w : World} {B g p : Nat} (h : Rd w B g p) (o : Obj) : Rd (w.alloc o) B g p :=
  h.keep (Below.heap_alloc w o g h.lt) (fun k hk => Below.heap_alloc w o k (by have := h.lt; have := h.base; omega))
theorem Rd.drew {w : World} {B g p : Nat} (h : Rd w B g p) : Rd w.drew B g p := h
theorem Rd.drewN {w : World} {B g p : Nat} (h : Rd w B g p) (k : Nat) : Rd (w.drewN k) B g p := h
theorem Rd.grown {w w' : World} {B g p : Nat} {row : Option Nat} (h : Rd w B g p) (hg : w.grownBy w' row) (hr : ∀ k, row = some k → B ≤ k ∧ k ≠ g) : Rd w' B g p :=
  h.keep (hg.block g h.lt (fun e => (hr g e.symm).2 rfl)) (fun k hk => hg.block k (by have := h.lt; have := h.base; omega) (fun e => by have := (hr k e.symm).1; omega))
theorem Rd.far {w : World} {B g p : Nat} (h : Rd w B g p) {a : Addr} (h1 : B ≤ a.block) (h2 : a.block ≠ g) (u : Value) : Rd (w.setCell a u) B g p :=
  h.keep (heap_setCell_other w a g u (fun e => h2 e.symm)) (fun k hk => heap_setCell_other w a k u (by omega))
theorem Rd.next {w w' : World} {B g p : Nat} (h : Rd w B g p) (hb : Below w.heap.size w w') : Rd w' B g p :=
  h.keep (hb.block g h.lt) (fun k hk => hb.block k (by have := h.lt; have := h.base; omega))

def PickPost (w : World) (B g p : Nat) (n : Int) (e : Ending) (w' : World) : Prop :=
  ∃ v : Int, e = .returned (.int .i64 v) ∧ (1 ≤ n → 0 ≤ v ∧ v < n) ∧ Rd w' B g (p + 1) ∧ w.grownBy w' (some g)

theorem grown_drewN {a w : World} {row : Option Nat} (h : a.grownBy w row) (n : Nat) : a.grownBy (w.drewN n) row := ⟨h.os, h.tape, h.output, h.size, h.block⟩

theorem rd_store {w : World} {B g p n c : Nat} {A : Option Addr} (h1 : w.heap[g]? = some (.cells #[.slice A n c, .int .i64 p] 133 (0, 0))) (h2 : n ≤ 2000) (h3 : B ≤ g)
    (h4 : 0 < n → ∃ b off, A = some ⟨b, off, none⟩ ∧ b < B ∧ ∀ j, j < n → ∃ u : Int, 0 ≤ u ∧ u ≤ 255 ∧ w.cell? ⟨b, off + j, none⟩ = some (.int .u8 u)) {q : Int} (hq : q = ((p + 1 : Nat) : Int)) :
    Rd (w.setCell ⟨g, 1, none⟩ (.int .i64 q)) B g (p + 1) ∧ w.grownBy (w.setCell ⟨g, 1, none⟩ (.int .i64 q)) (some g) := by
  subst hq
  refine ⟨⟨A, n, c, ?_, h2, h3, fun hn => ?_⟩, ⟨rfl, rfl, rfl, by simp [World.setCell], fun k hk hne => heap_setCell_other w _ k _ (fun e => hne (by rw [e]))⟩⟩
  · have := heap_setCell_same w g 1 _ _ (.int .i64 ((p + 1 : Nat) : Int)) h1
    simpa using this
  · obtain ⟨b, off, e, hb, hc⟩ := h4 hn
    refine ⟨b, off, e, hb, fun j hj => ?_⟩
    obtain ⟨u, u0, u1, hu⟩ := hc j hj
    exact ⟨u, u0, u1, (World.cell?_of_block (heap_setCell_other w _ b _ (by show b ≠ g; omega))).trans hu⟩

theorem xor_nonneg (x y : Int) (h0 : 0 ≤ x) (h1 : x < 4611686018427387904) (h2 : 0 ≤ y) (h3 : y < 4611686018427387904) : 0 ≤ bits .xor .i64 x y := by
  obtain ⟨a, rfl⟩ := Int.eq_ofNat_of_zero_le h0
  obtain ⟨b, rfl⟩ := Int.eq_ofNat_of_zero_le h2
  have hx : a ^^^ b < 2 ^ 62 := Nat.xor_lt_two_pow (by omega) (by omega)
  have ofi : ∀ a : Nat, a < 9223372036854775808 → (BitVec.ofInt 64 (a : Int)).toNat = a := fun a ha => by
    rw [BitVec.ofInt_natCast, BitVec.toNat_ofNat]; exact Nat.mod_eq_of_lt (by omega)
  show 0 ≤ IntKind.i64.wrap ((BitVec.ofInt 64 (a : Int) ^^^ BitVec.ofInt 64 (b : Int)).toNat : Int)
  rw [BitVec.toNat_xor, ofi a (by omega), ofi b (by omega), IntKind.wrap_i64]
  omega

set_option maxRecDepth 100000 in
set_option maxHeartbeats 1000000 in
theorem pick_any (w : World) (B g p : Nat) (n : Int) (h : Rd w B g p) (hp : p ≤ 1000000) :
    Calls Tryz.prog 41 #[.pointer (some ⟨g, 0, none⟩), .int .i64 n] w (PickPost w B g p n) := by
  obtain ⟨A, len, c, h1, h2, h3, h4⟩ := h
  have hst := rd_store h1 h2 h3 h4 (q := (p : Int) + 1) (by simp)
  have c0 := cell_of_row w g 0 _ _ _ h1
  have c1 := cell_of_row w g 1 _ _ _ h1
  have f1 := frozen_of_row w g 1 _ _ h1
  have HST := Lib.hid hst
  clear hst
  have H1 := Lib.hid h1
  clear h1
  simp only [List.getElem?_toArray, List.getElem?_cons_zero, List.getElem?_cons_succ] at c0 c1
  by_cases hn : n < 1
  · have H4 := Lib.hid h4
    clear h4
    go_enter Tryz.func41, Tryz.ntmps41
    go_wp2
    go_ret
    exact ⟨0, rfl, by omega, HST.out⟩
  · by_cases hl : len = 0
    · subst hl
      have H4 := Lib.hid h4
      clear h4
      go_enter Tryz.func41, Tryz.ntmps41
      go_wp2
      go_ret
      exact ⟨0, rfl, by omega, HST.out⟩
    · obtain ⟨b, off, rfl, hb, hc⟩ := h4 (by omega)
      have hl0 : ((len : Int) == 0) = false := by simpa using hl
      by_cases hk : p < len
      · obtain ⟨u, u0, u1, hu⟩ := hc p hk
        have hu' : (w.setCell ⟨g, 1, none⟩ (.int .i64 ((p : Int) + 1))).cell? ⟨b, off + p, none⟩ = some (.int .u8 u) :=
          (World.cell?_of_block (heap_setCell_other w _ b _ (by show b ≠ g; omega))).trans hu
        have HC := Lib.hid hc
        clear hc
        go_enter Tryz.func41, Tryz.ntmps41
        go_wp2
        go_ret
        exact ⟨_, rfl, fun _ => ⟨Int.emod_nonneg _ (by omega), Int.emod_lt_of_pos _ (by omega)⟩, HST.out⟩
      · obtain ⟨u, u0, u1, hu⟩ := hc (p % len) (Nat.mod_lt _ (by omega))
        obtain ⟨v, v0, v1, hv⟩ := hc ((p * 7 + 3) % len) (Nat.mod_lt _ (by omega))
        have cell' : ∀ j x, w.cell? ⟨b, off + j, none⟩ = some x → (w.setCell ⟨g, 1, none⟩ (.int .i64 ((p : Int) + 1))).cell? ⟨b, off + j, none⟩ = some x :=
          fun j x hx => (World.cell?_of_block (heap_setCell_other w _ b _ (by show b ≠ g; omega))).trans hx
        have hu' := cell' _ _ hu
        have hv' := cell' _ _ hv
        have HC := Lib.hid hc
        clear hc cell' hu hv
        have i1 : p % len < len := Nat.mod_lt _ (by omega)
        have i2 : (p * 7 + 3) % len < len := Nat.mod_lt _ (by omega)
        have q0 : p / len ≤ p := Nat.div_le_self _ _
        have m1 : (p : Int).tmod (len : Int) = ((p % len : Nat) : Int) := (Int.ofNat_tmod p len).symm
        have m2 : ((p : Int) * 7 + 3).tmod (len : Int) = (((p * 7 + 3) % len : Nat) : Int) := (Int.ofNat_tmod (p * 7 + 3) len).symm
        have m3 : (p : Int).tdiv (len : Int) = ((p / len : Nat) : Int) := (Int.ofNat_tdiv p len).symm
        generalize (p * 7 + 3) % len = j2 at *
        generalize p % len = j1 at *
        generalize p / len = q at *
        have s1 : IntKind.i64.wrap ((p : Int) * 7) = (p : Int) * 7 := IntWalk.i64_in _ (by omega)
        have s2 : IntKind.i64.wrap ((p : Int) * 7 + 3) = (p : Int) * 7 + 3 := IntWalk.i64_in _ (by omega)
        have s3 : IntKind.i64.wrap (u * 131) = u * 131 := IntWalk.i64_in _ (by omega)
        have s4 : IntKind.i64.wrap (v * 1117) = v * 1117 := IntWalk.i64_in _ (by omega)
        have s5 : IntKind.i64.wrap (u * 131 + v * 1117) = u * 131 + v * 1117 := IntWalk.i64_in _ (by omega)
        have s6 : IntKind.i64.wrap ((p : Int) * 29) = (p : Int) * 29 := IntWalk.i64_in _ (by omega)
        have s7 : IntKind.i64.wrap (u * 131 + v * 1117 + (p : Int) * 29) = u * 131 + v * 1117 + (p : Int) * 29 := IntWalk.i64_in _ (by omega)
        have s8 : IntKind.i64.wrap ((q : Int) * 53) = (q : Int) * 53 := IntWalk.i64_in _ (by omega)
        have s9 : IntKind.i64.wrap (u * 131 + v * 1117 + (p : Int) * 29 + (q : Int) * 53) = u * 131 + v * 1117 + (p : Int) * 29 + (q : Int) * 53 := IntWalk.i64_in _ (by omega)
        have s10 : IntKind.i64.wrap (j1 : Int) = (j1 : Int) := IntWalk.i64_in _ (by omega)
        have s11 : IntKind.i64.wrap (j2 : Int) = (j2 : Int) := IntWalk.i64_in _ (by omega)
        have s12 : IntKind.i64.wrap (q : Int) = (q : Int) := IntWalk.i64_in _ (by omega)
        have s13 : IntKind.i64.wrap u = u := IntWalk.i64_in _ (by omega)
        have s14 : IntKind.i64.wrap v = v := IntWalk.i64_in _ (by omega)
        go_enter Tryz.func41, Tryz.ntmps41
        go_wp2_with fail
        go_quiet (fail)
        have b0 : 0 ≤ u * 131 + v * 1117 + (p : Int) * 29 + (q : Int) * 53 := by omega
        have b1 : u * 131 + v * 1117 + (p : Int) * 29 + (q : Int) * 53 ≤ 100000000 := by omega
        clear s1 s2 s3 s4 s5 s6 s7 s8 s9 s10 s11 s12 s13 s14 m1 m2 m3
        have hx := xor_nonneg _ _ b0 (by omega) (Int.ediv_nonneg b0 (by omega : (0 : Int) ≤ 64)) (by omega)
        go_wp2
        go_ret
        exact ⟨_, rfl, fun _ => ⟨Int.emod_nonneg _ (by omega), Int.emod_lt_of_pos _ (by omega)⟩, HST.out.1.drewN _, grown_drewN HST.out.2 _⟩
end Go.Proofs.YthdoofmfigemoaaGreatDoor
end

section
/-
  Small words that the laws' walks lean on: tests of a range, literals and rows of the call's own over picks, worlds that only drew.
-/
namespace Go.Proofs.YthdoofmfigemoaaGreatDoor
open Go.RowKit

theorem l6In_yes {n a b : Int} (h1 : a ≤ n) (h2 : n ≤ b) (w : World) : Calls Tryz.prog 67 #[.int .i64 n, .int .i64 a, .int .i64 b] w fun e w' => e = .returned (.bool true) ∧ w = w' :=
  (l6In_any n a b w).mono fun _ _ h => ⟨by rw [h.1]; simp [h1, h2], h.2⟩
theorem l6In_no {n a b : Int} (h : n < a ∨ b < n) (w : World) : Calls Tryz.prog 67 #[.int .i64 n, .int .i64 a, .int .i64 b] w fun e w' => e = .returned (.bool false) ∧ w = w' :=
  (l6In_any n a b w).mono fun _ _ h' => ⟨by rw [h'.1]; rcases h with h | h <;> simp <;> omega, h'.2⟩
theorem l6In_is {n a b : Int} {r : Bool} (h : (decide (a ≤ n) && decide (n ≤ b)) = r) (w : World) : Calls Tryz.prog 67 #[.int .i64 n, .int .i64 a, .int .i64 b] w fun e w' => e = .returned (.bool r) ∧ w = w' := by
  rw [← h]; exact l6In_any n a b w
theorem sq_in {a m : Int} (h0 : 0 ≤ a) (h1 : a ≤ m) : 0 ≤ a * a ∧ a * a ≤ m * m := ⟨Int.mul_nonneg h0 h0, Int.mul_le_mul h1 h1 h0 (by omega)⟩
theorem mul_in {a b m k : Int} (h0 : 0 ≤ a) (h1 : a ≤ m) (h2 : 0 ≤ b) (h3 : b ≤ k) : 0 ≤ a * b ∧ a * b ≤ m * k := ⟨Int.mul_nonneg h0 h2, Int.mul_le_mul h1 h3 h2 (by omega)⟩
theorem lit_nil (w : World) : Own (w.alloc (.cells #[] 3)) w.heap.size (some ⟨w.heap.size, 0, none⟩) 0 0 [] := own_lit w [] w.heap.size 0 rfl (by omega) (Nat.le_refl _)
theorem own_cap {w : World} {B n c : Nat} {A : Option Addr} {xs : List Int} (h : Own w B A n c xs) : n ≤ c := by
  rcases h.1.2 with ⟨h0, rfl⟩ | ⟨g, cap, cur, hv, hb, hg, hr⟩
  · omega
  · injection hv with _ _ e3
    subst e3
    exact hr.1
theorem grown_of_below {w w' : World} (h : Below w.heap.size w w') (row : Option Nat) : w.grownBy w' row := ⟨h.os, h.tape, h.output, h.size, fun k hk _ => h.block k hk⟩
theorem _root_.Go.World.grownBy.then_ {a b c : World} {row row' : Option Nat} (h : a.grownBy b row) (k : b.grownBy c row') (hr : ∀ j, row' = some j → a.heap.size ≤ j ∨ row = some j) : a.grownBy c row :=
  ⟨k.os.trans h.os, k.tape.trans h.tape, k.output.trans h.output, Nat.le_trans h.size k.size, fun i hi hne =>
    (k.block i (Nat.lt_of_lt_of_le hi h.size) (fun e => by
      rcases hr i e.symm with h1 | h1
      · omega
      · exact hne h1.symm)).trans (h.block i hi hne)⟩
theorem own_pick {w w' w0 : World} {g n c : Nat} {A : Option Addr} {xs : List Int} (h : Own w w0.heap.size A n c xs) (hg : w.grownBy w' (some g)) (hlt : g < w0.heap.size) : Own w' w0.heap.size A n c xs :=
  h.kept hg fun k hk e => by have := (h.blk k hk).1; injection e; omega
theorem base_in {w w' : World} {B g : Nat} (hg : w.grownBy w' (some g)) (hB : B ≤ g) (hlt : B ≤ w.heap.size) : Below B w w' := grown_below hg hlt (by rintro k ⟨⟩; exact hB)
theorem ints_same {w v : World} {n q : Nat} {A : Option Addr} {xs : List Int} (h : Ints w w.heap.size A n xs) (hv : v = w.drewN q) : Ints v v.heap.size A n xs := by
  subst hv; exact h.drewN q
theorem below_same {B q : Nat} {a w v : World} (h : Below B a w) (hv : v = w.drewN q) : Below B a v := by
  subst hv; exact below_drewN h q
/-- a literal that was laid just before a pick: what the pick's index finds there -/
theorem lit_after {w w' : World} {us : List Int} {g n : Nat} {v : Int} (hg : (w.alloc (.cells (IV us).toArray 3)).grownBy w' (some g)) (hlt : g < w.heap.size) (hn : us.length = n) (hn2 : n ≤ 1000) (h0 : 0 ≤ v) (h1 : v < n) :
    ∃ (j : Nat) (u : Int), v = (j : Int) ∧ j < n ∧ u ∈ us ∧ w'.cell? ⟨w.heap.size, j, none⟩ = some (.int .i64 u) := by
  obtain ⟨j, rfl⟩ := Int.eq_ofNat_of_zero_le h0
  have hj : j < us.length := by omega
  have hl := own_pick (own_lit w us w.heap.size n hn (by omega) (Nat.le_refl _)) hg hlt
  obtain ⟨g7, e7, _, _, hc7, _⟩ := hl.at_ (by omega)
  obtain rfl : w.heap.size = g7 := by simpa using e7
  exact ⟨j, us[j], rfl, by omega, List.getElem_mem _, hc7 j _ (List.getElem?_eq_getElem hj)⟩

/-- a row of the call's own from block B0 on: from block B on, or without room -/
def EOwn (w : World) (B0 B : Nat) (A : Option Addr) (n c : Nat) (xs : List Int) : Prop := Own w B0 A n c xs ∧ ((n = 0 ∧ c = 0 ∧ xs = []) ∨ Own w B A n c xs)
section
variable {w w' : World} {B0 B n c : Nat} {A : Option Addr} {xs : List Int}
theorem EOwn.own (h : EOwn w B0 B A n c xs) : Own w B0 A n c xs := h.1
theorem EOwn.len (h : EOwn w B0 B A n c xs) : xs.length = n := h.1.len
theorem EOwn.ints (h : EOwn w B0 B A n c xs) : Ints w w.heap.size A n xs := h.1.ints
theorem EOwn.of_nil (h : Own w B0 A 0 0 []) (B : Nat) : EOwn w B0 B A 0 0 [] := ⟨h, .inl ⟨rfl, rfl, rfl⟩⟩
theorem EOwn.of_own (h : Own w B A n c xs) (hB : B0 ≤ B) : EOwn w B0 B A n c xs := ⟨h.mono hB, .inr h⟩
theorem EOwn.next (h : EOwn w B0 B A n c xs) (hb : Below w.heap.size w w') : EOwn w' B0 B A n c xs := ⟨h.1.next hb, h.2.imp id fun h => h.next hb⟩
theorem EOwn.alloc (h : EOwn w B0 B A n c xs) (o : Obj) : EOwn (w.alloc o) B0 B A n c xs := ⟨h.1.alloc o, h.2.imp id fun h => h.alloc o⟩
theorem EOwn.drewN (h : EOwn w B0 B A n c xs) (k : Nat) : EOwn (w.drewN k) B0 B A n c xs := h
end
/-- append(out, u, ..) on such a row: what lies below B stays as it was -/
theorem wpList_app0 {ops : Array Oper} {rest : List Oper} {o : Oper} {a : Act} {w : World} {Q : Exit → Act → World → Prop} (hgd : o.guard = none) (s x : Operand)
    (ho : o.op = .call { callee := .builtin .append, args := #[s, x], argTypes := #[28, 28] })
    {B0 B : Nat} {A : Option Addr} {n c : Nat} {xs : List Int} (hs : a.eval s = .slice A n c) (hown : EOwn w B0 B A n c xs) (us : List Int) (m : Nat) (hm : us.length = m) (hm0 : 0 < m) (c0 : Nat)
    (hx : a.eval x = .slice (some ⟨w.heap.size, 0, none⟩) m c0) (cs : Array Value) (hcs : cs = (IV us).toArray) (hn : n + m ≤ 1099511627776) (hB0 : B0 ≤ B) (hB : B ≤ w.heap.size)
    (h : ∀ A' c' w' row, EOwn w' B0 B A' (n + m) c' (xs ++ us) → w.grownBy w' row → (∀ k, row = some k → B ≤ k) → wpList Tryz.prog ops Q rest (a.put o.dst (.slice A' (n + m) c')) w') :
    wpList Tryz.prog ops Q (o :: rest) a (w.alloc (.cells cs 3)) := by
  rcases hown.2 with ⟨h1, h2, h3⟩ | hw
  · subst h1; subst h2; subst h3
    obtain ⟨i0, hi, hz0, hz1, hz2⟩ := info_parts own_int_info
    subst hcs
    subst hm
    have hg0 : Ints (w.alloc (.cells (IV us).toArray 3)) (w.heap.size + 1) (some ⟨w.heap.size, 0, none⟩) us.length us := by
      have := (own_lit w us w.heap.size us.length rfl (by omega) (Nat.le_refl _)).ints
      simpa using this
    refine wpList_append_grows _ hgd s x 28 ho 3 i0 (.int .i64 0) 1 8 Tryz.underlying28 hi hz0 hz1 hz2 rfl (by decide) A 0 0 [] hs (fun _ => ⟨rfl, rfl⟩) (by simp) (fun b _ j u hj => by simp at hj)
      ⟨w.heap.size, 0, none⟩ us.length c0 (IV us) hx (by simp [IV]) ?_ (IV_one us) (by omega) (by unfold maxLen; omega) (by omega) ?_
    · intro j u hj
      rw [add_row, cell_of_row _ w.heap.size j _ _ _ (heap_alloc_new w _)]
      simpa using hj
    · intro v' w' hown' hg
      obtain ⟨A', c', rfl, h'⟩ := Own.of_app (xs := []) us rfl hown' hn
      simp only [World.size_alloc] at h'
      have hg1 : w.grownBy w' none := ⟨hg.os, hg.tape, hg.output, by have := hg.size; simp at this; omega, fun k hk hne => (hg.block k (by simp; omega) hne).trans (Below.heap_alloc w _ k hk)⟩
      exact h A' c' w' none (EOwn.of_own (h'.mono (by omega)) hB0) hg1 (fun k hk => by cases hk)
  · exact wpList_app hgd s x ho hs hw us m hm c0 hx cs hcs hn hB fun A' c' w' h1 h2 => h A' c' w' _ (EOwn.of_own h1 hB0) h2 fun k hk => (hw.blk k hk).1
/-- append(out, u, ..) behind a new block: the block of the new elements by its number -/
theorem wpList_app_at {ops : Array Oper} {rest : List Oper} {o : Oper} {a : Act} {w : World} {Q : Exit → Act → World → Prop} (hgd : o.guard = none) (s x : Operand)
    (ho : o.op = .call { callee := .builtin .append, args := #[s, x], argTypes := #[28, 28] })
    {B : Nat} {A : Option Addr} {n c : Nat} {xs : List Int} (hs : a.eval s = .slice A n c) (hown : Own w B A n c xs) (us : List Int) (m : Nat) (hm : us.length = m) (c0 nb : Nat)
    (hx : a.eval x = .slice (some ⟨nb, 0, none⟩) m c0) (hnb : nb = w.heap.size) (cs : Array Value) (hcs : cs = (IV us).toArray) (hn : n + m ≤ 1099511627776) (hB : B ≤ w.heap.size)
    (h : ∀ A' c' w', Own w' B A' (n + m) c' (xs ++ us) → w.grownBy w' (Value.slice A n c).ownBlock → wpList Tryz.prog ops Q rest (a.put o.dst (.slice A' (n + m) c')) w') :
    wpList Tryz.prog ops Q (o :: rest) a (w.alloc (.cells cs 3)) := by
  subst hnb
  exact wpList_app hgd s x ho hs hown us m hm c0 hx cs hcs hn hB h
theorem below_row {B0 B : Nat} {a w w' : World} {row : Option Nat} (h : Below B0 a w) (hg : w.grownBy w' row) (hr : ∀ k, row = some k → B ≤ k) (hB0 : B0 ≤ B) (hB : B ≤ w.heap.size) : Below B0 a w' :=
  h.grown hg (by omega) fun k hk => by have := hr k hk; omega

/-- a list and whether there is one -/
def PairPost (w : World) (ok : Bool) (xs : List Int) (e : Ending) (w' : World) : Prop :=
  (∃ A n c, e = .returned (.tuple #[.slice A n c, .bool ok]) ∧ Own w' w.heap.size A n c (if ok then xs else [])) ∧ Below w.heap.size w w'
theorem Ints.take {w : World} {B n : Nat} {A : Option Addr} {xs : List Int} (h : Ints w B A n xs) {k : Nat} (hk : k ≤ n) : Ints w B A k (xs.take k) := by
  refine ⟨by rw [List.length_take]; have := h.1; omega, by have := h.2.1; omega, fun h0 => ?_⟩
  obtain ⟨b, off, e, hb, hc⟩ := h.2.2 (by omega)
  refine ⟨b, off, e, hb, fun j u hu => hc j u ?_⟩
  rw [List.getElem?_take] at hu
  split at hu
  · exact hu
  · cases hu
theorem quiet_left {P : Program} {f : FuncId} {args : Array Value} {w : World} {n : Nat} {v : Value}
    (h : Calls P f args (w.drewN n) fun e w' => e = .returned v ∧ w.drewN n = w') : Calls P f args (w.drewN n) fun e w'' => e = .returned v ∧ ∃ m, w'' = w.drewN m :=
  h.mono fun _ _ ⟨he, hm⟩ => ⟨he, n, hm.symm⟩

theorem grown_drew {a w : World} {row : Option Nat} (h : a.grownBy w row) : a.grownBy w.drew row := ⟨h.os, h.tape, h.output, h.size, h.block⟩
theorem grown_undrew {a w : World} {row : Option Nat} (h : a.drew.grownBy w row) : a.grownBy w row := ⟨h.os, h.tape, h.output, h.size, h.block⟩
/-- a literal that is laid just behind a pick: what the pick's index finds there -/
theorem lit_here {w : World} {us : List Int} {n : Nat} {v : Int} (hn : us.length = n) (hn2 : n ≤ 1000) (h0 : 0 ≤ v) (h1 : v < n) :
    ∃ (j : Nat) (u : Int), v = (j : Int) ∧ j < n ∧ u ∈ us ∧ (w.alloc (.cells (IV us).toArray 3)).cell? ⟨w.heap.size, j, none⟩ = some (.int .i64 u) := by
  obtain ⟨j, rfl⟩ := Int.eq_ofNat_of_zero_le h0
  have hj : j < us.length := by omega
  have hl := own_lit w us w.heap.size n hn (by omega) (Nat.le_refl _)
  obtain ⟨g7, e7, _, _, hc7, _⟩ := hl.at_ (by omega)
  obtain rfl : w.heap.size = g7 := by simpa using e7
  exact ⟨j, us[j], rfl, by omega, List.getElem_mem _, hc7 j _ (List.getElem?_eq_getElem hj)⟩

/-- a drawn number: the reader's picks alone have turned -/
def DInt (lo hi : Int) (w : World) (B g p : Nat) (e : Ending) (w' : World) : Prop :=
  ∃ v q, e = .returned (.int .i64 v) ∧ lo ≤ v ∧ v ≤ hi ∧ Rd w' B g q ∧ q ≤ p + 40 ∧ w.grownBy w' (some g)
/-- a drawn list -/
def DInts (N : Nat) (w : World) (B g p : Nat) (e : Ending) (w' : World) : Prop :=
  ∃ A n c xs q, e = .returned (.slice A n c) ∧ (∀ v, w'.grownBy v (some g) → Ints v v.heap.size A n xs) ∧ n ≤ N ∧ Rd w' B g q ∧ q ≤ p + 40 ∧ w.grownBy w' (some g)
/-- a law's draw of a number, of a list, of more -/
def DrewI (lo hi : Int) (w : World) (e : Ending) (w' : World) : Prop := ∃ v, e = .returned (.int .i64 v) ∧ lo ≤ v ∧ v ≤ hi ∧ Below w.heap.size w w'
def DrewL (N : Nat) (w : World) (e : Ending) (w' : World) : Prop := ∃ A n c xs, e = .returned (.slice A n c) ∧ Ints w' w'.heap.size A n xs ∧ n ≤ N ∧ Below w.heap.size w w'
def DrewLI (N : Nat) (lo hi : Int) (w : World) (e : Ending) (w' : World) : Prop :=
  ∃ A n c xs v, e = .returned (.tuple #[.slice A n c, .int .i64 v]) ∧ Ints w' w'.heap.size A n xs ∧ n ≤ N ∧ lo ≤ v ∧ v ≤ hi ∧ Below w.heap.size w w'
def DrewLII (N : Nat) (lo hi : Int) (w : World) (e : Ending) (w' : World) : Prop :=
  ∃ A n c xs v u, e = .returned (.tuple #[.slice A n c, .int .i64 v, .int .i64 u]) ∧ Ints w' w'.heap.size A n xs ∧ n ≤ N ∧ lo ≤ v ∧ v ≤ hi ∧ lo ≤ u ∧ u ≤ hi ∧ Below w.heap.size w w'
def DrewLL (N : Nat) (w : World) (e : Ending) (w' : World) : Prop :=
  ∃ A n c xs A2 n2 c2 ys, e = .returned (.tuple #[.slice A n c, .slice A2 n2 c2]) ∧ Ints w' w'.heap.size A n xs ∧ Ints w' w'.heap.size A2 n2 ys ∧ n ≤ N ∧ n2 ≤ N ∧ Below w.heap.size w w'
end Go.Proofs.YthdoofmfigemoaaGreatDoor
end

section
/-
  The number that a word counts as, by the program.
-/
namespace Go.Proofs.YthdoofmfigemoaaGreatDoor
open Go.RowKit
set_option linter.unusedSimpArgs false

/-- digit by digit -/
def wfold : List UInt8 → Int → Option Int
  | [], n => some n
  | c :: cs, n => if c.toNat < 48 ∨ 57 < c.toNat then none else wfold cs (n * 10 + ((c.toNat : Int) - 48))
/-- the number that a word counts as -/
def wnum (l : List UInt8) : Int := if l.length < 1 ∨ 6 < l.length then 9999999 else (wfold l 0).getD 9999999
theorem wfold_bd : ∀ (l : List UInt8) (n v m : Int), 0 ≤ n → n ≤ m → wfold l n = some v → 0 ≤ v ∧ v < (m + 1) * 10 ^ l.length
  | [], n, v, m, h0, h1, h => by
    injection h with h
    subst h
    simp
    omega
  | c :: cs, n, v, m, h0, h1, h => by
    unfold wfold at h
    split at h
    · cases h
    · have := wfold_bd cs _ v (m * 10 + 9) (by omega) (by omega) h
      refine ⟨this.1, ?_⟩
      rw [List.length_cons, Int.pow_succ, ← Int.mul_assoc, Int.mul_right_comm]
      have e : (m + 1) * 10 = m * 10 + 9 + 1 := by omega
      rw [e]
      exact this.2
theorem pow5 : ∀ i, i ≤ 5 → (10 : Int) ^ i ≤ 10 ^ 5
  | 0, _ => by decide
  | 1, _ => by decide
  | 2, _ => by decide
  | 3, _ => by decide
  | 4, _ => by decide
  | 5, _ => by decide
  | i + 6, h => by omega
theorem ex_drop_at {l : List UInt8} {i : Nat} {b : UInt8} (h : l[i]? = some b) : l.drop i = b :: l.drop (i + 1) := by
  obtain ⟨h1, h2⟩ := List.getElem?_eq_some_iff.1 h
  rw [List.drop_eq_getElem_cons h1, h2]
set_option maxRecDepth 100000 in
set_option maxHeartbeats 1000000 in
theorem wordNumber_any (s : ByteArray) (w : World) (hs : s.size ≤ 1000000) : Calls Tryz.prog 129 #[.string s] w fun e w' => e = .returned (.int .i64 (wnum s.data.toList)) ∧ w = w' := by
  have hlen : s.data.toList.length = s.size := by simp
  obtain ⟨R, hR⟩ : ∃ R, wnum s.data.toList = R := ⟨_, rfl⟩
  rw [hR]
  unfold wnum at hR
  rw [hlen] at hR
  have HLEN := Lib.hid hlen
  clear hlen
  by_cases h1 : s.size < 1
  · rw [if_pos (.inl h1)] at hR
    subst hR
    go_enter Tryz.func129, Tryz.ntmps129
    go_wp2
    go_ret
    exact ⟨rfl, rfl⟩
  by_cases h2 : 6 < s.size
  · rw [if_pos (.inr h2)] at hR
    subst hR
    go_enter Tryz.func129, Tryz.ntmps129
    go_wp2
    go_ret
    exact ⟨rfl, rfl⟩
  rw [if_neg (by omega)] at hR
  have HR := Lib.hid hR
  clear hR
  go_enter Tryz.func129, Tryz.ntmps129
  go_wp2_with fail
  go_loopw [3, 4] (fun nv iv wr => ∃ (i : Nat) (n : Int), i ≤ s.size ∧ iv = .int .i64 (i : Int) ∧ nv = .int .i64 n ∧ 0 ≤ n ∧ n ≤ 1000000000000 ∧ n < 10 ^ i ∧ (wfold (s.data.toList.drop i) n).getD 9999999 = R ∧ w = wr) (fun _ iv _ => s.size - (intOf iv).toNat)
  case atStart => exact ⟨0, 0, by omega, rfl, rfl, by omega, by omega, by omega, HR.out, rfl⟩
  case round =>
    obtain ⟨i, n, hi, rfl, rfl, hn0, hn1, hn2, hw, rfl⟩ := hrel
    have HW := Lib.hid hw
    have HP := Lib.hid hn2
    clear hw hn2
    by_cases hlt : i < s.size
    · obtain ⟨b, hb⟩ : ∃ b, s[i] = b := ⟨_, rfl⟩
      have hb2 : s.data.toList[i]? = some b := by
        rw [List.getElem?_eq_getElem (by have := HLEN.out; omega), ← hb]; rfl
      have hw := HW.out
      rw [ex_drop_at hb2] at hw
      unfold wfold at hw
      by_cases hd : b.toNat < 48
      · rw [if_pos (.inl hd)] at hw
        have hwR : (9999999 : Int) = R := hw
        have HWR := Lib.hid hwR
        have hdI : (b.toNat : Int) < 48 := by omega
        clear hb2 hw hwR
        go_wp2
        go_ret
        exact ⟨ret_int HWR.out, rfl⟩
      by_cases hd2 : 57 < b.toNat
      · rw [if_pos (.inr hd2)] at hw
        have hwR : (9999999 : Int) = R := hw
        have HWR := Lib.hid hwR
        have hdI : ¬ (b.toNat : Int) < 48 := by omega
        have hdJ : (b.toNat : Int) > 57 := by omega
        clear hb2 hw hwR
        go_wp2
        go_ret
        exact ⟨ret_int HWR.out, rfl⟩
      rw [if_neg (by omega)] at hw
      obtain ⟨x, hx⟩ : ∃ x, b.toNat = x := ⟨_, rfl⟩
      rw [hx] at hw hd hd2
      have hnb : n < 10 ^ 5 := by
        have h6 : i ≤ 5 := by omega
        have := HP.out
        have h10 : (10 : Int) ^ i ≤ 10 ^ 5 := pow5 i h6
        omega
      have hnp : n * 10 + ((x : Int) - 48) < 10 ^ (i + 1) := by
        have := HP.out
        rw [Int.pow_succ]
        omega
      have w1 : IntKind.i64.wrap (n * 10) = n * 10 := IntWalk.i64_in _ (by omega)
      have w2 : IntKind.u8.wrap ((x : Int) - 48) = (x : Int) - 48 := IntWalk.u8_in _ (by omega)
      have w3 : IntKind.i64.wrap ((x : Int) - 48) = (x : Int) - 48 := IntWalk.i64_in _ (by omega)
      have w4 : IntKind.i64.wrap (n * 10 + ((x : Int) - 48)) = n * 10 + ((x : Int) - 48) := IntWalk.i64_in _ (by omega)
      have hdI : ¬ (x : Int) < 48 := by omega
      have hdJ : ¬ (x : Int) > 57 := by omega
      have HN := Lib.hid (And.intro hw hnp)
      clear hb2 hw hnp hd hd2
      go_wp2_with fail
      exact ⟨⟨i + 1, _, by omega, by go_num, rfl, by omega, by omega, HN.out.2, HN.out.1, trivial⟩, by simp [intOf]; omega⟩
    · have hwR : n = R := by
        have hw := HW.out
        rw [List.drop_eq_nil_of_le (by have := HLEN.out; omega)] at hw
        exact hw
      have HWR := Lib.hid hwR
      clear hwR
      go_wp2
      go_ret
      exact ⟨ret_int HWR.out, rfl⟩
end Go.Proofs.YthdoofmfigemoaaGreatDoor
end

section
/-
  strings.Split at a separator of one byte.
-/
namespace Go.Proofs.YthdoofmfigemoaaGreatDoor
open Go.RowKit
set_option linter.unusedSimpArgs false

/-- what lies between a byte -/
def cut (c : UInt8) : List UInt8 → List (List UInt8)
  | [] => [[]]
  | b :: l => if b = c then [] :: cut c l else match cut c l with
    | [] => [[b]]
    | x :: xs => (b :: x) :: xs
theorem cut_ne (c : UInt8) : ∀ l, cut c l ≠ []
  | [] => by simp [cut]
  | b :: l => by
    unfold cut
    split
    · simp
    · cases h : cut c l with
      | nil => simp
      | cons x xs => simp
theorem split_cut (c : UInt8) : ∀ l : List UInt8, Lib.splitK [c] 0 (l.count c) l = cut c l
  | [] => by simp [Lib.splitK, cut]
  | b :: l => by
    have ih := split_cut c l
    by_cases h : b = c
    · subst h
      rw [List.count_cons_self]
      have hi : Lib.index (b :: l) [b] = 0 := by simp [Lib.index]
      simp only [Lib.splitK, hi]
      rw [if_neg (by decide)]
      simp only [cut]
      rw [if_pos trivial, ← ih]
      simp
    · rw [List.count_cons_of_ne h]
      have hc : cut c (b :: l) = match cut c l with | [] => [[b]] | x :: xs => (b :: x) :: xs := by
        conv => lhs; unfold cut
        rw [if_neg h]
      rw [hc, ← ih]
      have hp : ([c] : List UInt8).isPrefixOf (b :: l) = false := by
        show (c == b && List.isPrefixOf [] l) = false
        rw [beq_false_of_ne (Ne.symm h)]
        rfl
      cases hk : l.count c with
      | zero => simp [Lib.splitK]
      | succ k =>
        by_cases hi : Lib.index l [c] = -1
        · have hi2 : Lib.index (b :: l) [c] = -1 := by simp [Lib.index, hp, hi]
          simp [Lib.splitK, hi, hi2]
        · have hi2 : Lib.index (b :: l) [c] = Lib.index l [c] + 1 := by simp [Lib.index, hp, hi]
          have hge := Lib.index_ge l [c]
          obtain ⟨i, hi3⟩ := Int.eq_ofNat_of_zero_le (show 0 ≤ Lib.index l [c] by omega)
          rw [hi3] at hi2
          have h1 : ¬ (((i : Int) == -1) = true) := by simp
          have h2 : ¬ ((((i : Int) + 1) == -1) = true) := by simp; omega
          simp only [Lib.splitK, hi2, hi3]
          rw [if_neg h1, if_neg h2]
          have e1 : ((i : Int)).toNat + 0 = i := by omega
          have e2 : ((i : Int) + 1).toNat + 0 = i + 1 := by omega
          have e3 : ((i : Int)).toNat + ([c] : List UInt8).length = i + 1 := by simp
          have e4 : ((i : Int) + 1).toNat + ([c] : List UInt8).length = i + 1 + 1 := by simp
          rw [e1, e2, e3, e4]
          simp
def bs (l : List UInt8) : ByteArray := ⟨l.toArray⟩
theorem bs_list (l : List UInt8) : (bs l).data.toList = l := by simp [bs]
theorem bs_eta (s : ByteArray) : bs s.data.toList = s := by simp [bs]
theorem splitB_cut (c : UInt8) (s : ByteArray) : Lib.splitB ⟨#[c]⟩ 0 (Lib.countB s ⟨#[c]⟩) s = (cut c s.data.toList).map bs := by
  have h := Lib.splitB_data ⟨#[c]⟩ 0 (Lib.countB s ⟨#[c]⟩) s
  have hc : Lib.countB s ⟨#[c]⟩ = s.data.toList.count c := Lib.count_one c s.data.toList
  have hs : (⟨#[c]⟩ : ByteArray).data.toList = [c] := rfl
  rw [hs, hc, split_cut] at h
  rw [hc, ← h, List.map_map]
  have : (bs ∘ fun x : ByteArray => x.data.toList) = id := by funext x; exact bs_eta x
  rw [this, List.map_id]
theorem Split_any (c : UInt8) (s : ByteArray) (m : Int) (w : World) (hs : s.size < 1000000) (hm : w.cell? ⟨0, 0, none⟩ = some (.int .i64 m)) :
    Calls Tryz.prog 44 #[.string s, .string ⟨#[c]⟩] w fun e w' => e = .returned (.slice (some ⟨w.heap.size, 0, none⟩) (cut c s.data.toList).length (cut c s.data.toList).length) ∧ w' = w.alloc (.cells (((cut c s.data.toList).map bs).map Value.string).toArray 9) := by
  refine (Tryz.strings_Split s ⟨#[c]⟩ m w (by omega) hm (Nat.le_refl _)).mono fun e w' h => ?_
  obtain ⟨h1, h2⟩ := h
  have hn : Lib.countB s ⟨#[c]⟩ + 1 = (cut c s.data.toList).length := by
    have := Lib.splitB_all ⟨#[c]⟩ (Nat.le_refl _) 0 _ s rfl
    rw [splitB_cut, List.length_map] at this
    exact this.symm
  rw [hn] at h1
  rw [splitB_cut] at h2
  exact ⟨h1, h2⟩
end Go.Proofs.YthdoofmfigemoaaGreatDoor
end

section
/-
  A block of memory by its cells: what is read there, what stays, what a store leaves.
-/
namespace Go.Proofs.YthdoofmfigemoaaGreatDoor
open Go.RowKit

/-- block b holds the cells cs -/
def Blk (w : World) (b : Nat) (cs : Array Value) (ty : TypeId) : Prop := w.heap[b]? = some (.cells cs ty (0, 0))
section
variable {w w' : World} {b : Nat} {cs : Array Value} {ty : TypeId}
theorem Blk.lt (h : Blk w b cs ty) : b < w.heap.size := (Array.getElem?_eq_some_iff.1 h).1
theorem Blk.keep (h : Blk w b cs ty) (hb : w'.heap[b]? = w.heap[b]?) : Blk w' b cs ty := hb.trans h
theorem Blk.cell (h : Blk w b cs ty) {j : Nat} {v : Value} (hv : cs[j]? = some v) : w.cell? ⟨b, j, none⟩ = some v := by rw [cell_of_row w b j _ _ _ h]; exact hv
theorem Blk.free (h : Blk w b cs ty) (j : Nat) : w.frozen? ⟨b, j, none⟩ = false := by
  unfold Blk at h
  simp [World.frozen?, h]
theorem Blk.new (w : World) (cs : Array Value) (ty : TypeId) : Blk (w.alloc (.cells cs ty)) w.heap.size cs ty := heap_alloc_new w _
theorem Blk.alloc (h : Blk w b cs ty) (o : Obj) : Blk (w.alloc o) b cs ty := h.keep (Below.heap_alloc w o b h.lt)
theorem Blk.drewN (h : Blk w b cs ty) (k : Nat) : Blk (w.drewN k) b cs ty := h
theorem Blk.drew (h : Blk w b cs ty) : Blk w.drew b cs ty := h
theorem Blk.next (h : Blk w b cs ty) (hb : Below w.heap.size w w') : Blk w' b cs ty := h.keep (hb.block b h.lt)
theorem Blk.below {B : Nat} (h : Blk w b cs ty) (hb : Below B w w') (hlt : b < B) : Blk w' b cs ty := h.keep (hb.block b hlt)
theorem Blk.grown (h : Blk w b cs ty) {row : Option Nat} (hg : w.grownBy w' row) (hne : some b ≠ row) : Blk w' b cs ty := h.keep (hg.block b h.lt hne)
theorem Blk.set (h : Blk w b cs ty) (j : Nat) (v : Value) : Blk (w.setCell ⟨b, j, none⟩ v) b (cs.setIfInBounds j v) ty := heap_setCell_same w b j _ _ v h
theorem Blk.other (h : Blk w b cs ty) {p : Addr} (hne : b ≠ p.block) (v : Value) : Blk (w.setCell p v) b cs ty := h.keep (heap_setCell_other w p b v hne)
theorem Blk.grows (_h : Blk w b cs ty) (j : Nat) (v : Value) : w.grownBy (w.setCell ⟨b, j, none⟩ v) (some b) :=
  ⟨rfl, rfl, rfl, by simp [World.setCell], fun k _ hne => heap_setCell_other w _ k _ (fun e => hne (by rw [e]))⟩
end
theorem Blk.set3 {w : World} {b : Nat} {ty : TypeId} {a0 a1 a2 : Value} (h : Blk w b #[a0, a1, a2] ty) (x0 x1 x2 : Value) :
    Blk (((w.setCell ⟨b, 0, none⟩ x0).setCell ⟨b, 1, none⟩ x1).setCell ⟨b, 2, none⟩ x2) b #[x0, x1, x2] ty := by
  have := ((h.set 0 x0).set 1 x1).set 2 x2
  simpa using this
theorem size_set (w : World) (p : Addr) (v : Value) : (w.setCell p v).heap.size = w.heap.size := by simp [World.setCell]
end Go.Proofs.YthdoofmfigemoaaGreatDoor
end

section
/-
  parseLine of a line whose command is known and has its numbers.
-/
namespace Go.Proofs.YthdoofmfigemoaaGreatDoor
open Go.RowKit
set_option linter.unusedSimpArgs false

theorem cut_len (c : UInt8) : ∀ (l x : List UInt8), x ∈ cut c l → x.length ≤ l.length
  | [], x, h => by simp [cut] at h; subst h; simp
  | b :: l, x, h => by
    have ih := cut_len c l
    unfold cut at h
    split at h
    · rcases List.mem_cons.1 h with rfl | h
      · simp
      · have := ih x h; simp; omega
    · cases hc : cut c l with
      | nil => rw [hc] at h; simp at h; subst h; simp
      | cons y ys =>
        rw [hc] at h
        rcases List.mem_cons.1 h with rfl | h
        · have := ih y (by rw [hc]; exact List.mem_cons_self); simp; exact this
        · have := ih x (by rw [hc]; exact List.mem_cons_of_mem _ h); simp; omega
/-- a line with a command and its numbers -/
def Good (line : List UInt8) (c : Nat × Nat) (nums : List Int) : Prop := ∃ k ws, cut 32 line = k :: ws ∧ cmdOf (bs k) = some c ∧ ws.length = c.1 ∧ nums = ws.map wnum
/-- the cell that strings.Split asks for -/
def Max (w : World) : Prop := ∃ m : Int, w.cell? ⟨0, 0, none⟩ = some (.int .i64 m)
def ParsePost (w : World) (c : Nat × Nat) (nums : List Int) (e : Ending) (w' : World) : Prop := ∃ A n, e = .returned (.tuple #[cmdVal c, .slice A nums.length n]) ∧ Own w' w.heap.size A nums.length n nums ∧ Below w.heap.size w w'
set_option maxRecDepth 100000 in
set_option maxHeartbeats 2000000 in
theorem parseLine_good (line : ByteArray) (c : Nat × Nat) (nums : List Int) (w : World) (hs : line.size ≤ 1000) (hm : Max w) (hg : Good line.data.toList c nums) (hc3 : c.1 ≤ 3) : Calls Tryz.prog 94 #[.string line] w (ParsePost w c nums) := by
  obtain ⟨cn, fid⟩ := c
  obtain ⟨k, ws, hcut, hcmd, hlen, hnums⟩ := hg
  simp only at hc3 hlen
  obtain ⟨m, hm⟩ := hm
  obtain ⟨W, hW⟩ : ∃ W, w.alloc (.cells #[.int .i64 0, .nilFunc] 139) = W := ⟨_, rfl⟩
  have hb2 : Blk W w.heap.size #[.int .i64 0, .nilFunc] 139 := by rw [← hW]; exact Blk.new _ _ _
  have hbl : Below w.heap.size w W := by rw [← hW]; exact (Below.refl _ _).alloc (Nat.le_refl _) _
  have hmW : W.cell? ⟨0, 0, none⟩ = some (.int .i64 m) := by rw [← hW]; exact (World.cell?_alloc_lt w _ _ (World.block_lt_of_cell? w _ hm)).trans hm
  have HW := Lib.hid hW
  have HB2 := Lib.hid hb2
  have HBL := Lib.hid hbl
  have HC := Lib.hid (And.intro hcut hcmd)
  have HN := Lib.hid (And.intro hlen hnums)
  clear hW hb2 hbl hm hcut hcmd hlen hnums
  go_enter Tryz.func94, Tryz.ntmps94
  go_wp2_with fail
  rw [HW.out]
  refine (Split_any 32 line m W (by omega) hmW).mono ?_
  rw [HC.out.1]
  rintro e w1 ⟨rfl, rfl⟩
  have hws : (k :: ws).length = cn + 1 := by simp; exact HN.out.1
  rw [hws]
  obtain ⟨W1, hW1⟩ : ∃ W1, W.alloc (.cells (((k :: ws).map bs).map Value.string).toArray 9) = W1 := ⟨_, rfl⟩
  have hst : Blk W1 W.heap.size (((k :: ws).map bs).map Value.string).toArray 9 := by rw [← hW1]; exact Blk.new _ _ _
  have hb21 : Blk W1 w.heap.size #[.int .i64 0, .nilFunc] 139 := by rw [← hW1]; exact HB2.out.alloc _
  have hbl1 : Below w.heap.size w W1 := by rw [← hW1]; exact HBL.out.alloc HBL.out.size _
  rw [hW1]
  have s0 : W1.cell? ⟨W.heap.size, 0, none⟩ = some (.string (bs k)) := hst.cell rfl
  have hsz : W.heap.size < W1.heap.size := hst.lt
  have HST := Lib.hid hst
  have HB21 := Lib.hid hb21
  have HBL1 := Lib.hid hbl1
  clear hW1 hst hb21 hbl1
  have l1 := lookup_yes HC.out.2 (W1.alloc (.map (E 15) 15)).drew W1.heap.size (heap_alloc_new W1 _)
  have l2 := lookup_yes HC.out.2 ((W1.alloc (.map (E 15) 15)).alloc (.cells #[.int .i64 0, .nilFunc] 139)).drew W1.heap.size ((Below.heap_alloc _ _ W1.heap.size (by simp)).trans (heap_alloc_new W1 _))
  have l3 := lookup_yes HC.out.2 ((W1.alloc (.cells #[.int .i64 0, .nilFunc] 139)).alloc (.map (E 15) 15)).drew (W1.heap.size + 1) (by
    have := heap_alloc_new (W1.alloc (.cells #[.int .i64 0, .nilFunc] 139)) (.map (E 15) 15)
    rw [World.size_alloc] at this
    exact this)
  unfold cmdVal at l1 l2 l3
  obtain ⟨WA, hWA⟩ : ∃ WA, ((W1.alloc (.map (E 15) 15)).alloc (.cells #[.int .i64 (cn : Int), .func (.func fid) #[] #[]] 139)).drew = WA := ⟨_, rfl⟩
  obtain ⟨WB, hWB⟩ : ∃ WB, ((W1.alloc (.cells #[.int .i64 (cn : Int), .func (.func fid) #[] #[]] 139)).alloc (.map (E 15) 15)).drew = WB := ⟨_, rfl⟩
  have QA := Lib.hid (show Blk WA (W1.heap.size + 1) #[.int .i64 (cn : Int), .func (.func fid) #[] #[]] 139 ∧ Below W1.heap.size W1 WA from by
    rw [← hWA]
    have := Blk.new (W1.alloc (.map (E 15) 15)) #[.int .i64 (cn : Int), .func (.func fid) #[] #[]] 139
    rw [World.size_alloc] at this
    exact ⟨this.drew, (((Below.refl _ _).alloc (Nat.le_refl _) _).alloc (by simp) _).drew⟩)
  have QB := Lib.hid (show Blk WB W1.heap.size #[.int .i64 (cn : Int), .func (.func fid) #[] #[]] 139 ∧ Below W1.heap.size W1 WB from by
    rw [← hWB]
    exact ⟨((Blk.new _ _ _).alloc _).drew, (((Below.refl _ _).alloc (Nat.le_refl _) _).alloc (by simp) _).drew⟩)
  have HA := Lib.hid hWA
  have HBB := Lib.hid hWB
  clear hWA hWB
  go_wp2_with fail
  go_region_held3 (fun w' => w'.cell? ⟨W.heap.size, 0, none⟩ = some (.string (bs k))) (first | exact s0 | go_simp | go_keep) ((go_at_call 128; refine (commandsByWord_any _).mono ?_; rintro e w2 ⟨rfl, rfl⟩))
  all_goals (first | (rw [HA.out]; obtain ⟨hq, hqb⟩ := QA.out; obtain ⟨W2, rfl⟩ : ∃ W2, W2 = WA := ⟨WA, rfl⟩) | (rw [HBB.out]; obtain ⟨hq, hqb⟩ := QB.out; obtain ⟨W2, rfl⟩ : ∃ W2, W2 = WB := ⟨WB, rfl⟩))
  all_goals
    have HST2 := Lib.hid (HST.out.next hqb)
    have HB22 := Lib.hid (HB21.out.next hqb)
    have HBL2 := Lib.hid (HBL1.out.trans (hqb.mono HBL1.out.size))
    have d0 := hq.cell (j := 0) (v := .int .i64 (cn : Int)) rfl
    have d1 := hq.cell (j := 1) (v := .func (.func fid) #[] #[]) rfl
    have HQ := Lib.hid hq
    have hb0 := HB22.out
    have m0 := hb0.cell (j := 0) (v := .int .i64 0) rfl
    have m1 := hb0.cell (j := 1) (v := .nilFunc) rfl
    have f0 := hb0.free 0
    have f1 := hb0.free 1
    clear hq hqb l1 l2 l3 s0 hsz hb0
    by_cases hc0 : cn = 0
    · subst hc0
      have hnn : nums = [] := by
        have h1 := HN.out.1
        have h2 := HN.out.2
        cases ws with
        | nil => exact h2
        | cons _ _ => simp at h1
      have HNN := Lib.hid hnn
      clear hnn
      go_wp2_with fail
      refine wp_loop_rounds 1 ?_
      rw [rounds_succ]
      go_wp2_with fail
      have hf := (HB22.out.set 0 (.int .i64 0)).set 1 (.func (.func fid) #[] #[])
      have g0 := hf.cell (j := 0) (v := .int .i64 0) rfl
      have g1 := hf.cell (j := 1) (v := .func (.func fid) #[] #[]) rfl
      refine bodyPost_ret (v := .tuple #[.agg #[.int .i64 0, .func (.func fid) #[] #[]], .slice none 0 0]) (by simp [results, Tryz.results94, go_sem, g0, g1]) rfl ⟨none, 0, ?_, ?_, ?_⟩
      · rw [HNN.out]; rfl
      · rw [HNN.out]; exact Own.nil _ _
      · exact (HBL2.out.setCell (p := ⟨w.heap.size, 0, none⟩) (Nat.le_refl _) _).setCell (p := ⟨w.heap.size, 1, none⟩) (Nat.le_refl _) _
    · have hc1 : 1 ≤ cn := by omega
      go_wp2_with fail
      go_loopw [7, 35] (fun sv iv wr => ∃ (j n : Nat) (A : Option Addr), j ≤ cn ∧ iv = .int .i64 (j : Int) ∧ sv = .slice A j n ∧ Own wr W2.heap.size A j n ((ws.take j).map wnum) ∧ Below W2.heap.size W2 wr) (fun _ iv _ => cn - (intOf iv).toNat)
      case atStart => exact ⟨0, 0, none, by omega, rfl, rfl, by simpa using Own.nil _ _, Below.refl _ _⟩
      case round =>
        obtain ⟨j, n, A, hj, rfl, rfl, ho, hb⟩ := hrel
        have HO := Lib.hid ho
        have HB := Lib.hid hb
        clear ho hb
        by_cases hlt : j < cn
        · obtain ⟨x, hx⟩ : ∃ x, ws[j]? = some x := ⟨_, List.getElem?_eq_getElem (by have := HN.out.1; omega)⟩
          have hst3 := HST2.out.below HB.out HST2.out.lt
          have s1 : wr.cell? ⟨W.heap.size, 1 + j, none⟩ = some (.string (bs x)) := hst3.cell (by
            rw [Nat.add_comm]
            simp [hx])
          have hxs : (bs x).size ≤ 1000000 := by
            have h1 := cut_len 32 line.data.toList x (by rw [HC.out.1]; exact List.mem_cons_of_mem _ (List.mem_of_getElem? hx))
            have h2 : line.data.toList.length = line.size := by simp
            have h3 : (bs x).size = x.length := by show x.toArray.size = _; simp
            omega
          have HX := Lib.hid hx
          clear hst3 hx
          go_wp2_with fail
          refine (wordNumber_any (bs x) wr hxs).mono ?_
          rintro e w' ⟨rfl, rfl⟩
          rw [bs_list]
          go_wp2_with (refine wpList_app rfl _ _ rfl rfl HO.out [wnum x] 1 rfl _ rfl _ rfl (by omega) HB.out.size ?_; intro A2 c2 w4 ho4 hg4)
          refine ⟨⟨j + 1, c2, A2, by omega, by go_num, rfl, ?_, ?_⟩, by simp [intOf]; omega⟩
          · rw [take_next HX.out, List.map_append, List.map_cons, List.map_nil]; exact ho4
          · exact HB.out.grown hg4 HB.out.size (fun q hq => (HO.out.blk q hq).1)
        · have hje : j = cn := by omega
          have hq3 := HQ.out.below HB.out HQ.out.lt
          have hb3 := HB22.out.below HB.out HB22.out.lt
          have d0 := hq3.cell (j := 0) (v := .int .i64 (cn : Int)) rfl
          have d1 := hq3.cell (j := 1) (v := .func (.func fid) #[] #[]) rfl
          have m0 := hb3.cell (j := 0) (v := .int .i64 0) rfl
          have m1 := hb3.cell (j := 1) (v := .nilFunc) rfl
          have f0 := hb3.free 0
          have f1 := hb3.free 1
          have HB3 := Lib.hid hb3
          have hnl : nums.length = j := by rw [HN.out.2, List.length_map, HN.out.1, hje]
          have hnt : (ws.take j).map wnum = nums := by rw [HN.out.2, List.take_of_length_le (by have := HN.out.1; omega)]
          have HNL := Lib.hid (And.intro hnl hnt)
          clear hq3 hb3 hje hnl hnt
          go_wp2_with fail
          have hf := (HB3.out.set 0 (.int .i64 (cn : Int))).set 1 (.func (.func fid) #[] #[])
          have g0 := hf.cell (j := 0) (v := .int .i64 (cn : Int)) rfl
          have g1 := hf.cell (j := 1) (v := .func (.func fid) #[] #[]) rfl
          refine bodyPost_ret (v := .tuple #[.agg #[.int .i64 (cn : Int), .func (.func fid) #[] #[]], .slice A j n]) (by simp [results, Tryz.results94, go_sem, g0, g1]) rfl ⟨A, n, ?_, ?_, ?_⟩
          · rw [HNL.out.1]; rfl
          · rw [HNL.out.1]
            have ho := HO.out
            rw [HNL.out.2] at ho
            have hlt2 : w.heap.size < W2.heap.size := HB22.out.lt
            refine (((ho.kept (Blk.grows HB3.out 0 _) (fun q hq e => by have := (HO.out.blk q hq).1; injection e with e; omega)).kept (Blk.grows (HB3.out.set 0 _) 1 _) (fun q hq e => by have := (HO.out.blk q hq).1; injection e with e; omega))).mono (Nat.le_of_lt hlt2)
          · exact ((HBL2.out.trans (HB.out.mono HBL2.out.size)).setCell (p := ⟨w.heap.size, 0, none⟩) (Nat.le_refl _) _).setCell (p := ⟨w.heap.size, 1, none⟩) (Nat.le_refl _) _
end Go.Proofs.YthdoofmfigemoaaGreatDoor
end

section
/-
  Notches as lists of letters: which are valid, and what they are worth. No program in sight.
-/
namespace Go.Proofs.YthdoofmfigemoaaGreatDoor.Ta

/-- the place of a letter in MCXI -/
def rank (c : UInt8) : Option Nat := if c = 77 then some 0 else if c = 67 then some 1 else if c = 88 then some 2 else if c = 73 then some 3 else none
def weight (k : Nat) : Int := if k = 0 then 1000 else if k = 1 then 100 else if k = 2 then 10 else 1
/-- letter by letter: the last letter's place, how many of it, the worth so far -/
def scan : List UInt8 → Nat → Nat → Int → Option Int
  | [], _, _, t => some t
  | c :: cs, r, m, t =>
    match rank c with
    | none => none
    | some k => if k < r then none else if 9 < (if k = r then m + 1 else 1) then none else scan cs k (if k = r then m + 1 else 1) (t + weight k)
/-- what notches are worth -/
def worth (s : List UInt8) : Option Int := scan s 0 0 0
theorem rank_lt {c : UInt8} {k : Nat} (h : rank c = some k) : k < 4 := by
  unfold rank at h
  repeat' split at h
  all_goals first | (injection h with h; omega) | cases h
theorem weight_bd (k : Nat) : 1 ≤ weight k ∧ weight k ≤ 1000 := by unfold weight; repeat' split <;> omega
theorem scan_none {c : UInt8} {cs : List UInt8} {r m : Nat} {t : Int} (h : rank c = none) : scan (c :: cs) r m t = none := by simp [scan, h]
theorem scan_back {c : UInt8} {cs : List UInt8} {r m k : Nat} {t : Int} (h : rank c = some k) (hk : k < r) : scan (c :: cs) r m t = none := by simp [scan, h, hk]
theorem scan_many {c : UInt8} {cs : List UInt8} {r m k : Nat} {t : Int} (h : rank c = some k) (hk : ¬ k < r) (hm : 9 < (if k = r then m + 1 else 1)) : scan (c :: cs) r m t = none := by simp only [scan, h]; rw [if_neg hk, if_pos hm]
theorem scan_on {c : UInt8} {cs : List UInt8} {r m k : Nat} {t : Int} (h : rank c = some k) (hk : ¬ k < r) (hm : ¬ 9 < (if k = r then m + 1 else 1)) : scan (c :: cs) r m t = scan cs k (if k = r then m + 1 else 1) (t + weight k) := by simp only [scan, h]; rw [if_neg hk, if_neg hm]
/-- valid notches are no more than 36 letters, and worth at most 9999 -/
theorem scan_bd : ∀ (s : List UInt8) (r m : Nat) (t v : Int), r < 4 → m ≤ 9 → scan s r m t = some v → 9 * r + m + s.length ≤ 36 ∧ t ≤ v ∧ v ≤ t + 1000 * (s.length : Int) ∧ (v = t → s = [])
  | [], r, m, t, v, hr, hm, h => by
    simp [scan] at h
    subst h
    refine ⟨by simp; omega, by omega, by simp, fun _ => rfl⟩
  | c :: cs, r, m, t, v, hr, hm, h => by
    cases hk : rank c with
    | none => rw [scan_none hk] at h; cases h
    | some k =>
      by_cases h1 : k < r
      · rw [scan_back hk h1] at h; cases h
      · by_cases h2 : 9 < (if k = r then m + 1 else 1)
        · rw [scan_many hk h1 h2] at h; cases h
        · rw [scan_on hk h1 h2] at h
          have hw := weight_bd k
          obtain ⟨i1, i2, i3, i4⟩ := scan_bd cs k _ _ v (rank_lt hk) (by omega) h
          refine ⟨?_, by omega, by simp only [List.length_cons]; omega, fun e => by omega⟩
          simp only [List.length_cons]
          split at i1 <;> omega
def notes (a b c d : Nat) : List UInt8 := List.replicate a 77 ++ (List.replicate b 67 ++ (List.replicate c 88 ++ List.replicate d 73))
/-- the notches of a worth -/
def ntext (n : Nat) : List UInt8 := notes (n / 1000) (n / 100 % 10) (n / 10 % 10) (n % 10)
theorem scan_rep {c : UInt8} {q : Nat} (hc : rank c = some q) (rest : List UInt8) : ∀ (k r m : Nat) (t : Int), r ≤ q → (q = r → m + k ≤ 9) → (r ≠ q → k ≤ 9) →
    scan (List.replicate k c ++ rest) r m t = scan rest (if k = 0 then r else q) (if k = 0 then m else if q = r then m + k else k) (t + k * weight q)
  | 0, r, m, t, _, _, _ => by simp
  | k + 1, r, m, t, h1, h2, h3 => by
    rw [List.replicate_succ, List.cons_append, scan_on hc (by omega) (by split <;> omega)]
    by_cases e : q = r
    · subst e
      rw [if_pos rfl, scan_rep hc rest k q (m + 1) _ (Nat.le_refl _) (fun _ => by have := h2 rfl; omega) (fun h => absurd rfl h)]
      have e1 : (if k = 0 then q else q) = q := by split <;> rfl
      have e2 : (if k = 0 then m + 1 else if q = q then m + 1 + k else k) = m + (k + 1) := by rw [if_pos rfl]; split <;> omega
      rw [e1, e2, if_neg (by omega), if_neg (by omega), if_pos rfl]
      congr 1
      push_cast
      rw [Int.add_mul]; omega
    · rw [if_neg e, scan_rep hc rest k q 1 _ (Nat.le_refl _) (fun _ => by have := h3 (Ne.symm e); omega) (fun h => absurd rfl h)]
      have e1 : (if k = 0 then q else q) = q := by split <;> rfl
      have e2 : (if k = 0 then 1 else if q = q then 1 + k else k) = k + 1 := by rw [if_pos rfl]; split <;> omega
      rw [e1, e2, if_neg (by omega), if_neg (by omega), if_neg e]
      congr 1
      push_cast
      rw [Int.add_mul]; omega
theorem worth_notes {a b c d : Nat} (ha : a ≤ 9) (hb : b ≤ 9) (hc : c ≤ 9) (hd : d ≤ 9) : worth (notes a b c d) = some (1000 * a + 100 * b + 10 * c + d) := by
  unfold worth notes
  rw [scan_rep (q := 0) (by decide) _ a 0 0 0 (by omega) (by omega) (by omega)]
  rw [scan_rep (q := 1) (by decide) _ b _ _ _ (by split <;> omega) (by split <;> intro h <;> first | omega | (cases h)) (by omega)]
  have e1 : ∀ r1 m1 t1, r1 ≤ 1 → scan (List.replicate c 88 ++ List.replicate d 73) r1 m1 t1 = some (t1 + 10 * c + d) := by
    intro r1 m1 t1 h1
    rw [scan_rep (q := 2) (by decide) _ c _ _ _ (by omega) (by omega) (by omega)]
    have e2 : ∀ r2 m2 t2, r2 ≤ 2 → scan (List.replicate d 73) r2 m2 t2 = some (t2 + d) := by
      intro r2 m2 t2 h2
      have := scan_rep (c := 73) (q := 3) (by decide) [] d r2 m2 t2 (by omega) (by omega) (by omega)
      rw [List.append_nil] at this
      rw [this]
      simp [scan, weight]
    rw [e2 _ _ _ (by split <;> omega)]
    simp [weight]; omega
  rw [e1 _ _ _ (by split <;> (try split) <;> omega)]
  simp [weight]; omega
theorem worth_ntext {n : Nat} (h : n ≤ 9999) : worth (ntext n) = some (n : Int) := by
  unfold ntext
  rw [worth_notes (by omega) (by omega) (by omega) (by omega)]
  have e1 : n / 100 = n / 10 / 10 := by rw [Nat.div_div_eq_div_mul]
  have e2 : n / 1000 = n / 10 / 10 / 10 := by rw [Nat.div_div_eq_div_mul, Nat.div_div_eq_div_mul]
  rw [e1, e2]
  have h1 := Nat.div_add_mod n 10
  have h2 := Nat.div_add_mod (n / 10) 10
  have h3 := Nat.div_add_mod (n / 10 / 10) 10
  generalize n / 10 / 10 / 10 = x at *
  generalize n / 10 / 10 % 10 = y at *
  generalize n / 10 / 10 = z at *
  generalize n / 10 % 10 = u at *
  generalize n / 10 = q at *
  generalize n % 10 = r at *
  exact congrArg some (by omega)
theorem worth_bd {s : List UInt8} {v : Int} (h : worth s = some v) : s.length ≤ 36 ∧ 0 ≤ v ∧ v ≤ 36000 ∧ (v = 0 → s = []) := by
  obtain ⟨h1, h2, h3, h4⟩ := scan_bd s 0 0 0 v (by omega) (by omega) h
  refine ⟨by omega, h2, by omega, h4⟩
theorem worth_nil : worth [] = some 0 := rfl
theorem ntext_nil {n : Nat} (h : n ≤ 9999) : ntext n = [] ↔ n = 0 := by
  constructor
  · intro e
    have := worth_ntext h
    rw [e, worth_nil] at this
    injection this with this
    omega
  · rintro rfl; rfl
end Go.Proofs.YthdoofmfigemoaaGreatDoor.Ta
end

section
/-
  Rows of tallies and of debts in memory.
-/
namespace Go.Proofs.YthdoofmfigemoaaGreatDoor
open Go.RowKit

/-- a tally -/
structure Tl where
  a : Int
  c : Int
  s : ByteArray
  f : ByteArray
/-- its cells, and as one value -/
def Tl.cells (t : Tl) : List Value := [.int .i64 t.a, .int .i64 t.c, .string t.s, .string t.f]
def Tl.val (t : Tl) : Value := .agg #[.int .i64 t.a, .int .i64 t.c, .string t.s, .string t.f]
/-- a debt -/
structure Db where
  a : Int
  c : Int
  v : Int
def Db.cells (d : Db) : List Value := [.int .i64 d.a, .int .i64 d.c, .int .i64 d.v]
def Db.val (d : Db) : Value := .agg #[.int .i64 d.a, .int .i64 d.c, .int .i64 d.v]

/-- A slice of n elements whose cells, one after another, are vs; it lies below block B. -/
def Row (w : World) (B : Nat) (A : Option Addr) (n k : Nat) (vs : List Value) : Prop :=
  vs.length = n * k ∧ n ≤ 1099511627776 ∧ (0 < n → ∃ b off, A = some ⟨b, off, none⟩ ∧ b < B ∧ ∀ j u, vs[j]? = some u → w.cell? ⟨b, off + j, none⟩ = some u)
section
variable {w w' : World} {B B' n k : Nat} {A : Option Addr} {vs : List Value}
theorem Row.keep (h : Row w B A n k vs) (hk : ∀ p : Addr, p.block < B → w'.cell? p = w.cell? p) : Row w' B A n k vs :=
  ⟨h.1, h.2.1, fun hn => by
    obtain ⟨b, off, e, hb, hc⟩ := h.2.2 hn
    exact ⟨b, off, e, hb, fun j u hu => (hk _ hb).trans (hc j u hu)⟩⟩
theorem Row.mono (h : Row w B A n k vs) (hB : B ≤ B') : Row w B' A n k vs :=
  ⟨h.1, h.2.1, fun hn => by
    obtain ⟨b, off, e, hb, hc⟩ := h.2.2 hn
    exact ⟨b, off, e, by omega, hc⟩⟩
theorem Row.below (h : Row w B A n k vs) (hb : Below B w w') : Row w' B A n k vs := h.keep fun _ hp => hb.cell hp
theorem Row.next (h : Row w w.heap.size A n k vs) (hb : Below w.heap.size w w') : Row w' w'.heap.size A n k vs := (h.below hb).mono hb.size
theorem Row.drewN (h : Row w B A n k vs) (q : Nat) : Row (w.drewN q) B A n k vs := h
theorem Row.alloc (h : Row w B A n k vs) (hB : B ≤ w.heap.size) (o : Obj) : Row (w.alloc o) B A n k vs := h.keep fun p hp => World.cell?_alloc_lt w o p (by omega)
theorem Row.nil (w : World) (B : Nat) (A : Option Addr) (k : Nat) : Row w B A 0 k [] := ⟨by simp, by omega, fun h => absurd h (by omega)⟩
end

/-! lists of cells -/
def TV (ts : List Tl) : List Value := ts.flatMap Tl.cells
def DV (ds : List Db) : List Value := ds.flatMap Db.cells
theorem flat_length {α : Type} {f : α → List Value} {k : Nat} (hf : ∀ x, (f x).length = k) : ∀ xs : List α, (xs.flatMap f).length = xs.length * k
  | [] => by simp
  | x :: xs => by rw [List.flatMap_cons, List.length_append, hf, flat_length hf xs, List.length_cons, Nat.succ_mul, Nat.add_comm]
theorem flat_get {α : Type} {f : α → List Value} {k : Nat} (hf : ∀ x, (f x).length = k) : ∀ (xs : List α) (i : Nat) (x : α), xs[i]? = some x → ∀ j, j < k → (xs.flatMap f)[i * k + j]? = (f x)[j]?
  | [], i, x, h, _, _ => by simp at h
  | y :: xs, 0, x, h, j, hj => by
    obtain rfl : y = x := by simpa using h
    rw [List.flatMap_cons, Nat.zero_mul, Nat.zero_add, List.getElem?_append_left (by rw [hf]; exact hj)]
  | y :: xs, i + 1, x, h, j, hj => by
    have h' : xs[i]? = some x := by simpa using h
    rw [List.flatMap_cons, List.getElem?_append_right (by rw [hf, Nat.succ_mul]; omega), hf, show (i + 1) * k + j - k = i * k + j from by rw [Nat.succ_mul]; omega]
    exact flat_get hf xs i x h' j hj
theorem TV_length (ts : List Tl) : (TV ts).length = ts.length * 4 := flat_length (f := Tl.cells) (k := 4) (fun _ => rfl) ts
theorem DV_length (ds : List Db) : (DV ds).length = ds.length * 3 := flat_length (f := Db.cells) (k := 3) (fun _ => rfl) ds
theorem TV_append (x y : List Tl) : TV (x ++ y) = TV x ++ TV y := List.flatMap_append
theorem DV_append (x y : List Db) : DV (x ++ y) = DV x ++ DV y := List.flatMap_append
theorem TV_one (t : Tl) : TV [t] = t.cells := by simp [TV]
theorem DV_one (d : Db) : DV [d] = d.cells := by simp [DV]
theorem TV_oneCell (ts : List Tl) : ∀ u ∈ TV ts, u.oneCell' = true := by
  intro u hu
  obtain ⟨t, _, hu⟩ := List.mem_flatMap.1 hu
  simp [Tl.cells] at hu
  rcases hu with rfl | rfl | rfl | rfl <;> rfl
theorem DV_oneCell (ds : List Db) : ∀ u ∈ DV ds, u.oneCell' = true := by
  intro u hu
  obtain ⟨t, _, hu⟩ := List.mem_flatMap.1 hu
  simp [Db.cells] at hu
  rcases hu with rfl | rfl | rfl <;> rfl
def Tals (w : World) (B : Nat) (A : Option Addr) (n : Nat) (ts : List Tl) : Prop := Row w B A n 4 (TV ts)
def Dbs (w : World) (B : Nat) (A : Option Addr) (n : Nat) (ds : List Db) : Prop := Row w B A n 3 (DV ds)
theorem Tals.len {w : World} {B n : Nat} {A : Option Addr} {ts : List Tl} (h : Tals w B A n ts) : ts.length = n := by have := h.1; rw [TV_length] at this; omega
theorem Dbs.len {w : World} {B n : Nat} {A : Option Addr} {ts : List Db} (h : Dbs w B A n ts) : ts.length = n := by have := h.1; rw [DV_length] at this; omega
theorem Tals.at_ {w : World} {B n : Nat} {A : Option Addr} {ts : List Tl} (h : Tals w B A n ts) {k : Nat} (hk : k < n) : ∃ b off t, A = some ⟨b, off, none⟩ ∧ b < B ∧ ts[k]? = some t ∧
    w.cell? ⟨b, off + k * 4, none⟩ = some (.int .i64 t.a) ∧ w.cell? ⟨b, off + k * 4 + 1, none⟩ = some (.int .i64 t.c) ∧ w.cell? ⟨b, off + k * 4 + 2, none⟩ = some (.string t.s) ∧ w.cell? ⟨b, off + k * 4 + 3, none⟩ = some (.string t.f) := by
  have hl := h.len
  obtain ⟨b, off, e, hb, hc⟩ := h.2.2 (by omega)
  have hk' : ts[k]? = some ts[k] := List.getElem?_eq_getElem (by omega)
  have g := flat_get (f := Tl.cells) (k := 4) (fun _ => rfl) ts k _ hk'
  exact ⟨b, off, ts[k], e, hb, hk', hc _ _ (g 0 (by omega)), by rw [Nat.add_assoc]; exact hc _ _ (g 1 (by omega)), by rw [Nat.add_assoc]; exact hc _ _ (g 2 (by omega)), by rw [Nat.add_assoc]; exact hc _ _ (g 3 (by omega))⟩
theorem Dbs.at_ {w : World} {B n : Nat} {A : Option Addr} {ts : List Db} (h : Dbs w B A n ts) {k : Nat} (hk : k < n) : ∃ b off t, A = some ⟨b, off, none⟩ ∧ b < B ∧ ts[k]? = some t ∧
    w.cell? ⟨b, off + k * 3, none⟩ = some (.int .i64 t.a) ∧ w.cell? ⟨b, off + k * 3 + 1, none⟩ = some (.int .i64 t.c) ∧ w.cell? ⟨b, off + k * 3 + 2, none⟩ = some (.int .i64 t.v) := by
  have hl := h.len
  obtain ⟨b, off, e, hb, hc⟩ := h.2.2 (by omega)
  have hk' : ts[k]? = some ts[k] := List.getElem?_eq_getElem (by omega)
  have g := flat_get (f := Db.cells) (k := 3) (fun _ => rfl) ts k _ hk'
  exact ⟨b, off, ts[k], e, hb, hk', hc _ _ (g 0 (by omega)), by rw [Nat.add_assoc]; exact hc _ _ (g 1 (by omega)), by rw [Nat.add_assoc]; exact hc _ _ (g 2 (by omega))⟩

/-- rows of the call's own -/
def OwnR (w : World) (B : Nat) (e : TypeId) (k : Nat) (A : Option Addr) (n c : Nat) (vs : List Value) : Prop := w.ownsRow B e k (.slice A n c) n vs ∧ n ≤ 1099511627776
abbrev OwnT (w : World) (B : Nat) (A : Option Addr) (n c : Nat) (ts : List Tl) : Prop := OwnR w B 52 4 A n c (TV ts)
abbrev OwnD (w : World) (B : Nat) (A : Option Addr) (n c : Nat) (ds : List Db) : Prop := OwnR w B 123 3 A n c (DV ds)
section
variable {w w' : World} {B B' k n c : Nat} {e : TypeId} {A : Option Addr} {vs : List Value}
theorem OwnR.row (h : OwnR w B e k A n c vs) : Row w w.heap.size A n k vs := by
  refine ⟨h.1.1, h.2, fun hn => ?_⟩
  rcases h.1.2 with ⟨_, h0⟩ | ⟨g, cap, cur, hv, hb, hg, _⟩
  · omega
  · injection hv with h1 h2 h3
    subst h1
    have hlt := h.1.lt g rfl
    refine ⟨g, 0, rfl, hlt.2, fun j u hu => ?_⟩
    have := h.1.cells (g := g) rfl j _ hu
    rw [add_row] at this
    simpa using this
theorem OwnR.kept {row : Option Nat} (h : OwnR w B e k A n c vs) (hg : w.grownBy w' row) (hne : ∀ q, (Value.slice A n c).ownBlock = some q → row ≠ some q) : OwnR w' B e k A n c vs :=
  ⟨h.1.kept hg (by
    cases hv : (Value.slice A n c).ownBlock with
    | none => exact .inl rfl
    | some q => exact .inr (fun e => hne q hv e.symm)), h.2⟩
theorem OwnR.alloc (h : OwnR w B e k A n c vs) (o : Obj) : OwnR (w.alloc o) B e k A n c vs := ⟨h.1.alloc o, h.2⟩
theorem OwnR.drew (h : OwnR w B e k A n c vs) : OwnR w.drew B e k A n c vs := h
theorem OwnR.drewN (h : OwnR w B e k A n c vs) (q : Nat) : OwnR (w.drewN q) B e k A n c vs := h
theorem OwnR.next (h : OwnR w B e k A n c vs) (hb : Below w.heap.size w w') : OwnR w' B e k A n c vs :=
  h.kept (row := none) ⟨hb.os, hb.tape, hb.output, hb.size, fun k hk _ => hb.block k hk⟩ (by intro k _ e; cases e)
theorem OwnR.mono (h : OwnR w B e k A n c vs) (hB : B' ≤ B) : OwnR w B' e k A n c vs := by
  refine ⟨⟨h.1.1, ?_⟩, h.2⟩
  rcases h.1.2 with h0 | ⟨g, cap, cur, hv, hb, rest⟩
  · exact .inl h0
  · exact .inr ⟨g, cap, cur, hv, by omega, rest⟩
theorem OwnR.blk (h : OwnR w B e k A n c vs) : ∀ q, (Value.slice A n c).ownBlock = some q → B ≤ q ∧ q < w.heap.size := h.1.lt
theorem OwnR.nil (w : World) (B : Nat) (e : TypeId) (k : Nat) : OwnR w B e k none 0 0 [] := ⟨World.ownsRow_nil _ _ _ _, by omega⟩
theorem OwnR.cap (h : OwnR w B e k A n c vs) : n ≤ c := by
  rcases h.1.2 with ⟨h0, rfl⟩ | ⟨g, cap, cur, hv, hb, hg, hr⟩
  · omega
  · injection hv with _ _ e3
    subst e3
    exact hr.1
end
theorem OwnT.tals {w : World} {B n c : Nat} {A : Option Addr} {ts : List Tl} (h : OwnT w B A n c ts) : Tals w w.heap.size A n ts := h.row
theorem OwnD.dbs {w : World} {B n c : Nat} {A : Option Addr} {ds : List Db} (h : OwnD w B A n c ds) : Dbs w w.heap.size A n ds := h.row

theorem tally_info : (Tryz.prog.info? 52).map (fun i => (i.zero, i.size, i.bytes)) = some (some (.agg #[.int .i64 0, .int .i64 0, .string ⟨#[]⟩, .string ⟨#[]⟩]), 4, 48) := by kernel_rfl
theorem debt_info : (Tryz.prog.info? 123).map (fun i => (i.zero, i.size, i.bytes)) = some (some (.agg #[.int .i64 0, .int .i64 0, .int .i64 0]), 3, 24) := by kernel_rfl
theorem shape_own {w : World} {B k n m : Nat} {e : TypeId} {v : Value} {vs : List Value} (h : w.ownsRow B e k v (n + m) vs) (hn : n + m ≤ 1099511627776) : ∃ A c, v = .slice A (n + m) c ∧ OwnR w B e k A (n + m) c vs := by
  rcases h.2 with ⟨rfl, h0⟩ | ⟨g, cap, cur, rfl, _⟩
  · rw [h0] at h ⊢
    exact ⟨none, 0, rfl, h, by omega⟩
  · exact ⟨_, _, rfl, h, hn⟩
/-- append(out, t): the new tally lies in a block of its own -/
theorem wpList_app_t {ops : Array Oper} {rest : List Oper} {o : Oper} {a : Act} {w : World} {Q : Exit → Act → World → Prop} (hgd : o.guard = none) (s x : Operand)
    (ho : o.op = .call { callee := .builtin .append, args := #[s, x], argTypes := #[46, 46] })
    {B : Nat} {A : Option Addr} {n c : Nat} {ts : List Tl} (hs : a.eval s = .slice A n c) (hown : OwnT w B A n c ts) (t : Tl) (c0 : Nat)
    (hx : a.eval x = .slice (some ⟨w.heap.size, 0, none⟩) 1 c0) (cs : Array Value) (hcs : cs = t.cells.toArray) (hn : n + 1 ≤ 1000000) (hB : B ≤ w.heap.size)
    (h : ∀ A' c' w', OwnT w' B A' (n + 1) c' (ts ++ [t]) → w.grownBy w' (Value.slice A n c).ownBlock → wpList Tryz.prog ops Q rest (a.put o.dst (.slice A' (n + 1) c')) w') :
    wpList Tryz.prog ops Q (o :: rest) a (w.alloc (.cells cs 52)) := by
  obtain ⟨i0, hi, hz0, hz1, hz2⟩ := info_parts tally_info
  subst hcs
  refine wpList_append_own _ hgd s x 46 ho B 52 i0 _ 4 48 Tryz.underlying46 hi hz0 hz1 hz2 rfl (by decide) _ n (TV ts) hs (hown.1.alloc _)
    ⟨w.heap.size, 0, none⟩ 1 c0 t.cells hx (by simp [Tl.cells]) ?_ (by rw [← TV_one]; exact TV_oneCell _) (by unfold maxLen; omega) (by omega) (by simp; omega) ?_
  · intro j u hj
    rw [add_row, cell_of_row _ w.heap.size j _ _ _ (heap_alloc_new w _)]
    simpa using hj
  · intro v' w' hown' hg _
    rw [← TV_one, ← TV_append] at hown'
    obtain ⟨A', c', rfl, h'⟩ := shape_own hown' (by omega)
    exact h A' c' w' h' ⟨hg.os, hg.tape, hg.output, by have := hg.size; simp at this; omega, fun k hk hne => (hg.block k (by simp; omega) hne).trans (Below.heap_alloc w _ k hk)⟩
theorem wpList_app_d {ops : Array Oper} {rest : List Oper} {o : Oper} {a : Act} {w : World} {Q : Exit → Act → World → Prop} (hgd : o.guard = none) (s x : Operand)
    (ho : o.op = .call { callee := .builtin .append, args := #[s, x], argTypes := #[113, 113] })
    {B : Nat} {A : Option Addr} {n c : Nat} {ts : List Db} (hs : a.eval s = .slice A n c) (hown : OwnD w B A n c ts) (t : Db) (c0 : Nat)
    (hx : a.eval x = .slice (some ⟨w.heap.size, 0, none⟩) 1 c0) (cs : Array Value) (hcs : cs = t.cells.toArray) (hn : n + 1 ≤ 1000000) (hB : B ≤ w.heap.size)
    (h : ∀ A' c' w', OwnD w' B A' (n + 1) c' (ts ++ [t]) → w.grownBy w' (Value.slice A n c).ownBlock → wpList Tryz.prog ops Q rest (a.put o.dst (.slice A' (n + 1) c')) w') :
    wpList Tryz.prog ops Q (o :: rest) a (w.alloc (.cells cs 123)) := by
  obtain ⟨i0, hi, hz0, hz1, hz2⟩ := info_parts debt_info
  subst hcs
  refine wpList_append_own _ hgd s x 113 ho B 123 i0 _ 3 24 Tryz.underlying113 hi hz0 hz1 hz2 rfl (by decide) _ n (DV ts) hs (hown.1.alloc _)
    ⟨w.heap.size, 0, none⟩ 1 c0 t.cells hx (by simp [Db.cells]) ?_ (by rw [← DV_one]; exact DV_oneCell _) (by unfold maxLen; omega) (by omega) (by simp; omega) ?_
  · intro j u hj
    rw [add_row, cell_of_row _ w.heap.size j _ _ _ (heap_alloc_new w _)]
    simpa using hj
  · intro v' w' hown' hg _
    rw [← DV_one, ← DV_append] at hown'
    obtain ⟨A', c', rfl, h'⟩ := shape_own hown' (by omega)
    exact h A' c' w' h' ⟨hg.os, hg.tape, hg.output, by have := hg.size; simp at this; omega, fun k hk hne => (hg.block k (by simp; omega) hne).trans (Below.heap_alloc w _ k hk)⟩
/-- make([]debt, 0, n) -/
theorem wpList_make_d {ops : Array Oper} {rest : List Oper} {o : Oper} {a : Act} {w : World} {Q : Exit → Act → World → Prop} (hgd : o.guard = none) (l c : Operand)
    (ho : o.op = .makeSlice 113 l c) {B n : Nat} (C : Int) (hl : a.eval l = .int .i64 0) (hc : a.eval c = .int .i64 C) (hC : C = (n : Int)) (hn : n ≤ 1000000) (hB : B ≤ w.heap.size)
    (h : ∀ w', OwnD w' B (some ⟨w.heap.size, 0, none⟩) 0 n [] → w.grownBy w' none → wpList Tryz.prog ops Q rest (a.put o.dst (.slice (some ⟨w.heap.size, 0, none⟩) 0 n)) w') :
    wpList Tryz.prog ops Q (o :: rest) a w := by
  obtain ⟨i0, hi, hz0, hz1, hz2⟩ := info_parts debt_info
  refine wpList_make_own w hgd l c 113 ho B 123 i0 _ 3 Tryz.underlying113 hi hz0 hz1 .i64 .i64 C n hl hc hC (by rw [hz2]; omega) (by unfold maxLen; omega) hB ?_
  intro w' hown hg
  exact h w' ⟨hown, by omega⟩ hg
end Go.Proofs.YthdoofmfigemoaaGreatDoor
end

section
/-
  A text by its bytes.
-/
namespace Go.Proofs.YthdoofmfigemoaaGreatDoor
open Go.RowKit

def txt (l : List UInt8) : ByteArray := ⟨l.toArray⟩
theorem txt_size (l : List UInt8) : (txt l).size = l.length := by show l.toArray.size = _; simp
theorem txt_append (l r : List UInt8) : txt l ++ txt r = txt (l ++ r) := ByteArray.mk_append_mk l r
theorem txt_inj {l r : List UInt8} (h : txt l = txt r) : l = r := by
  have : l.toArray = r.toArray := congrArg ByteArray.data h
  simpa using this
theorem txt_list (l : List UInt8) : (txt l).data.toList = l := by simp [txt]
theorem txt_eta (s : ByteArray) : txt s.data.toList = s := by simp [txt]
end Go.Proofs.YthdoofmfigemoaaGreatDoor
end

section
/-
  The program's notches: how many of each letter, what they are worth, the notches of a worth.
-/
namespace Go.Proofs.YthdoofmfigemoaaGreatDoor
open Go.RowKit
set_option linter.unusedSimpArgs false

theorem letterWorth_any (k : Nat) (hk : k < 4) (w : World) : Calls Tryz.prog 88 #[.int .i64 (k : Int)] w fun e w' => e = .returned (.int .i64 (Ta.weight k)) ∧ w = w' := by
  have pw : ∀ (n : Nat) (w : World), n ≤ 3 → Calls Tryz.prog 56 #[.int .i64 (n : Int)] w fun e w' => e = .returned (.int .i64 (Ta.weight (3 - n))) ∧ w = w' := by
    intro n w hn
    match n, hn with
    | 0, _ =>
      go_enter Tryz.func56, Tryz.ntmps56
      go_wp2_with fail
      refine wp_loop_rounds 1 ?_
      rw [rounds_succ]
      go_wp2_with fail
      go_ret
      exact ⟨rfl, rfl⟩
    | 1, _ =>
      go_enter Tryz.func56, Tryz.ntmps56
      go_wp2_with fail
      refine wp_loop_rounds 2 ?_
      iterate 2 (rw [rounds_succ]; go_wp2_with fail)
      go_ret
      exact ⟨rfl, rfl⟩
    | 2, _ =>
      go_enter Tryz.func56, Tryz.ntmps56
      go_wp2_with fail
      refine wp_loop_rounds 3 ?_
      iterate 3 (rw [rounds_succ]; go_wp2_with fail)
      go_ret
      exact ⟨rfl, rfl⟩
    | 3, _ =>
      go_enter Tryz.func56, Tryz.ntmps56
      go_wp2_with fail
      refine wp_loop_rounds 4 ?_
      iterate 4 (rw [rounds_succ]; go_wp2_with fail)
      go_ret
      exact ⟨rfl, rfl⟩
  have e : (3 : Int) - (k : Int) = ((3 - k : Nat) : Int) := by omega
  have h3 : 3 - (3 - k) = k := by omega
  go_enter Tryz.func88, Tryz.ntmps88
  go_wp2_with fail
  refine (pw (3 - k) w (by omega)).mono ?_
  rintro e w' ⟨rfl, rfl⟩
  rw [h3]
  go_wp2
  go_ret
  exact ⟨rfl, rfl⟩

/-- the place of a letter, or -1 -/
def rk (b : UInt8) : Int := match Ta.rank b with | none => -1 | some k => k
theorem idx_any (b : UInt8) (w : World) : Calls Tryz.prog 123 #[.string ⟨#[77, 67, 88, 73]⟩, .int .u8 (b.toNat : Int)] w fun e w' => e = .returned (.int .i64 (rk b)) ∧ w = w' := by
  refine (Tryz.strings_IndexByte _ _ w).mono fun e w' h => ⟨?_, h.2.symm⟩
  rw [h.1]
  congr 2
  have e1 : ((b.toNat : Int)).toNat.toUInt8 = b := by simp
  rw [e1]
  unfold rk Ta.rank
  by_cases h0 : b = 77
  · subst h0; decide
  · by_cases h1 : b = 67
    · subst h1; decide
    · by_cases h2 : b = 88
      · subst h2; decide
      · by_cases h3 : b = 73
        · subst h3; decide
        · simp [h0, h1, h2, h3, Lib.indexByte, Ne.symm h0, Ne.symm h1, Ne.symm h2, Ne.symm h3]
/-- the counts of letters so far: the last place, how many there, the worth -/
structure Cs (c0 c1 c2 c3 : Int) (r : Nat) (m : Nat) (t : Int) : Prop where
  lo : 0 ≤ c0 ∧ 0 ≤ c1 ∧ 0 ≤ c2 ∧ 0 ≤ c3
  hi : c0 ≤ 9 ∧ c1 ≤ 9 ∧ c2 ≤ 9 ∧ c3 ≤ 9
  sum : t = 1000 * c0 + 100 * c1 + 10 * c2 + c3
  last : r < 4
  now : (m : Int) = if r = 0 then c0 else if r = 1 then c1 else if r = 2 then c2 else c3
  then_ : (r < 1 → c1 = 0) ∧ (r < 2 → c2 = 0) ∧ (r < 3 → c3 = 0)
theorem Cs.put {c0 c1 c2 c3 t : Int} {r m : Nat} (h : Cs c0 c1 c2 c3 r m t) :
    (¬ 0 < r → ¬ c0 = 9 → Cs (c0 + 1) c1 c2 c3 0 (if 0 = r then m + 1 else 1) (t + Ta.weight 0) ∧ ¬ 9 < (if 0 = r then m + 1 else 1)) ∧
    (¬ 1 < r → ¬ c1 = 9 → Cs c0 (c1 + 1) c2 c3 1 (if 1 = r then m + 1 else 1) (t + Ta.weight 1) ∧ ¬ 9 < (if 1 = r then m + 1 else 1)) ∧
    (¬ 2 < r → ¬ c2 = 9 → Cs c0 c1 (c2 + 1) c3 2 (if 2 = r then m + 1 else 1) (t + Ta.weight 2) ∧ ¬ 9 < (if 2 = r then m + 1 else 1)) ∧
    (¬ 3 < r → ¬ c3 = 9 → Cs c0 c1 c2 (c3 + 1) 3 (if 3 = r then m + 1 else 1) (t + Ta.weight 3) ∧ ¬ 9 < (if 3 = r then m + 1 else 1)) := by
  obtain ⟨lo, hi, sum, last, now, th⟩ := h
  have hr : r = 0 ∨ r = 1 ∨ r = 2 ∨ r = 3 := by omega
  refine ⟨fun h1 h2 => ?_, fun h1 h2 => ?_, fun h1 h2 => ?_, fun h1 h2 => ?_⟩
  all_goals
    rcases hr with rfl | rfl | rfl | rfl <;> simp at now th h1 <;> (refine ⟨⟨by omega, by omega, by simp [Ta.weight] <;> omega, by omega, by simp <;> omega, by simp <;> omega⟩, by simp <;> omega⟩)
theorem Cs.full {c0 c1 c2 c3 t : Int} {r m : Nat} (h : Cs c0 c1 c2 c3 r m t) :
    (¬ 0 < r → c0 = 9 → 9 < (if 0 = r then m + 1 else 1)) ∧ (¬ 1 < r → c1 = 9 → 9 < (if 1 = r then m + 1 else 1)) ∧ (¬ 2 < r → c2 = 9 → 9 < (if 2 = r then m + 1 else 1)) ∧ (¬ 3 < r → c3 = 9 → 9 < (if 3 = r then m + 1 else 1)) := by
  obtain ⟨lo, hi, sum, last, now, th⟩ := h
  have hr : r = 0 ∨ r = 1 ∨ r = 2 ∨ r = 3 := by omega
  refine ⟨fun h1 h2 => ?_, fun h1 h2 => ?_, fun h1 h2 => ?_, fun h1 h2 => ?_⟩
  all_goals
    rcases hr with rfl | rfl | rfl | rfl <;> simp at now th h1 ⊢ <;> omega
theorem drop_cell {l : List UInt8} {i : Nat} {b : UInt8} (h : l[i]? = some b) : l.drop i = b :: l.drop (i + 1) := by
  obtain ⟨h1, h2⟩ := List.getElem?_eq_some_iff.1 h
  rw [List.drop_eq_getElem_cons h1, h2]
/-- what notchCounts gives -/
def NcPost (s : ByteArray) (w : World) (e : Ending) (w' : World) : Prop :=
  (∃ c0 c1 c2 c3, e = .returned (.tuple #[.agg #[.int .i64 c0, .int .i64 c1, .int .i64 c2, .int .i64 c3], .bool (Ta.worth s.data.toList).isSome]) ∧
    (∀ v, Ta.worth s.data.toList = some v → v = 1000 * c0 + 100 * c1 + 10 * c2 + c3 ∧ 0 ≤ c0 ∧ 0 ≤ c1 ∧ 0 ≤ c2 ∧ 0 ≤ c3 ∧ c0 ≤ 9 ∧ c1 ≤ 9 ∧ c2 ≤ 9 ∧ c3 ≤ 9)) ∧ Below w.heap.size w w'

set_option maxRecDepth 100000 in
set_option maxHeartbeats 4000000 in
theorem notchCounts_any (s : ByteArray) (w : World) (hs : s.size ≤ 1099511627776) : Calls Tryz.prog 87 #[.string s] w (NcPost s w) := by
  have hlen : s.data.toList.length = s.size := by simp
  have HLEN := Lib.hid hlen
  clear hlen
  go_enter Tryz.func87, Tryz.ntmps87
  go_wp2_with fail
  go_loopw [5, 6] (fun lv iv wr => ∃ (i r m : Nat) (c0 c1 c2 c3 t : Int), i ≤ s.size ∧ lv = .int .i64 (r : Int) ∧ iv = .int .i64 (i : Int) ∧ Cs c0 c1 c2 c3 r m t ∧ Ta.worth s.data.toList = Ta.scan (s.data.toList.drop i) r m t ∧
    wr = (w.alloc (.cells #[.int .i64 0, .int .i64 0, .int .i64 0, .int .i64 0] 129)).alloc (.cells #[.int .i64 c0, .int .i64 c1, .int .i64 c2, .int .i64 c3] 129)) (fun _ iv _ => s.size - (intOf iv).toNat)
  case atStart => exact ⟨0, 0, 0, 0, 0, 0, 0, 0, by omega, rfl, rfl, ⟨by omega, by omega, by omega, by omega, by simp, by simp⟩, rfl, rfl⟩
  case round =>
    obtain ⟨i, r, m, c0, c1, c2, c3, t, hi, rfl, rfl, hc, hw, rfl⟩ := hrel
    have HC := Lib.hid hc
    have HW := Lib.hid hw
    clear hc hw
    by_cases hlt : i < s.size
    · obtain ⟨b, hb⟩ : ∃ b, s[i] = b := ⟨_, rfl⟩
      have hb2 : s.data.toList[i]? = some b := by
        rw [List.getElem?_eq_getElem (by have := HLEN.out; omega), ← hb]; rfl
      have HB := Lib.hid hb2
      have HB2 := Lib.hid hb
      clear hb hb2
      go_wp2_with fail
      rw [HB2.out]
      refine (idx_any b _).mono ?_
      rintro e w' ⟨rfl, rfl⟩
      rcases hk : Ta.rank b with _ | k
      · have e1 : rk b = -1 := by simp [rk, hk]
        have hm : (-1 : Int) < (r : Int) := by omega
        rw [e1]
        have hz : Ta.worth s.data.toList = none := by rw [HW.out, drop_cell HB.out]; exact Ta.scan_none hk
        have HZ := Lib.hid hz
        clear hz e1 hk
        go_wp2_with fail
        refine bodyPost_ret (v := .tuple #[.agg #[.int .i64 c0, .int .i64 c1, .int .i64 c2, .int .i64 c3], .bool false]) (by simp [results, Tryz.results87, go_sem]) rfl ⟨⟨c0, c1, c2, c3, by rw [HZ.out]; rfl, by rw [HZ.out]; intro v hv; cases hv⟩, ((Below.refl _ _).alloc (Nat.le_refl _) _).alloc (by simp) _⟩
      · have e1 : rk b = (k : Int) := by simp [rk, hk]
        have hk4 := Ta.rank_lt hk
        have HK := Lib.hid hk
        rw [e1]
        clear e1 hk
        have hkk : k = 0 ∨ k = 1 ∨ k = 2 ∨ k = 3 := by omega
        clear hk4
        rcases hkk with rfl | rfl | rfl | rfl
        · by_cases hkr : 0 < r
          · have hi2 : ((0 : Int)) < (r : Int) := by omega
            have hz : Ta.worth s.data.toList = none := by rw [HW.out, drop_cell HB.out]; exact Ta.scan_back HK.out hkr
            have HZ := Lib.hid hz
            clear hz
            go_wp2_with fail
            refine bodyPost_ret (v := .tuple #[.agg #[.int .i64 c0, .int .i64 c1, .int .i64 c2, .int .i64 c3], .bool false]) (by simp [results, Tryz.results87, go_sem]) rfl ⟨⟨c0, c1, c2, c3, by rw [HZ.out]; rfl, by rw [HZ.out]; intro v hv; cases hv⟩, ((Below.refl _ _).alloc (Nat.le_refl _) _).alloc (by simp) _⟩
          · have hi2 : ¬ ((0 : Int)) < (r : Int) := by omega
            have hd2 : decide ((0 : Int) < (r : Int)) = false := decide_eq_false hi2
            by_cases h9 : c0 = 9
            · have hz : Ta.worth s.data.toList = none := by rw [HW.out, drop_cell HB.out]; exact Ta.scan_many HK.out hkr (HC.out.full.1 hkr h9)
              have HZ := Lib.hid hz
              clear hz
              go_wp2_with fail
              refine bodyPost_ret (v := .tuple #[.agg #[.int .i64 c0, .int .i64 c1, .int .i64 c2, .int .i64 c3], .bool false]) (by simp [results, Tryz.results87, go_sem, h9]) rfl ⟨⟨c0, c1, c2, c3, by rw [HZ.out]; rfl, by rw [HZ.out]; intro v hv; cases hv⟩, ((Below.refl _ _).alloc (Nat.le_refl _) _).alloc (by simp) _⟩
            · have hbd := HC.out.hi
              have hbl := HC.out.lo
              have h92 : (c0 == 9) = false := by simpa using h9
              have hp := HC.out.put.1 hkr h9
              have hz : Ta.worth s.data.toList = Ta.scan (s.data.toList.drop (i + 1)) 0 (if 0 = r then m + 1 else 1) (t + Ta.weight 0) := by rw [HW.out, drop_cell HB.out]; exact Ta.scan_on HK.out hkr hp.2
              have HP := Lib.hid hp.1
              have HZ := Lib.hid hz
              have b0 : ¬ (c0 + 1 < -9223372036854775808) := by omega
              have b1 : ¬ (c0 + 1 > 9223372036854775807) := by omega
              clear hp hz hbd hbl
              go_wp2_with fail
              refine ⟨⟨i + 1, 0, _, _, _, _, _, _, by omega, rfl, by go_num, HP.out, HZ.out, rfl⟩, ?_⟩
              simp [intOf]
              omega
        · by_cases hkr : 1 < r
          · have hi2 : ((1 : Int)) < (r : Int) := by omega
            have hz : Ta.worth s.data.toList = none := by rw [HW.out, drop_cell HB.out]; exact Ta.scan_back HK.out hkr
            have HZ := Lib.hid hz
            clear hz
            go_wp2_with fail
            refine bodyPost_ret (v := .tuple #[.agg #[.int .i64 c0, .int .i64 c1, .int .i64 c2, .int .i64 c3], .bool false]) (by simp [results, Tryz.results87, go_sem]) rfl ⟨⟨c0, c1, c2, c3, by rw [HZ.out]; rfl, by rw [HZ.out]; intro v hv; cases hv⟩, ((Below.refl _ _).alloc (Nat.le_refl _) _).alloc (by simp) _⟩
          · have hi2 : ¬ ((1 : Int)) < (r : Int) := by omega
            have hd2 : decide ((1 : Int) < (r : Int)) = false := decide_eq_false hi2
            by_cases h9 : c1 = 9
            · have hz : Ta.worth s.data.toList = none := by rw [HW.out, drop_cell HB.out]; exact Ta.scan_many HK.out hkr (HC.out.full.2.1 hkr h9)
              have HZ := Lib.hid hz
              clear hz
              go_wp2_with fail
              refine bodyPost_ret (v := .tuple #[.agg #[.int .i64 c0, .int .i64 c1, .int .i64 c2, .int .i64 c3], .bool false]) (by simp [results, Tryz.results87, go_sem, h9]) rfl ⟨⟨c0, c1, c2, c3, by rw [HZ.out]; rfl, by rw [HZ.out]; intro v hv; cases hv⟩, ((Below.refl _ _).alloc (Nat.le_refl _) _).alloc (by simp) _⟩
            · have hbd := HC.out.hi
              have hbl := HC.out.lo
              have h92 : (c1 == 9) = false := by simpa using h9
              have hp := HC.out.put.2.1 hkr h9
              have hz : Ta.worth s.data.toList = Ta.scan (s.data.toList.drop (i + 1)) 1 (if 1 = r then m + 1 else 1) (t + Ta.weight 1) := by rw [HW.out, drop_cell HB.out]; exact Ta.scan_on HK.out hkr hp.2
              have HP := Lib.hid hp.1
              have HZ := Lib.hid hz
              have b0 : ¬ (c1 + 1 < -9223372036854775808) := by omega
              have b1 : ¬ (c1 + 1 > 9223372036854775807) := by omega
              clear hp hz hbd hbl
              go_wp2_with fail
              refine ⟨⟨i + 1, 1, _, _, _, _, _, _, by omega, rfl, by go_num, HP.out, HZ.out, rfl⟩, ?_⟩
              simp [intOf]
              omega
        · by_cases hkr : 2 < r
          · have hi2 : ((2 : Int)) < (r : Int) := by omega
            have hz : Ta.worth s.data.toList = none := by rw [HW.out, drop_cell HB.out]; exact Ta.scan_back HK.out hkr
            have HZ := Lib.hid hz
            clear hz
            go_wp2_with fail
            refine bodyPost_ret (v := .tuple #[.agg #[.int .i64 c0, .int .i64 c1, .int .i64 c2, .int .i64 c3], .bool false]) (by simp [results, Tryz.results87, go_sem]) rfl ⟨⟨c0, c1, c2, c3, by rw [HZ.out]; rfl, by rw [HZ.out]; intro v hv; cases hv⟩, ((Below.refl _ _).alloc (Nat.le_refl _) _).alloc (by simp) _⟩
          · have hi2 : ¬ ((2 : Int)) < (r : Int) := by omega
            have hd2 : decide ((2 : Int) < (r : Int)) = false := decide_eq_false hi2
            by_cases h9 : c2 = 9
            · have hz : Ta.worth s.data.toList = none := by rw [HW.out, drop_cell HB.out]; exact Ta.scan_many HK.out hkr (HC.out.full.2.2.1 hkr h9)
              have HZ := Lib.hid hz
              clear hz
              go_wp2_with fail
              refine bodyPost_ret (v := .tuple #[.agg #[.int .i64 c0, .int .i64 c1, .int .i64 c2, .int .i64 c3], .bool false]) (by simp [results, Tryz.results87, go_sem, h9]) rfl ⟨⟨c0, c1, c2, c3, by rw [HZ.out]; rfl, by rw [HZ.out]; intro v hv; cases hv⟩, ((Below.refl _ _).alloc (Nat.le_refl _) _).alloc (by simp) _⟩
            · have hbd := HC.out.hi
              have hbl := HC.out.lo
              have h92 : (c2 == 9) = false := by simpa using h9
              have hp := HC.out.put.2.2.1 hkr h9
              have hz : Ta.worth s.data.toList = Ta.scan (s.data.toList.drop (i + 1)) 2 (if 2 = r then m + 1 else 1) (t + Ta.weight 2) := by rw [HW.out, drop_cell HB.out]; exact Ta.scan_on HK.out hkr hp.2
              have HP := Lib.hid hp.1
              have HZ := Lib.hid hz
              have b0 : ¬ (c2 + 1 < -9223372036854775808) := by omega
              have b1 : ¬ (c2 + 1 > 9223372036854775807) := by omega
              clear hp hz hbd hbl
              go_wp2_with fail
              refine ⟨⟨i + 1, 2, _, _, _, _, _, _, by omega, rfl, by go_num, HP.out, HZ.out, rfl⟩, ?_⟩
              simp [intOf]
              omega
        · by_cases hkr : 3 < r
          · have hi2 : ((3 : Int)) < (r : Int) := by omega
            have hz : Ta.worth s.data.toList = none := by rw [HW.out, drop_cell HB.out]; exact Ta.scan_back HK.out hkr
            have HZ := Lib.hid hz
            clear hz
            go_wp2_with fail
            refine bodyPost_ret (v := .tuple #[.agg #[.int .i64 c0, .int .i64 c1, .int .i64 c2, .int .i64 c3], .bool false]) (by simp [results, Tryz.results87, go_sem]) rfl ⟨⟨c0, c1, c2, c3, by rw [HZ.out]; rfl, by rw [HZ.out]; intro v hv; cases hv⟩, ((Below.refl _ _).alloc (Nat.le_refl _) _).alloc (by simp) _⟩
          · have hi2 : ¬ ((3 : Int)) < (r : Int) := by omega
            have hd2 : decide ((3 : Int) < (r : Int)) = false := decide_eq_false hi2
            by_cases h9 : c3 = 9
            · have hz : Ta.worth s.data.toList = none := by rw [HW.out, drop_cell HB.out]; exact Ta.scan_many HK.out hkr (HC.out.full.2.2.2 hkr h9)
              have HZ := Lib.hid hz
              clear hz
              go_wp2_with fail
              refine bodyPost_ret (v := .tuple #[.agg #[.int .i64 c0, .int .i64 c1, .int .i64 c2, .int .i64 c3], .bool false]) (by simp [results, Tryz.results87, go_sem, h9]) rfl ⟨⟨c0, c1, c2, c3, by rw [HZ.out]; rfl, by rw [HZ.out]; intro v hv; cases hv⟩, ((Below.refl _ _).alloc (Nat.le_refl _) _).alloc (by simp) _⟩
            · have hbd := HC.out.hi
              have hbl := HC.out.lo
              have h92 : (c3 == 9) = false := by simpa using h9
              have hp := HC.out.put.2.2.2 hkr h9
              have hz : Ta.worth s.data.toList = Ta.scan (s.data.toList.drop (i + 1)) 3 (if 3 = r then m + 1 else 1) (t + Ta.weight 3) := by rw [HW.out, drop_cell HB.out]; exact Ta.scan_on HK.out hkr hp.2
              have HP := Lib.hid hp.1
              have HZ := Lib.hid hz
              have b0 : ¬ (c3 + 1 < -9223372036854775808) := by omega
              have b1 : ¬ (c3 + 1 > 9223372036854775807) := by omega
              clear hp hz hbd hbl
              go_wp2_with fail
              refine ⟨⟨i + 1, 3, _, _, _, _, _, _, by omega, rfl, by go_num, HP.out, HZ.out, rfl⟩, ?_⟩
              simp [intOf]
              omega
    · obtain rfl : i = s.size := by omega
      have hz : Ta.worth s.data.toList = some t := by rw [HW.out, List.drop_of_length_le (by have := HLEN.out; omega)]; rfl
      have HZ := Lib.hid hz
      clear hz
      go_wp2_with fail
      refine bodyPost_ret (v := .tuple #[.agg #[.int .i64 c0, .int .i64 c1, .int .i64 c2, .int .i64 c3], .bool true]) (by simp [results, Tryz.results87, go_sem]) rfl ⟨⟨c0, c1, c2, c3, by rw [HZ.out]; rfl, fun v hv => ?_⟩, ((Below.refl _ _).alloc (Nat.le_refl _) _).alloc (by simp) _⟩
      rw [HZ.out] at hv
      injection hv with hv
      subst hv
      exact ⟨HC.out.sum, HC.out.lo.1, HC.out.lo.2.1, HC.out.lo.2.2.1, HC.out.lo.2.2.2, HC.out.hi.1, HC.out.hi.2.1, HC.out.hi.2.2.1, HC.out.hi.2.2.2⟩
end Go.Proofs.YthdoofmfigemoaaGreatDoor
end

section
/-
  The program's NotchesWorth, NotchesValid, NotchesOf, different, TallyMatches, tally.
-/
namespace Go.Proofs.YthdoofmfigemoaaGreatDoor
open Go.RowKit
set_option linter.unusedSimpArgs false

/-- a text by its letters -/
theorem letterWorth_is (k : Nat) (K u : Int) (hK : K = (k : Int)) (hk : k < 4) (h : Ta.weight k = u) (w : World) : Calls Tryz.prog 88 #[.int .i64 K] w fun e w' => e = .returned (.int .i64 u) ∧ w = w' := hK ▸ h ▸ letterWorth_any k hk w
theorem slice_letter (k : Nat) (K K' : Int) (c : UInt8) (hk : k < 4) (hK : K = (k : Int)) (hK' : K' = (k : Int) + 1) (hc : (ByteArray.mk #[77, 67, 88, 73]).extract k (k + 1) = ⟨#[c]⟩) (w : World) :
    (Instr.slice 9 (.string ⟨#[77, 67, 88, 73]⟩) (some (.int .i64 K)) (some (.int .i64 K')) none).run Tryz.prog w = .ok (.string ⟨#[c]⟩) w := by
  subst hK
  subst hK'
  rw [run_slice_string w 9 _ _ _ _ _ Tryz.underlying9 (by omega) (by omega) (by show (k : Int) + 1 ≤ ((4 : Nat) : Int); omega)]
  have e1 : ((k : Int)).toNat = k := by omega
  have e2 : ((k : Int) + 1).toNat = k + 1 := by omega
  rw [e1, e2, hc]
theorem rep_any (s : ByteArray) (c : UInt8) (q : Nat) (hs : s = ⟨#[c]⟩) (hq : q ≤ 9999) (w : World) : Calls Tryz.prog 148 #[.string s, .int .i64 (q : Int)] w fun e w' => e = .returned (.string (txt (List.replicate q c))) ∧ Below w.heap.size w w' := by
  subst hs
  refine (Tryz.strings_Repeat ⟨#[c]⟩ q w (by omega) (by show 1 * q ≤ _; omega)).mono fun e w' h => ⟨?_, h.2⟩
  rw [h.1]
  have := Lib.repeatL_replicate c 1 q
  rw [Nat.mul_one] at this
  have e : Lib.repeatL (ByteArray.mk #[c]).data.toList q = List.replicate q c := this
  rw [e]; rfl

theorem run_index_four (c0 c1 c2 c3 : Int) : (∀ w, (Instr.index 129 (.agg #[.int .i64 c0, .int .i64 c1, .int .i64 c2, .int .i64 c3]) (.int .i64 0)).run Tryz.prog w = .ok (.int .i64 c0) w) ∧
    (∀ w, (Instr.index 129 (.agg #[.int .i64 c0, .int .i64 c1, .int .i64 c2, .int .i64 c3]) (.int .i64 1)).run Tryz.prog w = .ok (.int .i64 c1) w) ∧
    (∀ w, (Instr.index 129 (.agg #[.int .i64 c0, .int .i64 c1, .int .i64 c2, .int .i64 c3]) (.int .i64 2)).run Tryz.prog w = .ok (.int .i64 c2) w) ∧
    (∀ w, (Instr.index 129 (.agg #[.int .i64 c0, .int .i64 c1, .int .i64 c2, .int .i64 c3]) (.int .i64 3)).run Tryz.prog w = .ok (.int .i64 c3) w) := by
  obtain ⟨i0, hi, hz0, hz1, hz2⟩ := info_parts (show (Tryz.prog.info? 3).map (fun i => (i.zero, i.size, i.bytes)) = some (some (.int .i64 0), 1, 8) by kernel_rfl)
  refine ⟨fun w => ?_, fun w => ?_, fun w => ?_, fun w => ?_⟩ <;>
    simp [Instr.index, run_underlying Tryz.underlying129, asIntOf, go_sem, part, sizeOf, typeInfo, hi, hz1]
/-- what notches are worth, or -1 -/
def worthB (s : ByteArray) : Int := (Ta.worth s.data.toList).getD (-1)
set_option maxRecDepth 100000 in
set_option maxHeartbeats 4000000 in
theorem NotchesWorth_any (s : ByteArray) (w : World) (hs : s.size ≤ 1099511627776) : Calls Tryz.prog 39 #[.string s] w fun e w' => e = .returned (.int .i64 (worthB s)) ∧ Below w.heap.size w w' := by
  go_enter Tryz.func39, Tryz.ntmps39
  go_wp2_with fail
  refine (notchCounts_any s w hs).mono ?_
  rintro e w1 ⟨⟨c0, c1, c2, c3, rfl, hc⟩, hb1⟩
  rcases hw : Ta.worth s.data.toList with _ | v
  · have e1 : worthB s = -1 := by simp [worthB, hw]
    have HB := Lib.hid (hb1.alloc hb1.size (.cells #[.int .i64 c0, .int .i64 c1, .int .i64 c2, .int .i64 c3] 129))
    have E := Lib.hid e1
    clear hc e1 hw hb1
    simp only [Option.isSome_none]
    go_wp2_with fail
    go_ret
    exact ⟨ret_int E.out.symm, HB.out⟩
  · obtain ⟨hv, l0, l1, l2, l3, u0, u1, u2, u3⟩ := hc v hw
    have e1 : worthB s = v := by simp [worthB, hw]
    have HB := Lib.hid (hb1.alloc hb1.size (.cells #[.int .i64 c0, .int .i64 c1, .int .i64 c2, .int .i64 c3] 129))
    have E := Lib.hid (e1.trans hv)
    obtain ⟨i0, i1, i2, i3⟩ := run_index_four c0 c1 c2 c3
    clear hc e1 hw hv hb1
    simp only [Option.isSome_some]
    go_wp2_with fail
    refine wp_loop_rounds 5 ?_
    rw [rounds_succ]
    go_wp2_with fail
    refine (letterWorth_is 0 0 1000 rfl (by omega) rfl _).mono ?_
    rintro e w' ⟨rfl, rfl⟩
    go_wp2_with fail
    rw [rounds_succ]
    go_wp2_with fail
    refine (letterWorth_is 1 1 100 rfl (by omega) rfl _).mono ?_
    rintro e w' ⟨rfl, rfl⟩
    go_wp2_with fail
    rw [rounds_succ]
    go_wp2_with fail
    refine (letterWorth_is 2 2 10 rfl (by omega) rfl _).mono ?_
    rintro e w' ⟨rfl, rfl⟩
    go_wp2_with fail
    rw [rounds_succ]
    go_wp2_with fail
    refine (letterWorth_is 3 3 1 rfl (by omega) rfl _).mono ?_
    rintro e w' ⟨rfl, rfl⟩
    go_wp2_with fail
    rw [rounds_succ]
    go_wp2_with fail
    go_ret
    exact ⟨ret_int (by rw [E.out]; omega), HB.out⟩
def validB (s : ByteArray) : Bool := (Ta.worth s.data.toList).isSome
theorem NotchesValid_any (s : ByteArray) (w : World) (hs : s.size ≤ 1099511627776) : Calls Tryz.prog 145 #[.string s] w fun e w' => e = .returned (.bool (validB s)) ∧ Below w.heap.size w w' := by
  go_enter Tryz.func145, Tryz.ntmps145
  go_wp2_with fail
  refine (notchCounts_any s w hs).mono ?_
  rintro e w1 ⟨⟨c0, c1, c2, c3, rfl, hc⟩, hb1⟩
  have HB := Lib.hid (hb1.alloc hb1.size (.cells #[.int .i64 c0, .int .i64 c1, .int .i64 c2, .int .i64 c3] 129))
  clear hc hb1
  go_wp2_with fail
  go_ret
  exact ⟨rfl, HB.out⟩

/-! the notches of a worth, letter by letter -/
def rest (n : Nat) : Nat → Nat
  | 0 => n
  | 1 => n % 1000
  | 2 => n % 100
  | 3 => n % 10
  | _ => 0
def pre (n : Nat) : Nat → List UInt8
  | 0 => []
  | 1 => List.replicate (n / 1000) 77
  | 2 => List.replicate (n / 1000) 77 ++ List.replicate (n / 100 % 10) 67
  | 3 => List.replicate (n / 1000) 77 ++ List.replicate (n / 100 % 10) 67 ++ List.replicate (n / 10 % 10) 88
  | _ => Ta.ntext n
theorem of_step {n k : Nat} (W : Int) (c : UInt8) (m : Nat) (t : ByteArray) (ht : t = txt (pre n k)) (m' q : Nat) (h1 : rest n (k + 1) = m') (h2 : ((m : Nat) : Int).tdiv W = q) (h3 : ((m : Nat) : Int).tmod W = m')
    (h4 : pre n (k + 1) = pre n k ++ List.replicate q c) (h5 : q ≤ 9999) (h6 : (pre n k).length ≤ 9999) :
    ∃ (m' q : Nat) (u : ByteArray), m' = rest n (k + 1) ∧ q ≤ 9999 ∧ ((m : Nat) : Int).tdiv W = q ∧ ((m : Nat) : Int).tmod W = m' ∧ t ++ txt (List.replicate q c) = u ∧ ¬ (t.size + (txt (List.replicate q c)).size > 9223372036854775807) ∧ u = txt (pre n (k + 1)) := by
  subst ht
  exact ⟨m', q, txt (pre n (k + 1)), h1.symm, h5, h2, h3, by rw [h4, txt_append], by rw [txt_size, txt_size, List.length_replicate]; omega, rfl⟩
theorem wrap_nat {n : Nat} (h : n ≤ 1000000) : IntKind.i64.wrap (n : Int) = (n : Int) := IntWalk.i64_in _ (by omega)
theorem rest_bd (n k : Nat) (h : n ≤ 9999) : rest n k ≤ 1000000 := by
  unfold rest
  split <;> omega
theorem tdiv_nat (m k : Nat) : ((m : Nat) : Int).tdiv (k : Int) = ((m / k : Nat) : Int) := rfl
theorem tmod_nat (m k : Nat) : ((m : Nat) : Int).tmod (k : Int) = ((m % k : Nat) : Int) := rfl
theorem of_step0 (n m : Nat) (t : ByteArray) (hn : n ≤ 9999) (hm : m = rest n 0) (ht : t = txt (pre n 0)) :
    ∃ (m' q : Nat) (u : ByteArray), m' = rest n 1 ∧ q ≤ 9999 ∧ ((m : Nat) : Int).tdiv 1000 = q ∧ ((m : Nat) : Int).tmod 1000 = m' ∧ t ++ txt (List.replicate q 77) = u ∧ ¬ (t.size + (txt (List.replicate q 77)).size > 9223372036854775807) ∧ u = txt (pre n 1) := by
  subst hm
  exact of_step 1000 77 _ t ht (rest m 1) (m / 1000) rfl (tdiv_nat _ 1000) (tmod_nat _ 1000) (by simp [pre]) (by omega) (by simp [pre])
theorem of_step1 (n m : Nat) (t : ByteArray) (hn : n ≤ 9999) (hm : m = rest n 1) (ht : t = txt (pre n 1)) :
    ∃ (m' q : Nat) (u : ByteArray), m' = rest n 2 ∧ q ≤ 9999 ∧ ((m : Nat) : Int).tdiv 100 = q ∧ ((m : Nat) : Int).tmod 100 = m' ∧ t ++ txt (List.replicate q 67) = u ∧ ¬ (t.size + (txt (List.replicate q 67)).size > 9223372036854775807) ∧ u = txt (pre n 2) := by
  subst hm
  exact of_step 100 67 _ t ht (rest n 2) (n / 100 % 10) rfl ((tdiv_nat _ 100).trans (by simp only [rest]; congr 1 <;> omega)) ((tmod_nat _ 100).trans (by simp only [rest]; congr 1 <;> omega)) (by simp [pre]) (by omega) (by simp [pre] <;> omega)
theorem of_step2 (n m : Nat) (t : ByteArray) (hn : n ≤ 9999) (hm : m = rest n 2) (ht : t = txt (pre n 2)) :
    ∃ (m' q : Nat) (u : ByteArray), m' = rest n 3 ∧ q ≤ 9999 ∧ ((m : Nat) : Int).tdiv 10 = q ∧ ((m : Nat) : Int).tmod 10 = m' ∧ t ++ txt (List.replicate q 88) = u ∧ ¬ (t.size + (txt (List.replicate q 88)).size > 9223372036854775807) ∧ u = txt (pre n 3) := by
  subst hm
  exact of_step 10 88 _ t ht (rest n 3) (n / 10 % 10) rfl ((tdiv_nat _ 10).trans (by simp only [rest]; congr 1 <;> omega)) ((tmod_nat _ 10).trans (by simp only [rest]; congr 1 <;> omega)) (by simp [pre]) (by omega) (by simp [pre] <;> omega)
theorem of_step3 (n m : Nat) (t : ByteArray) (hn : n ≤ 9999) (hm : m = rest n 3) (ht : t = txt (pre n 3)) :
    ∃ (m' q : Nat) (u : ByteArray), m' = rest n 4 ∧ q ≤ 9999 ∧ ((m : Nat) : Int).tdiv 1 = q ∧ ((m : Nat) : Int).tmod 1 = m' ∧ t ++ txt (List.replicate q 73) = u ∧ ¬ (t.size + (txt (List.replicate q 73)).size > 9223372036854775807) ∧ u = txt (pre n 4) := by
  subst hm
  exact of_step 1 73 _ t ht (rest n 4) (n % 10) rfl ((tdiv_nat _ 1).trans (by simp only [rest]; congr 1 <;> omega)) ((tmod_nat _ 1).trans (by simp only [rest]; congr 1 <;> omega)) (by simp [pre, Ta.ntext, Ta.notes]) (by omega) (by simp [pre] <;> omega)
theorem NotchesOf_no (v : Int) (h : v < 0 ∨ 9999 < v) (w : World) : Calls Tryz.prog 118 #[.int .i64 v] w fun e w' => e = .returned (.tuple #[.string ⟨#[]⟩, .bool false]) ∧ w = w' := by
  by_cases h0 : v < 0
  · go_enter Tryz.func118, Tryz.ntmps118
    go_wp2
    go_ret2
    exact ⟨rfl, rfl⟩
  · have h1 : v > 9999 := by omega
    go_enter Tryz.func118, Tryz.ntmps118
    go_wp2
    go_ret2
    exact ⟨rfl, rfl⟩
set_option maxRecDepth 100000 in
set_option maxHeartbeats 4000000 in
theorem NotchesOf_yes (n : Nat) (hn : n ≤ 9999) (w : World) : Calls Tryz.prog 118 #[.int .i64 (n : Int)] w fun e w' => e = .returned (.tuple #[.string (txt (Ta.ntext n)), .bool true]) ∧ Below w.heap.size w w' := by
  have h0 : ¬ (n : Int) < 0 := by omega
  have h1 : ¬ (n : Int) > 9999 := by omega
  go_enter Tryz.func118, Tryz.ntmps118
  go_wp2
  go_loopw [0, 4, 5] (fun vv tv iv wr => ∃ (k m : Nat) (t : ByteArray), k ≤ 4 ∧ vv = .int .i64 (m : Int) ∧ tv = .string t ∧ iv = .int .i64 (k : Int) ∧ m = rest n k ∧ t = txt (pre n k) ∧ Below w.heap.size w wr) (fun _ _ iv _ => 4 - (intOf iv).toNat)
  case atStart => exact ⟨0, n, _, by omega, rfl, rfl, rfl, rfl, rfl, Below.refl _ _⟩
  case round =>
    obtain ⟨k, m, t, hk, rfl, rfl, rfl, hm, ht, hbr⟩ := hrel
    have HBR := Lib.hid hbr
    clear hbr
    by_cases h4 : k < 4
    · have hkk : k = 0 ∨ k = 1 ∨ k = 2 ∨ k = 3 := by omega
      clear hk h4
      rcases hkk with rfl | rfl | rfl | rfl
      · obtain ⟨m', q, u, hm2, hq1, hq, hrm, hcat, hno, hu⟩ := of_step0 n m t hn hm ht
        have hwr : IntKind.i64.wrap 1 = 1 := by decide
        have hsl := slice_letter 0 0 1 77 (by omega) rfl rfl rfl
        have HM2 := Lib.hid hm2
        have HQ := Lib.hid hq1
        have HU := Lib.hid hu
        have hwq := wrap_nat (n := q) (by omega)
        have hwm := wrap_nat (n := m') (by rw [hm2]; exact rest_bd n 1 hn)
        clear hm2 hq1 hu hm ht
        go_wp2_with fail
        refine wp_region_held_drew (S := (fun _ => True)) (by kernel_rfl) ?_ (fun hHeld => ?_)
        · (try dsimp only)
          all_goals (trivial)
        refine wpAnyH_take (i := 0) (oi := { dst := some 16, op := _, type := _, pos := _, after := _, guard := _ }) (v := ?v1) rfl (by kernel_rfl) (by kernel_rfl) (by kernel_rfl) (fun _ _ _ h => h) (Or.inl ⟨by rfl, ?hy1⟩) (by first | assumption | exact hHeld) ?rest1
        case hy1 => ((intro w0 hSw; (try dsimp only at hSw); go_simp) <;> with_reducible rfl)
        (try simp only [Act.put, List.setIfInBounds_toArray, List.set_cons_zero, List.set_cons_succ])
        refine wpAnyH_take (i := 1) (oi := { dst := some 17, op := _, type := _, pos := _, after := _, guard := _ }) (v := ?v2) rfl (by kernel_rfl) (by kernel_rfl) (by kernel_rfl) (fun _ _ _ h => h) (Or.inl ⟨by rfl, ?hy2⟩) (by first | assumption | exact hHeld) ?rest2
        case hy2 => ((intro w0 hSw; (try dsimp only at hSw); go_simp) <;> with_reducible rfl)
        (try simp only [Act.put, List.setIfInBounds_toArray, List.set_cons_zero, List.set_cons_succ])
        refine wpAnyH_take (i := 2) (oi := { dst := some 18, op := _, type := _, pos := _, after := _, guard := _ }) (v := ?v3) rfl (by kernel_rfl) (by kernel_rfl) (by kernel_rfl) (fun _ _ _ h => h) (Or.inl ⟨by rfl, ?hy3⟩) (by first | assumption | exact hHeld) ?rest3
        case hy3 => ((intro w0 hSw; (try dsimp only at hSw); go_simp) <;> with_reducible rfl)
        (try simp only [Act.put, List.setIfInBounds_toArray, List.set_cons_zero, List.set_cons_succ])
        refine wpAnyH_take (i := 3) (oi := { dst := some 19, op := _, type := _, pos := _, after := _, guard := _ }) (v := ?v4) rfl (by kernel_rfl) (by kernel_rfl) (by kernel_rfl) (fun _ _ _ h => h) (Or.inl ⟨by rfl, ?hy4⟩) (by first | assumption | exact hHeld) ?rest4
        case hy4 => ((intro w0 hSw; (try dsimp only at hSw); go_simp) <;> with_reducible rfl)
        (try simp only [Act.put, List.setIfInBounds_toArray, List.set_cons_zero, List.set_cons_succ])
        refine wpAnyH_take (i := 4) (oi := { dst := some 20, op := _, type := _, pos := _, after := _, guard := _ }) (v := ?v5) rfl (by kernel_rfl) (by kernel_rfl) (by kernel_rfl) (fun _ _ _ h => h) (Or.inl ⟨by rfl, ?hy5⟩) (by first | assumption | exact hHeld) ?rest5
        case hy5 => ((intro w0 hSw; (try dsimp only at hSw); go_simp) <;> with_reducible rfl)
        (try simp only [Act.put, List.setIfInBounds_toArray, List.set_cons_zero, List.set_cons_succ])
        refine wpAnyH_take (i := 5) (oi := { dst := some 21, op := _, type := _, pos := _, after := _, guard := _ }) (v := ?v6) rfl (by kernel_rfl) (by kernel_rfl) (by kernel_rfl) (fun _ _ _ h => h) (Or.inl ⟨by rfl, ?hy6⟩) (by first | assumption | exact hHeld) ?rest6
        case hy6 => ((intro w0 hSw; (try dsimp only at hSw); go_simp) <;> with_reducible rfl)
        (try simp only [Act.put, List.setIfInBounds_toArray, List.set_cons_zero, List.set_cons_succ])
        refine wpAnyH_take (i := 6) (oi := { dst := some 22, op := _, type := _, pos := _, after := _, guard := _ }) (v := ?v7) rfl (by kernel_rfl) (by kernel_rfl) (by kernel_rfl) (fun _ _ _ h => h) (Or.inl ⟨by rfl, ?hy7⟩) (by first | assumption | exact hHeld) ?rest7
        case hy7 => ((intro w0 hSw; (try dsimp only at hSw); go_simp) <;> with_reducible rfl)
        (try simp only [Act.put, List.setIfInBounds_toArray, List.set_cons_zero, List.set_cons_succ])
        refine wpAnyH_ready (rs := [7]) (by kernel_rfl) (by simp) ?_
        refine AllReadyH.cons (o := { dst := some 23, op := _, type := _, pos := _, after := _, guard := _ }) rfl (fun K hK => ?_) ?_
        · go_simp
          refine (letterWorth_is 0 0 1000 rfl (by omega) rfl _).mono ?_
          rintro e wy ⟨rfl, rfl⟩
          (try go_wp2_with fail)
          refine hK.out _ _ ?_ (fun hHeld8 => ?_)
          · (try dsimp only)
            all_goals (trivial)
          clear hK K
          (try clear hHeld)
          (try simp only [Act.put, List.setIfInBounds_toArray, List.set_cons_zero, List.set_cons_succ])
          refine wpAnyH_take (i := 8) (oi := { dst := some 24, op := _, type := _, pos := _, after := _, guard := _ }) (v := ?v9) rfl (by kernel_rfl) (by kernel_rfl) (by kernel_rfl) (fun _ _ _ h => h) (Or.inl ⟨by rfl, ?hy9⟩) (by first | assumption | exact hHeld8) ?rest9
          case hy9 => ((intro w0 hSw; (try dsimp only at hSw); go_simp) <;> with_reducible rfl)
          (try simp only [Act.put, List.setIfInBounds_toArray, List.set_cons_zero, List.set_cons_succ])
          refine wpAnyH_ready (rs := [9]) (by kernel_rfl) (by simp) ?_
          refine AllReadyH.cons (o := { dst := some 25, op := _, type := _, pos := _, after := _, guard := _ }) rfl (fun K hK => ?_) ?_
          · go_simp
            refine (rep_any _ 77 q rfl HQ.out _).mono ?_
            rintro e wz ⟨rfl, hbz⟩
            have HBZ := Lib.hid hbz
            clear hbz
            (try go_wp2_with fail)
            refine hK.out _ _ ?_ (fun hHeld10 => ?_)
            · (try dsimp only)
              all_goals (trivial)
            clear hK K
            (try clear hHeld8)
            (try simp only [Act.put, List.setIfInBounds_toArray, List.set_cons_zero, List.set_cons_succ])
            refine wpAnyH_take (i := 10) (oi := { dst := some 26, op := _, type := _, pos := _, after := _, guard := _ }) (v := ?v11) rfl (by kernel_rfl) (by kernel_rfl) (by kernel_rfl) (fun _ _ _ h => h) (Or.inl ⟨by rfl, ?hy11⟩) (by first | assumption | exact hHeld10) ?rest11
            case hy11 => ((intro w0 hSw; (try dsimp only at hSw); go_simp) <;> with_reducible rfl)
            (try simp only [Act.put, List.setIfInBounds_toArray, List.set_cons_zero, List.set_cons_succ])
            refine wpAnyH_take (i := 11) (oi := { dst := some 4, op := _, type := _, pos := _, after := _, guard := _ }) (v := ?v12) rfl (by kernel_rfl) (by kernel_rfl) (by kernel_rfl) (fun _ _ _ h => h) (Or.inl ⟨by rfl, ?hy12⟩) (by first | assumption | exact hHeld10) ?rest12
            case hy12 => ((intro w0 hSw; (try dsimp only at hSw); go_simp) <;> with_reducible rfl)
            (try simp only [Act.put, List.setIfInBounds_toArray, List.set_cons_zero, List.set_cons_succ])
            refine wpAnyH_done (by kernel_rfl) ?_ _
            go_wp2_with fail
            refine (letterWorth_is 0 0 1000 rfl (by omega) rfl _).mono ?_
            rintro e wy ⟨rfl, rfl⟩
            go_wp2_with fail
            refine ⟨⟨1, m', u, by omega, rfl, rfl, rfl, HM2.out, HU.out, HBR.out.drew.trans (HBZ.out.mono HBR.out.size)⟩, ?_⟩
            simp [intOf]
          exact AllReadyH.nil
        exact AllReadyH.nil
      · obtain ⟨m', q, u, hm2, hq1, hq, hrm, hcat, hno, hu⟩ := of_step1 n m t hn hm ht
        have hwr : IntKind.i64.wrap 2 = 2 := by decide
        have hsl := slice_letter 1 1 2 67 (by omega) rfl rfl rfl
        have HM2 := Lib.hid hm2
        have HQ := Lib.hid hq1
        have HU := Lib.hid hu
        have hwq := wrap_nat (n := q) (by omega)
        have hwm := wrap_nat (n := m') (by rw [hm2]; exact rest_bd n 2 hn)
        clear hm2 hq1 hu hm ht
        go_wp2_with fail
        refine wp_region_held_drew (S := (fun _ => True)) (by kernel_rfl) ?_ (fun hHeld => ?_)
        · (try dsimp only)
          all_goals (trivial)
        refine wpAnyH_take (i := 0) (oi := { dst := some 16, op := _, type := _, pos := _, after := _, guard := _ }) (v := ?v101) rfl (by kernel_rfl) (by kernel_rfl) (by kernel_rfl) (fun _ _ _ h => h) (Or.inl ⟨by rfl, ?hy101⟩) (by first | assumption | exact hHeld) ?rest101
        case hy101 => ((intro w0 hSw; (try dsimp only at hSw); go_simp) <;> with_reducible rfl)
        (try simp only [Act.put, List.setIfInBounds_toArray, List.set_cons_zero, List.set_cons_succ])
        refine wpAnyH_take (i := 1) (oi := { dst := some 17, op := _, type := _, pos := _, after := _, guard := _ }) (v := ?v102) rfl (by kernel_rfl) (by kernel_rfl) (by kernel_rfl) (fun _ _ _ h => h) (Or.inl ⟨by rfl, ?hy102⟩) (by first | assumption | exact hHeld) ?rest102
        case hy102 => ((intro w0 hSw; (try dsimp only at hSw); go_simp) <;> with_reducible rfl)
        (try simp only [Act.put, List.setIfInBounds_toArray, List.set_cons_zero, List.set_cons_succ])
        refine wpAnyH_take (i := 2) (oi := { dst := some 18, op := _, type := _, pos := _, after := _, guard := _ }) (v := ?v103) rfl (by kernel_rfl) (by kernel_rfl) (by kernel_rfl) (fun _ _ _ h => h) (Or.inl ⟨by rfl, ?hy103⟩) (by first | assumption | exact hHeld) ?rest103
        case hy103 => ((intro w0 hSw; (try dsimp only at hSw); go_simp) <;> with_reducible rfl)
        (try simp only [Act.put, List.setIfInBounds_toArray, List.set_cons_zero, List.set_cons_succ])
        refine wpAnyH_take (i := 3) (oi := { dst := some 19, op := _, type := _, pos := _, after := _, guard := _ }) (v := ?v104) rfl (by kernel_rfl) (by kernel_rfl) (by kernel_rfl) (fun _ _ _ h => h) (Or.inl ⟨by rfl, ?hy104⟩) (by first | assumption | exact hHeld) ?rest104
        case hy104 => ((intro w0 hSw; (try dsimp only at hSw); go_simp) <;> with_reducible rfl)
        (try simp only [Act.put, List.setIfInBounds_toArray, List.set_cons_zero, List.set_cons_succ])
        refine wpAnyH_take (i := 4) (oi := { dst := some 20, op := _, type := _, pos := _, after := _, guard := _ }) (v := ?v105) rfl (by kernel_rfl) (by kernel_rfl) (by kernel_rfl) (fun _ _ _ h => h) (Or.inl ⟨by rfl, ?hy105⟩) (by first | assumption | exact hHeld) ?rest105
        case hy105 => ((intro w0 hSw; (try dsimp only at hSw); go_simp) <;> with_reducible rfl)
        (try simp only [Act.put, List.setIfInBounds_toArray, List.set_cons_zero, List.set_cons_succ])
        refine wpAnyH_take (i := 5) (oi := { dst := some 21, op := _, type := _, pos := _, after := _, guard := _ }) (v := ?v106) rfl (by kernel_rfl) (by kernel_rfl) (by kernel_rfl) (fun _ _ _ h => h) (Or.inl ⟨by rfl, ?hy106⟩) (by first | assumption | exact hHeld) ?rest106
        case hy106 => ((intro w0 hSw; (try dsimp only at hSw); go_simp) <;> with_reducible rfl)
        (try simp only [Act.put, List.setIfInBounds_toArray, List.set_cons_zero, List.set_cons_succ])
        refine wpAnyH_take (i := 6) (oi := { dst := some 22, op := _, type := _, pos := _, after := _, guard := _ }) (v := ?v107) rfl (by kernel_rfl) (by kernel_rfl) (by kernel_rfl) (fun _ _ _ h => h) (Or.inl ⟨by rfl, ?hy107⟩) (by first | assumption | exact hHeld) ?rest107
        case hy107 => ((intro w0 hSw; (try dsimp only at hSw); go_simp) <;> with_reducible rfl)
        (try simp only [Act.put, List.setIfInBounds_toArray, List.set_cons_zero, List.set_cons_succ])
        refine wpAnyH_ready (rs := [7]) (by kernel_rfl) (by simp) ?_
        refine AllReadyH.cons (o := { dst := some 23, op := _, type := _, pos := _, after := _, guard := _ }) rfl (fun K hK => ?_) ?_
        · go_simp
          refine (letterWorth_is 1 1 100 rfl (by omega) rfl _).mono ?_
          rintro e wy ⟨rfl, rfl⟩
          (try go_wp2_with fail)
          refine hK.out _ _ ?_ (fun hHeld108 => ?_)
          · (try dsimp only)
            all_goals (trivial)
          clear hK K
          (try clear hHeld)
          (try simp only [Act.put, List.setIfInBounds_toArray, List.set_cons_zero, List.set_cons_succ])
          refine wpAnyH_take (i := 8) (oi := { dst := some 24, op := _, type := _, pos := _, after := _, guard := _ }) (v := ?v109) rfl (by kernel_rfl) (by kernel_rfl) (by kernel_rfl) (fun _ _ _ h => h) (Or.inl ⟨by rfl, ?hy109⟩) (by first | assumption | exact hHeld108) ?rest109
          case hy109 => ((intro w0 hSw; (try dsimp only at hSw); go_simp) <;> with_reducible rfl)
          (try simp only [Act.put, List.setIfInBounds_toArray, List.set_cons_zero, List.set_cons_succ])
          refine wpAnyH_ready (rs := [9]) (by kernel_rfl) (by simp) ?_
          refine AllReadyH.cons (o := { dst := some 25, op := _, type := _, pos := _, after := _, guard := _ }) rfl (fun K hK => ?_) ?_
          · go_simp
            refine (rep_any _ 67 q rfl HQ.out _).mono ?_
            rintro e wz ⟨rfl, hbz⟩
            have HBZ := Lib.hid hbz
            clear hbz
            (try go_wp2_with fail)
            refine hK.out _ _ ?_ (fun hHeld110 => ?_)
            · (try dsimp only)
              all_goals (trivial)
            clear hK K
            (try clear hHeld108)
            (try simp only [Act.put, List.setIfInBounds_toArray, List.set_cons_zero, List.set_cons_succ])
            refine wpAnyH_take (i := 10) (oi := { dst := some 26, op := _, type := _, pos := _, after := _, guard := _ }) (v := ?v111) rfl (by kernel_rfl) (by kernel_rfl) (by kernel_rfl) (fun _ _ _ h => h) (Or.inl ⟨by rfl, ?hy111⟩) (by first | assumption | exact hHeld110) ?rest111
            case hy111 => ((intro w0 hSw; (try dsimp only at hSw); go_simp) <;> with_reducible rfl)
            (try simp only [Act.put, List.setIfInBounds_toArray, List.set_cons_zero, List.set_cons_succ])
            refine wpAnyH_take (i := 11) (oi := { dst := some 4, op := _, type := _, pos := _, after := _, guard := _ }) (v := ?v112) rfl (by kernel_rfl) (by kernel_rfl) (by kernel_rfl) (fun _ _ _ h => h) (Or.inl ⟨by rfl, ?hy112⟩) (by first | assumption | exact hHeld110) ?rest112
            case hy112 => ((intro w0 hSw; (try dsimp only at hSw); go_simp) <;> with_reducible rfl)
            (try simp only [Act.put, List.setIfInBounds_toArray, List.set_cons_zero, List.set_cons_succ])
            refine wpAnyH_done (by kernel_rfl) ?_ _
            go_wp2_with fail
            refine (letterWorth_is 1 1 100 rfl (by omega) rfl _).mono ?_
            rintro e wy ⟨rfl, rfl⟩
            go_wp2_with fail
            refine ⟨⟨2, m', u, by omega, rfl, rfl, rfl, HM2.out, HU.out, HBR.out.drew.trans (HBZ.out.mono HBR.out.size)⟩, ?_⟩
            simp [intOf]
          exact AllReadyH.nil
        exact AllReadyH.nil
      · obtain ⟨m', q, u, hm2, hq1, hq, hrm, hcat, hno, hu⟩ := of_step2 n m t hn hm ht
        have hwr : IntKind.i64.wrap 3 = 3 := by decide
        have hsl := slice_letter 2 2 3 88 (by omega) rfl rfl rfl
        have HM2 := Lib.hid hm2
        have HQ := Lib.hid hq1
        have HU := Lib.hid hu
        have hwq := wrap_nat (n := q) (by omega)
        have hwm := wrap_nat (n := m') (by rw [hm2]; exact rest_bd n 3 hn)
        clear hm2 hq1 hu hm ht
        go_wp2_with fail
        refine wp_region_held_drew (S := (fun _ => True)) (by kernel_rfl) ?_ (fun hHeld => ?_)
        · (try dsimp only)
          all_goals (trivial)
        refine wpAnyH_take (i := 0) (oi := { dst := some 16, op := _, type := _, pos := _, after := _, guard := _ }) (v := ?v201) rfl (by kernel_rfl) (by kernel_rfl) (by kernel_rfl) (fun _ _ _ h => h) (Or.inl ⟨by rfl, ?hy201⟩) (by first | assumption | exact hHeld) ?rest201
        case hy201 => ((intro w0 hSw; (try dsimp only at hSw); go_simp) <;> with_reducible rfl)
        (try simp only [Act.put, List.setIfInBounds_toArray, List.set_cons_zero, List.set_cons_succ])
        refine wpAnyH_take (i := 1) (oi := { dst := some 17, op := _, type := _, pos := _, after := _, guard := _ }) (v := ?v202) rfl (by kernel_rfl) (by kernel_rfl) (by kernel_rfl) (fun _ _ _ h => h) (Or.inl ⟨by rfl, ?hy202⟩) (by first | assumption | exact hHeld) ?rest202
        case hy202 => ((intro w0 hSw; (try dsimp only at hSw); go_simp) <;> with_reducible rfl)
        (try simp only [Act.put, List.setIfInBounds_toArray, List.set_cons_zero, List.set_cons_succ])
        refine wpAnyH_take (i := 2) (oi := { dst := some 18, op := _, type := _, pos := _, after := _, guard := _ }) (v := ?v203) rfl (by kernel_rfl) (by kernel_rfl) (by kernel_rfl) (fun _ _ _ h => h) (Or.inl ⟨by rfl, ?hy203⟩) (by first | assumption | exact hHeld) ?rest203
        case hy203 => ((intro w0 hSw; (try dsimp only at hSw); go_simp) <;> with_reducible rfl)
        (try simp only [Act.put, List.setIfInBounds_toArray, List.set_cons_zero, List.set_cons_succ])
        refine wpAnyH_take (i := 3) (oi := { dst := some 19, op := _, type := _, pos := _, after := _, guard := _ }) (v := ?v204) rfl (by kernel_rfl) (by kernel_rfl) (by kernel_rfl) (fun _ _ _ h => h) (Or.inl ⟨by rfl, ?hy204⟩) (by first | assumption | exact hHeld) ?rest204
        case hy204 => ((intro w0 hSw; (try dsimp only at hSw); go_simp) <;> with_reducible rfl)
        (try simp only [Act.put, List.setIfInBounds_toArray, List.set_cons_zero, List.set_cons_succ])
        refine wpAnyH_take (i := 4) (oi := { dst := some 20, op := _, type := _, pos := _, after := _, guard := _ }) (v := ?v205) rfl (by kernel_rfl) (by kernel_rfl) (by kernel_rfl) (fun _ _ _ h => h) (Or.inl ⟨by rfl, ?hy205⟩) (by first | assumption | exact hHeld) ?rest205
        case hy205 => ((intro w0 hSw; (try dsimp only at hSw); go_simp) <;> with_reducible rfl)
        (try simp only [Act.put, List.setIfInBounds_toArray, List.set_cons_zero, List.set_cons_succ])
        refine wpAnyH_take (i := 5) (oi := { dst := some 21, op := _, type := _, pos := _, after := _, guard := _ }) (v := ?v206) rfl (by kernel_rfl) (by kernel_rfl) (by kernel_rfl) (fun _ _ _ h => h) (Or.inl ⟨by rfl, ?hy206⟩) (by first | assumption | exact hHeld) ?rest206
        case hy206 => ((intro w0 hSw; (try dsimp only at hSw); go_simp) <;> with_reducible rfl)
        (try simp only [Act.put, List.setIfInBounds_toArray, List.set_cons_zero, List.set_cons_succ])
        refine wpAnyH_take (i := 6) (oi := { dst := some 22, op := _, type := _, pos := _, after := _, guard := _ }) (v := ?v207) rfl (by kernel_rfl) (by kernel_rfl) (by kernel_rfl) (fun _ _ _ h => h) (Or.inl ⟨by rfl, ?hy207⟩) (by first | assumption | exact hHeld) ?rest207
        case hy207 => ((intro w0 hSw; (try dsimp only at hSw); go_simp) <;> with_reducible rfl)
        (try simp only [Act.put, List.setIfInBounds_toArray, List.set_cons_zero, List.set_cons_succ])
        refine wpAnyH_ready (rs := [7]) (by kernel_rfl) (by simp) ?_
        refine AllReadyH.cons (o := { dst := some 23, op := _, type := _, pos := _, after := _, guard := _ }) rfl (fun K hK => ?_) ?_
        · go_simp
          refine (letterWorth_is 2 2 10 rfl (by omega) rfl _).mono ?_
          rintro e wy ⟨rfl, rfl⟩
          (try go_wp2_with fail)
          refine hK.out _ _ ?_ (fun hHeld208 => ?_)
          · (try dsimp only)
            all_goals (trivial)
          clear hK K
          (try clear hHeld)
          (try simp only [Act.put, List.setIfInBounds_toArray, List.set_cons_zero, List.set_cons_succ])
          refine wpAnyH_take (i := 8) (oi := { dst := some 24, op := _, type := _, pos := _, after := _, guard := _ }) (v := ?v209) rfl (by kernel_rfl) (by kernel_rfl) (by kernel_rfl) (fun _ _ _ h => h) (Or.inl ⟨by rfl, ?hy209⟩) (by first | assumption | exact hHeld208) ?rest209
          case hy209 => ((intro w0 hSw; (try dsimp only at hSw); go_simp) <;> with_reducible rfl)
          (try simp only [Act.put, List.setIfInBounds_toArray, List.set_cons_zero, List.set_cons_succ])
          refine wpAnyH_ready (rs := [9]) (by kernel_rfl) (by simp) ?_
          refine AllReadyH.cons (o := { dst := some 25, op := _, type := _, pos := _, after := _, guard := _ }) rfl (fun K hK => ?_) ?_
          · go_simp
            refine (rep_any _ 88 q rfl HQ.out _).mono ?_
            rintro e wz ⟨rfl, hbz⟩
            have HBZ := Lib.hid hbz
            clear hbz
            (try go_wp2_with fail)
            refine hK.out _ _ ?_ (fun hHeld210 => ?_)
            · (try dsimp only)
              all_goals (trivial)
            clear hK K
            (try clear hHeld208)
            (try simp only [Act.put, List.setIfInBounds_toArray, List.set_cons_zero, List.set_cons_succ])
            refine wpAnyH_take (i := 10) (oi := { dst := some 26, op := _, type := _, pos := _, after := _, guard := _ }) (v := ?v211) rfl (by kernel_rfl) (by kernel_rfl) (by kernel_rfl) (fun _ _ _ h => h) (Or.inl ⟨by rfl, ?hy211⟩) (by first | assumption | exact hHeld210) ?rest211
            case hy211 => ((intro w0 hSw; (try dsimp only at hSw); go_simp) <;> with_reducible rfl)
            (try simp only [Act.put, List.setIfInBounds_toArray, List.set_cons_zero, List.set_cons_succ])
            refine wpAnyH_take (i := 11) (oi := { dst := some 4, op := _, type := _, pos := _, after := _, guard := _ }) (v := ?v212) rfl (by kernel_rfl) (by kernel_rfl) (by kernel_rfl) (fun _ _ _ h => h) (Or.inl ⟨by rfl, ?hy212⟩) (by first | assumption | exact hHeld210) ?rest212
            case hy212 => ((intro w0 hSw; (try dsimp only at hSw); go_simp) <;> with_reducible rfl)
            (try simp only [Act.put, List.setIfInBounds_toArray, List.set_cons_zero, List.set_cons_succ])
            refine wpAnyH_done (by kernel_rfl) ?_ _
            go_wp2_with fail
            refine (letterWorth_is 2 2 10 rfl (by omega) rfl _).mono ?_
            rintro e wy ⟨rfl, rfl⟩
            go_wp2_with fail
            refine ⟨⟨3, m', u, by omega, rfl, rfl, rfl, HM2.out, HU.out, HBR.out.drew.trans (HBZ.out.mono HBR.out.size)⟩, ?_⟩
            simp [intOf]
          exact AllReadyH.nil
        exact AllReadyH.nil
      · obtain ⟨m', q, u, hm2, hq1, hq, hrm, hcat, hno, hu⟩ := of_step3 n m t hn hm ht
        have hwr : IntKind.i64.wrap 4 = 4 := by decide
        have hsl := slice_letter 3 3 4 73 (by omega) rfl rfl rfl
        have HM2 := Lib.hid hm2
        have HQ := Lib.hid hq1
        have HU := Lib.hid hu
        have hwq := wrap_nat (n := q) (by omega)
        have hwm := wrap_nat (n := m') (by rw [hm2]; exact rest_bd n 4 hn)
        clear hm2 hq1 hu hm ht
        go_wp2_with fail
        refine wp_region_held_drew (S := (fun _ => True)) (by kernel_rfl) ?_ (fun hHeld => ?_)
        · (try dsimp only)
          all_goals (trivial)
        refine wpAnyH_take (i := 0) (oi := { dst := some 16, op := _, type := _, pos := _, after := _, guard := _ }) (v := ?v301) rfl (by kernel_rfl) (by kernel_rfl) (by kernel_rfl) (fun _ _ _ h => h) (Or.inl ⟨by rfl, ?hy301⟩) (by first | assumption | exact hHeld) ?rest301
        case hy301 => ((intro w0 hSw; (try dsimp only at hSw); go_simp) <;> with_reducible rfl)
        (try simp only [Act.put, List.setIfInBounds_toArray, List.set_cons_zero, List.set_cons_succ])
        refine wpAnyH_take (i := 1) (oi := { dst := some 17, op := _, type := _, pos := _, after := _, guard := _ }) (v := ?v302) rfl (by kernel_rfl) (by kernel_rfl) (by kernel_rfl) (fun _ _ _ h => h) (Or.inl ⟨by rfl, ?hy302⟩) (by first | assumption | exact hHeld) ?rest302
        case hy302 => ((intro w0 hSw; (try dsimp only at hSw); go_simp) <;> with_reducible rfl)
        (try simp only [Act.put, List.setIfInBounds_toArray, List.set_cons_zero, List.set_cons_succ])
        refine wpAnyH_take (i := 2) (oi := { dst := some 18, op := _, type := _, pos := _, after := _, guard := _ }) (v := ?v303) rfl (by kernel_rfl) (by kernel_rfl) (by kernel_rfl) (fun _ _ _ h => h) (Or.inl ⟨by rfl, ?hy303⟩) (by first | assumption | exact hHeld) ?rest303
        case hy303 => ((intro w0 hSw; (try dsimp only at hSw); go_simp) <;> with_reducible rfl)
        (try simp only [Act.put, List.setIfInBounds_toArray, List.set_cons_zero, List.set_cons_succ])
        refine wpAnyH_take (i := 3) (oi := { dst := some 19, op := _, type := _, pos := _, after := _, guard := _ }) (v := ?v304) rfl (by kernel_rfl) (by kernel_rfl) (by kernel_rfl) (fun _ _ _ h => h) (Or.inl ⟨by rfl, ?hy304⟩) (by first | assumption | exact hHeld) ?rest304
        case hy304 => ((intro w0 hSw; (try dsimp only at hSw); go_simp) <;> with_reducible rfl)
        (try simp only [Act.put, List.setIfInBounds_toArray, List.set_cons_zero, List.set_cons_succ])
        refine wpAnyH_take (i := 4) (oi := { dst := some 20, op := _, type := _, pos := _, after := _, guard := _ }) (v := ?v305) rfl (by kernel_rfl) (by kernel_rfl) (by kernel_rfl) (fun _ _ _ h => h) (Or.inl ⟨by rfl, ?hy305⟩) (by first | assumption | exact hHeld) ?rest305
        case hy305 => ((intro w0 hSw; (try dsimp only at hSw); go_simp) <;> with_reducible rfl)
        (try simp only [Act.put, List.setIfInBounds_toArray, List.set_cons_zero, List.set_cons_succ])
        refine wpAnyH_take (i := 5) (oi := { dst := some 21, op := _, type := _, pos := _, after := _, guard := _ }) (v := ?v306) rfl (by kernel_rfl) (by kernel_rfl) (by kernel_rfl) (fun _ _ _ h => h) (Or.inl ⟨by rfl, ?hy306⟩) (by first | assumption | exact hHeld) ?rest306
        case hy306 => ((intro w0 hSw; (try dsimp only at hSw); go_simp) <;> with_reducible rfl)
        (try simp only [Act.put, List.setIfInBounds_toArray, List.set_cons_zero, List.set_cons_succ])
        refine wpAnyH_take (i := 6) (oi := { dst := some 22, op := _, type := _, pos := _, after := _, guard := _ }) (v := ?v307) rfl (by kernel_rfl) (by kernel_rfl) (by kernel_rfl) (fun _ _ _ h => h) (Or.inl ⟨by rfl, ?hy307⟩) (by first | assumption | exact hHeld) ?rest307
        case hy307 => ((intro w0 hSw; (try dsimp only at hSw); go_simp) <;> with_reducible rfl)
        (try simp only [Act.put, List.setIfInBounds_toArray, List.set_cons_zero, List.set_cons_succ])
        refine wpAnyH_ready (rs := [7]) (by kernel_rfl) (by simp) ?_
        refine AllReadyH.cons (o := { dst := some 23, op := _, type := _, pos := _, after := _, guard := _ }) rfl (fun K hK => ?_) ?_
        · go_simp
          refine (letterWorth_is 3 3 1 rfl (by omega) rfl _).mono ?_
          rintro e wy ⟨rfl, rfl⟩
          (try go_wp2_with fail)
          refine hK.out _ _ ?_ (fun hHeld308 => ?_)
          · (try dsimp only)
            all_goals (trivial)
          clear hK K
          (try clear hHeld)
          (try simp only [Act.put, List.setIfInBounds_toArray, List.set_cons_zero, List.set_cons_succ])
          refine wpAnyH_take (i := 8) (oi := { dst := some 24, op := _, type := _, pos := _, after := _, guard := _ }) (v := ?v309) rfl (by kernel_rfl) (by kernel_rfl) (by kernel_rfl) (fun _ _ _ h => h) (Or.inl ⟨by rfl, ?hy309⟩) (by first | assumption | exact hHeld308) ?rest309
          case hy309 => ((intro w0 hSw; (try dsimp only at hSw); go_simp) <;> with_reducible rfl)
          (try simp only [Act.put, List.setIfInBounds_toArray, List.set_cons_zero, List.set_cons_succ])
          refine wpAnyH_ready (rs := [9]) (by kernel_rfl) (by simp) ?_
          refine AllReadyH.cons (o := { dst := some 25, op := _, type := _, pos := _, after := _, guard := _ }) rfl (fun K hK => ?_) ?_
          · go_simp
            refine (rep_any _ 73 q rfl HQ.out _).mono ?_
            rintro e wz ⟨rfl, hbz⟩
            have HBZ := Lib.hid hbz
            clear hbz
            (try go_wp2_with fail)
            refine hK.out _ _ ?_ (fun hHeld310 => ?_)
            · (try dsimp only)
              all_goals (trivial)
            clear hK K
            (try clear hHeld308)
            (try simp only [Act.put, List.setIfInBounds_toArray, List.set_cons_zero, List.set_cons_succ])
            refine wpAnyH_take (i := 10) (oi := { dst := some 26, op := _, type := _, pos := _, after := _, guard := _ }) (v := ?v311) rfl (by kernel_rfl) (by kernel_rfl) (by kernel_rfl) (fun _ _ _ h => h) (Or.inl ⟨by rfl, ?hy311⟩) (by first | assumption | exact hHeld310) ?rest311
            case hy311 => ((intro w0 hSw; (try dsimp only at hSw); go_simp) <;> with_reducible rfl)
            (try simp only [Act.put, List.setIfInBounds_toArray, List.set_cons_zero, List.set_cons_succ])
            refine wpAnyH_take (i := 11) (oi := { dst := some 4, op := _, type := _, pos := _, after := _, guard := _ }) (v := ?v312) rfl (by kernel_rfl) (by kernel_rfl) (by kernel_rfl) (fun _ _ _ h => h) (Or.inl ⟨by rfl, ?hy312⟩) (by first | assumption | exact hHeld310) ?rest312
            case hy312 => ((intro w0 hSw; (try dsimp only at hSw); go_simp) <;> with_reducible rfl)
            (try simp only [Act.put, List.setIfInBounds_toArray, List.set_cons_zero, List.set_cons_succ])
            refine wpAnyH_done (by kernel_rfl) ?_ _
            go_wp2_with fail
            refine (letterWorth_is 3 3 1 rfl (by omega) rfl _).mono ?_
            rintro e wy ⟨rfl, rfl⟩
            go_wp2_with fail
            refine ⟨⟨4, m', u, by omega, rfl, rfl, rfl, HM2.out, HU.out, HBR.out.drew.trans (HBZ.out.mono HBR.out.size)⟩, ?_⟩
            simp [intOf]
          exact AllReadyH.nil
        exact AllReadyH.nil
    · obtain rfl : k = 4 := by omega
      have HT := Lib.hid ht
      clear ht hm
      go_wp2
      go_ret2
      exact ⟨by rw [HT.out]; rfl, HBR.out⟩
end Go.Proofs.YthdoofmfigemoaaGreatDoor
end

section
/-
  The program's different, TallyMatches, tally.
-/
namespace Go.Proofs.YthdoofmfigemoaaGreatDoor
open Go.RowKit
set_option linter.unusedSimpArgs false

/-- two different people -/
def Two (a c : Int) : Prop := 0 ≤ a ∧ a < 5 ∧ 0 ≤ c ∧ c < 5 ∧ ¬ a = c
instance (a c : Int) : Decidable (Two a c) := by unfold Two; exact inferInstance
def twoB (a c : Int) : Bool := decide (Two a c)
theorem twoB_yes {a c : Int} (h : Two a c) : twoB a c = true := decide_eq_true h
theorem twoB_no {a c : Int} (h : ¬ Two a c) : twoB a c = false := decide_eq_false h
set_option maxHeartbeats 1000000 in
theorem different_any (a c : Int) (w : World) : Calls Tryz.prog 117 #[.agg #[.int .i64 a, .int .i64 c]] w fun e w' => e = .returned (.bool (twoB a c)) ∧ Below w.heap.size w w' := by
  by_cases h0 : 0 ≤ a
  rotate_left
  · have h0' : ¬ (0 ≤ a) := h0
    have HT := Lib.hid (twoB_no (a := a) (c := c) (by unfold Two; omega))
    go_enter Tryz.func117, Tryz.ntmps117
    go_wp2
    go_ret
    exact ⟨ret_bool (by rw [HT.out]), (Below.refl _ _).alloc (Nat.le_refl _) _⟩
  by_cases h1 : a < 5
  rotate_left
  · have h1' : ¬ (a < 5) := h1
    have HT := Lib.hid (twoB_no (a := a) (c := c) (by unfold Two; omega))
    go_enter Tryz.func117, Tryz.ntmps117
    go_wp2
    go_ret
    exact ⟨ret_bool (by rw [HT.out]), (Below.refl _ _).alloc (Nat.le_refl _) _⟩
  by_cases h2 : 0 ≤ c
  rotate_left
  · have h2' : ¬ (0 ≤ c) := h2
    have HT := Lib.hid (twoB_no (a := a) (c := c) (by unfold Two; omega))
    go_enter Tryz.func117, Tryz.ntmps117
    go_wp2
    go_ret
    exact ⟨ret_bool (by rw [HT.out]), (Below.refl _ _).alloc (Nat.le_refl _) _⟩
  by_cases h3 : c < 5
  rotate_left
  · have h3' : ¬ (c < 5) := h3
    have HT := Lib.hid (twoB_no (a := a) (c := c) (by unfold Two; omega))
    go_enter Tryz.func117, Tryz.ntmps117
    go_wp2
    go_ret
    exact ⟨ret_bool (by rw [HT.out]), (Below.refl _ _).alloc (Nat.le_refl _) _⟩
  by_cases h4 : a = c
  · have h5 : (a == c) = true := by simpa using h4
    have h6 : (a != c) = false := by simpa using h4
    have HT := Lib.hid (twoB_no (a := a) (c := c) (by unfold Two; omega))
    go_enter Tryz.func117, Tryz.ntmps117
    go_wp2
    go_ret
    exact ⟨ret_bool (by rw [HT.out]), (Below.refl _ _).alloc (Nat.le_refl _) _⟩
  · have h5 : (a == c) = false := by simpa using h4
    have h6 : (a != c) = true := by simpa using h4
    have HT := Lib.hid (twoB_yes ⟨h0, h1, h2, h3, h4⟩)
    go_enter Tryz.func117, Tryz.ntmps117
    go_wp2
    go_ret
    exact ⟨ret_bool (by rw [HT.out]), (Below.refl _ _).alloc (Nat.le_refl _) _⟩

theorem str_eq (a b : ByteArray) : (a.toList == b.toList) = decide (a = b) := by
  rw [ByteArray.toList_eq, ByteArray.toList_eq]
  by_cases h : a = b
  · subst h; simp
  · have h2 : ¬ a.data.toList = b.data.toList := fun e => h (by cases a; cases b; simp_all)
    rw [decide_eq_false h]
    simpa using h2
/-- whether a tally matches -/
def matchB (t : Tl) : Bool := twoB t.a t.c && (validB t.s && decide (t.s = t.f))
set_option maxHeartbeats 2000000 in
theorem TallyMatches_any (t : Tl) (w : World) (hs : t.s.size ≤ 1099511627776) : Calls Tryz.prog 114 #[t.val] w fun e w' => e = .returned (.bool (matchB t)) ∧ Below w.heap.size w w' := by
  obtain ⟨a, c, s, f⟩ := t
  show Calls Tryz.prog 114 #[.agg #[.int .i64 a, .int .i64 c, .string s, .string f]] w _
  have hs' : s.size ≤ 1099511627776 := hs
  obtain ⟨W, hW⟩ : ∃ W, w.alloc (.cells #[.int .i64 a, .int .i64 c, .string s, .string f] 52) = W := ⟨_, rfl⟩
  have k0 : W.cell? ⟨w.heap.size, 0, none⟩ = some (.int .i64 a) := by rw [← hW, cell_of_row _ w.heap.size 0 _ _ _ (heap_alloc_new w _)]; rfl
  have k1 : W.cell? ⟨w.heap.size, 1, none⟩ = some (.int .i64 c) := by rw [← hW, cell_of_row _ w.heap.size 1 _ _ _ (heap_alloc_new w _)]; rfl
  have k2 : W.cell? ⟨w.heap.size, 2, none⟩ = some (.string s) := by rw [← hW, cell_of_row _ w.heap.size 2 _ _ _ (heap_alloc_new w _)]; rfl
  have k3 : W.cell? ⟨w.heap.size, 3, none⟩ = some (.string f) := by rw [← hW, cell_of_row _ w.heap.size 3 _ _ _ (heap_alloc_new w _)]; rfl
  have hlt : w.heap.size < W.heap.size := by rw [← hW]; simp
  have HB := Lib.hid (show Below w.heap.size w W by rw [← hW]; exact (Below.refl _ _).alloc (Nat.le_refl _) _)
  have HW := Lib.hid hW
  clear hW
  go_enter Tryz.func114, Tryz.ntmps114
  go_wp2_with fail
  rw [HW.out]
  go_wp2_with fail
  refine (different_any a c W).mono ?_
  rintro e w1 ⟨rfl, hb1⟩
  have k20 := (hb1.cell (p := ⟨w.heap.size, 2, none⟩) hlt).trans k2
  have k30 := (hb1.cell (p := ⟨w.heap.size, 3, none⟩) hlt).trans k3
  have hlt1 : w.heap.size < w1.heap.size := Nat.lt_of_lt_of_le hlt hb1.size
  have HB1 := Lib.hid (HB.out.trans (hb1.mono HB.out.size))
  clear hb1 k0 k1 k2 k3
  rcases h2 : twoB a c with _ | _
  · have HM := Lib.hid (show matchB ⟨a, c, s, f⟩ = false by simp [matchB, h2])
    clear h2
    go_wp2
    go_ret
    exact ⟨ret_bool HM.out.symm, HB1.out⟩
  · have H2 := Lib.hid h2
    clear h2
    go_wp2_with fail
    refine (NotchesValid_any s w1 hs').mono ?_
    rintro e w2 ⟨rfl, hb2⟩
    have k21 := (hb2.cell (p := ⟨w.heap.size, 2, none⟩) hlt1).trans k20
    have k31 := (hb2.cell (p := ⟨w.heap.size, 3, none⟩) hlt1).trans k30
    have hlt2 : w.heap.size < w2.heap.size := Nat.lt_of_lt_of_le hlt1 hb2.size
    have HB2 := Lib.hid (HB1.out.trans (hb2.mono HB1.out.size))
    clear hb2 k20 k30
    rcases hv : validB s with _ | _
    · have HM := Lib.hid (show matchB ⟨a, c, s, f⟩ = false by simp [matchB, hv])
      clear hv
      go_wp2
      go_ret
      exact ⟨ret_bool HM.out.symm, HB2.out⟩
    · have HM := Lib.hid (show matchB ⟨a, c, s, f⟩ = decide (s = f) by simp [matchB, H2.out, hv])
      clear hv
      go_wp2
      go_ret
      exact ⟨ret_bool ((str_eq s f).trans HM.out.symm), HB2.out⟩

/-- the tally of a debt, and whether there is one -/
def DebtOk (a c v : Int) : Prop := Two a c ∧ 1 ≤ v ∧ v ≤ 9999
def tallyOf (a c v : Int) : Tl := ⟨a, c, txt (Ta.ntext v.toNat), txt (Ta.ntext v.toNat)⟩
def noTl : Value := .agg #[.int .i64 0, .int .i64 0, .string ⟨#[]⟩, .string ⟨#[]⟩]
/-- four stores into a block of four cells -/
theorem Blk.set4 {w : World} {b : Nat} {ty : TypeId} {a0 a1 a2 a3 : Value} (h : Blk w b #[a0, a1, a2, a3] ty) (x0 x1 x2 x3 : Value) :
    Blk ((((w.setCell ⟨b, 0, none⟩ x0).setCell ⟨b, 1, none⟩ x1).setCell ⟨b, 2, none⟩ x2).setCell ⟨b, 3, none⟩ x3) b #[x0, x1, x2, x3] ty := by
  have := (((h.set 0 x0).set 1 x1).set 2 x2).set 3 x3
  simpa using this
theorem below_set4 {w0 w : World} {b B : Nat} (h : Below B w0 w) (hb : B ≤ b) (x0 x1 x2 x3 : Value) : Below B w0 ((((w.setCell ⟨b, 0, none⟩ x0).setCell ⟨b, 1, none⟩ x1).setCell ⟨b, 2, none⟩ x2).setCell ⟨b, 3, none⟩ x3) :=
  (((h.setCell (p := ⟨b, 0, none⟩) hb x0).setCell (p := ⟨b, 1, none⟩) hb x1).setCell (p := ⟨b, 2, none⟩) hb x2).setCell (p := ⟨b, 3, none⟩) hb x3
set_option maxRecDepth 100000 in
set_option maxHeartbeats 4000000 in
theorem tally_walk (a c v : Int) (w : World) : Calls Tryz.prog 84 #[.agg #[.int .i64 a, .int .i64 c, .int .i64 v]] w fun e w' =>
    ((DebtOk a c v ∧ e = .returned (.tuple #[(tallyOf a c v).val, .bool true])) ∨ (¬ DebtOk a c v ∧ e = .returned (.tuple #[noTl, .bool false]))) ∧ Below w.heap.size w w' := by
  obtain ⟨W, hW⟩ : ∃ W, (w.alloc (.cells #[.int .i64 a, .int .i64 c, .int .i64 v] 123)).alloc (.cells #[.int .i64 0, .int .i64 0, .string ⟨#[]⟩, .string ⟨#[]⟩] 52) = W := ⟨_, rfl⟩
  have hbd : Blk W w.heap.size #[.int .i64 a, .int .i64 c, .int .i64 v] 123 := by rw [← hW]; exact (Blk.new _ _ _).alloc _
  have hbt : Blk W (w.heap.size + 1) #[.int .i64 0, .int .i64 0, .string ⟨#[]⟩, .string ⟨#[]⟩] 52 := by
    rw [← hW]
    have := Blk.new (w.alloc (.cells #[.int .i64 a, .int .i64 c, .int .i64 v] 123)) #[.int .i64 0, .int .i64 0, .string ⟨#[]⟩, .string ⟨#[]⟩] 52
    simpa using this
  have HB := Lib.hid (show Below w.heap.size w W by rw [← hW]; exact ((Below.refl _ _).alloc (Nat.le_refl _) _).alloc (by simp) _)
  have k0 : W.cell? ⟨w.heap.size, 0, none⟩ = some (.int .i64 a) := hbd.cell rfl
  have k1 : W.cell? ⟨w.heap.size, 1, none⟩ = some (.int .i64 c) := hbd.cell rfl
  have hlt := hbd.lt
  have HD := Lib.hid hbd
  have HT := Lib.hid hbt
  have HW := Lib.hid hW
  clear hW hbd hbt
  go_enter Tryz.func84, Tryz.ntmps84
  go_wp2_with fail
  rw [HW.out]
  go_wp2_with fail
  refine (different_any a c W).mono ?_
  rintro e w1 ⟨rfl, hb1⟩
  have HB1 := Lib.hid (HB.out.trans (hb1.mono HB.out.size))
  have hD1 := HD.out.next hb1
  have hT1 := HT.out.next hb1
  have k20 : w1.cell? ⟨w.heap.size, 0, none⟩ = some (.int .i64 a) := hD1.cell rfl
  have k21 : w1.cell? ⟨w.heap.size, 1, none⟩ = some (.int .i64 c) := hD1.cell rfl
  have k22 : w1.cell? ⟨w.heap.size, 2, none⟩ = some (.int .i64 v) := hD1.cell rfl
  have t0 : w1.cell? ⟨w.heap.size + 1, 0, none⟩ = some (.int .i64 0) := hT1.cell rfl
  have t1 : w1.cell? ⟨w.heap.size + 1, 1, none⟩ = some (.int .i64 0) := hT1.cell rfl
  have t2 : w1.cell? ⟨w.heap.size + 1, 2, none⟩ = some (.string ⟨#[]⟩) := hT1.cell rfl
  have t3 : w1.cell? ⟨w.heap.size + 1, 3, none⟩ = some (.string ⟨#[]⟩) := hT1.cell rfl
  have f0 := hT1.free 0
  have f1 := hT1.free 1
  have f2 := hT1.free 2
  have f3 := hT1.free 3
  have HD1 := Lib.hid hD1
  have HT1 := Lib.hid hT1
  clear hb1 hD1 hT1 k0 k1
  by_cases h2 : Two a c
  · rw [twoB_yes h2]
    by_cases h1 : v < 1
    · have HN := Lib.hid (show ¬ DebtOk a c v by unfold DebtOk; omega)
      clear h2
      go_wp2_with fail
      have hf := HT1.out.set4 (.int .i64 0) (.int .i64 0) (.string ⟨#[]⟩) (.string ⟨#[]⟩)
      have g0 := hf.cell (j := 0) rfl
      have g1 := hf.cell (j := 1) rfl
      have g2 := hf.cell (j := 2) rfl
      have g3 := hf.cell (j := 3) rfl
      exact bodyPost_ret (v := .tuple #[noTl, .bool false]) (by simp [results, Tryz.results84, go_sem, noTl, tallyOf, Tl.val, g0, g1, g2, g3]) rfl ⟨.inr ⟨HN.out, rfl⟩, below_set4 HB1.out (by omega) _ _ _ _⟩
    · by_cases h9 : v ≤ 9999
      · have HN := Lib.hid (show DebtOk a c v from ⟨h2, by omega, h9⟩)
        obtain ⟨n, rfl⟩ := Int.eq_ofNat_of_zero_le (show 0 ≤ v by omega)
        clear h2
        go_wp2_with fail
        refine (NotchesOf_yes n (by omega) w1).mono ?_
        rintro e w2 ⟨rfl, hb2⟩
        have HB2 := Lib.hid (HB1.out.trans (hb2.mono HB1.out.size))
        have hD2 := HD1.out.next hb2
        have hT2 := HT1.out.next hb2
        clear k20 k21 k22 t0 t1 t2 t3 f0 f1 f2 f3
        have k20 : w2.cell? ⟨w.heap.size, 0, none⟩ = some (.int .i64 a) := hD2.cell rfl
        have k21 : w2.cell? ⟨w.heap.size, 1, none⟩ = some (.int .i64 c) := hD2.cell rfl
        have t0 : w2.cell? ⟨w.heap.size + 1, 0, none⟩ = some (.int .i64 0) := hT2.cell rfl
        have t1 : w2.cell? ⟨w.heap.size + 1, 1, none⟩ = some (.int .i64 0) := hT2.cell rfl
        have t2 : w2.cell? ⟨w.heap.size + 1, 2, none⟩ = some (.string ⟨#[]⟩) := hT2.cell rfl
        have t3 : w2.cell? ⟨w.heap.size + 1, 3, none⟩ = some (.string ⟨#[]⟩) := hT2.cell rfl
        have f0 := hT2.free 0
        have f1 := hT2.free 1
        have f2 := hT2.free 2
        have f3 := hT2.free 3
        have HT2 := Lib.hid hT2
        clear hb2 hD2 hT2
        obtain ⟨u, hu⟩ : ∃ u, txt (Ta.ntext n) = u := ⟨_, rfl⟩
        have HU := Lib.hid hu
        rw [hu]
        clear hu
        go_wp2_with fail
        have hf := HT2.out.set4 (.int .i64 a) (.int .i64 c) (.string u) (.string u)
        have g0 := hf.cell (j := 0) rfl
        have g1 := hf.cell (j := 1) rfl
        have g2 := hf.cell (j := 2) rfl
        have g3 := hf.cell (j := 3) rfl
        exact bodyPost_ret (v := .tuple #[(tallyOf a c n).val, .bool true]) (by simp [results, Tryz.results84, go_sem, tallyOf, Tl.val, HU.out, g0, g1, g2, g3]) rfl ⟨.inl ⟨HN.out, rfl⟩, below_set4 HB2.out (by omega) _ _ _ _⟩
      · have HN := Lib.hid (show ¬ DebtOk a c v by unfold DebtOk; omega)
        clear h2
        go_wp2_with fail
        refine (NotchesOf_no v (by omega) w1).mono ?_
        rintro e w2 ⟨rfl, rfl⟩
        go_wp2_with fail
        have hf := HT1.out.set4 (.int .i64 0) (.int .i64 0) (.string ⟨#[]⟩) (.string ⟨#[]⟩)
        have g0 := hf.cell (j := 0) rfl
        have g1 := hf.cell (j := 1) rfl
        have g2 := hf.cell (j := 2) rfl
        have g3 := hf.cell (j := 3) rfl
        exact bodyPost_ret (v := .tuple #[noTl, .bool false]) (by simp [results, Tryz.results84, go_sem, noTl, tallyOf, Tl.val, g0, g1, g2, g3]) rfl ⟨.inr ⟨HN.out, rfl⟩, below_set4 HB1.out (by omega) _ _ _ _⟩
  · rw [twoB_no h2]
    have HN := Lib.hid (show ¬ DebtOk a c v by unfold DebtOk; exact fun h => h2 h.1)
    clear h2
    go_wp2_with fail
    have hf := HT1.out.set4 (.int .i64 0) (.int .i64 0) (.string ⟨#[]⟩) (.string ⟨#[]⟩)
    have g0 := hf.cell (j := 0) rfl
    have g1 := hf.cell (j := 1) rfl
    have g2 := hf.cell (j := 2) rfl
    have g3 := hf.cell (j := 3) rfl
    exact bodyPost_ret (v := .tuple #[noTl, .bool false]) (by simp [results, Tryz.results84, go_sem, noTl, tallyOf, Tl.val, g0, g1, g2, g3]) rfl ⟨.inr ⟨HN.out, rfl⟩, below_set4 HB1.out (by omega) _ _ _ _⟩
end Go.Proofs.YthdoofmfigemoaaGreatDoor
end

section
/-
  A heap of at most five debts as a list, and who pays whom; no program in sight.
-/
namespace Go.Proofs.YthdoofmfigemoaaGreatDoor.Ta

/-- whether one debt is taken ahead of another one: (person, worth) -/
def less (a b : Nat × Int) : Bool := if a.2 = b.2 then decide (a.1 < b.1) else decide (b.2 < a.2)
def le (a b : Nat × Int) : Prop := less b a = false
theorem le_iff (a b : Nat × Int) : le a b ↔ b.2 < a.2 ∨ (a.2 = b.2 ∧ a.1 ≤ b.1) := by
  unfold le less
  by_cases h : b.2 = a.2
  · rw [if_pos h, decide_eq_false_iff_not]; omega
  · rw [if_neg h, decide_eq_false_iff_not]; omega
theorem less_iff (a b : Nat × Int) : less a b = true ↔ b.2 < a.2 ∨ (a.2 = b.2 ∧ a.1 < b.1) := by
  unfold less
  by_cases h : a.2 = b.2
  · rw [if_pos h, decide_eq_true_iff]; omega
  · rw [if_neg h, decide_eq_true_iff]; omega
theorem le_of_less {a b : Nat × Int} (h : less a b = true) : le a b := by rw [less_iff] at h; rw [le_iff]; omega
theorem le_trans {a b c : Nat × Int} (h : le a b) (k : le b c) : le a c := by rw [le_iff] at *; omega
theorem le_refl (a : Nat × Int) : le a a := by rw [le_iff]; omega
theorem le_antisymm {a b : Nat × Int} (h : le a b) (k : le b a) : a = b := by
  rw [le_iff] at *
  exact Prod.ext (by omega) (by omega)
abbrev d0 : Nat × Int := (0, 0)
def swapL (xs : List (Nat × Int)) (i j : Nat) : List (Nat × Int) := (xs.set i (xs.getD j d0)).set j (xs.getD i d0)
def upL : Nat → List (Nat × Int) → Nat → List (Nat × Int)
  | 0, xs, _ => xs
  | f + 1, xs, j => if (j - 1) / 2 = j ∨ less (xs.getD j d0) (xs.getD ((j - 1) / 2) d0) = false then xs else upL f (swapL xs ((j - 1) / 2) j) ((j - 1) / 2)
/-- the child that goes down -/
def child (xs : List (Nat × Int)) (i n : Nat) : Nat := if 2 * i + 2 < n ∧ less (xs.getD (2 * i + 2) d0) (xs.getD (2 * i + 1) d0) = true then 2 * i + 2 else 2 * i + 1
def downL : Nat → List (Nat × Int) → Nat → Nat → List (Nat × Int)
  | 0, xs, _, _ => xs
  | f + 1, xs, i, n => if n ≤ 2 * i + 1 then xs else if less (xs.getD (child xs i n) d0) (xs.getD i d0) = false then xs else downL f (swapL xs i (child xs i n)) (child xs i n) n
def Heap : List (Nat × Int) → Prop
  | [] => True
  | [_] => True
  | [a, b] => le a b
  | [a, b, c] => le a b ∧ le a c
  | [a, b, c, d] => le a b ∧ le a c ∧ le b d
  | [a, b, c, d, e] => le a b ∧ le a c ∧ le b d ∧ le b e
  | _ => False
theorem swapL_length (xs : List (Nat × Int)) (i j : Nat) : (swapL xs i j).length = xs.length := by simp [swapL]
theorem upL_length (f : Nat) : ∀ xs j, (upL f xs j).length = xs.length := by
  induction f with
  | zero => intro xs j; rfl
  | succ f ih => intro xs j; unfold upL; split <;> simp [ih, swapL_length]
theorem downL_length (f : Nat) : ∀ xs i n, (downL f xs i n).length = xs.length := by
  induction f with
  | zero => intro xs i n; rfl
  | succ f ih =>
    intro xs i n; unfold downL
    split
    · rfl
    · split
      · rfl
      · rw [ih, swapL_length]
theorem nl {a b : Nat × Int} (h : ¬ less a b = false) : le a b := le_of_less (by simpa using h)
theorem up_ok (xs : List (Nat × Int)) (x : Nat × Int) (h : Heap xs) (hl : xs.length ≤ 4) : Heap (upL 3 (xs ++ [x]) xs.length) ∧ (upL 3 (xs ++ [x]) xs.length).Perm (x :: xs) := by
  match xs, h, hl with
  | [], _, _ => exact ⟨by simp [upL, Heap], by simp [upL]⟩
  | [a], h, _ =>
    by_cases h1 : less x a = false
    · exact ⟨by simp [upL, Heap, h1]; exact h1, by simp [upL, h1]; exact List.Perm.swap _ _ _⟩
    · exact ⟨by simp [upL, swapL, Heap, h1]; exact nl h1, by simp [upL, swapL, h1]⟩
  | [a, b], h, _ =>
    by_cases h1 : less x a = false
    · exact ⟨by simp [upL, Heap, h1]; exact ⟨h, h1⟩, by simp [upL, h1]; exact (List.perm_append_comm (l₁ := [a, b]) (l₂ := [x]))⟩
    · exact ⟨by simp [upL, swapL, Heap, h1]; exact ⟨le_trans (nl h1) h, nl h1⟩, by simp [upL, swapL, h1]; exact (List.Perm.swap _ _ _)⟩
  | [a, b, c], h, _ =>
    obtain ⟨hab, hac⟩ := h
    by_cases h1 : less x b = false
    · exact ⟨by simp [upL, Heap, h1]; exact ⟨hab, hac, h1⟩, by simp [upL, h1]; exact (List.perm_append_comm (l₁ := [a, b, c]) (l₂ := [x]))⟩
    · by_cases h2 : less x a = false
      · refine ⟨by simp [upL, swapL, Heap, h1, h2]; exact ⟨h2, hac, nl h1⟩, ?_⟩
        simp [upL, swapL, h1, h2]
        exact ((List.Perm.cons a ((List.Perm.cons x (List.Perm.swap b c [])))).trans (List.Perm.swap x a _))
      · refine ⟨by simp [upL, swapL, Heap, h1, h2]; exact ⟨nl h2, le_trans (nl h2) hac, hab⟩, ?_⟩
        simp [upL, swapL, h1, h2]
        exact (List.Perm.swap b c [])
  | [a, b, c, d], h, _ =>
    obtain ⟨hab, hac, hbd⟩ := h
    by_cases h1 : less x b = false
    · exact ⟨by simp [upL, Heap, h1]; exact ⟨hab, hac, hbd, h1⟩, by simp [upL, h1]; exact (List.perm_append_comm (l₁ := [a, b, c, d]) (l₂ := [x]))⟩
    · by_cases h2 : less x a = false
      · refine ⟨by simp [upL, swapL, Heap, h1, h2]; exact ⟨h2, hac, le_trans (nl h1) hbd, nl h1⟩, ?_⟩
        simp [upL, swapL, h1, h2]
        exact (List.Perm.cons a (List.Perm.cons x (List.perm_append_comm (l₁ := [c, d]) (l₂ := [b])))).trans (List.Perm.swap x a _)
      · refine ⟨by simp [upL, swapL, Heap, h1, h2]; exact ⟨nl h2, le_trans (nl h2) hac, le_trans hab hbd, hab⟩, ?_⟩
        simp [upL, swapL, h1, h2]
        exact (List.perm_append_comm (l₁ := [c, d]) (l₂ := [b]))
/-- the first one is ahead of all -/
theorem heap_root {a : Nat × Int} {xs : List (Nat × Int)} (h : Heap (a :: xs)) : ∀ y ∈ a :: xs, le a y := by
  match xs, h with
  | [], _ => intro y hy; simp at hy; subst hy; exact le_refl _
  | [b], h => intro y hy; simp at hy; rcases hy with rfl | rfl; exact le_refl _; exact h
  | [b, c], h => intro y hy; simp at hy; rcases hy with rfl | rfl | rfl; exact le_refl _; exact h.1; exact h.2
  | [b, c, d], h => intro y hy; simp at hy; rcases hy with rfl | rfl | rfl | rfl; exact le_refl _; exact h.1; exact h.2.1; exact le_trans h.1 h.2.2
  | [b, c, d, e], h => intro y hy; simp at hy; rcases hy with rfl | rfl | rfl | rfl | rfl; exact le_refl _; exact h.1; exact h.2.1; exact le_trans h.1 h.2.2.1; exact le_trans h.1 h.2.2.2
/-- the first one taken: what is left is a heap -/
theorem down_ok (a : Nat × Int) (xs : List (Nat × Int)) (h : Heap (a :: xs)) : ∃ ys, downL 3 (swapL (a :: xs) 0 xs.length) 0 xs.length = ys ++ [a] ∧ Heap ys ∧ ys.Perm xs ∧ ys.length = xs.length := by
  match xs, h with
  | [], _ => exact ⟨[], by simp [downL, swapL], trivial, List.Perm.refl _, rfl⟩
  | [b], h => exact ⟨[b], by simp [downL, swapL], trivial, List.Perm.refl _, rfl⟩
  | [b, c], h =>
    by_cases h1 : less b c = false
    · exact ⟨[c, b], by simp [downL, swapL, child, h1], h1, List.Perm.swap _ _ _, rfl⟩
    · exact ⟨[b, c], by simp [downL, swapL, child, h1], nl h1, List.Perm.refl _, rfl⟩
  | [b, c, d], h =>
    obtain ⟨hab, hac, hbd⟩ := h
    by_cases hcb : less c b = true
    · by_cases h1 : less c d = false
      · exact absurd hcb (by have h3 : le d c := h1; have := le_trans hbd h3; unfold le at this; simp [this])
      · exact ⟨[c, b, d], by simp [downL, swapL, child, hcb, h1], ⟨le_of_less hcb, nl h1⟩, List.Perm.swap _ _ _, rfl⟩
    · by_cases h1 : less b d = false
      · have e : b = d := le_antisymm hbd h1
        subst e
        exact ⟨[b, b, c], by simp [downL, swapL, child, hcb, h1], ⟨le_refl _, by simpa [le] using hcb⟩, List.Perm.cons _ (List.Perm.swap _ _ _), rfl⟩
      · exact ⟨[b, d, c], by simp [downL, swapL, child, hcb, h1], ⟨hbd, by simpa [le] using hcb⟩, List.Perm.cons _ (List.Perm.swap _ _ _), rfl⟩
  | [b, c, d, e], h =>
    obtain ⟨hab, hac, hbd, hbe⟩ := h
    by_cases hcb : less c b = true
    · have hcb' := le_of_less hcb
      by_cases h1 : less c e = false
      · exact absurd hcb (by have h3 : le e c := h1; have := le_trans hbe h3; unfold le at this; simp [this])
      · exact ⟨[c, b, e, d], by simp [downL, swapL, child, hcb, h1], ⟨hcb', nl h1, hbd⟩, by exact (List.Perm.swap b c _).trans (List.Perm.cons b (List.Perm.cons c (List.Perm.swap d e []))), rfl⟩
    · have hbc : le b c := by simpa [le] using hcb
      by_cases h1 : less b e = false
      · have e2 : b = e := le_antisymm hbe h1
        subst e2
        exact ⟨[b, b, c, d], by simp [downL, swapL, child, hcb, h1], ⟨le_refl _, hbc, hbd⟩, by exact (List.Perm.cons b (List.perm_append_comm (l₁ := [b]) (l₂ := [c, d]))), rfl⟩
      · by_cases h2 : less d e = false
        · exact ⟨[b, e, c, d], by simp [downL, swapL, child, hcb, h1, h2], ⟨hbe, hbc, h2⟩, by exact (List.Perm.cons b (List.perm_append_comm (l₁ := [e]) (l₂ := [c, d]))), rfl⟩
        · exact ⟨[b, d, c, e], by simp [downL, swapL, child, hcb, h1, h2], ⟨hbd, hbc, nl h2⟩, by exact (List.Perm.cons b (List.Perm.swap c d [e])), rfl⟩
end Go.Proofs.YthdoofmfigemoaaGreatDoor.Ta
end
