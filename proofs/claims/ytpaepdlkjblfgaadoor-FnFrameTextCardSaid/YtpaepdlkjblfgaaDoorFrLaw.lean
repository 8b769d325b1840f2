/-
  The laws' own words on frames: copies, comparisons, marks.
-/
import Derived.Test.YtpaepdlkjblfgaaDoorFrSpec2
namespace Go.Proofs.YtpaepdlkjblfgaaDoor
open Go.RowKit

/-- a frame of the call's own, whatever it shows -/
def GOwn (w : World) (B : Nat) (v : Value) (hs ls : List Int) : Prop :=
  ∃ A n c A' m c', v = .agg #[.slice A n c, .slice A' m c'] ∧ Own w B A n c hs ∧ Own w B A' m c' ls ∧ Apart (.slice A n c) (.slice A' m c') ∧ Apart (.slice A' m c') (.slice A n c)
theorem FrOwn.g {w : World} {B : Nat} {v : Value} {ds : List Int} (h : FrOwn w B v ds) : GOwn w B v (HiL ds) (LoL ds) := by
  obtain ⟨A, c, A', c', rfl, h1, h2, h3, h4⟩ := h
  exact ⟨A, _, c, A', _, c', rfl, h1, h2, h3, h4⟩
theorem GOwn.next {w w' : World} {B : Nat} {v : Value} {hs ls : List Int} (h : GOwn w B v hs ls) (hb : Below w.heap.size w w') : GOwn w' B v hs ls := by
  obtain ⟨A, n, c, A', m, c', rfl, h1, h2, h3, h4⟩ := h
  exact ⟨A, _, c, A', _, c', rfl, h1.next hb, h2.next hb, h3, h4⟩
theorem GOwn.mono {w : World} {B B' : Nat} {v : Value} {hs ls : List Int} (h : GOwn w B v hs ls) (hB : B' ≤ B) : GOwn w B' v hs ls := by
  obtain ⟨A, n, c, A', m, c', rfl, h1, h2, h3, h4⟩ := h
  exact ⟨A, _, c, A', _, c', rfl, h1.mono hB, h2.mono hB, h3, h4⟩
theorem Own.low {w : World} {B b j n c : Nat} {A : Option Addr} {xs : List Int} (h : Own w B A n c xs) (hb : b < B) {u : Value} : Own (w.setCell ⟨b, j, none⟩ u) B A n c xs :=
  h.kept (grown_set b j u) (fun k hk e => by have := (h.blk k hk).1; injection e; omega)
/-- a frame's rows lie in these blocks -/
def BlkIn (v : Value) (lo hi : Nat) : Prop := ∀ A n c A' m c', v = .agg #[.slice A n c, .slice A' m c'] → (∀ k, (Value.slice A n c).ownBlock = some k → lo ≤ k ∧ k < hi) ∧ (∀ k, (Value.slice A' m c').ownBlock = some k → lo ≤ k ∧ k < hi)
theorem GOwn.blkIn {w : World} {B : Nat} {v : Value} {hs ls : List Int} (h : GOwn w B v hs ls) : BlkIn v B w.heap.size := by
  obtain ⟨A, n, c, A', m, c', rfl, h1, h2, h3, h4⟩ := h
  intro A2 n2 c2 A3 m3 c3 e
  injection e with e
  have e' := congrArg (fun a => a.toList) e
  simp only [List.cons.injEq, and_true] at e'
  obtain ⟨e1, e2⟩ := e'
  rw [← e1, ← e2]
  exact ⟨h1.blk, h2.blk⟩
/-- only blocks in this range may have changed -/
def Within (lo hi : Nat) (w w' : World) : Prop := w'.os = w.os ∧ w'.tape = w.tape ∧ w'.output = w.output ∧ w.heap.size ≤ w'.heap.size ∧ ∀ k, k < w.heap.size → k < lo ∨ hi ≤ k → w'.heap[k]? = w.heap[k]?
theorem Within.below {lo hi B : Nat} {w0 w w' : World} (h : Within lo hi w w') (hb : Below B w0 w) (hB : B ≤ lo) (hB2 : B ≤ w.heap.size) : Below B w0 w' := by
  obtain ⟨h1, h2, h3, h4, h5⟩ := h
  exact hb.trans ⟨h1, h2, h3, h4, fun k hk => h5 k (by omega) (.inl (by omega))⟩
theorem Within.box {lo hi b : Nat} {w w' : World} {u v : Value} (h : Within lo hi w w') (hx : Box w b u v) (hb : b < lo ∨ hi ≤ b) : Box w' b u v := hx.keep (h.2.2.2.2 b hx.lt hb)
theorem Within.own {lo hi lo2 hi2 B n c : Nat} {w w' : World} {A : Option Addr} {xs : List Int} (h : Within lo hi w w') (ho : Own w B A n c xs) (hb : ∀ k, (Value.slice A n c).ownBlock = some k → lo2 ≤ k ∧ k < hi2) (hd : hi2 ≤ lo ∨ hi ≤ lo2) : Own w' B A n c xs := by
  refine ⟨⟨ho.1.1, ?_⟩, ho.2⟩
  rcases ho.1.2 with h0 | ⟨g, cap, cur, hv, h1, hg, rest⟩
  · exact .inl h0
  · have hk := hb g (by rw [hv]; rfl)
    have hl := (Array.getElem?_eq_some_iff.1 hg).1
    exact .inr ⟨g, cap, cur, hv, h1, (h.2.2.2.2 g hl (by omega)).trans hg, rest⟩
theorem Within.gown {lo hi lo2 hi2 B : Nat} {w w' : World} {v : Value} {hs ls : List Int} (h : Within lo hi w w') (ho : GOwn w B v hs ls) (hb : BlkIn v lo2 hi2) (hd : hi2 ≤ lo ∨ hi ≤ lo2) : GOwn w' B v hs ls := by
  obtain ⟨A, n, c, A', m, c', rfl, h1, h2, h3, h4⟩ := ho
  obtain ⟨b1, b2⟩ := hb _ _ _ _ _ _ rfl
  exact ⟨A, _, c, A', _, c', rfl, h.own h1 b1 hd, h.own h2 b2 hd, h3, h4⟩

/-- a frame that can be read -/
def FrV (w : World) (v : Value) (hs ls : List Int) : Prop := ∃ A n c A' m c', v = .agg #[.slice A n c, .slice A' m c'] ∧ Ints w w.heap.size A n hs ∧ Ints w w.heap.size A' m ls
theorem GOwn.v {w : World} {B : Nat} {v : Value} {hs ls : List Int} (h : GOwn w B v hs ls) : FrV w v hs ls := by
  obtain ⟨A, n, c, A', m, c', rfl, h1, h2, _⟩ := h
  exact ⟨A, n, c, A', m, c', rfl, h1.ints, h2.ints⟩
theorem FrV.rows {w : World} {A A' : Option Addr} {n m c c' : Nat} {hs ls : List Int} (h : FrV w (.agg #[.slice A n c, .slice A' m c']) hs ls) : Ints w w.heap.size A n hs ∧ Ints w w.heap.size A' m ls := by
  obtain ⟨A2, n2, c2, A3, m3, c3, he, h1, h2⟩ := h
  injection he with he
  have e1 := congrArg (fun a => a.toList) he
  simp only [List.cons.injEq, Value.slice.injEq, and_true] at e1
  obtain ⟨⟨rfl, rfl, rfl⟩, rfl, rfl, rfl⟩ := e1
  exact ⟨h1, h2⟩
theorem row_len {k : IntKind} {w : World} {a : Option Addr} {len cap : Nat} {zs : List Int} (h : IsRow k w a len cap zs) : len ≤ 9223372036854775807 := by
  rcases h with ⟨_, rfl, _⟩ | ⟨_, _, h1, h2, _⟩
  · omega
  · unfold maxLen at h2; omega
end Go.Proofs.YtpaepdlkjblfgaaDoor
