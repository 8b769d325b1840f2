/-
  Chains of unit fractions in memory: nodes one behind the other, each in a block of its own.
-/
import Derived.Test.YtnljemgglmokjaaUnPlain
import Derived.Test.YtnljemgglmokjaaKit
namespace Go.Proofs.Ytnljemgglmokjaa
open Go.RowKit

/-- a node of a chain -/
def Nd (w : World) (b : Nat) (x : Int) (p : Option Addr) : Prop := w.heap[b]? = some (.cells #[.int .i64 x, .pointer p] 50 (0, 0))
/-- nodes (block, number) from a pointer on to another -/
def Seg (w : World) : Option Addr → List (Nat × Int) → Option Addr → Prop
  | p, [], q => p = q
  | p, (b, x) :: r, q => p = some ⟨b, 0, none⟩ ∧ ∃ m, Nd w b x m ∧ Seg w m r q
def blks (ns : List (Nat × Int)) : List Nat := ns.map (·.1)
def vals (ns : List (Nat × Int)) : List Int := ns.map (·.2)
/-- a chain of the call's own from block B on -/
def Cha (w : World) (B : Nat) (p : Option Addr) (l : List Int) : Prop := ∃ ns, Seg w p ns none ∧ (blks ns).Nodup ∧ (∀ k ∈ blks ns, B ≤ k) ∧ vals ns = l

theorem Nd.lt {w : World} {b : Nat} {x : Int} {p : Option Addr} (h : Nd w b x p) : b < w.heap.size := (Array.getElem?_eq_some_iff.1 h).1
theorem Nd.uniq {w : World} {b : Nat} {x y : Int} {p q : Option Addr} (h : Nd w b x p) (h' : Nd w b y q) : x = y ∧ p = q := by
  unfold Nd at h h'
  rw [h] at h'
  simp at h'
  exact h'
theorem Nd.cell0 {w : World} {b : Nat} {x : Int} {p : Option Addr} (h : Nd w b x p) : w.cell? ⟨b, 0, none⟩ = some (.int .i64 x) := cell_of_row w b 0 _ _ _ h
theorem Nd.cell1 {w : World} {b : Nat} {x : Int} {p : Option Addr} (h : Nd w b x p) : w.cell? ⟨b, 1, none⟩ = some (.pointer p) := cell_of_row w b 1 _ _ _ h
theorem Nd.frozen {w : World} {b : Nat} {x : Int} {p : Option Addr} (h : Nd w b x p) : w.frozen? ⟨b, 1, none⟩ = false := frozen_of_row w b 1 _ _ h
theorem Nd.keep {w w' : World} {b : Nat} {x : Int} {p : Option Addr} (h : Nd w b x p) (hk : w'.heap[b]? = w.heap[b]?) : Nd w' b x p := hk.trans h
theorem nd_new (w : World) (x : Int) (p : Option Addr) : Nd (w.alloc (.cells #[.int .i64 x, .pointer p] 50)) w.heap.size x p := heap_alloc_new w _
theorem Nd.set {w : World} {b : Nat} {x : Int} {p : Option Addr} (h : Nd w b x p) (q : Option Addr) : Nd (w.setCell ⟨b, 1, none⟩ (.pointer q)) b x q := by
  have := heap_setCell_same w b 1 _ _ (.pointer q) h
  unfold Nd
  simpa using this
theorem seg_uniq {w : World} : ∀ (ns ms : List (Nat × Int)) (p : Option Addr), Seg w p ns none → Seg w p ms none → ns = ms := by
  intro ns
  induction ns with
  | nil =>
    intro ms p h h'
    cases ms with
    | nil => rfl
    | cons z r => obtain ⟨b, x⟩ := z; obtain rfl : p = none := h; cases h'.1
  | cons z r ih =>
    obtain ⟨b, x⟩ := z
    intro ms p h h'
    obtain ⟨rfl, m, hn, hs⟩ := h
    cases ms with
    | nil => cases h'
    | cons z' r' =>
      obtain ⟨b', x'⟩ := z'
      obtain ⟨e, m', hn', hs'⟩ := h'
      obtain rfl : b = b' := by simpa using e
      obtain ⟨rfl, rfl⟩ := hn.uniq hn'
      rw [ih r' m hs hs']
theorem seg_app {w : World} {q : Option Addr} (d r : List (Nat × Int)) : ∀ p, Seg w p (d ++ r) q ↔ ∃ m, Seg w p d m ∧ Seg w m r q := by
  induction d with
  | nil => intro p; constructor; exact fun h => ⟨p, rfl, h⟩; rintro ⟨m, rfl, h⟩; exact h
  | cons z d ih =>
    obtain ⟨b, x⟩ := z
    intro p
    constructor
    · rintro ⟨rfl, m, hn, h⟩
      obtain ⟨m2, h1, h2⟩ := (ih m).1 h
      exact ⟨m2, ⟨rfl, m, hn, h1⟩, h2⟩
    · rintro ⟨m2, ⟨rfl, m, hn, h1⟩, h2⟩
      exact ⟨rfl, m, hn, (ih m).2 ⟨m2, h1, h2⟩⟩
theorem Seg.keep {w w' : World} {q : Option Addr} : ∀ (ns : List (Nat × Int)) (p : Option Addr), Seg w p ns q → (∀ k ∈ blks ns, k < w.heap.size → w'.heap[k]? = w.heap[k]?) → Seg w' p ns q := by
  intro ns
  induction ns with
  | nil => intro p h _; exact h
  | cons z r ih =>
    obtain ⟨b, x⟩ := z
    rintro p ⟨rfl, m, hn, h⟩ hk
    exact ⟨rfl, m, hn.keep (hk b (by simp [blks]) hn.lt), ih m h fun k hm => hk k (by simp only [blks, List.map_cons, List.mem_cons]; exact .inr hm)⟩
theorem Seg.next {w w' : World} {p q : Option Addr} {ns : List (Nat × Int)} (h : Seg w p ns q) (hb : Below w.heap.size w w') : Seg w' p ns q := h.keep ns p fun k _ hk => hb.block k hk
theorem Seg.alloc {w : World} {p q : Option Addr} {ns : List (Nat × Int)} (h : Seg w p ns q) (o : Obj) : Seg (w.alloc o) p ns q := h.keep ns p fun k _ hk => Below.heap_alloc w o k hk
theorem Seg.drewN {w : World} {p q : Option Addr} {ns : List (Nat × Int)} (h : Seg w p ns q) (n : Nat) : Seg (w.drewN n) p ns q := h.keep ns p fun _ _ _ => rfl
theorem Seg.lt {w : World} {q : Option Addr} : ∀ (ns : List (Nat × Int)) (p : Option Addr), Seg w p ns q → ∀ k ∈ blks ns, k < w.heap.size := by
  intro ns
  induction ns with
  | nil => intro p _ k hk; simp [blks] at hk
  | cons z r ih =>
    obtain ⟨b, x⟩ := z
    rintro p ⟨rfl, m, hn, h⟩ k hk
    simp only [blks, List.map_cons, List.mem_cons] at hk
    rcases hk with rfl | hk
    · exact hn.lt
    · exact ih m h k hk
theorem Cha.next {w w' : World} {B : Nat} {p : Option Addr} {l : List Int} (h : Cha w B p l) (hb : Below w.heap.size w w') : Cha w' B p l := by
  obtain ⟨ns, h1, h2, h3, h4⟩ := h
  exact ⟨ns, h1.next hb, h2, h3, h4⟩
theorem Cha.mono {w : World} {B B' : Nat} {p : Option Addr} {l : List Int} (h : Cha w B p l) (hB : B' ≤ B) : Cha w B' p l := by
  obtain ⟨ns, h1, h2, h3, h4⟩ := h
  exact ⟨ns, h1, h2, fun k hk => Nat.le_trans hB (h3 k hk), h4⟩
theorem Cha.drewN {w : World} {B : Nat} {p : Option Addr} {l : List Int} (h : Cha w B p l) (n : Nat) : Cha (w.drewN n) B p l := by
  obtain ⟨ns, h1, h2, h3, h4⟩ := h
  exact ⟨ns, h1.drewN n, h2, h3, h4⟩
theorem Cha.nil (w : World) (B : Nat) : Cha w B none [] := ⟨[], rfl, by simp [blks], by simp [blks], rfl⟩
/-- a node ahead of a chain -/
theorem Cha.cons {w : World} {B : Nat} {p : Option Addr} {l : List Int} (h : Cha w B p l) (x : Int) (hB : B ≤ w.heap.size) : Cha (w.alloc (.cells #[.int .i64 x, .pointer p] 50)) B (some ⟨w.heap.size, 0, none⟩) (x :: l) := by
  obtain ⟨ns, h1, h2, h3, h4⟩ := h
  refine ⟨(w.heap.size, x) :: ns, ⟨rfl, p, nd_new w x p, h1.alloc _⟩, ?_, ?_, by simp [vals] at h4 ⊢; exact h4⟩
  · simp only [blks, List.map_cons, List.nodup_cons]
    exact ⟨fun hm => by have := h1.lt ns p _ hm; omega, h2⟩
  · intro k hk
    simp only [blks, List.map_cons, List.mem_cons] at hk
    rcases hk with rfl | hk
    · exact hB
    · exact h3 k hk
theorem Cha.head {w : World} {B : Nat} {p : Option Addr} {x : Int} {l : List Int} (h : Cha w B p (x :: l)) : ∃ b, p = some ⟨b, 0, none⟩ ∧ w.cell? ⟨b, 0, none⟩ = some (.int .i64 x) := by
  obtain ⟨ns, h1, h2, h3, h4⟩ := h
  cases ns with
  | nil => simp [vals] at h4
  | cons z r =>
    obtain ⟨b, y⟩ := z
    obtain ⟨rfl, m, hn, hs⟩ := h1
    simp [vals] at h4
    exact ⟨b, rfl, by rw [← h4.1]; exact hn.cell0⟩
theorem Cha.isNil {w : World} {B : Nat} {p : Option Addr} (h : Cha w B p []) : p = none := by
  obtain ⟨ns, h1, h2, h3, h4⟩ := h
  have : ns = [] := by simpa [vals] using h4
  subst this
  exact h1
open Classical in
/-- how many nodes there are from a pointer on -/
noncomputable def lenOf (w : World) (p : Option Addr) : Nat := if h : ∃ ns, Seg w p ns none then (Classical.choose h).length else 0
theorem lenOf_is {w : World} {p : Option Addr} {ns : List (Nat × Int)} (h : Seg w p ns none) : lenOf w p = ns.length := by
  have hx : ∃ ns, Seg w p ns none := ⟨ns, h⟩
  unfold lenOf
  rw [dif_pos hx, seg_uniq _ _ _ (Classical.choose_spec hx) h]
def ptrOf : Value → Option Addr
  | .pointer p => p
  | _ => none

/-- a node put in behind another -/
theorem seg_insert {w w' : World} {s m : Option Addr} {d r : List (Nat × Int)} {b nb : Nat} {x v : Int} (h1 : Seg w s d (some ⟨b, 0, none⟩)) (h3 : Seg w m r none)
    (hnd : (blks (d ++ (b, x) :: r)).Nodup) (hk : ∀ k, k ≠ b → k < w.heap.size → w'.heap[k]? = w.heap[k]?) (hb' : Nd w' b x (some ⟨nb, 0, none⟩)) (hn : Nd w' nb v m) :
    Seg w' s (d ++ (b, x) :: (nb, v) :: r) none := by
  simp only [blks, List.map_append, List.map_cons, List.nodup_append, List.nodup_cons, List.mem_cons] at hnd
  refine (seg_app d _ s).2 ⟨_, h1.keep d s fun k hm hlt => hk k (hnd.2.2 k hm b (.inl rfl)) hlt, rfl, _, hb', rfl, m, hn, h3.keep r m fun k hm hlt => hk k ?_ hlt⟩
  rintro rfl
  exact hnd.2.1.1 hm
/-- a node left out behind another -/
theorem seg_without {w w' : World} {s m : Option Addr} {d r : List (Nat × Int)} {b c : Nat} {x y : Int} (h1 : Seg w s d (some ⟨b, 0, none⟩)) (h3 : Seg w m r none)
    (hnd : (blks (d ++ (b, x) :: (c, y) :: r)).Nodup) (hk : ∀ k, k ≠ b → k < w.heap.size → w'.heap[k]? = w.heap[k]?) (hb' : Nd w' b x m) :
    Seg w' s (d ++ (b, x) :: r) none := by
  simp only [blks, List.map_append, List.map_cons, List.nodup_append, List.nodup_cons, List.mem_cons] at hnd
  refine (seg_app d _ s).2 ⟨_, h1.keep d s fun k hm hlt => hk k (hnd.2.2 k hm b (.inl rfl)) hlt, rfl, _, hb', h3.keep r m fun k hm hlt => hk k ?_ hlt⟩
  rintro rfl
  exact hnd.2.1.1 (.inr hm)
end Go.Proofs.Ytnljemgglmokjaa
