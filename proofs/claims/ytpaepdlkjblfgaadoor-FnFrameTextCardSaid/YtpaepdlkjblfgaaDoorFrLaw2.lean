/-
  The laws' words on valid frames: what each function makes of a frame that shows digits.
-/
import Derived.Test.YtpaepdlkjblfgaaDoorFrLaw
import Derived.Test.YtpaepdlkjblfgaaDoorFrSpec3
import Derived.Test.YtpaepdlkjblfgaaDoorFrSpec4
import Derived.Test.YtpaepdlkjblfgaaDoorFrSpec5
import Derived.Test.YtpaepdlkjblfgaaDoorFrSpec6
import Derived.Test.YtpaepdlkjblfgaaDoorFrPlain2
namespace Go.Proofs.YtpaepdlkjblfgaaDoor
open Go.RowKit

theorem FrV.next {w w' : World} {v : Value} {hs ls : List Int} (h : FrV w v hs ls) (hb : Below w.heap.size w w') : FrV w' v hs ls := by
  obtain ⟨A, n, c, A', m, c', rfl, h1, h2⟩ := h
  exact ⟨A, n, c, A', m, c', rfl, h1.next hb, h2.next hb⟩
/-- a frame of n rods that shows digits -/
def FrG (w : World) (v : Value) (n : Nat) (ds : List Int) : Prop := FrV w v (HiL ds) (LoL ds) ∧ Fr.Digs ds ∧ ds.length = n ∧ 1 ≤ n ∧ n ≤ 6
theorem FrG.next {w w' : World} {v : Value} {n : Nat} {ds : List Int} (h : FrG w v n ds) (hb : Below w.heap.size w w') : FrG w' v n ds := ⟨h.1.next hb, h.2⟩
theorem FrV.g {w : World} {A A' : Option Addr} {n m c c' : Nat} {ds : List Int} (h : FrV w (.agg #[.slice A n c, .slice A' m c']) (HiL ds) (LoL ds)) (hd : Fr.Digs ds) (h1 : 1 ≤ ds.length) (h6 : ds.length ≤ 6) : n = ds.length ∧ m = ds.length ∧ FrG w (.agg #[.slice A n c, .slice A' m c']) ds.length ds := by
  have e1 := h.rows.1.len
  have e2 := h.rows.2.len
  rw [HiL_length] at e1
  rw [LoL_length] at e2
  exact ⟨e1.symm, e2.symm, h, hd, rfl, h1, h6⟩
theorem FrG.ok {w : World} {v : Value} {n : Nat} {ds : List Int} (h : FrG w v n ds) (f : List Int → Option (List Int × Int)) : frOf (HiL ds) (LoL ds) f (f ds) := .inr ⟨ds, h.2.1, rfl, rfl, by have := h.2.2; omega, by have := h.2.2; omega, rfl⟩
theorem FrG.is {α : Type} {w : World} {v : Value} {n : Nat} {ds : List Int} (h : FrG w v n ds) (f : List Int → α) (z : α) : frIs (HiL ds) (LoL ds) f z (f ds) := .inr ⟨ds, h.2.1, rfl, rfl, by have := h.2.2; omega, by have := h.2.2; omega, rfl⟩

/-- a changed frame -/
def FrSome (w : World) (n : Nat) (r : List Int) (p : Int) (e : Ending) (w' : World) : Prop :=
  ∃ A c A' c', e = .returned (.tuple #[.agg #[.slice A n c, .slice A' n c'], .int .i64 p, .bool true]) ∧ FrG w' (.agg #[.slice A n c, .slice A' n c']) n r ∧ Below w.heap.size w w'
/-- none -/
def FrNone (w : World) (e : Ending) (w' : World) : Prop :=
  ∃ A c A' c', e = .returned (.tuple #[.agg #[.slice A 0 c, .slice A' 0 c'], .int .i64 0, .bool false]) ∧ FrV w' (.agg #[.slice A 0 c, .slice A' 0 c']) [] [] ∧ Below w.heap.size w w'
/-- a frame and that there is one -/
def FrGot (w : World) (n : Nat) (r : List Int) (e : Ending) (w' : World) : Prop :=
  ∃ A c A' c', e = .returned (.tuple #[.agg #[.slice A n c, .slice A' n c'], .bool true]) ∧ FrG w' (.agg #[.slice A n c, .slice A' n c']) n r ∧ Below w.heap.size w w'
def FrNot (w : World) (e : Ending) (w' : World) : Prop :=
  ∃ A c A' c', e = .returned (.tuple #[.agg #[.slice A 0 c, .slice A' 0 c'], .bool false]) ∧ FrV w' (.agg #[.slice A 0 c, .slice A' 0 c']) [] [] ∧ Below w.heap.size w w'
theorem FrRes.got {w w' : World} {n : Nat} {r : List Int} {p : Int} {e : Ending} (h : FrRes w (some (r, p)) e w') (hd : Fr.Digs r) (hl : r.length = n) (h1 : 1 ≤ n) (h6 : n ≤ 6) : FrSome w n r p e w' := by
  obtain ⟨A, c, A', c', he, hq, hb⟩ := h.out_
  simp only [resL, resN, Option.isSome_some, hl] at he hq
  exact ⟨A, c, A', c', he, ⟨hq.g.v, hd, hl, h1, h6⟩, hb⟩
theorem FrRes.not_ {w w' : World} {e : Ending} (h : FrRes w none e w') : FrNone w e w' := by
  obtain ⟨A, c, A', c', he, hq, hb⟩ := h.out_
  simp only [resL, resN, Option.isSome_none, List.length_nil] at he hq
  exact ⟨A, c, A', c', he, hq.g.v, hb⟩
theorem FrPair.got {w w' : World} {n : Nat} {r : List Int} {e : Ending} (h : FrPair w true r e w') (hd : Fr.Digs r) (hl : r.length = n) (h1 : 1 ≤ n) (h6 : n ≤ 6) : FrGot w n r e w' := by
  obtain ⟨⟨v, rfl, ho⟩, hb⟩ := h
  rw [if_pos rfl] at ho
  obtain ⟨A, c, A', c', rfl, -⟩ := id ho
  rw [hl]
  exact ⟨A, c, A', c', rfl, ⟨by have := ho.g.v; rwa [hl] at this, hd, hl, h1, h6⟩, hb⟩
theorem FrPair.not_ {w w' : World} {r : List Int} {e : Ending} (h : FrPair w false r e w') : FrNot w e w' := by
  obtain ⟨⟨v, rfl, ho⟩, hb⟩ := h
  rw [if_neg (by simp)] at ho
  obtain ⟨A, c, A', c', rfl, -⟩ := id ho
  exact ⟨A, c, A', c', rfl, ho.g.v, hb⟩

section
variable {w : World} {A A' B B' : Option Addr} {n m c c' d d' : Nat} {hs ls ds es r : List Int} {k x N p : Int}
theorem add_g (hv : FrG w (.agg #[.slice A n c, .slice A' n c']) n ds) (h : frAt 1 ds k x = some (r, p)) : Calls Tryd.prog 7 #[.agg #[.slice A n c, .slice A' n c'], .int .i64 k, .int .i64 x] w (FrSome w n r p) := by
  obtain ⟨e1, e2, -⟩ := frAt_some (.inl rfl) hv.2.1 h
  have := FrameAdd_any A A' n n c c' _ _ k x _ w hv.1.rows.1 hv.1.rows.2 (hv.ok _)
  rw [h] at this
  exact this.mono fun _ _ q => q.got e1 (e2.trans hv.2.2.1) hv.2.2.2.1 hv.2.2.2.2
theorem specdigit_g {j : Nat} {g : Int} (hv : FrG w (.agg #[.slice A n c, .slice A' n c']) n ds) (h : ds[j]? = some g) : Calls Tryd.prog 15 #[.agg #[.slice A n c, .slice A' n c'], .int .i64 (j : Int)] w fun e w' => e = .returned (.int .i64 g) ∧ Below w.heap.size w w' := by
  have := specFrameDigit_any A A' n n c c' _ _ (j : Int) _ w hv.1.rows.1 hv.1.rows.2 (hv.is (fun ds => digAt ds (j : Int)) _)
  rwa [digAt_in h] at this
theorem both_zero {a b : Int} (h : a = 0 ↔ b = 0) : ((a == 0) == (b == 0)) = true := by
  have e : (a == 0) = (b == 0) := by rw [Bool.eq_iff_iff, beq_iff_eq, beq_iff_eq]; exact h
  rw [e]; exact beq_self_eq_true _
/-- whether there is a change -/
theorem frOf_cases (hs ls : List Int) (f : List Int → Option (List Int × Int)) : frOf hs ls f none ∨ ∃ ds r p, Fr.Digs ds ∧ hs = HiL ds ∧ ls = LoL ds ∧ 1 ≤ ds.length ∧ ds.length ≤ 6 ∧ f ds = some (r, p) := by
  by_cases h : FrOk hs ls
  · obtain ⟨ds, h1, h2, h3, h4, h5⟩ := h
    cases hq : f ds with
    | none => exact .inl (.inr ⟨ds, h1, h2, h3, h4, h5, hq.symm⟩)
    | some q => exact .inr ⟨ds, q.1, q.2, h1, h2, h3, h4, h5, hq⟩
  · exact .inl (.inl ⟨h, rfl⟩)
theorem frIs_digit (hs ls : List Int) (k : Int) : frIs hs ls (fun ds => digAt ds k) (-1) (-1) ∨ ∃ ds, ∃ (j : Nat) (g : Int), Fr.Digs ds ∧ hs = HiL ds ∧ ls = LoL ds ∧ 1 ≤ ds.length ∧ ds.length ≤ 6 ∧ k = (j : Int) ∧ ds[j]? = some g := by
  by_cases h : FrOk hs ls
  · obtain ⟨ds, h1, h2, h3, h4, h5⟩ := h
    by_cases hk : 0 ≤ k ∧ k < ds.length
    · obtain ⟨j, rfl⟩ := Int.eq_ofNat_of_zero_le hk.1
      exact .inr ⟨ds, j, ds[j]'(by omega), h1, h2, h3, h4, h5, rfl, List.getElem?_eq_getElem _⟩
    · exact .inl (.inr ⟨ds, h1, h2, h3, h4, h5, (digAt_out hk).symm⟩)
  · exact .inl (.inl ⟨h, rfl⟩)
/-- a frame that is valid, as it was drawn -/
theorem FrV.good {A A' : Option Addr} {m : Nat} (h : FrV w (.agg #[.slice A n c, .slice A' m c']) (HiL ds) (LoL ds)) (hd : Fr.Digs ds) (h1 : 1 ≤ ds.length) (h6 : ds.length ≤ 6) : n = m ∧ ds.length = n ∧ FrG w (.agg #[.slice A n c, .slice A' m c']) n ds := by
  obtain ⟨e1, e2, hg⟩ := h.g hd h1 h6
  subst e1
  exact ⟨e2.symm, rfl, hg⟩
theorem rows_at {j : Nat} {g : Int} (h : FrG w (.agg #[.slice A n c, .slice A' n c']) n ds) (hg : ds[j]? = some g) : ∃ b o b' o', A = some ⟨b, o, none⟩ ∧ A' = some ⟨b', o', none⟩ ∧ b < w.heap.size ∧ b' < w.heap.size ∧ j < n ∧ w.cell? ⟨b, o + j, none⟩ = some (.int .i64 (g / 5)) ∧ w.cell? ⟨b', o' + j, none⟩ = some (.int .i64 (g % 5)) := by
  have hj := (List.getElem?_eq_some_iff.1 hg).1
  have hl := h.2.2.1
  obtain ⟨b, o, rfl, hb, hx⟩ := h.1.rows.1.addr (by omega)
  obtain ⟨b', o', rfl, hb', hy⟩ := h.1.rows.2.addr (by omega)
  exact ⟨b, o, b', o', rfl, rfl, hb, hb', by omega, hx j _ (by simp [HiL, hg]), hy j _ (by simp [LoL, hg])⟩
theorem rows_cell {j b o b' o' : Nat} {g : Int} (h : FrG w (.agg #[.slice (some ⟨b, o, none⟩) n c, .slice (some ⟨b', o', none⟩) n c']) n ds) (hg : ds[j]? = some g) : b < w.heap.size ∧ b' < w.heap.size ∧ w.cell? ⟨b, o + j, none⟩ = some (.int .i64 (g / 5)) ∧ w.cell? ⟨b', o' + j, none⟩ = some (.int .i64 (g % 5)) := by
  obtain ⟨b2, o2, b3, o3, e1, e2, h1, h2, -, h3, h4⟩ := rows_at h hg
  injection e1 with e1
  injection e2 with e2
  injection e1 with e1 e3
  injection e2 with e2 e4
  subst e1 e2 e3 e4
  exact ⟨h1, h2, h3, h4⟩
end
end Go.Proofs.YtpaepdlkjblfgaaDoor
