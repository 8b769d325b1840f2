/-
  Pushes between frames, and the nines of a frame.
-/
import Derived.Test.YtpaepdlkjblfgaaDoorFrFns
import Derived.Deep.RegionHeld3
namespace Go.Proofs.YtpaepdlkjblfgaaDoor
open Go.RowKit

/-- a frame and whether there is one -/
def FrPair (w : World) (ok : Bool) (ds : List Int) (e : Ending) (w' : World) : Prop :=
  (∃ v, e = .returned (.tuple #[v, .bool ok]) ∧ FrOwn w' w.heap.size v (if ok then ds else [])) ∧ Below w.heap.size w w'
theorem FrPair.no {w w' : World} {ds : List Int} (hb : Below w.heap.size w w') : FrPair w false ds (.returned (.tuple #[.agg #[.slice none 0 0, .slice none 0 0], .bool false])) w' := ⟨⟨_, rfl, FrOwn.nil _ _⟩, hb⟩
theorem nines_next {ds : List Int} {k : Nat} {d : Int} (h : ds[k]? = some d) : ((Fr.nines ds).take k ++ ds.drop k).set k (9 - d) = (Fr.nines ds).take (k + 1) ++ ds.drop (k + 1) := by
  have hl := (List.getElem?_eq_some_iff.1 h).1
  have hn : (Fr.nines ds).length = ds.length := by simp [Fr.nines]
  have h2 : (Fr.nines ds)[k]? = some (9 - d) := by simp [Fr.nines, h]
  rw [take_next h2, drop_cons h, List.set_append_right _ _ (by rw [List.length_take]; omega), List.length_take, show k - min k (Fr.nines ds).length = 0 from by omega, List.set_cons_zero, List.append_assoc]
  rfl

theorem dist_next {l bs : List Int} : ∀ {k : Nat} {a b : Int}, l[k]? = some a → bs[k]? = some b → Fr.dist (l.take (k + 1)) (bs.take (k + 1)) = Fr.dist (l.take k) (bs.take k) + Fr.cost a b := by
  induction l generalizing bs with
  | nil => intro k a b h _; simp at h
  | cons x xs ih =>
    intro k a b ha hb
    cases bs with
    | nil => simp at hb
    | cons y ys =>
      cases k with
      | zero => simp at ha hb; subst ha; subst hb; simp [Fr.dist]
      | succ k =>
        have := ih (k := k) (by simpa using ha) (by simpa using hb)
        rw [List.take_succ_cons, List.take_succ_cons, List.take_succ_cons, List.take_succ_cons, Fr.dist, Fr.dist, this]
        omega
theorem dist_bd (l : List Int) : ∀ bs, 0 ≤ Fr.dist l bs ∧ Fr.dist l bs ≤ 2 * l.length := by
  induction l with
  | nil => intro bs; simp [Fr.dist]
  | cons a l ih =>
    intro bs
    cases bs with
    | nil => simp [Fr.dist]; omega
    | cons b bs =>
      have := ih bs
      have := cost_le a b
      simp [Fr.dist]
      omega

end Go.Proofs.YtpaepdlkjblfgaaDoor
