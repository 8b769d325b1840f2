/-
  Plain lists of counters: what a raise, a lowering and a laying make of them; no program in sight.
-/
import Derived.Test.YtknjnlkamhbmgaaBdPlain
namespace Go.Proofs.Ytknjnlkamhbmgaa.Bd

/-! the lists behind a raise, a lowering, a laying -/
def raiseL (xs : List Int) (p : Nat) : List Int := move xs p (0 - grp p) 1
def lowerL (xs : List Int) (p : Nat) : List Int := move xs (p - 1) (grp (p - 1)) (-1)
def addL : List Int → List Int → List Int
  | x :: xs, y :: ys => (x + y) :: addL xs ys
  | _, _ => []
theorem move_eq {xs : List Int} {p : Nat} {u v : Int} (n m : Int) (hu : xs[p]? = some u) (hv : xs[p + 1]? = some v) : move xs p n m = (xs.set p (u + n)).set (p + 1) (v + m) := by
  unfold move
  have e1 : xs.getD p 0 = u := by rw [List.getD_eq_getElem?_getD, hu]; rfl
  have e2 : (xs.set p (u + n)).getD (p + 1) 0 = v := by
    rw [List.getD_eq_getElem?_getD, List.getElem?_set_ne (by omega), hv]; rfl
  rw [e1, e2]
theorem raiseL_eq {xs : List Int} {p : Nat} {u v : Int} (hu : xs[p]? = some u) (hv : xs[p + 1]? = some v) : raiseL xs p = (xs.set p (u - grp p)).set (p + 1) (v + 1) := by
  unfold raiseL
  rw [move_eq _ _ hu hv]
  congr 2
  omega
theorem lowerL_eq {xs : List Int} {p : Nat} {u v : Int} (hu : xs[p]? = some u) (hv : xs[p + 1]? = some v) : lowerL xs (p + 1) = (xs.set (p + 1) (v - 1)).set p (u + grp p) := by
  unfold lowerL
  rw [Nat.add_sub_cancel, move_eq _ _ hu hv, List.set_comm _ _ (by omega)]
  congr 1
theorem raiseL_length (xs : List Int) (p : Nat) : (raiseL xs p).length = xs.length := move_length _ _ _ _
theorem lowerL_length (xs : List Int) (p : Nat) : (lowerL xs p).length = xs.length := move_length _ _ _ _
theorem addL_length (xs : List Int) : ∀ ys, xs.length = ys.length → (addL xs ys).length = xs.length := by
  induction xs with
  | nil => intro ys _; rfl
  | cons x xs ih =>
    intro ys h
    cases ys with
    | nil => simp at h
    | cons y ys => simp [addL, ih ys (by simpa using h)]
theorem addL_get (xs : List Int) : ∀ (ys : List Int) (k : Nat) (u v : Int), xs[k]? = some u → ys[k]? = some v → (addL xs ys)[k]? = some (u + v) := by
  induction xs with
  | nil => intro ys k u v h _; simp at h
  | cons x xs ih =>
    intro ys k u v h h'
    cases ys with
    | nil => simp at h'
    | cons y ys =>
      cases k with
      | zero => simp at h h'; subst h h'; rfl
      | succ k => exact ih ys k u v (by simpa using h) (by simpa using h')
theorem addL_comm (xs : List Int) : ∀ ys, addL xs ys = addL ys xs := by
  induction xs with
  | nil => intro ys; cases ys <;> rfl
  | cons x xs ih => intro ys; cases ys with | nil => rfl | cons y ys => simp only [addL, ih ys]; rw [Int.add_comm]
theorem V_addL (xs : List Int) : ∀ ys b, xs.length = ys.length → V b (addL xs ys) = V b xs + V b ys := by
  induction xs with
  | nil => intro ys b h; cases ys with | nil => rfl | cons => simp at h
  | cons x xs ih =>
    intro ys b h
    cases ys with
    | nil => simp at h
    | cons y ys => simp only [addL, V, ih ys (!b) (by simpa using h), Int.mul_add]; omega
theorem sum_addL (xs : List Int) : ∀ ys, xs.length = ys.length → sum (addL xs ys) = sum xs + sum ys := by
  induction xs with
  | nil => intro ys h; cases ys with | nil => rfl | cons => simp at h
  | cons x xs ih =>
    intro ys h
    cases ys with
    | nil => simp at h
    | cons y ys => simp only [addL, sum, ih ys (by simpa using h)]; omega
theorem lay_next {xs ys : List Int} {k : Nat} {u v : Int} (hl : xs.length = ys.length) (hu : xs[k]? = some u) (hv : ys[k]? = some v) :
    ((addL xs ys).take k ++ xs.drop k).set k (u + v) = (addL xs ys).take (k + 1) ++ xs.drop (k + 1) := by
  have hk := (List.getElem?_eq_some_iff.1 hu).1
  have hla := addL_length xs ys hl
  rw [take_next (addL_get xs ys k u v hu hv), List.drop_eq_getElem_cons hk, List.set_append_right _ _ (by rw [List.length_take]; omega), List.length_take,
    show k - min k (addL xs ys).length = 0 from by omega, List.set_cons_zero, List.append_assoc]
  rfl
theorem lay_at {xs ys : List Int} {k : Nat} {u : Int} (hl : xs.length = ys.length) (hu : xs[k]? = some u) : ((addL xs ys).take k ++ xs.drop k)[k]? = some u := by
  have hk := (List.getElem?_eq_some_iff.1 hu).1
  have hla := addL_length xs ys hl
  rw [List.getElem?_append_right (by rw [List.length_take]; omega), List.length_take, show k - min k (addL xs ys).length = 0 from by omega, List.getElem?_drop]
  exact hu

end Go.Proofs.Ytknjnlkamhbmgaa.Bd
