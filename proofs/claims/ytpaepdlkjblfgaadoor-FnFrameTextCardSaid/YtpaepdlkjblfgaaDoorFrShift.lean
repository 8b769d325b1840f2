/-
  A frame is shifted; the frame of a value.
-/
import Derived.Test.YtpaepdlkjblfgaaDoorFrFns2
import Derived.Deep.RegionLaw
import Derived.Laws.CopyOwn
namespace Go.Proofs.YtpaepdlkjblfgaaDoor
open Go.RowKit

/-- the digits on the next rod -/
def shiftL (ds : List Int) : List Int := 0 :: ds.take (ds.length - 1)
def okS (ds : List Int) : Bool := decide (ds.getD (ds.length - 1) 0 = 0)
theorem shiftL_length {ds : List Int} (h : 1 ≤ ds.length) : (shiftL ds).length = ds.length := by simp [shiftL]; omega
theorem digs_shift {ds : List Int} (h : Fr.Digs ds) : Fr.Digs (shiftL ds) := by
  intro d hd
  rcases List.mem_cons.1 hd with rfl | hd
  · omega
  · exact h d (List.mem_of_mem_take hd)

theorem RC_append (l r : List Int) : RC (l ++ r) = RC l ++ RC r := by
  induction l with
  | nil => rfl
  | cons a l ih => simp [RC, ih]
theorem RC_one (l : List Int) : ∀ v ∈ RC l, v.oneCell' = true := by
  induction l with
  | nil => intro v h; simp [RC] at h
  | cons a l ih =>
    intro v h
    simp only [RC, List.mem_cons] at h
    rcases h with rfl | rfl | h
    · rfl
    · rfl
    · exact ih v h
theorem grown_setRow (w : World) (g : Nat) (cs : Array Value) : w.grownBy (w.setRow g cs) (some g) :=
  ⟨rfl, rfl, rfl, by simp [World.setRow], fun k _ hne => setRow_other w g k cs (fun e => hne (by rw [e]))⟩
/-- copy(rods[1:], others) as one step of a region -/
theorem step_copy_rods {ops : Array Oper} {o : Oper} {a : Act} {w : World} {K : Act → World → Prop} {Q : Exit → Act → World → Prop} {E : Prop} (hgd : o.guard = none) (d s : Operand)
    (ho : o.op = .call { callee := .builtin .copy, args := #[d, s], argTypes := #[38, 38] })
    {g h m c c' : Nat} {ds : List Int} (hd : a.eval d = .slice (some ⟨g, 2, none⟩) m c) (hs : a.eval s = .slice (some ⟨h, 0, none⟩) (m + 1) c')
    (hg : w.heap[g]? = some (.cells (RC (List.replicate (m + 1) 0)).toArray 41 (0, 0))) (hh : w.heap[h]? = some (.cells (RC ds).toArray 41 (0, 0))) (hl : ds.length = m + 1)
    (hK : ∀ w', w'.heap[g]? = some (.cells (RC (shiftL ds)).toArray 41 (0, 0)) → w.grownBy w' (some g) → K (a.put o.dst (goInt m)) w') :
    if Region.wanted o (yielded ops a.tmps) = true then Oper.wp Tryd.prog o a w K Q else E := by
  rw [if_pos (by simp [Region.wanted, hgd])]
  obtain ⟨i0, hi, hz0, hz1, hz2⟩ := info_parts rod_info
  have e1 : RC ds = RC (ds.take m) ++ RC (ds.drop m) := by rw [← RC_append, List.take_append_drop]
  have el : (RC (ds.take m)).length = m * 2 := by rw [RC_length, List.length_take]; omega
  have hload := run_loadCells_list (P := Tryd.prog) (w := w) ⟨h, 0, none⟩ (RC (ds.take m)) (by
    intro j v hj
    rw [add_row, cell_of_row _ h j _ _ _ hh]
    simp only [List.getElem?_toArray]
    rw [e1, List.getElem?_append_left (List.getElem?_eq_some_iff.1 hj).1]; exact hj)
  have hst := run_storeCells_at Tryd.prog g 2 41 (RC (ds.take m)) 0 _ w hg (by simp [el, RC_length]; omega) (RC_one _)
  have hmin : Nat.min (m + 1) m = m := by simp
  have hrun : (Builtin.copy_ #[38, 38] o.type #[.slice (some ⟨g, 2, none⟩) m c, .slice (some ⟨h, 0, none⟩) (m + 1) c']).run Tryd.prog w = .ok (goInt m) (w.setRow g (RC (shiftL ds)).toArray) := by
    rw [el] at hload
    have e2 : (RC (List.replicate (m + 1) 0)).toArray.toList.take (2 + 0) ++ RC (ds.take m) ++ (RC (List.replicate (m + 1) 0)).toArray.toList.drop (2 + 0 + (RC (ds.take m)).length) = RC (shiftL ds) := by
      rw [List.drop_of_length_le (by simp [RC_length, el]; omega), List.append_nil, List.replicate_succ, shiftL, hl]
      simp [RC]
    rw [e2] at hst
    simp [Builtin.copy_, run_underlying Tryd.underlying38, Builtin.lenOf, Builtin.firstCells, sizeOf, typeInfo, hi, hz1, hmin, hload, hst]
  unfold Oper.wp
  simp [execOp, ho, resolve, invoke, builtin, hd, hs, hrun, Result.andThen]
  exact hK _ (setRow_heap w g _ _ _ _ hg) (grown_setRow w g _)
/-- copy of nothing -/
theorem step_copy_none {ops : Array Oper} {o : Oper} {a : Act} {w : World} {K : Act → World → Prop} {Q : Exit → Act → World → Prop} {E : Prop} (hgd : o.guard = none) (d s : Operand)
    (ho : o.op = .call { callee := .builtin .copy, args := #[d, s], argTypes := #[38, 38] })
    {h n c c' : Nat} {p : Addr} (hd : a.eval d = .slice (some p) 0 c) (hs : a.eval s = .slice (some ⟨h, 0, none⟩) n c')
    (hK : K (a.put o.dst (goInt (0 : Nat))) w) :
    if Region.wanted o (yielded ops a.tmps) = true then Oper.wp Tryd.prog o a w K Q else E := by
  rw [if_pos (by simp [Region.wanted, hgd])]
  obtain ⟨i0, hi, hz0, hz1, hz2⟩ := info_parts rod_info
  have hrun : (Builtin.copy_ #[38, 38] o.type #[.slice (some p) 0 c, .slice (some ⟨h, 0, none⟩) n c']).run Tryd.prog w = .ok (goInt (0 : Nat)) w := by
    simp [Builtin.copy_, run_underlying Tryd.underlying38, Builtin.lenOf, Builtin.firstCells, sizeOf, typeInfo, hi, loadCells, loadCellsFrom, storeCells]
  unfold Oper.wp
  simp [execOp, ho, resolve, invoke, builtin, hd, hs, hrun, Result.andThen]
  exact hK

/-- the digits of a value -/
def quoK (v : Int) : Nat → Int
  | 0 => v
  | k + 1 => quoK v k / 10
def digitsOf (n : Nat) (v : Int) : List Int := (List.range n).map fun k => quoK v k % 10
theorem digitsOf_length (n : Nat) (v : Int) : (digitsOf n v).length = n := by simp [digitsOf]
theorem digitsOf_get {n k : Nat} (v : Int) (h : k < n) : (digitsOf n v)[k]? = some (quoK v k % 10) := by simp [digitsOf, h]
theorem digs_digitsOf (n : Nat) (v : Int) : Fr.Digs (digitsOf n v) := by
  intro d hd
  simp only [digitsOf, List.mem_map] at hd
  obtain ⟨k, _, rfl⟩ := hd
  exact ⟨Int.emod_nonneg _ (by omega), by have := Int.emod_lt_of_pos (quoK v k) (b := 10) (by omega); omega⟩
theorem quoK_in {v : Int} (h : 0 ≤ v) (k : Nat) : 0 ≤ quoK v k ∧ quoK v k ≤ v := by
  induction k with
  | zero => exact ⟨h, Int.le_refl _⟩
  | succ k ih => simp only [quoK]; omega
theorem quoK_div (v : Int) (k : Nat) : quoK (v / 10) k = quoK v (k + 1) := by
  induction k with
  | zero => rfl
  | succ k ih => rw [quoK, ih]; rfl
theorem digitsOf_succ (n : Nat) (v : Int) : digitsOf (n + 1) v = (v % 10) :: digitsOf n (v / 10) := by
  unfold digitsOf
  rw [List.range_succ_eq_map, List.map_cons, List.map_map]
  congr 1
  apply List.map_congr_left
  intro k _
  show quoK v (k + 1) % 10 = quoK (v / 10) k % 10
  rw [quoK_div]
theorem val_digitsOf (n : Nat) : ∀ v, 0 ≤ v → v < Fr.ten n → Fr.val (digitsOf n v) = v := by
  induction n with
  | zero => intro v h0 h1; have : Fr.ten 0 = 1 := rfl; simp [digitsOf, Fr.val]; omega
  | succ n ih =>
    intro v h0 h1
    rw [Fr.ten_succ] at h1
    rw [digitsOf_succ, Fr.val, ih (v / 10) (by omega) (by omega)]
    omega
def okOf (n v : Int) : Bool := decide (1 ≤ n) && decide (n ≤ 6) && (decide (0 ≤ v) && decide (v < Fr.ten n.toNat))

end Go.Proofs.YtpaepdlkjblfgaaDoor
