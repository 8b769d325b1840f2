/-
  Words for an array of ten integers: its value, its block, and what the walk does with both.
-/
import Derived.Test.YtknjnlkamhbmgaaDefs
import Derived.Laws.Tables
import Derived.Laws.NewBlocks
namespace Go.Proofs.Ytknjnlkamhbmgaa
open Go.RowKit

/-- the cells of a list of integers -/
def AV (xs : List Int) : Array Value := (IV xs).toArray
theorem AV_size (xs : List Int) : (AV xs).size = xs.length := by simp [AV, IV]
theorem AV_get {xs : List Int} {k : Nat} {u : Int} (h : xs[k]? = some u) : (AV xs)[k]? = some (.int .i64 u) := by simp [AV, IV, h]
theorem AV_set (xs : List Int) (k : Nat) (u : Int) : (AV xs).setIfInBounds k (.int .i64 u) = AV (xs.set k u) := by
  simp [AV, IV, List.map_set]

theorem ten_info : (Try.prog.info? 43).map (·.size) = some 10 := by kernel_rfl
theorem int_info : (Try.prog.info? 3).map (fun i => (i.zero, i.size, i.bytes)) = some (some (.int .i64 0), 1, 8) := by kernel_rfl
theorem int_size : (Try.prog.info? 3).map (·.size) = some 1 := by kernel_rfl

/-- 'c[k]' of the array's value -/
theorem run_index_ten (xs : List Int) (k : Nat) (u : Int) (hl : xs.length = 10) (h : xs[k]? = some u) (w : World) :
    (Instr.index 43 (.agg (AV xs)) (.int .i64 (k : Int))).run Try.prog w = .ok (.int .i64 u) w := by
  have hk : k < 10 := by have := (List.getElem?_eq_some_iff.1 h).1; omega
  obtain ⟨i0, hi, hz0, hz1, hz2⟩ := info_parts int_info
  have hk' : 0 ≤ (k : Int) ∧ (k : Int) < ((10 : Nat) : Int) := by omega
  have hg := AV_get h
  simp [Instr.index, run_underlying Try.underlying43, asIntOf, go_sem, part, sizeOf, typeInfo, hi, hz1, hg]
  omega

/-- the array read whole -/
theorem wpList_load_ten {ops : Array Oper} {rest : List Oper} {o : Oper} {a : Act} {w : World} {Q : Exit → Act → World → Prop} (hgd : o.guard = none) (x : Operand)
    (ho : o.op = .load 43 x) (g : Nat) (hx : a.eval x = .pointer (some ⟨g, 0, none⟩)) (t : TypeId) (xs : List Int) (fr : Nat × Nat)
    (hg : w.heap[g]? = some (.cells (AV xs) t fr)) (hl : xs.length = 10)
    (h : wpList Try.prog ops Q rest (a.put o.dst (.agg (AV xs))) w) : wpList Try.prog ops Q (o :: rest) a w :=
  wpList_load_row hgd _ x ho g hx t (AV xs) fr _ hg Try.underlying43 rfl (by rw [AV_size, hl]; exact ten_info) h

theorem run_storeVar_ten (w : World) (g : Nat) (t : TypeId) (cur : Array Value) (xs : List Int) (hg : w.heap[g]? = some (.cells cur t (0, 0))) (hc : cur.size = 10) (hl : xs.length = 10) :
    (storeVar 43 ⟨g, 0, none⟩ (.agg (AV xs))).run Try.prog w = .ok () (w.setRow g (AV xs)) := by
  have h := run_storeCells_from (P := Try.prog) g t (IV xs) 0 cur w hg (by rw [IV_length]; omega) (IV_one xs)
  have e : (cur.toList.take 0 ++ IV xs).toArray = AV xs := by simp [AV]
  rw [e] at h
  have e2 : (AV xs).toList = IV xs := by simp [AV]
  simp [storeVar, Sem.run_bind, e2, h, go_sem, AV_size, hl]

/-- the array written whole into a block of ten cells -/
theorem wpList_store_ten {ops : Array Oper} {rest : List Oper} {o : Oper} {a : Act} {w : World} {Q : Exit → Act → World → Prop} (hgd : o.guard = none) (hdst : o.dst = none) (p x : Operand)
    (ho : o.op = .store 43 p x) (g : Nat) (hp : a.eval p = .pointer (some ⟨g, 0, none⟩)) (t : TypeId) (cur : Array Value) (xs : List Int)
    (hx : a.eval x = .agg (AV xs)) (hg : w.heap[g]? = some (.cells cur t (0, 0))) (hc : cur.size = 10) (hl : xs.length = 10) (w' : World) (hw : w.setRow g (AV xs) = w')
    (h : wpList Try.prog ops Q rest a w') : wpList Try.prog ops Q (o :: rest) a w := by
  subst hw
  refine wpList_plain hgd fun K hK => ?_
  unfold Oper.wp execOp
  simp only [ho, hp, hx, Instr.storeAt, Instr.sureAddr, Sem.run_bind, Sem.run_pure, Result.andThen_ok, run_storeVar_ten w g t cur xs hg hc hl]
  refine hK _ _ ?_
  rw [hdst]
  exact h

theorem fitB_iff (xs : List Int) : fitB xs = true ↔ ∀ x ∈ xs, 0 ≤ x ∧ x ≤ 20 := by simp [fitB]
theorem fitB_no {xs : List Int} {k : Nat} {u : Int} (h : xs[k]? = some u) (hu : u < 0 ∨ 20 < u) : fitB xs = false := by
  cases hb : fitB xs with
  | false => rfl
  | true => have := (fitB_iff xs).1 hb u (List.mem_of_getElem? h); omega
theorem fitB_take {xs : List Int} {n : Nat} (hl : xs.length = n) (h : ∀ x ∈ xs.take n, 0 ≤ x ∧ x ≤ 20) : fitB xs = true := by
  rw [List.take_of_length_le (by omega)] at h
  exact (fitB_iff xs).2 h

set_option maxHeartbeats 400000 in
theorem fits_any (xs : List Int) (hl : xs.length = 10) (w : World) :
    Calls Try.prog 75 #[.agg (AV xs)] w fun e w' => e = .returned (.bool (fitB xs)) ∧ w.alloc (.cells (AV xs) 43) = w' := by
  have HL := Lib.hid hl
  have idx := fun (k : Nat) (u : Int) (h : xs[k]? = some u) => run_index_ten xs k u hl h
  have IDX := Lib.hid idx
  clear idx
  go_enter Try.func75, Try.ntmps75
  go_wp2_with (refine wpList_load_ten rfl _ rfl _ rfl _ xs _ (heap_alloc_new w _) hl ?_)
  go_loop [4, 6] (fun v i => ∃ k : Nat, k ≤ 10 ∧ i = .int .i64 k ∧ ∀ x ∈ xs.take k, 0 ≤ x ∧ x ≤ 20) (fun _ i => 10 - (intOf i).toNat)
  case atStart => exact ⟨0, by omega, rfl, by simp⟩
  case round =>
    obtain ⟨k, hk, rfl, hin⟩ := hrel
    have HIN := Lib.hid hin
    clear hin
    by_cases hlt : k < 10
    · obtain ⟨u, hu⟩ : ∃ u, xs[k]? = some u := ⟨xs[k]'(by have := HL.out; omega), List.getElem?_eq_getElem (by have := HL.out; omega)⟩
      have HU := Lib.hid hu
      have hi := IDX.out k u hu
      clear hu
      by_cases h1 : u < 0
      · go_wp2
        go_ret
        exact ⟨ret_bool (fitB_no HU.out (.inl h1)).symm, rfl⟩
      · by_cases h2 : 20 < u
        · go_wp2
          go_ret
          exact ⟨ret_bool (fitB_no HU.out (.inr h2)).symm, rfl⟩
        · go_wp2
          go_round
          case rel => exact ⟨k + 1, by omega, by go_num, by rw [take_next HU.out]; intro x hx; rcases List.mem_append.1 hx with h | h; exact HIN.out x h; simp at h; omega⟩
          case measure => simp [intOf]; omega
    · go_wp2
      go_ret
      obtain rfl : k = 10 := by omega
      exact ⟨ret_bool (fitB_take HL.out HIN.out).symm, rfl⟩
end Go.Proofs.Ytknjnlkamhbmgaa
