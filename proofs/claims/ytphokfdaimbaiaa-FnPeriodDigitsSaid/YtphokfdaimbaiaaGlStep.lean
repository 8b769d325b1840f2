/-
  Steps of a long division: the closure that gives one step for each digit; lists of steps in memory.
-/
import Derived.Test.YtphokfdaimbaiaaNum
import Derived.Laws.NewBlocks
import Derived.OneCell
import Derived.RegionTactic
import Derived.ChangeAlike
namespace Go.Proofs.Ytphokfdaimbaiaa
open Go.RowKit

/-- a captured number -/
def Box (w : World) (g : Nat) (v : Int) : Prop := w.heap[g]? = some (.cells #[.int .i64 v] 3 (0, 0))
theorem Box.lt {w : World} {g : Nat} {v : Int} (h : Box w g v) : g < w.heap.size := (Array.getElem?_eq_some_iff.1 h).1
theorem Box.keep {w w' : World} {g : Nat} {v : Int} (h : Box w g v) (hg : w'.heap[g]? = w.heap[g]?) : Box w' g v := hg.trans h
theorem Box.grown {w w' : World} {g : Nat} {v : Int} {row : Option Nat} (h : Box w g v) (hg : w.grownBy w' row) (hr : row ≠ some g) : Box w' g v := (hg.block g h.lt (fun e => hr e.symm)).trans h
theorem Box.next {w w' : World} {g : Nat} {v : Int} (h : Box w g v) (hb : Below w.heap.size w w') : Box w' g v := (hb.block g h.lt).trans h
theorem Box.new (w : World) (v : Int) : Box (w.alloc (.cells #[.int .i64 v] 3)) w.heap.size v := heap_alloc_new w _
theorem Box.alloc {w : World} {g : Nat} {v : Int} (h : Box w g v) (o : Obj) : Box (w.alloc o) g v := (Below.heap_alloc w o g h.lt).trans h
theorem Box.drewN {w : World} {g : Nat} {v : Int} (h : Box w g v) (k : Nat) : Box (w.drewN k) g v := h
theorem Box.cell {w : World} {g : Nat} {v : Int} (h : Box w g v) : w.cell? ⟨g, 0, none⟩ = some (.int .i64 v) := cell_of_one h
theorem Box.free {w : World} {g : Nat} {v : Int} (h : Box w g v) : w.frozen? ⟨g, 0, none⟩ = false := free_of_one h
theorem Box.set {w : World} {g : Nat} {v : Int} (h : Box w g v) (u : Int) : Box (w.setCell ⟨g, 0, none⟩ (.int .i64 u)) g u ∧ w.grownBy (w.setCell ⟨g, 0, none⟩ (.int .i64 u)) (some g) := by
  refine ⟨?_, ⟨rfl, rfl, rfl, by simp [World.setCell], fun k hk hne => heap_setCell_other w _ k _ (fun e => hne (by rw [e]))⟩⟩
  have := heap_setCell_same w g 0 _ _ (.int .i64 u) h
  simpa [Box] using this

set_option maxRecDepth 100000 in
set_option maxHeartbeats 1000000 in
theorem step_any (w : World) (gr gd : Nat) (r d x : Int) (hr : Box w gr r) (hd : Box w gd d) (hne : gr ≠ gd) (r0 : 0 ≤ r) (r1 : r < d) (d1 : d ≤ 100000) (x0 : 0 ≤ x) (x9 : x ≤ 9) :
    Calls Try.prog 77 #[.int .i64 x, .pointer (some ⟨gr, 0, none⟩), .pointer (some ⟨gd, 0, none⟩)] w fun e w' =>
      e = .returned (.agg #[.int .i64 ((r * 10 + x) / d), .int .i64 ((r * 10 + x) % d)]) ∧ Box w' gr ((r * 10 + x) % d) ∧ Box w' gd d ∧ w.grownBy w' (some gr) := by
  have cr := hr.cell
  have fr := hr.free
  have cd := hd.cell
  have hlr := hr.lt
  have hld := hd.lt
  have HR := Lib.hid hr
  have HD := Lib.hid hd
  clear hr hd
  go_enter Try.func77, Try.ntmps77
  go_wp2
  have HS := Lib.hid (HR.out.set ((r * 10 + x) % d))
  have c1 := HS.out.1.cell
  have c2 : (w.setCell ⟨gr, 0, none⟩ (.int .i64 ((r * 10 + x) % d))).cell? ⟨gd, 0, none⟩ = some (.int .i64 d) := (HD.out.grown HS.out.2 (by simpa using hne)).cell
  go_region
  all_goals
    go_wp2
    refine bodyPost_ret (v := .agg #[.int .i64 ((r * 10 + x) / d), .int .i64 ((r * 10 + x) % d)]) (by simp [results, Try.results77, go_sem]) rfl ⟨rfl, ?_, ?_, ?_⟩
    · exact HS.out.1.alloc _
    · exact (HD.out.grown HS.out.2 (by simpa using hne)).alloc _
    · exact ⟨rfl, rfl, rfl, by simp [World.setCell], fun k hk hk2 => (Below.heap_alloc _ _ k (by simpa [World.setCell] using hk)).trans (HS.out.2.block k hk hk2)⟩

theorem longDivision_any (d r : Int) (w : World) :
    Calls Try.prog 62 #[.int .i64 d, .int .i64 r] w fun e w' => e = .returned (.func (.func 77) #[] #[.pointer (some ⟨w.heap.size + 1, 0, none⟩), .pointer (some ⟨w.heap.size, 0, none⟩)]) ∧
      Box w' (w.heap.size + 1) r ∧ Box w' w.heap.size d ∧ Below w.heap.size w w' := by
  have hmf : ∀ (fn : Fn) (first cap : Array Value) (w : World), (Instr.makeFunc fn first cap).run Try.prog w = .ok (.func fn first cap) w := fun _ _ _ _ => rfl
  go_enter Try.func62, Try.ntmps62
  go_wp2
  go_ret
  refine ⟨rfl, ?_, (Box.new w d).alloc _, ((Below.refl _ _).alloc (Nat.le_refl _) _).alloc (by simp) _⟩
  have := Box.new (w.alloc (.cells #[.int .i64 d] 3)) r
  simpa using this

/-- a field of a step's value -/
theorem run_field_digit (a b : Int) (w : World) : (Instr.field 40 (.agg #[.int .i64 a, .int .i64 b]) 0).run Try.prog w = .ok (.int .i64 a) w := by kernel_rfl
theorem run_field_rest (a b : Int) (w : World) : (Instr.field 40 (.agg #[.int .i64 a, .int .i64 b]) 1).run Try.prog w = .ok (.int .i64 b) w := by kernel_rfl

/-! ### lists of steps -/
def SV (l : List (Int × Int)) : List Value := l.flatMap fun s => [.int .i64 s.1, .int .i64 s.2]
theorem SV_length (l : List (Int × Int)) : (SV l).length = l.length * 2 := by
  induction l with
  | nil => rfl
  | cons s l ih => simp only [SV, List.flatMap_cons, List.length_append, List.length_cons, List.length_nil] at ih ⊢; omega
theorem SV_append (l m : List (Int × Int)) : SV (l ++ m) = SV l ++ SV m := by simp [SV]
theorem SV_get (l : List (Int × Int)) : ∀ (j : Nat) (s : Int × Int), l[j]? = some s → (SV l)[2 * j]? = some (.int .i64 s.1) ∧ (SV l)[2 * j + 1]? = some (.int .i64 s.2) := by
  induction l with
  | nil => intro j s h; simp at h
  | cons t l ih =>
    intro j s h
    have e : SV (t :: l) = .int .i64 t.1 :: .int .i64 t.2 :: SV l := rfl
    cases j with
    | zero => simp at h; subst h; rw [e]; exact ⟨rfl, rfl⟩
    | succ j =>
      have := ih j s (by simpa using h)
      rw [e, show 2 * (j + 1) = 2 * j + 1 + 1 from by omega, List.getElem?_cons_succ, List.getElem?_cons_succ, List.getElem?_cons_succ, List.getElem?_cons_succ]
      exact this
theorem SV_one (l : List (Int × Int)) : ∀ u ∈ SV l, u.oneCell' = true := by
  intro u hu
  simp only [SV, List.mem_flatMap] at hu
  obtain ⟨s, _, hu⟩ := hu
  simp at hu
  rcases hu with rfl | rfl <;> rfl
theorem step_info : (Try.prog.info? 40).map (fun i => (i.zero, i.size, i.bytes)) = some (some (.agg #[.int .i64 0, .int .i64 0]), 2, 16) := by kernel_rfl
/-- a slice of steps that reads as a list; its cells lie below block B -/
def Stps (w : World) (B : Nat) (A : Option Addr) (n : Nat) (l : List (Int × Int)) : Prop :=
  l.length = n ∧ n ≤ 1099511627776 ∧ (0 < n → ∃ b off, A = some ⟨b, off, none⟩ ∧ b < B ∧ ∀ j s, l[j]? = some s → w.cell? ⟨b, off + j * 2, none⟩ = some (.int .i64 s.1) ∧ w.cell? ⟨b, off + j * 2 + 1, none⟩ = some (.int .i64 s.2))
/-- a slice of steps of the call's own, from block B on -/
def OwnS (w : World) (B : Nat) (A : Option Addr) (n c : Nat) (l : List (Int × Int)) : Prop := w.ownsRow B 40 2 (.slice A n c) n (SV l) ∧ n ≤ 1099511627776
section
variable {w w' : World} {B B' n c : Nat} {A : Option Addr} {l : List (Int × Int)}
theorem Stps.len (h : Stps w B A n l) : l.length = n := h.1
theorem Stps.at_ {k : Nat} (h : Stps w B A n l) (hk : k < n) : ∃ b off u v, A = some ⟨b, off, none⟩ ∧ b < B ∧ l[k]? = some (u, v) ∧ w.cell? ⟨b, off + k * 2, none⟩ = some (.int .i64 u) ∧ w.cell? ⟨b, off + k * 2 + 1, none⟩ = some (.int .i64 v) := by
  obtain ⟨hl, _, hc⟩ := h
  obtain ⟨b, off, e, hb, hc⟩ := hc (by omega)
  have hg : l[k]? = some (l[k].1, l[k].2) := List.getElem?_eq_getElem (by omega)
  exact ⟨b, off, l[k].1, l[k].2, e, hb, hg, (hc k _ hg).1, (hc k _ hg).2⟩
theorem Stps.keep (h : Stps w B A n l) (hk : ∀ p : Addr, p.block < B → w'.cell? p = w.cell? p) : Stps w' B A n l :=
  ⟨h.1, h.2.1, fun hn => by
    obtain ⟨b, off, e, hb, hc⟩ := h.2.2 hn
    exact ⟨b, off, e, hb, fun j u hu => ⟨(hk _ hb).trans (hc j u hu).1, (hk _ hb).trans (hc j u hu).2⟩⟩⟩
theorem Stps.mono (h : Stps w B A n l) (hB : B ≤ B') : Stps w B' A n l :=
  ⟨h.1, h.2.1, fun hn => by
    obtain ⟨b, off, e, hb, hc⟩ := h.2.2 hn
    exact ⟨b, off, e, by omega, hc⟩⟩
theorem Stps.below (h : Stps w B A n l) (hb : Below B w w') : Stps w' B A n l := h.keep fun _ hp => hb.cell hp
theorem Stps.next (h : Stps w w.heap.size A n l) (hb : Below w.heap.size w w') : Stps w' w'.heap.size A n l := (h.below hb).mono hb.size
theorem Stps.drewN (h : Stps w B A n l) (k : Nat) : Stps (w.drewN k) B A n l := h
theorem Stps.grown (h : Stps w B A n l) {row : Option Nat} (hg : w.grownBy w' row) (hB : B ≤ w.heap.size) (hr : ∀ g, row = some g → B ≤ g) : Stps w' B A n l :=
  h.keep fun p hp => World.cell?_of_block (hg.block p.block (by omega) (fun e => by have := hr _ e.symm; omega))
theorem OwnS.len (h : OwnS w B A n c l) : l.length = n := by have := h.1.1; rw [SV_length] at this; omega
theorem OwnS.bound (h : OwnS w B A n c l) : n ≤ 1099511627776 := h.2
theorem OwnS.nil (w : World) (B : Nat) : OwnS w B none 0 0 [] := ⟨World.ownsRow_nil _ _ _ _, by omega⟩
theorem OwnS.stps (h : OwnS w B A n c l) : Stps w w.heap.size A n l := by
  refine ⟨h.len, h.2, fun hn => ?_⟩
  obtain ⟨g, cap, hv, _, hlt⟩ := h.1.form hn
  have hA : A = some ⟨g, 0, none⟩ := by injection hv
  subst hA
  refine ⟨g, 0, rfl, hlt, fun j s hs => ?_⟩
  have h1 := h.1.cells (g := g) rfl _ _ (SV_get l j s hs).1
  have h2 := h.1.cells (g := g) rfl _ _ (SV_get l j s hs).2
  rw [add_row] at h1 h2
  rw [show 0 + j * 2 = 2 * j from by omega]
  exact ⟨h1, h2⟩
theorem OwnS.at_ (h : OwnS w B A n c l) (hn : 0 < n) : ∃ g, A = some ⟨g, 0, none⟩ ∧ B ≤ g ∧ g < w.heap.size ∧ (∀ j s, l[j]? = some s → w.cell? ⟨g, j * 2, none⟩ = some (.int .i64 s.1) ∧ w.cell? ⟨g, j * 2 + 1, none⟩ = some (.int .i64 s.2)) ∧ ∀ j, w.frozen? ⟨g, j, none⟩ = false := by
  obtain ⟨g, cap, hv, _, hlt⟩ := h.1.form hn
  have hA : A = some ⟨g, 0, none⟩ := by injection hv
  subst hA
  have hlt := h.1.lt g rfl
  refine ⟨g, rfl, hlt.1, hlt.2, fun j s hs => ?_, fun j => h.1.frozenAt j⟩
  have h1 := h.1.cells (g := g) rfl _ _ (SV_get l j s hs).1
  have h2 := h.1.cells (g := g) rfl _ _ (SV_get l j s hs).2
  rw [add_row] at h1 h2
  rw [show j * 2 = 2 * j from by omega]
  exact ⟨h1, h2⟩
theorem OwnS.mono (h : OwnS w B A n c l) (hB : B' ≤ B) : OwnS w B' A n c l := by
  refine ⟨⟨h.1.1, ?_⟩, h.2⟩
  rcases h.1.2 with h0 | ⟨g, cap, cur, hv, hb, rest⟩
  · exact .inl h0
  · exact .inr ⟨g, cap, cur, hv, by omega, rest⟩
theorem OwnS.blk (h : OwnS w B A n c l) : ∀ k, (Value.slice A n c).ownBlock = some k → B ≤ k ∧ k < w.heap.size := h.1.lt
theorem OwnS.kept {row : Option Nat} (h : OwnS w B A n c l) (hg : w.grownBy w' row) (hne : ∀ k, (Value.slice A n c).ownBlock = some k → row ≠ some k) : OwnS w' B A n c l :=
  ⟨h.1.kept hg (by
    cases hv : (Value.slice A n c).ownBlock with
    | none => exact .inl rfl
    | some k => exact .inr (fun e => hne k hv e.symm)), h.2⟩
theorem OwnS.alloc (h : OwnS w B A n c l) (o : Obj) : OwnS (w.alloc o) B A n c l := ⟨h.1.alloc o, h.2⟩
theorem OwnS.drewN (h : OwnS w B A n c l) (k : Nat) : OwnS (w.drewN k) B A n c l := h
theorem OwnS.next (h : OwnS w B A n c l) (hb : Below w.heap.size w w') : OwnS w' B A n c l := by
  refine h.kept (row := none) ⟨hb.os, hb.tape, hb.output, hb.size, fun k hk _ => hb.block k hk⟩ ?_
  intro k _ e
  cases e
end
theorem litS_nil (w : World) : OwnS (w.alloc (.cells #[] 40)) w.heap.size (some ⟨w.heap.size, 0, none⟩) 0 0 [] := by
  have h := World.ownsRow_lit (base := w.heap.size) (e := 40) (size := 2) w #[] 0 (Nat.le_refl _) (by unfold maxLen; omega) (by simp)
  exact ⟨by simpa [SV] using h, by omega⟩
/-- make([]Step, 0, n) -/
theorem wpList_makeS {ops : Array Oper} {rest : List Oper} {o : Oper} {a : Act} {w : World} {Q : Exit → Act → World → Prop} (hgd : o.guard = none) (l c : Operand)
    (ho : o.op = .makeSlice 35 l c) {B n : Nat} (hl : a.eval l = .int .i64 0) (hc : a.eval c = .int .i64 (n : Int)) (hn : n ≤ 1099511627776) (hB : B ≤ w.heap.size)
    (h : ∀ w', OwnS w' B (some ⟨w.heap.size, 0, none⟩) 0 n [] → w.grownBy w' none → wpList Try.prog ops Q rest (a.put o.dst (.slice (some ⟨w.heap.size, 0, none⟩) 0 n)) w') :
    wpList Try.prog ops Q (o :: rest) a w := by
  obtain ⟨i0, hi, hz0, hz1, hz2⟩ := info_parts step_info
  refine wpList_make_own w hgd l c 35 ho B 40 i0 (.agg #[.int .i64 0, .int .i64 0]) 2 Try.underlying35 hi hz0 hz1 .i64 .i64 n n hl hc rfl (by rw [hz2]; omega) (by unfold maxLen; omega) hB ?_
  intro w' hown hg
  exact h w' ⟨hown, by omega⟩ hg
/-- append(steps, s): the new step was laid in a block of its own just before -/
theorem wpList_appS {ops : Array Oper} {rest : List Oper} {o : Oper} {a : Act} {w : World} {Q : Exit → Act → World → Prop} (hgd : o.guard = none) (s x : Operand)
    (ho : o.op = .call { callee := .builtin .append, args := #[s, x], argTypes := #[35, 35] })
    {B : Nat} {A : Option Addr} {n c : Nat} {l : List (Int × Int)} (hs : a.eval s = .slice A n c) (hown : OwnS w B A n c l) (u v : Int) (c0 : Nat)
    (hx : a.eval x = .slice (some ⟨w.heap.size, 0, none⟩) 1 c0) (cs : Array Value) (hcs : cs = #[.int .i64 u, .int .i64 v]) (hn : n + 1 ≤ 1099511627776) (hB : B ≤ w.heap.size)
    (h : ∀ A' c' w', OwnS w' B A' (n + 1) c' (l ++ [(u, v)]) → w.grownBy w' (Value.slice A n c).ownBlock → wpList Try.prog ops Q rest (a.put o.dst (.slice A' (n + 1) c')) w') :
    wpList Try.prog ops Q (o :: rest) a (w.alloc (.cells cs 40)) := by
  obtain ⟨i0, hi, hz0, hz1, hz2⟩ := info_parts step_info
  subst hcs
  refine wpList_append_own _ hgd s x 35 ho B 40 i0 (.agg #[.int .i64 0, .int .i64 0]) 2 16 Try.underlying35 hi hz0 hz1 hz2 rfl (by decide) _ n (SV l) hs (hown.1.alloc _)
    ⟨w.heap.size, 0, none⟩ 1 c0 (SV [(u, v)]) hx rfl ?_ (SV_one _) (by unfold maxLen; omega) (by omega) (by simp; omega) ?_
  · intro j x hj
    rw [add_row, cell_of_row _ w.heap.size j _ _ _ (heap_alloc_new w _)]
    simpa [SV] using hj
  · intro v' w' hown' hg _
    have hg1 : w.grownBy w' (Value.slice A n c).ownBlock := ⟨hg.os, hg.tape, hg.output, by have := hg.size; simp at this; omega, fun k hk hne => (hg.block k (by simp; omega) hne).trans (Below.heap_alloc w _ k hk)⟩
    rw [← SV_append] at hown'
    rcases hown'.2 with ⟨rfl, h0⟩ | ⟨g, cap, cur, rfl, _⟩
    · omega
    · exact h _ _ w' ⟨hown', hn⟩ hg1
theorem belowS {B : Nat} {a w w' : World} {A : Option Addr} {n c : Nat} {l : List (Int × Int)} (h : Below B a w) (hg : w.grownBy w' (Value.slice A n c).ownBlock) (ho : OwnS w B A n c l) (hB : B ≤ w.heap.size) : Below B a w' :=
  h.grown hg hB fun k hk => (ho.blk k hk).1
end Go.Proofs.Ytphokfdaimbaiaa
