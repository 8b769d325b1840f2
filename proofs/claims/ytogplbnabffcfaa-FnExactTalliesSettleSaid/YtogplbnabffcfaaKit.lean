/-
  Small words that the laws' walks lean on: tests of a range, literals and rows of the call's own over picks, worlds that only drew.
-/
import Derived.Test.YtogplbnabffcfaaOwn
import Derived.Test.YtogplbnabffcfaaDraw
import Derived.ArgAppend
namespace Go.Proofs.Ytogplbnabffcfaa
open Go.RowKit

theorem l6In_yes {n a b : Int} (h1 : a ≤ n) (h2 : n ≤ b) (w : World) : Calls Try.prog 53 #[.int .i64 n, .int .i64 a, .int .i64 b] w fun e w' => e = .returned (.bool true) ∧ w = w' :=
  (l6In_any n a b w).mono fun _ _ h => ⟨by rw [h.1]; simp [h1, h2], h.2⟩
theorem l6In_no {n a b : Int} (h : n < a ∨ b < n) (w : World) : Calls Try.prog 53 #[.int .i64 n, .int .i64 a, .int .i64 b] w fun e w' => e = .returned (.bool false) ∧ w = w' :=
  (l6In_any n a b w).mono fun _ _ h' => ⟨by rw [h'.1]; rcases h with h | h <;> simp <;> omega, h'.2⟩
theorem l6In_is {n a b : Int} {r : Bool} (h : (decide (a ≤ n) && decide (n ≤ b)) = r) (w : World) : Calls Try.prog 53 #[.int .i64 n, .int .i64 a, .int .i64 b] w fun e w' => e = .returned (.bool r) ∧ w = w' := by
  rw [← h]; exact l6In_any n a b w
theorem sq_in {a m : Int} (h0 : 0 ≤ a) (h1 : a ≤ m) : 0 ≤ a * a ∧ a * a ≤ m * m := ⟨Int.mul_nonneg h0 h0, Int.mul_le_mul h1 h1 h0 (by omega)⟩
theorem mul_in {a b m k : Int} (h0 : 0 ≤ a) (h1 : a ≤ m) (h2 : 0 ≤ b) (h3 : b ≤ k) : 0 ≤ a * b ∧ a * b ≤ m * k := ⟨Int.mul_nonneg h0 h2, Int.mul_le_mul h1 h3 h2 (by omega)⟩
theorem lit_nil (w : World) : Own (w.alloc (.cells #[] 3)) w.heap.size (some ⟨w.heap.size, 0, none⟩) 0 0 [] := own_lit w [] w.heap.size 0 rfl (by omega) (Nat.le_refl _)
theorem own_cap {w : World} {B n c : Nat} {A : Option Addr} {xs : List Int} (h : Own w B A n c xs) : n ≤ c := by
  rcases h.1.2 with ⟨h0, rfl⟩ | ⟨g, cap, cur, hv, hb, hg, hr⟩
  · omega
  · injection hv with _ _ e3
    subst e3
    exact hr.1
theorem grown_of_below {w w' : World} (h : Below w.heap.size w w') (row : Option Nat) : w.grownBy w' row := ⟨h.os, h.tape, h.output, h.size, fun k hk _ => h.block k hk⟩
theorem _root_.Go.World.grownBy.then_ {a b c : World} {row row' : Option Nat} (h : a.grownBy b row) (k : b.grownBy c row') (hr : ∀ j, row' = some j → a.heap.size ≤ j ∨ row = some j) : a.grownBy c row :=
  ⟨k.os.trans h.os, k.tape.trans h.tape, k.output.trans h.output, Nat.le_trans h.size k.size, fun i hi hne =>
    (k.block i (Nat.lt_of_lt_of_le hi h.size) (fun e => by
      rcases hr i e.symm with h1 | h1
      · omega
      · exact hne h1.symm)).trans (h.block i hi hne)⟩
theorem own_pick {w w' w0 : World} {g n c : Nat} {A : Option Addr} {xs : List Int} (h : Own w w0.heap.size A n c xs) (hg : w.grownBy w' (some g)) (hlt : g < w0.heap.size) : Own w' w0.heap.size A n c xs :=
  h.kept hg fun k hk e => by have := (h.blk k hk).1; injection e; omega
theorem base_in {w w' : World} {B g : Nat} (hg : w.grownBy w' (some g)) (hB : B ≤ g) (hlt : B ≤ w.heap.size) : Below B w w' := grown_below hg hlt (by rintro k ⟨⟩; exact hB)
theorem ints_same {w v : World} {n q : Nat} {A : Option Addr} {xs : List Int} (h : Ints w w.heap.size A n xs) (hv : v = w.drewN q) : Ints v v.heap.size A n xs := by
  subst hv; exact h.drewN q
theorem below_same {B q : Nat} {a w v : World} (h : Below B a w) (hv : v = w.drewN q) : Below B a v := by
  subst hv; exact below_drewN h q
/-- a literal that was laid just before a pick: what the pick's index finds there -/
theorem lit_after {w w' : World} {us : List Int} {g n : Nat} {v : Int} (hg : (w.alloc (.cells (IV us).toArray 3)).grownBy w' (some g)) (hlt : g < w.heap.size) (hn : us.length = n) (hn2 : n ≤ 1000) (h0 : 0 ≤ v) (h1 : v < n) :
    ∃ (j : Nat) (u : Int), v = (j : Int) ∧ j < n ∧ u ∈ us ∧ w'.cell? ⟨w.heap.size, j, none⟩ = some (.int .i64 u) := by
  obtain ⟨j, rfl⟩ := Int.eq_ofNat_of_zero_le h0
  have hj : j < us.length := by omega
  have hl := own_pick (own_lit w us w.heap.size n hn (by omega) (Nat.le_refl _)) hg hlt
  obtain ⟨g7, e7, _, _, hc7, _⟩ := hl.at_ (by omega)
  obtain rfl : w.heap.size = g7 := by simpa using e7
  exact ⟨j, us[j], rfl, by omega, List.getElem_mem _, hc7 j _ (List.getElem?_eq_getElem hj)⟩

/-- a row of the call's own from block B0 on: from block B on, or without room -/
def EOwn (w : World) (B0 B : Nat) (A : Option Addr) (n c : Nat) (xs : List Int) : Prop := Own w B0 A n c xs ∧ ((n = 0 ∧ c = 0 ∧ xs = []) ∨ Own w B A n c xs)
section
variable {w w' : World} {B0 B n c : Nat} {A : Option Addr} {xs : List Int}
theorem EOwn.own (h : EOwn w B0 B A n c xs) : Own w B0 A n c xs := h.1
theorem EOwn.len (h : EOwn w B0 B A n c xs) : xs.length = n := h.1.len
theorem EOwn.ints (h : EOwn w B0 B A n c xs) : Ints w w.heap.size A n xs := h.1.ints
theorem EOwn.of_nil (h : Own w B0 A 0 0 []) (B : Nat) : EOwn w B0 B A 0 0 [] := ⟨h, .inl ⟨rfl, rfl, rfl⟩⟩
theorem EOwn.of_own (h : Own w B A n c xs) (hB : B0 ≤ B) : EOwn w B0 B A n c xs := ⟨h.mono hB, .inr h⟩
theorem EOwn.next (h : EOwn w B0 B A n c xs) (hb : Below w.heap.size w w') : EOwn w' B0 B A n c xs := ⟨h.1.next hb, h.2.imp id fun h => h.next hb⟩
theorem EOwn.alloc (h : EOwn w B0 B A n c xs) (o : Obj) : EOwn (w.alloc o) B0 B A n c xs := ⟨h.1.alloc o, h.2.imp id fun h => h.alloc o⟩
theorem EOwn.drewN (h : EOwn w B0 B A n c xs) (k : Nat) : EOwn (w.drewN k) B0 B A n c xs := h
end
/-- append(out, u, ..) on such a row: what lies below B stays as it was -/
theorem wpList_app0 {ops : Array Oper} {rest : List Oper} {o : Oper} {a : Act} {w : World} {Q : Exit → Act → World → Prop} (hgd : o.guard = none) (s x : Operand)
    (ho : o.op = .call { callee := .builtin .append, args := #[s, x], argTypes := #[29, 29] })
    {B0 B : Nat} {A : Option Addr} {n c : Nat} {xs : List Int} (hs : a.eval s = .slice A n c) (hown : EOwn w B0 B A n c xs) (us : List Int) (m : Nat) (hm : us.length = m) (hm0 : 0 < m) (c0 : Nat)
    (hx : a.eval x = .slice (some ⟨w.heap.size, 0, none⟩) m c0) (cs : Array Value) (hcs : cs = (IV us).toArray) (hn : n + m ≤ 1099511627776) (hB0 : B0 ≤ B) (hB : B ≤ w.heap.size)
    (h : ∀ A' c' w' row, EOwn w' B0 B A' (n + m) c' (xs ++ us) → w.grownBy w' row → (∀ k, row = some k → B ≤ k) → wpList Try.prog ops Q rest (a.put o.dst (.slice A' (n + m) c')) w') :
    wpList Try.prog ops Q (o :: rest) a (w.alloc (.cells cs 3)) := by
  rcases hown.2 with ⟨h1, h2, h3⟩ | hw
  · subst h1; subst h2; subst h3
    obtain ⟨i0, hi, hz0, hz1, hz2⟩ := info_parts own_int_info
    subst hcs
    subst hm
    have hg0 : Ints (w.alloc (.cells (IV us).toArray 3)) (w.heap.size + 1) (some ⟨w.heap.size, 0, none⟩) us.length us := by
      have := (own_lit w us w.heap.size us.length rfl (by omega) (Nat.le_refl _)).ints
      simpa using this
    refine wpList_append_grows _ hgd s x 29 ho 3 i0 (.int .i64 0) 1 8 Try.underlying29 hi hz0 hz1 hz2 rfl (by decide) A 0 0 [] hs (fun _ => ⟨rfl, rfl⟩) (by simp) (fun b _ j u hj => by simp at hj)
      ⟨w.heap.size, 0, none⟩ us.length c0 (IV us) hx (by simp [IV]) ?_ (IV_one us) (by omega) (by unfold maxLen; omega) (by omega) ?_
    · intro j u hj
      rw [add_row, cell_of_row _ w.heap.size j _ _ _ (heap_alloc_new w _)]
      simpa using hj
    · intro v' w' hown' hg
      obtain ⟨A', c', rfl, h'⟩ := Own.of_app (xs := []) us rfl hown' hn
      simp only [World.size_alloc] at h'
      have hg1 : w.grownBy w' none := ⟨hg.os, hg.tape, hg.output, by have := hg.size; simp at this; omega, fun k hk hne => (hg.block k (by simp; omega) hne).trans (Below.heap_alloc w _ k hk)⟩
      exact h A' c' w' none (EOwn.of_own (h'.mono (by omega)) hB0) hg1 (fun k hk => by cases hk)
  · exact wpList_app hgd s x ho hs hw us m hm c0 hx cs hcs hn hB fun A' c' w' h1 h2 => h A' c' w' _ (EOwn.of_own h1 hB0) h2 fun k hk => (hw.blk k hk).1
/-- append(out, u, ..) behind a new block: the block of the new elements by its number -/
theorem wpList_app_at {ops : Array Oper} {rest : List Oper} {o : Oper} {a : Act} {w : World} {Q : Exit → Act → World → Prop} (hgd : o.guard = none) (s x : Operand)
    (ho : o.op = .call { callee := .builtin .append, args := #[s, x], argTypes := #[29, 29] })
    {B : Nat} {A : Option Addr} {n c : Nat} {xs : List Int} (hs : a.eval s = .slice A n c) (hown : Own w B A n c xs) (us : List Int) (m : Nat) (hm : us.length = m) (c0 nb : Nat)
    (hx : a.eval x = .slice (some ⟨nb, 0, none⟩) m c0) (hnb : nb = w.heap.size) (cs : Array Value) (hcs : cs = (IV us).toArray) (hn : n + m ≤ 1099511627776) (hB : B ≤ w.heap.size)
    (h : ∀ A' c' w', Own w' B A' (n + m) c' (xs ++ us) → w.grownBy w' (Value.slice A n c).ownBlock → wpList Try.prog ops Q rest (a.put o.dst (.slice A' (n + m) c')) w') :
    wpList Try.prog ops Q (o :: rest) a (w.alloc (.cells cs 3)) := by
  subst hnb
  exact wpList_app hgd s x ho hs hown us m hm c0 hx cs hcs hn hB h
theorem below_row {B0 B : Nat} {a w w' : World} {row : Option Nat} (h : Below B0 a w) (hg : w.grownBy w' row) (hr : ∀ k, row = some k → B ≤ k) (hB0 : B0 ≤ B) (hB : B ≤ w.heap.size) : Below B0 a w' :=
  h.grown hg (by omega) fun k hk => by have := hr k hk; omega

/-- a list and whether there is one -/
def PairPost (w : World) (ok : Bool) (xs : List Int) (e : Ending) (w' : World) : Prop :=
  (∃ A n c, e = .returned (.tuple #[.slice A n c, .bool ok]) ∧ Own w' w.heap.size A n c (if ok then xs else [])) ∧ Below w.heap.size w w'
theorem Ints.take {w : World} {B n : Nat} {A : Option Addr} {xs : List Int} (h : Ints w B A n xs) {k : Nat} (hk : k ≤ n) : Ints w B A k (xs.take k) := by
  refine ⟨by rw [List.length_take]; have := h.1; omega, by have := h.2.1; omega, fun h0 => ?_⟩
  obtain ⟨b, off, e, hb, hc⟩ := h.2.2 (by omega)
  refine ⟨b, off, e, hb, fun j u hu => hc j u ?_⟩
  rw [List.getElem?_take] at hu
  split at hu
  · exact hu
  · cases hu
theorem quiet_left {P : Program} {f : FuncId} {args : Array Value} {w : World} {n : Nat} {v : Value}
    (h : Calls P f args (w.drewN n) fun e w' => e = .returned v ∧ w.drewN n = w') : Calls P f args (w.drewN n) fun e w'' => e = .returned v ∧ ∃ m, w'' = w.drewN m :=
  h.mono fun _ _ ⟨he, hm⟩ => ⟨he, n, hm.symm⟩

theorem grown_drew {a w : World} {row : Option Nat} (h : a.grownBy w row) : a.grownBy w.drew row := ⟨h.os, h.tape, h.output, h.size, h.block⟩
theorem grown_undrew {a w : World} {row : Option Nat} (h : a.drew.grownBy w row) : a.grownBy w row := ⟨h.os, h.tape, h.output, h.size, h.block⟩
/-- a literal that is laid just behind a pick: what the pick's index finds there -/
theorem lit_here {w : World} {us : List Int} {n : Nat} {v : Int} (hn : us.length = n) (hn2 : n ≤ 1000) (h0 : 0 ≤ v) (h1 : v < n) :
    ∃ (j : Nat) (u : Int), v = (j : Int) ∧ j < n ∧ u ∈ us ∧ (w.alloc (.cells (IV us).toArray 3)).cell? ⟨w.heap.size, j, none⟩ = some (.int .i64 u) := by
  obtain ⟨j, rfl⟩ := Int.eq_ofNat_of_zero_le h0
  have hj : j < us.length := by omega
  have hl := own_lit w us w.heap.size n hn (by omega) (Nat.le_refl _)
  obtain ⟨g7, e7, _, _, hc7, _⟩ := hl.at_ (by omega)
  obtain rfl : w.heap.size = g7 := by simpa using e7
  exact ⟨j, us[j], rfl, by omega, List.getElem_mem _, hc7 j _ (List.getElem?_eq_getElem hj)⟩

/-- a drawn number: the reader's picks alone have turned -/
def DInt (lo hi : Int) (w : World) (B g p : Nat) (e : Ending) (w' : World) : Prop :=
  ∃ v q, e = .returned (.int .i64 v) ∧ lo ≤ v ∧ v ≤ hi ∧ Rd w' B g q ∧ q ≤ p + 40 ∧ w.grownBy w' (some g)
/-- a drawn list -/
def DInts (N : Nat) (w : World) (B g p : Nat) (e : Ending) (w' : World) : Prop :=
  ∃ A n c xs q, e = .returned (.slice A n c) ∧ (∀ v, w'.grownBy v (some g) → Ints v v.heap.size A n xs) ∧ n ≤ N ∧ Rd w' B g q ∧ q ≤ p + 40 ∧ w.grownBy w' (some g)
/-- a law's draw of a number, of a list, of more -/
def DrewI (lo hi : Int) (w : World) (e : Ending) (w' : World) : Prop := ∃ v, e = .returned (.int .i64 v) ∧ lo ≤ v ∧ v ≤ hi ∧ Below w.heap.size w w'
def DrewL (N : Nat) (w : World) (e : Ending) (w' : World) : Prop := ∃ A n c xs, e = .returned (.slice A n c) ∧ Ints w' w'.heap.size A n xs ∧ n ≤ N ∧ Below w.heap.size w w'
def DrewLI (N : Nat) (lo hi : Int) (w : World) (e : Ending) (w' : World) : Prop :=
  ∃ A n c xs v, e = .returned (.tuple #[.slice A n c, .int .i64 v]) ∧ Ints w' w'.heap.size A n xs ∧ n ≤ N ∧ lo ≤ v ∧ v ≤ hi ∧ Below w.heap.size w w'
def DrewLII (N : Nat) (lo hi : Int) (w : World) (e : Ending) (w' : World) : Prop :=
  ∃ A n c xs v u, e = .returned (.tuple #[.slice A n c, .int .i64 v, .int .i64 u]) ∧ Ints w' w'.heap.size A n xs ∧ n ≤ N ∧ lo ≤ v ∧ v ≤ hi ∧ lo ≤ u ∧ u ≤ hi ∧ Below w.heap.size w w'
def DrewLL (N : Nat) (w : World) (e : Ending) (w' : World) : Prop :=
  ∃ A n c xs A2 n2 c2 ys, e = .returned (.tuple #[.slice A n c, .slice A2 n2 c2]) ∧ Ints w' w'.heap.size A n xs ∧ Ints w' w'.heap.size A2 n2 ys ∧ n ≤ N ∧ n2 ≤ N ∧ Below w.heap.size w w'
end Go.Proofs.Ytogplbnabffcfaa
