/-
  Joined texts.
-/
import Derived.Deep.RegionHeld3
import Derived.ProofKit
import Derived.WalkKit
import Derived.WalkKit
import Derived.Deep.AppendLies
import Derived.Deep.Draws
import Derived.Maps.AppendAt
import Derived.RegionTactic
import Derived.OwnWalk
import Derived.Laws.Rows
import Derived.Laws.CopyOwn
import Derived.Lib.Hide
import Derived.Test.YthdoofmfigemoaaGreatDoorChecked
import Derived.Deep.QuietTactic
import Derived.BigQuiet
import Derived.Handy
import Derived.WalkLawsBesides
import Derived.Laws.Concat
import Derived.Laws.IdiomStrings
import Derived.Test.YthdoofmfigemoaaGreatDoorSShelf
import Derived.Deep.RegionHeld3
import Derived.Laws.StructEq
set_option linter.unusedSimpArgs false
set_option linter.unusedVariables false
set_option maxRecDepth 100000
set_option maxHeartbeats 4000000
namespace Go.Proofs.YthdoofmfigemoaaGreatDoor
open Go.RowKit
/-- what the printed regions say often, in short words -/
theorem Hd {p : Prop} (h : p) : Hid p := Lib.hid h
theorem Tk (i : Nat) {P : Program} {ops : Array Oper} {Q : Exit → Act → World → Prop} {md : Region.Mode} {S : World → Prop} (d : Option Tmp) {op : Op} {ty : TypeId} {ps : String} {es : Array Edge} {gd : Option (Nat × Bool)} {v : Value} {fuel : Nat} {listed : Array Bool} {a : Act} {w : World}
    (h1 : ops[i]? = some ⟨d, op, ty, ps, es, gd⟩) (hy : YieldsIf P ops S ⟨d, op, ty, ps, es, gd⟩ v a) (hs : S w) (hr : wpAnyH P md ops Q S fuel (listed.setIfInBounds i true) (a.put d v) w)
    (h2 : Region.noSelect ops = true := by kernel_rfl) (h3 : Region.free md ops listed i = true := by kernel_rfl) (h4 : (Region.ready md ops listed).contains i = true := by kernel_rfl)
    (h5 : ∀ (c : List PanicEntry) (a : Act) (w : World), Q (Exit.panic c) (a.put d v) w → Q (Exit.panic c) a w := by exact fun _ _ _ h => h) : wpAnyH P md ops Q S (fuel + 1) listed a w :=
  wpAnyH_take h1 h2 h3 h4 h5 hy hs hr
theorem Tp0 (a : Act) (d : Tmp) (v : Value) : a.put (some d) v = { tmps := a.tmps.setIfInBounds d v, defers := a.defers } := rfl
theorem Tp1 (a : Act) (v : Value) : a.put none v = a := rfl
theorem Tp2 (l : List Value) (i : Nat) (v : Value) : l.toArray.setIfInBounds i v = (l.set i v).toArray := List.setIfInBounds_toArray l i v
theorem Tp3 (a b : Value) (l : List Value) : (a :: l).set 0 b = b :: l := List.set_cons_zero
theorem Tp4 (a b : Value) (l : List Value) (n : Nat) : (a :: l).set (n + 1) b = a :: l.set n b := List.set_cons_succ
end Go.Proofs.YthdoofmfigemoaaGreatDoor
section
namespace Go.Proofs.YthdoofmfigemoaaGreatDoor
open Go.RowKit
theorem ret_int {k : IntKind} {a b : Int} (h : a = b) : Ending.returned (.int k a) = .returned (.int k b) := by rw [h]
theorem ret_bool {a b : Bool} (h : a = b) : Ending.returned (.bool a) = .returned (.bool b) := by rw [h]
def IV (xs : List Int) : List Value := xs.map (Value.int .i64)
theorem IV_length (xs : List Int) : (IV xs).length = xs.length := by simp [IV]
theorem IV_append (xs ys : List Int) : IV (xs ++ ys) = IV xs ++ IV ys := by simp [IV]
theorem IV_get {xs : List Int} {j : Nat} {u : Int} (h : xs[j]? = some u) : (IV xs)[j]? = some (.int .i64 u) := by simp [IV, h]
theorem IV_set (xs : List Int) (j : Nat) (u : Int) : (IV xs).set j (.int .i64 u) = IV (xs.set j u) := by simp [IV, List.map_set]
theorem IV_one (xs : List Int) : ∀ u ∈ IV xs, u.oneCell' = true := ints_oneCell .i64 xs
def Ints (w : World) (B : Nat) (A : Option Addr) (n : Nat) (xs : List Int) : Prop :=
 xs.length = n ∧ n ≤ 1099511627776 ∧ (0 < n → ∃ b off, A = some ⟨b, off, none⟩ ∧ b < B ∧ ∀ j u, xs[j]? = some u → w.cell? ⟨b, off + j, none⟩ = some (.int .i64 u))
def Own (w : World) (B : Nat) (A : Option Addr) (n c : Nat) (xs : List Int) : Prop :=
 w.ownsRow B 3 1 (.slice A n c) n (IV xs) ∧ n ≤ 1099511627776
section
variable {w w' : World} {B B' n c : Nat} {A : Option Addr} {xs : List Int}
theorem Ints.len (h : Ints w B A n xs) : xs.length = n := h.1
theorem Ints.bound (h : Ints w B A n xs) : n ≤ 1099511627776 := h.2.1
theorem Ints.at_ {k : Nat} (h : Ints w B A n xs) (hk : k < n) : ∃ b off u, A = some ⟨b, off, none⟩ ∧ b < B ∧ xs[k]? = some u ∧ w.cell? ⟨b, off + k, none⟩ = some (.int .i64 u) := by
 obtain ⟨hl, _, hc⟩ := h
 obtain ⟨b, off, e, hb, hc⟩ := hc (by omega)
 exact ⟨b, off, xs[k], e, hb, List.getElem?_eq_getElem (by omega), hc k _ (List.getElem?_eq_getElem (by omega))⟩
theorem Ints.addr (h : Ints w B A n xs) (hn : 0 < n) : ∃ b off, A = some ⟨b, off, none⟩ ∧ b < B ∧ ∀ j u, xs[j]? = some u → w.cell? ⟨b, off + j, none⟩ = some (.int .i64 u) := h.2.2 hn
theorem Ints.nil (w : World) (B : Nat) (A : Option Addr) : Ints w B A 0 [] := ⟨rfl, by omega, fun h => absurd h (by omega)⟩
theorem Ints.keep (h : Ints w B A n xs) (hk : ∀ p : Addr, p.block < B → w'.cell? p = w.cell? p) : Ints w' B A n xs :=
 ⟨h.1, h.2.1, fun hn => by
  obtain ⟨b, off, e, hb, hc⟩ := h.2.2 hn
  exact ⟨b, off, e, hb, fun j u hu => (hk _ hb).trans (hc j u hu)⟩⟩
theorem Ints.mono (h : Ints w B A n xs) (hB : B ≤ B') : Ints w B' A n xs :=
 ⟨h.1, h.2.1, fun hn => by
  obtain ⟨b, off, e, hb, hc⟩ := h.2.2 hn
  exact ⟨b, off, e, by omega, hc⟩⟩
theorem Ints.below (h : Ints w B A n xs) (hb : Below B w w') : Ints w' B A n xs := h.keep fun _ hp => hb.cell hp
theorem Ints.next (h : Ints w w.heap.size A n xs) (hb : Below w.heap.size w w') : Ints w' w'.heap.size A n xs := (h.below hb).mono hb.size
theorem Ints.drew (h : Ints w B A n xs) : Ints w.drew B A n xs := h
theorem Ints.drewN (h : Ints w B A n xs) (k : Nat) : Ints (w.drewN k) B A n xs := h
theorem Ints.alloc (h : Ints w B A n xs) (hB : B ≤ w.heap.size) (o : Obj) : Ints (w.alloc o) B A n xs := h.keep fun p hp => World.cell?_alloc_lt w o p (by omega)
theorem Ints.grown (h : Ints w B A n xs) {row : Option Nat} (hg : w.grownBy w' row) (hB : B ≤ w.heap.size) (hr : ∀ g, row = some g → B ≤ g) : Ints w' B A n xs :=
 h.keep fun p hp => World.cell?_of_block (hg.block p.block (by omega) (fun e => by have := hr _ e.symm; omega))
theorem add_row (g j : Nat) : (⟨g, 0, none⟩ : Addr).add j = ⟨g, j, none⟩ := by unfold Addr.add; split <;> simp_all
theorem Own.len (h : Own w B A n c xs) : xs.length = n := by have := h.1.1; simpa [IV] using this
theorem Own.nil (w : World) (B : Nat) : Own w B none 0 0 [] := ⟨World.ownsRow_nil _ _ _ _, by omega⟩
theorem Own.ints (h : Own w B A n c xs) : Ints w w.heap.size A n xs := by
 refine ⟨h.len, h.2, fun hn => ?_⟩
 obtain ⟨g, cap, hv, _, hlt⟩ := h.1.form hn
 have hA : A = some ⟨g, 0, none⟩ := by injection hv
 subst hA
 refine ⟨g, 0, rfl, hlt, fun j u hu => ?_⟩
 have := h.1.cells (g := g) rfl j _ (IV_get hu)
 rw [add_row] at this
 simpa using this
theorem Own.at_ (h : Own w B A n c xs) (hn : 0 < n) : ∃ g, A = some ⟨g, 0, none⟩ ∧ B ≤ g ∧ g < w.heap.size ∧ (∀ j u, xs[j]? = some u → w.cell? ⟨g, j, none⟩ = some (.int .i64 u)) ∧ ∀ j, w.frozen? ⟨g, j, none⟩ = false := by
 obtain ⟨g, cap, hv, _, hlt⟩ := h.1.form hn
 have hA : A = some ⟨g, 0, none⟩ := by injection hv
 subst hA
 have hlt := h.1.lt g rfl
 refine ⟨g, rfl, hlt.1, hlt.2, fun j u hu => ?_, fun j => ?_⟩
 ·have := h.1.cells (g := g) rfl j _ (IV_get hu)
  rwa [add_row] at this
 ·exact h.1.frozenAt j
theorem Own.store {g : Nat} (h : Own w B (some ⟨g, 0, none⟩) n c xs) (j : Nat) (u : Int) :
  Own (w.setCell ⟨g, j, none⟩ (.int .i64 u)) B (some ⟨g, 0, none⟩) n c (xs.set j u) ∧ w.grownBy (w.setCell ⟨g, j, none⟩ (.int .i64 u)) (some g) := by
 obtain ⟨h1, h2⟩ := h.1.stored j (.int .i64 u)
 rw [IV_set] at h1
 exact ⟨⟨h1, h.2⟩, h2⟩
theorem Own.mono (h : Own w B A n c xs) (hB : B' ≤ B) : Own w B' A n c xs := by
 refine ⟨⟨h.1.1, ?_⟩, h.2⟩
 rcases h.1.2 with h0 | ⟨g, cap, cur, hv, hb, rest⟩
 ·exact .inl h0
 ·exact .inr ⟨g, cap, cur, hv, by omega, rest⟩
theorem Own.blk (h : Own w B A n c xs) : ∀ k, (Value.slice A n c).ownBlock = some k → B ≤ k ∧ k < w.heap.size := h.1.lt
theorem Own.kept {row : Option Nat} (h : Own w B A n c xs) (hg : w.grownBy w' row) (hne : ∀ k, (Value.slice A n c).ownBlock = some k → row ≠ some k) : Own w' B A n c xs :=
 ⟨h.1.kept hg (by
  cases hv : (Value.slice A n c).ownBlock with
  | none => exact .inl rfl
  | some k => exact .inr (fun e => hne k hv e.symm)), h.2⟩
theorem Own.alloc (h : Own w B A n c xs) (o : Obj) : Own (w.alloc o) B A n c xs := ⟨h.1.alloc o, h.2⟩
theorem Own.drew (h : Own w B A n c xs) : Own w.drew B A n c xs := h
theorem Own.drewN (h : Own w B A n c xs) (k : Nat) : Own (w.drewN k) B A n c xs := h
theorem Own.next (h : Own w B A n c xs) (hb : Below w.heap.size w w') : Own w' B A n c xs := by
 refine h.kept (row := none) ⟨hb.os, hb.tape, hb.output, hb.size, fun k hk _ => hb.block k hk⟩ ?_
 intro k _ e
 cases e
end
theorem news_one (w : World) (u : Value) (t : TypeId) : ∀ j v, [u][j]? = some v → (w.alloc (.cells #[u] t)).cell? ((⟨w.heap.size, 0, none⟩ : Addr).add j) = some v := by
 intro j v hj
 match j, hj with
 | 0, hj => simp at hj; subst hj; simp [Addr.add]
 | j + 1, hj => simp at hj
theorem Own.of_app {w : World} {B n m : Nat} {v : Value} {xs : List Int} {ys : List Value} (us : List Int) (hy : ys = IV us) (h : w.ownsRow B 3 1 v (n + m) (IV xs ++ ys)) (hn : n + m ≤ 1099511627776) :
  ∃ A c, v = .slice A (n + m) c ∧ Own w B A (n + m) c (xs ++ us) := by
 subst hy
 rw [← IV_append] at h
 rcases h.2 with ⟨rfl, h0⟩ | ⟨g, cap, cur, rfl, _⟩
 ·rw [h0] at h ⊢
  exact ⟨none, 0, rfl, h, by omega⟩
 ·exact ⟨_, _, rfl, h, hn⟩
theorem below_drewN {B : Nat} {a w : World} (h : Below B a w) (n : Nat) : Below B a (w.drewN n) := ⟨h.os, h.tape, h.output, h.size, h.block⟩
theorem below_chain {a b c : World} (h : Below a.heap.size a b) (k : Below b.heap.size b c) : Below a.heap.size a c := h.trans (k.mono h.size)
theorem grown_below {B : Nat} {w w' : World} {row : Option Nat} (hg : w.grownBy w' row) (hB : B ≤ w.heap.size) (hr : ∀ k, row = some k → B ≤ k) : Below B w w' := (Below.refl B w).grown hg hB hr
theorem bcell {W w1 : World} (hb : Below W.heap.size W w1) : (∀ b o, b < W.heap.size → w1.cell? ⟨b, o, none⟩ = W.cell? ⟨b, o, none⟩) ∧ (∀ b o, b < W.heap.size → w1.frozen? ⟨b, o, none⟩ = W.frozen? ⟨b, o, none⟩) :=
 ⟨fun b o h => hb.cell (p := ⟨b, o, none⟩) h, fun b o h => hb.frozen (p := ⟨b, o, none⟩) h⟩
end Go.Proofs.YthdoofmfigemoaaGreatDoor
end
namespace Go.Proofs.YthdoofmfigemoaaGreatDoor
open Go.RowKit
theorem take_next {α : Type} {xs : List α} {k : Nat} {u : α} (h : xs[k]? = some u) : xs.take (k + 1) = xs.take k ++ [u] := by rw [List.take_add_one, h]; rfl
theorem l6In_any (n a b : Int) (w : World) : Calls Tryz.prog 67 #[.int .i64 n, .int .i64 a, .int .i64 b] w fun e w' => e = .returned (.bool (decide (a ≤ n) && decide (n ≤ b))) ∧ w = w' := by
 by_cases h1 : a ≤ n <;> by_cases h2 : n ≤ b
 all_goals
  go_enter Tryz.func67, Tryz.ntmps67
  go_wp2
  go_ret
  exact ⟨ret_bool (by simp [h1, h2]), rfl⟩
end Go.Proofs.YthdoofmfigemoaaGreatDoor
section
namespace Go.Proofs.YthdoofmfigemoaaGreatDoor.Ta
def rank (c : UInt8) : Option Nat := if c = 77 then some 0 else if c = 67 then some 1 else if c = 88 then some 2 else if c = 73 then some 3 else none
def weight (k : Nat) : Int := if k = 0 then 1000 else if k = 1 then 100 else if k = 2 then 10 else 1
def scan : List UInt8 → Nat → Nat → Int → Option Int
 | [], _, _, t => some t
 | c :: cs, r, m, t =>
  match rank c with
  | none => none
  | some k => if k < r then none else if 9 < (if k = r then m + 1 else 1) then none else scan cs k (if k = r then m + 1 else 1) (t + weight k)
def worth (s : List UInt8) : Option Int := scan s 0 0 0
theorem rank_lt {c : UInt8} {k : Nat} (h : rank c = some k) : k < 4 := by
 unfold rank at h
 repeat' split at h
 all_goals first | (injection h with h; omega) | cases h
theorem weight_bd (k : Nat) : 1 ≤ weight k ∧ weight k ≤ 1000 := by unfold weight; repeat' split <;> omega
theorem scan_none {c : UInt8} {cs : List UInt8} {r m : Nat} {t : Int} (h : rank c = none) : scan (c :: cs) r m t = none := by simp [scan, h]
theorem scan_back {c : UInt8} {cs : List UInt8} {r m k : Nat} {t : Int} (h : rank c = some k) (hk : k < r) : scan (c :: cs) r m t = none := by simp [scan, h, hk]
theorem scan_many {c : UInt8} {cs : List UInt8} {r m k : Nat} {t : Int} (h : rank c = some k) (hk : ¬ k < r) (hm : 9 < (if k = r then m + 1 else 1)) : scan (c :: cs) r m t = none := by simp only [scan, h]; rw [if_neg hk, if_pos hm]
theorem scan_on {c : UInt8} {cs : List UInt8} {r m k : Nat} {t : Int} (h : rank c = some k) (hk : ¬ k < r) (hm : ¬ 9 < (if k = r then m + 1 else 1)) : scan (c :: cs) r m t = scan cs k (if k = r then m + 1 else 1) (t + weight k) := by simp only [scan, h]; rw [if_neg hk, if_neg hm]
theorem scan_bd : ∀ (s : List UInt8) (r m : Nat) (t v : Int), r < 4 → m ≤ 9 → scan s r m t = some v → 9 * r + m + s.length ≤ 36 ∧ t ≤ v ∧ v ≤ t + 1000 * (s.length : Int) ∧ (v = t → s = [])
 | [], r, m, t, v, hr, hm, h => by
  simp [scan] at h
  subst h
  refine ⟨by simp; omega, by omega, by simp, fun _ => rfl⟩
 | c :: cs, r, m, t, v, hr, hm, h => by
  cases hk : rank c with
  | none => rw [scan_none hk] at h; cases h
  | some k =>
   by_cases h1 : k < r
   ·rw [scan_back hk h1] at h; cases h
   ·by_cases h2 : 9 < (if k = r then m + 1 else 1)
    ·rw [scan_many hk h1 h2] at h; cases h
    ·rw [scan_on hk h1 h2] at h
     have hw := weight_bd k
     obtain ⟨i1, i2, i3, i4⟩ := scan_bd cs k _ _ v (rank_lt hk) (by omega) h
     refine ⟨?_, by omega, by simp only [List.length_cons]; omega, fun e => by omega⟩
     simp only [List.length_cons]
     split at i1 <;> omega
def notes (a b c d : Nat) : List UInt8 := List.replicate a 77 ++ (List.replicate b 67 ++ (List.replicate c 88 ++ List.replicate d 73))
def ntext (n : Nat) : List UInt8 := notes (n / 1000) (n / 100 % 10) (n / 10 % 10) (n % 10)
theorem scan_rep {c : UInt8} {q : Nat} (hc : rank c = some q) (rest : List UInt8) : ∀ (k r m : Nat) (t : Int), r ≤ q → (q = r → m + k ≤ 9) → (r ≠ q → k ≤ 9) →
  scan (List.replicate k c ++ rest) r m t = scan rest (if k = 0 then r else q) (if k = 0 then m else if q = r then m + k else k) (t + k * weight q)
 | 0, r, m, t, _, _, _ => by simp
 | k + 1, r, m, t, h1, h2, h3 => by
  rw [List.replicate_succ, List.cons_append, scan_on hc (by omega) (by split <;> omega)]
  by_cases e : q = r
  ·subst e
   rw [if_pos rfl, scan_rep hc rest k q (m + 1) _ (Nat.le_refl _) (fun _ => by have := h2 rfl; omega) (fun h => absurd rfl h)]
   have e1 : (if k = 0 then q else q) = q := by split <;> rfl
   have e2 : (if k = 0 then m + 1 else if q = q then m + 1 + k else k) = m + (k + 1) := by rw [if_pos rfl]; split <;> omega
   rw [e1, e2, if_neg (by omega), if_neg (by omega), if_pos rfl]
   congr 1
   push_cast
   rw [Int.add_mul]; omega
  ·rw [if_neg e, scan_rep hc rest k q 1 _ (Nat.le_refl _) (fun _ => by have := h3 (Ne.symm e); omega) (fun h => absurd rfl h)]
   have e1 : (if k = 0 then q else q) = q := by split <;> rfl
   have e2 : (if k = 0 then 1 else if q = q then 1 + k else k) = k + 1 := by rw [if_pos rfl]; split <;> omega
   rw [e1, e2, if_neg (by omega), if_neg (by omega), if_neg e]
   congr 1
   push_cast
   rw [Int.add_mul]; omega
theorem worth_notes {a b c d : Nat} (ha : a ≤ 9) (hb : b ≤ 9) (hc : c ≤ 9) (hd : d ≤ 9) : worth (notes a b c d) = some (1000 * a + 100 * b + 10 * c + d) := by
 unfold worth notes
 rw [scan_rep (q := 0) (by decide) _ a 0 0 0 (by omega) (by omega) (by omega)]
 rw [scan_rep (q := 1) (by decide) _ b _ _ _ (by split <;> omega) (by split <;> intro h <;> first | omega | (cases h)) (by omega)]
 have e1 : ∀ r1 m1 t1, r1 ≤ 1 → scan (List.replicate c 88 ++ List.replicate d 73) r1 m1 t1 = some (t1 + 10 * c + d) := by
  intro r1 m1 t1 h1
  rw [scan_rep (q := 2) (by decide) _ c _ _ _ (by omega) (by omega) (by omega)]
  have e2 : ∀ r2 m2 t2, r2 ≤ 2 → scan (List.replicate d 73) r2 m2 t2 = some (t2 + d) := by
   intro r2 m2 t2 h2
   have := scan_rep (c := 73) (q := 3) (by decide) [] d r2 m2 t2 (by omega) (by omega) (by omega)
   rw [List.append_nil] at this
   rw [this]
   simp [scan, weight]
  rw [e2 _ _ _ (by split <;> omega)]
  simp [weight]; omega
 rw [e1 _ _ _ (by split <;> (try split) <;> omega)]
 simp [weight]; omega
theorem worth_ntext {n : Nat} (h : n ≤ 9999) : worth (ntext n) = some (n : Int) := by
 unfold ntext
 rw [worth_notes (by omega) (by omega) (by omega) (by omega)]
 have e1 : n / 100 = n / 10 / 10 := by rw [Nat.div_div_eq_div_mul]
 have e2 : n / 1000 = n / 10 / 10 / 10 := by rw [Nat.div_div_eq_div_mul, Nat.div_div_eq_div_mul]
 rw [e1, e2]
 have h1 := Nat.div_add_mod n 10
 have h2 := Nat.div_add_mod (n / 10) 10
 have h3 := Nat.div_add_mod (n / 10 / 10) 10
 generalize n / 10 / 10 / 10 = x at *
 generalize n / 10 / 10 % 10 = y at *
 generalize n / 10 / 10 = z at *
 generalize n / 10 % 10 = u at *
 generalize n / 10 = q at *
 generalize n % 10 = r at *
 exact congrArg some (by omega)
theorem worth_bd {s : List UInt8} {v : Int} (h : worth s = some v) : s.length ≤ 36 ∧ 0 ≤ v ∧ v ≤ 36000 ∧ (v = 0 → s = []) := by
 obtain ⟨h1, h2, h3, h4⟩ := scan_bd s 0 0 0 v (by omega) (by omega) h
 refine ⟨by omega, h2, by omega, h4⟩
end Go.Proofs.YthdoofmfigemoaaGreatDoor.Ta
end
section
namespace Go.Proofs.YthdoofmfigemoaaGreatDoor
open Go.RowKit
structure Tl where
 a : Int
 c : Int
 s : ByteArray
 f : ByteArray
def Tl.cells (t : Tl) : List Value := [.int .i64 t.a, .int .i64 t.c, .string t.s, .string t.f]
def Tl.val (t : Tl) : Value := .agg #[.int .i64 t.a, .int .i64 t.c, .string t.s, .string t.f]
structure Db where
 a : Int
 c : Int
 v : Int
def Db.cells (d : Db) : List Value := [.int .i64 d.a, .int .i64 d.c, .int .i64 d.v]
def Db.val (d : Db) : Value := .agg #[.int .i64 d.a, .int .i64 d.c, .int .i64 d.v]
def Row (w : World) (B : Nat) (A : Option Addr) (n k : Nat) (vs : List Value) : Prop :=
 vs.length = n * k ∧ n ≤ 1099511627776 ∧ (0 < n → ∃ b off, A = some ⟨b, off, none⟩ ∧ b < B ∧ ∀ j u, vs[j]? = some u → w.cell? ⟨b, off + j, none⟩ = some u)
section
variable {w w' : World} {B B' n k : Nat} {A : Option Addr} {vs : List Value}
theorem Row.keep (h : Row w B A n k vs) (hk : ∀ p : Addr, p.block < B → w'.cell? p = w.cell? p) : Row w' B A n k vs :=
 ⟨h.1, h.2.1, fun hn => by
  obtain ⟨b, off, e, hb, hc⟩ := h.2.2 hn
  exact ⟨b, off, e, hb, fun j u hu => (hk _ hb).trans (hc j u hu)⟩⟩
theorem Row.mono (h : Row w B A n k vs) (hB : B ≤ B') : Row w B' A n k vs :=
 ⟨h.1, h.2.1, fun hn => by
  obtain ⟨b, off, e, hb, hc⟩ := h.2.2 hn
  exact ⟨b, off, e, by omega, hc⟩⟩
theorem Row.below (h : Row w B A n k vs) (hb : Below B w w') : Row w' B A n k vs := h.keep fun _ hp => hb.cell hp
theorem Row.next (h : Row w w.heap.size A n k vs) (hb : Below w.heap.size w w') : Row w' w'.heap.size A n k vs := (h.below hb).mono hb.size
theorem Row.nil (w : World) (B : Nat) (A : Option Addr) (k : Nat) : Row w B A 0 k [] := ⟨by simp, by omega, fun h => absurd h (by omega)⟩
end
def TV (ts : List Tl) : List Value := ts.flatMap Tl.cells
def DV (ds : List Db) : List Value := ds.flatMap Db.cells
theorem flat_length {α : Type} {f : α → List Value} {k : Nat} (hf : ∀ x, (f x).length = k) : ∀ xs : List α, (xs.flatMap f).length = xs.length * k
 | [] => by simp
 | x :: xs => by rw [List.flatMap_cons, List.length_append, hf, flat_length hf xs, List.length_cons, Nat.succ_mul, Nat.add_comm]
theorem flat_get {α : Type} {f : α → List Value} {k : Nat} (hf : ∀ x, (f x).length = k) : ∀ (xs : List α) (i : Nat) (x : α), xs[i]? = some x → ∀ j, j < k → (xs.flatMap f)[i * k + j]? = (f x)[j]?
 | [], i, x, h, _, _ => by simp at h
 | y :: xs, 0, x, h, j, hj => by
  obtain rfl : y = x := by simpa using h
  rw [List.flatMap_cons, Nat.zero_mul, Nat.zero_add, List.getElem?_append_left (by rw [hf]; exact hj)]
 | y :: xs, i + 1, x, h, j, hj => by
  have h' : xs[i]? = some x := by simpa using h
  rw [List.flatMap_cons, List.getElem?_append_right (by rw [hf, Nat.succ_mul]; omega), hf, show (i + 1) * k + j - k = i * k + j from by rw [Nat.succ_mul]; omega]
  exact flat_get hf xs i x h' j hj
theorem TV_length (ts : List Tl) : (TV ts).length = ts.length * 4 := flat_length (f := Tl.cells) (k := 4) (fun _ => rfl) ts
theorem DV_length (ds : List Db) : (DV ds).length = ds.length * 3 := flat_length (f := Db.cells) (k := 3) (fun _ => rfl) ds
theorem TV_append (x y : List Tl) : TV (x ++ y) = TV x ++ TV y := List.flatMap_append
theorem DV_append (x y : List Db) : DV (x ++ y) = DV x ++ DV y := List.flatMap_append
theorem TV_one (t : Tl) : TV [t] = t.cells := by simp [TV]
theorem DV_one (d : Db) : DV [d] = d.cells := by simp [DV]
theorem TV_oneCell (ts : List Tl) : ∀ u ∈ TV ts, u.oneCell' = true := by
 intro u hu
 obtain ⟨t, _, hu⟩ := List.mem_flatMap.1 hu
 simp [Tl.cells] at hu
 rcases hu with rfl | rfl | rfl | rfl <;> rfl
theorem DV_oneCell (ds : List Db) : ∀ u ∈ DV ds, u.oneCell' = true := by
 intro u hu
 obtain ⟨t, _, hu⟩ := List.mem_flatMap.1 hu
 simp [Db.cells] at hu
 rcases hu with rfl | rfl | rfl <;> rfl
def Tals (w : World) (B : Nat) (A : Option Addr) (n : Nat) (ts : List Tl) : Prop := Row w B A n 4 (TV ts)
def Dbs (w : World) (B : Nat) (A : Option Addr) (n : Nat) (ds : List Db) : Prop := Row w B A n 3 (DV ds)
theorem Tals.len {w : World} {B n : Nat} {A : Option Addr} {ts : List Tl} (h : Tals w B A n ts) : ts.length = n := by have := h.1; rw [TV_length] at this; omega
theorem Dbs.len {w : World} {B n : Nat} {A : Option Addr} {ts : List Db} (h : Dbs w B A n ts) : ts.length = n := by have := h.1; rw [DV_length] at this; omega
theorem Tals.at_ {w : World} {B n : Nat} {A : Option Addr} {ts : List Tl} (h : Tals w B A n ts) {k : Nat} (hk : k < n) : ∃ b off t, A = some ⟨b, off, none⟩ ∧ b < B ∧ ts[k]? = some t ∧
  w.cell? ⟨b, off + k * 4, none⟩ = some (.int .i64 t.a) ∧ w.cell? ⟨b, off + k * 4 + 1, none⟩ = some (.int .i64 t.c) ∧ w.cell? ⟨b, off + k * 4 + 2, none⟩ = some (.string t.s) ∧ w.cell? ⟨b, off + k * 4 + 3, none⟩ = some (.string t.f) := by
 have hl := h.len
 obtain ⟨b, off, e, hb, hc⟩ := h.2.2 (by omega)
 have hk' : ts[k]? = some ts[k] := List.getElem?_eq_getElem (by omega)
 have g := flat_get (f := Tl.cells) (k := 4) (fun _ => rfl) ts k _ hk'
 exact ⟨b, off, ts[k], e, hb, hk', hc _ _ (g 0 (by omega)), by rw [Nat.add_assoc]; exact hc _ _ (g 1 (by omega)), by rw [Nat.add_assoc]; exact hc _ _ (g 2 (by omega)), by rw [Nat.add_assoc]; exact hc _ _ (g 3 (by omega))⟩
theorem Dbs.at_ {w : World} {B n : Nat} {A : Option Addr} {ts : List Db} (h : Dbs w B A n ts) {k : Nat} (hk : k < n) : ∃ b off t, A = some ⟨b, off, none⟩ ∧ b < B ∧ ts[k]? = some t ∧
  w.cell? ⟨b, off + k * 3, none⟩ = some (.int .i64 t.a) ∧ w.cell? ⟨b, off + k * 3 + 1, none⟩ = some (.int .i64 t.c) ∧ w.cell? ⟨b, off + k * 3 + 2, none⟩ = some (.int .i64 t.v) := by
 have hl := h.len
 obtain ⟨b, off, e, hb, hc⟩ := h.2.2 (by omega)
 have hk' : ts[k]? = some ts[k] := List.getElem?_eq_getElem (by omega)
 have g := flat_get (f := Db.cells) (k := 3) (fun _ => rfl) ts k _ hk'
 exact ⟨b, off, ts[k], e, hb, hk', hc _ _ (g 0 (by omega)), by rw [Nat.add_assoc]; exact hc _ _ (g 1 (by omega)), by rw [Nat.add_assoc]; exact hc _ _ (g 2 (by omega))⟩
def OwnR (w : World) (B : Nat) (e : TypeId) (k : Nat) (A : Option Addr) (n c : Nat) (vs : List Value) : Prop := w.ownsRow B e k (.slice A n c) n vs ∧ n ≤ 1099511627776
abbrev OwnT (w : World) (B : Nat) (A : Option Addr) (n c : Nat) (ts : List Tl) : Prop := OwnR w B 52 4 A n c (TV ts)
abbrev OwnD (w : World) (B : Nat) (A : Option Addr) (n c : Nat) (ds : List Db) : Prop := OwnR w B 123 3 A n c (DV ds)
section
variable {w w' : World} {B B' k n c : Nat} {e : TypeId} {A : Option Addr} {vs : List Value}
theorem OwnR.row (h : OwnR w B e k A n c vs) : Row w w.heap.size A n k vs := by
 refine ⟨h.1.1, h.2, fun hn => ?_⟩
 rcases h.1.2 with ⟨_, h0⟩ | ⟨g, cap, cur, hv, hb, hg, _⟩
 ·omega
 ·injection hv with h1 h2 h3
  subst h1
  have hlt := h.1.lt g rfl
  refine ⟨g, 0, rfl, hlt.2, fun j u hu => ?_⟩
  have := h.1.cells (g := g) rfl j _ hu
  rw [add_row] at this
  simpa using this
theorem OwnR.kept {row : Option Nat} (h : OwnR w B e k A n c vs) (hg : w.grownBy w' row) (hne : ∀ q, (Value.slice A n c).ownBlock = some q → row ≠ some q) : OwnR w' B e k A n c vs :=
 ⟨h.1.kept hg (by
  cases hv : (Value.slice A n c).ownBlock with
  | none => exact .inl rfl
  | some q => exact .inr (fun e => hne q hv e.symm)), h.2⟩
theorem OwnR.alloc (h : OwnR w B e k A n c vs) (o : Obj) : OwnR (w.alloc o) B e k A n c vs := ⟨h.1.alloc o, h.2⟩
theorem OwnR.drew (h : OwnR w B e k A n c vs) : OwnR w.drew B e k A n c vs := h
theorem OwnR.drewN (h : OwnR w B e k A n c vs) (q : Nat) : OwnR (w.drewN q) B e k A n c vs := h
theorem OwnR.next (h : OwnR w B e k A n c vs) (hb : Below w.heap.size w w') : OwnR w' B e k A n c vs :=
 h.kept (row := none) ⟨hb.os, hb.tape, hb.output, hb.size, fun k hk _ => hb.block k hk⟩ (by intro k _ e; cases e)
theorem OwnR.mono (h : OwnR w B e k A n c vs) (hB : B' ≤ B) : OwnR w B' e k A n c vs := by
 refine ⟨⟨h.1.1, ?_⟩, h.2⟩
 rcases h.1.2 with h0 | ⟨g, cap, cur, hv, hb, rest⟩
 ·exact .inl h0
 ·exact .inr ⟨g, cap, cur, hv, by omega, rest⟩
theorem OwnR.blk (h : OwnR w B e k A n c vs) : ∀ q, (Value.slice A n c).ownBlock = some q → B ≤ q ∧ q < w.heap.size := h.1.lt
theorem OwnR.nil (w : World) (B : Nat) (e : TypeId) (k : Nat) : OwnR w B e k none 0 0 [] := ⟨World.ownsRow_nil _ _ _ _, by omega⟩
theorem OwnR.cap (h : OwnR w B e k A n c vs) : n ≤ c := by
 rcases h.1.2 with ⟨h0, rfl⟩ | ⟨g, cap, cur, hv, hb, hg, hr⟩
 ·omega
 ·injection hv with _ _ e3
  subst e3
  exact hr.1
end
theorem OwnT.tals {w : World} {B n c : Nat} {A : Option Addr} {ts : List Tl} (h : OwnT w B A n c ts) : Tals w w.heap.size A n ts := h.row
theorem OwnD.dbs {w : World} {B n c : Nat} {A : Option Addr} {ds : List Db} (h : OwnD w B A n c ds) : Dbs w w.heap.size A n ds := h.row
theorem tally_info : (Tryz.prog.info? 52).map (fun i => (i.zero, i.size, i.bytes)) = some (some (.agg #[.int .i64 0, .int .i64 0, .string ⟨#[]⟩, .string ⟨#[]⟩]), 4, 48) := by kernel_rfl
theorem debt_info : (Tryz.prog.info? 123).map (fun i => (i.zero, i.size, i.bytes)) = some (some (.agg #[.int .i64 0, .int .i64 0, .int .i64 0]), 3, 24) := by kernel_rfl
theorem shape_own {w : World} {B k n m : Nat} {e : TypeId} {v : Value} {vs : List Value} (h : w.ownsRow B e k v (n + m) vs) (hn : n + m ≤ 1099511627776) : ∃ A c, v = .slice A (n + m) c ∧ OwnR w B e k A (n + m) c vs := by
 rcases h.2 with ⟨rfl, h0⟩ | ⟨g, cap, cur, rfl, _⟩
 ·rw [h0] at h ⊢
  exact ⟨none, 0, rfl, h, by omega⟩
 ·exact ⟨_, _, rfl, h, hn⟩
theorem wpList_app_t {ops : Array Oper} {rest : List Oper} {o : Oper} {a : Act} {w : World} {Q : Exit → Act → World → Prop} (hgd : o.guard = none) (s x : Operand)
  (ho : o.op = .call { callee := .builtin .append, args := #[s, x], argTypes := #[46, 46] })
  {B : Nat} {A : Option Addr} {n c : Nat} {ts : List Tl} (hs : a.eval s = .slice A n c) (hown : OwnT w B A n c ts) (t : Tl) (c0 : Nat)
  (hx : a.eval x = .slice (some ⟨w.heap.size, 0, none⟩) 1 c0) (cs : Array Value) (hcs : cs = t.cells.toArray) (hn : n + 1 ≤ 1000000) (hB : B ≤ w.heap.size)
  (h : ∀ A' c' w', OwnT w' B A' (n + 1) c' (ts ++ [t]) → w.grownBy w' (Value.slice A n c).ownBlock → wpList Tryz.prog ops Q rest (a.put o.dst (.slice A' (n + 1) c')) w') :
  wpList Tryz.prog ops Q (o :: rest) a (w.alloc (.cells cs 52)) := by
 obtain ⟨i0, hi, hz0, hz1, hz2⟩ := info_parts tally_info
 subst hcs
 refine wpList_append_own _ hgd s x 46 ho B 52 i0 _ 4 48 Tryz.underlying46 hi hz0 hz1 hz2 rfl (by decide) _ n (TV ts) hs (hown.1.alloc _)
  ⟨w.heap.size, 0, none⟩ 1 c0 t.cells hx (by simp [Tl.cells]) ?_ (by rw [← TV_one]; exact TV_oneCell _) (by unfold maxLen; omega) (by omega) (by simp; omega) ?_
 ·intro j u hj
  rw [add_row, cell_of_row _ w.heap.size j _ _ _ (heap_alloc_new w _)]
  simpa using hj
 ·intro v' w' hown' hg _
  rw [← TV_one, ← TV_append] at hown'
  obtain ⟨A', c', rfl, h'⟩ := shape_own hown' (by omega)
  exact h A' c' w' h' ⟨hg.os, hg.tape, hg.output, by have := hg.size; simp at this; omega, fun k hk hne => (hg.block k (by simp; omega) hne).trans (Below.heap_alloc w _ k hk)⟩
theorem wpList_app_d {ops : Array Oper} {rest : List Oper} {o : Oper} {a : Act} {w : World} {Q : Exit → Act → World → Prop} (hgd : o.guard = none) (s x : Operand)
  (ho : o.op = .call { callee := .builtin .append, args := #[s, x], argTypes := #[113, 113] })
  {B : Nat} {A : Option Addr} {n c : Nat} {ts : List Db} (hs : a.eval s = .slice A n c) (hown : OwnD w B A n c ts) (t : Db) (c0 : Nat)
  (hx : a.eval x = .slice (some ⟨w.heap.size, 0, none⟩) 1 c0) (cs : Array Value) (hcs : cs = t.cells.toArray) (hn : n + 1 ≤ 1000000) (hB : B ≤ w.heap.size)
  (h : ∀ A' c' w', OwnD w' B A' (n + 1) c' (ts ++ [t]) → w.grownBy w' (Value.slice A n c).ownBlock → wpList Tryz.prog ops Q rest (a.put o.dst (.slice A' (n + 1) c')) w') :
  wpList Tryz.prog ops Q (o :: rest) a (w.alloc (.cells cs 123)) := by
 obtain ⟨i0, hi, hz0, hz1, hz2⟩ := info_parts debt_info
 subst hcs
 refine wpList_append_own _ hgd s x 113 ho B 123 i0 _ 3 24 Tryz.underlying113 hi hz0 hz1 hz2 rfl (by decide) _ n (DV ts) hs (hown.1.alloc _)
  ⟨w.heap.size, 0, none⟩ 1 c0 t.cells hx (by simp [Db.cells]) ?_ (by rw [← DV_one]; exact DV_oneCell _) (by unfold maxLen; omega) (by omega) (by simp; omega) ?_
 ·intro j u hj
  rw [add_row, cell_of_row _ w.heap.size j _ _ _ (heap_alloc_new w _)]
  simpa using hj
 ·intro v' w' hown' hg _
  rw [← DV_one, ← DV_append] at hown'
  obtain ⟨A', c', rfl, h'⟩ := shape_own hown' (by omega)
  exact h A' c' w' h' ⟨hg.os, hg.tape, hg.output, by have := hg.size; simp at this; omega, fun k hk hne => (hg.block k (by simp; omega) hne).trans (Below.heap_alloc w _ k hk)⟩
theorem wpList_make_d {ops : Array Oper} {rest : List Oper} {o : Oper} {a : Act} {w : World} {Q : Exit → Act → World → Prop} (hgd : o.guard = none) (l c : Operand)
  (ho : o.op = .makeSlice 113 l c) {B n : Nat} (C : Int) (hl : a.eval l = .int .i64 0) (hc : a.eval c = .int .i64 C) (hC : C = (n : Int)) (hn : n ≤ 1000000) (hB : B ≤ w.heap.size)
  (h : ∀ w', OwnD w' B (some ⟨w.heap.size, 0, none⟩) 0 n [] → w.grownBy w' none → wpList Tryz.prog ops Q rest (a.put o.dst (.slice (some ⟨w.heap.size, 0, none⟩) 0 n)) w') :
  wpList Tryz.prog ops Q (o :: rest) a w := by
 obtain ⟨i0, hi, hz0, hz1, hz2⟩ := info_parts debt_info
 refine wpList_make_own w hgd l c 113 ho B 123 i0 _ 3 Tryz.underlying113 hi hz0 hz1 .i64 .i64 C n hl hc hC (by rw [hz2]; omega) (by unfold maxLen; omega) hB ?_
 intro w' hown hg
 exact h w' ⟨hown, by omega⟩ hg
end Go.Proofs.YthdoofmfigemoaaGreatDoor
end
section
namespace Go.Proofs.YthdoofmfigemoaaGreatDoor
open Go.RowKit
def Blk (w : World) (b : Nat) (cs : Array Value) (ty : TypeId) : Prop := w.heap[b]? = some (.cells cs ty (0, 0))
section
variable {w w' : World} {b : Nat} {cs : Array Value} {ty : TypeId}
theorem Blk.lt (h : Blk w b cs ty) : b < w.heap.size := (Array.getElem?_eq_some_iff.1 h).1
theorem Blk.keep (h : Blk w b cs ty) (hb : w'.heap[b]? = w.heap[b]?) : Blk w' b cs ty := hb.trans h
theorem Blk.cell (h : Blk w b cs ty) {j : Nat} {v : Value} (hv : cs[j]? = some v) : w.cell? ⟨b, j, none⟩ = some v := by rw [cell_of_row w b j _ _ _ h]; exact hv
theorem Blk.free (h : Blk w b cs ty) (j : Nat) : w.frozen? ⟨b, j, none⟩ = false := by
 unfold Blk at h
 simp [World.frozen?, h]
theorem Blk.new (w : World) (cs : Array Value) (ty : TypeId) : Blk (w.alloc (.cells cs ty)) w.heap.size cs ty := heap_alloc_new w _
theorem Blk.alloc (h : Blk w b cs ty) (o : Obj) : Blk (w.alloc o) b cs ty := h.keep (Below.heap_alloc w o b h.lt)
theorem Blk.drew (h : Blk w b cs ty) : Blk w.drew b cs ty := h
theorem Blk.next (h : Blk w b cs ty) (hb : Below w.heap.size w w') : Blk w' b cs ty := h.keep (hb.block b h.lt)
theorem Blk.below {B : Nat} (h : Blk w b cs ty) (hb : Below B w w') (hlt : b < B) : Blk w' b cs ty := h.keep (hb.block b hlt)
theorem Blk.grown (h : Blk w b cs ty) {row : Option Nat} (hg : w.grownBy w' row) (hne : some b ≠ row) : Blk w' b cs ty := h.keep (hg.block b h.lt hne)
theorem Blk.set (h : Blk w b cs ty) (j : Nat) (v : Value) : Blk (w.setCell ⟨b, j, none⟩ v) b (cs.setIfInBounds j v) ty := heap_setCell_same w b j _ _ v h
theorem Blk.other (h : Blk w b cs ty) {p : Addr} (hne : b ≠ p.block) (v : Value) : Blk (w.setCell p v) b cs ty := h.keep (heap_setCell_other w p b v hne)
theorem Blk.grows (_h : Blk w b cs ty) (j : Nat) (v : Value) : w.grownBy (w.setCell ⟨b, j, none⟩ v) (some b) :=
 ⟨rfl, rfl, rfl, by simp [World.setCell], fun k _ hne => heap_setCell_other w _ k _ (fun e => hne (by rw [e]))⟩
end
theorem Blk.set3 {w : World} {b : Nat} {ty : TypeId} {a0 a1 a2 : Value} (h : Blk w b #[a0, a1, a2] ty) (x0 x1 x2 : Value) :
  Blk (((w.setCell ⟨b, 0, none⟩ x0).setCell ⟨b, 1, none⟩ x1).setCell ⟨b, 2, none⟩ x2) b #[x0, x1, x2] ty := by
 have := ((h.set 0 x0).set 1 x1).set 2 x2
 simpa using this
theorem size_set (w : World) (p : Addr) (v : Value) : (w.setCell p v).heap.size = w.heap.size := by simp [World.setCell]
end Go.Proofs.YthdoofmfigemoaaGreatDoor
end
namespace Go.Proofs.YthdoofmfigemoaaGreatDoor
open Go.RowKit
def txt (l : List UInt8) : ByteArray := ⟨l.toArray⟩
theorem txt_size (l : List UInt8) : (txt l).size = l.length := by show l.toArray.size = _; simp
theorem txt_append (l r : List UInt8) : txt l ++ txt r = txt (l ++ r) := ByteArray.mk_append_mk l r
theorem txt_list (l : List UInt8) : (txt l).data.toList = l := by simp [txt]
theorem txt_eta (s : ByteArray) : txt s.data.toList = s := by simp [txt]
theorem letterWorth_any (k : Nat) (hk : k < 4) (w : World) : Calls Tryz.prog 88 #[.int .i64 (k : Int)] w fun e w' => e = .returned (.int .i64 (Ta.weight k)) ∧ w = w' := by
 have pw : ∀ (n : Nat) (w : World), n ≤ 3 → Calls Tryz.prog 56 #[.int .i64 (n : Int)] w fun e w' => e = .returned (.int .i64 (Ta.weight (3 - n))) ∧ w = w' := by
  intro n w hn
  match n, hn with
  | 0, _ =>
   go_enter Tryz.func56, Tryz.ntmps56
   go_wp2_with fail
   refine wp_loop_rounds 1 ?_
   rw [rounds_succ]
   go_wp2_with fail
   go_ret
   exact ⟨rfl, rfl⟩
  | 1, _ =>
   go_enter Tryz.func56, Tryz.ntmps56
   go_wp2_with fail
   refine wp_loop_rounds 2 ?_
   iterate 2 (rw [rounds_succ]; go_wp2_with fail)
   go_ret
   exact ⟨rfl, rfl⟩
  | 2, _ =>
   go_enter Tryz.func56, Tryz.ntmps56
   go_wp2_with fail
   refine wp_loop_rounds 3 ?_
   iterate 3 (rw [rounds_succ]; go_wp2_with fail)
   go_ret
   exact ⟨rfl, rfl⟩
  | 3, _ =>
   go_enter Tryz.func56, Tryz.ntmps56
   go_wp2_with fail
   refine wp_loop_rounds 4 ?_
   iterate 4 (rw [rounds_succ]; go_wp2_with fail)
   go_ret
   exact ⟨rfl, rfl⟩
 have e : (3 : Int) - (k : Int) = ((3 - k : Nat) : Int) := by omega
 have h3 : 3 - (3 - k) = k := by omega
 go_enter Tryz.func88, Tryz.ntmps88
 go_wp2_with fail
 refine (pw (3 - k) w (by omega)).mono ?_
 rintro e w' ⟨rfl, rfl⟩
 rw [h3]
 go_wp2
 go_ret
 exact ⟨rfl, rfl⟩
def rk (b : UInt8) : Int := match Ta.rank b with | none => -1 | some k => k
theorem idx_any (b : UInt8) (w : World) : Calls Tryz.prog 123 #[.string ⟨#[77, 67, 88, 73]⟩, .int .u8 (b.toNat : Int)] w fun e w' => e = .returned (.int .i64 (rk b)) ∧ w = w' := by
 refine (Tryz.strings_IndexByte _ _ w).mono fun e w' h => ⟨?_, h.2.symm⟩
 rw [h.1]
 congr 2
 have e1 : ((b.toNat : Int)).toNat.toUInt8 = b := by simp
 rw [e1]
 unfold rk Ta.rank
 by_cases h0 : b = 77
 ·subst h0; decide
 ·by_cases h1 : b = 67
  ·subst h1; decide
  ·by_cases h2 : b = 88
   ·subst h2; decide
   ·by_cases h3 : b = 73
    ·subst h3; decide
    ·simp [h0, h1, h2, h3, Lib.indexByte, Ne.symm h0, Ne.symm h1, Ne.symm h2, Ne.symm h3]
structure Cs (c0 c1 c2 c3 : Int) (r : Nat) (m : Nat) (t : Int) : Prop where
 lo : 0 ≤ c0 ∧ 0 ≤ c1 ∧ 0 ≤ c2 ∧ 0 ≤ c3
 hi : c0 ≤ 9 ∧ c1 ≤ 9 ∧ c2 ≤ 9 ∧ c3 ≤ 9
 sum : t = 1000 * c0 + 100 * c1 + 10 * c2 + c3
 last : r < 4
 now : (m : Int) = if r = 0 then c0 else if r = 1 then c1 else if r = 2 then c2 else c3
 then_ : (r < 1 → c1 = 0) ∧ (r < 2 → c2 = 0) ∧ (r < 3 → c3 = 0)
theorem Cs.put {c0 c1 c2 c3 t : Int} {r m : Nat} (h : Cs c0 c1 c2 c3 r m t) :
  (¬ 0 < r → ¬ c0 = 9 → Cs (c0 + 1) c1 c2 c3 0 (if 0 = r then m + 1 else 1) (t + Ta.weight 0) ∧ ¬ 9 < (if 0 = r then m + 1 else 1)) ∧
  (¬ 1 < r → ¬ c1 = 9 → Cs c0 (c1 + 1) c2 c3 1 (if 1 = r then m + 1 else 1) (t + Ta.weight 1) ∧ ¬ 9 < (if 1 = r then m + 1 else 1)) ∧
  (¬ 2 < r → ¬ c2 = 9 → Cs c0 c1 (c2 + 1) c3 2 (if 2 = r then m + 1 else 1) (t + Ta.weight 2) ∧ ¬ 9 < (if 2 = r then m + 1 else 1)) ∧
  (¬ 3 < r → ¬ c3 = 9 → Cs c0 c1 c2 (c3 + 1) 3 (if 3 = r then m + 1 else 1) (t + Ta.weight 3) ∧ ¬ 9 < (if 3 = r then m + 1 else 1)) := by
 obtain ⟨lo, hi, sum, last, now, th⟩ := h
 have hr : r = 0 ∨ r = 1 ∨ r = 2 ∨ r = 3 := by omega
 refine ⟨fun h1 h2 => ?_, fun h1 h2 => ?_, fun h1 h2 => ?_, fun h1 h2 => ?_⟩
 all_goals
  rcases hr with rfl | rfl | rfl | rfl <;> simp at now th h1 <;> (refine ⟨⟨by omega, by omega, by simp [Ta.weight] <;> omega, by omega, by simp <;> omega, by simp <;> omega⟩, by simp <;> omega⟩)
theorem Cs.full {c0 c1 c2 c3 t : Int} {r m : Nat} (h : Cs c0 c1 c2 c3 r m t) :
  (¬ 0 < r → c0 = 9 → 9 < (if 0 = r then m + 1 else 1)) ∧ (¬ 1 < r → c1 = 9 → 9 < (if 1 = r then m + 1 else 1)) ∧ (¬ 2 < r → c2 = 9 → 9 < (if 2 = r then m + 1 else 1)) ∧ (¬ 3 < r → c3 = 9 → 9 < (if 3 = r then m + 1 else 1)) := by
 obtain ⟨lo, hi, sum, last, now, th⟩ := h
 have hr : r = 0 ∨ r = 1 ∨ r = 2 ∨ r = 3 := by omega
 refine ⟨fun h1 h2 => ?_, fun h1 h2 => ?_, fun h1 h2 => ?_, fun h1 h2 => ?_⟩
 all_goals
  rcases hr with rfl | rfl | rfl | rfl <;> simp at now th h1 ⊢ <;> omega
theorem drop_cell {l : List UInt8} {i : Nat} {b : UInt8} (h : l[i]? = some b) : l.drop i = b :: l.drop (i + 1) := by
 obtain ⟨h1, h2⟩ := List.getElem?_eq_some_iff.1 h
 rw [List.drop_eq_getElem_cons h1, h2]
def NcPost (s : ByteArray) (w : World) (e : Ending) (w' : World) : Prop :=
 (∃ c0 c1 c2 c3, e = .returned (.tuple #[.agg #[.int .i64 c0, .int .i64 c1, .int .i64 c2, .int .i64 c3], .bool (Ta.worth s.data.toList).isSome]) ∧
  (∀ v, Ta.worth s.data.toList = some v → v = 1000 * c0 + 100 * c1 + 10 * c2 + c3 ∧ 0 ≤ c0 ∧ 0 ≤ c1 ∧ 0 ≤ c2 ∧ 0 ≤ c3 ∧ c0 ≤ 9 ∧ c1 ≤ 9 ∧ c2 ≤ 9 ∧ c3 ≤ 9)) ∧ Below w.heap.size w w'
theorem notchCounts_any (s : ByteArray) (w : World) (hs : s.size ≤ 1099511627776) : Calls Tryz.prog 87 #[.string s] w (NcPost s w) := by
 have hlen : s.data.toList.length = s.size := by simp
 have HLEN := Hd hlen
 clear hlen
 go_enter Tryz.func87, Tryz.ntmps87
 go_wp2_with fail
 go_loopw [5, 6] (fun lv iv wr => ∃ (i r m : Nat) (c0 c1 c2 c3 t : Int), i ≤ s.size ∧ lv = .int .i64 (r : Int) ∧ iv = .int .i64 (i : Int) ∧ Cs c0 c1 c2 c3 r m t ∧ Ta.worth s.data.toList = Ta.scan (s.data.toList.drop i) r m t ∧
  wr = (w.alloc (.cells #[.int .i64 0, .int .i64 0, .int .i64 0, .int .i64 0] 129)).alloc (.cells #[.int .i64 c0, .int .i64 c1, .int .i64 c2, .int .i64 c3] 129)) (fun _ iv _ => s.size - (intOf iv).toNat)
 case atStart => exact ⟨0, 0, 0, 0, 0, 0, 0, 0, by omega, rfl, rfl, ⟨by omega, by omega, by omega, by omega, by simp, by simp⟩, rfl, rfl⟩
 case round =>
  obtain ⟨i, r, m, c0, c1, c2, c3, t, hi, rfl, rfl, hc, hw, rfl⟩ := hrel
  have HC := Hd hc
  have HW := Hd hw
  clear hc hw
  by_cases hlt : i < s.size
  ·obtain ⟨b, hb⟩ : ∃ b, s[i] = b := ⟨_, rfl⟩
   have hb2 : s.data.toList[i]? = some b := by
    rw [List.getElem?_eq_getElem (by have := HLEN.out; omega), ← hb]; rfl
   have HB := Hd hb2
   have HB2 := Hd hb
   clear hb hb2
   go_wp2_with fail
   rw [HB2.out]
   refine (idx_any b _).mono ?_
   rintro e w' ⟨rfl, rfl⟩
   rcases hk : Ta.rank b with _ | k
   ·have e1 : rk b = -1 := by simp [rk, hk]
    have hm : (-1 : Int) < (r : Int) := by omega
    rw [e1]
    have hz : Ta.worth s.data.toList = none := by rw [HW.out, drop_cell HB.out]; exact Ta.scan_none hk
    have HZ := Hd hz
    clear hz e1 hk
    go_wp2_with fail
    refine bodyPost_ret (v := .tuple #[.agg #[.int .i64 c0, .int .i64 c1, .int .i64 c2, .int .i64 c3], .bool false]) (by simp [results, Tryz.results87, go_sem]) rfl ⟨⟨c0, c1, c2, c3, by rw [HZ.out]; rfl, by rw [HZ.out]; intro v hv; cases hv⟩, ((Below.refl _ _).alloc (Nat.le_refl _) _).alloc (by simp) _⟩
   ·have e1 : rk b = (k : Int) := by simp [rk, hk]
    have hk4 := Ta.rank_lt hk
    have HK := Hd hk
    rw [e1]
    clear e1 hk
    have hkk : k = 0 ∨ k = 1 ∨ k = 2 ∨ k = 3 := by omega
    clear hk4
    rcases hkk with rfl | rfl | rfl | rfl
    ·by_cases hkr : 0 < r
     ·have hi2 : ((0 : Int)) < (r : Int) := by omega
      have hz : Ta.worth s.data.toList = none := by rw [HW.out, drop_cell HB.out]; exact Ta.scan_back HK.out hkr
      have HZ := Hd hz
      clear hz
      go_wp2_with fail
      refine bodyPost_ret (v := .tuple #[.agg #[.int .i64 c0, .int .i64 c1, .int .i64 c2, .int .i64 c3], .bool false]) (by simp [results, Tryz.results87, go_sem]) rfl ⟨⟨c0, c1, c2, c3, by rw [HZ.out]; rfl, by rw [HZ.out]; intro v hv; cases hv⟩, ((Below.refl _ _).alloc (Nat.le_refl _) _).alloc (by simp) _⟩
     ·have hi2 : ¬ ((0 : Int)) < (r : Int) := by omega
      have hd2 : decide ((0 : Int) < (r : Int)) = false := decide_eq_false hi2
      by_cases h9 : c0 = 9
      ·have hz : Ta.worth s.data.toList = none := by rw [HW.out, drop_cell HB.out]; exact Ta.scan_many HK.out hkr (HC.out.full.1 hkr h9)
       have HZ := Hd hz
       clear hz
       go_wp2_with fail
       refine bodyPost_ret (v := .tuple #[.agg #[.int .i64 c0, .int .i64 c1, .int .i64 c2, .int .i64 c3], .bool false]) (by simp [results, Tryz.results87, go_sem, h9]) rfl ⟨⟨c0, c1, c2, c3, by rw [HZ.out]; rfl, by rw [HZ.out]; intro v hv; cases hv⟩, ((Below.refl _ _).alloc (Nat.le_refl _) _).alloc (by simp) _⟩
      ·have hbd := HC.out.hi
       have hbl := HC.out.lo
       have h92 : (c0 == 9) = false := by simpa using h9
       have hp := HC.out.put.1 hkr h9
       have hz : Ta.worth s.data.toList = Ta.scan (s.data.toList.drop (i + 1)) 0 (if 0 = r then m + 1 else 1) (t + Ta.weight 0) := by rw [HW.out, drop_cell HB.out]; exact Ta.scan_on HK.out hkr hp.2
       have HP := Hd hp.1
       have HZ := Hd hz
       have b0 : ¬ (c0 + 1 < -9223372036854775808) := by omega
       have b1 : ¬ (c0 + 1 > 9223372036854775807) := by omega
       clear hp hz hbd hbl
       go_wp2_with fail
       refine ⟨⟨i + 1, 0, _, _, _, _, _, _, by omega, rfl, by go_num, HP.out, HZ.out, rfl⟩, ?_⟩
       simp [intOf]
       omega
    ·by_cases hkr : 1 < r
     ·have hi2 : ((1 : Int)) < (r : Int) := by omega
      have hz : Ta.worth s.data.toList = none := by rw [HW.out, drop_cell HB.out]; exact Ta.scan_back HK.out hkr
      have HZ := Hd hz
      clear hz
      go_wp2_with fail
      refine bodyPost_ret (v := .tuple #[.agg #[.int .i64 c0, .int .i64 c1, .int .i64 c2, .int .i64 c3], .bool false]) (by simp [results, Tryz.results87, go_sem]) rfl ⟨⟨c0, c1, c2, c3, by rw [HZ.out]; rfl, by rw [HZ.out]; intro v hv; cases hv⟩, ((Below.refl _ _).alloc (Nat.le_refl _) _).alloc (by simp) _⟩
     ·have hi2 : ¬ ((1 : Int)) < (r : Int) := by omega
      have hd2 : decide ((1 : Int) < (r : Int)) = false := decide_eq_false hi2
      by_cases h9 : c1 = 9
      ·have hz : Ta.worth s.data.toList = none := by rw [HW.out, drop_cell HB.out]; exact Ta.scan_many HK.out hkr (HC.out.full.2.1 hkr h9)
       have HZ := Hd hz
       clear hz
       go_wp2_with fail
       refine bodyPost_ret (v := .tuple #[.agg #[.int .i64 c0, .int .i64 c1, .int .i64 c2, .int .i64 c3], .bool false]) (by simp [results, Tryz.results87, go_sem, h9]) rfl ⟨⟨c0, c1, c2, c3, by rw [HZ.out]; rfl, by rw [HZ.out]; intro v hv; cases hv⟩, ((Below.refl _ _).alloc (Nat.le_refl _) _).alloc (by simp) _⟩
      ·have hbd := HC.out.hi
       have hbl := HC.out.lo
       have h92 : (c1 == 9) = false := by simpa using h9
       have hp := HC.out.put.2.1 hkr h9
       have hz : Ta.worth s.data.toList = Ta.scan (s.data.toList.drop (i + 1)) 1 (if 1 = r then m + 1 else 1) (t + Ta.weight 1) := by rw [HW.out, drop_cell HB.out]; exact Ta.scan_on HK.out hkr hp.2
       have HP := Hd hp.1
       have HZ := Hd hz
       have b0 : ¬ (c1 + 1 < -9223372036854775808) := by omega
       have b1 : ¬ (c1 + 1 > 9223372036854775807) := by omega
       clear hp hz hbd hbl
       go_wp2_with fail
       refine ⟨⟨i + 1, 1, _, _, _, _, _, _, by omega, rfl, by go_num, HP.out, HZ.out, rfl⟩, ?_⟩
       simp [intOf]
       omega
    ·by_cases hkr : 2 < r
     ·have hi2 : ((2 : Int)) < (r : Int) := by omega
      have hz : Ta.worth s.data.toList = none := by rw [HW.out, drop_cell HB.out]; exact Ta.scan_back HK.out hkr
      have HZ := Hd hz
      clear hz
      go_wp2_with fail
      refine bodyPost_ret (v := .tuple #[.agg #[.int .i64 c0, .int .i64 c1, .int .i64 c2, .int .i64 c3], .bool false]) (by simp [results, Tryz.results87, go_sem]) rfl ⟨⟨c0, c1, c2, c3, by rw [HZ.out]; rfl, by rw [HZ.out]; intro v hv; cases hv⟩, ((Below.refl _ _).alloc (Nat.le_refl _) _).alloc (by simp) _⟩
     ·have hi2 : ¬ ((2 : Int)) < (r : Int) := by omega
      have hd2 : decide ((2 : Int) < (r : Int)) = false := decide_eq_false hi2
      by_cases h9 : c2 = 9
      ·have hz : Ta.worth s.data.toList = none := by rw [HW.out, drop_cell HB.out]; exact Ta.scan_many HK.out hkr (HC.out.full.2.2.1 hkr h9)
       have HZ := Hd hz
       clear hz
       go_wp2_with fail
       refine bodyPost_ret (v := .tuple #[.agg #[.int .i64 c0, .int .i64 c1, .int .i64 c2, .int .i64 c3], .bool false]) (by simp [results, Tryz.results87, go_sem, h9]) rfl ⟨⟨c0, c1, c2, c3, by rw [HZ.out]; rfl, by rw [HZ.out]; intro v hv; cases hv⟩, ((Below.refl _ _).alloc (Nat.le_refl _) _).alloc (by simp) _⟩
      ·have hbd := HC.out.hi
       have hbl := HC.out.lo
       have h92 : (c2 == 9) = false := by simpa using h9
       have hp := HC.out.put.2.2.1 hkr h9
       have hz : Ta.worth s.data.toList = Ta.scan (s.data.toList.drop (i + 1)) 2 (if 2 = r then m + 1 else 1) (t + Ta.weight 2) := by rw [HW.out, drop_cell HB.out]; exact Ta.scan_on HK.out hkr hp.2
       have HP := Hd hp.1
       have HZ := Hd hz
       have b0 : ¬ (c2 + 1 < -9223372036854775808) := by omega
       have b1 : ¬ (c2 + 1 > 9223372036854775807) := by omega
       clear hp hz hbd hbl
       go_wp2_with fail
       refine ⟨⟨i + 1, 2, _, _, _, _, _, _, by omega, rfl, by go_num, HP.out, HZ.out, rfl⟩, ?_⟩
       simp [intOf]
       omega
    ·by_cases hkr : 3 < r
     ·have hi2 : ((3 : Int)) < (r : Int) := by omega
      have hz : Ta.worth s.data.toList = none := by rw [HW.out, drop_cell HB.out]; exact Ta.scan_back HK.out hkr
      have HZ := Hd hz
      clear hz
      go_wp2_with fail
      refine bodyPost_ret (v := .tuple #[.agg #[.int .i64 c0, .int .i64 c1, .int .i64 c2, .int .i64 c3], .bool false]) (by simp [results, Tryz.results87, go_sem]) rfl ⟨⟨c0, c1, c2, c3, by rw [HZ.out]; rfl, by rw [HZ.out]; intro v hv; cases hv⟩, ((Below.refl _ _).alloc (Nat.le_refl _) _).alloc (by simp) _⟩
     ·have hi2 : ¬ ((3 : Int)) < (r : Int) := by omega
      have hd2 : decide ((3 : Int) < (r : Int)) = false := decide_eq_false hi2
      by_cases h9 : c3 = 9
      ·have hz : Ta.worth s.data.toList = none := by rw [HW.out, drop_cell HB.out]; exact Ta.scan_many HK.out hkr (HC.out.full.2.2.2 hkr h9)
       have HZ := Hd hz
       clear hz
       go_wp2_with fail
       refine bodyPost_ret (v := .tuple #[.agg #[.int .i64 c0, .int .i64 c1, .int .i64 c2, .int .i64 c3], .bool false]) (by simp [results, Tryz.results87, go_sem, h9]) rfl ⟨⟨c0, c1, c2, c3, by rw [HZ.out]; rfl, by rw [HZ.out]; intro v hv; cases hv⟩, ((Below.refl _ _).alloc (Nat.le_refl _) _).alloc (by simp) _⟩
      ·have hbd := HC.out.hi
       have hbl := HC.out.lo
       have h92 : (c3 == 9) = false := by simpa using h9
       have hp := HC.out.put.2.2.2 hkr h9
       have hz : Ta.worth s.data.toList = Ta.scan (s.data.toList.drop (i + 1)) 3 (if 3 = r then m + 1 else 1) (t + Ta.weight 3) := by rw [HW.out, drop_cell HB.out]; exact Ta.scan_on HK.out hkr hp.2
       have HP := Hd hp.1
       have HZ := Hd hz
       have b0 : ¬ (c3 + 1 < -9223372036854775808) := by omega
       have b1 : ¬ (c3 + 1 > 9223372036854775807) := by omega
       clear hp hz hbd hbl
       go_wp2_with fail
       refine ⟨⟨i + 1, 3, _, _, _, _, _, _, by omega, rfl, by go_num, HP.out, HZ.out, rfl⟩, ?_⟩
       simp [intOf]
       omega
  ·obtain rfl : i = s.size := by omega
   have hz : Ta.worth s.data.toList = some t := by rw [HW.out, List.drop_of_length_le (by have := HLEN.out; omega)]; rfl
   have HZ := Hd hz
   clear hz
   go_wp2_with fail
   refine bodyPost_ret (v := .tuple #[.agg #[.int .i64 c0, .int .i64 c1, .int .i64 c2, .int .i64 c3], .bool true]) (by simp [results, Tryz.results87, go_sem]) rfl ⟨⟨c0, c1, c2, c3, by rw [HZ.out]; rfl, fun v hv => ?_⟩, ((Below.refl _ _).alloc (Nat.le_refl _) _).alloc (by simp) _⟩
   rw [HZ.out] at hv
   injection hv with hv
   subst hv
   exact ⟨HC.out.sum, HC.out.lo.1, HC.out.lo.2.1, HC.out.lo.2.2.1, HC.out.lo.2.2.2, HC.out.hi.1, HC.out.hi.2.1, HC.out.hi.2.2.1, HC.out.hi.2.2.2⟩
theorem letterWorth_is (k : Nat) (K u : Int) (hK : K = (k : Int)) (hk : k < 4) (h : Ta.weight k = u) (w : World) : Calls Tryz.prog 88 #[.int .i64 K] w fun e w' => e = .returned (.int .i64 u) ∧ w = w' := hK ▸ h ▸ letterWorth_any k hk w
theorem slice_letter (k : Nat) (K K' : Int) (c : UInt8) (hk : k < 4) (hK : K = (k : Int)) (hK' : K' = (k : Int) + 1) (hc : (ByteArray.mk #[77, 67, 88, 73]).extract k (k + 1) = ⟨#[c]⟩) (w : World) :
  (Instr.slice 9 (.string ⟨#[77, 67, 88, 73]⟩) (some (.int .i64 K)) (some (.int .i64 K')) none).run Tryz.prog w = .ok (.string ⟨#[c]⟩) w := by
 subst hK
 subst hK'
 rw [run_slice_string w 9 _ _ _ _ _ Tryz.underlying9 (by omega) (by omega) (by show (k : Int) + 1 ≤ ((4 : Nat) : Int); omega)]
 have e1 : ((k : Int)).toNat = k := by omega
 have e2 : ((k : Int) + 1).toNat = k + 1 := by omega
 rw [e1, e2, hc]
theorem rep_any (s : ByteArray) (c : UInt8) (q : Nat) (hs : s = ⟨#[c]⟩) (hq : q ≤ 9999) (w : World) : Calls Tryz.prog 148 #[.string s, .int .i64 (q : Int)] w fun e w' => e = .returned (.string (txt (List.replicate q c))) ∧ Below w.heap.size w w' := by
 subst hs
 refine (Tryz.strings_Repeat ⟨#[c]⟩ q w (by omega) (by show 1 * q ≤ _; omega)).mono fun e w' h => ⟨?_, h.2⟩
 rw [h.1]
 have := Lib.repeatL_replicate c 1 q
 rw [Nat.mul_one] at this
 have e : Lib.repeatL (ByteArray.mk #[c]).data.toList q = List.replicate q c := this
 rw [e]; rfl
theorem run_index_four (c0 c1 c2 c3 : Int) : (∀ w, (Instr.index 129 (.agg #[.int .i64 c0, .int .i64 c1, .int .i64 c2, .int .i64 c3]) (.int .i64 0)).run Tryz.prog w = .ok (.int .i64 c0) w) ∧
  (∀ w, (Instr.index 129 (.agg #[.int .i64 c0, .int .i64 c1, .int .i64 c2, .int .i64 c3]) (.int .i64 1)).run Tryz.prog w = .ok (.int .i64 c1) w) ∧
  (∀ w, (Instr.index 129 (.agg #[.int .i64 c0, .int .i64 c1, .int .i64 c2, .int .i64 c3]) (.int .i64 2)).run Tryz.prog w = .ok (.int .i64 c2) w) ∧
  (∀ w, (Instr.index 129 (.agg #[.int .i64 c0, .int .i64 c1, .int .i64 c2, .int .i64 c3]) (.int .i64 3)).run Tryz.prog w = .ok (.int .i64 c3) w) := by
 obtain ⟨i0, hi, hz0, hz1, hz2⟩ := info_parts (show (Tryz.prog.info? 3).map (fun i => (i.zero, i.size, i.bytes)) = some (some (.int .i64 0), 1, 8) by kernel_rfl)
 refine ⟨fun w => ?_, fun w => ?_, fun w => ?_, fun w => ?_⟩ <;>
  simp [Instr.index, run_underlying Tryz.underlying129, asIntOf, go_sem, part, sizeOf, typeInfo, hi, hz1]
def worthB (s : ByteArray) : Int := (Ta.worth s.data.toList).getD (-1)
theorem NotchesWorth_any (s : ByteArray) (w : World) (hs : s.size ≤ 1099511627776) : Calls Tryz.prog 39 #[.string s] w fun e w' => e = .returned (.int .i64 (worthB s)) ∧ Below w.heap.size w w' := by
 go_enter Tryz.func39, Tryz.ntmps39
 go_wp2_with fail
 refine (notchCounts_any s w hs).mono ?_
 rintro e w1 ⟨⟨c0, c1, c2, c3, rfl, hc⟩, hb1⟩
 rcases hw : Ta.worth s.data.toList with _ | v
 ·have e1 : worthB s = -1 := by simp [worthB, hw]
  have HB := Hd (hb1.alloc hb1.size (.cells #[.int .i64 c0, .int .i64 c1, .int .i64 c2, .int .i64 c3] 129))
  have E := Hd e1
  clear hc e1 hw hb1
  simp only [Option.isSome_none]
  go_wp2_with fail
  go_ret
  exact ⟨ret_int E.out.symm, HB.out⟩
 ·obtain ⟨hv, l0, l1, l2, l3, u0, u1, u2, u3⟩ := hc v hw
  have e1 : worthB s = v := by simp [worthB, hw]
  have HB := Hd (hb1.alloc hb1.size (.cells #[.int .i64 c0, .int .i64 c1, .int .i64 c2, .int .i64 c3] 129))
  have E := Hd (e1.trans hv)
  obtain ⟨i0, i1, i2, i3⟩ := run_index_four c0 c1 c2 c3
  clear hc e1 hw hv hb1
  simp only [Option.isSome_some]
  go_wp2_with fail
  refine wp_loop_rounds 5 ?_
  rw [rounds_succ]
  go_wp2_with fail
  refine (letterWorth_is 0 0 1000 rfl (by omega) rfl _).mono ?_
  rintro e w' ⟨rfl, rfl⟩
  go_wp2_with fail
  rw [rounds_succ]
  go_wp2_with fail
  refine (letterWorth_is 1 1 100 rfl (by omega) rfl _).mono ?_
  rintro e w' ⟨rfl, rfl⟩
  go_wp2_with fail
  rw [rounds_succ]
  go_wp2_with fail
  refine (letterWorth_is 2 2 10 rfl (by omega) rfl _).mono ?_
  rintro e w' ⟨rfl, rfl⟩
  go_wp2_with fail
  rw [rounds_succ]
  go_wp2_with fail
  refine (letterWorth_is 3 3 1 rfl (by omega) rfl _).mono ?_
  rintro e w' ⟨rfl, rfl⟩
  go_wp2_with fail
  rw [rounds_succ]
  go_wp2_with fail
  go_ret
  exact ⟨ret_int (by rw [E.out]; omega), HB.out⟩
def validB (s : ByteArray) : Bool := (Ta.worth s.data.toList).isSome
theorem NotchesValid_any (s : ByteArray) (w : World) (hs : s.size ≤ 1099511627776) : Calls Tryz.prog 145 #[.string s] w fun e w' => e = .returned (.bool (validB s)) ∧ Below w.heap.size w w' := by
 go_enter Tryz.func145, Tryz.ntmps145
 go_wp2_with fail
 refine (notchCounts_any s w hs).mono ?_
 rintro e w1 ⟨⟨c0, c1, c2, c3, rfl, hc⟩, hb1⟩
 have HB := Hd (hb1.alloc hb1.size (.cells #[.int .i64 c0, .int .i64 c1, .int .i64 c2, .int .i64 c3] 129))
 clear hc hb1
 go_wp2_with fail
 go_ret
 exact ⟨rfl, HB.out⟩
def rest (n : Nat) : Nat → Nat
 | 0 => n
 | 1 => n % 1000
 | 2 => n % 100
 | 3 => n % 10
 | _ => 0
def pre (n : Nat) : Nat → List UInt8
 | 0 => []
 | 1 => List.replicate (n / 1000) 77
 | 2 => List.replicate (n / 1000) 77 ++ List.replicate (n / 100 % 10) 67
 | 3 => List.replicate (n / 1000) 77 ++ List.replicate (n / 100 % 10) 67 ++ List.replicate (n / 10 % 10) 88
 | _ => Ta.ntext n
theorem of_step {n k : Nat} (W : Int) (c : UInt8) (m : Nat) (t : ByteArray) (ht : t = txt (pre n k)) (m' q : Nat) (h1 : rest n (k + 1) = m') (h2 : ((m : Nat) : Int).tdiv W = q) (h3 : ((m : Nat) : Int).tmod W = m')
  (h4 : pre n (k + 1) = pre n k ++ List.replicate q c) (h5 : q ≤ 9999) (h6 : (pre n k).length ≤ 9999) :
  ∃ (m' q : Nat) (u : ByteArray), m' = rest n (k + 1) ∧ q ≤ 9999 ∧ ((m : Nat) : Int).tdiv W = q ∧ ((m : Nat) : Int).tmod W = m' ∧ t ++ txt (List.replicate q c) = u ∧ ¬ (t.size + (txt (List.replicate q c)).size > 9223372036854775807) ∧ u = txt (pre n (k + 1)) := by
 subst ht
 exact ⟨m', q, txt (pre n (k + 1)), h1.symm, h5, h2, h3, by rw [h4, txt_append], by rw [txt_size, txt_size, List.length_replicate]; omega, rfl⟩
theorem wrap_nat {n : Nat} (h : n ≤ 1000000) : IntKind.i64.wrap (n : Int) = (n : Int) := IntWalk.i64_in _ (by omega)
theorem rest_bd (n k : Nat) (h : n ≤ 9999) : rest n k ≤ 1000000 := by
 unfold rest
 split <;> omega
theorem tdiv_nat (m k : Nat) : ((m : Nat) : Int).tdiv (k : Int) = ((m / k : Nat) : Int) := rfl
theorem tmod_nat (m k : Nat) : ((m : Nat) : Int).tmod (k : Int) = ((m % k : Nat) : Int) := rfl
theorem of_step0 (n m : Nat) (t : ByteArray) (hn : n ≤ 9999) (hm : m = rest n 0) (ht : t = txt (pre n 0)) :
  ∃ (m' q : Nat) (u : ByteArray), m' = rest n 1 ∧ q ≤ 9999 ∧ ((m : Nat) : Int).tdiv 1000 = q ∧ ((m : Nat) : Int).tmod 1000 = m' ∧ t ++ txt (List.replicate q 77) = u ∧ ¬ (t.size + (txt (List.replicate q 77)).size > 9223372036854775807) ∧ u = txt (pre n 1) := by
 subst hm
 exact of_step 1000 77 _ t ht (rest m 1) (m / 1000) rfl (tdiv_nat _ 1000) (tmod_nat _ 1000) (by simp [pre]) (by omega) (by simp [pre])
theorem of_step1 (n m : Nat) (t : ByteArray) (hn : n ≤ 9999) (hm : m = rest n 1) (ht : t = txt (pre n 1)) :
  ∃ (m' q : Nat) (u : ByteArray), m' = rest n 2 ∧ q ≤ 9999 ∧ ((m : Nat) : Int).tdiv 100 = q ∧ ((m : Nat) : Int).tmod 100 = m' ∧ t ++ txt (List.replicate q 67) = u ∧ ¬ (t.size + (txt (List.replicate q 67)).size > 9223372036854775807) ∧ u = txt (pre n 2) := by
 subst hm
 exact of_step 100 67 _ t ht (rest n 2) (n / 100 % 10) rfl ((tdiv_nat _ 100).trans (by simp only [rest]; congr 1 <;> omega)) ((tmod_nat _ 100).trans (by simp only [rest]; congr 1 <;> omega)) (by simp [pre]) (by omega) (by simp [pre] <;> omega)
theorem of_step2 (n m : Nat) (t : ByteArray) (hn : n ≤ 9999) (hm : m = rest n 2) (ht : t = txt (pre n 2)) :
  ∃ (m' q : Nat) (u : ByteArray), m' = rest n 3 ∧ q ≤ 9999 ∧ ((m : Nat) : Int).tdiv 10 = q ∧ ((m : Nat) : Int).tmod 10 = m' ∧ t ++ txt (List.replicate q 88) = u ∧ ¬ (t.size + (txt (List.replicate q 88)).size > 9223372036854775807) ∧ u = txt (pre n 3) := by
 subst hm
 exact of_step 10 88 _ t ht (rest n 3) (n / 10 % 10) rfl ((tdiv_nat _ 10).trans (by simp only [rest]; congr 1 <;> omega)) ((tmod_nat _ 10).trans (by simp only [rest]; congr 1 <;> omega)) (by simp [pre]) (by omega) (by simp [pre] <;> omega)
theorem of_step3 (n m : Nat) (t : ByteArray) (hn : n ≤ 9999) (hm : m = rest n 3) (ht : t = txt (pre n 3)) :
  ∃ (m' q : Nat) (u : ByteArray), m' = rest n 4 ∧ q ≤ 9999 ∧ ((m : Nat) : Int).tdiv 1 = q ∧ ((m : Nat) : Int).tmod 1 = m' ∧ t ++ txt (List.replicate q 73) = u ∧ ¬ (t.size + (txt (List.replicate q 73)).size > 9223372036854775807) ∧ u = txt (pre n 4) := by
 subst hm
 exact of_step 1 73 _ t ht (rest n 4) (n % 10) rfl ((tdiv_nat _ 1).trans (by simp only [rest]; congr 1 <;> omega)) ((tmod_nat _ 1).trans (by simp only [rest]; congr 1 <;> omega)) (by simp [pre, Ta.ntext, Ta.notes]) (by omega) (by simp [pre] <;> omega)
theorem NotchesOf_no (v : Int) (h : v < 0 ∨ 9999 < v) (w : World) : Calls Tryz.prog 118 #[.int .i64 v] w fun e w' => e = .returned (.tuple #[.string ⟨#[]⟩, .bool false]) ∧ w = w' := by
 by_cases h0 : v < 0
 ·go_enter Tryz.func118, Tryz.ntmps118
  go_wp2
  go_ret2
  exact ⟨rfl, rfl⟩
 ·have h1 : v > 9999 := by omega
  go_enter Tryz.func118, Tryz.ntmps118
  go_wp2
  go_ret2
  exact ⟨rfl, rfl⟩
theorem NotchesOf_yes (n : Nat) (hn : n ≤ 9999) (w : World) : Calls Tryz.prog 118 #[.int .i64 (n : Int)] w fun e w' => e = .returned (.tuple #[.string (txt (Ta.ntext n)), .bool true]) ∧ Below w.heap.size w w' := by
 have h0 : ¬ (n : Int) < 0 := by omega
 have h1 : ¬ (n : Int) > 9999 := by omega
 go_enter Tryz.func118, Tryz.ntmps118
 go_wp2
 go_loopw [0, 4, 5] (fun vv tv iv wr => ∃ (k m : Nat) (t : ByteArray), k ≤ 4 ∧ vv = .int .i64 (m : Int) ∧ tv = .string t ∧ iv = .int .i64 (k : Int) ∧ m = rest n k ∧ t = txt (pre n k) ∧ Below w.heap.size w wr) (fun _ _ iv _ => 4 - (intOf iv).toNat)
 case atStart => exact ⟨0, n, _, by omega, rfl, rfl, rfl, rfl, rfl, Below.refl _ _⟩
 case round =>
  obtain ⟨k, m, t, hk, rfl, rfl, rfl, hm, ht, hbr⟩ := hrel
  have HBR := Hd hbr
  clear hbr
  by_cases h4 : k < 4
  ·have hkk : k = 0 ∨ k = 1 ∨ k = 2 ∨ k = 3 := by omega
   clear hk h4
   rcases hkk with rfl | rfl | rfl | rfl
   ·obtain ⟨m', q, u, hm2, hq1, hq, hrm, hcat, hno, hu⟩ := of_step0 n m t hn hm ht
    have hwr : IntKind.i64.wrap 1 = 1 := by decide
    have hsl := slice_letter 0 0 1 77 (by omega) rfl rfl rfl
    have HM2 := Hd hm2
    have HQ := Hd hq1
    have HU := Hd hu
    have hwq := wrap_nat (n := q) (by omega)
    have hwm := wrap_nat (n := m') (by rw [hm2]; exact rest_bd n 1 hn)
    clear hm2 hq1 hu hm ht
    go_wp2_with fail
    refine wp_region_held_drew (S := (fun _ => True)) (by kernel_rfl) ?_ (fun hHeld => ?_)
    ·(try dsimp only)
     all_goals (trivial)
    refine Tk 0 (some 16) (v := ?v1) rfl (Or.inl ⟨by rfl, ?hy1⟩) (by first | assumption | exact hHeld) ?rest1
    case hy1 => ((intro w0 hSw; (try dsimp only at hSw); go_simp) <;> with_reducible rfl)
    (try simp only [Tp0, Tp1, Tp2, Tp3, Tp4])
    refine Tk 1 (some 17) (v := ?v2) rfl (Or.inl ⟨by rfl, ?hy2⟩) (by first | assumption | exact hHeld) ?rest2
    case hy2 => ((intro w0 hSw; (try dsimp only at hSw); go_simp) <;> with_reducible rfl)
    (try simp only [Tp0, Tp1, Tp2, Tp3, Tp4])
    refine Tk 2 (some 18) (v := ?v3) rfl (Or.inl ⟨by rfl, ?hy3⟩) (by first | assumption | exact hHeld) ?rest3
    case hy3 => ((intro w0 hSw; (try dsimp only at hSw); go_simp) <;> with_reducible rfl)
    (try simp only [Tp0, Tp1, Tp2, Tp3, Tp4])
    refine Tk 3 (some 19) (v := ?v4) rfl (Or.inl ⟨by rfl, ?hy4⟩) (by first | assumption | exact hHeld) ?rest4
    case hy4 => ((intro w0 hSw; (try dsimp only at hSw); go_simp) <;> with_reducible rfl)
    (try simp only [Tp0, Tp1, Tp2, Tp3, Tp4])
    refine Tk 4 (some 20) (v := ?v5) rfl (Or.inl ⟨by rfl, ?hy5⟩) (by first | assumption | exact hHeld) ?rest5
    case hy5 => ((intro w0 hSw; (try dsimp only at hSw); go_simp) <;> with_reducible rfl)
    (try simp only [Tp0, Tp1, Tp2, Tp3, Tp4])
    refine Tk 5 (some 21) (v := ?v6) rfl (Or.inl ⟨by rfl, ?hy6⟩) (by first | assumption | exact hHeld) ?rest6
    case hy6 => ((intro w0 hSw; (try dsimp only at hSw); go_simp) <;> with_reducible rfl)
    (try simp only [Tp0, Tp1, Tp2, Tp3, Tp4])
    refine Tk 6 (some 22) (v := ?v7) rfl (Or.inl ⟨by rfl, ?hy7⟩) (by first | assumption | exact hHeld) ?rest7
    case hy7 => ((intro w0 hSw; (try dsimp only at hSw); go_simp) <;> with_reducible rfl)
    (try simp only [Tp0, Tp1, Tp2, Tp3, Tp4])
    refine wpAnyH_ready (rs := [7]) (by kernel_rfl) (by simp) ?_
    refine AllReadyH.cons (o := ⟨some 23, _, _, _, _, _⟩) rfl (fun K hK => ?_) ?_
    ·go_simp
     refine (letterWorth_is 0 0 1000 rfl (by omega) rfl _).mono ?_
     rintro e wy ⟨rfl, rfl⟩
     (try go_wp2_with fail)
     refine hK.out _ _ ?_ (fun hHeld8 => ?_)
     ·(try dsimp only)
      all_goals (trivial)
     clear hK K
     (try clear hHeld)
     (try simp only [Tp0, Tp1, Tp2, Tp3, Tp4])
     refine Tk 8 (some 24) (v := ?v9) rfl (Or.inl ⟨by rfl, ?hy9⟩) (by first | assumption | exact hHeld8) ?rest9
     case hy9 => ((intro w0 hSw; (try dsimp only at hSw); go_simp) <;> with_reducible rfl)
     (try simp only [Tp0, Tp1, Tp2, Tp3, Tp4])
     refine wpAnyH_ready (rs := [9]) (by kernel_rfl) (by simp) ?_
     refine AllReadyH.cons (o := ⟨some 25, _, _, _, _, _⟩) rfl (fun K hK => ?_) ?_
     ·go_simp
      refine (rep_any _ 77 q rfl HQ.out _).mono ?_
      rintro e wz ⟨rfl, hbz⟩
      have HBZ := Hd hbz
      clear hbz
      (try go_wp2_with fail)
      refine hK.out _ _ ?_ (fun hHeld10 => ?_)
      ·(try dsimp only)
       all_goals (trivial)
      clear hK K
      (try clear hHeld8)
      (try simp only [Tp0, Tp1, Tp2, Tp3, Tp4])
      refine Tk 10 (some 26) (v := ?v11) rfl (Or.inl ⟨by rfl, ?hy11⟩) (by first | assumption | exact hHeld10) ?rest11
      case hy11 => ((intro w0 hSw; (try dsimp only at hSw); go_simp) <;> with_reducible rfl)
      (try simp only [Tp0, Tp1, Tp2, Tp3, Tp4])
      refine Tk 11 (some 4) (v := ?v12) rfl (Or.inl ⟨by rfl, ?hy12⟩) (by first | assumption | exact hHeld10) ?rest12
      case hy12 => ((intro w0 hSw; (try dsimp only at hSw); go_simp) <;> with_reducible rfl)
      (try simp only [Tp0, Tp1, Tp2, Tp3, Tp4])
      refine wpAnyH_done (by kernel_rfl) ?_ _
      go_wp2_with fail
      refine (letterWorth_is 0 0 1000 rfl (by omega) rfl _).mono ?_
      rintro e wy ⟨rfl, rfl⟩
      go_wp2_with fail
      refine ⟨⟨1, m', u, by omega, rfl, rfl, rfl, HM2.out, HU.out, HBR.out.drew.trans (HBZ.out.mono HBR.out.size)⟩, ?_⟩
      simp [intOf]
     exact AllReadyH.nil
    exact AllReadyH.nil
   ·obtain ⟨m', q, u, hm2, hq1, hq, hrm, hcat, hno, hu⟩ := of_step1 n m t hn hm ht
    have hwr : IntKind.i64.wrap 2 = 2 := by decide
    have hsl := slice_letter 1 1 2 67 (by omega) rfl rfl rfl
    have HM2 := Hd hm2
    have HQ := Hd hq1
    have HU := Hd hu
    have hwq := wrap_nat (n := q) (by omega)
    have hwm := wrap_nat (n := m') (by rw [hm2]; exact rest_bd n 2 hn)
    clear hm2 hq1 hu hm ht
    go_wp2_with fail
    refine wp_region_held_drew (S := (fun _ => True)) (by kernel_rfl) ?_ (fun hHeld => ?_)
    ·(try dsimp only)
     all_goals (trivial)
    refine Tk 0 (some 16) (v := ?v101) rfl (Or.inl ⟨by rfl, ?hy101⟩) (by first | assumption | exact hHeld) ?rest101
    case hy101 => ((intro w0 hSw; (try dsimp only at hSw); go_simp) <;> with_reducible rfl)
    (try simp only [Tp0, Tp1, Tp2, Tp3, Tp4])
    refine Tk 1 (some 17) (v := ?v102) rfl (Or.inl ⟨by rfl, ?hy102⟩) (by first | assumption | exact hHeld) ?rest102
    case hy102 => ((intro w0 hSw; (try dsimp only at hSw); go_simp) <;> with_reducible rfl)
    (try simp only [Tp0, Tp1, Tp2, Tp3, Tp4])
    refine Tk 2 (some 18) (v := ?v103) rfl (Or.inl ⟨by rfl, ?hy103⟩) (by first | assumption | exact hHeld) ?rest103
    case hy103 => ((intro w0 hSw; (try dsimp only at hSw); go_simp) <;> with_reducible rfl)
    (try simp only [Tp0, Tp1, Tp2, Tp3, Tp4])
    refine Tk 3 (some 19) (v := ?v104) rfl (Or.inl ⟨by rfl, ?hy104⟩) (by first | assumption | exact hHeld) ?rest104
    case hy104 => ((intro w0 hSw; (try dsimp only at hSw); go_simp) <;> with_reducible rfl)
    (try simp only [Tp0, Tp1, Tp2, Tp3, Tp4])
    refine Tk 4 (some 20) (v := ?v105) rfl (Or.inl ⟨by rfl, ?hy105⟩) (by first | assumption | exact hHeld) ?rest105
    case hy105 => ((intro w0 hSw; (try dsimp only at hSw); go_simp) <;> with_reducible rfl)
    (try simp only [Tp0, Tp1, Tp2, Tp3, Tp4])
    refine Tk 5 (some 21) (v := ?v106) rfl (Or.inl ⟨by rfl, ?hy106⟩) (by first | assumption | exact hHeld) ?rest106
    case hy106 => ((intro w0 hSw; (try dsimp only at hSw); go_simp) <;> with_reducible rfl)
    (try simp only [Tp0, Tp1, Tp2, Tp3, Tp4])
    refine Tk 6 (some 22) (v := ?v107) rfl (Or.inl ⟨by rfl, ?hy107⟩) (by first | assumption | exact hHeld) ?rest107
    case hy107 => ((intro w0 hSw; (try dsimp only at hSw); go_simp) <;> with_reducible rfl)
    (try simp only [Tp0, Tp1, Tp2, Tp3, Tp4])
    refine wpAnyH_ready (rs := [7]) (by kernel_rfl) (by simp) ?_
    refine AllReadyH.cons (o := ⟨some 23, _, _, _, _, _⟩) rfl (fun K hK => ?_) ?_
    ·go_simp
     refine (letterWorth_is 1 1 100 rfl (by omega) rfl _).mono ?_
     rintro e wy ⟨rfl, rfl⟩
     (try go_wp2_with fail)
     refine hK.out _ _ ?_ (fun hHeld108 => ?_)
     ·(try dsimp only)
      all_goals (trivial)
     clear hK K
     (try clear hHeld)
     (try simp only [Tp0, Tp1, Tp2, Tp3, Tp4])
     refine Tk 8 (some 24) (v := ?v109) rfl (Or.inl ⟨by rfl, ?hy109⟩) (by first | assumption | exact hHeld108) ?rest109
     case hy109 => ((intro w0 hSw; (try dsimp only at hSw); go_simp) <;> with_reducible rfl)
     (try simp only [Tp0, Tp1, Tp2, Tp3, Tp4])
     refine wpAnyH_ready (rs := [9]) (by kernel_rfl) (by simp) ?_
     refine AllReadyH.cons (o := ⟨some 25, _, _, _, _, _⟩) rfl (fun K hK => ?_) ?_
     ·go_simp
      refine (rep_any _ 67 q rfl HQ.out _).mono ?_
      rintro e wz ⟨rfl, hbz⟩
      have HBZ := Hd hbz
      clear hbz
      (try go_wp2_with fail)
      refine hK.out _ _ ?_ (fun hHeld110 => ?_)
      ·(try dsimp only)
       all_goals (trivial)
      clear hK K
      (try clear hHeld108)
      (try simp only [Tp0, Tp1, Tp2, Tp3, Tp4])
      refine Tk 10 (some 26) (v := ?v111) rfl (Or.inl ⟨by rfl, ?hy111⟩) (by first | assumption | exact hHeld110) ?rest111
      case hy111 => ((intro w0 hSw; (try dsimp only at hSw); go_simp) <;> with_reducible rfl)
      (try simp only [Tp0, Tp1, Tp2, Tp3, Tp4])
      refine Tk 11 (some 4) (v := ?v112) rfl (Or.inl ⟨by rfl, ?hy112⟩) (by first | assumption | exact hHeld110) ?rest112
      case hy112 => ((intro w0 hSw; (try dsimp only at hSw); go_simp) <;> with_reducible rfl)
      (try simp only [Tp0, Tp1, Tp2, Tp3, Tp4])
      refine wpAnyH_done (by kernel_rfl) ?_ _
      go_wp2_with fail
      refine (letterWorth_is 1 1 100 rfl (by omega) rfl _).mono ?_
      rintro e wy ⟨rfl, rfl⟩
      go_wp2_with fail
      refine ⟨⟨2, m', u, by omega, rfl, rfl, rfl, HM2.out, HU.out, HBR.out.drew.trans (HBZ.out.mono HBR.out.size)⟩, ?_⟩
      simp [intOf]
     exact AllReadyH.nil
    exact AllReadyH.nil
   ·obtain ⟨m', q, u, hm2, hq1, hq, hrm, hcat, hno, hu⟩ := of_step2 n m t hn hm ht
    have hwr : IntKind.i64.wrap 3 = 3 := by decide
    have hsl := slice_letter 2 2 3 88 (by omega) rfl rfl rfl
    have HM2 := Hd hm2
    have HQ := Hd hq1
    have HU := Hd hu
    have hwq := wrap_nat (n := q) (by omega)
    have hwm := wrap_nat (n := m') (by rw [hm2]; exact rest_bd n 3 hn)
    clear hm2 hq1 hu hm ht
    go_wp2_with fail
    refine wp_region_held_drew (S := (fun _ => True)) (by kernel_rfl) ?_ (fun hHeld => ?_)
    ·(try dsimp only)
     all_goals (trivial)
    refine Tk 0 (some 16) (v := ?v201) rfl (Or.inl ⟨by rfl, ?hy201⟩) (by first | assumption | exact hHeld) ?rest201
    case hy201 => ((intro w0 hSw; (try dsimp only at hSw); go_simp) <;> with_reducible rfl)
    (try simp only [Tp0, Tp1, Tp2, Tp3, Tp4])
    refine Tk 1 (some 17) (v := ?v202) rfl (Or.inl ⟨by rfl, ?hy202⟩) (by first | assumption | exact hHeld) ?rest202
    case hy202 => ((intro w0 hSw; (try dsimp only at hSw); go_simp) <;> with_reducible rfl)
    (try simp only [Tp0, Tp1, Tp2, Tp3, Tp4])
    refine Tk 2 (some 18) (v := ?v203) rfl (Or.inl ⟨by rfl, ?hy203⟩) (by first | assumption | exact hHeld) ?rest203
    case hy203 => ((intro w0 hSw; (try dsimp only at hSw); go_simp) <;> with_reducible rfl)
    (try simp only [Tp0, Tp1, Tp2, Tp3, Tp4])
    refine Tk 3 (some 19) (v := ?v204) rfl (Or.inl ⟨by rfl, ?hy204⟩) (by first | assumption | exact hHeld) ?rest204
    case hy204 => ((intro w0 hSw; (try dsimp only at hSw); go_simp) <;> with_reducible rfl)
    (try simp only [Tp0, Tp1, Tp2, Tp3, Tp4])
    refine Tk 4 (some 20) (v := ?v205) rfl (Or.inl ⟨by rfl, ?hy205⟩) (by first | assumption | exact hHeld) ?rest205
    case hy205 => ((intro w0 hSw; (try dsimp only at hSw); go_simp) <;> with_reducible rfl)
    (try simp only [Tp0, Tp1, Tp2, Tp3, Tp4])
    refine Tk 5 (some 21) (v := ?v206) rfl (Or.inl ⟨by rfl, ?hy206⟩) (by first | assumption | exact hHeld) ?rest206
    case hy206 => ((intro w0 hSw; (try dsimp only at hSw); go_simp) <;> with_reducible rfl)
    (try simp only [Tp0, Tp1, Tp2, Tp3, Tp4])
    refine Tk 6 (some 22) (v := ?v207) rfl (Or.inl ⟨by rfl, ?hy207⟩) (by first | assumption | exact hHeld) ?rest207
    case hy207 => ((intro w0 hSw; (try dsimp only at hSw); go_simp) <;> with_reducible rfl)
    (try simp only [Tp0, Tp1, Tp2, Tp3, Tp4])
    refine wpAnyH_ready (rs := [7]) (by kernel_rfl) (by simp) ?_
    refine AllReadyH.cons (o := ⟨some 23, _, _, _, _, _⟩) rfl (fun K hK => ?_) ?_
    ·go_simp
     refine (letterWorth_is 2 2 10 rfl (by omega) rfl _).mono ?_
     rintro e wy ⟨rfl, rfl⟩
     (try go_wp2_with fail)
     refine hK.out _ _ ?_ (fun hHeld208 => ?_)
     ·(try dsimp only)
      all_goals (trivial)
     clear hK K
     (try clear hHeld)
     (try simp only [Tp0, Tp1, Tp2, Tp3, Tp4])
     refine Tk 8 (some 24) (v := ?v209) rfl (Or.inl ⟨by rfl, ?hy209⟩) (by first | assumption | exact hHeld208) ?rest209
     case hy209 => ((intro w0 hSw; (try dsimp only at hSw); go_simp) <;> with_reducible rfl)
     (try simp only [Tp0, Tp1, Tp2, Tp3, Tp4])
     refine wpAnyH_ready (rs := [9]) (by kernel_rfl) (by simp) ?_
     refine AllReadyH.cons (o := ⟨some 25, _, _, _, _, _⟩) rfl (fun K hK => ?_) ?_
     ·go_simp
      refine (rep_any _ 88 q rfl HQ.out _).mono ?_
      rintro e wz ⟨rfl, hbz⟩
      have HBZ := Hd hbz
      clear hbz
      (try go_wp2_with fail)
      refine hK.out _ _ ?_ (fun hHeld210 => ?_)
      ·(try dsimp only)
       all_goals (trivial)
      clear hK K
      (try clear hHeld208)
      (try simp only [Tp0, Tp1, Tp2, Tp3, Tp4])
      refine Tk 10 (some 26) (v := ?v211) rfl (Or.inl ⟨by rfl, ?hy211⟩) (by first | assumption | exact hHeld210) ?rest211
      case hy211 => ((intro w0 hSw; (try dsimp only at hSw); go_simp) <;> with_reducible rfl)
      (try simp only [Tp0, Tp1, Tp2, Tp3, Tp4])
      refine Tk 11 (some 4) (v := ?v212) rfl (Or.inl ⟨by rfl, ?hy212⟩) (by first | assumption | exact hHeld210) ?rest212
      case hy212 => ((intro w0 hSw; (try dsimp only at hSw); go_simp) <;> with_reducible rfl)
      (try simp only [Tp0, Tp1, Tp2, Tp3, Tp4])
      refine wpAnyH_done (by kernel_rfl) ?_ _
      go_wp2_with fail
      refine (letterWorth_is 2 2 10 rfl (by omega) rfl _).mono ?_
      rintro e wy ⟨rfl, rfl⟩
      go_wp2_with fail
      refine ⟨⟨3, m', u, by omega, rfl, rfl, rfl, HM2.out, HU.out, HBR.out.drew.trans (HBZ.out.mono HBR.out.size)⟩, ?_⟩
      simp [intOf]
     exact AllReadyH.nil
    exact AllReadyH.nil
   ·obtain ⟨m', q, u, hm2, hq1, hq, hrm, hcat, hno, hu⟩ := of_step3 n m t hn hm ht
    have hwr : IntKind.i64.wrap 4 = 4 := by decide
    have hsl := slice_letter 3 3 4 73 (by omega) rfl rfl rfl
    have HM2 := Hd hm2
    have HQ := Hd hq1
    have HU := Hd hu
    have hwq := wrap_nat (n := q) (by omega)
    have hwm := wrap_nat (n := m') (by rw [hm2]; exact rest_bd n 4 hn)
    clear hm2 hq1 hu hm ht
    go_wp2_with fail
    refine wp_region_held_drew (S := (fun _ => True)) (by kernel_rfl) ?_ (fun hHeld => ?_)
    ·(try dsimp only)
     all_goals (trivial)
    refine Tk 0 (some 16) (v := ?v301) rfl (Or.inl ⟨by rfl, ?hy301⟩) (by first | assumption | exact hHeld) ?rest301
    case hy301 => ((intro w0 hSw; (try dsimp only at hSw); go_simp) <;> with_reducible rfl)
    (try simp only [Tp0, Tp1, Tp2, Tp3, Tp4])
    refine Tk 1 (some 17) (v := ?v302) rfl (Or.inl ⟨by rfl, ?hy302⟩) (by first | assumption | exact hHeld) ?rest302
    case hy302 => ((intro w0 hSw; (try dsimp only at hSw); go_simp) <;> with_reducible rfl)
    (try simp only [Tp0, Tp1, Tp2, Tp3, Tp4])
    refine Tk 2 (some 18) (v := ?v303) rfl (Or.inl ⟨by rfl, ?hy303⟩) (by first | assumption | exact hHeld) ?rest303
    case hy303 => ((intro w0 hSw; (try dsimp only at hSw); go_simp) <;> with_reducible rfl)
    (try simp only [Tp0, Tp1, Tp2, Tp3, Tp4])
    refine Tk 3 (some 19) (v := ?v304) rfl (Or.inl ⟨by rfl, ?hy304⟩) (by first | assumption | exact hHeld) ?rest304
    case hy304 => ((intro w0 hSw; (try dsimp only at hSw); go_simp) <;> with_reducible rfl)
    (try simp only [Tp0, Tp1, Tp2, Tp3, Tp4])
    refine Tk 4 (some 20) (v := ?v305) rfl (Or.inl ⟨by rfl, ?hy305⟩) (by first | assumption | exact hHeld) ?rest305
    case hy305 => ((intro w0 hSw; (try dsimp only at hSw); go_simp) <;> with_reducible rfl)
    (try simp only [Tp0, Tp1, Tp2, Tp3, Tp4])
    refine Tk 5 (some 21) (v := ?v306) rfl (Or.inl ⟨by rfl, ?hy306⟩) (by first | assumption | exact hHeld) ?rest306
    case hy306 => ((intro w0 hSw; (try dsimp only at hSw); go_simp) <;> with_reducible rfl)
    (try simp only [Tp0, Tp1, Tp2, Tp3, Tp4])
    refine Tk 6 (some 22) (v := ?v307) rfl (Or.inl ⟨by rfl, ?hy307⟩) (by first | assumption | exact hHeld) ?rest307
    case hy307 => ((intro w0 hSw; (try dsimp only at hSw); go_simp) <;> with_reducible rfl)
    (try simp only [Tp0, Tp1, Tp2, Tp3, Tp4])
    refine wpAnyH_ready (rs := [7]) (by kernel_rfl) (by simp) ?_
    refine AllReadyH.cons (o := ⟨some 23, _, _, _, _, _⟩) rfl (fun K hK => ?_) ?_
    ·go_simp
     refine (letterWorth_is 3 3 1 rfl (by omega) rfl _).mono ?_
     rintro e wy ⟨rfl, rfl⟩
     (try go_wp2_with fail)
     refine hK.out _ _ ?_ (fun hHeld308 => ?_)
     ·(try dsimp only)
      all_goals (trivial)
     clear hK K
     (try clear hHeld)
     (try simp only [Tp0, Tp1, Tp2, Tp3, Tp4])
     refine Tk 8 (some 24) (v := ?v309) rfl (Or.inl ⟨by rfl, ?hy309⟩) (by first | assumption | exact hHeld308) ?rest309
     case hy309 => ((intro w0 hSw; (try dsimp only at hSw); go_simp) <;> with_reducible rfl)
     (try simp only [Tp0, Tp1, Tp2, Tp3, Tp4])
     refine wpAnyH_ready (rs := [9]) (by kernel_rfl) (by simp) ?_
     refine AllReadyH.cons (o := ⟨some 25, _, _, _, _, _⟩) rfl (fun K hK => ?_) ?_
     ·go_simp
      refine (rep_any _ 73 q rfl HQ.out _).mono ?_
      rintro e wz ⟨rfl, hbz⟩
      have HBZ := Hd hbz
      clear hbz
      (try go_wp2_with fail)
      refine hK.out _ _ ?_ (fun hHeld310 => ?_)
      ·(try dsimp only)
       all_goals (trivial)
      clear hK K
      (try clear hHeld308)
      (try simp only [Tp0, Tp1, Tp2, Tp3, Tp4])
      refine Tk 10 (some 26) (v := ?v311) rfl (Or.inl ⟨by rfl, ?hy311⟩) (by first | assumption | exact hHeld310) ?rest311
      case hy311 => ((intro w0 hSw; (try dsimp only at hSw); go_simp) <;> with_reducible rfl)
      (try simp only [Tp0, Tp1, Tp2, Tp3, Tp4])
      refine Tk 11 (some 4) (v := ?v312) rfl (Or.inl ⟨by rfl, ?hy312⟩) (by first | assumption | exact hHeld310) ?rest312
      case hy312 => ((intro w0 hSw; (try dsimp only at hSw); go_simp) <;> with_reducible rfl)
      (try simp only [Tp0, Tp1, Tp2, Tp3, Tp4])
      refine wpAnyH_done (by kernel_rfl) ?_ _
      go_wp2_with fail
      refine (letterWorth_is 3 3 1 rfl (by omega) rfl _).mono ?_
      rintro e wy ⟨rfl, rfl⟩
      go_wp2_with fail
      refine ⟨⟨4, m', u, by omega, rfl, rfl, rfl, HM2.out, HU.out, HBR.out.drew.trans (HBZ.out.mono HBR.out.size)⟩, ?_⟩
      simp [intOf]
     exact AllReadyH.nil
    exact AllReadyH.nil
  ·obtain rfl : k = 4 := by omega
   have HT := Hd ht
   clear ht hm
   go_wp2
   go_ret2
   exact ⟨by rw [HT.out]; rfl, HBR.out⟩
def Two (a c : Int) : Prop := 0 ≤ a ∧ a < 5 ∧ 0 ≤ c ∧ c < 5 ∧ ¬ a = c
instance (a c : Int) : Decidable (Two a c) := by unfold Two; exact inferInstance
def twoB (a c : Int) : Bool := decide (Two a c)
theorem twoB_yes {a c : Int} (h : Two a c) : twoB a c = true := decide_eq_true h
theorem twoB_no {a c : Int} (h : ¬ Two a c) : twoB a c = false := decide_eq_false h
theorem different_any (a c : Int) (w : World) : Calls Tryz.prog 117 #[.agg #[.int .i64 a, .int .i64 c]] w fun e w' => e = .returned (.bool (twoB a c)) ∧ Below w.heap.size w w' := by
 by_cases h0 : 0 ≤ a
 rotate_left
 ·have h0' : ¬ (0 ≤ a) := h0
  have HT := Hd (twoB_no (a := a) (c := c) (by unfold Two; omega))
  go_enter Tryz.func117, Tryz.ntmps117
  go_wp2
  go_ret
  exact ⟨ret_bool (by rw [HT.out]), (Below.refl _ _).alloc (Nat.le_refl _) _⟩
 by_cases h1 : a < 5
 rotate_left
 ·have h1' : ¬ (a < 5) := h1
  have HT := Hd (twoB_no (a := a) (c := c) (by unfold Two; omega))
  go_enter Tryz.func117, Tryz.ntmps117
  go_wp2
  go_ret
  exact ⟨ret_bool (by rw [HT.out]), (Below.refl _ _).alloc (Nat.le_refl _) _⟩
 by_cases h2 : 0 ≤ c
 rotate_left
 ·have h2' : ¬ (0 ≤ c) := h2
  have HT := Hd (twoB_no (a := a) (c := c) (by unfold Two; omega))
  go_enter Tryz.func117, Tryz.ntmps117
  go_wp2
  go_ret
  exact ⟨ret_bool (by rw [HT.out]), (Below.refl _ _).alloc (Nat.le_refl _) _⟩
 by_cases h3 : c < 5
 rotate_left
 ·have h3' : ¬ (c < 5) := h3
  have HT := Hd (twoB_no (a := a) (c := c) (by unfold Two; omega))
  go_enter Tryz.func117, Tryz.ntmps117
  go_wp2
  go_ret
  exact ⟨ret_bool (by rw [HT.out]), (Below.refl _ _).alloc (Nat.le_refl _) _⟩
 by_cases h4 : a = c
 ·have h5 : (a == c) = true := by simpa using h4
  have h6 : (a != c) = false := by simpa using h4
  have HT := Hd (twoB_no (a := a) (c := c) (by unfold Two; omega))
  go_enter Tryz.func117, Tryz.ntmps117
  go_wp2
  go_ret
  exact ⟨ret_bool (by rw [HT.out]), (Below.refl _ _).alloc (Nat.le_refl _) _⟩
 ·have h5 : (a == c) = false := by simpa using h4
  have h6 : (a != c) = true := by simpa using h4
  have HT := Hd (twoB_yes ⟨h0, h1, h2, h3, h4⟩)
  go_enter Tryz.func117, Tryz.ntmps117
  go_wp2
  go_ret
  exact ⟨ret_bool (by rw [HT.out]), (Below.refl _ _).alloc (Nat.le_refl _) _⟩
theorem str_eq (a b : ByteArray) : (a.toList == b.toList) = decide (a = b) := by
 rw [ByteArray.toList_eq, ByteArray.toList_eq]
 by_cases h : a = b
 ·subst h; simp
 ·have h2 : ¬ a.data.toList = b.data.toList := fun e => h (by cases a; cases b; simp_all)
  rw [decide_eq_false h]
  simpa using h2
def matchB (t : Tl) : Bool := twoB t.a t.c && (validB t.s && decide (t.s = t.f))
theorem TallyMatches_any (t : Tl) (w : World) (hs : t.s.size ≤ 1099511627776) : Calls Tryz.prog 114 #[t.val] w fun e w' => e = .returned (.bool (matchB t)) ∧ Below w.heap.size w w' := by
 obtain ⟨a, c, s, f⟩ := t
 show Calls Tryz.prog 114 #[.agg #[.int .i64 a, .int .i64 c, .string s, .string f]] w _
 have hs' : s.size ≤ 1099511627776 := hs
 obtain ⟨W, hW⟩ : ∃ W, w.alloc (.cells #[.int .i64 a, .int .i64 c, .string s, .string f] 52) = W := ⟨_, rfl⟩
 have k0 : W.cell? ⟨w.heap.size, 0, none⟩ = some (.int .i64 a) := by rw [← hW, cell_of_row _ w.heap.size 0 _ _ _ (heap_alloc_new w _)]; rfl
 have k1 : W.cell? ⟨w.heap.size, 1, none⟩ = some (.int .i64 c) := by rw [← hW, cell_of_row _ w.heap.size 1 _ _ _ (heap_alloc_new w _)]; rfl
 have k2 : W.cell? ⟨w.heap.size, 2, none⟩ = some (.string s) := by rw [← hW, cell_of_row _ w.heap.size 2 _ _ _ (heap_alloc_new w _)]; rfl
 have k3 : W.cell? ⟨w.heap.size, 3, none⟩ = some (.string f) := by rw [← hW, cell_of_row _ w.heap.size 3 _ _ _ (heap_alloc_new w _)]; rfl
 have hlt : w.heap.size < W.heap.size := by rw [← hW]; simp
 have HB := Hd (show Below w.heap.size w W by rw [← hW]; exact (Below.refl _ _).alloc (Nat.le_refl _) _)
 have HW := Hd hW
 clear hW
 go_enter Tryz.func114, Tryz.ntmps114
 go_wp2_with fail
 rw [HW.out]
 go_wp2_with fail
 refine (different_any a c W).mono ?_
 rintro e w1 ⟨rfl, hb1⟩
 have k20 := (hb1.cell (p := ⟨w.heap.size, 2, none⟩) hlt).trans k2
 have k30 := (hb1.cell (p := ⟨w.heap.size, 3, none⟩) hlt).trans k3
 have hlt1 : w.heap.size < w1.heap.size := Nat.lt_of_lt_of_le hlt hb1.size
 have HB1 := Hd (HB.out.trans (hb1.mono HB.out.size))
 clear hb1 k0 k1 k2 k3
 rcases h2 : twoB a c with _ | _
 ·have HM := Hd (show matchB ⟨a, c, s, f⟩ = false by simp [matchB, h2])
  clear h2
  go_wp2
  go_ret
  exact ⟨ret_bool HM.out.symm, HB1.out⟩
 ·have H2 := Hd h2
  clear h2
  go_wp2_with fail
  refine (NotchesValid_any s w1 hs').mono ?_
  rintro e w2 ⟨rfl, hb2⟩
  have k21 := (hb2.cell (p := ⟨w.heap.size, 2, none⟩) hlt1).trans k20
  have k31 := (hb2.cell (p := ⟨w.heap.size, 3, none⟩) hlt1).trans k30
  have hlt2 : w.heap.size < w2.heap.size := Nat.lt_of_lt_of_le hlt1 hb2.size
  have HB2 := Hd (HB1.out.trans (hb2.mono HB1.out.size))
  clear hb2 k20 k30
  rcases hv : validB s with _ | _
  ·have HM := Hd (show matchB ⟨a, c, s, f⟩ = false by simp [matchB, hv])
   clear hv
   go_wp2
   go_ret
   exact ⟨ret_bool HM.out.symm, HB2.out⟩
  ·have HM := Hd (show matchB ⟨a, c, s, f⟩ = decide (s = f) by simp [matchB, H2.out, hv])
   clear hv
   go_wp2
   go_ret
   exact ⟨ret_bool ((str_eq s f).trans HM.out.symm), HB2.out⟩
def DebtOk (a c v : Int) : Prop := Two a c ∧ 1 ≤ v ∧ v ≤ 9999
def tallyOf (a c v : Int) : Tl := ⟨a, c, txt (Ta.ntext v.toNat), txt (Ta.ntext v.toNat)⟩
def noTl : Value := .agg #[.int .i64 0, .int .i64 0, .string ⟨#[]⟩, .string ⟨#[]⟩]
theorem Blk.set4 {w : World} {b : Nat} {ty : TypeId} {a0 a1 a2 a3 : Value} (h : Blk w b #[a0, a1, a2, a3] ty) (x0 x1 x2 x3 : Value) :
  Blk ((((w.setCell ⟨b, 0, none⟩ x0).setCell ⟨b, 1, none⟩ x1).setCell ⟨b, 2, none⟩ x2).setCell ⟨b, 3, none⟩ x3) b #[x0, x1, x2, x3] ty := by
 have := (((h.set 0 x0).set 1 x1).set 2 x2).set 3 x3
 simpa using this
theorem below_set4 {w0 w : World} {b B : Nat} (h : Below B w0 w) (hb : B ≤ b) (x0 x1 x2 x3 : Value) : Below B w0 ((((w.setCell ⟨b, 0, none⟩ x0).setCell ⟨b, 1, none⟩ x1).setCell ⟨b, 2, none⟩ x2).setCell ⟨b, 3, none⟩ x3) :=
 (((h.setCell (p := ⟨b, 0, none⟩) hb x0).setCell (p := ⟨b, 1, none⟩) hb x1).setCell (p := ⟨b, 2, none⟩) hb x2).setCell (p := ⟨b, 3, none⟩) hb x3
theorem tally_walk (a c v : Int) (w : World) : Calls Tryz.prog 84 #[.agg #[.int .i64 a, .int .i64 c, .int .i64 v]] w fun e w' =>
  ((DebtOk a c v ∧ e = .returned (.tuple #[(tallyOf a c v).val, .bool true])) ∨ (¬ DebtOk a c v ∧ e = .returned (.tuple #[noTl, .bool false]))) ∧ Below w.heap.size w w' := by
 obtain ⟨W, hW⟩ : ∃ W, (w.alloc (.cells #[.int .i64 a, .int .i64 c, .int .i64 v] 123)).alloc (.cells #[.int .i64 0, .int .i64 0, .string ⟨#[]⟩, .string ⟨#[]⟩] 52) = W := ⟨_, rfl⟩
 have hbd : Blk W w.heap.size #[.int .i64 a, .int .i64 c, .int .i64 v] 123 := by rw [← hW]; exact (Blk.new _ _ _).alloc _
 have hbt : Blk W (w.heap.size + 1) #[.int .i64 0, .int .i64 0, .string ⟨#[]⟩, .string ⟨#[]⟩] 52 := by
  rw [← hW]
  have := Blk.new (w.alloc (.cells #[.int .i64 a, .int .i64 c, .int .i64 v] 123)) #[.int .i64 0, .int .i64 0, .string ⟨#[]⟩, .string ⟨#[]⟩] 52
  simpa using this
 have HB := Hd (show Below w.heap.size w W by rw [← hW]; exact ((Below.refl _ _).alloc (Nat.le_refl _) _).alloc (by simp) _)
 have k0 : W.cell? ⟨w.heap.size, 0, none⟩ = some (.int .i64 a) := hbd.cell rfl
 have k1 : W.cell? ⟨w.heap.size, 1, none⟩ = some (.int .i64 c) := hbd.cell rfl
 have hlt := hbd.lt
 have HD := Hd hbd
 have HT := Hd hbt
 have HW := Hd hW
 clear hW hbd hbt
 go_enter Tryz.func84, Tryz.ntmps84
 go_wp2_with fail
 rw [HW.out]
 go_wp2_with fail
 refine (different_any a c W).mono ?_
 rintro e w1 ⟨rfl, hb1⟩
 have HB1 := Hd (HB.out.trans (hb1.mono HB.out.size))
 have hD1 := HD.out.next hb1
 have hT1 := HT.out.next hb1
 have k20 : w1.cell? ⟨w.heap.size, 0, none⟩ = some (.int .i64 a) := hD1.cell rfl
 have k21 : w1.cell? ⟨w.heap.size, 1, none⟩ = some (.int .i64 c) := hD1.cell rfl
 have k22 : w1.cell? ⟨w.heap.size, 2, none⟩ = some (.int .i64 v) := hD1.cell rfl
 have t0 : w1.cell? ⟨w.heap.size + 1, 0, none⟩ = some (.int .i64 0) := hT1.cell rfl
 have t1 : w1.cell? ⟨w.heap.size + 1, 1, none⟩ = some (.int .i64 0) := hT1.cell rfl
 have t2 : w1.cell? ⟨w.heap.size + 1, 2, none⟩ = some (.string ⟨#[]⟩) := hT1.cell rfl
 have t3 : w1.cell? ⟨w.heap.size + 1, 3, none⟩ = some (.string ⟨#[]⟩) := hT1.cell rfl
 have f0 := hT1.free 0
 have f1 := hT1.free 1
 have f2 := hT1.free 2
 have f3 := hT1.free 3
 have HD1 := Hd hD1
 have HT1 := Hd hT1
 clear hb1 hD1 hT1 k0 k1
 by_cases h2 : Two a c
 ·rw [twoB_yes h2]
  by_cases h1 : v < 1
  ·have HN := Hd (show ¬ DebtOk a c v by unfold DebtOk; omega)
   clear h2
   go_wp2_with fail
   have hf := HT1.out.set4 (.int .i64 0) (.int .i64 0) (.string ⟨#[]⟩) (.string ⟨#[]⟩)
   have g0 := hf.cell (j := 0) rfl
   have g1 := hf.cell (j := 1) rfl
   have g2 := hf.cell (j := 2) rfl
   have g3 := hf.cell (j := 3) rfl
   exact bodyPost_ret (v := .tuple #[noTl, .bool false]) (by simp [results, Tryz.results84, go_sem, noTl, tallyOf, Tl.val, g0, g1, g2, g3]) rfl ⟨.inr ⟨HN.out, rfl⟩, below_set4 HB1.out (by omega) _ _ _ _⟩
  ·by_cases h9 : v ≤ 9999
   ·have HN := Hd (show DebtOk a c v from ⟨h2, by omega, h9⟩)
    obtain ⟨n, rfl⟩ := Int.eq_ofNat_of_zero_le (show 0 ≤ v by omega)
    clear h2
    go_wp2_with fail
    refine (NotchesOf_yes n (by omega) w1).mono ?_
    rintro e w2 ⟨rfl, hb2⟩
    have HB2 := Hd (HB1.out.trans (hb2.mono HB1.out.size))
    have hD2 := HD1.out.next hb2
    have hT2 := HT1.out.next hb2
    clear k20 k21 k22 t0 t1 t2 t3 f0 f1 f2 f3
    have k20 : w2.cell? ⟨w.heap.size, 0, none⟩ = some (.int .i64 a) := hD2.cell rfl
    have k21 : w2.cell? ⟨w.heap.size, 1, none⟩ = some (.int .i64 c) := hD2.cell rfl
    have t0 : w2.cell? ⟨w.heap.size + 1, 0, none⟩ = some (.int .i64 0) := hT2.cell rfl
    have t1 : w2.cell? ⟨w.heap.size + 1, 1, none⟩ = some (.int .i64 0) := hT2.cell rfl
    have t2 : w2.cell? ⟨w.heap.size + 1, 2, none⟩ = some (.string ⟨#[]⟩) := hT2.cell rfl
    have t3 : w2.cell? ⟨w.heap.size + 1, 3, none⟩ = some (.string ⟨#[]⟩) := hT2.cell rfl
    have f0 := hT2.free 0
    have f1 := hT2.free 1
    have f2 := hT2.free 2
    have f3 := hT2.free 3
    have HT2 := Hd hT2
    clear hb2 hD2 hT2
    obtain ⟨u, hu⟩ : ∃ u, txt (Ta.ntext n) = u := ⟨_, rfl⟩
    have HU := Hd hu
    rw [hu]
    clear hu
    go_wp2_with fail
    have hf := HT2.out.set4 (.int .i64 a) (.int .i64 c) (.string u) (.string u)
    have g0 := hf.cell (j := 0) rfl
    have g1 := hf.cell (j := 1) rfl
    have g2 := hf.cell (j := 2) rfl
    have g3 := hf.cell (j := 3) rfl
    exact bodyPost_ret (v := .tuple #[(tallyOf a c n).val, .bool true]) (by simp [results, Tryz.results84, go_sem, tallyOf, Tl.val, HU.out, g0, g1, g2, g3]) rfl ⟨.inl ⟨HN.out, rfl⟩, below_set4 HB2.out (by omega) _ _ _ _⟩
   ·have HN := Hd (show ¬ DebtOk a c v by unfold DebtOk; omega)
    clear h2
    go_wp2_with fail
    refine (NotchesOf_no v (by omega) w1).mono ?_
    rintro e w2 ⟨rfl, rfl⟩
    go_wp2_with fail
    have hf := HT1.out.set4 (.int .i64 0) (.int .i64 0) (.string ⟨#[]⟩) (.string ⟨#[]⟩)
    have g0 := hf.cell (j := 0) rfl
    have g1 := hf.cell (j := 1) rfl
    have g2 := hf.cell (j := 2) rfl
    have g3 := hf.cell (j := 3) rfl
    exact bodyPost_ret (v := .tuple #[noTl, .bool false]) (by simp [results, Tryz.results84, go_sem, noTl, tallyOf, Tl.val, g0, g1, g2, g3]) rfl ⟨.inr ⟨HN.out, rfl⟩, below_set4 HB1.out (by omega) _ _ _ _⟩
 ·rw [twoB_no h2]
  have HN := Hd (show ¬ DebtOk a c v by unfold DebtOk; exact fun h => h2 h.1)
  clear h2
  go_wp2_with fail
  have hf := HT1.out.set4 (.int .i64 0) (.int .i64 0) (.string ⟨#[]⟩) (.string ⟨#[]⟩)
  have g0 := hf.cell (j := 0) rfl
  have g1 := hf.cell (j := 1) rfl
  have g2 := hf.cell (j := 2) rfl
  have g3 := hf.cell (j := 3) rfl
  exact bodyPost_ret (v := .tuple #[noTl, .bool false]) (by simp [results, Tryz.results84, go_sem, noTl, tallyOf, Tl.val, g0, g1, g2, g3]) rfl ⟨.inr ⟨HN.out, rfl⟩, below_set4 HB1.out (by omega) _ _ _ _⟩
end Go.Proofs.YthdoofmfigemoaaGreatDoor
