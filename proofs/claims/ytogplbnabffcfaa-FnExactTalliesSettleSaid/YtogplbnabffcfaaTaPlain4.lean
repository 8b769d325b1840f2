/-
  What the two heaps hold against the balances. No program in sight.
-/
import Derived.Test.YtogplbnabffcfaaTaPlain
import Derived.Test.YtogplbnabffcfaaTaPlain2
namespace Go.Proofs.Ytogplbnabffcfaa.Ta

/-- xs holds each person up to m for whom f is positive, with what it comes to -/
def Holds (f : Nat → Int) (m : Nat) (xs : List (Nat × Int)) : Prop := xs.Nodup ∧ ∀ x : Nat × Int, x ∈ xs ↔ x.1 < m ∧ 0 < f x.1 ∧ x.2 = f x.1
section
variable {f g : Nat → Int} {m : Nat} {xs ys : List (Nat × Int)}
theorem Holds.perm (h : Holds f m xs) (p : ys.Perm xs) : Holds f m ys := ⟨p.nodup_iff.2 h.1, fun x => (p.mem_iff).trans (h.2 x)⟩
theorem Holds.zero (f : Nat → Int) : Holds f 0 [] := ⟨List.nodup_nil, fun x => by simp⟩
theorem nodup_le : ∀ (xs ys : List (Nat × Int)), xs.Nodup → (∀ x ∈ xs, x ∈ ys) → xs.length ≤ ys.length
  | [], ys, _, _ => by simp
  | x :: xs, ys, h, k => by
    have hx := k x List.mem_cons_self
    have h2 := nodup_le xs (ys.erase x) (List.nodup_cons.1 h).2 (fun y hy => (List.mem_erase_of_ne (fun e => (List.nodup_cons.1 h).1 (by rw [← e]; exact hy))).2 (k y (List.mem_cons_of_mem _ hy)))
    rw [List.length_erase_of_mem hx] at h2
    have h3 := List.length_pos_of_mem hx
    simp only [List.length_cons]
    omega
theorem Holds.len (h : Holds f m xs) : xs.length ≤ m := by
  have := nodup_le xs ((List.range m).map (fun i => (i, f i))) h.1 (fun x hx => by
    obtain ⟨h1, _, h2⟩ := (h.2 x).1 hx
    exact List.mem_map.2 ⟨x.1, List.mem_range.2 h1, by rw [← h2]⟩)
  simpa using this
/-- a debt put into a heap if it is worth something -/
def putL (xs : List (Nat × Int)) (x : Nat × Int) : List (Nat × Int) := if 0 < x.2 then upL 3 (xs ++ [x]) xs.length else xs
theorem putL_ok {xs : List (Nat × Int)} {x : Nat × Int} (h : Heap xs) (hl : xs.length ≤ 4) : Heap (putL xs x) ∧ (putL xs x).Perm (if 0 < x.2 then x :: xs else xs) := by
  unfold putL
  by_cases hx : 0 < x.2
  · rw [if_pos hx, if_pos hx]; exact up_ok xs x h hl
  · rw [if_neg hx, if_neg hx]; exact ⟨h, .refl _⟩
theorem Holds.put (h : Holds f m xs) : Holds f (m + 1) (if 0 < f m then (m, f m) :: xs else xs) := by
  by_cases hx : 0 < f m
  · rw [if_pos hx]
    refine ⟨List.nodup_cons.2 ⟨fun hm => by have := ((h.2 _).1 hm).1; simp at this, h.1⟩, fun x => ?_⟩
    rw [List.mem_cons, h.2 x]
    constructor
    · rintro (rfl | ⟨a, b, c⟩)
      · exact ⟨by simp, hx, rfl⟩
      · exact ⟨by omega, b, c⟩
    · rintro ⟨a, b, c⟩
      by_cases e : x.1 = m
      · exact .inl (Prod.ext e (by rw [c, e]))
      · exact .inr ⟨by omega, b, c⟩
  · rw [if_neg hx]
    refine ⟨h.1, fun x => ?_⟩
    rw [h.2 x]
    constructor
    · rintro ⟨a, b, c⟩
      exact ⟨by omega, b, c⟩
    · rintro ⟨a, b, c⟩
      by_cases e : x.1 = m
      · rw [e] at b; exact absurd b hx
      · exact ⟨by omega, b, c⟩
theorem Holds.putL (h : Holds f m xs) (hh : Heap xs) (hm : m ≤ 4) : Holds f (m + 1) (putL xs (m, f m)) ∧ Heap (putL xs (m, f m)) := by
  obtain ⟨h1, h2⟩ := putL_ok (x := (m, f m)) hh (by have := h.len; omega)
  exact ⟨h.put.perm h2, h1⟩
/-- the first one taken and put back with what is left -/
theorem Holds.again {a : Nat × Int} (h : Holds f m (a :: xs)) (hg : ∀ i, i < m → i ≠ a.1 → (0 < g i ↔ 0 < f i) ∧ (0 < g i → g i = f i)) : Holds g m (if 0 < g a.1 then (a.1, g a.1) :: xs else xs) := by
  obtain ⟨a0, a1, a2⟩ := (h.2 a).1 List.mem_cons_self
  obtain ⟨n1, n2⟩ := List.nodup_cons.1 h.1
  have no : ∀ x ∈ xs, x.1 ≠ a.1 := fun x hx e => by
    obtain ⟨_, _, b2⟩ := (h.2 x).1 (List.mem_cons_of_mem _ hx)
    exact n1 ((show x = a from Prod.ext e (by rw [b2, a2, e])) ▸ hx)
  have key : ∀ x : Nat × Int, x ∈ xs ↔ x.1 < m ∧ x.1 ≠ a.1 ∧ 0 < g x.1 ∧ x.2 = g x.1 := fun x => by
    constructor
    · intro hx
      obtain ⟨b0, b1, b2⟩ := (h.2 x).1 (List.mem_cons_of_mem _ hx)
      obtain ⟨q1, q2⟩ := hg x.1 b0 (no x hx)
      have b3 := q1.2 b1
      exact ⟨b0, no x hx, b3, by rw [q2 b3]; exact b2⟩
    · rintro ⟨b0, b1, b2, b3⟩
      obtain ⟨q1, q2⟩ := hg x.1 b0 b1
      rcases List.mem_cons.1 ((h.2 x).2 ⟨b0, q1.1 b2, by rw [b3, q2 b2]⟩) with e | e
      · exact absurd (by rw [e]) b1
      · exact e
  by_cases hx : 0 < g a.1
  · rw [if_pos hx]
    refine ⟨List.nodup_cons.2 ⟨fun hm => no _ hm rfl, n2⟩, fun x => ?_⟩
    rw [List.mem_cons, key x]
    constructor
    · rintro (rfl | ⟨b0, _, b2, b3⟩)
      · exact ⟨a0, hx, rfl⟩
      · exact ⟨b0, b2, b3⟩
    · rintro ⟨b0, b2, b3⟩
      by_cases e : x.1 = a.1
      · exact .inl (Prod.ext e (by rw [b3, e]))
      · exact .inr ⟨b0, e, b2, b3⟩
  · rw [if_neg hx]
    refine ⟨n2, fun x => ?_⟩
    rw [key x]
    constructor
    · rintro ⟨b0, _, b2, b3⟩; exact ⟨b0, b2, b3⟩
    · rintro ⟨b0, b2, b3⟩
      refine ⟨b0, fun e => ?_, b2, b3⟩
      rw [e] at b2; exact hx b2
end
def owe (b : List Int) (i : Nat) : Int := - b.getD i 0
def claim (b : List Int) (i : Nat) : Int := b.getD i 0
/-- the balances and the two heaps -/
def St (b : List Int) (xs ys : List (Nat × Int)) : Prop := Bal b ∧ Heap xs ∧ Heap ys ∧ Holds (owe b) 5 xs ∧ Holds (claim b) 5 ys
theorem root_owe {b : List Int} {a : Nat × Int} {xs : List (Nat × Int)} (hh : Heap (a :: xs)) (h : Holds (owe b) 5 (a :: xs)) : a = (low b, owe b (low b)) := by
  obtain ⟨a0, a1, a2⟩ := (h.2 a).1 List.mem_cons_self
  obtain ⟨l1, l2, l3, _⟩ := lowK_spec b 5
  have l0 : low b < 5 := low_lt b
  have e1 := l1 a.1 a0
  unfold owe at *
  have hm := heap_root hh _ ((h.2 (low b, -b.getD (low b) 0)).2 ⟨l0, by show 0 < -b.getD (low b) 0; unfold low; omega, rfl⟩)
  rw [le_iff] at hm
  have e2 := l2 a.1
  have : a.1 = low b := by unfold low at *; simp only at hm; omega
  exact Prod.ext this (by rw [a2, this])
theorem root_claim {b : List Int} {a : Nat × Int} {xs : List (Nat × Int)} (hh : Heap (a :: xs)) (h : Holds (claim b) 5 (a :: xs)) : a = (high b, claim b (high b)) := by
  obtain ⟨a0, a1, a2⟩ := (h.2 a).1 List.mem_cons_self
  obtain ⟨l1, l2, l3, _⟩ := highK_spec b 5
  have l0 : high b < 5 := high_lt b
  have e1 := l1 a.1 a0
  unfold claim at *
  have hm := heap_root hh _ ((h.2 (high b, b.getD (high b) 0)).2 ⟨l0, by show 0 < b.getD (high b) 0; unfold high; omega, rfl⟩)
  rw [le_iff] at hm
  have e2 := l2 a.1
  have : a.1 = high b := by unfold high at *; simp only at hm; omega
  exact Prod.ext this (by rw [a2, this])
theorem St.done {b : List Int} {xs ys : List (Nat × Int)} (h : St b xs ys) (he : xs = [] ∨ ys = []) : due b = 0 := by
  obtain ⟨hb, _, _, hx, hy⟩ := h
  by_cases hd : due b = 0
  · exact hd
  · obtain ⟨h1, h2, _⟩ := (due_spec hb).2.2 hd
    rcases he with rfl | rfl
    · have := (hx.2 (low b, owe b (low b))).2 ⟨low_lt b, by show 0 < -b.getD (low b) 0; omega, rfl⟩
      simp at this
    · have := (hy.2 (high b, claim b (high b))).2 ⟨high_lt b, by show 0 < b.getD (high b) 0; omega, rfl⟩
      simp at this
theorem St.step {b : List Int} {x y : Nat × Int} {xs ys : List (Nat × Int)} (h : St b (x :: xs) (y :: ys)) :
    x = (low b, owe b (low b)) ∧ y = (high b, claim b (high b)) ∧ due b ≠ 0 ∧ due b = min (owe b (low b)) (claim b (high b)) ∧ 0 < due b ∧
    ∀ xs' ys', xs'.Perm xs → ys'.Perm ys → Heap xs' → Heap ys' →
      St (pay b (low b) (high b) (due b)) (putL xs' (low b, owe b (low b) - due b)) (putL ys' (high b, claim b (high b) - due b)) := by
  obtain ⟨hb, hx, hy, hX, hY⟩ := h
  have ex := root_owe hx hX
  have ey := root_claim hy hY
  subst ex
  subst ey
  obtain ⟨_, p1, _⟩ := (hX.2 _).1 List.mem_cons_self
  obtain ⟨_, q1, _⟩ := (hY.2 _).1 List.mem_cons_self
  have e : due b = min (owe b (low b)) (claim b (high b)) := by unfold due owe claim; omega
  have e0 : 0 < due b := by simp only at p1 q1; omega
  have hd : due b ≠ 0 := by omega
  obtain ⟨_, _, hne⟩ := (due_spec hb).2.2 hd
  have ll : low b < b.length := by rw [hb.1]; exact low_lt b
  have lh : high b < b.length := by rw [hb.1]; exact high_lt b
  have gd := fun i => pay_getD (b := b) (due b) ll lh hne i
  refine ⟨rfl, rfl, hd, e, e0, fun xs' ys' px py hx' hy' => ⟨pay_bal hb hd, ?_⟩⟩
  have lx : xs'.length ≤ 4 := by have := hX.len; rw [px.length_eq]; simp at this; omega
  have ly : ys'.length ≤ 4 := by have := hY.len; rw [py.length_eq]; simp at this; omega
  have ax := hX.again (g := owe (pay b (low b) (high b) (due b))) (fun i hi hne2 => by
    unfold owe at *
    rw [gd i, if_neg hne2]
    by_cases e1 : i = high b
    · rw [if_pos e1]; subst e1; unfold claim at *; simp only at q1 p1; omega
    · rw [if_neg e1]; omega)
  have ay := hY.again (g := claim (pay b (low b) (high b) (due b))) (fun i hi hne2 => by
    unfold claim at *
    rw [gd i, if_neg hne2]
    by_cases e1 : i = low b
    · rw [if_pos e1]; subst e1; unfold owe at *; simp only at q1 p1; omega
    · rw [if_neg e1]; omega)
  have vx : owe (pay b (low b) (high b) (due b)) (low b) = owe b (low b) - due b := by unfold owe; rw [gd, if_pos rfl, if_neg hne]; omega
  have vy : claim (pay b (low b) (high b) (due b)) (high b) = claim b (high b) - due b := by unfold claim; rw [gd, if_pos rfl, if_neg (Ne.symm hne)]; omega
  simp only at ax ay
  rw [vx] at ax
  rw [vy] at ay
  obtain ⟨r1, r2⟩ := putL_ok (x := (low b, owe b (low b) - due b)) hx' lx
  obtain ⟨s1, s2⟩ := putL_ok (x := (high b, claim b (high b) - due b)) hy' ly
  refine ⟨r1, s1, ax.perm (r2.trans ?_), ay.perm (s2.trans ?_)⟩
  · split
    · exact px.cons _
    · exact px
  · split
    · exact py.cons _
    · exact py
/-- balances within bounds -/
def Bd (m : Int) (b : List Int) : Prop := ∀ i, -m ≤ b.getD i 0 ∧ b.getD i 0 ≤ m
theorem Bd.pay {m : Int} {b : List Int} (h : Bd m b) (hb : Bal b) (hd : due b ≠ 0) : Bd m (pay b (low b) (high b) (due b)) := by
  obtain ⟨h1, h2, hne⟩ := (due_spec hb).2.2 hd
  have ll : low b < b.length := by rw [hb.1]; exact low_lt b
  have lh : high b < b.length := by rw [hb.1]; exact high_lt b
  intro i
  have e : due b = min (b.getD (high b) 0) (0 - b.getD (low b) 0) := rfl
  have hi := h i
  have hl := h (low b)
  have hh := h (high b)
  rw [pay_getD _ ll lh hne]
  by_cases e1 : i = low b
  · rw [if_pos e1, if_neg (by rw [e1]; exact hne)]; subst e1; omega
  · rw [if_neg e1]
    by_cases e2 : i = high b
    · rw [if_pos e2]; subst e2; omega
    · rw [if_neg e2]; omega
/-- the payments so far, and those to come -/
def Todo (b0 : List Int) (f : Nat) (b : List Int) (out : List (Nat × Nat × Int)) : Prop := settle 5 b0 = (settle f b).map (out ++ ·) ∧ nz b ≤ f ∧ f + out.length = 5
theorem Todo.start {b : List Int} (h : b.length = 5) : Todo b 5 b [] := ⟨by simp, by have := nz_le b; omega, rfl⟩
theorem Todo.done {b0 b : List Int} {f : Nat} {out : List (Nat × Nat × Int)} (h : Todo b0 f b out) (hd : due b = 0) : settle 5 b0 = some out := by
  rw [h.1]
  cases f with
  | zero => simp [settle]
  | succ f => simp [settle, hd]
theorem Todo.pos {b0 b : List Int} {f : Nat} {out : List (Nat × Nat × Int)} (h : Todo b0 f b out) (hb : Bal b) (hd : due b ≠ 0) : ∃ g, f = g + 1 := by
  have := nz_pos hb hd
  have := h.2.1
  exact ⟨f - 1, by omega⟩
theorem Todo.no {b0 b : List Int} {f : Nat} {out : List (Nat × Nat × Int)} (h : Todo b0 f b out) (hb : Bal b) (hd : due b ≠ 0) (hv : due b < 1 ∨ 9999 < due b) : settle 5 b0 = none := by
  obtain ⟨g, rfl⟩ := h.pos hb hd
  rw [h.1, settle, if_neg hd, if_pos hv]; rfl
theorem Todo.next {b0 b : List Int} {f : Nat} {out : List (Nat × Nat × Int)} (h : Todo b0 (f + 1) b out) (hb : Bal b) (hd : due b ≠ 0) (h1 : 1 ≤ due b) (h9 : due b ≤ 9999) : Todo b0 f (pay b (low b) (high b) (due b)) (out ++ [(low b, high b, due b)]) := by
  refine ⟨?_, by have := pay_nz hb hd; have := h.2.1; omega, by have := h.2.2; simp; omega⟩
  rw [h.1, settle, if_neg hd, if_neg (by omega), Option.map_map]
  congr 1
  funext r
  simp
end Go.Proofs.Ytogplbnabffcfaa.Ta
