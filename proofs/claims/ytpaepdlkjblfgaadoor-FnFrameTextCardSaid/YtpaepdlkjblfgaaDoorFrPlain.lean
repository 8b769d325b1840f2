/-
  Plain lists of digits, from the units on, and how a digit or a number is added to them or taken from them by pushes; no program in sight.
-/
namespace Go.Proofs.YtpaepdlkjblfgaaDoor.Fr

def dig (d : Int) : Prop := 0 ≤ d ∧ d ≤ 9
def Digs (ds : List Int) : Prop := ∀ d ∈ ds, 0 ≤ d ∧ d ≤ 9
/-- pushes from one digit to another -/
def cost (a b : Int) : Int := (if a / 5 = b / 5 then 0 else 1) + (if a % 5 = b % 5 then 0 else 1)
def val : List Int → Int
  | [] => 0
  | d :: ds => d + 10 * val ds
def ten (n : Nat) : Int := 10 ^ n
/-- the sign s: 1 adds, -1 takes -/
def chg (s : Int) : List Int → Int → Option (List Int × Int)
  | [], g => if g = 0 then some ([], 0) else none
  | d :: ds, g =>
    if g = 0 then some (d :: ds, 0)
    else if 0 ≤ d + s * g ∧ d + s * g ≤ 9 then some ((d + s * g) :: ds, cost d (d + s * g))
    else (chg s ds 1).map fun p => ((d + s * g - 10 * s) :: p.1, cost d (d + s * g - 10 * s) + p.2)
/-- the first number: as many rods are left -/
def allF (s : Int) : Nat → List Int → Int → Option (List Int × Int)
  | 0, ds, n => if n = 0 then some (ds, 0) else none
  | k + 1, ds, n =>
    if n = 0 then some (ds, 0)
    else match chg s ds (n % 10) with
      | some (d1 :: ds1, n1) => (allF s k ds1 (n / 10)).map fun p => (d1 :: p.1, n1 + p.2)
      | _ => none
def all (s : Int) (ds : List Int) (n : Int) : Option (List Int × Int) := allF s ds.length ds n
def dist : List Int → List Int → Int
  | a :: as, b :: bs => cost a b + dist as bs
  | _, _ => 0
def nines (ds : List Int) : List Int := ds.map fun d => 9 - d

theorem digs_cons (d : Int) (ds : List Int) : Digs (d :: ds) ↔ (0 ≤ d ∧ d ≤ 9) ∧ Digs ds := by simp [Digs]
theorem ten_pos (n : Nat) : 0 < ten n := Int.pow_pos (by omega)
theorem ten_succ (n : Nat) : ten (n + 1) = 10 * ten n := by rw [ten, Int.pow_succ, Int.mul_comm]; rfl
theorem val_range (ds : List Int) (h : Digs ds) : 0 ≤ val ds ∧ val ds < ten ds.length := by
  induction ds with
  | nil => simp [val, ten]
  | cons d ds ih =>
    have h' := (digs_cons d ds).1 h
    have := ih h'.2
    rw [List.length_cons, ten_succ, val]; omega
theorem val_inj (as : List Int) : ∀ bs, Digs as → Digs bs → as.length = bs.length → val as = val bs → as = bs := by
  induction as with
  | nil => intro bs _ _ hl _; cases bs with | nil => rfl | cons => simp at hl
  | cons a as ih =>
    intro bs ha hb hl hv
    cases bs with
    | nil => simp at hl
    | cons b bs =>
      have ha' := (digs_cons a as).1 ha
      have hb' := (digs_cons b bs).1 hb
      simp only [val] at hv
      have e1 : a = b := by omega
      subst e1
      rw [ih bs ha'.2 hb'.2 (by simpa using hl) (by omega)]
theorem cost_nonneg (a b : Int) : 0 ≤ cost a b := by unfold cost; split <;> split <;> omega
theorem cost_self (a : Int) : cost a a = 0 := by simp [cost]
theorem cost_symm (a b : Int) : cost a b = cost b a := by unfold cost; simp only [eq_comm]
theorem cost_pos (a b : Int) (h : a ≠ b) : 1 ≤ cost a b := by unfold cost; split <;> split <;> omega
theorem cost_tri (a b c : Int) : cost a c ≤ cost a b + cost b c := by unfold cost; split <;> split <;> split <;> split <;> split <;> split <;> omega
theorem cost_nines (a b : Int) : cost (9 - a) (9 - b) = cost a b := by
  unfold cost
  have e1 : ((9 - a) / 5 = (9 - b) / 5) = (a / 5 = b / 5) := by simp only [eq_iff_iff]; omega
  have e2 : ((9 - a) % 5 = (9 - b) % 5) = (a % 5 = b % 5) := by simp only [eq_iff_iff]; omega
  simp only [e1, e2]
theorem dist_self (as : List Int) : dist as as = 0 := by
  induction as with
  | nil => rfl
  | cons a as ih => simp [dist, ih, cost_self]
theorem dist_tri (as : List Int) : ∀ bs cs, as.length = bs.length → bs.length = cs.length → dist as cs ≤ dist as bs + dist bs cs := by
  induction as with
  | nil =>
    intro bs cs h1 h2
    obtain rfl := List.eq_nil_of_length_eq_zero h1.symm
    obtain rfl := List.eq_nil_of_length_eq_zero h2.symm
    simp [dist]
  | cons a as ih =>
    intro bs cs h1 h2
    cases bs with
    | nil => simp at h1
    | cons b bs =>
      cases cs with
      | nil => simp at h2
      | cons c cs =>
        have := ih bs cs (by simpa using h1) (by simpa using h2)
        have := cost_tri a b c
        simp only [dist]; omega

/-- a sign -/
def Sgn (s : Int) : Prop := s = 1 ∨ s = -1

/-- what a change gives -/
theorem chg_some (s : Int) (hs : Sgn s) (ds : List Int) : ∀ g r n, Digs ds → 0 ≤ g → g ≤ 9 → chg s ds g = some (r, n) →
    Digs r ∧ r.length = ds.length ∧ val r = val ds + s * g ∧ dist ds r = n ∧ 0 ≤ n ∧ (g ≠ 0 → 1 ≤ n) := by
  induction ds with
  | nil =>
    intro g r n _ _ _ h
    simp only [chg] at h
    split at h
    · next hg => simp at h; obtain ⟨rfl, rfl⟩ := h; subst hg; simp [Digs, val, dist]
    · cases h
  | cons d ds ih =>
    intro g r n hd h0 h9 h
    have hd' := (digs_cons d ds).1 hd
    simp only [chg] at h
    split at h
    · next hg =>
      simp at h; obtain ⟨rfl, rfl⟩ := h; subst hg
      exact ⟨hd, rfl, by simp, dist_self _, by omega, fun h => absurd rfl h⟩
    · next hg =>
      split at h
      · next hin =>
        simp at h; obtain ⟨rfl, rfl⟩ := h
        have hne : d ≠ d + s * g := by rcases hs with rfl | rfl <;> omega
        refine ⟨(digs_cons _ _).2 ⟨hin, hd'.2⟩, rfl, by simp only [val]; omega, by simp [dist, dist_self], cost_nonneg _ _, fun _ => cost_pos _ _ hne⟩
      · next hout =>
        rw [Option.map_eq_some_iff] at h
        obtain ⟨⟨r', n'⟩, hr, h⟩ := h
        simp at h; obtain ⟨rfl, rfl⟩ := h
        obtain ⟨i1, i2, i3, i4, i5, _⟩ := ih 1 r' n' hd'.2 (by omega) (by omega) hr
        have hne : d ≠ d + s * g - 10 * s := by rcases hs with rfl | rfl <;> omega
        have hin : 0 ≤ d + s * g - 10 * s ∧ d + s * g - 10 * s ≤ 9 := by rcases hs with rfl | rfl <;> omega
        have c0 := cost_pos _ _ hne
        refine ⟨(digs_cons _ _).2 ⟨hin, i1⟩, by simp [i2], by simp only [val, i3]; omega, by simp [dist, i4], by omega, fun _ => by omega⟩
/-- when a change can be made -/
theorem chg_iff (s : Int) (hs : Sgn s) (ds : List Int) : ∀ g, Digs ds → 0 ≤ g → g ≤ 9 → ((chg s ds g).isSome = true ↔ 0 ≤ val ds + s * g ∧ val ds + s * g < ten ds.length) := by
  induction ds with
  | nil =>
    intro g _ h0 h9
    simp only [chg, val, List.length_nil, ten]
    split
    · next h => subst h; simp
    · next h => rcases hs with rfl | rfl <;> simp <;> omega
  | cons d ds ih =>
    intro g hd h0 h9
    have hd' := (digs_cons d ds).1 hd
    have hv := val_range ds hd'.2
    have ht := ten_succ ds.length
    simp only [chg, val, List.length_cons, ht]
    split
    · next h => subst h; simp; omega
    · next h =>
      split
      · next hin => simp; omega
      · next hout =>
        have := ih 1 hd'.2 (by omega) (by omega)
        rw [Option.isSome_map, this]
        rcases hs with rfl | rfl <;> omega
/-- the other sign leads back, with as many pushes -/
theorem chg_back (s : Int) (hs : Sgn s) (ds : List Int) : ∀ g r n, Digs ds → 0 ≤ g → g ≤ 9 → chg s ds g = some (r, n) → chg (0 - s) r g = some (ds, n) := by
  induction ds with
  | nil =>
    intro g r n _ _ _ h
    simp only [chg] at h
    split at h
    · next hg => simp at h; obtain ⟨rfl, rfl⟩ := h; subst hg; simp [chg]
    · cases h
  | cons d ds ih =>
    intro g r n hd h0 h9 h
    have hd' := (digs_cons d ds).1 hd
    simp only [chg] at h
    split at h
    · next hg =>
      simp at h; obtain ⟨rfl, rfl⟩ := h; subst hg
      simp [chg]
    · next hg =>
      split at h
      · next hin =>
        simp at h; obtain ⟨rfl, rfl⟩ := h
        have e : d + s * g + (0 - s) * g = d := by rw [Int.sub_mul]; omega
        rw [chg, if_neg hg, e, if_pos hd'.1, cost_symm]
      · next hout =>
        rw [Option.map_eq_some_iff] at h
        obtain ⟨⟨r', n'⟩, hr, h⟩ := h
        simp at h; obtain ⟨rfl, rfl⟩ := h
        have := ih 1 r' n' hd'.2 (by omega) (by omega) hr
        have e : d + s * g - 10 * s + (0 - s) * g = d - 10 * s := by rw [Int.sub_mul]; omega
        rw [chg, if_neg hg, e, if_neg (by rcases hs with rfl | rfl <;> omega), this]
        have e2 : d - 10 * s - 10 * (0 - s) = d := by omega
        rw [e2, Option.map_some, cost_symm]
theorem digs_nines (ds : List Int) (h : Digs ds) : Digs (nines ds) := by
  intro d hd
  obtain ⟨x, hx, rfl⟩ := List.mem_map.1 hd
  have := h x hx
  omega
/-- on the nines it is the other sign -/
theorem chg_nines (s : Int) (hs : Sgn s) (ds : List Int) : ∀ g, Digs ds → 0 ≤ g → g ≤ 9 → chg (0 - s) (nines ds) g = (chg s ds g).map fun p => (nines p.1, p.2) := by
  induction ds with
  | nil =>
    intro g _ _ _
    simp only [chg, nines, List.map_nil]
    split <;> simp
  | cons d ds ih =>
    intro g hd h0 h9
    have hd' := (digs_cons d ds).1 hd
    have := ih 1 hd'.2 (by omega) (by omega)
    simp only [nines, List.map_cons] at this ⊢
    simp only [chg]
    have e : 9 - d + (0 - s) * g = 9 - (d + s * g) := by rw [Int.sub_mul]; omega
    have c : (0 ≤ 9 - (d + s * g) ∧ 9 - (d + s * g) ≤ 9) = (0 ≤ d + s * g ∧ d + s * g ≤ 9) := by simp only [eq_iff_iff]; omega
    rw [e]
    simp only [c]
    split
    · simp
    · split
      · next hin => simp [cost_nines]
      · next hout =>
        rw [this]
        have hin : 0 ≤ d + s * g - 10 * s ∧ d + s * g - 10 * s ≤ 9 := by rcases hs with rfl | rfl <;> omega
        have e3 : 9 - (d + s * g) - 10 * (0 - s) = 9 - (d + s * g - 10 * s) := by omega
        rw [e3, cost_nines]
        simp [Option.map_map, Function.comp_def]

theorem all_some (s : Int) (hs : Sgn s) (ds : List Int) : ∀ N r n, Digs ds → 0 ≤ N → all s ds N = some (r, n) →
    Digs r ∧ r.length = ds.length ∧ val r = val ds + s * N ∧ dist ds r ≤ n ∧ 0 ≤ n ∧ (n = 0 ↔ N = 0) := by
  have key : ∀ (k : Nat) (ds : List Int), ds.length = k → ∀ N r n, Digs ds → 0 ≤ N → allF s k ds N = some (r, n) →
    Digs r ∧ r.length = ds.length ∧ val r = val ds + s * N ∧ dist ds r ≤ n ∧ 0 ≤ n ∧ (n = 0 ↔ N = 0) := by
    intro k
    induction k with
    | zero =>
      intro ds hk N r n _ _ h
      obtain rfl := List.eq_nil_of_length_eq_zero hk
      simp only [allF] at h
      split at h
      · next hg => simp at h; obtain ⟨rfl, rfl⟩ := h; subst hg; simp [Digs, val, dist]
      · cases h
    | succ k ih =>
      intro ds hk N r n hd h0 h
      cases ds with
      | nil => simp at hk
      | cons d ds =>
        simp only [allF] at h
        split at h
        · next hg => simp at h; obtain ⟨rfl, rfl⟩ := h; subst hg; exact ⟨hd, rfl, by simp, by rw [dist_self]; omega, by omega, by simp⟩
        · next hg =>
          split at h
          · next d1 ds1 n1 hc =>
            rw [Option.map_eq_some_iff] at h
            obtain ⟨⟨r', n'⟩, hr, h⟩ := h
            simp at h; obtain ⟨rfl, rfl⟩ := h
            obtain ⟨c1, c2, c3, c4, c5, c6⟩ := chg_some s hs _ _ _ _ hd (Int.emod_nonneg N (by omega)) (by have := Int.emod_lt_of_pos N (b := 10) (by omega); omega) hc
            have c1' := (digs_cons _ _).1 c1
            have hl : ds1.length = k := by simp at c2 hk; omega
            obtain ⟨i1, i2, i3, i4, i5, i6⟩ := ih ds1 hl (N / 10) r' n' c1'.2 (by omega) hr
            have hd1 := dist_tri (d :: ds) (d1 :: ds1) (d1 :: r') c2.symm (by simp [i2])
            have hd2 : dist (d1 :: ds1) (d1 :: r') = dist ds1 r' := by simp [dist, cost_self]
            refine ⟨(digs_cons _ _).2 ⟨c1'.1, i1⟩, by simp at c2 ⊢; omega, ?_, by omega, by omega, ?_⟩
            · simp only [val] at c3 ⊢
              rw [i3]
              rcases hs with rfl | rfl <;> omega
            · constructor
              · intro he
                have : N % 10 = 0 := by
                  rcases Int.lt_or_eq_of_le (Int.emod_nonneg N (b := 10) (by omega)) with h | h
                  · have := c6 (by omega); omega
                  · omega
                have := i6.1 (by omega)
                omega
              · intro he; exact absurd he hg
          · cases h
  intro N r n hd h0 h
  exact key ds.length ds rfl N r n hd h0 h
theorem all_iff (s : Int) (hs : Sgn s) (ds : List Int) (N : Int) (hd : Digs ds) (h0 : 0 ≤ N) : ((all s ds N).isSome = true ↔ 0 ≤ val ds + s * N ∧ val ds + s * N < ten ds.length) := by
  have key : ∀ (k : Nat) (ds : List Int), ds.length = k → ∀ N, Digs ds → 0 ≤ N → ((allF s k ds N).isSome = true ↔ 0 ≤ val ds + s * N ∧ val ds + s * N < ten ds.length) := by
    intro k
    induction k with
    | zero =>
      intro ds hk N _ h0
      obtain rfl := List.eq_nil_of_length_eq_zero hk
      simp only [allF, val, List.length_nil, ten]
      split
      · next h => subst h; simp
      · next h => rcases hs with rfl | rfl <;> simp <;> omega
    | succ k ih =>
      intro ds hk N hd h0
      cases ds with
      | nil => simp at hk
      | cons d ds =>
        have hd' := (digs_cons d ds).1 hd
        have hv := val_range _ hd
        have m0 := Int.emod_nonneg N (b := 10) (by omega)
        have m1 := Int.emod_lt_of_pos N (b := 10) (by omega)
        have hci := chg_iff s hs (d :: ds) (N % 10) hd m0 (by omega)
        simp only [allF]
        split
        · next h => subst h; simp; exact hv
        · next h =>
          split
          · next d1 ds1 n1 hc =>
            obtain ⟨c1, c2, c3, _⟩ := chg_some s hs _ _ _ _ hd m0 (by omega) hc
            have c1' := (digs_cons _ _).1 c1
            have hl : ds1.length = k := by simp at c2 hk; omega
            rw [Option.isSome_map, ih ds1 hl (N / 10) c1'.2 (by omega)]
            simp only [val] at c3
            have hlk : ds.length = k := by simp at hk; omega
            rw [hl, List.length_cons, hlk, ten_succ]
            simp only [val]
            rcases hs with rfl | rfl <;> omega
          · next hnone =>
            have hn : chg s (d :: ds) (N % 10) = none := by
              cases hc : chg s (d :: ds) (N % 10) with
              | none => rfl
              | some p =>
                obtain ⟨r, n⟩ := p
                obtain ⟨_, c2, _⟩ := chg_some s hs _ _ _ _ hd m0 (by omega) hc
                cases r with
                | nil => simp at c2
                | cons d1 ds1 => exact absurd hc (hnone d1 ds1 n)
            rw [hn] at hci
            simp only [Option.isSome_none] at hci ⊢
            have hci' : ¬ (0 ≤ val (d :: ds) + s * (N % 10) ∧ val (d :: ds) + s * (N % 10) < ten (d :: ds).length) := fun h => by simpa using hci.2 h
            constructor
            · intro h; cases h
            · intro hh; exfalso; apply hci'
              rcases hs with rfl | rfl <;> omega
  exact key ds.length ds rfl N hd h0
theorem all_nines (s : Int) (hs : Sgn s) (k : Nat) : ∀ (ds : List Int), ds.length = k → ∀ N, Digs ds → 0 ≤ N → allF (0 - s) k (nines ds) N = (allF s k ds N).map fun p => (nines p.1, p.2) := by
  induction k with
  | zero =>
    intro ds hk N _ _
    obtain rfl := List.eq_nil_of_length_eq_zero hk
    simp only [allF, nines, List.map_nil]
    split <;> simp
  | succ k ih =>
    intro ds hk N hd h0
    cases ds with
    | nil => simp at hk
    | cons d ds =>
      have m0 := Int.emod_nonneg N (b := 10) (by omega)
      have m1 := Int.emod_lt_of_pos N (b := 10) (by omega)
      have hc := chg_nines s hs (d :: ds) (N % 10) hd m0 (by omega)
      have e : nines (d :: ds) = (9 - d) :: nines ds := rfl
      rw [e] at hc ⊢
      simp only [allF, hc]
      split
      · simp [e]
      · cases hcc : chg s (d :: ds) (N % 10) with
        | none => simp
        | some p =>
          obtain ⟨r, n⟩ := p
          obtain ⟨c1, c2, _⟩ := chg_some s hs _ _ _ _ hd m0 (by omega) hcc
          cases r with
          | nil => simp at c2
          | cons d1 ds1 =>
            have c1' := (digs_cons _ _).1 c1
            have hl : ds1.length = k := by simp at c2 hk; omega
            have := ih ds1 hl (N / 10) c1'.2 (by omega)
            have e2 : nines (d1 :: ds1) = (9 - d1) :: nines ds1 := rfl
            simp only [Option.map_some, e2]
            rw [this]
            simp [Option.map_map, Function.comp_def, nines]
theorem all_nines' (s : Int) (hs : Sgn s) (ds : List Int) (N : Int) (hd : Digs ds) (h0 : 0 ≤ N) : all (0 - s) (nines ds) N = (all s ds N).map fun p => (nines p.1, p.2) := by
  unfold all
  rw [show (nines ds).length = ds.length from by simp [nines]]
  exact all_nines s hs ds.length ds rfl N hd h0
/-- a number that was added is taken again -/
theorem all_back (s : Int) (hs : Sgn s) (ds : List Int) (N : Int) (r : List Int) (n : Int) (hd : Digs ds) (h0 : 0 ≤ N) (h : all s ds N = some (r, n)) : ∃ m, all (0 - s) r N = some (ds, m) := by
  obtain ⟨a1, a2, a3, _⟩ := all_some s hs ds N r n hd h0 h
  have hs' : Sgn (0 - s) := by rcases hs with rfl | rfl <;> simp [Sgn]
  have hv := val_range ds hd
  have e : val r + (0 - s) * N = val ds := by rw [a3, Int.sub_mul]; omega
  have hi := (all_iff (0 - s) hs' r N a1 h0).2 (by rw [e, a2]; exact hv)
  obtain ⟨⟨q, m⟩, hq⟩ := Option.isSome_iff_exists.1 hi
  obtain ⟨b1, b2, b3, _⟩ := all_some (0 - s) hs' r N q m a1 h0 hq
  have : q = ds := val_inj q ds b1 hd (by omega) (by omega)
  exact ⟨m, by rw [hq, this]⟩

end Go.Proofs.YtpaepdlkjblfgaaDoor.Fr
