/-
  The rods of a frame in memory: a block of pairs behind a block that holds the slice; one rod is read and changed.
-/
import Derived.Test.YtpaepdlkjblfgaaDoorOwn
import Derived.Test.YtpaepdlkjblfgaaDoorKit
import Derived.Test.YtpaepdlkjblfgaaDoorFrPlain
namespace Go.Proofs.YtpaepdlkjblfgaaDoor
open Go.RowKit

/-- the upper and the lower beads of digits -/
def HiL (ds : List Int) : List Int := ds.map fun d => d / 5
def LoL (ds : List Int) : List Int := ds.map fun d => d % 5
/-- the cells of rods that show digits -/
def RC : List Int → List Value
  | [] => []
  | d :: ds => .int .i64 (d / 5) :: .int .i64 (d % 5) :: RC ds
theorem HiL_length (ds : List Int) : (HiL ds).length = ds.length := by simp [HiL]
theorem LoL_length (ds : List Int) : (LoL ds).length = ds.length := by simp [LoL]
theorem RC_length (ds : List Int) : (RC ds).length = 2 * ds.length := by
  induction ds with
  | nil => rfl
  | cons d ds ih => simp [RC, ih]; omega
theorem RC_hi (ds : List Int) : ∀ k d, ds[k]? = some d → (RC ds)[2 * k]? = some (.int .i64 (d / 5)) := by
  induction ds with
  | nil => intro k d h; simp at h
  | cons a ds ih =>
    intro k d h
    cases k with
    | zero => simp at h; subst h; rfl
    | succ k => rw [show 2 * (k + 1) = 2 * k + 1 + 1 from by omega]; simp only [RC, List.getElem?_cons_succ]; exact ih k d (by simpa using h)
theorem RC_lo (ds : List Int) : ∀ k d, ds[k]? = some d → (RC ds)[2 * k + 1]? = some (.int .i64 (d % 5)) := by
  induction ds with
  | nil => intro k d h; simp at h
  | cons a ds ih =>
    intro k d h
    cases k with
    | zero => simp at h; subst h; rfl
    | succ k => rw [show 2 * (k + 1) + 1 = 2 * k + 1 + 1 + 1 from by omega]; simp only [RC, List.getElem?_cons_succ]; exact ih k d (by simpa using h)
theorem RC_set (ds : List Int) : ∀ k x, k < ds.length → ((RC ds).set (2 * k) (.int .i64 (x / 5))).set (2 * k + 1) (.int .i64 (x % 5)) = RC (ds.set k x) := by
  induction ds with
  | nil => intro k x h; simp at h
  | cons a ds ih =>
    intro k x h
    cases k with
    | zero => rfl
    | succ k =>
      rw [show 2 * (k + 1) + 1 = 2 * k + 1 + 1 + 1 from by omega, show 2 * (k + 1) = 2 * k + 1 + 1 from by omega]
      simp only [RC, List.set_cons_succ]
      rw [ih k x (by simpa using h)]

/-- the rods in block h, the slice of them in block g -/
def Rods (w : World) (B g h : Nat) (ds : List Int) : Prop :=
  w.heap[g]? = some (.cells #[.slice (some ⟨h, 0, none⟩) ds.length ds.length] 38 (0, 0)) ∧ w.heap[h]? = some (.cells (RC ds).toArray 41 (0, 0)) ∧ B ≤ g ∧ B ≤ h ∧ g ≠ h
section
variable {w w' : World} {B g h : Nat} {ds : List Int}
theorem Rods.gl (r : Rods w B g h ds) : g < w.heap.size := (Array.getElem?_eq_some_iff.1 r.1).1
theorem Rods.hl (r : Rods w B g h ds) : h < w.heap.size := (Array.getElem?_eq_some_iff.1 r.2.1).1
theorem Rods.keep (r : Rods w B g h ds) (hg : w'.heap[g]? = w.heap[g]?) (hh : w'.heap[h]? = w.heap[h]?) : Rods w' B g h ds := ⟨hg.trans r.1, hh.trans r.2.1, r.2.2⟩
theorem Rods.next (r : Rods w B g h ds) (hb : Below w.heap.size w w') : Rods w' B g h ds := r.keep (hb.block g r.gl) (hb.block h r.hl)
theorem Rods.alloc (r : Rods w B g h ds) (o : Obj) : Rods (w.alloc o) B g h ds := r.keep (Below.heap_alloc w o g r.gl) (Below.heap_alloc w o h r.hl)
theorem Rods.drewN (r : Rods w B g h ds) (k : Nat) : Rods (w.drewN k) B g h ds := r
theorem Rods.mono {B' : Nat} (r : Rods w B g h ds) (hB : B' ≤ B) : Rods w B' g h ds := ⟨r.1, r.2.1, Nat.le_trans hB r.2.2.1, Nat.le_trans hB r.2.2.2.1, r.2.2.2.2⟩
theorem Rods.slice (r : Rods w B g h ds) : w.cell? ⟨g, 0, none⟩ = some (.slice (some ⟨h, 0, none⟩) ds.length ds.length) := cell_of_row w g 0 _ _ _ r.1
theorem Rods.hi (r : Rods w B g h ds) {k : Nat} {d : Int} (hd : ds[k]? = some d) : w.cell? ⟨h, k * 2, none⟩ = some (.int .i64 (d / 5)) := by
  rw [cell_of_row w h (k * 2) _ _ _ r.2.1, Nat.mul_comm]; simpa using RC_hi ds k d hd
theorem Rods.lo (r : Rods w B g h ds) {k : Nat} {d : Int} (hd : ds[k]? = some d) : w.cell? ⟨h, k * 2 + 1, none⟩ = some (.int .i64 (d % 5)) := by
  rw [cell_of_row w h (k * 2 + 1) _ _ _ r.2.1, Nat.mul_comm]; simpa using RC_lo ds k d hd
theorem Rods.free (r : Rods w B g h ds) (j : Nat) : w.frozen? ⟨h, j, none⟩ = false := by
  have := r.2.1
  simp [World.frozen?, this]
theorem Rods.set_ (r : Rods w B g h ds) {k : Nat} (hk : k < ds.length) (x : Int) :
    Rods ((w.setCell ⟨h, k * 2, none⟩ (.int .i64 (x / 5))).setCell ⟨h, k * 2 + 1, none⟩ (.int .i64 (x % 5))) B g h (ds.set k x) := by
  obtain ⟨h1, h2, h3, h4, h5⟩ := r
  refine ⟨?_, ?_, h3, h4, h5⟩
  · rw [heap_setCell_other _ _ g _ h5, heap_setCell_other _ _ g _ h5, List.length_set]; exact h1
  · have e1 := heap_setCell_same w h (k * 2) _ _ (.int .i64 (x / 5)) h2
    have e2 := heap_setCell_same _ h (k * 2 + 1) _ _ (.int .i64 (x % 5)) e1
    rw [e2, ← RC_set ds k x hk, Nat.mul_comm 2 k]
    simp
end
theorem grown_set {w : World} (h j : Nat) (u : Value) : w.grownBy (w.setCell ⟨h, j, none⟩ u) (some h) :=
  ⟨rfl, rfl, rfl, by simp [World.setCell], fun k _ hne => heap_setCell_other w _ k _ (fun e => hne (by rw [e]))⟩

set_option maxHeartbeats 400000 in
theorem digit_any (w : World) (h o : Nat) (d : Int) (h0 : 0 ≤ d) (h9 : d ≤ 9) (c0 : w.cell? ⟨h, o, none⟩ = some (.int .i64 (d / 5))) (c1 : w.cell? ⟨h, o + 1, none⟩ = some (.int .i64 (d % 5))) :
    Calls Tryd.prog 12 #[.pointer (some ⟨h, o, none⟩)] w fun e w' => e = .returned (.int .i64 d) ∧ ∃ q, w' = w.drewN q := by
  have b0 : 0 ≤ d / 5 ∧ d / 5 ≤ 1 := by omega
  have b1 : 0 ≤ d % 5 ∧ d % 5 ≤ 4 := by omega
  have e0 : 5 * (d / 5) + d % 5 = d := by omega
  obtain ⟨u, hu⟩ : ∃ u, d / 5 = u := ⟨_, rfl⟩
  obtain ⟨v, hv⟩ : ∃ v, d % 5 = v := ⟨_, rfl⟩
  rw [hu] at b0 c0 e0
  rw [hv] at b1 c1 e0
  obtain ⟨b00, b01⟩ := b0
  obtain ⟨b10, b11⟩ := b1
  have HE := Lib.hid e0
  clear hu hv e0 h0 h9
  have s1 : IntKind.i64.wrap (5 * u) = 5 * u := IntWalk.i64_in _ (by omega)
  have s2 : IntKind.i64.wrap (5 * u + v) = 5 * u + v := IntWalk.i64_in _ (by omega)
  go_enter Tryd.func12, Tryd.ntmps12
  go_wp2_with fail
  go_quiet (fail)
  go_wp2
  go_ret
  exact ⟨ret_int HE.out, _, rfl⟩

theorem rod_digit {w : World} {B g h : Nat} {ds : List Int} {k : Nat} {d : Int} (r : Rods w B g h ds) (hd : ds[k]? = some d) (h0 : 0 ≤ d) (h9 : d ≤ 9) :
    Calls Tryd.prog 12 #[.pointer (some ⟨h, k * 2, none⟩)] w fun e w' => e = .returned (.int .i64 d) ∧ ∃ q, w' = w.drewN q :=
  digit_any w h (k * 2) d h0 h9 (r.hi hd) (r.lo hd)

set_option maxHeartbeats 400000 in
theorem pushesTo_any (w : World) (h o : Nat) (a b c d : Int) (c0 : w.cell? ⟨h, o, none⟩ = some (.int .i64 a)) (c1 : w.cell? ⟨h, o + 1, none⟩ = some (.int .i64 b)) (hlt : h < w.heap.size) :
    Calls Tryd.prog 26 #[.pointer (some ⟨h, o, none⟩), .agg #[.int .i64 c, .int .i64 d]] w fun e w' =>
      e = .returned (.int .i64 ((if a = c then 0 else 1) + (if b = d then 0 else 1))) ∧ Below w.heap.size w w' := by
  obtain ⟨r, hr⟩ : ∃ r : Int, (if a = c then 0 else 1) = r := ⟨_, rfl⟩
  obtain ⟨s, hs⟩ : ∃ r : Int, (if b = d then 0 else 1) = r := ⟨_, rfl⟩
  rw [hr, hs]
  rcases hac : (a != c) with _ | _ <;> rcases hbd : (b != d) with _ | _
  all_goals
    have e1 : ∀ x y : Int, (x != y) = false → (if x = y then (0 : Int) else 1) = 0 := by intro x y h; rw [if_pos (by simpa using h)]
    have e2 : ∀ x y : Int, (x != y) = true → (if x = y then (0 : Int) else 1) = 1 := by intro x y h; rw [if_neg (by simpa using h)]
    first | rw [e1 _ _ hac] at hr | rw [e2 _ _ hac] at hr
    first | rw [e1 _ _ hbd] at hs | rw [e2 _ _ hbd] at hs
    subst hr
    subst hs
    clear e1 e2
    go_enter Tryd.func26, Tryd.ntmps26
    go_wp2_with fail
    go_quiet (fail)
    go_wp2_with fail
    go_quiet (fail)
    go_wp2
    go_ret
    first
      | exact ⟨rfl, below_drewN ((Below.refl _ _).alloc (Nat.le_refl _) _) _⟩
      | exact ⟨rfl, below_drewN (below_drewN ((Below.refl _ _).alloc (Nat.le_refl _) _) _) _⟩

set_option maxHeartbeats 1000000 in
theorem show_any (w : World) (B g h : Nat) (ds : List Int) (k : Nat) (d x : Int) (hr : Rods w B g h ds) (hd : ds[k]? = some d) (x0 : 0 ≤ x) (x9 : x ≤ 9) :
    Calls Tryd.prog 24 #[.pointer (some ⟨h, k * 2, none⟩), .int .i64 x] w fun e w' => e = .returned (.int .i64 (Fr.cost d x)) ∧ Rods w' B g h (ds.set k x) ∧ w.grownBy w' (some h) := by
  have hl := hr.hl
  have hk : k < ds.length := (List.getElem?_eq_some_iff.1 hd).1
  have c0 := (hr.alloc (.cells #[.int .i64 (x / 5), .int .i64 (x % 5)] 41)).hi hd
  have c1 := (hr.alloc (.cells #[.int .i64 (x / 5), .int .i64 (x % 5)] 41)).lo hd
  have HR := Lib.hid hr
  have HK := Lib.hid hk
  clear hd hr hk
  go_enter Tryd.func24, Tryd.ntmps24
  go_wp2_with fail
  refine (show Calls Tryd.prog 26 #[.pointer (some ⟨h, k * 2, none⟩), .agg #[.int .i64 (x / 5), .int .i64 (x % 5)]] _ (fun e w' => e = .returned (.int .i64 (Fr.cost d x)) ∧ Below _ _ w') from pushesTo_any _ _ _ _ _ _ _ c0 c1 (by simp; omega)).mono ?_
  rintro e w1 ⟨rfl, hb1⟩
  have hr1 := (HR.out.alloc _).next hb1
  have f0 := hr1.free (k * 2)
  have f1 := hr1.free (k * 2 + 1)
  have c10 := (hb1.cell (p := ⟨h, k * 2, none⟩) (by simp; omega)).trans c0
  have c11 := (hb1.cell (p := ⟨h, k * 2 + 1, none⟩) (by simp; omega)).trans c1
  have b0 : w1.cell? ⟨w.heap.size, 0, none⟩ = some (.int .i64 (x / 5)) := (hb1.cell (p := ⟨w.heap.size, 0, none⟩) (by simp)).trans (by rw [cell_of_row _ w.heap.size 0 _ _ _ (heap_alloc_new w _)]; rfl)
  have b1 : w1.cell? ⟨w.heap.size, 1, none⟩ = some (.int .i64 (x % 5)) := (hb1.cell (p := ⟨w.heap.size, 1, none⟩) (by simp)).trans (by rw [cell_of_row _ w.heap.size 1 _ _ _ (heap_alloc_new w _)]; rfl)
  have HR1 := Lib.hid hr1
  have HB1 := Lib.hid hb1
  clear hr1 hb1 c0 c1
  go_wp2
  go_ret
  refine ⟨rfl, HR1.out.set_ HK.out x, ?_⟩
  exact (((World.grownBy_alloc _ _ _).trans (grown_of_below HB1.out (some h))).trans (grown_set h _ _)).trans (grown_set h _ _)
end Go.Proofs.YtpaepdlkjblfgaaDoor
