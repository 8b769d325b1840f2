/-
  The balances of debts, by the program.
-/
import Derived.Test.YtogplbnabffcfaaTaDebts
import Derived.Test.YtogplbnabffcfaaTaPlain2
namespace Go.Proofs.Ytogplbnabffcfaa
open Go.RowKit
set_option linter.unusedSimpArgs false

theorem five_set (b : List Int) (j : Nat) (u : Int) : (five b).setIfInBounds j (.int .i64 u) = five (b.set j u) := by simp [five, IV, List.map_set]
theorem five_get {b : List Int} {j : Nat} {u : Int} (h : b[j]? = some u) : (five b)[j]? = some (.int .i64 u) := by simp [five, IV, h]
theorem Blk.set5 {w : World} {b : Nat} {ty : TypeId} {a0 a1 a2 a3 a4 : Value} (h : Blk w b #[a0, a1, a2, a3, a4] ty) (x0 x1 x2 x3 x4 : Value) :
    Blk (((((w.setCell ⟨b, 0, none⟩ x0).setCell ⟨b, 1, none⟩ x1).setCell ⟨b, 2, none⟩ x2).setCell ⟨b, 3, none⟩ x3).setCell ⟨b, 4, none⟩ x4) b #[x0, x1, x2, x3, x4] ty := by
  have := ((((h.set 0 x0).set 1 x1).set 2 x2).set 3 x3).set 4 x4
  simpa using this
theorem below_set5 {w0 w : World} {b B : Nat} (h : Below B w0 w) (hb : B ≤ b) (x0 x1 x2 x3 x4 : Value) : Below B w0 (((((w.setCell ⟨b, 0, none⟩ x0).setCell ⟨b, 1, none⟩ x1).setCell ⟨b, 2, none⟩ x2).setCell ⟨b, 3, none⟩ x3).setCell ⟨b, 4, none⟩ x4) :=
  ((((h.setCell (p := ⟨b, 0, none⟩) hb x0).setCell (p := ⟨b, 1, none⟩) hb x1).setCell (p := ⟨b, 2, none⟩) hb x2).setCell (p := ⟨b, 3, none⟩) hb x3).setCell (p := ⟨b, 4, none⟩) hb x4
theorem bal_next {ds : List Db} {k : Nat} {d : Db} (h : ds[k]? = some d) : bal (ds.take (k + 1)) = upd (bal (ds.take k)) d := by
  rw [take_next h, bal, bal, List.foldl_append]; rfl
/-- balances grow no faster than debts -/
def Within (m : Int) (b : List Int) : Prop := b.length = 5 ∧ ∀ (i : Nat) (u : Int), b[i]? = some u → -m ≤ u ∧ u ≤ m
theorem Within.upd {m : Int} {b : List Int} (h : Within m b) {d : Db} (h0 : 0 ≤ d.v) (h1 : d.v ≤ 36000) (ht : Two d.a d.c) : Within (m + 36000) (upd b d) := by
  obtain ⟨hl, hb⟩ := h
  obtain ⟨t0, t1, t2, t3, t4⟩ := ht
  have gd : ∀ j, j < 5 → -m ≤ b.getD j 0 ∧ b.getD j 0 ≤ m := fun j hj => by
    have e : b[j]? = some (b.getD j 0) := by rw [List.getD_eq_getElem?_getD, List.getElem?_eq_getElem (by omega)]; rfl
    exact hb j _ e
  refine ⟨by rw [upd_length, hl], fun i u hu => ?_⟩
  have hi : i < 5 := by have := (List.getElem?_eq_some_iff.1 hu).1; rw [upd_length, hl] at this; exact this
  have e : u = (Go.Proofs.Ytogplbnabffcfaa.upd b d).getD i 0 := by rw [List.getD_eq_getElem?_getD, hu]; rfl
  have ga := gd d.a.toNat (by omega)
  have gi := gd i hi
  have gc := gd d.c.toNat (by omega)
  have hne : ¬ d.c.toNat = d.a.toNat := by omega
  rw [e, Go.Proofs.Ytogplbnabffcfaa.upd, Ta.getD_set _ _ _ _ (by rw [List.length_set, hl]; omega), Ta.getD_set _ _ _ _ (by omega), Ta.getD_set _ _ _ _ (by omega), if_neg hne]
  split
  · omega
  · split <;> omega
set_option maxRecDepth 100000 in
set_option maxHeartbeats 1000000 in
theorem balances_any (A : Option Addr) (n c : Nat) (ds : List Db) (w : World) (hr : Dbs w w.heap.size A n ds) (hf : Fair ds) : Calls Try.prog 22 #[.slice A n c] w fun e w' => e = .returned (.agg (five (bal ds))) ∧ Below w.heap.size w w' := by
  have hl := hr.len
  have h12 : n ≤ 12 := by have := hf.1; omega
  have HL := Lib.hid hl
  have HR := Lib.hid hr
  have HF := Lib.hid hf
  clear hl hr hf
  go_enter Try.func22, Try.ntmps22
  go_wp2_with fail
  go_loopw [8] (fun iv wr => ∃ (k : Nat), k ≤ n ∧ iv = .int .i64 (k : Int) ∧ Blk wr w.heap.size (five [0, 0, 0, 0, 0]) 48 ∧ Blk wr (w.heap.size + 1) (five (bal (ds.take k))) 48 ∧ Within (36000 * (k : Int)) (bal (ds.take k)) ∧ Below w.heap.size w wr) (fun iv _ => n - (intOf iv).toNat)
  case atStart =>
    refine ⟨0, by omega, rfl, (Blk.new w _ _).alloc _, ?_, ⟨rfl, fun i u hu => ?_⟩, ((Below.refl _ _).alloc (Nat.le_refl _) _).alloc (by simp) _⟩
    · have := Blk.new (w.alloc (.cells (five [0, 0, 0, 0, 0]) 48)) (five [0, 0, 0, 0, 0]) 48
      rw [World.size_alloc] at this
      exact this
    · have h5 : ([0, 0, 0, 0, 0] : List Int)[i]? = some u := hu
      have := List.mem_of_getElem? h5
      simp at this
      omega
  case round =>
    obtain ⟨k, hk, rfl, hz, hb, hw, hbl⟩ := hrel
    have HZ := Lib.hid hz
    have HB := Lib.hid hb
    have HW := Lib.hid hw
    have HBL := Lib.hid hbl
    clear hz hb hw hbl
    by_cases hlt : k < n
    · obtain ⟨b, off, d, rfl, hlb, ht, k0, k1, k2⟩ := Dbs.at_ (show Dbs wr w.heap.size A n ds from HR.out.below HBL.out) hlt
      obtain ⟨⟨t0, t1, t2, t3, t4⟩, v0, v1⟩ := HF.out.2 d (List.mem_of_getElem? ht)
      have HT := Lib.hid ht
      obtain ⟨a, cc, v⟩ := d
      obtain ⟨p, rfl⟩ := Int.eq_ofNat_of_zero_le t0
      obtain ⟨q, rfl⟩ := Int.eq_ofNat_of_zero_le t2
      simp only at k0 k1 k2 t0 t1 t2 t3 t4 v0 v1
      clear ht
      obtain ⟨W, hW⟩ : ∃ W, wr.alloc (.cells #[.int .i64 (p : Int), .int .i64 (q : Int), .int .i64 v] 54) = W := ⟨_, rfl⟩
      have hd : Blk W wr.heap.size #[.int .i64 (p : Int), .int .i64 (q : Int), .int .i64 v] 54 := by rw [← hW]; exact Blk.new _ _ _
      have hB : Blk W (w.heap.size + 1) (five (bal (ds.take k))) 48 := by rw [← hW]; exact HB.out.alloc _
      have hbL := HW.out.1
      obtain ⟨u, hu⟩ : ∃ u, (bal (ds.take k))[p]? = some u := ⟨_, List.getElem?_eq_getElem (by omega)⟩
      have hub := HW.out.2 p u hu
      have m0 : W.cell? ⟨wr.heap.size, 0, none⟩ = some (.int .i64 (p : Int)) := hd.cell rfl
      have m2 : W.cell? ⟨wr.heap.size, 2, none⟩ = some (.int .i64 v) := hd.cell rfl
      have a0 : W.cell? ⟨w.heap.size + 1, p, none⟩ = some (.int .i64 u) := hB.cell (five_get hu)
      have fa := hB.free p
      have hp5 : p < 5 := by omega
      have hq5 : q < 5 := by omega
      have hs1 : w.heap.size + 1 < wr.heap.size := HB.out.lt
      have HWW := Lib.hid hW
      have HD := Lib.hid hd
      have HBB := Lib.hid hB
      have HU := Lib.hid hu
      clear hW hd hB hu
      have w1 : IntKind.i64.wrap (u - v) = u - v := IntWalk.i64_in _ (by omega)
      go_wp2_with fail
      rw [HWW.out]
      obtain ⟨b1, hb1⟩ : ∃ b1, (bal (ds.take k)).set p (u - v) = b1 := ⟨_, rfl⟩
      have hb1l : b1.length = 5 := by rw [← hb1, List.length_set, hbL]
      obtain ⟨u2, hu2⟩ : ∃ u2, b1[q]? = some u2 := ⟨_, List.getElem?_eq_getElem (by omega)⟩
      have hu2b : -(36000 * (k : Int)) ≤ u2 ∧ u2 ≤ 36000 * (k : Int) := by
        rw [← hb1, List.getElem?_set_ne (by omega)] at hu2
        exact HW.out.2 q u2 hu2
      obtain ⟨W2, hW2⟩ : ∃ W2, (W.setCell ⟨w.heap.size + 1, p, none⟩ (.int .i64 (u - v))).drew = W2 := ⟨_, rfl⟩
      have hB2 : Blk W2 (w.heap.size + 1) (five b1) 48 := by
        rw [← hW2, ← hb1, ← five_set]
        exact (HBB.out.set p _).drew
      have hD2 : Blk W2 wr.heap.size #[.int .i64 (p : Int), .int .i64 (q : Int), .int .i64 v] 54 := by
        rw [← hW2]
        exact (HD.out.other (p := ⟨w.heap.size + 1, p, none⟩) (by show ¬ wr.heap.size = w.heap.size + 1; omega) _).drew
      have a2 : W2.cell? ⟨w.heap.size + 1, q, none⟩ = some (.int .i64 u2) := hB2.cell (five_get hu2)
      have fa2 := hB2.free q
      have n1 : W2.cell? ⟨wr.heap.size, 1, none⟩ = some (.int .i64 (q : Int)) := hD2.cell rfl
      have n2 : W2.cell? ⟨wr.heap.size, 2, none⟩ = some (.int .i64 v) := hD2.cell rfl
      have w2 : IntKind.i64.wrap (u2 + v) = u2 + v := IntWalk.i64_in _ (by omega)
      have hZ3 : Blk (W2.setCell ⟨w.heap.size + 1, q, none⟩ (.int .i64 (u2 + v))).drew w.heap.size (five [0, 0, 0, 0, 0]) 48 := by
        have hZ1 : Blk W w.heap.size (five [0, 0, 0, 0, 0]) 48 := by rw [← HWW.out]; exact HZ.out.alloc _
        have hZ2 : Blk W2 w.heap.size (five [0, 0, 0, 0, 0]) 48 := by rw [← hW2]; exact (hZ1.other (p := ⟨w.heap.size + 1, p, none⟩) (by show ¬ w.heap.size = w.heap.size + 1; omega) _).drew
        exact (hZ2.other (p := ⟨w.heap.size + 1, q, none⟩) (by show ¬ w.heap.size = w.heap.size + 1; omega) _).drew
      have hbn : bal (ds.take (k + 1)) = b1.set q (u2 + v) := by
        rw [bal_next HT.out]
        have e1 : (bal (ds.take k)).getD p 0 = u := by rw [List.getD_eq_getElem?_getD, HU.out]; rfl
        have e2 : b1.getD q 0 = u2 := by rw [List.getD_eq_getElem?_getD, hu2]; rfl
        simp only [upd, Int.toNat_natCast]
        rw [e1, hb1, e2]
      have hB3 : Blk (W2.setCell ⟨w.heap.size + 1, q, none⟩ (.int .i64 (u2 + v))).drew (w.heap.size + 1) (five (bal (ds.take (k + 1)))) 48 := by
        rw [hbn, ← five_set]
        exact (hB2.set q _).drew
      have hW3 : Within (36000 * ((k + 1 : Nat) : Int)) (bal (ds.take (k + 1))) := by
        rw [bal_next HT.out]
        have := Within.upd HW.out (d := ⟨(p : Int), (q : Int), v⟩) v0 v1 ⟨t0, t1, t2, t3, t4⟩
        rwa [show 36000 * (k : Int) + 36000 = 36000 * ((k + 1 : Nat) : Int) from by omega] at this
      have hBL3 : Below w.heap.size w (W2.setCell ⟨w.heap.size + 1, q, none⟩ (.int .i64 (u2 + v))).drew := by
        have h1 : Below w.heap.size w W := by rw [← HWW.out]; exact HBL.out.alloc HBL.out.size _
        have h2 : Below w.heap.size w W2 := by rw [← hW2]; exact (h1.setCell (p := ⟨w.heap.size + 1, p, none⟩) (Nat.le_succ _) _).drew
        exact (h2.setCell (p := ⟨w.heap.size + 1, q, none⟩) (Nat.le_succ _) _).drew
      have HREL := Lib.hid (And.intro hZ3 (And.intro hB3 (And.intro hW3 hBL3)))
      clear hZ3 hbn hB3 hW3 hBL3
      have HW2 := Lib.hid hW2
      have HB2 := Lib.hid hB2
      have HB1 := Lib.hid hb1
      have HU2 := Lib.hid hu2
      clear hW2 hB2 hD2 hb1 hu2
      go_region_with (fail)
      all_goals rw [HW2.out]
      all_goals clear m0 m2 a0 fa w1
      all_goals go_wp2_with fail
      all_goals go_region_with (fail)
      all_goals go_wp2_with fail
      all_goals exact ⟨⟨k + 1, by omega, by go_num, HREL.out.1, HREL.out.2.1, HREL.out.2.2.1, HREL.out.2.2.2⟩, by simp [intOf]; omega⟩
    · obtain rfl : k = n := by omega
      have hT : ds.take k = ds := List.take_of_length_le (by have := HL.out; omega)
      have hB := HB.out
      rw [hT] at hB
      obtain ⟨b0, b1, b2, b3, b4, hbe⟩ := Ta.five (bal_length ds)
      have HBE := Lib.hid hbe
      have hz := HZ.out
      rw [hbe] at hB
      have c0 : wr.cell? ⟨w.heap.size + 1, 0, none⟩ = some (.int .i64 b0) := hB.cell (j := 0) rfl
      have c1 : wr.cell? ⟨w.heap.size + 1, 1, none⟩ = some (.int .i64 b1) := hB.cell (j := 1) rfl
      have c2 : wr.cell? ⟨w.heap.size + 1, 2, none⟩ = some (.int .i64 b2) := hB.cell (j := 2) rfl
      have c3 : wr.cell? ⟨w.heap.size + 1, 3, none⟩ = some (.int .i64 b3) := hB.cell (j := 3) rfl
      have c4 : wr.cell? ⟨w.heap.size + 1, 4, none⟩ = some (.int .i64 b4) := hB.cell (j := 4) rfl
      have z0 : wr.cell? ⟨w.heap.size, 0, none⟩ = some (.int .i64 0) := hz.cell (j := 0) rfl
      have z1 : wr.cell? ⟨w.heap.size, 1, none⟩ = some (.int .i64 0) := hz.cell (j := 1) rfl
      have z2 : wr.cell? ⟨w.heap.size, 2, none⟩ = some (.int .i64 0) := hz.cell (j := 2) rfl
      have z3 : wr.cell? ⟨w.heap.size, 3, none⟩ = some (.int .i64 0) := hz.cell (j := 3) rfl
      have z4 : wr.cell? ⟨w.heap.size, 4, none⟩ = some (.int .i64 0) := hz.cell (j := 4) rfl
      have f0 := hz.free 0
      have f1 := hz.free 1
      have f2 := hz.free 2
      have f3 := hz.free 3
      have f4 := hz.free 4
      clear hB hz hbe hT
      go_wp2_with fail
      have hf := Blk.set5 (a0 := .int .i64 0) (a1 := .int .i64 0) (a2 := .int .i64 0) (a3 := .int .i64 0) (a4 := .int .i64 0) HZ.out (.int .i64 b0) (.int .i64 b1) (.int .i64 b2) (.int .i64 b3) (.int .i64 b4)
      have g0 := hf.cell (j := 0) rfl
      have g1 := hf.cell (j := 1) rfl
      have g2 := hf.cell (j := 2) rfl
      have g3 := hf.cell (j := 3) rfl
      have g4 := hf.cell (j := 4) rfl
      exact bodyPost_ret (v := .agg #[.int .i64 b0, .int .i64 b1, .int .i64 b2, .int .i64 b3, .int .i64 b4]) (by simp [results, Try.results22, go_sem, g0, g1, g2, g3, g4]) rfl ⟨by rw [HBE.out]; rfl, below_set5 HBL.out (Nat.le_refl _) _ _ _ _ _⟩
end Go.Proofs.Ytogplbnabffcfaa
