/-
  The program's TalliesMerge.
-/
import Derived.Test.YtogplbnabffcfaaTaMerge
import Derived.Deep.RegionHeld3
namespace Go.Proofs.Ytogplbnabffcfaa
open Go.RowKit
set_option linter.unusedSimpArgs false

/-- block g holds the matrix f, row by row -/
def Mat (w : World) (g : Nat) (f : Nat → Nat → Int) : Prop := ∃ L : List Int, L.length = 25 ∧ Blk w g (five L) 59 ∧ ∀ i j, i < 5 → j < 5 → L[i * 5 + j]? = some (f i j)
section
variable {w w' : World} {g : Nat} {f f' : Nat → Nat → Int}
theorem Mat.lt (h : Mat w g f) : g < w.heap.size := by obtain ⟨L, _, hb, _⟩ := h; exact hb.lt
theorem Mat.keep (h : Mat w g f) (hb : w'.heap[g]? = w.heap[g]?) : Mat w' g f := by obtain ⟨L, h1, h2, h3⟩ := h; exact ⟨L, h1, h2.keep hb, h3⟩
theorem Mat.alloc (h : Mat w g f) (o : Obj) : Mat (w.alloc o) g f := h.keep (Below.heap_alloc w o g h.lt)
theorem Mat.drew (h : Mat w g f) : Mat w.drew g f := h
theorem Mat.drewN (h : Mat w g f) (k : Nat) : Mat (w.drewN k) g f := h
theorem Mat.next (h : Mat w g f) (hb : Below w.heap.size w w') : Mat w' g f := h.keep (hb.block g h.lt)
theorem Mat.cell (h : Mat w g f) {i j : Nat} (hi : i < 5) (hj : j < 5) : w.cell? ⟨g, i * 5 + j, none⟩ = some (.int .i64 (f i j)) := by
  obtain ⟨L, h1, h2, h3⟩ := h
  exact h2.cell (five_get (h3 i j hi hj))
theorem Mat.free (h : Mat w g f) (k : Nat) : w.frozen? ⟨g, k, none⟩ = false := by obtain ⟨L, h1, h2, h3⟩ := h; exact h2.free k
theorem Mat.set (h : Mat w g f) {p q : Nat} (hp : p < 5) (hq : q < 5) {u : Int} (hf : ∀ i j, f' i j = if i = p ∧ j = q then u else f i j) : Mat (w.setCell ⟨g, p * 5 + q, none⟩ (.int .i64 u)) g f' := by
  obtain ⟨L, h1, h2, h3⟩ := h
  refine ⟨L.set (p * 5 + q) u, by rw [List.length_set, h1], ?_, fun i j hi hj => ?_⟩
  · rw [← five_set]; exact h2.set _ _
  · rw [hf i j, List.getElem?_set]
    by_cases e : i = p ∧ j = q
    · obtain ⟨rfl, rfl⟩ := e
      rw [if_pos rfl, if_pos (by omega), if_pos ⟨rfl, rfl⟩]
    · rw [if_neg e, if_neg (by omega)]
      exact h3 i j hi hj
theorem Mat.zero (w : World) : Mat (w.alloc (.cells (five (List.replicate 25 0)) 59)) w.heap.size (fun _ _ => 0) :=
  ⟨List.replicate 25 0, by simp, Blk.new _ _ _, fun i j hi hj => by rw [List.getElem?_replicate, if_pos (by omega)]⟩
theorem Mat.is (h : Mat w g f) (hf : ∀ i j, f i j = f' i j) : Mat w g f' := by obtain ⟨L, h1, h2, h3⟩ := h; exact ⟨L, h1, h2, fun i j hi hj => by rw [← hf]; exact h3 i j hi hj⟩
end
def MergePost (w : World) (ts : List Tl) (e : Ending) (w' : World) : Prop :=
  ((∃ ms, okL ts = true ∧ Merging (owes (ts.map debtOf)) 5 0 ms ∧ ∃ A c, e = .returned (.tuple #[.slice A ms.length c, .bool true]) ∧ OwnT w' w.heap.size A ms.length c (ms.map payT)) ∨ e = .returned (.tuple #[.slice none 0 0, .bool false])) ∧ Below w.heap.size w w'
/-- in the loops over pairs: the tallies so far -/
def Merg (w wr : World) (B g : Nat) (f : Nat → Nat → Int) (i m : Nat) (sv : Value) : Prop :=
  ∃ (ms : List (Nat × Nat × Int)) (AT : Option Addr) (cT : Nat), sv = .slice AT ms.length cT ∧ Merging f i m ms ∧ Mat wr g f ∧ OwnT wr B AT ms.length cT (ms.map payT) ∧ (∀ q, (Value.slice AT ms.length cT).ownBlock = some q → q ≠ g) ∧ Below B w wr
set_option maxRecDepth 100000 in
set_option maxHeartbeats 2000000 in
theorem TalliesMerge_any (A : Option Addr) (n c : Nat) (ts : List Tl) (w : World) (hr : Tals w w.heap.size A n ts) (hsm : Small ts) : Calls Try.prog 10 #[.slice A n c] w (MergePost w ts) := by
  go_enter Try.func10, Try.ntmps10
  go_wp2_with fail
  refine (debtsOf_any A n c ts w hr hsm).mono ?_
  rintro e w1 ⟨⟨hok, A1, c1, rfl, ho⟩ | ⟨hno, rfl⟩, hb⟩
  rotate_left
  · have HB := Lib.hid hb
    clear hno hb hr hsm
    go_wp2
    go_ret2
    exact ⟨.inr rfl, HB.out⟩
  obtain ⟨ds, hds⟩ : ∃ ds, ts.map debtOf = ds := ⟨_, rfl⟩
  have hF := fair_of hok
  rw [hds] at ho hF
  have hl := ho.dbs.len
  have h12 : n ≤ 12 := by have := hF.1; omega
  have HF := Lib.hid hF
  have HOK := Lib.hid (And.intro hok hds)
  have HO := Lib.hid ho.dbs
  have HB := Lib.hid hb
  have HL := Lib.hid hl
  clear hok hF ho hb hr hsm hds hl
  go_wp2_with fail
  go_loopw [24] (fun iv wr => ∃ (k : Nat), k ≤ n ∧ iv = .int .i64 (k : Int) ∧ Mat wr w1.heap.size (owes (ds.take k)) ∧ Below w1.heap.size w1 wr) (fun iv _ => n - (intOf iv).toNat)
  case atStart => exact ⟨0, by omega, rfl, Mat.zero w1, (Below.refl _ _).alloc (Nat.le_refl _) _⟩
  case round =>
    obtain ⟨k, hk, rfl, hm, hb⟩ := hrel
    have HM := Lib.hid hm
    have HB1 := Lib.hid hb
    clear hm hb
    by_cases hlt : k < n
    · obtain ⟨b, off, d, rfl, hlb, ht, k0, k1, k2⟩ := Dbs.at_ (show Dbs wr w1.heap.size A1 n ds from HO.out.below HB1.out) hlt
      obtain ⟨⟨t0, t1, t2, t3, t4⟩, v0, v1⟩ := HF.out.2 d (List.mem_of_getElem? ht)
      obtain ⟨a, cc, v⟩ := d
      obtain ⟨p, rfl⟩ := Int.eq_ofNat_of_zero_le t0
      obtain ⟨q, rfl⟩ := Int.eq_ofNat_of_zero_le t2
      simp only at k0 k1 k2 t0 t1 t2 t3 t4 v0 v1
      have HN := Lib.hid (owes_next ht)
      obtain ⟨W, hW⟩ : ∃ W, wr.alloc (.cells #[.int .i64 (p : Int), .int .i64 (q : Int), .int .i64 v] 54) = W := ⟨_, rfl⟩
      have hd : Blk W wr.heap.size #[.int .i64 (p : Int), .int .i64 (q : Int), .int .i64 v] 54 := by rw [← hW]; exact Blk.new _ _ _
      have hM : Mat W w1.heap.size (owes (ds.take k)) := by rw [← hW]; exact HM.out.alloc _
      have hp5 : p < 5 := by omega
      have hq5 : q < 5 := by omega
      obtain ⟨u, hu⟩ : ∃ u, owes (ds.take k) p q = u := ⟨_, rfl⟩
      have hub := owes_bd (ds.take k) p q (fun x hx => HF.out.2 x (List.mem_of_mem_take hx))
      rw [hu, List.length_take] at hub
      have m0 : W.cell? ⟨wr.heap.size, 0, none⟩ = some (.int .i64 (p : Int)) := hd.cell rfl
      have m1 : W.cell? ⟨wr.heap.size, 1, none⟩ = some (.int .i64 (q : Int)) := hd.cell rfl
      have m2 : W.cell? ⟨wr.heap.size, 2, none⟩ = some (.int .i64 v) := hd.cell rfl
      have a0 : W.cell? ⟨w1.heap.size, p * 5 + q, none⟩ = some (.int .i64 u) := by rw [← hu]; exact hM.cell hp5 hq5
      have fa := hM.free (p * 5 + q)
      have wu : IntKind.i64.wrap (u + v) = u + v := IntWalk.i64_in _ (by omega)
      have hM3 : Mat (W.setCell ⟨w1.heap.size, p * 5 + q, none⟩ (.int .i64 (u + v))) w1.heap.size (owes (ds.take (k + 1))) := hM.set hp5 hq5 (fun i j => by
        rw [HN.out]
        by_cases e : i = p ∧ j = q
        · rw [if_pos e, if_pos e, e.1, e.2, hu]
        · rw [if_neg e, if_neg e]; omega)
      have hB3 : Below w1.heap.size w1 (W.setCell ⟨w1.heap.size, p * 5 + q, none⟩ (.int .i64 (u + v))) := by
        rw [← hW]
        exact (HB1.out.alloc HB1.out.size _).setCell (p := ⟨w1.heap.size, p * 5 + q, none⟩) (Nat.le_refl _) _
      have HREL := Lib.hid (And.intro hM3 hB3)
      have HW := Lib.hid hW
      clear ht hW hd hM hu hub hM3 hB3
      go_wp2_with fail
      rw [HW.out]
      go_region_with (fail)
      all_goals go_wp2_with fail
      all_goals exact ⟨⟨k + 1, by omega, by go_num, HREL.out.1.drew, HREL.out.2.drew⟩, by simp [intOf]; omega⟩
    · obtain ⟨f, hf⟩ : ∃ f, owes ds = f := ⟨_, rfl⟩
      have hT : ds.take k = ds := List.take_of_length_le (by have := HL.out; omega)
      have hm := HM.out
      rw [hT, hf] at hm
      have HFB := Lib.hid (show ∀ i j, 0 ≤ f i j ∧ f i j ≤ 432000 from fun i j => by
        have := owes_bd ds i j HF.out.2
        have h12 := HF.out.1
        rw [hf] at this
        omega)
      have HPS := Lib.hid (show ∀ ms A c w', Merging f 5 0 ms → OwnT w' w.heap.size A ms.length c (ms.map payT) → Below w.heap.size w w' → MergePost w ts (.returned (.tuple #[.slice A ms.length c, .bool true])) w' from fun ms A c w' h1 h2 h3 =>
        ⟨.inl ⟨ms, HOK.out.1, by rw [HOK.out.2, hf]; exact h1, A, c, rfl, h2⟩, h3⟩)
      have HG := Lib.hid (show w.heap.size ≤ w1.heap.size from HB.out.size)
      have HMG := Lib.hid (show Merg w (wr.alloc (.cells #[] 33)) w.heap.size w1.heap.size f 0 0 (.slice (some ⟨wr.heap.size, 0, none⟩) 0 0) from by
        refine ⟨[], _, _, rfl, Merging.start f, hm.alloc _, lit_nil_t wr _ (Nat.le_trans HB.out.size HB1.out.size), fun q hq => ?_, (HB.out.trans (HB1.out.mono HB.out.size)).alloc (Nat.le_trans HB.out.size HB1.out.size) _⟩
        have hq : wr.heap.size = q := by injection hq
        have := hm.lt
        omega)
      have hge : ¬ (k : Int) < (n : Int) := by omega
      clear hf hT hm
      go_wp2_with fail
      go_loopw [9, 10] (fun sv iv wr => ∃ (i : Nat), i ≤ 5 ∧ iv = .int .i64 (i : Int) ∧ Merg w wr w.heap.size w1.heap.size f i 0 sv) (fun _ iv _ => 5 - (intOf iv).toNat)
      case atStart => exact ⟨0, by omega, rfl, HMG.out⟩
      case round =>
        obtain ⟨i, hi, rfl, hmg⟩ := hrel
        have HM1 := Lib.hid hmg
        clear hmg
        by_cases hi5 : i < 5
        · have hiI : (i : Int) < 5 := by omega
          go_wp2_with fail
          go_loopw [9, 11] (fun sv jv wr => ∃ (j m : Nat), j ≤ 5 ∧ j = i + 1 + m ∧ jv = .int .i64 (j : Int) ∧ Merg w wr w.heap.size w1.heap.size f i m sv) (fun _ jv _ => 5 - (intOf jv).toNat)
          case atStart => exact ⟨i + 1, 0, by omega, by omega, rfl, HM1.out⟩
          case round =>
            obtain ⟨j, m, hj, hjm, rfl, ms, AT, cT, rfl, hmg, hmat, hot, hsep, hbl⟩ := hrel
            have HMG2 := Lib.hid hmg
            have HJM := Lib.hid hjm
            have HMAT := Lib.hid hmat
            have HOT := Lib.hid (And.intro hot hsep)
            have HBL := Lib.hid hbl
            clear hmg hmat hot hsep hbl hjm
            by_cases hj5 : j < 5
            · have hglt := HMAT.out.lt
              have a1 := HMAT.out.cell hi5 hj5
              have a2 := HMAT.out.cell hj5 hi5
              have b1 := HFB.out i j
              have b2 := HFB.out j i
              obtain ⟨d, hd⟩ : ∃ d, dif f i j = d := ⟨_, rfl⟩
              have hd2 : f i j - f j i = d := hd
              obtain ⟨x, hx⟩ : ∃ x, f i j = x := ⟨_, rfl⟩
              obtain ⟨y, hy⟩ : ∃ y, f j i = y := ⟨_, rfl⟩
              rw [hx] at a1 b1 hd2
              rw [hy] at a2 b2 hd2
              have wd : IntKind.i64.wrap (x - y) = d := by rw [← hd2]; exact IntWalk.i64_in _ (by omega)
              have HD := Lib.hid hd
              clear hx hy hd hd2
              go_wp2_with fail
              go_region_held3 (fun w' => w'.cell? ⟨w1.heap.size, i * 5 + j, none⟩ = some (.int .i64 x) ∧ w'.cell? ⟨w1.heap.size, j * 5 + i, none⟩ = some (.int .i64 y)) (first | (exact ⟨a1, a2⟩) | (constructor <;> go_simp) | go_keep) (fail)
              obtain ⟨W4, hW4⟩ : ∃ W4, (wr.alloc (.cells #[.int .i64 (i : Int), .int .i64 (j : Int), .int .i64 d] 54)).drew = W4 := ⟨_, rfl⟩
              have hbk : Blk W4 wr.heap.size #[.int .i64 (i : Int), .int .i64 (j : Int), .int .i64 d] 54 := by rw [← hW4]; exact (Blk.new _ _ _).drew
              have hb4 : Below wr.heap.size wr W4 := by rw [← hW4]; exact ((Below.refl _ _).alloc (Nat.le_refl _) _).drew
              have HM4 := Lib.hid (HMAT.out.next hb4)
              have HO4 := Lib.hid (HOT.out.1.next hb4)
              have HB4 := Lib.hid (HBL.out.trans (hb4.mono HBL.out.size))
              have d0 : W4.cell? ⟨wr.heap.size, 0, none⟩ = some (.int .i64 (i : Int)) := hbk.cell rfl
              have d1 : W4.cell? ⟨wr.heap.size, 1, none⟩ = some (.int .i64 (j : Int)) := hbk.cell rfl
              have d2 : W4.cell? ⟨wr.heap.size, 2, none⟩ = some (.int .i64 d) := hbk.cell rfl
              have r0 := hbk.free 0
              have r1 := hbk.free 1
              have r2 := hbk.free 2
              have HBK := Lib.hid hbk
              rw [hW4]
              have HW4 := Lib.hid hb4
              have wn : IntKind.i64.wrap (-d) = -d := IntWalk.i64_in _ (by have : d = x - y := wd.symm.trans (IntWalk.i64_in _ (by omega)); omega)
              clear hW4 hbk hb4 a1 a2 b1 b2 wd
              by_cases hdz : d = 0
              · have HMS := Lib.hid (HMG2.out.skip (by rw [← HJM.out, HD.out]; exact hdz))
                subst hdz
                go_wp2_with fail
                exact ⟨⟨j + 1, m + 1, by omega, by have := HJM.out; omega, by go_num, ms, AT, cT, rfl, HMS.out, HM4.out, HO4.out, HOT.out.2, HB4.out⟩, by simp [intOf]; omega⟩
              have hdz' : (d == 0) = false := by simpa using hdz
              clear hdz
              by_cases hdn : d < 0
              · obtain ⟨W5, hW5⟩ : ∃ W5, ((W4.setCell ⟨wr.heap.size, 0, none⟩ (.int .i64 (j : Int))).setCell ⟨wr.heap.size, 1, none⟩ (.int .i64 (i : Int))).setCell ⟨wr.heap.size, 2, none⟩ (.int .i64 (-d)) = W5 := ⟨_, rfl⟩
                have hg5 := grown_set3 W4 wr.heap.size 0 1 2 (.int .i64 (j : Int)) (.int .i64 (i : Int)) (.int .i64 (-d))
                rw [hW5] at hg5
                have HM5 := Lib.hid (HM4.out.keep (hg5.block _ HM4.out.lt (by intro e; injection e with e; omega)))
                have HO5 := Lib.hid (HO4.out.kept hg5 (fun z hz e => by have := (HOT.out.1.blk z hz).2; injection e with e; omega))
                have HB5 := Lib.hid (HB4.out.grown hg5 HB4.out.size (fun z hz => by injection hz with hz; have := HBL.out.size; omega))
                have HW5 := Lib.hid hW5
                clear hW5 hg5
                go_wp2_with fail
                rw [HW5.out]
                refine (tally_walk (j : Int) (i : Int) (-d) W5).mono ?_
                rintro e w6 ⟨⟨hok, he⟩ | ⟨hno, he⟩, hb6⟩
                rotate_left
                · subst he
                  have HN := Lib.hid (show ∀ o, MergePost w ts (.returned (.tuple #[.slice none 0 0, .bool false])) (w6.alloc o) from fun o => ⟨.inr rfl, (HB5.out.trans (hb6.mono HB5.out.size)).alloc (Nat.le_trans HB5.out.size hb6.size) _⟩)
                  clear hb6 hno
                  unfold noTl
                  go_wp2
                  go_ret2
                  exact HN.out _
                have he : e = .returned (.tuple #[.agg #[.int .i64 (j : Int), .int .i64 (i : Int), .string (txt (Ta.ntext (-d).toNat)), .string (txt (Ta.ntext (-d).toNat))], .bool true]) := he
                subst he
                obtain ⟨s, hs⟩ : ∃ s, txt (Ta.ntext (-d).toNat) = s := ⟨_, rfl⟩
                have hpt : payT (j, i, -d) = ⟨(j : Int), (i : Int), s, s⟩ := by rw [← hs]; rfl
                rw [hs]
                obtain ⟨W7, hW7⟩ : ∃ W7, w6.alloc (.cells #[.int .i64 (j : Int), .int .i64 (i : Int), .string s, .string s] 33) = W7 := ⟨_, rfl⟩
                have hb7 : Below W5.heap.size W5 W7 := by rw [← hW7]; exact hb6.alloc hb6.size _
                have HPT := Lib.hid hpt
                have HM7 := Lib.hid (HM5.out.next hb7)
                have HO7 := Lib.hid (HO5.out.next hb7)
                have HB7 := Lib.hid (HB5.out.trans (hb7.mono HB5.out.size))
                have HNB := Lib.hid (show w6.heap.size + 1 = W7.heap.size by rw [← hW7]; simp)
                have hmg := HMG2.out.less (by rw [← HJM.out, HD.out]; exact hok)
                rw [← HJM.out, HD.out] at hmg
                have HMS := Lib.hid hmg
                have hfew := hmg.few
                have hmany := many_le i
                have hlen : (ms ++ [(j, i, -d)]).length = ms.length + 1 := by simp
                have hfew2 : ms.length + 1 ≤ 1000 := by have := HJM.out; omega
                have HLEN := Lib.hid hlen
                clear hpt hok hb7 hb6 hs hmg hfew hmany hlen
                subst hW7
                go_wp2_with (refine wpList_app_t_at rfl _ _ rfl rfl HO7.out ⟨(j : Int), (i : Int), s, s⟩ _ _ rfl HNB.out _ rfl (by omega) HB7.out.size ?_; intro A9 c9 w9 ho9 hg9 hat9; have HO9 := Lib.hid ho9; have HG9 := Lib.hid hg9; have HAT9 := Lib.hid hat9; clear ho9 hg9 hat9)
                have hm9 : Mat w9 w1.heap.size f := HM7.out.keep (HG9.out.block _ HM7.out.lt (fun e => HOT.out.2 _ e.symm rfl))
                have hsep9 : ∀ z, (Value.slice A9 (ms.length + 1) c9).ownBlock = some z → z ≠ w1.heap.size := fun z hz => by
                  rcases HAT9.out z hz with e | e
                  · exact HOT.out.2 z e
                  · have := HM7.out.lt; omega
                have hB9 := HB7.out.grown HG9.out HB7.out.size (fun z hz => (HO7.out.blk z hz).1)
                refine ⟨⟨j + 1, m + 1, by omega, by have := HJM.out; omega, by go_num, ms ++ [(j, i, -d)], A9, c9, by rw [HLEN.out], HMS.out, hm9, ?_, by rw [HLEN.out]; exact hsep9, hB9⟩, by simp [intOf]; omega⟩
                rw [HLEN.out, List.map_append, List.map_cons, List.map_nil, HPT.out]
                exact HO9.out
              · have HB5 := HB4
                have HM5 := HM4
                have HO5 := HO4
                go_wp2_with fail
                refine (tally_walk (i : Int) (j : Int) d W4).mono ?_
                rintro e w6 ⟨⟨hok, he⟩ | ⟨hno, he⟩, hb6⟩
                rotate_left
                · subst he
                  have HN := Lib.hid (show ∀ o, MergePost w ts (.returned (.tuple #[.slice none 0 0, .bool false])) (w6.alloc o) from fun o => ⟨.inr rfl, (HB5.out.trans (hb6.mono HB5.out.size)).alloc (Nat.le_trans HB5.out.size hb6.size) _⟩)
                  clear hb6 hno
                  unfold noTl
                  go_wp2
                  go_ret2
                  exact HN.out _
                have he : e = .returned (.tuple #[.agg #[.int .i64 (i : Int), .int .i64 (j : Int), .string (txt (Ta.ntext (d).toNat)), .string (txt (Ta.ntext (d).toNat))], .bool true]) := he
                subst he
                obtain ⟨s, hs⟩ : ∃ s, txt (Ta.ntext (d).toNat) = s := ⟨_, rfl⟩
                have hpt : payT (i, j, d) = ⟨(i : Int), (j : Int), s, s⟩ := by rw [← hs]; rfl
                rw [hs]
                obtain ⟨W7, hW7⟩ : ∃ W7, w6.alloc (.cells #[.int .i64 (i : Int), .int .i64 (j : Int), .string s, .string s] 33) = W7 := ⟨_, rfl⟩
                have hb7 : Below W4.heap.size W4 W7 := by rw [← hW7]; exact hb6.alloc hb6.size _
                have HPT := Lib.hid hpt
                have HM7 := Lib.hid (HM5.out.next hb7)
                have HO7 := Lib.hid (HO5.out.next hb7)
                have HB7 := Lib.hid (HB5.out.trans (hb7.mono HB5.out.size))
                have HNB := Lib.hid (show w6.heap.size + 1 = W7.heap.size by rw [← hW7]; simp)
                have hmg := HMG2.out.more (by rw [← HJM.out, HD.out]; exact hok)
                rw [← HJM.out, HD.out] at hmg
                have HMS := Lib.hid hmg
                have hfew := hmg.few
                have hmany := many_le i
                have hlen : (ms ++ [(i, j, d)]).length = ms.length + 1 := by simp
                have hfew2 : ms.length + 1 ≤ 1000 := by have := HJM.out; omega
                have HLEN := Lib.hid hlen
                clear hpt hok hb7 hb6 hs hmg hfew hmany hlen
                subst hW7
                go_wp2_with (refine wpList_app_t_at rfl _ _ rfl rfl HO7.out ⟨(i : Int), (j : Int), s, s⟩ _ _ rfl HNB.out _ rfl (by omega) HB7.out.size ?_; intro A9 c9 w9 ho9 hg9 hat9; have HO9 := Lib.hid ho9; have HG9 := Lib.hid hg9; have HAT9 := Lib.hid hat9; clear ho9 hg9 hat9)
                have hm9 : Mat w9 w1.heap.size f := HM7.out.keep (HG9.out.block _ HM7.out.lt (fun e => HOT.out.2 _ e.symm rfl))
                have hsep9 : ∀ z, (Value.slice A9 (ms.length + 1) c9).ownBlock = some z → z ≠ w1.heap.size := fun z hz => by
                  rcases HAT9.out z hz with e | e
                  · exact HOT.out.2 z e
                  · have := HM7.out.lt; omega
                have hB9 := HB7.out.grown HG9.out HB7.out.size (fun z hz => (HO7.out.blk z hz).1)
                refine ⟨⟨j + 1, m + 1, by omega, by have := HJM.out; omega, by go_num, ms ++ [(i, j, d)], A9, c9, by rw [HLEN.out], HMS.out, hm9, ?_, by rw [HLEN.out]; exact hsep9, hB9⟩, by simp [intOf]; omega⟩
                rw [HLEN.out, List.map_append, List.map_cons, List.map_nil, HPT.out]
                exact HO9.out
            · have hj5e : j = 5 := by omega
              have hup := HMG2.out.up (by have := HJM.out; omega)
              have HUP := Lib.hid hup
              clear hup
              go_wp2_with fail
              exact ⟨⟨i + 1, by omega, by go_num, ms, AT, cT, rfl, HUP.out, HMAT.out, HOT.out.1, HOT.out.2, HBL.out⟩, by simp [intOf]; omega⟩
        · obtain ⟨ms, AT, cT, rfl, hmg, hmat, hot, hsep, hbl⟩ := HM1.out
          have hfin : MergePost w ts (.returned (.tuple #[.slice AT ms.length cT, .bool true])) wr := HPS.out _ _ _ _ (by rwa [show i = 5 from by omega] at hmg) hot hbl
          have HFIN := Lib.hid hfin
          clear hfin hmg hmat hot hsep hbl
          go_wp2
          go_ret2
          exact HFIN.out
end Go.Proofs.Ytogplbnabffcfaa
