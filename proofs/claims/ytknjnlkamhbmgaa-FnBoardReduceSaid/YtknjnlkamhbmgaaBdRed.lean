/-
  The reduced counters with a value; and how often can be raised.
-/
import Derived.Test.YtknjnlkamhbmgaaBdLay
import Derived.BigRegion
import Derived.Deep.RegionWith
namespace Go.Proofs.Ytknjnlkamhbmgaa
open Go.RowKit

theorem down_set {D : List Int} {p : Nat} {d : Int} (h : D[p]? = some d) : (List.replicate (p + 1) 0 ++ D.drop (p + 1)).set p d = List.replicate p 0 ++ D.drop p := by
  have hp := (List.getElem?_eq_some_iff.1 h)
  obtain ⟨hp, hd⟩ := hp
  rw [List.drop_eq_getElem_cons hp, hd, List.replicate_succ', List.append_assoc, List.set_append_right _ _ (by simp)]
  simp
theorem down_at (D : List Int) (p : Nat) : (List.replicate (p + 1) 0 ++ D.drop (p + 1))[p]? = some (0 : Int) := by
  rw [List.getElem?_append_left (by simp), List.getElem?_replicate, if_pos (by omega)]


set_option maxRecDepth 100000 in
set_option maxHeartbeats 1000000 in
theorem layReduced_any (v : Int) (w : World) : Calls Try.prog 64 #[.int .i64 v] w (LayPost w (okV v) (Bd.D true 10 v)) := by
  by_cases h1 : v < 0
  · have hok : okV v = false := by simp [okV]; omega
    rw [hok]
    go_enter Try.func64, Try.ntmps64
    go_wp2
    exact bodyPost_ret (results_ten rfl _ _ _ _ z10 (0, 0) rfl (heap_alloc2_old w _ _) rfl) rfl ⟨rfl, ((Below.refl _ _).alloc (Nat.le_refl _) _).alloc (by simp) _⟩
  · by_cases h2 : 99999 < v
    · have hok : okV v = false := by simp [okV]; omega
      rw [hok]
      go_enter Try.func64, Try.ntmps64
      go_wp2
      exact bodyPost_ret (results_ten rfl _ _ _ _ z10 (0, 0) rfl (heap_alloc2_old w _ _) rfl) rfl ⟨rfl, ((Below.refl _ _).alloc (Nat.le_refl _) _).alloc (by simp) _⟩
    · have hok : okV v = true := by simp [okV]; omega
      rw [hok]
      have hD : (Bd.D true 10 v).length = 10 := Bd.D_length _ _ _
      have hget := fun k hk => Bd.D10_get v k (by omega) hk
      have HGET := Lib.hid hget
      have HD := Lib.hid hD
      have hv10 : v % Bd.worth 10 = v := Int.emod_eq_of_lt (by omega) (by have : Bd.worth 10 = 100000 := rfl; omega)
      have HV10 := Lib.hid hv10
      have hz : AV z10 = AV (List.replicate 10 0 ++ (Bd.D true 10 v).drop 10) := by rw [List.drop_eq_nil_of_le (by omega), List.append_nil]; rfl
      have HZ := Lib.hid hz
      have hnew : ∀ (l : List Int) (o : Obj), ((w.alloc o).alloc (.cells (AV l) 43)).heap[w.heap.size + 1]? = some (.cells (AV l) 43 (0, 0)) := fun l o => by
        have := heap_alloc_new (w.alloc o) (.cells (AV l) 43)
        simpa using this
      have HNEW := Lib.hid hnew
      clear hok hget hD hv10 hz hnew
      generalize Bd.D true 10 v = D at *
      go_enter Try.func64, Try.ntmps64
      go_wp2
      go_loopw [0, 5] (fun val i wr => ∃ j : Nat, j ≤ 10 ∧ i = .int .i64 ((j : Int) - 1) ∧ val = .int .i64 (v % Bd.worth j) ∧ wr = (w.alloc (.cells (AV z10) 43)).alloc (.cells (AV (List.replicate j 0 ++ D.drop j)) 43)) (fun _ i _ => (intOf i + 1).toNat)
      case atStart => exact ⟨10, by omega, rfl, by rw [HV10.out], by rw [← HZ.out]; rfl⟩
      case round =>
        obtain ⟨j, hj, rfl, rfl, rfl⟩ := hrel
        rcases j with _ | p
        · have e0 : List.replicate 0 0 ++ D.drop 0 = D := by simp
          rw [e0]
          clear e0
          go_wp2_with (first
            | (refine wpList_load_ten rfl (.tmp 4) rfl (w.heap.size + 1) rfl _ D (0, 0) (HNEW.out D _) HD.out ?_)
            | (refine wpList_store_ten rfl rfl (.tmp 2) (.tmp 27) rfl w.heap.size rfl 43 (AV z10) D rfl (heap_alloc2_old w _ _) rfl HD.out _ rfl ?_))
          exact bodyPost_ret (results_ten rfl _ _ w.heap.size 43 D (0, 0) rfl (setRow_heap _ _ _ _ _ _ (heap_alloc2_old w _ _)) HD.out) rfl
            ⟨rfl, below_setRow (((Below.refl _ _).alloc (Nat.le_refl _) _).alloc (by simp) _) (Nat.le_refl _) _⟩
        · have e1 : ((p + 1 : Nat) : Int) - 1 = (p : Int) := by omega
          rw [e1]
          have hp : p < 10 := by omega
          obtain ⟨q1, q2⟩ := Bd.dig_down v p hp
          obtain ⟨w0, w1⟩ := Bd.worth_range p (by omega)
          have hd := HGET.out p hp
          rw [← q1] at hd
          have hcur := AV_get (down_at D p)
          have HS := Lib.hid (down_set hd)
          have HQ := Lib.hid q2
          have r0 : 0 ≤ v % Bd.worth (p + 1) := Int.emod_nonneg _ (by have := Bd.worth_range (p + 1) (by omega); omega)
          have r1 : v % Bd.worth (p + 1) < Bd.worth (p + 1) := Int.emod_lt_of_pos _ (by have := Bd.worth_range (p + 1) (by omega); omega)
          have r2 := (Bd.worth_range (p + 1) (by omega)).2
          clear e1 q1 q2 hd
          generalize v % Bd.worth (p + 1) = r at *
          generalize List.replicate (p + 1) 0 ++ D.drop (p + 1) = l at *
          go_wp2_with (go_at_call 76; refine (worthAt_any _ (by omega) _).mono ?_; rintro e w' ⟨rfl, rfl⟩)
          go_roundw
          case rel => exact ⟨p, by omega, rfl, by rw [HQ.out], by rw [AV_set, HS.out]⟩
          case measure => simp [intOf]

theorem two_stores {w : World} {g : Nat} {l : List Int} {t : TypeId} (p q : Nat) (a b : Int) (h : w.heap[g]? = some (.cells (AV l) t (0, 0))) :
    ((w.setCell ⟨g, p, none⟩ (.int .i64 a)).setCell ⟨g, q, none⟩ (.int .i64 b)).heap[g]? = some (.cells (AV ((l.set p a).set q b)) t (0, 0)) ∧
    w.grownBy ((w.setCell ⟨g, p, none⟩ (.int .i64 a)).setCell ⟨g, q, none⟩ (.int .i64 b)) (some g) := by
  have h1 := heap_setCell_same w g p _ t (.int .i64 a) h
  have h2 := heap_setCell_same _ g q _ t (.int .i64 b) h1
  rw [AV_set, AV_set] at h2
  exact ⟨h2, ⟨rfl, rfl, rfl, by simp [World.setCell], fun k hk hne => (heap_setCell_other _ _ k _ (fun e => hne (by rw [e]))).trans (heap_setCell_other _ _ k _ (fun e => hne (by rw [e])))⟩⟩
theorem two_stores_drew {w : World} {g : Nat} {l : List Int} {t : TypeId} (n p q : Nat) (a b : Int) (h : w.heap[g]? = some (.cells (AV l) t (0, 0))) :
    w.grownBy ((((w.drewN n).setCell ⟨g, p, none⟩ (.int .i64 a)).setCell ⟨g, q, none⟩ (.int .i64 b)).drew) (some g) := by
  have k := (two_stores (w := w.drewN n) p q a b h).2
  exact ⟨k.os, k.tape, k.output, k.size, k.block⟩
theorem grown_chain {a b c : World} {row : Option Nat} (h : a.grownBy b row) (k : b.grownBy c row) : a.grownBy c row :=
  ⟨k.os.trans h.os, k.tape.trans h.tape, k.output.trans h.output, Nat.le_trans h.size k.size, fun i hi hne => (k.block i (Nat.lt_of_lt_of_le hi h.size) hne).trans (h.block i hi hne)⟩


set_option maxRecDepth 100000 in
set_option maxHeartbeats 1000000 in
theorem raiseAll_any (g : Nat) (xs : List Int) (w : World) (hb : w.heap[g]? = some (.cells (AV xs) 43 (0, 0))) (hl : xs.length = 10) (hx : ∀ x ∈ xs, 0 ≤ x ∧ x ≤ 20) (hv : Bd.V true xs ≤ 99999) :
    Calls Try.prog 62 #[.pointer (some ⟨g, 0, none⟩)] w fun e w' => e = .returned (.int .i64 (Bd.R true 0 xs)) ∧ w.grownBy w' (some g) := by
  have HB := Lib.hid hb
  have HL := Lib.hid hl
  have HX := Lib.hid (Bd.Raised.start hx)
  have HV := Lib.hid hv
  clear hb hl hx hv
  go_enter Try.func62, Try.ntmps62
  go_wp2
  go_loopw [3, 4, 5] (fun r i _ wr => ∃ (p : Nat) (l : List Int) (s : Int), p ≤ 9 ∧ i = .int .i64 p ∧ r = .int .i64 s ∧ Bd.Raised xs p l s ∧ wr.heap[g]? = some (.cells (AV l) 43 (0, 0)) ∧ w.grownBy wr (some g)) (fun _ i _ _ => 9 - (intOf i).toNat)
  case atStart => exact ⟨0, xs, 0, by omega, rfl, rfl, HX.out, HB.out, World.grownBy.refl _ _⟩
  case round =>
    obtain ⟨p, l, s, hp, rfl, rfl, hR, hblk, hg⟩ := hrel
    have hlen : l.length = 10 := by have := hR.len; have := HL.out; omega
    have HLEN := Lib.hid hlen
    have HR := Lib.hid hR
    have HG := Lib.hid hg
    have hs0 := hR.low
    have hs1 := hR.high
    by_cases hlt : p < 9
    · obtain ⟨u, hu⟩ : ∃ u, l[p]? = some u := ⟨_, List.getElem?_eq_getElem (by omega)⟩
      obtain ⟨v, hv⟩ : ∃ v, l[p + 1]? = some v := ⟨_, List.getElem?_eq_getElem (by omega)⟩
      have hN := Lib.hid (hR.next (by have := HL.out; omega) hu hv)
      have hu0 := hR.all p u hu
      have hv0 := hR.all (p + 1) v hv
      obtain ⟨u0, u1, _⟩ := hu0
      obtain ⟨v0, v1, _⟩ := hv0
      have cu := (cell_of_row wr g p _ _ _ hblk).trans (AV_get hu)
      have cv := (cell_of_row wr g (p + 1) _ _ _ hblk).trans (AV_get hv)
      have fu := frozen_of_row wr g p _ _ hblk
      have fv := frozen_of_row wr g (p + 1) _ _ hblk
      have HBLK := Lib.hid hblk
      clear hu hv hblk hR hg hlen
      have hgr := Bd.grp_cases p
      have i0 : (0 : Int) ≤ (p : Int) := by omega
      have i1 : (p : Int) < 10 := by omega
      have m1 : u.tdiv (Bd.grp p) = u / Bd.grp p := Int.tdiv_eq_ediv_of_nonneg u0
      have q0 : 0 ≤ u / Bd.grp p ∧ u / Bd.grp p ≤ 20 ∧ 0 ≤ u / Bd.grp p * Bd.grp p ∧ u / Bd.grp p * Bd.grp p ≤ u ∧ 2 ≤ Bd.grp p ∧ Bd.grp p ≤ 5 := by
        rcases hgr with h | h <;> rw [h] <;> omega
      clear hgr
      generalize u / Bd.grp p = q at *
      obtain ⟨q0, q1, q2, q3, q4, q5⟩ := q0
      have m2 : IntKind.i64.wrap q = q := IntWalk.i64_in _ (by omega)
      go_wp2_with fail
      go_quiet ((go_at_call 70; exact quiet_same (fullAt_any _ (by omega) _)))
      clear m1 m2
      go_wp2_with fail
      go_region_with (go_at_call 70; refine (fullAt_any _ (by omega) _).mono ?_; rintro e w' ⟨rfl, rfl⟩)
      all_goals
        go_wp2_with fail
        go_region
        all_goals
          go_wp2
          go_roundw
          case rel =>
            refine ⟨p + 1, _, _, by omega, by go_num, rfl, hN.out, ?_, ?_⟩
            · exact (two_stores p (p + 1) _ _ HBLK.out).1
            · exact grown_chain HG.out (two_stores_drew _ p (p + 1) _ _ HBLK.out)
          case measure => simp [intOf]; omega
    · go_wp2
      go_ret
      obtain rfl : p = 9 := by omega
      exact ⟨ret_int (HR.out.done HL.out HV.out), HG.out⟩
end Go.Proofs.Ytknjnlkamhbmgaa
