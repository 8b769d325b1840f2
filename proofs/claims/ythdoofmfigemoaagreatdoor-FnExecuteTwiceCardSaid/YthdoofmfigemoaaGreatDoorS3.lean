/-
  Joined texts.
-/
import Derived.Test.YthdoofmfigemoaaGreatDoorS1
import Derived.Test.YthdoofmfigemoaaGreatDoorS2
import Derived.BigRegion
import Derived.Deep.RegionWith
import Derived.Laws.Pointers
import Derived.StillTailTactics
import Derived.Deep.RegionLaw
import Derived.Deep.DeepCutAuto
import Derived.Deep.RegionHeld3
set_option linter.unusedSimpArgs false
set_option linter.unusedVariables false
set_option maxRecDepth 100000
set_option maxHeartbeats 4000000
namespace Go.Proofs.YthdoofmfigemoaaGreatDoor
open Go.RowKit
def z10 : List Int := [0, 0, 0, 0, 0, 0, 0, 0, 0, 0]
theorem results_ten {fn : Func} {p t : Tmp} (h : fn.results = #[.cell p 93, .tmp t]) (tmps : Array Value) (w : World) (g : Nat) (tt : TypeId) (xs : List Int) (fr : Nat × Nat)
  (hp : tmps.getD p undef = .pointer (some ⟨g, 0, none⟩)) (hg : w.heap[g]? = some (.cells (AV xs) tt fr)) (hl : xs.length = 10) :
  (results fn tmps).run Tryz.prog w = .ok (.tuple #[.agg (AV xs), tmps.getD t undef]) w := by
 have hp' : tmps[p]?.getD undef = .pointer (some ⟨g, 0, none⟩) := by simpa using hp
 have hr := run_loadVar_row (P := Tryz.prog) w g tt 93 (AV xs) fr _ hg Tryz.underlying93 rfl (by rw [AV_size, hl]; exact ten_info)
 simp [results, h, hp', asAddr, hr]
def LayPost (w : World) (ok : Bool) (xs : List Int) (e : Ending) (w' : World) : Prop :=
 e = .returned (.tuple #[.agg (AV (if ok then xs else z10)), .bool ok]) ∧ Below w.heap.size w w'
theorem layOut_any (A : Option Addr) (n c : Nat) (xs : List Int) (w : World) (hx : Ints w w.heap.size A n xs) :
  Calls Tryz.prog 68 #[.slice A n c] w (LayPost w (Bd.okB xs) xs) := by
 have hl := hx.len
 by_cases h10 : n = 10
 ·subst h10
  have HL := Hd hl
  have e0 : AV z10 = AV (xs.take 0 ++ List.replicate (10 - 0) 0) := rfl
  have E0 := Hd e0
  have hnew : ∀ (l : List Int) (o : Obj), ((w.alloc o).alloc (.cells (AV l) 93)).heap[w.heap.size + 1]? = some (.cells (AV l) 93 (0, 0)) := fun l o => by
   have := heap_alloc_new (w.alloc o) (.cells (AV l) 93)
   simpa using this
  have HNEW := Hd hnew
  clear hnew e0 hl
  rcases hf : fitB xs with _ | _
  ·have hok : Bd.okB xs = false := by simp only [Bd.okB, Bd.allIn]; simp only [fitB] at hf; rw [hf]; simp
   have HF := Hd hf
   rw [hok]
   clear hf hok
   go_enter Tryz.func68, Tryz.ntmps68
   go_wp2
   go_loopw [5, 6, 13] (fun _ _ i wr => ∃ k : Nat, k ≤ 10 ∧ i = .int .i64 k ∧ wr = (w.alloc (.cells (AV z10) 93)).alloc (.cells (AV (xs.take k ++ List.replicate (10 - k) 0)) 93)) (fun _ _ i _ => 10 - (intOf i).toNat)
   case atStart => exact ⟨0, by omega, rfl, rfl⟩
   case round =>
    obtain ⟨k, hk, rfl, rfl⟩ := hrel
    by_cases hlt : k < 10
    ·obtain ⟨b, off, u, rfl, hlb, hu, hcell⟩ := (((hx.alloc (Nat.le_refl _) (.cells (AV z10) 93)).alloc (by simp) (.cells (AV (xs.take k ++ List.replicate (10 - k) 0)) 93))).at_ hlt
     have hcur := AV_get (fill_at hlt HL.out)
     have HN := Hd (fill_next hlt HL.out hu)
     clear hu
     generalize xs.take k ++ List.replicate (10 - k) 0 = l at *
     go_wp2
     go_roundw
     case rel => exact ⟨k + 1, by omega, by go_num, by rw [AV_set, HN.out]⟩
     case measure => simp [intOf]; omega
    ·have e10 : xs.take k ++ List.replicate (10 - k) 0 = xs := by
      obtain rfl : k = 10 := by omega
      rw [List.take_of_length_le (by have := HL.out; omega)]; simp
     rw [e10]
     clear e10
     go_wp2_with (first
      | (refine wpList_load_ten rfl (.tmp 4) rfl (w.heap.size + 1) rfl _ xs _ (HNEW.out xs _) HL.out ?_)
      | (refine wpList_store_ten rfl rfl (.tmp 2) (.tmp 25) rfl w.heap.size rfl 93 (AV z10) z10 rfl ((Below.heap_alloc _ _ _ (by simp; omega)).trans (heap_alloc2_old w _ _)) rfl rfl _ rfl ?_)
      | (go_at_call 108; refine (fits_any xs HL.out _).mono ?_; rintro e w' ⟨rfl, rfl⟩; rw [HF.out]))
     exact bodyPost_ret (results_ten rfl _ _ w.heap.size 93 z10 (0, 0) rfl (setRow_heap _ _ _ _ _ _ ((Below.heap_alloc _ _ _ (by simp; omega)).trans (heap_alloc2_old w _ _))) rfl) rfl
      ⟨rfl, below_setRow ((((Below.refl _ _).alloc (Nat.le_refl _) _).alloc (by simp) _).alloc (by simp; omega) _) (Nat.le_refl _) _⟩
  ·have hok : Bd.okB xs = true := by simp only [Bd.okB, Bd.allIn, HL.out]; simpa [fitB] using hf
   have HF := Hd hf
   rw [hok]
   clear hf hok
   go_enter Tryz.func68, Tryz.ntmps68
   go_wp2
   go_loopw [5, 6, 13] (fun _ _ i wr => ∃ k : Nat, k ≤ 10 ∧ i = .int .i64 k ∧ wr = (w.alloc (.cells (AV z10) 93)).alloc (.cells (AV (xs.take k ++ List.replicate (10 - k) 0)) 93)) (fun _ _ i _ => 10 - (intOf i).toNat)
   case atStart => exact ⟨0, by omega, rfl, rfl⟩
   case round =>
    obtain ⟨k, hk, rfl, rfl⟩ := hrel
    by_cases hlt : k < 10
    ·obtain ⟨b, off, u, rfl, hlb, hu, hcell⟩ := (((hx.alloc (Nat.le_refl _) (.cells (AV z10) 93)).alloc (by simp) (.cells (AV (xs.take k ++ List.replicate (10 - k) 0)) 93))).at_ hlt
     have hcur := AV_get (fill_at hlt HL.out)
     have HN := Hd (fill_next hlt HL.out hu)
     clear hu
     generalize xs.take k ++ List.replicate (10 - k) 0 = l at *
     go_wp2
     go_roundw
     case rel => exact ⟨k + 1, by omega, by go_num, by rw [AV_set, HN.out]⟩
     case measure => simp [intOf]; omega
    ·have e10 : xs.take k ++ List.replicate (10 - k) 0 = xs := by
      obtain rfl : k = 10 := by omega
      rw [List.take_of_length_le (by have := HL.out; omega)]; simp
     rw [e10]
     clear e10
     go_wp2_with (first
      | (refine wpList_load_ten rfl (.tmp 4) rfl (w.heap.size + 1) rfl _ xs _ (HNEW.out xs _) HL.out ?_)
      | (refine wpList_load_ten rfl (.tmp 4) rfl (w.heap.size + 1) rfl _ xs _ ((Below.heap_alloc _ _ _ (by simp)).trans (HNEW.out xs _)) HL.out ?_)
      | (refine wpList_store_ten rfl rfl (.tmp 2) (.tmp 26) rfl w.heap.size rfl 93 (AV z10) xs rfl ((Below.heap_alloc _ _ _ (by simp; omega)).trans (heap_alloc2_old w _ _)) rfl HL.out _ rfl ?_)
      | (go_at_call 108; refine (fits_any xs HL.out _).mono ?_; rintro e w' ⟨rfl, rfl⟩; rw [HF.out]))
     exact bodyPost_ret (results_ten rfl _ _ w.heap.size 93 xs (0, 0) rfl (setRow_heap _ _ _ _ _ _ ((Below.heap_alloc _ _ _ (by simp; omega)).trans (heap_alloc2_old w _ _))) HL.out) rfl
      ⟨rfl, below_setRow ((((Below.refl _ _).alloc (Nat.le_refl _) _).alloc (by simp) _).alloc (by simp; omega) _) (Nat.le_refl _) _⟩
 ·have hok : Bd.okB xs = false := by simp [Bd.okB, hl, h10]
  have hne : ((n : Int) != 10) = true := by simp; omega
  rw [hok]
  go_enter Tryz.func68, Tryz.ntmps68
  go_wp2
  exact bodyPost_ret (results_ten rfl _ _ _ _ z10 (0, 0) rfl (heap_alloc2_old w _ _) rfl) rfl ⟨rfl, ((Below.refl _ _).alloc (Nat.le_refl _) _).alloc (by simp) _⟩
theorem down_set {D : List Int} {p : Nat} {d : Int} (h : D[p]? = some d) : (List.replicate (p + 1) 0 ++ D.drop (p + 1)).set p d = List.replicate p 0 ++ D.drop p := by
 have hp := (List.getElem?_eq_some_iff.1 h)
 obtain ⟨hp, hd⟩ := hp
 rw [List.drop_eq_getElem_cons hp, hd, List.replicate_succ', List.append_assoc, List.set_append_right _ _ (by simp)]
 simp
theorem down_at (D : List Int) (p : Nat) : (List.replicate (p + 1) 0 ++ D.drop (p + 1))[p]? = some (0 : Int) := by
 rw [List.getElem?_append_left (by simp), List.getElem?_replicate, if_pos (by omega)]
theorem layReduced_any (v : Int) (w : World) : Calls Tryz.prog 65 #[.int .i64 v] w (LayPost w (okV v) (Bd.D true 10 v)) := by
 by_cases h1 : v < 0
 ·have hok : okV v = false := by simp [okV]; omega
  rw [hok]
  go_enter Tryz.func65, Tryz.ntmps65
  go_wp2
  exact bodyPost_ret (results_ten rfl _ _ _ _ z10 (0, 0) rfl (heap_alloc2_old w _ _) rfl) rfl ⟨rfl, ((Below.refl _ _).alloc (Nat.le_refl _) _).alloc (by simp) _⟩
 ·by_cases h2 : 99999 < v
  ·have hok : okV v = false := by simp [okV]; omega
   rw [hok]
   go_enter Tryz.func65, Tryz.ntmps65
   go_wp2
   exact bodyPost_ret (results_ten rfl _ _ _ _ z10 (0, 0) rfl (heap_alloc2_old w _ _) rfl) rfl ⟨rfl, ((Below.refl _ _).alloc (Nat.le_refl _) _).alloc (by simp) _⟩
  ·have hok : okV v = true := by simp [okV]; omega
   rw [hok]
   have hD : (Bd.D true 10 v).length = 10 := Bd.D_length _ _ _
   have hget := fun k hk => Bd.D10_get v k (by omega) hk
   have HGET := Hd hget
   have HD := Hd hD
   have hv10 : v % Bd.worth 10 = v := Int.emod_eq_of_lt (by omega) (by have : Bd.worth 10 = 100000 := rfl; omega)
   have HV10 := Hd hv10
   have hz : AV z10 = AV (List.replicate 10 0 ++ (Bd.D true 10 v).drop 10) := by rw [List.drop_eq_nil_of_le (by omega), List.append_nil]; rfl
   have HZ := Hd hz
   have hnew : ∀ (l : List Int) (o : Obj), ((w.alloc o).alloc (.cells (AV l) 93)).heap[w.heap.size + 1]? = some (.cells (AV l) 93 (0, 0)) := fun l o => by
    have := heap_alloc_new (w.alloc o) (.cells (AV l) 93)
    simpa using this
   have HNEW := Hd hnew
   clear hok hget hD hv10 hz hnew
   generalize Bd.D true 10 v = D at *
   go_enter Tryz.func65, Tryz.ntmps65
   go_wp2
   go_loopw [0, 5] (fun val i wr => ∃ j : Nat, j ≤ 10 ∧ i = .int .i64 ((j : Int) - 1) ∧ val = .int .i64 (v % Bd.worth j) ∧ wr = (w.alloc (.cells (AV z10) 93)).alloc (.cells (AV (List.replicate j 0 ++ D.drop j)) 93)) (fun _ i _ => (intOf i + 1).toNat)
   case atStart => exact ⟨10, by omega, rfl, by rw [HV10.out], by rw [← HZ.out]; rfl⟩
   case round =>
    obtain ⟨j, hj, rfl, rfl, rfl⟩ := hrel
    rcases j with _ | p
    ·have e0 : List.replicate 0 0 ++ D.drop 0 = D := by simp
     rw [e0]
     clear e0
     go_wp2_with (first
      | (refine wpList_load_ten rfl (.tmp 4) rfl (w.heap.size + 1) rfl _ D (0, 0) (HNEW.out D _) HD.out ?_)
      | (refine wpList_store_ten rfl rfl (.tmp 2) (.tmp 27) rfl w.heap.size rfl 93 (AV z10) D rfl (heap_alloc2_old w _ _) rfl HD.out _ rfl ?_))
     exact bodyPost_ret (results_ten rfl _ _ w.heap.size 93 D (0, 0) rfl (setRow_heap _ _ _ _ _ _ (heap_alloc2_old w _ _)) HD.out) rfl
      ⟨rfl, below_setRow (((Below.refl _ _).alloc (Nat.le_refl _) _).alloc (by simp) _) (Nat.le_refl _) _⟩
    ·have e1 : ((p + 1 : Nat) : Int) - 1 = (p : Int) := by omega
     rw [e1]
     have hp : p < 10 := by omega
     obtain ⟨q1, q2⟩ := Bd.dig_down v p hp
     obtain ⟨w0, w1⟩ := Bd.worth_range p (by omega)
     have hd := HGET.out p hp
     rw [← q1] at hd
     have hcur := AV_get (down_at D p)
     have HS := Hd (down_set hd)
     have HQ := Hd q2
     have r0 : 0 ≤ v % Bd.worth (p + 1) := Int.emod_nonneg _ (by have := Bd.worth_range (p + 1) (by omega); omega)
     have r1 : v % Bd.worth (p + 1) < Bd.worth (p + 1) := Int.emod_lt_of_pos _ (by have := Bd.worth_range (p + 1) (by omega); omega)
     have r2 := (Bd.worth_range (p + 1) (by omega)).2
     clear e1 q1 q2 hd
     generalize v % Bd.worth (p + 1) = r at *
     generalize List.replicate (p + 1) 0 ++ D.drop (p + 1) = l at *
     go_wp2_with (go_at_call 107; refine (worthAt_any _ (by omega) _).mono ?_; rintro e w' ⟨rfl, rfl⟩)
     go_roundw
     case rel => exact ⟨p, by omega, rfl, by rw [HQ.out], by rw [AV_set, HS.out]⟩
     case measure => simp [intOf]
theorem setRow_alloc (w : World) (o : Array Value) (t : TypeId) (cs : Array Value) : (w.alloc (.cells o t)).setRow w.heap.size cs = w.alloc (.cells cs t) := by
 have e : ∀ x, w.alloc x = ({ w with heap := w.heap.push x } : World) := fun _ => rfl
 rw [e, e]
 unfold World.setRow
 simp only []
 congr 1
 apply Array.ext
 ·simp
 ·intro k h1 h2
  simp only [Array.getElem_modify]
  by_cases hk : w.heap.size = k
  ·subst hk; simp
  ·have hlt : k < w.heap.size := by simp at h2; omega
   simp [hk, Array.getElem_push, hlt]
theorem layOut_yes {A : Option Addr} {n c : Nat} {xs : List Int} {w : World} (hx : Ints w w.heap.size A n xs) (hok : Bd.okB xs = true) :
  Calls Tryz.prog 68 #[.slice A n c] w fun e w' => e = .returned (.tuple #[.agg (AV xs), .bool true]) ∧ Below w.heap.size w w' := by
 have h := layOut_any A n c xs w hx
 rw [hok] at h
 exact h
theorem layOut_no {A : Option Addr} {n c : Nat} {xs : List Int} {w : World} (hx : Ints w w.heap.size A n xs) (hok : Bd.okB xs = false) :
  Calls Tryz.prog 68 #[.slice A n c] w fun e w' => e = .returned (.tuple #[.agg (AV z10), .bool false]) ∧ Below w.heap.size w w' := by
 have h := layOut_any A n c xs w hx
 rw [hok] at h
 exact h
theorem BoardValue_any (A : Option Addr) (n c : Nat) (xs : List Int) (w : World) (hx : Ints w w.heap.size A n xs) :
  Calls Tryz.prog 48 #[.slice A n c] w fun e w' => e = .returned (.int .i64 (bVal xs)) ∧ Below w.heap.size w w' := by
 have hx' := Hd hx
 rcases hok : Bd.okB xs with _ | _
 ·have hv : bVal xs = -1 := by simp [bVal, hok]
  have HV := Hd hv
  have HOK := Hd hok
  clear hv hok hx
  go_enter Tryz.func48, Tryz.ntmps48
  go_wp2_with (first
   | (go_at_call 68; refine (layOut_no hx'.out HOK.out).mono ?_; rintro e w1 ⟨rfl, hb1⟩)
   | (refine wpList_store_ten rfl rfl _ _ rfl w1.heap.size rfl 93 (AV z10) z10 rfl (heap_alloc_new w1 _) rfl rfl _ (setRow_alloc w1 _ _ _) ?_))
  go_ret
  exact ⟨ret_int HV.out.symm, hb1.alloc hb1.size _⟩
 ·have hv : bVal xs = Bd.V true xs := by simp [bVal, hok]
  have hl := ((Bd.okB_iff xs).1 hok)
  have HL := Hd hl
  have HV := Hd hv
  have HOK := Hd hok
  clear hv hok hx hl
  go_enter Tryz.func48, Tryz.ntmps48
  go_wp2_with (first
   | (go_at_call 68; refine (layOut_yes hx'.out HOK.out).mono ?_; rintro e w1 ⟨rfl, hb1⟩)
   | (refine wpList_store_ten rfl rfl _ _ rfl w1.heap.size rfl 93 (AV z10) xs rfl (heap_alloc_new w1 _) rfl HL.out.1 _ (setRow_alloc w1 _ _ _) ?_)
   | (refine wpList_load_ten rfl _ rfl w1.heap.size rfl _ xs _ (heap_alloc_new w1 _) HL.out.1 ?_)
   | (go_at_call 96; refine (value_any xs HL.out.1 HL.out.2 _).mono ?_; rintro e w' ⟨rfl, rfl⟩))
  go_ret
  exact ⟨ret_int HV.out.symm, (hb1.alloc hb1.size _).alloc (by have := hb1.size; simp; omega) _⟩
theorem layReduced_yes {v : Int} {w : World} (hok : okV v = true) : Calls Tryz.prog 65 #[.int .i64 v] w fun e w' => e = .returned (.tuple #[.agg (AV (Bd.D true 10 v)), .bool true]) ∧ Below w.heap.size w w' := by
 have h := layReduced_any v w
 rw [hok] at h
 exact h
theorem layReduced_no {v : Int} {w : World} (hok : okV v = false) : Calls Tryz.prog 65 #[.int .i64 v] w fun e w' => e = .returned (.tuple #[.agg (AV z10), .bool false]) ∧ Below w.heap.size w w' := by
 have h := layReduced_any v w
 rw [hok] at h
 exact h
theorem BoardOf_any (v : Int) (w : World) : Calls Tryz.prog 25 #[.int .i64 v] w (BoardPost w (okV v) (Bd.D true 10 v)) := by
 rcases hok : okV v with _ | _
 ·have HOK := Hd hok
  clear hok
  go_enter Tryz.func25, Tryz.ntmps25
  go_wp2_with (first
   | (go_at_call 65; refine (layReduced_no HOK.out).mono ?_; rintro e w1 ⟨rfl, hb1⟩)
   | (refine wpList_store_ten rfl rfl _ _ rfl w1.heap.size rfl 93 (AV z10) z10 rfl (heap_alloc_new w1 _) rfl rfl _ (setRow_alloc w1 _ _ _) ?_))
  go_ret2
  exact ⟨⟨_, _, _, rfl, Own.nil _ _⟩, hb1.alloc hb1.size _⟩
 ·have HOK := Hd hok
  have hD : (Bd.D true 10 v).length = 10 := Bd.D_length _ _ _
  have HD := Hd hD
  clear hok hD
  go_enter Tryz.func25, Tryz.ntmps25
  go_wp2_with (first
   | (go_at_call 65; refine (layReduced_yes HOK.out).mono ?_; rintro e w1 ⟨rfl, hb1⟩)
   | (refine wpList_store_ten rfl rfl _ _ rfl w1.heap.size rfl 93 (AV z10) (Bd.D true 10 v) rfl (heap_alloc_new w1 _) rfl HD.out _ (setRow_alloc w1 _ _ _) ?_)
   | (refine wpList_load_ten rfl _ rfl w1.heap.size rfl _ (Bd.D true 10 v) _ (heap_alloc_new w1 _) HD.out ?_)
   | (go_at_call 66; refine (list_any _ HD.out _).mono ?_; rintro e w2 ⟨⟨A, c, rfl, hown⟩, hb2⟩))
  go_ret2
  have hs := hb1.size
  exact ⟨⟨_, _, _, rfl, hown.mono (by simp; omega)⟩, (hb1.alloc hb1.size _).trans (hb2.mono (by simp; omega))⟩
theorem BoardReduce_any (A : Option Addr) (n c : Nat) (xs : List Int) (w : World) (hx : Ints w w.heap.size A n xs) :
  Calls Tryz.prog 196 #[.slice A n c] w (BoardPost w (redOK xs) (redL xs)) := by
 have hx' := Hd hx
 rcases hok : Bd.okB xs with _ | _
 ·have hv : redOK xs = false := by simp [redOK, hok]
  rw [hv]
  have HOK := Hd hok
  clear hv hok hx
  go_enter Tryz.func196, Tryz.ntmps196
  go_wp2_with (first
   | (go_at_call 68; refine (layOut_no hx'.out HOK.out).mono ?_; rintro e w1 ⟨rfl, hb1⟩)
   | (refine wpList_store_ten rfl rfl _ _ rfl w1.heap.size rfl 93 (AV z10) z10 rfl (heap_alloc_new w1 _) rfl rfl _ (setRow_alloc w1 _ _ _) ?_))
  go_ret2
  exact ⟨⟨_, _, _, rfl, Own.nil _ _⟩, hb1.alloc hb1.size _⟩
 ·have hv : redOK xs = okV (Bd.V true xs) := by simp [redOK, hok]
  rw [hv]
  have hl := ((Bd.okB_iff xs).1 hok)
  have HL := Hd hl
  have HOK := Hd hok
  clear hv hok hx hl
  go_enter Tryz.func196, Tryz.ntmps196
  go_wp2_with (first
   | (go_at_call 68; refine (layOut_yes hx'.out HOK.out).mono ?_; rintro e w1 ⟨rfl, hb1⟩)
   | (refine wpList_store_ten rfl rfl _ _ rfl w1.heap.size rfl 93 (AV z10) xs rfl (heap_alloc_new w1 _) rfl HL.out.1 _ (setRow_alloc w1 _ _ _) ?_)
   | (refine wpList_load_ten rfl _ rfl w1.heap.size rfl _ xs _ (heap_alloc_new w1 _) HL.out.1 ?_)
   | (go_at_call 96; refine (value_any xs HL.out.1 HL.out.2 _).mono ?_; rintro e w' ⟨rfl, rfl⟩)
   | (go_at_call 25; refine (BoardOf_any _ _).mono ?_; rintro e w2 ⟨⟨A2, n2, c2, rfl, hown⟩, hb2⟩))
  go_ret2
  have hs := hb1.size
  exact ⟨⟨_, _, _, rfl, hown.mono (by simp; omega)⟩, ((hb1.alloc hb1.size _).alloc (by simp; omega) _).trans (hb2.mono (by simp; omega))⟩
theorem BoardRaise_any (A : Option Addr) (n c : Nat) (xs : List Int) (q : Int) (w : World) (hx : Ints w w.heap.size A n xs) :
  Calls Tryz.prog 197 #[.slice A n c, .int .i64 q] w (BoardPost w (raiseOK xs q) (Bd.raiseL xs q.toNat)) := by
 have hx' := Hd hx
 rcases hok : Bd.okB xs with _ | _
 ·have hv : raiseOK xs q = false := by simp [raiseOK, hok]
  rw [hv]
  have HOK := Hd hok
  clear hv hok hx
  go_enter Tryz.func197, Tryz.ntmps197
  go_wp2_with (first
   | (go_at_call 68; refine (layOut_no hx'.out HOK.out).mono ?_; rintro e w1 ⟨rfl, hb1⟩)
   | (refine wpList_store_ten rfl rfl _ _ rfl w1.heap.size rfl 93 (AV z10) z10 rfl (heap_alloc_new w1 _) rfl rfl _ (setRow_alloc w1 _ _ _) ?_))
  go_ret2
  exact ⟨⟨_, _, _, rfl, Own.nil _ _⟩, hb1.alloc hb1.size _⟩
 ·have hl := ((Bd.okB_iff xs).1 hok)
  have HL := Hd hl
  by_cases hq : q < 0 ∨ 9 ≤ q
  ·have hv : raiseOK xs q = false := by simp [raiseOK]; omega
   rw [hv]
   have HOK := Hd hok
   clear hv hok hx hl
   rcases hq with hq | hq
   all_goals
    go_enter Tryz.func197, Tryz.ntmps197
    go_wp2_with (first
     | (go_at_call 68; refine (layOut_yes hx'.out HOK.out).mono ?_; rintro e w1 ⟨rfl, hb1⟩)
     | (refine wpList_store_ten rfl rfl _ _ rfl w1.heap.size rfl 93 (AV z10) xs rfl (heap_alloc_new w1 _) rfl HL.out.1 _ (setRow_alloc w1 _ _ _) ?_))
    go_ret2
    exact ⟨⟨_, _, _, rfl, Own.nil _ _⟩, hb1.alloc hb1.size _⟩
  ·obtain ⟨p, rfl⟩ := Int.eq_ofNat_of_zero_le (by omega : 0 ≤ q)
   have hp : p < 9 := by omega
   have hv : raiseOK xs (p : Int) = fitB (Bd.raiseL xs p) := by simp [raiseOK, hok]; omega
   rw [hv, Int.toNat_natCast]
   obtain ⟨u, hu⟩ : ∃ u, xs[p]? = some u := ⟨_, List.getElem?_eq_getElem (by omega)⟩
   obtain ⟨v, hv'⟩ : ∃ v, xs[p + 1]? = some v := ⟨_, List.getElem?_eq_getElem (by omega)⟩
   have HE := Hd (Bd.raiseL_eq hu hv')
   have HR := Hd ((Bd.raiseL_length xs p).trans hl.1)
   have hu2 := hl.2 u (List.mem_of_getElem? hu)
   have hv2 := hl.2 v (List.mem_of_getElem? hv')
   obtain ⟨u0, u1⟩ := hu2
   obtain ⟨v0, v1⟩ := hv2
   have au := AV_get hu
   have av := AV_get hv'
   have HOK := Hd hok
   have hg := Bd.grp_cases p
   have g2 : 2 ≤ Bd.grp p ∧ Bd.grp p ≤ 5 := by rcases hg with h | h <;> omega
   obtain ⟨g2, g5⟩ := g2
   have i0 : (0 : Int) ≤ (p : Int) := by omega
   have i1 : (p : Int) < 10 := by omega
   clear hv hok hx hl hu hv' hg hq
   go_enter Tryz.func197, Tryz.ntmps197
   go_wp2_with (first
    | (go_at_call 68; refine (layOut_yes hx'.out HOK.out).mono ?_; rintro e w1 ⟨rfl, hb1⟩)
    | (refine wpList_store_ten rfl rfl _ _ rfl w1.heap.size rfl 93 (AV z10) xs rfl (heap_alloc_new w1 _) rfl HL.out.1 _ (setRow_alloc w1 _ _ _) ?_))
   go_region_with (go_at_call 143; refine (fullAt_any _ (by omega) _).mono ?_; rintro e w' ⟨rfl, rfl⟩)
   all_goals
    go_wp2_with (first
     | (refine wpList_load_ten rfl _ rfl w1.heap.size rfl 93 (Bd.raiseL xs p) (0, 0) ((heap_alloc_new w1 _).trans (by rw [AV_set, AV_set, ← HE.out])) HR.out ?_)
     | (go_at_call 221; refine (board_any (Bd.raiseL xs p) HR.out _).mono ?_; rintro e w2 ⟨⟨A2, n2, c2, rfl, hown⟩, hb2⟩))
    go_ret2
    have hs := hb1.size
    exact ⟨⟨_, _, _, rfl, hown.mono (by simp; omega)⟩, ((hb1.alloc hb1.size _).drew).trans (hb2.mono (by simp; omega))⟩
theorem BoardLay_no (A B : Option Addr) (n c m d : Nat) (xs ys : List Int) (w : World) (hx : Ints w w.heap.size A n xs) (hy : Ints w w.heap.size B m ys) (h : Bd.okB xs = false ∨ Bd.okB ys = false) :
  Calls Tryz.prog 195 #[.slice A n c, .slice B m d] w (BoardPost w false []) := by
 have hx' := Hd hx
 have hy' := Hd hy
 rcases hokx : Bd.okB xs with _ | _
 ·have HX := Hd hokx
  rcases hoky : Bd.okB ys with _ | _
  ·have HY := Hd hoky
   clear hokx hoky hx hy h
   go_enter Tryz.func195, Tryz.ntmps195
   go_wp2_with fail
   refine (layOut_no hx'.out HX.out).mono ?_
   rintro e w1 ⟨rfl, hb1⟩
   have hy2 := Hd ((hy'.out.next hb1).alloc (Nat.le_refl _) (.cells (AV z10) 93))
   go_wp2_with (refine wpList_store_ten rfl rfl _ _ rfl w1.heap.size rfl 93 (AV z10) z10 rfl (heap_alloc_new w1 _) rfl rfl _ (setRow_alloc w1 _ _ _) ?_)
   refine (layOut_no (hy2.out.mono (by simp)) HY.out).mono ?_
   rintro e w2 ⟨rfl, hb2⟩
   go_wp2_with (refine wpList_store_ten rfl rfl _ _ rfl w2.heap.size rfl 93 (AV z10) z10 rfl (heap_alloc_new w2 _) rfl rfl _ (setRow_alloc w2 _ _ _) ?_)
   go_ret2
   have hs2 := hb2.size
   exact ⟨⟨_, _, _, rfl, Own.nil _ _⟩, (((hb1.alloc hb1.size _).trans (hb2.mono (by have := hb1.size; simp; omega))).alloc (by have := hb1.size; simp at hs2; omega) _)⟩
  ·have HY := Hd hoky
   have HLY := Hd ((Bd.okB_iff ys).1 hoky)
   clear hokx hoky hx hy h
   go_enter Tryz.func195, Tryz.ntmps195
   go_wp2_with fail
   refine (layOut_no hx'.out HX.out).mono ?_
   rintro e w1 ⟨rfl, hb1⟩
   have hy2 := Hd ((hy'.out.next hb1).alloc (Nat.le_refl _) (.cells (AV z10) 93))
   go_wp2_with (refine wpList_store_ten rfl rfl _ _ rfl w1.heap.size rfl 93 (AV z10) z10 rfl (heap_alloc_new w1 _) rfl rfl _ (setRow_alloc w1 _ _ _) ?_)
   refine (layOut_yes (hy2.out.mono (by simp)) HY.out).mono ?_
   rintro e w2 ⟨rfl, hb2⟩
   go_wp2_with (refine wpList_store_ten rfl rfl _ _ rfl w2.heap.size rfl 93 (AV z10) ys rfl (heap_alloc_new w2 _) rfl HLY.out.1 _ (setRow_alloc w2 _ _ _) ?_)
   go_ret2
   have hs2 := hb2.size
   exact ⟨⟨_, _, _, rfl, Own.nil _ _⟩, (((hb1.alloc hb1.size _).trans (hb2.mono (by have := hb1.size; simp; omega))).alloc (by have := hb1.size; simp at hs2; omega) _)⟩
 ·have HX := Hd hokx
  have HLX := Hd ((Bd.okB_iff xs).1 hokx)
  rcases hoky : Bd.okB ys with _ | _
  ·have HY := Hd hoky
   clear hokx hoky hx hy h
   go_enter Tryz.func195, Tryz.ntmps195
   go_wp2_with fail
   refine (layOut_yes hx'.out HX.out).mono ?_
   rintro e w1 ⟨rfl, hb1⟩
   have hy2 := Hd ((hy'.out.next hb1).alloc (Nat.le_refl _) (.cells (AV xs) 93))
   go_wp2_with (refine wpList_store_ten rfl rfl _ _ rfl w1.heap.size rfl 93 (AV z10) xs rfl (heap_alloc_new w1 _) rfl HLX.out.1 _ (setRow_alloc w1 _ _ _) ?_)
   refine (layOut_no (hy2.out.mono (by simp)) HY.out).mono ?_
   rintro e w2 ⟨rfl, hb2⟩
   go_wp2_with (refine wpList_store_ten rfl rfl _ _ rfl w2.heap.size rfl 93 (AV z10) z10 rfl (heap_alloc_new w2 _) rfl rfl _ (setRow_alloc w2 _ _ _) ?_)
   go_ret2
   have hs2 := hb2.size
   exact ⟨⟨_, _, _, rfl, Own.nil _ _⟩, (((hb1.alloc hb1.size _).trans (hb2.mono (by have := hb1.size; simp; omega))).alloc (by have := hb1.size; simp at hs2; omega) _)⟩
  ·rw [hokx, hoky] at h
   simp at h
theorem BoardLay_yes (A B : Option Addr) (n c m d : Nat) (xs ys : List Int) (w : World) (hx : Ints w w.heap.size A n xs) (hy : Ints w w.heap.size B m ys) (hokx : Bd.okB xs = true) (hoky : Bd.okB ys = true) :
  Calls Tryz.prog 195 #[.slice A n c, .slice B m d] w (BoardPost w (fitB (Bd.addL xs ys)) (Bd.addL xs ys)) := by
 have hx' := Hd hx
 have hy' := Hd hy
 have HX := Hd hokx
 have HY := Hd hoky
 have HLX := Hd ((Bd.okB_iff xs).1 hokx)
 have HLY := Hd ((Bd.okB_iff ys).1 hoky)
 have HLL := Hd (HLX.out.1.trans HLY.out.1.symm)
 have HLA := Hd ((Bd.addL_length xs ys HLL.out).trans HLX.out.1)
 have idx := fun (k : Nat) (u : Int) (h : ys[k]? = some u) => run_index_ten ys k u HLY.out.1 h
 have IDX := Hd idx
 clear hokx hoky hx hy idx
 go_enter Tryz.func195, Tryz.ntmps195
 go_wp2_with fail
 refine (layOut_yes hx'.out HX.out).mono ?_
 rintro e w1 ⟨rfl, hb1⟩
 have hy2 := Hd ((hy'.out.next hb1).alloc (Nat.le_refl _) (.cells (AV xs) 93))
 go_wp2_with (refine wpList_store_ten rfl rfl _ _ rfl w1.heap.size rfl 93 (AV z10) xs rfl (heap_alloc_new w1 _) rfl HLX.out.1 _ (setRow_alloc w1 _ _ _) ?_)
 refine (layOut_yes (hy2.out.mono (by simp)) HY.out).mono ?_
 rintro e w2 ⟨rfl, hb2⟩
 have hs2 := hb2.size
 have hblk : (w2.alloc (.cells (AV ys) 93)).heap[w1.heap.size]? = some (.cells (AV xs) 93 (0, 0)) :=
  (Below.heap_alloc w2 _ _ (by simp at hs2; omega)).trans ((hb2.block _ (by simp)).trans (heap_alloc_new w1 _))
 have HBLK := Hd hblk
 have HBEL := Hd (((hb1.alloc hb1.size (.cells (AV xs) 93)).trans (hb2.mono (by have := hb1.size; simp; omega))).alloc (by have := hb1.size; simp at hs2; omega) (.cells (AV ys) 93))
 have HSZ := Hd hb1.size
 clear hblk
 go_wp2_with (first
  | (refine wpList_store_ten rfl rfl _ _ rfl w2.heap.size rfl 93 (AV z10) ys rfl (heap_alloc_new w2 _) rfl HLY.out.1 _ (setRow_alloc w2 _ _ _) ?_)
  | (refine wpList_load_ten rfl (.tmp 8) rfl w2.heap.size rfl _ ys _ (heap_alloc_new w2 _) HLY.out.1 ?_))
 go_loopw [10, 11, 29] (fun _ _ i wr => ∃ k : Nat, k ≤ 10 ∧ i = .int .i64 k ∧ wr.heap[w1.heap.size]? = some (.cells (AV ((Bd.addL xs ys).take k ++ xs.drop k)) 93 (0, 0)) ∧ (w2.alloc (.cells (AV ys) 93)).grownBy wr (some w1.heap.size)) (fun _ _ i _ => 10 - (intOf i).toNat)
 case atStart => exact ⟨0, by omega, rfl, by simpa using HBLK.out, World.grownBy.refl _ _⟩
 case round =>
  obtain ⟨k, hk, rfl, hblk, hg⟩ := hrel
  have HG := Hd hg
  by_cases hlt : k < 10
  ·obtain ⟨u, hu⟩ : ∃ u, xs[k]? = some u := ⟨_, List.getElem?_eq_getElem (by have := HLX.out.1; omega)⟩
   obtain ⟨v, hv⟩ : ∃ v, ys[k]? = some v := ⟨_, List.getElem?_eq_getElem (by have := HLY.out.1; omega)⟩
   obtain ⟨u0, u1⟩ := HLX.out.2 u (List.mem_of_getElem? hu)
   obtain ⟨v0, v1⟩ := HLY.out.2 v (List.mem_of_getElem? hv)
   have HN := Hd (Bd.lay_next HLL.out hu hv)
   have cu := (cell_of_row wr _ k _ _ _ hblk).trans (AV_get (Bd.lay_at HLL.out hu))
   have fu := frozen_of_row wr _ k _ _ hblk
   have hi := IDX.out k v hv
   have HS := Hd (heap_setCell_same wr w1.heap.size k _ 93 (.int .i64 (u + v)) hblk)
   clear hblk hg hu hv
   go_wp2
   go_roundw
   case rel =>
    refine ⟨k + 1, by omega, by go_num, ?_, ?_⟩
    ·have := HS.out
     rwa [AV_set, HN.out] at this
    ·have := HG.out
     exact ⟨this.os, this.tape, this.output, by simpa [World.setCell] using this.size, fun b hb hne => (heap_setCell_other wr _ b _ (fun e => hne (by rw [e]))).trans (this.block b hb hne)⟩
   case measure => simp [intOf]; omega
  ·have e10 : (Bd.addL xs ys).take k ++ xs.drop k = Bd.addL xs ys := by
    rw [List.take_of_length_le (by have := HLA.out; omega), List.drop_eq_nil_of_le (by have := HLX.out.1; omega), List.append_nil]
   rw [e10] at hblk
   have HB2 := Hd hblk
   have HBR := Hd (HBEL.out.grown hg (by simp at hs2 ⊢; have := HSZ.out; omega) (by intro b hb; cases hb; exact HSZ.out))
   clear hblk hg e10
   go_wp2_with (first
    | (refine wpList_load_ten rfl (.tmp 6) rfl w1.heap.size rfl _ (Bd.addL xs ys) _ HB2.out HLA.out ?_)
    | (go_at_call 221; refine (board_any (Bd.addL xs ys) HLA.out _).mono ?_; rintro e w3 ⟨⟨A2, n2, c2, rfl, hown⟩, hb3⟩))
   go_ret2
   have hs3 := HBR.out.size
   exact ⟨⟨_, _, _, rfl, hown.mono (by omega)⟩, HBR.out.trans (hb3.mono (by omega))⟩
theorem BoardLay_any (A B : Option Addr) (n c m d : Nat) (xs ys : List Int) (w : World) (hx : Ints w w.heap.size A n xs) (hy : Ints w w.heap.size B m ys) :
  Calls Tryz.prog 195 #[.slice A n c, .slice B m d] w (BoardPost w (layOK xs ys) (Bd.addL xs ys)) := by
 rcases hokx : Bd.okB xs with _ | _
 ·have hv : layOK xs ys = false := by simp [layOK, hokx]
  rw [hv]
  exact BoardLay_no A B n c m d xs ys w hx hy (.inl hokx)
 ·rcases hoky : Bd.okB ys with _ | _
  ·have hv : layOK xs ys = false := by simp [layOK, hoky]
   rw [hv]
   exact BoardLay_no A B n c m d xs ys w hx hy (.inr hoky)
  ·have hv : layOK xs ys = fitB (Bd.addL xs ys) := by simp [layOK, hokx, hoky]
   rw [hv]
   exact BoardLay_yes A B n c m d xs ys w hx hy hokx hoky
def okT : ByteArray := ⟨#[111, 107, 10]⟩
theorem setBoard_yes {w : World} {tb : Nat} {x0 x1 x2 x3 : Value} (hb : Blk w tb #[x0, x1, x2, x3] 62) (A : Option Addr) (n c : Nat) :
  Calls Tryz.prog 194 #[.pointer (some ⟨tb, 0, none⟩), .slice A n c, .bool true] w fun e w' => e = .returned (.tuple #[.string okT, .bool true]) ∧ w' = w.setCell ⟨tb, 0, none⟩ (.slice A n c) := by
 have c0 := hb.cell (j := 0) (v := x0) rfl
 have f0 := hb.free 0
 go_enter Tryz.func194, Tryz.ntmps194
 go_wp2
 go_ret2
 exact ⟨rfl, rfl⟩
theorem setBoard_no (w : World) (t : Option Addr) (A : Option Addr) (n c : Nat) :
  Calls Tryz.prog 194 #[.pointer t, .slice A n c, .bool false] w fun e w' => e = .returned (.tuple #[.string ⟨#[]⟩, .bool false]) ∧ w' = w := by
 go_enter Tryz.func194, Tryz.ntmps194
 go_wp2
 go_ret2
 exact ⟨rfl, rfl⟩
def BoardCmd (B0 tb : Nat) (bs' ds : List Int) (ts : List Tl) (ok' : Bool) (s : ByteArray) (ok : Bool) (w' : World) : Prop := ok = ok' ∧ (s = if ok' then okT else ⟨#[]⟩) ∧ Tab B0 w' tb bs' ds ts
theorem board_cmd {B0 tb : Nat} {bs xs ds : List Int} {ts : List Tl} {w w1 : World} {ok : Bool} {A : Option Addr} {n c : Nat} (h : Tab B0 w tb bs ds ts) (hw : B0 ≤ w.heap.size) (ho : Own w1 w.heap.size A n c (if ok then xs else [])) (hb : Below w.heap.size w w1) :
  Calls Tryz.prog 194 #[.pointer (some ⟨tb, 0, none⟩), .slice A n c, .bool ok] w1 (CmdPost B0 (BoardCmd B0 tb (if ok then xs else bs) ds ts ok) w) := by
 have h1 := h.next hb
 obtain ⟨hB, Ab, nb, cb, A1, c1, A1', c1', At, nt, ct, g0, _⟩ := id h1
 rcases ok with _ | _
 ·refine (setBoard_no w1 _ A n c).mono ?_
  rintro e w2 ⟨rfl, rfl⟩
  exact ⟨_, _, rfl, ⟨rfl, rfl, h1⟩, KeptT.of_below hb⟩
 ·refine (setBoard_yes g0 A n c).mono ?_
  rintro e w2 ⟨rfl, rfl⟩
  exact ⟨_, _, rfl, ⟨rfl, rfl, h1.setBoard (ho.mono hw)⟩, (KeptT.of_below hb).trans (KeptT.set g0 hB _ _)⟩
theorem reduce_any (B0 tb : Nat) (bs ds : List Int) (ts : List Tl) (v : Value) (w : World) (h : Tab B0 w tb bs ds ts) (hw : B0 ≤ w.heap.size) (Q : Ending → World → Prop) (hQ : Q = CmdPost B0 (BoardCmd B0 tb (if redOK bs then redL bs else bs) ds ts (redOK bs)) w) :
  Calls Tryz.prog 157 #[.pointer (some ⟨tb, 0, none⟩), v] w Q := by
 obtain ⟨hB0, Ab, nb, cb, A, c, A', c', At, nt, ct, g0, g1, g2, g3, g4⟩ := id h
 have HT := Hd h
 have c0 := g0.cell (j := 0) (v := .slice Ab nb cb) rfl
 have HI := Hd g1.ints
 have HW := Hd hw
 have HQ := Hd hQ
 clear h hB0 g0 g1 g2 g3 g4 hw hQ
 go_enter Tryz.func157, Tryz.ntmps157
 go_wp2_with (first
  | (go_at_call 196; refine (BoardReduce_any Ab nb cb bs w HI.out).mono ?_; rintro e w1 ⟨⟨A2, n2, c2, rfl, hown⟩, hb2⟩)
  | (go_at_call 194; refine (board_cmd HT.out HW.out hown hb2).mono ?_; rintro e w2 ⟨s, ok, rfl, hq, hk⟩))
 rw [HQ.out]
 exact ⟨s, ok, rfl, hq, hk⟩
theorem raise_any (B0 tb : Nat) (bs ds : List Int) (ts : List Tl) (x : Int) (A0 : Option Addr) (n0 : Nat) (w : World) (hn : Own w B0 A0 1 n0 [x]) (h : Tab B0 w tb bs ds ts) (hw : B0 ≤ w.heap.size) (Q : Ending → World → Prop) (hQ : Q = CmdPost B0 (BoardCmd B0 tb (if raiseOK bs x then Bd.raiseL bs x.toNat else bs) ds ts (raiseOK bs x)) w) :
  Calls Tryz.prog 158 #[.pointer (some ⟨tb, 0, none⟩), .slice A0 1 n0] w Q := by
 obtain ⟨hB0, Ab, nb, cb, A, c, A', c', At, nt, ct, g0, g1, g2, g3, g4⟩ := id h
 obtain ⟨g, rfl, _, hg, hcell, _⟩ := hn.at_ (by omega)
 have d0 := hcell 0 x rfl
 have HT := Hd h
 have c0 := g0.cell (j := 0) (v := .slice Ab nb cb) rfl
 have HI := Hd g1.ints
 have HW := Hd hw
 have HQ := Hd hQ
 clear h hB0 g0 g1 g2 g3 g4 hw hQ hn hcell
 go_enter Tryz.func158, Tryz.ntmps158
 go_wp2_with fail
 go_region_with (first
  | (go_at_call 197; refine (BoardRaise_any Ab nb cb bs x _ HI.out.drew).mono ?_; rintro e w1 ⟨⟨A2, n2, c2, rfl, hown⟩, hb2⟩)
  | (go_at_call 194; refine (board_cmd HT.out HW.out hown (((Below.refl _ _).drew).trans hb2)).mono ?_; rintro e w2 ⟨s, ok, rfl, hq, hk⟩))
 all_goals
  go_wp2_with fail
  go_ret2
  rw [HQ.out]
  exact ⟨s, ok, rfl, hq, hk⟩
theorem lay_any (B0 tb : Nat) (bs ds : List Int) (ts : List Tl) (x : Int) (A0 : Option Addr) (n0 : Nat) (w : World) (hn : Own w B0 A0 1 n0 [x]) (h : Tab B0 w tb bs ds ts) (hw : B0 ≤ w.heap.size) (Q : Ending → World → Prop)
  (hQ : Q = CmdPost B0 (BoardCmd B0 tb (if okV x && layOK bs (Bd.D true 10 x) then Bd.addL bs (Bd.D true 10 x) else bs) ds ts (okV x && layOK bs (Bd.D true 10 x))) w) :
  Calls Tryz.prog 156 #[.pointer (some ⟨tb, 0, none⟩), .slice A0 1 n0] w Q := by
 obtain ⟨hB0, Ab, nb, cb, A, c, A', c', At, nt, ct, g0, g1, g2, g3, g4⟩ := id h
 obtain ⟨g, rfl, _, hg, hcell, _⟩ := hn.at_ (by omega)
 have d0 := hcell 0 x rfl
 have HT := Hd h
 have HG := Hd g0
 have HI := Hd g1.ints
 have HW := Hd hw
 rcases hok : okV x with _ | _
 ·have HQ := Hd hQ
  have HOK := Hd hok
  clear h hB0 g0 g1 g2 g3 g4 hw hQ hn hcell hok
  go_enter Tryz.func156, Tryz.ntmps156
  go_wp2_with (first
   | (go_at_call 25; refine (BoardOf_any x _).mono ?_; rw [HOK.out]; rintro e w1 ⟨⟨A2, n2, c2, rfl, hown⟩, hb2⟩))
  rw [HQ.out, HOK.out]
  exact ⟨_, _, rfl, ⟨rfl, rfl, HT.out.next hb2⟩, KeptT.of_below hb2⟩
 ·have HQ := Hd hQ
  have HOK := Hd hok
  clear h hB0 g0 g1 g2 g3 g4 hw hQ hn hcell hok
  go_enter Tryz.func156, Tryz.ntmps156
  go_wp2_with (first
   | (go_at_call 25; refine (BoardOf_any x _).mono ?_; rw [HOK.out]; rintro e w1 ⟨⟨A2, n2, c2, rfl, hown⟩, hb2⟩; have c0 := (HG.out.next hb2).cell (j := 0) (v := .slice Ab nb cb) rfl)
   | (go_at_call 195; refine (BoardLay_any Ab A2 nb cb n2 c2 bs _ w1 (HI.out.next hb2) hown.ints).mono ?_; rintro e w2 ⟨⟨A3, n3, c3, rfl, hown3⟩, hb3⟩)
   | (go_at_call 194; refine (board_cmd (HT.out.next hb2) (Nat.le_trans HW.out hb2.size) hown3 hb3).mono ?_; rintro e w2 ⟨s, ok, rfl, hq, hk⟩))
  rw [HQ.out, HOK.out, Bool.true_and]
  exact ⟨s, ok, rfl, hq, (KeptT.of_below hb2).trans hk⟩
def chgAt (s : Int) (ds : List Int) (k : Nat) (g : Int) : Option (List Int × Int) := (Fr.chg s (ds.drop k) g).map fun p => (ds.take k ++ p.1, p.2)
def chgP (s : Int) (ds : List Int) (k : Nat) (g p : Int) : Option (List Int × Int) := (chgAt s ds k g).map fun q => (q.1, p + q.2)
theorem chgP_zero (s : Int) (ds : List Int) (k : Nat) (g : Int) : chgP s ds k g 0 = chgAt s ds k g := by
 unfold chgP
 cases chgAt s ds k g <;> simp
theorem chgP_done (s : Int) (ds : List Int) (k : Nat) (p : Int) : chgP s ds k 0 p = some (ds, p) := by
 unfold chgP chgAt
 cases h : ds.drop k with
 | nil => simp [Fr.chg]; exact List.take_of_length_le (by simpa using h)
 | cons a l => simp only [Fr.chg, if_pos, Option.map_some]; rw [← h, List.take_append_drop, Int.add_zero]
theorem chgP_out (s : Int) (ds : List Int) (k : Nat) (g p : Int) (hg : g ≠ 0) (hk : ds.length ≤ k) : chgP s ds k g p = none := by
 unfold chgP chgAt
 rw [List.drop_of_length_le hk]
 simp [Fr.chg, hg]
theorem drop_cons {ds : List Int} {k : Nat} {d : Int} (hd : ds[k]? = some d) : ds.drop k = d :: ds.drop (k + 1) := by
 obtain ⟨h, rfl⟩ := List.getElem?_eq_some_iff.1 hd
 exact List.drop_eq_getElem_cons h
theorem chgP_in (s : Int) (ds : List Int) (k : Nat) (g p d : Int) (hg : g ≠ 0) (hd : ds[k]? = some d) (h0 : 0 ≤ d + s * g) (h9 : d + s * g ≤ 9) : chgP s ds k g p = some (ds.set k (d + s * g), p + Fr.cost d (d + s * g)) := by
 have hl := (List.getElem?_eq_some_iff.1 hd).1
 unfold chgP chgAt
 rw [drop_cons hd]
 simp only [Fr.chg, if_neg hg, if_pos (And.intro h0 h9), Option.map_some]
 rw [List.set_eq_take_append_cons_drop, if_pos hl]
theorem chgP_over (s : Int) (ds : List Int) (k : Nat) (g p d : Int) (hg : g ≠ 0) (hd : ds[k]? = some d) (h : ¬ (0 ≤ d + s * g ∧ d + s * g ≤ 9)) :
  chgP s ds k g p = chgP s (ds.set k (d + s * g - 10 * s)) (k + 1) 1 (p + Fr.cost d (d + s * g - 10 * s)) := by
 have hl := (List.getElem?_eq_some_iff.1 hd).1
 unfold chgP chgAt
 rw [drop_cons hd]
 simp only [Fr.chg, if_neg hg, if_neg h]
 have e1 : (ds.set k (d + s * g - 10 * s)).drop (k + 1) = ds.drop (k + 1) := List.drop_set_of_lt (by omega)
 have e2 : (ds.set k (d + s * g - 10 * s)).take (k + 1) = ds.take k ++ [d + s * g - 10 * s] := by
  rw [List.take_add_one, List.take_set_of_le (by omega), List.getElem?_set_self hl]; rfl
 rw [e1, e2]
 cases Fr.chg s (ds.drop (k + 1)) 1 with
 | none => rfl
 | some q => simp; omega
theorem digs_set {ds : List Int} (h : Fr.Digs ds) (k : Nat) {x : Int} (h0 : 0 ≤ x) (h9 : x ≤ 9) : Fr.Digs (ds.set k x) := by
 intro d hd
 rcases List.mem_or_eq_of_mem_set hd with h1 | h1
 ·exact h d h1
 ·subst h1; exact ⟨h0, h9⟩
theorem cost_le (a b : Int) : 0 ≤ Fr.cost a b ∧ Fr.cost a b ≤ 2 := by unfold Fr.cost; split <;> split <;> omega
theorem grown_undrewN {a w : World} {q : Nat} {row : Option Nat} (h : (a.drewN q).grownBy w row) : a.grownBy w row := ⟨h.os, h.tape, h.output, h.size, h.block⟩
def ChgPost (w : World) (B g h : Nat) (R : Option (List Int × Int)) (n : Nat) (e : Ending) (w' : World) : Prop :=
 (∃ es, Rods w' B g h es ∧ Fr.Digs es ∧ es.length = n ∧ e = .returned (.tuple #[.int .i64 (match R with | some p => p.2 | none => 0), .bool R.isSome]) ∧ (∀ p, R = some p → p.1 = es)) ∧ w.grownBy w' (some h)
theorem add_any (w : World) (B g h : Nat) (ds : List Int) (n k : Nat) (x : Int) (hr : Rods w B g h ds) (hds : Fr.Digs ds) (hn : ds.length = n) (hn6 : n ≤ 6) (x0 : 0 ≤ x) (x9 : x ≤ 9) (hk6 : k ≤ 6) :
  Calls Tryz.prog 60 #[.pointer (some ⟨g, 0, none⟩), .int .i64 (k : Int), .int .i64 x] w (ChgPost w B g h (chgAt 1 ds k x) n) := by
 rw [← chgP_zero]
 obtain ⟨R, hR⟩ : ∃ R, chgP 1 ds k x 0 = R := ⟨_, rfl⟩
 rw [hR]
 have HR := Hd hr
 have HD := Hd hds
 have HN := Hd hn
 have HE := Hd hR
 have HG := Hd (World.grownBy.refl w (some h))
 clear hr hds hn hR
 go_enter Tryz.func60, Tryz.ntmps60
 go_wp2
 go_loopw [1, 2, 8] (fun kv xv pv wr => ∃ (j : Nat) (y p : Int) (es : List Int), kv = .int .i64 (j : Int) ∧ xv = .int .i64 y ∧ pv = .int .i64 p ∧ j ≤ 6 + 1 ∧ 0 ≤ y ∧ y ≤ 9 ∧ 0 ≤ p ∧ p ≤ 2 * j ∧ Rods wr B g h es ∧ Fr.Digs es ∧ es.length = n ∧ chgP 1 es j y p = R ∧ w.grownBy wr (some h)) (fun kv _ _ _ => 7 - (intOf kv).toNat)
 case atStart => exact ⟨k, x, 0, ds, rfl, rfl, rfl, by omega, x0, x9, by omega, by omega, HR.out, HD.out, HN.out, HE.out, HG.out⟩
 case round =>
  clear HR HD HN HE HG
  obtain ⟨j, y, p, es, rfl, rfl, rfl, hj, y0, y9, p0, p1, hr, hds, hn, hE, hg⟩ := hrel
  have hsl := hr.slice
  rw [hn] at hsl
  have HR := Hd hr
  have HD := Hd hds
  have HN := Hd hn
  have HE := Hd hE
  have HG := Hd hg
  clear hr hds hn hE hg
  by_cases hy : y = 0
  ·subst hy
   go_wp2
   go_ret2
   have he := HE.out
   rw [chgP_done] at he
   subst he
   exact ⟨⟨es, HR.out, HD.out, HN.out, rfl, by rintro q ⟨⟩; rfl⟩, HG.out⟩
  ·have yp : 0 < y := by omega
   by_cases hjn : j < n
   ·obtain ⟨d, hd⟩ : ∃ d, es[j]? = some d := ⟨_, List.getElem?_eq_getElem (by have := HN.out; omega)⟩
    obtain ⟨d0, d9⟩ := HD.out d (List.mem_of_getElem? hd)
    have hch := HR.out.hi hd
    have hcl := HR.out.lo hd
    have HDD := Hd hd
    have HY := Hd hy
    clear hd hy
    have j0 : (0 : Int) ≤ (j : Int) := by omega
    have j1 : (j : Int) < (n : Int) := by omega
    by_cases hin : d ≤ 9 - y
    ·obtain ⟨t0, t1⟩ := cost_le d (d + y)
     go_wp2_with fail
     refine (rod_digit HR.out HDD.out d0 d9).mono ?_
     rintro e w1 ⟨rfl, q1, rfl⟩
     go_wp2_with fail
     refine (rod_digit (HR.out.drewN _) HDD.out d0 d9).mono ?_
     rintro e w1 ⟨rfl, q2, rfl⟩
     go_wp2_with fail
     refine (show_any _ B g h es j d (d + y) (HR.out.drewN _) HDD.out (by omega) (by omega)).mono ?_
     rintro e w3 ⟨rfl, hr3, hg3⟩
     have HR3 := Hd hr3
     have HG3 := Hd (HG.out.trans (grown_undrewN hg3))
     clear hr3 hg3
     go_wp2
     go_ret2
     have he := HE.out
     rw [chgP_in _ _ _ _ _ d HY.out HDD.out (by omega) (by omega)] at he
     subst he
     rw [Int.one_mul]
     exact ⟨⟨_, HR3.out, digs_set HD.out j (by omega) (by omega), by rw [List.length_set]; exact HN.out, rfl, by rintro q ⟨⟩; rfl⟩, HG3.out⟩
    ·obtain ⟨t0, t1⟩ := cost_le d (d - (10 - y))
     have hin' : 9 - y < d := by omega
     clear hin
     go_wp2_with fail
     refine (rod_digit HR.out HDD.out d0 d9).mono ?_
     rintro e w1 ⟨rfl, q1, rfl⟩
     go_wp2_with fail
     refine (rod_digit (HR.out.drewN _) HDD.out d0 d9).mono ?_
     rintro e w1 ⟨rfl, q2, rfl⟩
     go_wp2_with fail
     refine (show_any _ B g h es j d (d - (10 - y)) (HR.out.drewN _) HDD.out (by omega) (by omega)).mono ?_
     rintro e w3 ⟨rfl, hr3, hg3⟩
     have HR3 := Hd hr3
     have HG3 := Hd (HG.out.trans (grown_undrewN hg3))
     clear hr3 hg3
     go_wp2
     go_roundw
     case rel =>
      have he := HE.out
      rw [chgP_over _ _ _ _ _ d HY.out HDD.out (by omega)] at he
      have e1 : d + 1 * y - 10 * 1 = d - (10 - y) := by omega
      rw [e1] at he
      exact ⟨j + 1, 1, _, _, by go_num, rfl, rfl, by omega, by omega, by omega, by omega, by omega, HR3.out, digs_set HD.out j (by omega) (by omega), by rw [List.length_set]; exact HN.out, he, HG3.out⟩
     case measure => simp [intOf]; omega
   ·go_wp2
    go_ret2
    have he := HE.out
    rw [chgP_out _ _ _ _ _ hy (by have := HN.out; omega)] at he
    subst he
    exact ⟨⟨es, HR.out, HD.out, HN.out, rfl, by rintro q ⟨⟩⟩, HG.out⟩
theorem take_any (w : World) (B g h : Nat) (ds : List Int) (n k : Nat) (x : Int) (hr : Rods w B g h ds) (hds : Fr.Digs ds) (hn : ds.length = n) (hn6 : n ≤ 6) (x0 : 0 ≤ x) (x9 : x ≤ 9) (hk6 : k ≤ 6) :
  Calls Tryz.prog 61 #[.pointer (some ⟨g, 0, none⟩), .int .i64 (k : Int), .int .i64 x] w (ChgPost w B g h (chgAt (-1) ds k x) n) := by
 rw [← chgP_zero]
 obtain ⟨R, hR⟩ : ∃ R, chgP (-1) ds k x 0 = R := ⟨_, rfl⟩
 rw [hR]
 have HR := Hd hr
 have HD := Hd hds
 have HN := Hd hn
 have HE := Hd hR
 have HG := Hd (World.grownBy.refl w (some h))
 clear hr hds hn hR
 go_enter Tryz.func61, Tryz.ntmps61
 go_wp2
 go_loopw [1, 2, 8] (fun kv xv pv wr => ∃ (j : Nat) (y p : Int) (es : List Int), kv = .int .i64 (j : Int) ∧ xv = .int .i64 y ∧ pv = .int .i64 p ∧ j ≤ 6 + 1 ∧ 0 ≤ y ∧ y ≤ 9 ∧ 0 ≤ p ∧ p ≤ 2 * j ∧ Rods wr B g h es ∧ Fr.Digs es ∧ es.length = n ∧ chgP (-1) es j y p = R ∧ w.grownBy wr (some h)) (fun kv _ _ _ => 7 - (intOf kv).toNat)
 case atStart => exact ⟨k, x, 0, ds, rfl, rfl, rfl, by omega, x0, x9, by omega, by omega, HR.out, HD.out, HN.out, HE.out, HG.out⟩
 case round =>
  clear HR HD HN HE HG
  obtain ⟨j, y, p, es, rfl, rfl, rfl, hj, y0, y9, p0, p1, hr, hds, hn, hE, hg⟩ := hrel
  have hsl := hr.slice
  rw [hn] at hsl
  have HR := Hd hr
  have HD := Hd hds
  have HN := Hd hn
  have HE := Hd hE
  have HG := Hd hg
  clear hr hds hn hE hg
  by_cases hy : y = 0
  ·subst hy
   go_wp2
   go_ret2
   have he := HE.out
   rw [chgP_done] at he
   subst he
   exact ⟨⟨es, HR.out, HD.out, HN.out, rfl, by rintro q ⟨⟩; rfl⟩, HG.out⟩
  ·have yp : 0 < y := by omega
   by_cases hjn : j < n
   ·obtain ⟨d, hd⟩ : ∃ d, es[j]? = some d := ⟨_, List.getElem?_eq_getElem (by have := HN.out; omega)⟩
    obtain ⟨d0, d9⟩ := HD.out d (List.mem_of_getElem? hd)
    have hch := HR.out.hi hd
    have hcl := HR.out.lo hd
    have HDD := Hd hd
    have HY := Hd hy
    clear hd hy
    have j0 : (0 : Int) ≤ (j : Int) := by omega
    have j1 : (j : Int) < (n : Int) := by omega
    by_cases hin : y ≤ d
    ·obtain ⟨t0, t1⟩ := cost_le d (d - y)
     go_wp2_with fail
     refine (rod_digit HR.out HDD.out d0 d9).mono ?_
     rintro e w1 ⟨rfl, q1, rfl⟩
     go_wp2_with fail
     refine (rod_digit (HR.out.drewN _) HDD.out d0 d9).mono ?_
     rintro e w1 ⟨rfl, q2, rfl⟩
     go_wp2_with fail
     refine (show_any _ B g h es j d (d - y) (HR.out.drewN _) HDD.out (by omega) (by omega)).mono ?_
     rintro e w3 ⟨rfl, hr3, hg3⟩
     have HR3 := Hd hr3
     have HG3 := Hd (HG.out.trans (grown_undrewN hg3))
     clear hr3 hg3
     go_wp2
     go_ret2
     have he := HE.out
     rw [chgP_in _ _ _ _ _ d HY.out HDD.out (by omega) (by omega)] at he
     subst he
     rw [show d + -1 * y = d - y from by omega]
     exact ⟨⟨_, HR3.out, digs_set HD.out j (by omega) (by omega), by rw [List.length_set]; exact HN.out, rfl, by rintro q ⟨⟩; rfl⟩, HG3.out⟩
    ·obtain ⟨t0, t1⟩ := cost_le d (d + (10 - y))
     have hin' : d < y := by omega
     clear hin
     go_wp2_with fail
     refine (rod_digit HR.out HDD.out d0 d9).mono ?_
     rintro e w1 ⟨rfl, q1, rfl⟩
     go_wp2_with fail
     refine (rod_digit (HR.out.drewN _) HDD.out d0 d9).mono ?_
     rintro e w1 ⟨rfl, q2, rfl⟩
     go_wp2_with fail
     refine (show_any _ B g h es j d (d + (10 - y)) (HR.out.drewN _) HDD.out (by omega) (by omega)).mono ?_
     rintro e w3 ⟨rfl, hr3, hg3⟩
     have HR3 := Hd hr3
     have HG3 := Hd (HG.out.trans (grown_undrewN hg3))
     clear hr3 hg3
     go_wp2
     go_roundw
     case rel =>
      have he := HE.out
      rw [chgP_over _ _ _ _ _ d HY.out HDD.out (by omega)] at he
      have e1 : d + -1 * y - 10 * -1 = d + (10 - y) := by omega
      rw [e1] at he
      exact ⟨j + 1, 1, _, _, by go_num, rfl, rfl, by omega, by omega, by omega, by omega, by omega, HR3.out, digs_set HD.out j (by omega) (by omega), by rw [List.length_set]; exact HN.out, he, HG3.out⟩
     case measure => simp [intOf]; omega
   ·go_wp2
    go_ret2
    have he := HE.out
    rw [chgP_out _ _ _ _ _ hy (by have := HN.out; omega)] at he
    subst he
    exact ⟨⟨es, HR.out, HD.out, HN.out, rfl, by rintro q ⟨⟩⟩, HG.out⟩
end Go.Proofs.YthdoofmfigemoaaGreatDoor
section
namespace Go.Proofs.YthdoofmfigemoaaGreatDoor
open Go.RowKit
theorem rod_info : (Tryz.prog.info? 82).map (fun i => (i.zero, i.size, i.bytes)) = some (some (.agg #[.int .i64 0, .int .i64 0]), 2, 16) := by kernel_rfl
theorem RC_zero (n : Nat) : RC (List.replicate n 0) = List.replicate (2 * n) (.int .i64 0) := by
 induction n with
 | zero => rfl
 | succ n ih =>
  rw [List.replicate_succ, show 2 * (n + 1) = 2 * n + 1 + 1 from by omega, List.replicate_succ, List.replicate_succ, RC, ih]
  rfl
theorem madeCells_two (n : Nat) : madeCells (Value.agg #[.int .i64 0, .int .i64 0]).cells (n * 2) = (RC (List.replicate n 0)).toArray := by
 rw [RC_zero]
 apply Array.ext_getElem?
 intro j
 by_cases hj : j < n * 2
 ·have h2 : j < 2 * n := by omega
  have e : (Value.agg #[Value.int IntKind.i64 0, Value.int IntKind.i64 0]).cells = #[Value.int .i64 0, Value.int .i64 0] := rfl
  rw [e]
  rcases (show j % 2 = 0 ∨ j % 2 = 1 from by omega) with h | h <;> simp [madeCells, hj, h2, h]
 ·have h2 : ¬ j < 2 * n := by omega
  simp [madeCells, hj, h2]
theorem wpList_make_rods {ops : Array Oper} {rest : List Oper} {o : Oper} {a : Act} {w : World} {Q : Exit → Act → World → Prop} (hgd : o.guard = none) (l c : Operand)
  (ho : o.op = .makeSlice 80 l c) {n : Nat} (hl : a.eval l = .int .i64 (n : Int)) (hc : a.eval c = .int .i64 (n : Int)) (hn : n ≤ 1000)
  (h : ∀ w', w'.heap[w.heap.size]? = some (.cells (RC (List.replicate n 0)).toArray 82 (0, 0)) → w.grownBy w' none → wpList Tryz.prog ops Q rest (a.put o.dst (.slice (some ⟨w.heap.size, 0, none⟩) n n)) w') :
  wpList Tryz.prog ops Q (o :: rest) a w := by
 obtain ⟨i0, hi, hz0, hz1, hz2⟩ := info_parts rod_info
 refine wpList_make_full w hgd l c 80 ho 0 82 i0 (.agg #[.int .i64 0, .int .i64 0]) 2 Tryz.underlying80 hi hz0 hz1 .i64 .i64 _ _ n hl hc rfl rfl (by rw [hz2]; omega) (by unfold maxLen; omega) (Nat.zero_le _) ?_
 intro w' hown hg
 refine h w' ?_ hg
 rcases hown.2 with ⟨h1, _⟩ | ⟨g, cap, cur, hv, _, hg', _, _, hs, ht⟩
 ·simp only [Value.slice.injEq, reduceCtorEq, false_and] at h1
 ·simp only [Value.slice.injEq, Option.some.injEq, Addr.mk.injEq] at hv
  obtain ⟨⟨e1, _⟩, _, e3⟩ := hv
  subst e1
  subst e3
  rw [hg']
  have : cur.toList = (madeCells (Value.agg #[.int .i64 0, .int .i64 0]).cells (n * 2)).toList := by
   rw [← ht, List.take_of_length_le (by simp [hs])]
  rw [madeCells_two] at this
  have e : cur = (RC (List.replicate n 0)).toArray := by
   apply Array.ext'
   exact this
  rw [e]
def FBox (w : World) (b : Nat) (u v : Value) : Prop := w.heap[b]? = some (.cells #[u, v] 30 (0, 0))
section
variable {w w' : World} {b : Nat} {u v : Value}
theorem FBox.lt (h : FBox w b u v) : b < w.heap.size := (Array.getElem?_eq_some_iff.1 h).1
theorem FBox.keep (h : FBox w b u v) (hb : w'.heap[b]? = w.heap[b]?) : FBox w' b u v := hb.trans h
theorem FBox.fst (h : FBox w b u v) : w.cell? ⟨b, 0, none⟩ = some u := by rw [cell_of_row w b 0 _ _ _ h]; rfl
theorem FBox.snd (h : FBox w b u v) : w.cell? ⟨b, 1, none⟩ = some v := by rw [cell_of_row w b 1 _ _ _ h]; rfl
theorem FBox.new (w : World) (u v : Value) : FBox (w.alloc (.cells #[u, v] 30)) w.heap.size u v := heap_alloc_new w _
theorem FBox.alloc (h : FBox w b u v) (o : Obj) : FBox (w.alloc o) b u v := h.keep (Below.heap_alloc w o b h.lt)
theorem FBox.next (h : FBox w b u v) (hb : Below w.heap.size w w') : FBox w' b u v := h.keep (hb.block b h.lt)
theorem FBox.grown (h : FBox w b u v) {row : Option Nat} (hg : w.grownBy w' row) (hne : some b ≠ row) : FBox w' b u v := h.keep (hg.block b h.lt hne)
end
theorem HiL_get {ds : List Int} {k : Nat} {u : Int} (h : (HiL ds)[k]? = some u) : ∃ d, ds[k]? = some d ∧ u = d / 5 := by
 simp only [HiL, List.getElem?_map, Option.map_eq_some_iff] at h
 obtain ⟨d, h1, h2⟩ := h
 exact ⟨d, h1, h2.symm⟩
theorem LoL_get {ds : List Int} {k : Nat} {d : Int} (h : ds[k]? = some d) : (LoL ds)[k]? = some (d % 5) := by simp [LoL, h]
set_option maxRecDepth 100000 in
set_option maxHeartbeats 2000000 in
theorem rodsOf_yes (A A' : Option Addr) (n c c' : Nat) (ds : List Int) (w : World) (hx : Ints w w.heap.size A n (HiL ds)) (hy : Ints w w.heap.size A' n (LoL ds)) (hds : Fr.Digs ds) (h1 : 1 ≤ n) (h6 : n ≤ 6) :
  Calls Tryz.prog 62 #[.agg #[.slice A n c, .slice A' n c']] w fun e w' => (∃ g h, e = .returned (.tuple #[.pointer (some ⟨g, 0, none⟩), .bool true]) ∧ Rods w' w.heap.size g h ds) ∧ Below w.heap.size w w' := by
 have hl : ds.length = n := by have := hx.len; rwa [HiL_length] at this
 have HX := Hd hx
 have HY := Hd hy
 have HD := Hd hds
 have HL := Hd hl
 clear hx hy hds hl
 go_enter Tryz.func62, Tryz.ntmps62
 go_wp2_with (refine wpList_make_rods rfl _ _ rfl rfl rfl (by omega) ?_; intro w1 hm1 hg1)
 have hsz1 := hg1.size
 simp only [World.size_alloc] at hm1 hsz1
 have hlt1 := (Array.getElem?_eq_some_iff.1 hm1).1
 have HM1 := Hd hm1
 have HB1 := Hd (grown_below hg1 (by simp) (by simp) : Below (w.heap.size + 1) _ w1)
 clear hm1 hg1
 have hR0 : Rods (w1.alloc (.cells #[.slice (some ⟨w.heap.size + 1, 0, none⟩) n n] 80)) w.heap.size w1.heap.size (w.heap.size + 1) (ds.take 0 ++ List.replicate (n - 0) 0) := by
  refine ⟨?_, ?_, by omega, by omega, by omega⟩
  ·rw [heap_alloc_new]; simp
  ·rw [Below.heap_alloc _ _ _ (by omega), HM1.out]; simp
 have hX0 := ((FBox.new w (.slice A n c) (.slice A' n c')).keep (HB1.out.block w.heap.size (Nat.lt_succ_self _))).alloc (.cells #[.slice (some ⟨w.heap.size + 1, 0, none⟩) n n] 80)
 have hB0 := (((Below.refl w.heap.size w).alloc (Nat.le_refl _) (.cells #[.slice A n c, .slice A' n c'] 30)).trans (HB1.out.mono (Nat.le_succ _))).alloc (by omega) (.cells #[.slice (some ⟨w.heap.size + 1, 0, none⟩) n n] 80)
 have HR0 := Hd hR0
 have HX0 := Hd hX0
 have HB0 := Hd hB0
 clear hR0 hX0 hB0 HM1 HB1
 go_loopw [31] (fun i wr => ∃ k : Nat, k ≤ n ∧ i = .int .i64 (k : Int) ∧ FBox wr w.heap.size (.slice A n c) (.slice A' n c') ∧ Rods wr w.heap.size w1.heap.size (w.heap.size + 1) (ds.take k ++ List.replicate (n - k) 0) ∧ Below w.heap.size w wr) (fun i _ => n - (intOf i).toNat)
 case atStart => exact ⟨0, by omega, rfl, HX0.out, HR0.out, HB0.out⟩
 case round =>
  clear HX0 HR0 HB0
  obtain ⟨k, hk, rfl, hbox, hrods, hbel⟩ := hrel
  have hln : (ds.take k ++ List.replicate (n - k) 0).length = n := by have := HL.out; simp; omega
  have hsl := hrods.slice
  rw [hln] at hsl
  have hb0 := hbox.fst
  have hb1 := hbox.snd
  have hszr := hbel.size
  have HBX := Hd hbox
  have HR := Hd hrods
  have HB := Hd hbel
  have HLN := Hd hln
  clear hbox hrods hbel hln
  by_cases hlt : k < n
  ·obtain ⟨b2, off2, u2, rfl, hlb2, hu2, hc2⟩ := (HX.out.below HB.out).at_ hlt
   obtain ⟨d, hd, rfl⟩ := HiL_get hu2
   obtain ⟨b3, off3, u3, rfl, hlb3, hu3, hc3⟩ := (HY.out.below HB.out).at_ hlt
   rw [LoL_get hd] at hu3
   obtain rfl : d % 5 = u3 := by simpa using hu3
   have hdd := HD.out d (List.mem_of_getElem? hd)
   have hi0 : 0 ≤ d / 5 ∧ d / 5 ≤ 1 ∧ 0 ≤ d % 5 ∧ d % 5 ≤ 4 := by omega
   obtain ⟨hi0, hi1, lo0, lo1⟩ := hi0
   have hold : (ds.take k ++ List.replicate (n - k) 0)[k]? = some 0 := fill_at hlt HL.out
   have hch := HR.out.hi hold
   have hcl := HR.out.lo hold
   have hf0 := HR.out.free (k * 2)
   have hf1 := HR.out.free (k * 2 + 1)
   have HDD := Hd hd
   clear hu2 hu3 hd hold hdd
   have k0 : (0 : Int) ≤ (k : Int) := by omega
   have k1 : (k : Int) < (n : Int) := by omega
   go_wp2_with fail
   go_still_tail 14, (by kernel_rfl)
   change wpList _ _ _ _ _ wr.drew
   go_wp2
   go_roundw
   case rel =>
    refine ⟨k + 1, by omega, by go_num, HBX.out.keep ?_, ?_, ((HB.out.setCell (p := ⟨w.heap.size + 1, k * 2, none⟩) (by simp) _).setCell (p := ⟨w.heap.size + 1, k * 2 + 1, none⟩) (by simp) _).drew⟩
    ·exact (heap_setCell_other _ ⟨w.heap.size + 1, k * 2 + 1, none⟩ w.heap.size _ (by simp)).trans (heap_setCell_other _ ⟨w.heap.size + 1, k * 2, none⟩ w.heap.size _ (by simp))
    ·rw [← fill_next hlt HL.out HDD.out]
     exact HR.out.set_ (by rw [HLN.out]; exact hlt) d
   case measure => simp [intOf]; omega
  ·go_wp2
   go_ret2
   obtain rfl : k = n := by omega
   refine ⟨⟨w1.heap.size, w.heap.size + 1, rfl, ?_⟩, HB.out⟩
   have := HR.out
   rwa [Nat.sub_self, List.replicate_zero, List.append_nil, List.take_of_length_le (by have := HL.out; omega)] at this
def FrOk (hs ls : List Int) : Prop := ∃ ds, Fr.Digs ds ∧ hs = HiL ds ∧ ls = LoL ds ∧ 1 ≤ ds.length ∧ ds.length ≤ 6
theorem FrOk_of : ∀ (hs ls : List Int), hs.length = ls.length → (∀ (k : Nat) (h l : Int), hs[k]? = some h → ls[k]? = some l → 0 ≤ h ∧ h ≤ 1 ∧ 0 ≤ l ∧ l ≤ 4) → ∃ ds, Fr.Digs ds ∧ hs = HiL ds ∧ ls = LoL ds := by
 intro hs
 induction hs with
 | nil =>
  intro ls hl _
  cases ls with
  | nil => exact ⟨[], by simp [Fr.Digs], rfl, rfl⟩
  | cons => simp at hl
 | cons h hs ih =>
  intro ls hl hk
  cases ls with
  | nil => simp at hl
  | cons l ls =>
   obtain ⟨ds, h1, h2, h3⟩ := ih ls (by simpa using hl) (fun k a b ha hb => hk (k + 1) a b (by simpa using ha) (by simpa using hb))
   have := hk 0 h l rfl rfl
   refine ⟨(5 * h + l) :: ds, (Fr.digs_cons _ _).2 ⟨by omega, h1⟩, ?_, ?_⟩
   ·rw [HiL, List.map_cons, ← HiL, ← h2, show (5 * h + l) / 5 = h from by omega]
   ·rw [LoL, List.map_cons, ← LoL, ← h3, show (5 * h + l) % 5 = l from by omega]
theorem FrOk_of' {hs ls : List Int} {n : Nat} (h1 : hs.length = n) (h2 : ls.length = n) (h3 : 1 ≤ n) (h4 : n ≤ 6) (h : ∀ k : Nat, k < n → ∀ a b : Int, hs[k]? = some a → ls[k]? = some b → 0 ≤ a ∧ a ≤ 1 ∧ 0 ≤ b ∧ b ≤ 4) : FrOk hs ls := by
 obtain ⟨ds, a, b, c⟩ := FrOk_of hs ls (by omega) (fun k x y hx hy => h k (by have := (List.getElem?_eq_some_iff.1 hx).1; omega) x y hx hy)
 have : ds.length = n := by rw [← HiL_length, ← b, h1]
 exact ⟨ds, a, b, c, by omega, by omega⟩
def RodsAny (w : World) (g h n : Nat) : Prop :=
 w.heap[g]? = some (.cells #[.slice (some ⟨h, 0, none⟩) n n] 80 (0, 0)) ∧ ∃ cs : Array Value, cs.size = 2 * n ∧ w.heap[h]? = some (.cells cs 82 (0, 0))
theorem RodsAny.set_ {w : World} {g h n : Nat} (r : RodsAny w g h n) (hne : g ≠ h) (j k : Nat) (u v : Value) : RodsAny ((w.setCell ⟨h, j, none⟩ u).setCell ⟨h, k, none⟩ v) g h n := by
 obtain ⟨h1, cs, hs, h2⟩ := r
 refine ⟨(heap_setCell_other _ ⟨h, k, none⟩ g _ hne).trans ((heap_setCell_other _ ⟨h, j, none⟩ g _ hne).trans h1), _, ?_, heap_setCell_same _ h k _ _ v (heap_setCell_same w h j _ _ u h2)⟩
 simp [hs]
set_option maxRecDepth 100000 in
set_option maxHeartbeats 2000000 in
theorem rodsOf_no (A A' : Option Addr) (n m c c' : Nat) (hs ls : List Int) (w : World) (hx : Ints w w.heap.size A n hs) (hy : Ints w w.heap.size A' m ls) (hno : ¬ FrOk hs ls) :
  Calls Tryz.prog 62 #[.agg #[.slice A n c, .slice A' m c']] w fun e w' => e = .returned (.tuple #[.pointer none, .bool false]) ∧ Below w.heap.size w w' := by
 have hlx := hx.len
 have hly := hy.len
 have HX := Hd hx
 have HY := Hd hy
 have HN := Hd hno
 have HLX := Hd hlx
 have HLY := Hd hly
 clear hx hy hno hlx hly
 by_cases hnm : n = m
 ·subst hnm
  by_cases h16 : 1 ≤ n ∧ n ≤ 6
  ·obtain ⟨h1, h6⟩ := h16
   go_enter Tryz.func62, Tryz.ntmps62
   go_wp2_with (refine wpList_make_rods rfl _ _ rfl rfl rfl (by omega) ?_; intro w1 hm1 hg1)
   have hsz1 := hg1.size
   simp only [World.size_alloc] at hm1 hsz1
   have hlt1 := (Array.getElem?_eq_some_iff.1 hm1).1
   have HM1 := Hd hm1
   have HB1 := Hd (grown_below hg1 (by simp) (by simp) : Below (w.heap.size + 1) _ w1)
   clear hm1 hg1
   have hR0 : RodsAny (w1.alloc (.cells #[.slice (some ⟨w.heap.size + 1, 0, none⟩) n n] 80)) w1.heap.size (w.heap.size + 1) n := by
    refine ⟨heap_alloc_new _ _, _, ?_, (Below.heap_alloc _ _ _ (by omega)).trans HM1.out⟩
    simp [RC_length]
   have hX0 := ((FBox.new w (.slice A n c) (.slice A' n c')).keep (HB1.out.block w.heap.size (Nat.lt_succ_self _))).alloc (.cells #[.slice (some ⟨w.heap.size + 1, 0, none⟩) n n] 80)
   have hB0 := (((Below.refl w.heap.size w).alloc (Nat.le_refl _) (.cells #[.slice A n c, .slice A' n c'] 30)).trans (HB1.out.mono (Nat.le_succ _))).alloc (by omega) (.cells #[.slice (some ⟨w.heap.size + 1, 0, none⟩) n n] 80)
   have HR0 := Hd hR0
   have HX0 := Hd hX0
   have HB0 := Hd hB0
   clear hR0 hX0 hB0 HM1 HB1
   go_loopw [31] (fun i wr => ∃ k : Nat, k ≤ n ∧ i = .int .i64 (k : Int) ∧ FBox wr w.heap.size (.slice A n c) (.slice A' n c') ∧ RodsAny wr w1.heap.size (w.heap.size + 1) n ∧ Below w.heap.size w wr ∧ (∀ j, j < k → ∀ a b, hs[j]? = some a → ls[j]? = some b → 0 ≤ a ∧ a ≤ 1 ∧ 0 ≤ b ∧ b ≤ 4)) (fun i _ => n - (intOf i).toNat)
   case atStart => exact ⟨0, by omega, rfl, HX0.out, HR0.out, HB0.out, fun j hj => absurd hj (Nat.not_lt_zero j)⟩
   case round =>
    clear HX0 HR0 HB0
    obtain ⟨k, hk, rfl, hbox, hrods, hbel, hall⟩ := hrel
    have hsl := cell_of_row wr w1.heap.size 0 _ _ _ hrods.1
    simp only [List.getElem?_toArray, List.getElem?_cons_zero] at hsl
    have hb0 := hbox.fst
    have hb1 := hbox.snd
    have hszr := hbel.size
    have HBX := Hd hbox
    have HR := Hd hrods
    have HB := Hd hbel
    have HA := Hd hall
    clear hbox hrods hbel hall
    by_cases hlt : k < n
    ·obtain ⟨b2, off2, u2, rfl, hlb2, hu2, hc2⟩ := (HX.out.below HB.out).at_ hlt
     obtain ⟨b3, off3, u3, rfl, hlb3, hu3, hc3⟩ := (HY.out.below HB.out).at_ hlt
     obtain ⟨-, cs, hcs, hh⟩ := HR.out
     have hch := cell_of_row wr (w.heap.size + 1) (k * 2) _ _ _ hh
     have hcl := cell_of_row wr (w.heap.size + 1) (k * 2 + 1) _ _ _ hh
     rw [Array.getElem?_eq_getElem (by omega)] at hch hcl
     generalize cs[k * 2]'(by omega) = x2 at hch
     generalize cs[k * 2 + 1]'(by omega) = x3 at hcl
     have hf0 : wr.frozen? ⟨w.heap.size + 1, k * 2, none⟩ = false := by simp [World.frozen?, hh]
     have hf1 : wr.frozen? ⟨w.heap.size + 1, k * 2 + 1, none⟩ = false := by simp [World.frozen?, hh]
     have HU2 := Hd hu2
     have HU3 := Hd hu3
     clear hu2 hu3 hh hcs
     have k0 : (0 : Int) ≤ (k : Int) := by omega
     have k1 : (k : Int) < (n : Int) := by omega
     by_cases hgood : 0 ≤ u2 ∧ u2 ≤ 1 ∧ 0 ≤ u3 ∧ u3 ≤ 4
     ·obtain ⟨hi0, hi1, lo0, lo1⟩ := hgood
      go_wp2_with fail
      go_still_tail 14, (by kernel_rfl)
      change wpList _ _ _ _ _ wr.drew
      go_wp2
      go_roundw
      case rel =>
       refine ⟨k + 1, by omega, by go_num, HBX.out.keep ?_, ?_, ((HB.out.setCell (p := ⟨w.heap.size + 1, k * 2, none⟩) (by simp) _).setCell (p := ⟨w.heap.size + 1, k * 2 + 1, none⟩) (by simp) _).drew, ?_⟩
       ·exact (heap_setCell_other _ ⟨w.heap.size + 1, k * 2 + 1, none⟩ w.heap.size _ (by simp)).trans (heap_setCell_other _ ⟨w.heap.size + 1, k * 2, none⟩ w.heap.size _ (by simp))
       ·exact HR.out.set_ (by omega) _ _ _ _
       ·intro j hj a b ha hb
        rcases (show j < k ∨ j = k from by omega) with h | rfl
        ·exact HA.out j h a b ha hb
        ·rw [HU2.out] at ha
         rw [HU3.out] at hb
         injection ha with ha
         injection hb with hb
         subst ha
         subst hb
         exact ⟨hi0, hi1, lo0, lo1⟩
      case measure => simp [intOf]; omega
     ·rcases (show u2 < 0 ∨ (0 ≤ u2 ∧ 1 < u2) ∨ (0 ≤ u2 ∧ u2 ≤ 1 ∧ u3 < 0) ∨ (0 ≤ u2 ∧ u2 ≤ 1 ∧ 0 ≤ u3 ∧ 4 < u3) from by omega) with q1 | ⟨q1, q2⟩ | ⟨q1, q2, q3⟩ | ⟨q1, q2, q3, q4⟩
      all_goals
       clear hgood
       go_wp2_with fail
       go_still_tail 14, (by kernel_rfl)
       change wpList _ _ _ _ _ wr.drew
       go_wp2
       go_ret2
       exact ⟨rfl, ((HB.out.setCell (p := ⟨w.heap.size + 1, k * 2, none⟩) (by simp) _).setCell (p := ⟨w.heap.size + 1, k * 2 + 1, none⟩) (by simp) _).drew⟩
    ·exfalso
     obtain rfl : k = n := by omega
     exact HN.out (FrOk_of' HLX.out HLY.out h1 h6 HA.out)
  ·rcases (show n < 1 ∨ (1 ≤ n ∧ 6 < n) from by omega) with q1 | ⟨q1, q2⟩
   all_goals
    clear h16
    go_enter Tryz.func62, Tryz.ntmps62
    go_wp2
    go_ret2
    exact ⟨rfl, (Below.refl _ _).alloc (Nat.le_refl _) _⟩
 ·have hne : ((n : Int) != (m : Int)) = true := by simp; omega
  clear hnm
  go_enter Tryz.func62, Tryz.ntmps62
  go_wp2
  go_ret2
  exact ⟨rfl, (Below.refl _ _).alloc (Nat.le_refl _) _⟩
end Go.Proofs.YthdoofmfigemoaaGreatDoor
end
namespace Go.Proofs.YthdoofmfigemoaaGreatDoor
open Go.RowKit
def Apart (s t : Value) : Prop := ∀ k, t.ownBlock = some k → s.ownBlock ≠ some k
def FrOwn (w : World) (B : Nat) (v : Value) (ds : List Int) : Prop :=
 ∃ A c A' c', v = .agg #[.slice A ds.length c, .slice A' ds.length c'] ∧ Own w B A ds.length c (HiL ds) ∧ Own w B A' ds.length c' (LoL ds) ∧ Apart (.slice A ds.length c) (.slice A' ds.length c') ∧ Apart (.slice A' ds.length c') (.slice A ds.length c)
theorem run_make_ints (w : World) (n : Nat) (hn : n ≤ 1000) :
  (Instr.makeSlice 28 (.int .i64 (n : Int)) (.int .i64 (n : Int))).run Tryz.prog w = .ok (.slice (some ⟨w.heap.size, 0, none⟩) n n) (w.alloc (.cells (IV (List.replicate n 0)).toArray 3)) := by
 obtain ⟨i0, hi, hz0, hz1, hz2⟩ := info_parts own_int_info
 have hr := run_make (P := Tryz.prog) w 28 3 i0 (.int .i64 0) Tryz.underlying28 hi hz0 .i64 .i64 n n (by omega) (Int.le_refl _) (by rw [hz2]; omega) (by omega)
 simp only [Int.toNat_natCast] at hr
 rw [hr]
 have e : madeCells (Value.int .i64 0).cells (n * i0.size) = (IV (List.replicate n 0)).toArray := by
  rw [hz1, Nat.mul_one]
  apply Array.ext'
  exact (toList_madeCells_one _ _).trans (by simp [IV])
 rw [← e]
def FrNew (W : World) (bx hi lo n : Nat) (wx : World) : Prop :=
 FBox wx bx (.slice (some ⟨hi, 0, none⟩) n n) (.slice (some ⟨lo, 0, none⟩) n n) ∧ FBox wx W.heap.size (.slice none 0 0) (.slice none 0 0) ∧
 Own wx W.heap.size (some ⟨hi, 0, none⟩) n n (List.replicate n 0) ∧ Own wx W.heap.size (some ⟨lo, 0, none⟩) n n (List.replicate n 0) ∧
 hi ≠ lo ∧ bx ≠ hi ∧ bx ≠ lo ∧ W.heap.size < bx ∧ W.heap.size < hi ∧ W.heap.size < lo ∧ Below W.heap.size W wx
theorem heap_alloc_if (w : World) (o : Obj) (k : Nat) : (w.alloc o).heap[k]? = if k = w.heap.size then some o else w.heap[k]? := by
 by_cases h : k = w.heap.size
 ·subst h; rw [if_pos rfl]; exact heap_alloc_new w o
 ·rw [if_neg h]
  by_cases hk : k < w.heap.size
  ·exact Below.heap_alloc w o k hk
  ·rw [Array.getElem?_eq_none (by simp; omega), Array.getElem?_eq_none (by omega)]
theorem heap_drew (w : World) (k : Nat) : w.drew.heap[k]? = w.heap[k]? := rfl
theorem own_lit_at (w' : World) (us : List Int) (B n b : Nat) (hl : us.length = n) (hn : n ≤ 1099511627776) (hB : B ≤ b) (hb : w'.heap[b]? = some (.cells (IV us).toArray 3)) : Own w' B (some ⟨b, 0, none⟩) n n us := by
 refine ⟨⟨by simp [IV, hl], .inr ⟨b, n, (IV us).toArray, rfl, hB, hb, Nat.le_refl _, by unfold maxLen; omega, by simp [IV, hl], ?_⟩⟩, hn⟩
 rw [List.take_of_length_le (by simp [IV, hl])]
theorem apart_of {a b n m c d : Nat} (h : a ≠ b) : Apart (.slice (some ⟨a, 0, none⟩) n c) (.slice (some ⟨b, 0, none⟩) m d) := by
 rintro k e1 e2
 injection e1 with e1
 injection e2 with e2
 exact h (e2.trans e1.symm)
theorem fill_step {wr : World} {B hi lo n c c' k : Nat} {xs ys : List Int} (oh : Own wr B (some ⟨hi, 0, none⟩) n c xs) (ol : Own wr B (some ⟨lo, 0, none⟩) n c' ys) (hne : hi ≠ lo) (u v : Int) (o : Obj) :
  Own (((wr.setCell ⟨hi, k, none⟩ (.int .i64 u)).setCell ⟨lo, k, none⟩ (.int .i64 v)).alloc o) B (some ⟨hi, 0, none⟩) n c (xs.set k u) ∧ Own (((wr.setCell ⟨hi, k, none⟩ (.int .i64 u)).setCell ⟨lo, k, none⟩ (.int .i64 v)).alloc o) B (some ⟨lo, 0, none⟩) n c' (ys.set k v) := by
 have h1 := oh.store k u
 have h2 := (ol.kept h1.2 (by rintro j e1 e2; injection e1 with e1; injection e2 with e2; exact hne (e2.trans e1.symm))).store k v
 exact ⟨(h1.1.kept h2.2 (by rintro j e1 e2; injection e1 with e1; injection e2 with e2; exact hne (e1.trans e2.symm))).alloc o, h2.1.alloc o⟩
theorem FBox.set2 {w : World} {b : Nat} {u v : Value} (h : FBox w b u v) {p q : Addr} (h1 : b ≠ p.block) (h2 : b ≠ q.block) (x y : Value) : FBox ((w.setCell p x).setCell q y) b u v :=
 h.keep ((heap_setCell_other _ q b _ h2).trans (heap_setCell_other _ p b _ h1))
theorem frame_any (w : World) (B g h : Nat) (ds : List Int) (n : Nat) (hr : Rods w B g h ds) (hn : ds.length = n) (hds : Fr.Digs ds) (h6 : n ≤ 6) :
  Calls Tryz.prog 58 #[.pointer (some ⟨g, 0, none⟩)] w fun e w' => (∃ v, e = .returned v ∧ FrOwn w' w.heap.size v ds) ∧ Below w.heap.size w w' := by
 have hsl := hr.slice
 rw [hn] at hsl
 have hgl := hr.gl
 have hhl := hr.hl
 have HR := Hd hr
 have HD := Hd hds
 have HN := Hd hn
 clear hr hds hn
 go_enter Tryz.func58, Tryz.ntmps58
 go_upto_region 1 with fail
 go_cut [3] (fun s3 wx => ∃ bx hi lo : Nat, s3 = .pointer (some ⟨bx, 0, none⟩) ∧ FrNew w bx hi lo n wx)
 case first =>
  have hmk : ∀ v : World, (Instr.makeSlice 28 (.int .i64 (n : Int)) (.int .i64 (n : Int))).run Tryz.prog v = .ok (.slice (some ⟨v.heap.size, 0, none⟩) n n) (v.alloc (.cells (IV (List.replicate n 0)).toArray 3)) := fun v => run_make_ints v n (by omega)
  have g1 : g < w.heap.size + 1 := by omega
  have g2 : g < w.heap.size + 1 + 1 := by omega
  have g3 : g < w.heap.size + 1 + 1 + 1 := by omega
  have g4 : g < w.heap.size + 1 + 1 + 1 + 1 := by omega
  go_region
  all_goals clear hmk
  all_goals go_wp2_with fail
  all_goals go_meet
  all_goals (first
   | (refine ⟨w.heap.size + 1, w.heap.size + 1 + 1, w.heap.size + 1 + 1 + 1, rfl, ?_, ?_, own_lit_at _ _ _ _ _ (by simp) (by omega) (by omega) ?_, own_lit_at _ _ _ _ _ (by simp) (by omega) (by omega) ?_, by omega, by omega, by omega, by omega, by omega, by omega, ?_⟩; · (simp only [FBox, heap_drew, heap_alloc_if, World.size_alloc, if_true]; repeat (first | rw [if_pos (by omega)] | rw [if_neg (by omega)])))
   | (refine ⟨w.heap.size + 1, w.heap.size + 1 + 1 + 1, w.heap.size + 1 + 1, rfl, ?_, ?_, own_lit_at _ _ _ _ _ (by simp) (by omega) (by omega) ?_, own_lit_at _ _ _ _ _ (by simp) (by omega) (by omega) ?_, by omega, by omega, by omega, by omega, by omega, by omega, ?_⟩; · (simp only [FBox, heap_drew, heap_alloc_if, World.size_alloc, if_true]; repeat (first | rw [if_pos (by omega)] | rw [if_neg (by omega)])))
   | (refine ⟨w.heap.size + 1 + 1, w.heap.size + 1, w.heap.size + 1 + 1 + 1, rfl, ?_, ?_, own_lit_at _ _ _ _ _ (by simp) (by omega) (by omega) ?_, own_lit_at _ _ _ _ _ (by simp) (by omega) (by omega) ?_, by omega, by omega, by omega, by omega, by omega, by omega, ?_⟩; · (simp only [FBox, heap_drew, heap_alloc_if, World.size_alloc, if_true]; repeat (first | rw [if_pos (by omega)] | rw [if_neg (by omega)])))
   | (refine ⟨w.heap.size + 1 + 1, w.heap.size + 1 + 1 + 1, w.heap.size + 1, rfl, ?_, ?_, own_lit_at _ _ _ _ _ (by simp) (by omega) (by omega) ?_, own_lit_at _ _ _ _ _ (by simp) (by omega) (by omega) ?_, by omega, by omega, by omega, by omega, by omega, by omega, ?_⟩; · (simp only [FBox, heap_drew, heap_alloc_if, World.size_alloc, if_true]; repeat (first | rw [if_pos (by omega)] | rw [if_neg (by omega)])))
   | (refine ⟨w.heap.size + 1 + 1 + 1, w.heap.size + 1, w.heap.size + 1 + 1, rfl, ?_, ?_, own_lit_at _ _ _ _ _ (by simp) (by omega) (by omega) ?_, own_lit_at _ _ _ _ _ (by simp) (by omega) (by omega) ?_, by omega, by omega, by omega, by omega, by omega, by omega, ?_⟩; · (simp only [FBox, heap_drew, heap_alloc_if, World.size_alloc, if_true]; repeat (first | rw [if_pos (by omega)] | rw [if_neg (by omega)])))
   | (refine ⟨w.heap.size + 1 + 1 + 1, w.heap.size + 1 + 1, w.heap.size + 1, rfl, ?_, ?_, own_lit_at _ _ _ _ _ (by simp) (by omega) (by omega) ?_, own_lit_at _ _ _ _ _ (by simp) (by omega) (by omega) ?_, by omega, by omega, by omega, by omega, by omega, by omega, ?_⟩; · (simp only [FBox, heap_drew, heap_alloc_if, World.size_alloc, if_true]; repeat (first | rw [if_pos (by omega)] | rw [if_neg (by omega)]))))
  all_goals (first
   | exact ((((((Below.refl _ _).alloc (Nat.le_refl _) _).alloc (by simp) _).alloc (by simp; omega) _).alloc (by simp; omega) _)).drew
   | (simp only [FBox, heap_drew, heap_alloc_if, World.size_alloc, if_true]; repeat (first | rw [if_pos (by omega)] | rw [if_neg (by omega)])))
 case rest =>
  obtain ⟨bx, hi, lo, rfl, hbx, hb0, hoh, hol, d1, d2, d3, d4, d5, d6, hbel⟩ := hcut
  have HX0 := Hd hbx
  have HZ0 := Hd hb0
  have HH0 := Hd hoh
  have HL0 := Hd hol
  have HB0 := Hd hbel
  have hslc := ((HR.out.keep (hbel.block g hgl) (hbel.block h hhl)).slice)
  rw [HN.out] at hslc
  clear hbx hb0 hoh hol hbel hsl
  go_wp2
  go_loopw [21] (fun i wr => ∃ k : Nat, k ≤ n ∧ i = .int .i64 (k : Int) ∧ FBox wr bx (.slice (some ⟨hi, 0, none⟩) n n) (.slice (some ⟨lo, 0, none⟩) n n) ∧ FBox wr w.heap.size (.slice none 0 0) (.slice none 0 0) ∧ Own wr w.heap.size (some ⟨hi, 0, none⟩) n n ((HiL ds).take k ++ List.replicate (n - k) 0) ∧ Own wr w.heap.size (some ⟨lo, 0, none⟩) n n ((LoL ds).take k ++ List.replicate (n - k) 0) ∧ Below w.heap.size w wr) (fun i _ => n - (intOf i).toNat)
  case atStart => exact ⟨0, by omega, rfl, HX0.out, HZ0.out, by simpa using HH0.out, by simpa using HL0.out, HB0.out⟩
  case round =>
   clear HX0 HZ0 HH0 HL0 HB0 hslc
   obtain ⟨k, hk, rfl, hbx, hb0, hoh, hol, hbel⟩ := hrel
   have hbc := hbx.fst
   have hbd := hbx.snd
   have hz0 := hb0.fst
   have hz1 := hb0.snd
   have hbxl := hbx.lt
   have hzl := hb0.lt
   have hfz : ∀ j, wr.frozen? ⟨w.heap.size, j, none⟩ = false := fun j => by have := hb0; unfold FBox at this; simp [World.frozen?, this]
   have hf0 := hfz 0
   have hf1 := hfz 1
   have HX := Hd hbx
   have HZ := Hd hb0
   have HB := Hd hbel
   have hszr := hbel.size
   clear hbx hb0 hbel hfz
   by_cases hlt : k < n
   ·obtain ⟨d, hd⟩ : ∃ d, ds[k]? = some d := ⟨_, List.getElem?_eq_getElem (by have := HN.out; omega)⟩
    have hrr := HR.out.keep (HB.out.block g hgl) (HB.out.block h hhl)
    have hch := hrr.hi hd
    have hcl := hrr.lo hd
    have HDH := Hd (show (HiL ds)[k]? = some (d / 5) by simp [HiL, hd])
    have HDL := Hd (LoL_get hd)
    have hlh := HiL_length ds
    have hll := LoL_length ds
    rw [HN.out] at hlh hll
    obtain ⟨g7, e7, _, hil, hc7, hf7⟩ := hoh.at_ (by omega)
    obtain rfl : hi = g7 := by simpa using e7
    have hco := hc7 k 0 (fill_at hlt hlh)
    have hfo := hf7 k
    obtain ⟨g8, e8, _, lol, hc8, hf8⟩ := hol.at_ (by omega)
    obtain rfl : lo = g8 := by simpa using e8
    have hco' := hc8 k 0 (fill_at hlt hll)
    have hfo' := hf8 k
    have HOH := Hd hoh
    have HOL := Hd hol
    have HLH := Hd hlh
    have HLL := Hd hll
    clear hrr hd hc7 hf7 hc8 hf8 e7 e8 hoh hol hlh hll
    have k0 : (0 : Int) ≤ (k : Int) := by omega
    have k1 : (k : Int) < (n : Int) := by omega
    go_wp2
    go_roundw
    case rel =>
     obtain ⟨f1, f2⟩ := fill_step (k := k) HOH.out HOL.out d1 (d / 5) (d % 5) (.cells #[.int .i64 (d / 5), .int .i64 (d % 5)] 82)
     rw [fill_next hlt HLH.out HDH.out] at f1
     rw [fill_next hlt HLL.out HDL.out] at f2
     exact ⟨k + 1, by omega, by go_num, (HX.out.set2 d2 d3 _ _).alloc _, (HZ.out.set2 (by show w.heap.size ≠ hi; omega) (by show w.heap.size ≠ lo; omega) _ _).alloc _, f1, f2, (((HB.out.setCell (p := ⟨hi, k, none⟩) (by show w.heap.size ≤ hi; omega) _).setCell (p := ⟨lo, k, none⟩) (by show w.heap.size ≤ lo; omega) _).alloc (by simp; omega) _)⟩
    case measure => simp [intOf]; omega
   ·have HOH := Hd hoh
    have HOL := Hd hol
    clear hoh hol
    go_wp2
    obtain rfl : k = n := by omega
    have oh := HOH.out
    have ol := HOL.out
    rw [Nat.sub_self, List.replicate_zero, List.append_nil, List.take_of_length_le (by rw [HiL_length]; have := HN.out; omega)] at oh
    rw [Nat.sub_self, List.replicate_zero, List.append_nil, List.take_of_length_le (by rw [LoL_length]; have := HN.out; omega)] at ol
    have hg := (grown_set (w := wr) w.heap.size 0 (.slice (some ⟨hi, 0, none⟩) k k)).trans (grown_set w.heap.size 1 (.slice (some ⟨lo, 0, none⟩) k k))
    have oh2 := oh.kept hg (by rintro j e1 e2; injection e1 with e1; injection e2 with e2; subst e1; simp only at e2; omega)
    have ol2 := ol.kept hg (by rintro j e1 e2; injection e1 with e1; injection e2 with e2; subst e1; simp only at e2; omega)
    have hn := HN.out
    refine bodyPost_ret (v := .agg #[.slice (some ⟨hi, 0, none⟩) k k, .slice (some ⟨lo, 0, none⟩) k k]) (by simp [results, Tryz.results58, go_sem, World.cell?_setCell_same _ _ _ hz0, World.cell?_setCell_same _ _ _ ((World.cell?_setCell_other wr ⟨w.heap.size, 0, none⟩ ⟨w.heap.size, 1, none⟩ (.slice (some ⟨hi, 0, none⟩) k k) (by simp)).trans hz1)]) rfl ⟨⟨_, rfl, ?_⟩, ?_⟩
    ·subst hn
     exact ⟨_, _, _, _, rfl, oh2, ol2, apart_of d1, apart_of (Ne.symm d1)⟩
    ·exact (HB.out.setCell (p := ⟨w.heap.size, 0, none⟩) (Nat.le_refl _) _).setCell (p := ⟨w.heap.size, 1, none⟩) (Nat.le_refl _) _
def resL (R : Option (List Int × Int)) : List Int := match R with | some p => p.1 | none => []
def resN (R : Option (List Int × Int)) : Int := match R with | some p => p.2 | none => 0
def FrRes (w : World) (R : Option (List Int × Int)) (e : Ending) (w' : World) : Prop :=
 (∃ v, e = .returned (.tuple #[v, .int .i64 (resN R), .bool R.isSome]) ∧ FrOwn w' w.heap.size v (resL R)) ∧ Below w.heap.size w w'
theorem FrOwn.nil (w : World) (B : Nat) : FrOwn w B (.agg #[.slice none 0 0, .slice none 0 0]) [] :=
 ⟨none, 0, none, 0, rfl, Own.nil _ _, Own.nil _ _, (fun k hk => by cases hk), (fun k hk => by cases hk)⟩
theorem FrOwn.keep {w w' : World} {B : Nat} {v : Value} {ds : List Int} (h : FrOwn w B v ds) (hb : Below w.heap.size w w') : FrOwn w' B v ds := by
 obtain ⟨A, c, A', c', h1, h2, h3, h4, h5⟩ := h
 exact ⟨A, c, A', c', h1, h2.next hb, h3.next hb, h4, h5⟩
theorem FrOwn.mono {w : World} {B B' : Nat} {v : Value} {ds : List Int} (h : FrOwn w B v ds) (hB : B' ≤ B) : FrOwn w B' v ds := by
 obtain ⟨A, c, A', c', h1, h2, h3, h4, h5⟩ := h
 exact ⟨A, c, A', c', h1, h2.mono hB, h3.mono hB, h4, h5⟩
theorem FrOwn.row {w w' : World} {B : Nat} {v : Value} {ds : List Int} (h : FrOwn w B v ds) {r : Nat} (hg : w.grownBy w' (some r)) (hr : r < B) : FrOwn w' B v ds := by
 obtain ⟨A, c, A', c', h1, h2, h3, h4, h5⟩ := h
 exact ⟨A, c, A', c', h1, h2.kept hg (fun k hk e => by have := (h2.blk k hk).1; injection e; omega), h3.kept hg (fun k hk e => by have := (h3.blk k hk).1; injection e; omega), h4, h5⟩
def frAt (s : Int) (ds : List Int) (k x : Int) : Option (List Int × Int) := if 0 ≤ k ∧ k < ds.length ∧ 0 ≤ x ∧ x ≤ 9 then chgAt s ds k.toNat x else none
theorem frAt_out (s : Int) (ds : List Int) (k x : Int) (h : ¬ (0 ≤ k ∧ k < ds.length ∧ 0 ≤ x ∧ x ≤ 9)) : frAt s ds k x = none := if_neg h
theorem frAt_in (s : Int) (ds : List Int) (j : Nat) (x : Int) (h1 : j < ds.length) (h2 : 0 ≤ x) (h3 : x ≤ 9) : frAt s ds (j : Int) x = chgAt s ds j x := if_pos ⟨by omega, by omega, h2, h3⟩
theorem FrRes.none_ {w w' : World} (hb : Below w.heap.size w w') : FrRes w none (.returned (.tuple #[.agg #[.slice none 0 0, .slice none 0 0], .int .i64 0, .bool false])) w' := ⟨⟨_, rfl, FrOwn.nil _ _⟩, hb⟩
theorem FBox.over {w : World} {b : Nat} {u v : Value} (h : FBox w b u v) (x y : Value) : FBox ((w.setCell ⟨b, 0, none⟩ x).setCell ⟨b, 1, none⟩ y) b x y := by
 have e1 := heap_setCell_same w b 0 _ _ x h
 have e2 := heap_setCell_same _ b 1 _ _ y e1
 unfold FBox
 rw [e2]
 simp
theorem FBox.free {w : World} {b : Nat} {u v : Value} (h : FBox w b u v) (j : Nat) : w.frozen? ⟨b, j, none⟩ = false := by
 unfold FBox at h
 simp [World.frozen?, h]
theorem over_fst {w : World} {b : Nat} {u v : Value} (h : FBox w b u v) : ∀ x, (w.setCell ⟨b, 0, none⟩ x).cell? ⟨b, 0, none⟩ = some x := fun _ => World.cell?_setCell_same _ _ _ h.fst
theorem over_snd {w : World} {b : Nat} {u v : Value} (h : FBox w b u v) : ∀ x y, ((w.setCell ⟨b, 0, none⟩ x).setCell ⟨b, 1, none⟩ y).cell? ⟨b, 1, none⟩ = some y :=
 fun x _ => World.cell?_setCell_same _ _ _ ((World.cell?_setCell_other w ⟨b, 0, none⟩ ⟨b, 1, none⟩ x (by simp)).trans h.snd)
theorem Ints.al {w : World} {n : Nat} {A : Option Addr} {xs : List Int} (h : Ints w w.heap.size A n xs) (o : Obj) : Ints (w.alloc o) (w.alloc o).heap.size A n xs := h.next ((Below.refl _ _).alloc (Nat.le_refl _) o)
theorem below_two (w : World) (o p : Obj) : Below w.heap.size w ((w.alloc o).alloc p) := ((Below.refl _ _).alloc (Nat.le_refl _) o).alloc (by simp) p
theorem below_over {w0 w : World} {b B : Nat} (h : Below B w0 w) (hb : B ≤ b) (x y : Value) : Below B w0 ((w.setCell ⟨b, 0, none⟩ x).setCell ⟨b, 1, none⟩ y) :=
 (h.setCell (p := ⟨b, 0, none⟩) hb x).setCell (p := ⟨b, 1, none⟩) hb y
theorem FrOwn.over {w : World} {b B : Nat} {v : Value} {ds : List Int} (h : FrOwn w B v ds) (hb : b < B) (x y : Value) : FrOwn ((w.setCell ⟨b, 0, none⟩ x).setCell ⟨b, 1, none⟩ y) B v ds :=
 (h.row (grown_set b 0 x) hb).row (grown_set b 1 y) hb
def frOf (hs ls : List Int) (f : List Int → Option (List Int × Int)) (R : Option (List Int × Int)) : Prop :=
 (¬ FrOk hs ls ∧ R = none) ∨ ∃ ds, Fr.Digs ds ∧ hs = HiL ds ∧ ls = LoL ds ∧ 1 ≤ ds.length ∧ ds.length ≤ 6 ∧ R = f ds
theorem ten_bd (n : Nat) (h : n ≤ 6) : 1 ≤ Fr.ten n ∧ Fr.ten n ≤ 1000000 := by
 have hn : n = 0 ∨ n = 1 ∨ n = 2 ∨ n = 3 ∨ n = 4 ∨ n = 5 ∨ n = 6 := by omega
 rcases hn with rfl | rfl | rfl | rfl | rfl | rfl | rfl <;> decide
theorem powerOfTen_any (n : Nat) (w : World) (hn : n ≤ 6) : Calls Tryz.prog 56 #[.int .i64 (n : Int)] w fun e w' => e = .returned (.int .i64 (Fr.ten n)) ∧ w = w' := by
 go_enter Tryz.func56, Tryz.ntmps56
 go_wp2
 go_loop [0, 3] (fun nv pv => ∃ (j : Nat) (p : Int), j ≤ n ∧ nv = .int .i64 (j : Int) ∧ pv = .int .i64 p ∧ p = Fr.ten (n - j)) (fun nv _ => (intOf nv).toNat)
 case atStart => exact ⟨n, 1, by omega, rfl, rfl, by rw [Nat.sub_self]; rfl⟩
 case round =>
  obtain ⟨j, p, hj, rfl, rfl, hp⟩ := hrel
  have hb := ten_bd (n - j) (by omega)
  rw [← hp] at hb
  obtain ⟨p0, p1⟩ := hb
  have HP := Hd hp
  clear hp
  by_cases h0 : 0 < j
  ·go_wp2
   go_round
   case rel =>
    refine ⟨j - 1, p * 10, by omega, ?_, by go_num, ?_⟩
    ·go_num
    ·rw [show n - (j - 1) = n - j + 1 from by omega, Fr.ten_succ, ← HP.out]; omega
   case measure => simp [intOf]; omega
  ·obtain rfl : j = 0 := by omega
   go_wp2
   go_ret
   exact ⟨ret_int (by rw [HP.out, Nat.sub_zero]), rfl⟩
def frIs {α : Type} (hs ls : List Int) (f : List Int → α) (z R : α) : Prop :=
 (¬ FrOk hs ls ∧ R = z) ∨ ∃ ds, Fr.Digs ds ∧ hs = HiL ds ∧ ls = LoL ds ∧ 1 ≤ ds.length ∧ ds.length ≤ 6 ∧ R = f ds
def digAt (ds : List Int) (k : Int) : Int := if 0 ≤ k ∧ k < ds.length then ds.getD k.toNat 0 else -1
theorem digAt_out {ds : List Int} {k : Int} (h : ¬ (0 ≤ k ∧ k < ds.length)) : digAt ds k = -1 := if_neg h
theorem digAt_in {ds : List Int} {j : Nat} {d : Int} (h : ds[j]? = some d) : digAt ds (j : Int) = d := by
 have := (List.getElem?_eq_some_iff.1 h).1
 rw [digAt, if_pos ⟨by omega, by omega⟩, Int.toNat_natCast, List.getD_eq_getElem?_getD, h]; rfl
theorem digs_drop {ds : List Int} (h : Fr.Digs ds) (k : Nat) : Fr.Digs (ds.drop k) := fun d hd => h d (List.mem_of_mem_drop hd)
def FrPair (w : World) (ok : Bool) (ds : List Int) (e : Ending) (w' : World) : Prop :=
 (∃ v, e = .returned (.tuple #[v, .bool ok]) ∧ FrOwn w' w.heap.size v (if ok then ds else [])) ∧ Below w.heap.size w w'
theorem fr_l3Digit_is {x : Int} {r : Bool} (h : (decide (0 ≤ x) && decide (x ≤ 9)) = r) (w : World) : Calls Tryz.prog 228 #[.int .i64 x] w fun e w' => e = .returned (.bool r) ∧ w = w' := by
 have H := Hd h
 clear h
 go_enter Tryz.func228, Tryz.ntmps228
 go_wp2_with fail
 refine (l6In_is H.out _).mono ?_
 rintro e w' ⟨rfl, rfl⟩
 go_wp2
 go_ret
 exact ⟨rfl, rfl⟩
theorem l5Pushes_any (a b : Int) (w : World) (a0 : 0 ≤ a) (a9 : a ≤ 9) (b0 : 0 ≤ b) (b9 : b ≤ 9) : Calls Tryz.prog 229 #[.int .i64 a, .int .i64 b] w fun e w' => e = .returned (.int .i64 (Fr.cost a b)) ∧ w = w' := by
 have e0 : Fr.cost a b = (if a / 5 = b / 5 then 0 else 1) + (if a % 5 = b % 5 then 0 else 1) := rfl
 obtain ⟨r, hr⟩ : ∃ r : Int, (if a / 5 = b / 5 then 0 else 1) = r := ⟨_, rfl⟩
 obtain ⟨s, hs⟩ : ∃ r : Int, (if a % 5 = b % 5 then 0 else 1) = r := ⟨_, rfl⟩
 rw [e0, hr, hs]
 have e1 : ∀ x y : Int, (x != y) = false → (if x = y then (0 : Int) else 1) = 0 := by intro x y h; rw [if_pos (by simpa using h)]
 have e2 : ∀ x y : Int, (x != y) = true → (if x = y then (0 : Int) else 1) = 1 := by intro x y h; rw [if_neg (by simpa using h)]
 rcases hac : (a / 5 != b / 5) with _ | _ <;> rcases hbd : (a % 5 != b % 5) with _ | _
 all_goals
  first | rw [e1 _ _ hac] at hr | rw [e2 _ _ hac] at hr
  first | rw [e1 _ _ hbd] at hs | rw [e2 _ _ hbd] at hs
  subst hr
  subst hs
  clear e1 e2 e0
  go_enter Tryz.func229, Tryz.ntmps229
  go_wp2
  go_ret
  exact ⟨rfl, rfl⟩
theorem l5Ten_any (n : Nat) (w : World) (hn : n ≤ 6) : Calls Tryz.prog 55 #[.int .i64 (n : Int)] w fun e w' => e = .returned (.int .i64 (Fr.ten n)) ∧ w = w' := by
 go_enter Tryz.func55, Tryz.ntmps55
 go_wp2
 go_loop [3, 4] (fun pv iv => ∃ (j : Nat) (p : Int), j ≤ n ∧ iv = .int .i64 (j : Int) ∧ pv = .int .i64 p ∧ p = Fr.ten j) (fun _ iv => n - (intOf iv).toNat)
 case atStart => exact ⟨0, 1, by omega, rfl, rfl, rfl⟩
 case round =>
  obtain ⟨j, p, hj, rfl, rfl, hp⟩ := hrel
  have hb := ten_bd j (by omega)
  rw [← hp] at hb
  obtain ⟨p0, p1⟩ := hb
  have HP := Hd hp
  clear hp
  by_cases h0 : j < n
  ·go_wp2
   go_round
   case rel => exact ⟨j + 1, 10 * p, by omega, by go_num, by go_num, by rw [Fr.ten_succ, ← HP.out]⟩
   case measure => simp [intOf]; omega
  ·obtain rfl : j = n := by omega
   go_wp2
   go_ret
   exact ⟨ret_int HP.out, rfl⟩
theorem specFrameValid_yes (A A' : Option Addr) (n c c' : Nat) (ds : List Int) (w : World) (hx : Ints w w.heap.size A n (HiL ds)) (hy : Ints w w.heap.size A' n (LoL ds)) (hds : Fr.Digs ds) (h1 : 1 ≤ n) (h6 : n ≤ 6) :
  Calls Tryz.prog 209 #[.agg #[.slice A n c, .slice A' n c']] w fun e w' => e = .returned (.bool true) ∧ Below w.heap.size w w' := by
 have HX := Hd hx
 have HY := Hd hy
 have HD := Hd hds
 have hb0 := FBox.new w (.slice A n c) (.slice A' n c')
 have HB := Hd ((Below.refl w.heap.size w).alloc (Nat.le_refl _) (.cells #[.slice A n c, .slice A' n c'] 30))
 clear hx hy hds hb0
 go_enter Tryz.func209, Tryz.ntmps209
 go_wp2_with fail
 refine (l6In_yes (by omega) (by omega) _).mono ?_
 rintro e w' ⟨rfl, rfl⟩
 go_wp2_with fail
 go_loop [4] (fun iv => ∃ (j : Nat), j ≤ n ∧ iv = .int .i64 (j : Int)) (fun iv => n - (intOf iv).toNat)
 case atStart => exact ⟨0, by omega, rfl⟩
 case round =>
  obtain ⟨j, hj, rfl⟩ := hrel
  by_cases hlt : j < n
  ·obtain ⟨b2, off2, u2, rfl, hlb2, hu2, hc2⟩ := (HX.out.al (.cells #[.slice A n c, .slice A' n c'] 30)).at_ hlt
   obtain ⟨d, hd, rfl⟩ := HiL_get hu2
   obtain ⟨b3, off3, u3, rfl, hlb3, hu3, hc3⟩ := (HY.out.al (.cells #[.slice (some ⟨b2, off2, none⟩) n c, .slice A' n c'] 30)).at_ hlt
   rw [LoL_get hd] at hu3
   obtain rfl : d % 5 = u3 := by simpa using hu3
   obtain ⟨d0, d9⟩ := HD.out d (List.mem_of_getElem? hd)
   clear hu2 hu3 hd
   go_wp2_with fail
   refine (l6In_yes (by omega) (by omega) _).mono ?_
   rintro e w' ⟨rfl, rfl⟩
   go_wp2_with fail
   refine (l6In_yes (by omega) (by omega) _).mono ?_
   rintro e w' ⟨rfl, rfl⟩
   go_wp2
   go_round
   case rel => exact ⟨j + 1, by omega, by go_num⟩
   case measure => simp [intOf]; omega
  ·go_wp2
   go_ret
   exact ⟨rfl, HB.out⟩
theorem specFrameValid_no (A A' : Option Addr) (n m c c' : Nat) (hs ls : List Int) (w : World) (hx : Ints w w.heap.size A n hs) (hy : Ints w w.heap.size A' m ls) (hno : ¬ FrOk hs ls) :
  Calls Tryz.prog 209 #[.agg #[.slice A n c, .slice A' m c']] w fun e w' => e = .returned (.bool false) ∧ Below w.heap.size w w' := by
 have hlx := hx.len
 have hly := hy.len
 have hbd := hx.bound
 have HX := Hd hx
 have HY := Hd hy
 have HN := Hd hno
 have HLX := Hd hlx
 have HLY := Hd hly
 have HB := Hd ((Below.refl w.heap.size w).alloc (Nat.le_refl _) (.cells #[.slice A n c, .slice A' m c'] 30))
 clear hx hy hno hlx hly
 by_cases h16 : 1 ≤ n ∧ n ≤ 6
 ·obtain ⟨h1, h6⟩ := h16
  by_cases hnm : n = m
  ·subst hnm
   go_enter Tryz.func209, Tryz.ntmps209
   go_wp2_with fail
   refine (l6In_yes (by omega) (by omega) _).mono ?_
   rintro e w' ⟨rfl, rfl⟩
   go_wp2_with fail
   go_loop [4] (fun iv => ∃ (j : Nat), j ≤ n ∧ iv = .int .i64 (j : Int) ∧ Hid (∀ i : Nat, i < j → ∀ a b : Int, hs[i]? = some a → ls[i]? = some b → 0 ≤ a ∧ a ≤ 1 ∧ 0 ≤ b ∧ b ≤ 4)) (fun iv => n - (intOf iv).toNat)
   case atStart => exact ⟨0, by omega, rfl, Hd (fun i hi => absurd hi (Nat.not_lt_zero i))⟩
   case round =>
    obtain ⟨j, hj, rfl, HA⟩ := hrel
    by_cases hlt : j < n
    ·obtain ⟨b2, off2, u2, rfl, hlb2, hu2, hc2⟩ := (HX.out.al (.cells #[.slice A n c, .slice A' n c'] 30)).at_ hlt
     obtain ⟨b3, off3, u3, rfl, hlb3, hu3, hc3⟩ := (HY.out.al (.cells #[.slice (some ⟨b2, off2, none⟩) n c, .slice A' n c'] 30)).at_ hlt
     have HU2 := Hd hu2
     have HU3 := Hd hu3
     clear hu2 hu3
     by_cases hh : 0 ≤ u2 ∧ u2 ≤ 1
     ·obtain ⟨hi0, hi1⟩ := hh
      by_cases hl : 0 ≤ u3 ∧ u3 ≤ 4
      ·obtain ⟨lo0, lo1⟩ := hl
       go_wp2_with fail
       refine (l6In_yes (by omega) (by omega) _).mono ?_
       rintro e w' ⟨rfl, rfl⟩
       go_wp2_with fail
       refine (l6In_yes (by omega) (by omega) _).mono ?_
       rintro e w' ⟨rfl, rfl⟩
       go_wp2
       go_round
       case rel =>
        refine ⟨j + 1, by omega, by go_num, Hd fun i hi a b ha hb => ?_⟩
        rcases (show i < j ∨ i = j from by omega) with h | rfl
        ·exact HA.out i h a b ha hb
        ·rw [HU2.out] at ha
         rw [HU3.out] at hb
         injection ha with ha
         injection hb with hb
         subst ha
         subst hb
         exact ⟨hi0, hi1, lo0, lo1⟩
       case measure => simp [intOf]; omega
      ·go_wp2_with fail
       refine (l6In_yes (by omega) (by omega) _).mono ?_
       rintro e w' ⟨rfl, rfl⟩
       go_wp2_with fail
       refine (l6In_no (by omega) _).mono ?_
       rintro e w' ⟨rfl, rfl⟩
       go_wp2
       go_ret
       exact ⟨rfl, HB.out⟩
     ·go_wp2_with fail
      refine (l6In_no (by omega) _).mono ?_
      rintro e w' ⟨rfl, rfl⟩
      go_wp2
      go_ret
      exact ⟨rfl, HB.out⟩
    ·exfalso
     obtain rfl : j = n := by omega
     exact HN.out (FrOk_of' HLX.out HLY.out h1 h6 HA.out)
  ·have hne : ((m : Int) != (n : Int)) = true := by simp; omega
   clear hnm
   go_enter Tryz.func209, Tryz.ntmps209
   go_wp2_with fail
   refine (l6In_yes (by omega) (by omega) _).mono ?_
   rintro e w' ⟨rfl, rfl⟩
   go_wp2
   go_ret
   exact ⟨rfl, HB.out⟩
 ·go_enter Tryz.func209, Tryz.ntmps209
  go_wp2_with fail
  refine (l6In_no (by omega) _).mono ?_
  rintro e w' ⟨rfl, rfl⟩
  go_wp2
  go_ret
  exact ⟨rfl, HB.out⟩
theorem specFrameDigit_any (A A' : Option Addr) (n m c c' : Nat) (hs ls : List Int) (k R : Int) (w : World) (hx : Ints w w.heap.size A n hs) (hy : Ints w w.heap.size A' m ls) (hR : frIs hs ls (fun ds => digAt ds k) (-1) R) :
  Calls Tryz.prog 211 #[.agg #[.slice A n c, .slice A' m c'], .int .i64 k] w fun e w' => e = .returned (.int .i64 R) ∧ Below w.heap.size w w' := by
 rcases hR with ⟨hno, rfl⟩ | ⟨ds, hds, rfl, rfl, h1, h6, rfl⟩
 ·have HX := Hd hx
  have HY := Hd hy
  have HN := Hd hno
  clear hx hy hno
  go_enter Tryz.func211, Tryz.ntmps211
  go_wp2_with fail
  refine (specFrameValid_no A A' n m c c' hs ls _ (HX.out.al _) (HY.out.al _) HN.out).mono ?_
  rintro e w1 ⟨rfl, hb1⟩
  have HB := Hd (((Below.refl w.heap.size w).alloc (Nat.le_refl _) _).trans (hb1.mono (by simp)))
  clear hb1
  go_wp2
  go_ret
  exact ⟨rfl, HB.out⟩
 ·obtain rfl : ds.length = n := by have := hx.len; rwa [HiL_length] at this
  obtain rfl : ds.length = m := by have := hy.len; rwa [LoL_length] at this
  have HX := Hd hx
  have HY := Hd hy
  have HD := Hd hds
  obtain ⟨n, hn⟩ : ∃ n, ds.length = n := ⟨_, rfl⟩
  rw [hn] at h1 h6
  obtain ⟨R, hR⟩ : ∃ R, digAt ds k = R := ⟨_, rfl⟩
  show Calls _ _ _ _ fun e w' => e = .returned (.int .i64 (digAt ds k)) ∧ Below w.heap.size w w'
  rw [hR, hn]
  rw [hn] at HX HY
  have HN := Hd hn
  have HE := Hd hR
  clear hx hy hds hn hR
  go_enter Tryz.func211, Tryz.ntmps211
  go_wp2_with fail
  refine (specFrameValid_yes A A' n c c' ds _ (HX.out.al _) (HY.out.al _) HD.out h1 h6).mono ?_
  rintro e w1 ⟨rfl, hb1⟩
  have hbx := (FBox.new w (.slice A n c) (.slice A' n c')).next hb1
  have hb0 := hbx.fst
  have hb2 := hbx.snd
  have HX1 := Hd ((HX.out.al _).next hb1)
  have HY1 := Hd ((HY.out.al _).next hb1)
  have HB := Hd (((Below.refl w.heap.size w).alloc (Nat.le_refl _) _).trans (hb1.mono (by simp)))
  clear hb1 hbx
  by_cases hk : 0 ≤ k ∧ k < (n : Int)
  ·obtain ⟨k0, k1⟩ := hk
   obtain ⟨j, rfl⟩ := Int.eq_ofNat_of_zero_le k0
   obtain ⟨b2, off2, u2, rfl, hlb2, hu2, hc2⟩ := HX1.out.at_ (k := j) (by omega)
   obtain ⟨d, hd, rfl⟩ := HiL_get hu2
   obtain ⟨b3, off3, u3, rfl, hlb3, hu3, hc3⟩ := HY1.out.at_ (k := j) (by omega)
   rw [LoL_get hd] at hu3
   obtain rfl : d % 5 = u3 := by simpa using hu3
   obtain ⟨d0, d9⟩ := HD.out d (List.mem_of_getElem? hd)
   have he := HE.out
   rw [digAt_in hd] at he
   subst he
   have p0 : 0 ≤ d / 5 ∧ d / 5 ≤ 1 := by omega
   have p1 : 0 ≤ d % 5 ∧ d % 5 ≤ 4 := by omega
   have e0 : 5 * (d / 5) + d % 5 = d := by omega
   obtain ⟨u, hu⟩ : ∃ u, d / 5 = u := ⟨_, rfl⟩
   obtain ⟨v, hv⟩ : ∃ v, d % 5 = v := ⟨_, rfl⟩
   rw [hu] at p0 hc2 e0
   rw [hv] at p1 hc3 e0
   obtain ⟨p00, p01⟩ := p0
   obtain ⟨p10, p11⟩ := p1
   have HE0 := Hd e0
   clear hu hv e0 hu2 hu3 hd HE d0 d9
   have s1 : IntKind.i64.wrap (5 * u) = 5 * u := IntWalk.i64_in _ (by omega)
   have s2 : IntKind.i64.wrap (5 * u + v) = 5 * u + v := IntWalk.i64_in _ (by omega)
   go_wp2_with fail
   refine (l6In_yes (by omega) (by omega) _).mono ?_
   rintro e w' ⟨rfl, rfl⟩
   go_wp2_with fail
   go_quiet (fail)
   go_wp2
   go_ret
   exact ⟨ret_int HE0.out, below_drewN HB.out _⟩
  ·have he := HE.out
   rw [digAt_out (by rw [HN.out]; exact hk)] at he
   subst he
   go_wp2_with fail
   refine (l6In_no (by omega) _).mono ?_
   rintro e w' ⟨rfl, rfl⟩
   go_wp2
   go_ret
   exact ⟨rfl, HB.out⟩
end Go.Proofs.YthdoofmfigemoaaGreatDoor
