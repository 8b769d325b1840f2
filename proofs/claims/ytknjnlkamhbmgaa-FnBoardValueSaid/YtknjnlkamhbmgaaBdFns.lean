/-
  What the program's functions on boards give back, for every list.
-/
import Derived.Test.YtknjnlkamhbmgaaBdRed
namespace Go.Proofs.Ytknjnlkamhbmgaa
open Go.RowKit

theorem setRow_alloc (w : World) (o : Array Value) (t : TypeId) (cs : Array Value) : (w.alloc (.cells o t)).setRow w.heap.size cs = w.alloc (.cells cs t) := by
  have e : ∀ x, w.alloc x = ({ w with heap := w.heap.push x } : World) := fun _ => rfl
  rw [e, e]
  unfold World.setRow
  simp only []
  congr 1
  apply Array.ext
  · simp
  · intro k h1 h2
    simp only [Array.getElem_modify]
    by_cases hk : w.heap.size = k
    · subst hk; simp
    · have hlt : k < w.heap.size := by simp at h2; omega
      simp [hk, Array.getElem_push, hlt]

/-- the array read whole, in an operation that is guarded and carried out -/
theorem wpList_load_ten_want {ops : Array Oper} {rest : List Oper} {o : Oper} {a : Act} {w : World} {Q : Exit → Act → World → Prop} (hw : Region.wanted o (yielded ops a.tmps) = true) (x : Operand)
    (ho : o.op = .load 43 x) (g : Nat) (hx : a.eval x = .pointer (some ⟨g, 0, none⟩)) (t : TypeId) (xs : List Int) (fr : Nat × Nat)
    (hg : w.heap[g]? = some (.cells (AV xs) t fr)) (hl : xs.length = 10)
    (h : wpList Try.prog ops Q rest (a.put o.dst (.agg (AV xs))) w) : wpList Try.prog ops Q (o :: rest) a w :=
  BigFrame.wpList_want hw fun _ hK => wp_load_row _ x ho g hx t (AV xs) fr _ hg Try.underlying43 rfl (by rw [AV_size, hl]; exact ten_info) (hK _ _ h)

theorem layOut_yes {A : Option Addr} {n c : Nat} {xs : List Int} {w : World} (hx : Ints w w.heap.size A n xs) (hok : Bd.okB xs = true) :
    Calls Try.prog 57 #[.slice A n c] w fun e w' => e = .returned (.tuple #[.agg (AV xs), .bool true]) ∧ Below w.heap.size w w' := by
  have h := layOut_any A n c xs w hx
  rw [hok] at h
  exact h
theorem layOut_no {A : Option Addr} {n c : Nat} {xs : List Int} {w : World} (hx : Ints w w.heap.size A n xs) (hok : Bd.okB xs = false) :
    Calls Try.prog 57 #[.slice A n c] w fun e w' => e = .returned (.tuple #[.agg (AV z10), .bool false]) ∧ Below w.heap.size w w' := by
  have h := layOut_any A n c xs w hx
  rw [hok] at h
  exact h


set_option maxRecDepth 100000 in
set_option maxHeartbeats 400000 in
theorem BoardValue_any (A : Option Addr) (n c : Nat) (xs : List Int) (w : World) (hx : Ints w w.heap.size A n xs) :
    Calls Try.prog 19 #[.slice A n c] w fun e w' => e = .returned (.int .i64 (bVal xs)) ∧ Below w.heap.size w w' := by
  have hx' := Lib.hid hx
  rcases hok : Bd.okB xs with _ | _
  · have hv : bVal xs = -1 := by simp [bVal, hok]
    have HV := Lib.hid hv
    have HOK := Lib.hid hok
    clear hv hok hx
    go_enter Try.func19, Try.ntmps19
    go_wp2_with (first
      | (go_at_call 57; refine (layOut_no hx'.out HOK.out).mono ?_; rintro e w1 ⟨rfl, hb1⟩)
      | (refine wpList_store_ten rfl rfl _ _ rfl w1.heap.size rfl 43 (AV z10) z10 rfl (heap_alloc_new w1 _) rfl rfl _ (setRow_alloc w1 _ _ _) ?_))
    go_ret
    exact ⟨ret_int HV.out.symm, hb1.alloc hb1.size _⟩
  · have hv : bVal xs = Bd.V true xs := by simp [bVal, hok]
    have hl := ((Bd.okB_iff xs).1 hok)
    have HL := Lib.hid hl
    have HV := Lib.hid hv
    have HOK := Lib.hid hok
    clear hv hok hx hl
    go_enter Try.func19, Try.ntmps19
    go_wp2_with (first
      | (go_at_call 57; refine (layOut_yes hx'.out HOK.out).mono ?_; rintro e w1 ⟨rfl, hb1⟩)
      | (refine wpList_store_ten rfl rfl _ _ rfl w1.heap.size rfl 43 (AV z10) xs rfl (heap_alloc_new w1 _) rfl HL.out.1 _ (setRow_alloc w1 _ _ _) ?_)
      | (refine wpList_load_ten rfl _ rfl w1.heap.size rfl _ xs _ (heap_alloc_new w1 _) HL.out.1 ?_)
      | (go_at_call 58; refine (value_any xs HL.out.1 HL.out.2 _).mono ?_; rintro e w' ⟨rfl, rfl⟩))
    go_ret
    exact ⟨ret_int HV.out.symm, (hb1.alloc hb1.size _).alloc (by have := hb1.size; simp; omega) _⟩

theorem layReduced_yes {v : Int} {w : World} (hok : okV v = true) : Calls Try.prog 64 #[.int .i64 v] w fun e w' => e = .returned (.tuple #[.agg (AV (Bd.D true 10 v)), .bool true]) ∧ Below w.heap.size w w' := by
  have h := layReduced_any v w
  rw [hok] at h
  exact h
theorem layReduced_no {v : Int} {w : World} (hok : okV v = false) : Calls Try.prog 64 #[.int .i64 v] w fun e w' => e = .returned (.tuple #[.agg (AV z10), .bool false]) ∧ Below w.heap.size w w' := by
  have h := layReduced_any v w
  rw [hok] at h
  exact h

set_option maxRecDepth 100000 in
set_option maxHeartbeats 400000 in
theorem BoardOf_any (v : Int) (w : World) : Calls Try.prog 31 #[.int .i64 v] w (BoardPost w (okV v) (Bd.D true 10 v)) := by
  rcases hok : okV v with _ | _
  · have HOK := Lib.hid hok
    clear hok
    go_enter Try.func31, Try.ntmps31
    go_wp2_with (first
      | (go_at_call 64; refine (layReduced_no HOK.out).mono ?_; rintro e w1 ⟨rfl, hb1⟩)
      | (refine wpList_store_ten rfl rfl _ _ rfl w1.heap.size rfl 43 (AV z10) z10 rfl (heap_alloc_new w1 _) rfl rfl _ (setRow_alloc w1 _ _ _) ?_))
    go_ret2
    exact ⟨⟨_, _, _, rfl, Own.nil _ _⟩, hb1.alloc hb1.size _⟩
  · have HOK := Lib.hid hok
    have hD : (Bd.D true 10 v).length = 10 := Bd.D_length _ _ _
    have HD := Lib.hid hD
    clear hok hD
    go_enter Try.func31, Try.ntmps31
    go_wp2_with (first
      | (go_at_call 64; refine (layReduced_yes HOK.out).mono ?_; rintro e w1 ⟨rfl, hb1⟩)
      | (refine wpList_store_ten rfl rfl _ _ rfl w1.heap.size rfl 43 (AV z10) (Bd.D true 10 v) rfl (heap_alloc_new w1 _) rfl HD.out _ (setRow_alloc w1 _ _ _) ?_)
      | (refine wpList_load_ten rfl _ rfl w1.heap.size rfl _ (Bd.D true 10 v) _ (heap_alloc_new w1 _) HD.out ?_)
      | (go_at_call 65; refine (list_any _ HD.out _).mono ?_; rintro e w2 ⟨⟨A, c, rfl, hown⟩, hb2⟩))
    go_ret2
    have hs := hb1.size
    exact ⟨⟨_, _, _, rfl, hown.mono (by simp; omega)⟩, (hb1.alloc hb1.size _).trans (hb2.mono (by simp; omega))⟩

set_option maxRecDepth 100000 in
set_option maxHeartbeats 400000 in
theorem BoardReduced_any (A : Option Addr) (n c : Nat) (xs : List Int) (w : World) (hx : Ints w w.heap.size A n xs) :
    Calls Try.prog 34 #[.slice A n c] w fun e w' => e = .returned (.bool (Bd.okB xs && Bd.isRed true xs)) ∧ Below w.heap.size w w' := by
  have hx' := Lib.hid hx
  rcases hok : Bd.okB xs with _ | _
  · have HOK := Lib.hid hok
    clear hok hx
    go_enter Try.func34, Try.ntmps34
    go_wp2_with (first
      | (go_at_call 57; refine (layOut_no hx'.out HOK.out).mono ?_; rintro e w1 ⟨rfl, hb1⟩)
      | (refine wpList_store_ten rfl rfl _ _ rfl w1.heap.size rfl 43 (AV z10) z10 rfl (heap_alloc_new w1 _) rfl rfl _ (setRow_alloc w1 _ _ _) ?_))
    go_ret
    exact ⟨rfl, hb1.alloc hb1.size _⟩
  · have hl := ((Bd.okB_iff xs).1 hok)
    have HL := Lib.hid hl
    have HOK := Lib.hid hok
    clear hok hx hl
    go_enter Try.func34, Try.ntmps34
    go_wp2_with (first
      | (go_at_call 57; refine (layOut_yes hx'.out HOK.out).mono ?_; rintro e w1 ⟨rfl, hb1⟩)
      | (refine wpList_store_ten rfl rfl _ _ rfl w1.heap.size rfl 43 (AV z10) xs rfl (heap_alloc_new w1 _) rfl HL.out.1 _ (setRow_alloc w1 _ _ _) ?_)
      | (refine wpList_load_ten_want rfl _ rfl w1.heap.size rfl _ xs _ (heap_alloc_new w1 _) HL.out.1 ?_)
      | (go_at_call 67; refine (reduced_any xs HL.out.1 _).mono ?_; rintro e w' ⟨rfl, rfl⟩))
    go_ret
    exact ⟨ret_bool (by simp), (hb1.alloc hb1.size _).alloc (by have := hb1.size; simp; omega) _⟩

set_option maxRecDepth 100000 in
set_option maxHeartbeats 400000 in
theorem BoardCounters_any (A : Option Addr) (n c : Nat) (xs : List Int) (w : World) (hx : Ints w w.heap.size A n xs) :
    Calls Try.prog 36 #[.slice A n c] w fun e w' => e = .returned (.int .i64 (bCnt xs)) ∧ Below w.heap.size w w' := by
  have hx' := Lib.hid hx
  rcases hok : Bd.okB xs with _ | _
  · have hv : bCnt xs = -1 := by simp [bCnt, hok]
    have HV := Lib.hid hv
    have HOK := Lib.hid hok
    clear hv hok hx
    go_enter Try.func36, Try.ntmps36
    go_wp2_with (first
      | (go_at_call 57; refine (layOut_no hx'.out HOK.out).mono ?_; rintro e w1 ⟨rfl, hb1⟩)
      | (refine wpList_store_ten rfl rfl _ _ rfl w1.heap.size rfl 43 (AV z10) z10 rfl (heap_alloc_new w1 _) rfl rfl _ (setRow_alloc w1 _ _ _) ?_))
    go_ret
    exact ⟨ret_int HV.out.symm, hb1.alloc hb1.size _⟩
  · have hv : bCnt xs = Bd.sum xs := by simp [bCnt, hok]
    have hl := ((Bd.okB_iff xs).1 hok)
    have HL := Lib.hid hl
    have HV := Lib.hid hv
    have HOK := Lib.hid hok
    clear hv hok hx hl
    go_enter Try.func36, Try.ntmps36
    go_wp2_with (first
      | (go_at_call 57; refine (layOut_yes hx'.out HOK.out).mono ?_; rintro e w1 ⟨rfl, hb1⟩)
      | (refine wpList_store_ten rfl rfl _ _ rfl w1.heap.size rfl 43 (AV z10) xs rfl (heap_alloc_new w1 _) rfl HL.out.1 _ (setRow_alloc w1 _ _ _) ?_)
      | (refine wpList_load_ten rfl _ rfl w1.heap.size rfl _ xs _ (heap_alloc_new w1 _) HL.out.1 ?_)
      | (go_at_call 68; refine (total_any xs HL.out.1 HL.out.2 _).mono ?_; rintro e w' ⟨rfl, rfl⟩))
    go_ret
    exact ⟨ret_int HV.out.symm, (hb1.alloc hb1.size _).alloc (by have := hb1.size; simp; omega) _⟩

set_option maxRecDepth 100000 in
set_option maxHeartbeats 400000 in
theorem BoardFewest_any (v : Int) (w : World) :
    Calls Try.prog 35 #[.int .i64 v] w fun e w' => e = .returned (.int .i64 (bFew v)) ∧ Below w.heap.size w w' := by
  rcases hok : okV v with _ | _
  · have hv : bFew v = -1 := by simp [bFew, hok]
    have HV := Lib.hid hv
    have HOK := Lib.hid hok
    clear hv hok
    go_enter Try.func35, Try.ntmps35
    go_wp2_with (first
      | (go_at_call 64; refine (layReduced_no HOK.out).mono ?_; rintro e w1 ⟨rfl, hb1⟩)
      | (refine wpList_store_ten rfl rfl _ _ rfl w1.heap.size rfl 43 (AV z10) z10 rfl (heap_alloc_new w1 _) rfl rfl _ (setRow_alloc w1 _ _ _) ?_))
    go_ret
    exact ⟨ret_int HV.out.symm, hb1.alloc hb1.size _⟩
  · have hv : bFew v = Bd.sum (Bd.D true 10 v) := by simp [bFew, hok]
    have hD : (Bd.D true 10 v).length = 10 := Bd.D_length _ _ _
    have hr := Bd.D_range 10 true v
    have HD := Lib.hid hD
    have HR := Lib.hid hr
    have HV := Lib.hid hv
    have HOK := Lib.hid hok
    clear hv hok hD hr
    go_enter Try.func35, Try.ntmps35
    go_wp2_with (first
      | (go_at_call 64; refine (layReduced_yes HOK.out).mono ?_; rintro e w1 ⟨rfl, hb1⟩)
      | (refine wpList_store_ten rfl rfl _ _ rfl w1.heap.size rfl 43 (AV z10) (Bd.D true 10 v) rfl (heap_alloc_new w1 _) rfl HD.out _ (setRow_alloc w1 _ _ _) ?_)
      | (refine wpList_load_ten rfl _ rfl w1.heap.size rfl _ (Bd.D true 10 v) _ (heap_alloc_new w1 _) HD.out ?_)
      | (go_at_call 68; refine (total_any _ HD.out HR.out _).mono ?_; rintro e w' ⟨rfl, rfl⟩))
    go_ret
    exact ⟨ret_int HV.out.symm, (hb1.alloc hb1.size _).alloc (by have := hb1.size; simp; omega) _⟩

set_option maxRecDepth 100000 in
set_option maxHeartbeats 400000 in
theorem BoardRaises_any (A : Option Addr) (n c : Nat) (xs : List Int) (w : World) (hx : Ints w w.heap.size A n xs) :
    Calls Try.prog 23 #[.slice A n c] w fun e w' => e = .returned (.int .i64 (bRais xs)) ∧ Below w.heap.size w w' := by
  have hx' := Lib.hid hx
  rcases hok : Bd.okB xs with _ | _
  · have hv : bRais xs = -1 := by simp [bRais, hok]
    have HV := Lib.hid hv
    have HOK := Lib.hid hok
    clear hv hok hx
    go_enter Try.func23, Try.ntmps23
    go_wp2_with (first
      | (go_at_call 57; refine (layOut_no hx'.out HOK.out).mono ?_; rintro e w1 ⟨rfl, hb1⟩)
      | (refine wpList_store_ten rfl rfl _ _ rfl w1.heap.size rfl 43 (AV z10) z10 rfl (heap_alloc_new w1 _) rfl rfl _ (setRow_alloc w1 _ _ _) ?_))
    go_ret
    exact ⟨ret_int HV.out.symm, hb1.alloc hb1.size _⟩
  · have hl := ((Bd.okB_iff xs).1 hok)
    have HL := Lib.hid hl
    by_cases hbig : 99999 < Bd.V true xs
    · have hv : bRais xs = -1 := by simp [bRais, hok]; omega
      have HV := Lib.hid hv
      have HOK := Lib.hid hok
      clear hv hok hx hl
      go_enter Try.func23, Try.ntmps23
      go_wp2_with (first
        | (go_at_call 57; refine (layOut_yes hx'.out HOK.out).mono ?_; rintro e w1 ⟨rfl, hb1⟩)
        | (refine wpList_store_ten rfl rfl _ _ rfl w1.heap.size rfl 43 (AV z10) xs rfl (heap_alloc_new w1 _) rfl HL.out.1 _ (setRow_alloc w1 _ _ _) ?_)
        | (refine wpList_load_ten_want rfl _ rfl w1.heap.size rfl _ xs _ (heap_alloc_new w1 _) HL.out.1 ?_)
        | (go_at_call 58; refine (value_any xs HL.out.1 HL.out.2 _).mono ?_; rintro e w' ⟨rfl, rfl⟩))
      go_ret
      exact ⟨ret_int HV.out.symm, (hb1.alloc hb1.size _).alloc (by have := hb1.size; simp; omega) _⟩
    · have hv : bRais xs = Bd.R true 0 xs := by simp [bRais, hok]; omega
      have HV := Lib.hid hv
      have HOK := Lib.hid hok
      clear hv hok hx hl
      go_enter Try.func23, Try.ntmps23
      go_wp2_with (first
        | (go_at_call 57; refine (layOut_yes hx'.out HOK.out).mono ?_; rintro e w1 ⟨rfl, hb1⟩)
        | (refine wpList_store_ten rfl rfl _ _ rfl w1.heap.size rfl 43 (AV z10) xs rfl (heap_alloc_new w1 _) rfl HL.out.1 _ (setRow_alloc w1 _ _ _) ?_)
        | (refine wpList_load_ten_want rfl _ rfl w1.heap.size rfl _ xs _ (heap_alloc_new w1 _) HL.out.1 ?_)
        | (go_at_call 58; refine (value_any xs HL.out.1 HL.out.2 _).mono ?_; rintro e w' ⟨rfl, rfl⟩)
        | (go_at_call 62; refine (raiseAll_any w1.heap.size xs _ (heap_alloc2_old w1 _ _) HL.out.1 HL.out.2 (by omega)).mono ?_; rintro e w2 ⟨rfl, hg2⟩))
      go_ret
      exact ⟨ret_int HV.out.symm, ((hb1.alloc hb1.size _).alloc (by have := hb1.size; simp; omega) _).grown hg2 (by have := hb1.size; simp; omega) (by intro k hk; cases hk; exact hb1.size)⟩
end Go.Proofs.Ytknjnlkamhbmgaa
