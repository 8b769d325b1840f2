/-
  Boards laid out on counters, and the counters with a value: what layOut and layReduced give back.
-/
import Derived.Test.YtknjnlkamhbmgaaBdArr
namespace Go.Proofs.Ytknjnlkamhbmgaa
open Go.RowKit

def z10 : List Int := [0, 0, 0, 0, 0, 0, 0, 0, 0, 0]
theorem AV_z10 : AV z10 = #[.int .i64 0, .int .i64 0, .int .i64 0, .int .i64 0, .int .i64 0, .int .i64 0, .int .i64 0, .int .i64 0, .int .i64 0, .int .i64 0] := rfl

/-- two results, the first one an array in memory -/
theorem results_ten {fn : Func} {p t : Tmp} (h : fn.results = #[.cell p 43, .tmp t]) (tmps : Array Value) (w : World) (g : Nat) (tt : TypeId) (xs : List Int) (fr : Nat × Nat)
    (hp : tmps.getD p undef = .pointer (some ⟨g, 0, none⟩)) (hg : w.heap[g]? = some (.cells (AV xs) tt fr)) (hl : xs.length = 10) :
    (results fn tmps).run Try.prog w = .ok (.tuple #[.agg (AV xs), tmps.getD t undef]) w := by
  have hp' : tmps[p]?.getD undef = .pointer (some ⟨g, 0, none⟩) := by simpa using hp
  have hr := run_loadVar_row (P := Try.prog) w g tt 43 (AV xs) fr _ hg Try.underlying43 rfl (by rw [AV_size, hl]; exact ten_info)
  simp [results, h, hp', asAddr, hr]

def LayPost (w : World) (ok : Bool) (xs : List Int) (e : Ending) (w' : World) : Prop :=
  e = .returned (.tuple #[.agg (AV (if ok then xs else z10)), .bool ok]) ∧ Below w.heap.size w w'

set_option maxRecDepth 100000 in
set_option maxHeartbeats 1000000 in
theorem layOut_any (A : Option Addr) (n c : Nat) (xs : List Int) (w : World) (hx : Ints w w.heap.size A n xs) :
    Calls Try.prog 57 #[.slice A n c] w (LayPost w (Bd.okB xs) xs) := by
  have hl := hx.len
  by_cases h10 : n = 10
  · subst h10
    have HL := Lib.hid hl
    have e0 : AV z10 = AV (xs.take 0 ++ List.replicate (10 - 0) 0) := rfl
    have E0 := Lib.hid e0
    have hnew : ∀ (l : List Int) (o : Obj), ((w.alloc o).alloc (.cells (AV l) 43)).heap[w.heap.size + 1]? = some (.cells (AV l) 43 (0, 0)) := fun l o => by
      have := heap_alloc_new (w.alloc o) (.cells (AV l) 43)
      simpa using this
    have HNEW := Lib.hid hnew
    clear hnew e0 hl
    rcases hf : fitB xs with _ | _
    · have hok : Bd.okB xs = false := by simp only [Bd.okB, Bd.allIn]; simp only [fitB] at hf; rw [hf]; simp
      have HF := Lib.hid hf
      rw [hok]
      clear hf hok
      go_enter Try.func57, Try.ntmps57
      go_wp2
      go_loopw [5, 6, 13] (fun _ _ i wr => ∃ k : Nat, k ≤ 10 ∧ i = .int .i64 k ∧ wr = (w.alloc (.cells (AV z10) 43)).alloc (.cells (AV (xs.take k ++ List.replicate (10 - k) 0)) 43)) (fun _ _ i _ => 10 - (intOf i).toNat)
      case atStart => exact ⟨0, by omega, rfl, rfl⟩
      case round =>
        obtain ⟨k, hk, rfl, rfl⟩ := hrel
        by_cases hlt : k < 10
        · obtain ⟨b, off, u, rfl, hlb, hu, hcell⟩ := (((hx.alloc (Nat.le_refl _) (.cells (AV z10) 43)).alloc (by simp) (.cells (AV (xs.take k ++ List.replicate (10 - k) 0)) 43))).at_ hlt
          have hcur := AV_get (fill_at hlt HL.out)
          have HN := Lib.hid (fill_next hlt HL.out hu)
          clear hu
          generalize xs.take k ++ List.replicate (10 - k) 0 = l at *
          go_wp2
          go_roundw
          case rel => exact ⟨k + 1, by omega, by go_num, by rw [AV_set, HN.out]⟩
          case measure => simp [intOf]; omega
        · have e10 : xs.take k ++ List.replicate (10 - k) 0 = xs := by
            obtain rfl : k = 10 := by omega
            rw [List.take_of_length_le (by have := HL.out; omega)]; simp
          rw [e10]
          clear e10
          go_wp2_with (first
            | (refine wpList_load_ten rfl (.tmp 4) rfl (w.heap.size + 1) rfl _ xs _ (HNEW.out xs _) HL.out ?_)
            | (refine wpList_store_ten rfl rfl (.tmp 2) (.tmp 25) rfl w.heap.size rfl 43 (AV z10) z10 rfl ((Below.heap_alloc _ _ _ (by simp; omega)).trans (heap_alloc2_old w _ _)) rfl rfl _ rfl ?_)
            | (go_at_call 75; refine (fits_any xs HL.out _).mono ?_; rintro e w' ⟨rfl, rfl⟩; rw [HF.out]))
          exact bodyPost_ret (results_ten rfl _ _ w.heap.size 43 z10 (0, 0) rfl (setRow_heap _ _ _ _ _ _ ((Below.heap_alloc _ _ _ (by simp; omega)).trans (heap_alloc2_old w _ _))) rfl) rfl
            ⟨rfl, below_setRow ((((Below.refl _ _).alloc (Nat.le_refl _) _).alloc (by simp) _).alloc (by simp; omega) _) (Nat.le_refl _) _⟩
    · have hok : Bd.okB xs = true := by simp only [Bd.okB, Bd.allIn, HL.out]; simpa [fitB] using hf
      have HF := Lib.hid hf
      rw [hok]
      clear hf hok
      go_enter Try.func57, Try.ntmps57
      go_wp2
      go_loopw [5, 6, 13] (fun _ _ i wr => ∃ k : Nat, k ≤ 10 ∧ i = .int .i64 k ∧ wr = (w.alloc (.cells (AV z10) 43)).alloc (.cells (AV (xs.take k ++ List.replicate (10 - k) 0)) 43)) (fun _ _ i _ => 10 - (intOf i).toNat)
      case atStart => exact ⟨0, by omega, rfl, rfl⟩
      case round =>
        obtain ⟨k, hk, rfl, rfl⟩ := hrel
        by_cases hlt : k < 10
        · obtain ⟨b, off, u, rfl, hlb, hu, hcell⟩ := (((hx.alloc (Nat.le_refl _) (.cells (AV z10) 43)).alloc (by simp) (.cells (AV (xs.take k ++ List.replicate (10 - k) 0)) 43))).at_ hlt
          have hcur := AV_get (fill_at hlt HL.out)
          have HN := Lib.hid (fill_next hlt HL.out hu)
          clear hu
          generalize xs.take k ++ List.replicate (10 - k) 0 = l at *
          go_wp2
          go_roundw
          case rel => exact ⟨k + 1, by omega, by go_num, by rw [AV_set, HN.out]⟩
          case measure => simp [intOf]; omega
        · have e10 : xs.take k ++ List.replicate (10 - k) 0 = xs := by
            obtain rfl : k = 10 := by omega
            rw [List.take_of_length_le (by have := HL.out; omega)]; simp
          rw [e10]
          clear e10
          go_wp2_with (first
            | (refine wpList_load_ten rfl (.tmp 4) rfl (w.heap.size + 1) rfl _ xs _ (HNEW.out xs _) HL.out ?_)
            | (refine wpList_load_ten rfl (.tmp 4) rfl (w.heap.size + 1) rfl _ xs _ ((Below.heap_alloc _ _ _ (by simp)).trans (HNEW.out xs _)) HL.out ?_)
            | (refine wpList_store_ten rfl rfl (.tmp 2) (.tmp 26) rfl w.heap.size rfl 43 (AV z10) xs rfl ((Below.heap_alloc _ _ _ (by simp; omega)).trans (heap_alloc2_old w _ _)) rfl HL.out _ rfl ?_)
            | (go_at_call 75; refine (fits_any xs HL.out _).mono ?_; rintro e w' ⟨rfl, rfl⟩; rw [HF.out]))
          exact bodyPost_ret (results_ten rfl _ _ w.heap.size 43 xs (0, 0) rfl (setRow_heap _ _ _ _ _ _ ((Below.heap_alloc _ _ _ (by simp; omega)).trans (heap_alloc2_old w _ _))) HL.out) rfl
            ⟨rfl, below_setRow ((((Below.refl _ _).alloc (Nat.le_refl _) _).alloc (by simp) _).alloc (by simp; omega) _) (Nat.le_refl _) _⟩
  · have hok : Bd.okB xs = false := by simp [Bd.okB, hl, h10]
    have hne : ((n : Int) != 10) = true := by simp; omega
    rw [hok]
    go_enter Try.func57, Try.ntmps57
    go_wp2
    exact bodyPost_ret (results_ten rfl _ _ _ _ z10 (0, 0) rfl (heap_alloc2_old w _ _) rfl) rfl ⟨rfl, ((Below.refl _ _).alloc (Nat.le_refl _) _).alloc (by simp) _⟩
end Go.Proofs.Ytknjnlkamhbmgaa
