/-
  The sum of all tallies, by the program.
-/
import Derived.Test.YtogplbnabffcfaaTaBal
namespace Go.Proofs.Ytogplbnabffcfaa
open Go.RowKit
set_option linter.unusedSimpArgs false

theorem worthB_bd (s : ByteArray) : -1 ≤ worthB s ∧ worthB s ≤ 36000 := by
  unfold worthB
  cases h : Ta.worth s.data.toList with
  | none => simp
  | some v => have := Ta.worth_bd h; simp; omega
theorem fair_of {ts : List Tl} (h : okL ts = true) : Fair (ts.map debtOf) := by
  simp only [okL, Bool.and_eq_true, decide_eq_true_eq, List.all_eq_true] at h
  refine ⟨by rw [List.length_map]; exact h.1, fun d hd => ?_⟩
  obtain ⟨t, ht, rfl⟩ := List.mem_map.1 hd
  have := h.2 t ht
  simp only [okB, matchB, twoB, Bool.and_eq_true, decide_eq_true_eq] at this
  have hb := worthB_bd t.s
  exact ⟨this.1.1, by show 0 ≤ worthB t.s; omega, hb.2⟩
def total (ds : List Db) : Int := ds.foldl (fun a d => a + d.v) 0
theorem total_next {ds : List Db} {k : Nat} {d : Db} (h : ds[k]? = some d) : total (ds.take (k + 1)) = total (ds.take k) + d.v := by
  rw [take_next h, total, total, List.foldl_append]; rfl
set_option maxRecDepth 100000 in
set_option maxHeartbeats 1000000 in
theorem TalliesTotal_any (A : Option Addr) (n c : Nat) (ts : List Tl) (w : World) (hr : Tals w w.heap.size A n ts) (hsm : Small ts) : Calls Try.prog 13 #[.slice A n c] w fun e w' => e = .returned (.int .i64 (if okL ts then total (ts.map debtOf) else -1)) ∧ Below w.heap.size w w' := by
  obtain ⟨R, hR⟩ : ∃ R, (if okL ts then total (ts.map debtOf) else -1) = R := ⟨_, rfl⟩
  rw [hR]
  have HR := Lib.hid hR
  clear hR
  go_enter Try.func13, Try.ntmps13
  go_wp2_with fail
  refine (debtsOf_any A n c ts w hr hsm).mono ?_
  rintro e w1 ⟨⟨hok, A1, c1, rfl, ho⟩ | ⟨hno, rfl⟩, hb⟩
  · have hF := fair_of hok
    have h12 : n ≤ 12 := by have := hF.1; have := ho.dbs.len; omega
    have HOK := Lib.hid hok
    have HF := Lib.hid hF
    have HO := Lib.hid ho.dbs
    have HB := Lib.hid hb
    clear hok hF ho hb hr hsm
    go_wp2_with fail
    go_loopw [5, 17] (fun tv iv wr => ∃ (k : Nat) (t : Int), k ≤ n ∧ iv = .int .i64 (k : Int) ∧ tv = .int .i64 t ∧ t = total ((ts.map debtOf).take k) ∧ 0 ≤ t ∧ t ≤ 36000 * (k : Int) ∧ Below w1.heap.size w1 wr) (fun _ iv _ => n - (intOf iv).toNat)
    case atStart => exact ⟨0, 0, by omega, rfl, rfl, rfl, by omega, by omega, Below.refl _ _⟩
    case round =>
      obtain ⟨k, t, hk, rfl, rfl, ht, t0, t1, hbr⟩ := hrel
      have HT := Lib.hid ht
      have HBR := Lib.hid hbr
      clear ht hbr
      by_cases hlt : k < n
      · obtain ⟨b, off, d, rfl, hlb, hd, k0, k1, k2⟩ := Dbs.at_ (show Dbs wr w1.heap.size A1 n (ts.map debtOf) from HO.out.below HBR.out) hlt
        obtain ⟨_, v0, v1⟩ := HF.out.2 d (List.mem_of_getElem? hd)
        have HN := Lib.hid (total_next hd)
        obtain ⟨a, cc, v⟩ := d
        simp only at k0 k1 k2 v0 v1
        clear hd
        go_wp2_with fail
        refine ⟨⟨k + 1, t + v, by omega, by go_num, by go_num, by rw [HN.out, ← HT.out], by omega, by omega, HBR.out.alloc HBR.out.size _⟩, ?_⟩
        simp [intOf]
        omega
      · obtain rfl : k = n := by omega
        go_wp2
        go_ret
        refine ⟨ret_int ?_, HB.out.trans (HBR.out.mono HB.out.size)⟩
        rw [← HR.out, if_pos HOK.out, HT.out, List.take_of_length_le (by have := HO.out.len; omega)]
  · have HB := Lib.hid hb
    have HNO := Lib.hid hno
    clear hno hb hr hsm
    go_wp2
    go_ret
    exact ⟨ret_int (by rw [← HR.out, HNO.out]; rfl), HB.out⟩
end Go.Proofs.Ytogplbnabffcfaa
