/-
  The balances of tallies, by the program.
-/
import Derived.Test.YtogplbnabffcfaaTaSum
import Derived.Test.YtogplbnabffcfaaOwn
namespace Go.Proofs.Ytogplbnabffcfaa
open Go.RowKit
set_option linter.unusedSimpArgs false

theorem run_index_five (b : List Int) (k : Nat) (u : Int) (hl : b.length = 5) (h : b[k]? = some u) (w : World) :
    (Instr.index 48 (.agg (five b)) (.int .i64 (k : Int))).run Try.prog w = .ok (.int .i64 u) w := by
  have hk : k < 5 := by have := (List.getElem?_eq_some_iff.1 h).1; omega
  obtain ⟨i0, hi, hz0, hz1, hz2⟩ := info_parts own_int_info
  have hk' : 0 ≤ (k : Int) ∧ (k : Int) < ((5 : Nat) : Int) := by omega
  have hg := five_get h
  simp [Instr.index, run_underlying Try.underlying48, asIntOf, go_sem, part, sizeOf, typeInfo, hi, hz1, hg]
  omega
def BalPost (w : World) (ts : List Tl) (e : Ending) (w' : World) : Prop :=
  ((okL ts = true ∧ ∃ A c, e = .returned (.tuple #[.slice A 5 c, .bool true]) ∧ Own w' w.heap.size A 5 c (bal (ts.map debtOf))) ∨ (okL ts = false ∧ e = .returned (.tuple #[.slice none 0 0, .bool false]))) ∧ Below w.heap.size w w'
set_option maxRecDepth 100000 in
set_option maxHeartbeats 1000000 in
theorem TalliesBalance_any (A : Option Addr) (n c : Nat) (ts : List Tl) (w : World) (hr : Tals w w.heap.size A n ts) (hsm : Small ts) : Calls Try.prog 11 #[.slice A n c] w (BalPost w ts) := by
  go_enter Try.func11, Try.ntmps11
  go_wp2_with fail
  refine (debtsOf_any A n c ts w hr hsm).mono ?_
  rintro e w1 ⟨⟨hok, A1, c1, rfl, ho⟩ | ⟨hno, rfl⟩, hb⟩
  · have HF := Lib.hid (fair_of hok)
    have HOK := Lib.hid hok
    have HO := Lib.hid ho
    have HB := Lib.hid hb
    clear hok ho hb hr hsm
    go_wp2_with (refine wpList_make_room rfl _ _ rfl (B := w.heap.size) (n := 5) 5 rfl rfl rfl (by omega) HB.out.size ?_; intro w2 hown hg)
    have hb2 : Below w1.heap.size w1 w2 := grown_below hg (Nat.le_refl _) (by simp)
    have HB2 := Lib.hid (HB.out.trans (hb2.mono HB.out.size))
    have HD := Lib.hid (HO.out.dbs.next hb2)
    have HOW := Lib.hid hown
    clear hown hg hb2
    refine (balances_any A1 n c1 (ts.map debtOf) w2 HD.out HF.out).mono ?_
    rintro e w3 ⟨rfl, hb3⟩
    obtain ⟨b, hbb⟩ : ∃ b, bal (ts.map debtOf) = b := ⟨_, rfl⟩
    have hbl : b.length = 5 := by rw [← hbb, bal_length]
    have HBB := Lib.hid hbb
    rw [hbb]
    have HB3 := Lib.hid (HB2.out.trans (hb3.mono HB2.out.size))
    have HO3 := Lib.hid (HOW.out.next hb3)
    clear hbb hb3
    go_wp2_with fail
    go_loopw [6, 19] (fun sv iv wr => ∃ (k c' : Nat) (A' : Option Addr), k ≤ 5 ∧ iv = .int .i64 (k : Int) ∧ sv = .slice A' k c' ∧ Own wr w.heap.size A' k c' (b.take k) ∧ Below w.heap.size w wr) (fun _ iv _ => 5 - (intOf iv).toNat)
    case atStart => exact ⟨0, 5, _, by omega, rfl, rfl, HO3.out, HB3.out⟩
    case round =>
      obtain ⟨k, c', A', hk, rfl, rfl, ho, hb⟩ := hrel
      have HO4 := Lib.hid ho
      have HB4 := Lib.hid hb
      clear ho hb
      by_cases hlt : k < 5
      · obtain ⟨u, hu⟩ : ∃ u, b[k]? = some u := ⟨_, List.getElem?_eq_getElem (by omega)⟩
        have hix := run_index_five b k u hbl hu
        have HU := Lib.hid hu
        clear hu
        go_wp2_with (refine wpList_app rfl _ _ rfl rfl HO4.out [u] 1 rfl _ rfl _ rfl (by omega) HB4.out.size ?_; intro A2 c2 w4 ho4 hg4)
        refine ⟨⟨k + 1, c2, A2, by omega, by go_num, rfl, by rw [take_next HU.out]; exact ho4, below_step HB4.out hg4 HO4.out HB4.out.size⟩, ?_⟩
        simp [intOf]
        omega
      · obtain rfl : k = 5 := by omega
        go_wp2
        go_ret2
        refine ⟨.inl ⟨HOK.out, A', c', rfl, ?_⟩, HB4.out⟩
        rw [HBB.out]
        have := HO4.out
        rwa [List.take_of_length_le (by omega)] at this
  · have HB := Lib.hid hb
    have HNO := Lib.hid hno
    clear hno hb hr hsm
    go_wp2
    go_ret2
    exact ⟨.inr ⟨HNO.out, rfl⟩, HB.out⟩
end Go.Proofs.Ytogplbnabffcfaa
