/-
  The debts of a list of tallies, and the balances.
-/
import Derived.Test.YtogplbnabffcfaaTaHeap4
namespace Go.Proofs.Ytogplbnabffcfaa
open Go.RowKit
set_option linter.unusedSimpArgs false

def okB (t : Tl) : Bool := matchB t && decide (1 ≤ worthB t.s)
def okL (ts : List Tl) : Bool := decide (ts.length ≤ 12) && ts.all okB
def debtOf (t : Tl) : Db := ⟨t.a, t.c, worthB t.s⟩
/-- the texts of tallies are no greater than memory -/
def Small (ts : List Tl) : Prop := ∀ t ∈ ts, t.s.size ≤ 1099511627776 ∧ t.f.size ≤ 1099511627776
def DebtsPost (w : World) (n : Nat) (ts : List Tl) (e : Ending) (w' : World) : Prop :=
  ((okL ts = true ∧ ∃ A c, e = .returned (.tuple #[.slice A n c, .bool true]) ∧ OwnD w' w.heap.size A n c (ts.map debtOf)) ∨ (okL ts = false ∧ e = .returned (.tuple #[.slice none 0 0, .bool false]))) ∧ Below w.heap.size w w'
theorem okL_no {ts : List Tl} {k : Nat} {t : Tl} (h : ts[k]? = some t) (ht : okB t = false) : okL ts = false := by
  unfold okL
  have : ts.all okB = false := by
    cases hb : ts.all okB with
    | false => rfl
    | true => have := List.all_eq_true.1 hb t (List.mem_of_getElem? h); rw [ht] at this; cases this
  rw [this]; simp
set_option maxRecDepth 100000 in
set_option maxHeartbeats 1000000 in
theorem debtsOf_any (A : Option Addr) (n c : Nat) (ts : List Tl) (w : World) (hr : Tals w w.heap.size A n ts) (hsm : Small ts) : Calls Try.prog 21 #[.slice A n c] w (DebtsPost w n ts) := by
  have hl := hr.len
  by_cases h12 : n ≤ 12
  · have HL := Lib.hid hl
    have HR := Lib.hid hr
    have HSM := Lib.hid hsm
    have hn : ¬ (n : Int) > 12 := by omega
    clear hr hl hsm
    go_enter Try.func21, Try.ntmps21
    go_wp2_with (refine wpList_make_d rfl _ _ rfl (B := w.heap.size) (n : Int) rfl rfl rfl (by omega) (Nat.le_refl _) ?_; intro w1 hown hg)
    go_loopw [4, 16] (fun sv iv wr => ∃ (k c' : Nat) (A' : Option Addr), k ≤ n ∧ iv = .int .i64 (k : Int) ∧ sv = .slice A' k c' ∧ OwnD wr w.heap.size A' k c' ((ts.take k).map debtOf) ∧ Below w.heap.size w wr ∧ (∀ t ∈ ts.take k, okB t = true)) (fun _ iv _ => n - (intOf iv).toNat)
    case atStart => exact ⟨0, n, _, by omega, rfl, rfl, by simpa [DV] using hown, grown_below hg (Nat.le_refl _) (by simp), by simp⟩
    case round =>
      obtain ⟨k, c', A', hk, rfl, rfl, ho, hb, hok⟩ := hrel
      have HO := Lib.hid ho
      have HB := Lib.hid hb
      have HOK := Lib.hid hok
      clear ho hb hok hown hg
      by_cases hlt : k < n
      · obtain ⟨b, off, t, rfl, hlb, ht, k0, k1, k2, k3⟩ := Tals.at_ (show Tals wr w.heap.size A n ts from HR.out.below HB.out) hlt
        have HT := Lib.hid ht
        have hts := HSM.out t (List.mem_of_getElem? ht)
        obtain ⟨a, cc, s, f⟩ := t
        simp only at k0 k1 k2 k3 hts
        obtain ⟨W, hW⟩ : ∃ W, wr.alloc (.cells #[.int .i64 a, .int .i64 cc, .string s, .string f] 33) = W := ⟨_, rfl⟩
        have hbW : Below wr.heap.size wr W := by rw [← hW]; exact (Below.refl _ _).alloc (Nat.le_refl _) _
        have hbl : Blk W wr.heap.size #[.int .i64 a, .int .i64 cc, .string s, .string f] 33 := by rw [← hW]; exact Blk.new _ _ _
        have m2 : W.cell? ⟨wr.heap.size, 2, none⟩ = some (.string s) := hbl.cell rfl
        have HW := Lib.hid hW
        have HBL := Lib.hid hbl
        have HBW := Lib.hid hbW
        clear hW hbl hbW ht
        go_wp2_with fail
        rw [HW.out]
        go_wp2_with fail
        refine (NotchesWorth_any s W hts.1).mono ?_
        rintro e w2 ⟨rfl, hb2⟩
        have hbl2 := HBL.out.next hb2
        have p0 : w2.cell? ⟨wr.heap.size, 0, none⟩ = some (.int .i64 a) := hbl2.cell rfl
        have p1 : w2.cell? ⟨wr.heap.size, 1, none⟩ = some (.int .i64 cc) := hbl2.cell rfl
        have p2 : w2.cell? ⟨wr.heap.size, 2, none⟩ = some (.string s) := hbl2.cell rfl
        have p3 : w2.cell? ⟨wr.heap.size, 3, none⟩ = some (.string f) := hbl2.cell rfl
        have HBL2 := Lib.hid hbl2
        have HB2 := Lib.hid (below_chain HBW.out hb2)
        clear hbl2 hb2 m2 k0 k1 k2 k3
        go_wp2_with fail
        refine (TallyMatches_any ⟨a, cc, s, f⟩ w2 hts.1).mono ?_
        rintro e w3 ⟨rfl, hb3⟩
        have hbl3 := HBL2.out.next hb3
        have q0 : w3.cell? ⟨wr.heap.size, 0, none⟩ = some (.int .i64 a) := hbl3.cell rfl
        have q1 : w3.cell? ⟨wr.heap.size, 1, none⟩ = some (.int .i64 cc) := hbl3.cell rfl
        have HB3 := Lib.hid (below_chain HB2.out hb3)
        clear hb3 hbl3 p0 p1 p2 p3
        obtain ⟨v, hv⟩ : ∃ v, worthB s = v := ⟨_, rfl⟩
        have HV := Lib.hid hv
        rw [hv]
        rcases hm : matchB ⟨a, cc, s, f⟩ with _ | _
        · have HNO := Lib.hid (okL_no HT.out (by simp [okB, hm]))
          clear hm hv
          go_wp2
          go_ret2
          exact ⟨.inr ⟨HNO.out, rfl⟩, HB.out.trans (HB3.out.mono HB.out.size)⟩
        · by_cases h1 : v < 1
          · have HNO := Lib.hid (okL_no HT.out (by simp [okB, hv]; intro _; omega))
            clear hm hv
            go_wp2
            go_ret2
            exact ⟨.inr ⟨HNO.out, rfl⟩, HB.out.trans (HB3.out.mono HB.out.size)⟩
          · have HYES := Lib.hid (show okB ⟨a, cc, s, f⟩ = true by simp [okB, hm, hv]; omega)
            clear hm hv
            go_wp2_with (refine wpList_app_d rfl _ _ rfl rfl (HO.out.next HB3.out) ⟨a, cc, v⟩ _ rfl _ rfl (by omega) (Nat.le_trans HB.out.size HB3.out.size) ?_; intro A2 c2 w4 ho4 hg4)
            refine ⟨⟨k + 1, c2, A2, by omega, by go_num, rfl, ?_, ?_, ?_⟩, ?_⟩
            · rw [take_next HT.out, List.map_append]
              simp only [List.map_cons, List.map_nil, debtOf]
              rw [HV.out]
              exact ho4
            · exact (HB.out.trans (HB3.out.mono HB.out.size)).grown hg4 (Nat.le_trans HB.out.size HB3.out.size) (fun q hq => (HO.out.blk q hq).1)
            · rw [take_next HT.out]
              intro u hu
              rcases List.mem_append.1 hu with h | h
              · exact HOK.out u h
              · obtain rfl := List.mem_singleton.1 h
                exact HYES.out
            · simp [intOf]
              omega
      · obtain rfl : k = n := by omega
        have HYES := Lib.hid (show okL ts = true by
          have h := HOK.out
          rw [List.take_of_length_le (by have := HL.out; omega)] at h
          simp only [okL, Bool.and_eq_true, decide_eq_true_eq, List.all_eq_true]
          exact ⟨by have := HL.out; omega, h⟩)
        go_wp2
        go_ret2
        refine ⟨.inl ⟨HYES.out, A', c', rfl, ?_⟩, HB.out⟩
        have := HO.out
        rwa [List.take_of_length_le (by have := HL.out; omega)] at this
  · have hno : okL ts = false := by simp [okL]; omega
    have hn : (n : Int) > 12 := by omega
    go_enter Try.func21, Try.ntmps21
    go_wp2
    go_ret2
    exact ⟨.inr ⟨hno, rfl⟩, Below.refl _ _⟩

/-! balances -/
def upd (b : List Int) (d : Db) : List Int := (b.set d.a.toNat (b.getD d.a.toNat 0 - d.v)).set d.c.toNat ((b.set d.a.toNat (b.getD d.a.toNat 0 - d.v)).getD d.c.toNat 0 + d.v)
def bal (ds : List Db) : List Int := ds.foldl upd [0, 0, 0, 0, 0]
/-- debts between people, worth no more than notches are -/
def Fair (ds : List Db) : Prop := ds.length ≤ 12 ∧ ∀ d ∈ ds, Two d.a d.c ∧ 0 ≤ d.v ∧ d.v ≤ 36000
theorem upd_length (b : List Int) (d : Db) : (upd b d).length = b.length := by simp [upd]
theorem bal_length (ds : List Db) : (bal ds).length = 5 := by
  unfold bal
  suffices h : ∀ (ds : List Db) (b : List Int), b.length = 5 → (ds.foldl upd b).length = 5 from h ds _ rfl
  intro ds
  induction ds with
  | nil => intro b h; exact h
  | cons d ds ih => intro b h; exact ih _ (by rw [upd_length, h])
def five (b : List Int) : Array Value := (IV b).toArray
end Go.Proofs.Ytogplbnabffcfaa
