/-
  Joined texts: FrLaw2, FrText, ExNum, ExNum2, ExDoes, ExDoes2, ExBuild, ExKeep, ExExec, ExText, ExDigits, ExLift, ExFr.
-/
import Derived.Test.YthdoofmfigemoaaGreatDoorBase3
import Derived.Lib.ItoaNum
import Derived.Test.YthdoofmfigemoaaGreatDoorShelf
import Derived.Laws.IdiomStrings
import Derived.Laws.Concat
import Derived.Deep.RegionHeld3
import Derived.Lib.AppendIntMem
import Derived.Laws.Pointers
import Derived.Shelf.Strings.BuilderK
import Derived.HandedShaped
import Derived.Handed
import Derived.Shelf.Vars
import Derived.Lib.LaidTab
import Derived.Lib.LaidU8
import Derived.MakeChecks
import Derived.Test.YthdoofmfigemoaaGreatDoorRows
import Derived.WalkSmall
import Derived.LaidMore
import Derived.Stop.Joined

section
/-
  The laws' words on valid frames: what each function makes of a frame that shows digits.
-/
namespace Go.Proofs.YthdoofmfigemoaaGreatDoor
open Go.RowKit

theorem FrV.next {w w' : World} {v : Value} {hs ls : List Int} (h : FrV w v hs ls) (hb : Below w.heap.size w w') : FrV w' v hs ls := by
  obtain ⟨A, n, c, A', m, c', rfl, h1, h2⟩ := h
  exact ⟨A, n, c, A', m, c', rfl, h1.next hb, h2.next hb⟩
/-- a frame of n rods that shows digits -/
def FrG (w : World) (v : Value) (n : Nat) (ds : List Int) : Prop := FrV w v (HiL ds) (LoL ds) ∧ Fr.Digs ds ∧ ds.length = n ∧ 1 ≤ n ∧ n ≤ 6
theorem FrG.next {w w' : World} {v : Value} {n : Nat} {ds : List Int} (h : FrG w v n ds) (hb : Below w.heap.size w w') : FrG w' v n ds := ⟨h.1.next hb, h.2⟩
theorem FrV.g {w : World} {A A' : Option Addr} {n m c c' : Nat} {ds : List Int} (h : FrV w (.agg #[.slice A n c, .slice A' m c']) (HiL ds) (LoL ds)) (hd : Fr.Digs ds) (h1 : 1 ≤ ds.length) (h6 : ds.length ≤ 6) : n = ds.length ∧ m = ds.length ∧ FrG w (.agg #[.slice A n c, .slice A' m c']) ds.length ds := by
  have e1 := h.rows.1.len
  have e2 := h.rows.2.len
  rw [HiL_length] at e1
  rw [LoL_length] at e2
  exact ⟨e1.symm, e2.symm, h, hd, rfl, h1, h6⟩
theorem FrG.ok {w : World} {v : Value} {n : Nat} {ds : List Int} (h : FrG w v n ds) (f : List Int → Option (List Int × Int)) : frOf (HiL ds) (LoL ds) f (f ds) := .inr ⟨ds, h.2.1, rfl, rfl, by have := h.2.2; omega, by have := h.2.2; omega, rfl⟩
theorem FrG.is {α : Type} {w : World} {v : Value} {n : Nat} {ds : List Int} (h : FrG w v n ds) (f : List Int → α) (z : α) : frIs (HiL ds) (LoL ds) f z (f ds) := .inr ⟨ds, h.2.1, rfl, rfl, by have := h.2.2; omega, by have := h.2.2; omega, rfl⟩

/-- a changed frame -/
def FrSome (w : World) (n : Nat) (r : List Int) (p : Int) (e : Ending) (w' : World) : Prop :=
  ∃ A c A' c', e = .returned (.tuple #[.agg #[.slice A n c, .slice A' n c'], .int .i64 p, .bool true]) ∧ FrG w' (.agg #[.slice A n c, .slice A' n c']) n r ∧ Below w.heap.size w w'
/-- none -/
def FrNone (w : World) (e : Ending) (w' : World) : Prop :=
  ∃ A c A' c', e = .returned (.tuple #[.agg #[.slice A 0 c, .slice A' 0 c'], .int .i64 0, .bool false]) ∧ FrV w' (.agg #[.slice A 0 c, .slice A' 0 c']) [] [] ∧ Below w.heap.size w w'
/-- a frame and that there is one -/
def FrGot (w : World) (n : Nat) (r : List Int) (e : Ending) (w' : World) : Prop :=
  ∃ A c A' c', e = .returned (.tuple #[.agg #[.slice A n c, .slice A' n c'], .bool true]) ∧ FrG w' (.agg #[.slice A n c, .slice A' n c']) n r ∧ Below w.heap.size w w'
def FrNot (w : World) (e : Ending) (w' : World) : Prop :=
  ∃ A c A' c', e = .returned (.tuple #[.agg #[.slice A 0 c, .slice A' 0 c'], .bool false]) ∧ FrV w' (.agg #[.slice A 0 c, .slice A' 0 c']) [] [] ∧ Below w.heap.size w w'
theorem FrRes.got {w w' : World} {n : Nat} {r : List Int} {p : Int} {e : Ending} (h : FrRes w (some (r, p)) e w') (hd : Fr.Digs r) (hl : r.length = n) (h1 : 1 ≤ n) (h6 : n ≤ 6) : FrSome w n r p e w' := by
  obtain ⟨A, c, A', c', he, hq, hb⟩ := h.out_
  simp only [resL, resN, Option.isSome_some, hl] at he hq
  exact ⟨A, c, A', c', he, ⟨hq.g.v, hd, hl, h1, h6⟩, hb⟩
theorem FrRes.not_ {w w' : World} {e : Ending} (h : FrRes w none e w') : FrNone w e w' := by
  obtain ⟨A, c, A', c', he, hq, hb⟩ := h.out_
  simp only [resL, resN, Option.isSome_none, List.length_nil] at he hq
  exact ⟨A, c, A', c', he, hq.g.v, hb⟩
theorem FrPair.got {w w' : World} {n : Nat} {r : List Int} {e : Ending} (h : FrPair w true r e w') (hd : Fr.Digs r) (hl : r.length = n) (h1 : 1 ≤ n) (h6 : n ≤ 6) : FrGot w n r e w' := by
  obtain ⟨⟨v, rfl, ho⟩, hb⟩ := h
  rw [if_pos rfl] at ho
  obtain ⟨A, c, A', c', rfl, -⟩ := id ho
  rw [hl]
  exact ⟨A, c, A', c', rfl, ⟨by have := ho.g.v; rwa [hl] at this, hd, hl, h1, h6⟩, hb⟩
theorem FrPair.not_ {w w' : World} {r : List Int} {e : Ending} (h : FrPair w false r e w') : FrNot w e w' := by
  obtain ⟨⟨v, rfl, ho⟩, hb⟩ := h
  rw [if_neg (by simp)] at ho
  obtain ⟨A, c, A', c', rfl, -⟩ := id ho
  exact ⟨A, c, A', c', rfl, ho.g.v, hb⟩

section
variable {w : World} {A A' B B' : Option Addr} {n m c c' d d' : Nat} {hs ls ds es r : List Int} {k x N p : Int}
theorem sum_g (hv : FrG w (.agg #[.slice A n c, .slice A' n c']) n ds) (h : frBy 1 ds N = some (r, p)) : Calls Tryz.prog 19 #[.agg #[.slice A n c, .slice A' n c'], .int .i64 N] w (FrSome w n r p) := by
  obtain ⟨e1, e2, -⟩ := frBy_some (.inl rfl) hv.2.1 h
  have := FrameSum_any A A' n n c c' _ _ N _ w hv.1.rows.1 hv.1.rows.2 (hv.ok _)
  rw [h] at this
  exact this.mono fun _ _ q => q.got e1 (e2.trans hv.2.2.1) hv.2.2.2.1 hv.2.2.2.2
theorem less_g (hv : FrG w (.agg #[.slice A n c, .slice A' n c']) n ds) (h : frBy (-1) ds N = some (r, p)) : Calls Tryz.prog 20 #[.agg #[.slice A n c, .slice A' n c'], .int .i64 N] w (FrSome w n r p) := by
  obtain ⟨e1, e2, -⟩ := frBy_some (.inr rfl) hv.2.1 h
  have := FrameLess_any A A' n n c c' _ _ N _ w hv.1.rows.1 hv.1.rows.2 (hv.ok _)
  rw [h] at this
  exact this.mono fun _ _ q => q.got e1 (e2.trans hv.2.2.1) hv.2.2.2.1 hv.2.2.2.2
theorem specsum_g (hv : FrG w (.agg #[.slice A n c, .slice A' n c']) n ds) (h : frBy 1 ds N = some (r, p)) : Calls Tryz.prog 135 #[.agg #[.slice A n c, .slice A' n c'], .int .i64 N] w (FrSome w n r p) := by
  obtain ⟨e1, e2, -⟩ := frBy_some (.inl rfl) hv.2.1 h
  have := specFrameSum_any A A' n n c c' _ _ N _ w hv.1.rows.1 hv.1.rows.2 (hv.ok _)
  rw [h] at this
  exact this.mono fun _ _ q => q.got e1 (e2.trans hv.2.2.1) hv.2.2.2.1 hv.2.2.2.2
theorem specless_g (hv : FrG w (.agg #[.slice A n c, .slice A' n c']) n ds) (h : frBy (-1) ds N = some (r, p)) : Calls Tryz.prog 136 #[.agg #[.slice A n c, .slice A' n c'], .int .i64 N] w (FrSome w n r p) := by
  obtain ⟨e1, e2, -⟩ := frBy_some (.inr rfl) hv.2.1 h
  have := specFrameLess_any A A' n n c c' _ _ N _ w hv.1.rows.1 hv.1.rows.2 (hv.ok _)
  rw [h] at this
  exact this.mono fun _ _ q => q.got e1 (e2.trans hv.2.2.1) hv.2.2.2.1 hv.2.2.2.2
theorem specdigit_g {j : Nat} {g : Int} (hv : FrG w (.agg #[.slice A n c, .slice A' n c']) n ds) (h : ds[j]? = some g) : Calls Tryz.prog 211 #[.agg #[.slice A n c, .slice A' n c'], .int .i64 (j : Int)] w fun e w' => e = .returned (.int .i64 g) ∧ Below w.heap.size w w' := by
  have := specFrameDigit_any A A' n n c c' _ _ (j : Int) _ w hv.1.rows.1 hv.1.rows.2 (hv.is (fun ds => digAt ds (j : Int)) _)
  rwa [digAt_in h] at this
theorem both_zero {a b : Int} (h : a = 0 ↔ b = 0) : ((a == 0) == (b == 0)) = true := by
  have e : (a == 0) = (b == 0) := by rw [Bool.eq_iff_iff, beq_iff_eq, beq_iff_eq]; exact h
  rw [e]; exact beq_self_eq_true _
/-- whether there is a change -/
theorem frOf_cases (hs ls : List Int) (f : List Int → Option (List Int × Int)) : frOf hs ls f none ∨ ∃ ds r p, Fr.Digs ds ∧ hs = HiL ds ∧ ls = LoL ds ∧ 1 ≤ ds.length ∧ ds.length ≤ 6 ∧ f ds = some (r, p) := by
  by_cases h : FrOk hs ls
  · obtain ⟨ds, h1, h2, h3, h4, h5⟩ := h
    cases hq : f ds with
    | none => exact .inl (.inr ⟨ds, h1, h2, h3, h4, h5, hq.symm⟩)
    | some q => exact .inr ⟨ds, q.1, q.2, h1, h2, h3, h4, h5, hq⟩
  · exact .inl (.inl ⟨h, rfl⟩)
theorem frIs_digit (hs ls : List Int) (k : Int) : frIs hs ls (fun ds => digAt ds k) (-1) (-1) ∨ ∃ ds, ∃ (j : Nat) (g : Int), Fr.Digs ds ∧ hs = HiL ds ∧ ls = LoL ds ∧ 1 ≤ ds.length ∧ ds.length ≤ 6 ∧ k = (j : Int) ∧ ds[j]? = some g := by
  by_cases h : FrOk hs ls
  · obtain ⟨ds, h1, h2, h3, h4, h5⟩ := h
    by_cases hk : 0 ≤ k ∧ k < ds.length
    · obtain ⟨j, rfl⟩ := Int.eq_ofNat_of_zero_le hk.1
      exact .inr ⟨ds, j, ds[j]'(by omega), h1, h2, h3, h4, h5, rfl, List.getElem?_eq_getElem _⟩
    · exact .inl (.inr ⟨ds, h1, h2, h3, h4, h5, (digAt_out hk).symm⟩)
  · exact .inl (.inl ⟨h, rfl⟩)
/-- a frame that is valid, as it was drawn -/
theorem FrV.good {A A' : Option Addr} {m : Nat} (h : FrV w (.agg #[.slice A n c, .slice A' m c']) (HiL ds) (LoL ds)) (hd : Fr.Digs ds) (h1 : 1 ≤ ds.length) (h6 : ds.length ≤ 6) : n = m ∧ ds.length = n ∧ FrG w (.agg #[.slice A n c, .slice A' m c']) n ds := by
  obtain ⟨e1, e2, hg⟩ := h.g hd h1 h6
  subst e1
  exact ⟨e2.symm, rfl, hg⟩
theorem rows_at {j : Nat} {g : Int} (h : FrG w (.agg #[.slice A n c, .slice A' n c']) n ds) (hg : ds[j]? = some g) : ∃ b o b' o', A = some ⟨b, o, none⟩ ∧ A' = some ⟨b', o', none⟩ ∧ b < w.heap.size ∧ b' < w.heap.size ∧ j < n ∧ w.cell? ⟨b, o + j, none⟩ = some (.int .i64 (g / 5)) ∧ w.cell? ⟨b', o' + j, none⟩ = some (.int .i64 (g % 5)) := by
  have hj := (List.getElem?_eq_some_iff.1 hg).1
  have hl := h.2.2.1
  obtain ⟨b, o, rfl, hb, hx⟩ := h.1.rows.1.addr (by omega)
  obtain ⟨b', o', rfl, hb', hy⟩ := h.1.rows.2.addr (by omega)
  exact ⟨b, o, b', o', rfl, rfl, hb, hb', by omega, hx j _ (by simp [HiL, hg]), hy j _ (by simp [LoL, hg])⟩
theorem rows_cell {j b o b' o' : Nat} {g : Int} (h : FrG w (.agg #[.slice (some ⟨b, o, none⟩) n c, .slice (some ⟨b', o', none⟩) n c']) n ds) (hg : ds[j]? = some g) : b < w.heap.size ∧ b' < w.heap.size ∧ w.cell? ⟨b, o + j, none⟩ = some (.int .i64 (g / 5)) ∧ w.cell? ⟨b', o' + j, none⟩ = some (.int .i64 (g % 5)) := by
  obtain ⟨b2, o2, b3, o3, e1, e2, h1, h2, -, h3, h4⟩ := rows_at h hg
  injection e1 with e1
  injection e2 with e2
  injection e1 with e1 e3
  injection e2 with e2 e4
  subst e1 e2 e3 e4
  exact ⟨h1, h2, h3, h4⟩
end
end Go.Proofs.YthdoofmfigemoaaGreatDoor
end

section
/-
  The text of a frame: the program's and the reference's; numbers as decimals.
-/
namespace Go.Proofs.YthdoofmfigemoaaGreatDoor
open Go.RowKit

/-- the digits, from the last rod on -/
def digText (ds : List Int) : List UInt8 := ds.reverse.map fun d => UInt8.ofNat (48 + d.toNat)
theorem digText_length (ds : List Int) : (digText ds).length = ds.length := by simp [digText]
theorem digText_cons (d : Int) (ds : List Int) : digText (d :: ds) = digText ds ++ [UInt8.ofNat (48 + d.toNat)] := by simp [digText]
theorem digText_inj : ∀ (xs ys : List Int), Fr.Digs xs → Fr.Digs ys → digText xs = digText ys → xs = ys := by
  intro xs ys hx hy h
  have h2 : xs.reverse.map (fun d => UInt8.ofNat (48 + d.toNat)) = ys.reverse.map (fun d => UInt8.ofNat (48 + d.toNat)) := h
  have key : ∀ (l r : List Int), (∀ d ∈ l, 0 ≤ d ∧ d ≤ 9) → (∀ d ∈ r, 0 ≤ d ∧ d ≤ 9) → l.map (fun d => UInt8.ofNat (48 + d.toNat)) = r.map (fun d => UInt8.ofNat (48 + d.toNat)) → l = r := by
    intro l
    induction l with
    | nil => intro r _ _ h; cases r with | nil => rfl | cons a r => simp at h
    | cons a l ih =>
      intro r h1 h2 h
      cases r with
      | nil => simp at h
      | cons b r =>
        simp only [List.map_cons, List.cons.injEq] at h
        have ha := h1 a (by simp)
        have hb := h2 b (by simp)
        have e : (UInt8.ofNat (48 + a.toNat)).toNat = (UInt8.ofNat (48 + b.toNat)).toNat := congrArg UInt8.toNat h.1
        simp only [UInt8.toNat_ofNat'] at e
        rw [show a = b from by omega, ih r (fun d hd => h1 d (by simp [hd])) (fun d hd => h2 d (by simp [hd])) h.2]
  have := key _ _ (fun d hd => hx d (List.mem_reverse.1 hd)) (fun d hd => hy d (List.mem_reverse.1 hd)) h2
  simpa using this
theorem digText_drop {ds : List Int} {k : Nat} {d : Int} (h : ds[k]? = some d) : digText (ds.drop k) = digText (ds.drop (k + 1)) ++ [UInt8.ofNat (48 + d.toNat)] := by rw [drop_cons h, digText_cons]

/-- string([]byte{b}) -/
theorem conv_one (w : World) (b : UInt8) : (convert 22 9 (.slice (some ⟨w.heap.size, 0, none⟩) 1 1)).run Tryz.prog (w.alloc (.cells #[.int .u8 (b.toNat : Int)] 5)) = .ok (.string (txt [b])) (w.alloc (.cells #[.int .u8 (b.toNat : Int)] 5)) := by
  have := run_convert_bytes_back (P := Tryz.prog) (w.alloc (.cells #[.int .u8 (b.toNat : Int)] 5)) 22 9 5 ⟨w.heap.size, 0, none⟩ 1 [b] Tryz.underlying22 Tryz.underlying5 Tryz.underlying9 (by
    intro j hj
    obtain rfl : j = 0 := by simpa using hj
    rw [add_row, cell_of_row _ w.heap.size 0 _ _ _ (heap_alloc_new w _)]
    rfl)
  exact this

set_option maxRecDepth 100000 in
set_option maxHeartbeats 1000000 in
/-- one digit, by the reference -/
theorem l6Dec_dig (d : Int) (h0 : 0 ≤ d) (h9 : d ≤ 9) (w : World) : Calls Tryz.prog 53 #[.int .i64 d] w fun e w' => e = .returned (.string (txt [UInt8.ofNat (48 + d.toNat)])) ∧ Below w.heap.size w w' := by
  obtain ⟨b, hb⟩ : ∃ b, UInt8.ofNat (48 + d.toNat) = b := ⟨_, rfl⟩
  have hbn : (b.toNat : Int) = 48 + d := by rw [← hb, UInt8.toNat_ofNat']; omega
  have hcv : ∀ w : World, (convert 22 9 (.slice (some ⟨w.heap.size, 0, none⟩) 1 1)).run Tryz.prog (w.alloc (.cells #[.int .u8 (48 + d)] 5)) = .ok (.string (txt [b])) (w.alloc (.cells #[.int .u8 (48 + d)] 5)) := fun w => by
    have := conv_one w b
    rwa [hbn] at this
  have h1 : ¬ (d < -9223372036854775807) := by omega
  have h2 : ¬ (d < 0) := by omega
  have h3 : d < 10 := by omega
  rw [hb]
  clear hb hbn
  go_enter Tryz.func53, Tryz.ntmps53
  go_wp2
  go_ret
  exact ⟨rfl, (Below.refl _ _).alloc (Nat.le_refl _) _⟩
/-- one digit, by the library -/
theorem itoa_dig (d : Int) (h0 : 0 ≤ d) (h9 : d ≤ 9) (w : World) : Calls Tryz.prog 47 #[.int .i64 d] w fun e w' => e = .returned (.string (txt [UInt8.ofNat (48 + d.toNat)])) ∧ w = w' := by
  obtain ⟨k, rfl⟩ := Int.eq_ofNat_of_zero_le h0
  have := Tryz.strconv_Itoa_small k (by omega) w
  rw [Lib.decDigits_one (by omega)] at this
  exact this.mono fun _ _ h => ⟨h.1, h.2.symm⟩
theorem cat_fact {a b c : List UInt8} (h : a ++ b = c) (hl : c.length ≤ 1000000000) : txt a ++ txt b = txt c ∧ ¬ ((txt a).size + (txt b).size > 9223372036854775807) := by
  subst h
  rw [List.length_append] at hl
  exact ⟨txt_append a b, by rw [txt_size, txt_size]; omega⟩

set_option maxRecDepth 100000 in
set_option maxHeartbeats 2000000 in
theorem FrameText_yes (A A' : Option Addr) (n c c' : Nat) (ds : List Int) (w : World) (hx : Ints w w.heap.size A n (HiL ds)) (hy : Ints w w.heap.size A' n (LoL ds)) (hds : Fr.Digs ds) (h1 : 1 ≤ n) (h6 : n ≤ 6) :
    Calls Tryz.prog 22 #[.agg #[.slice A n c, .slice A' n c']] w fun e w' => e = .returned (.string (txt (digText ds))) ∧ Below w.heap.size w w' := by
  have hl : ds.length = n := by have := hx.len; rwa [HiL_length] at this
  have HN := Lib.hid hl
  have HX := Lib.hid hx
  have HY := Lib.hid hy
  have HD := Lib.hid hds
  clear hx hy hds hl
  go_enter Tryz.func22, Tryz.ntmps22
  go_wp2_with fail
  refine (rodsOf_yes A A' n c c' ds _ (HX.out.al _) (HY.out.al _) HD.out h1 h6).mono ?_
  rintro e w1 ⟨⟨g, h, rfl, hr⟩, hb1⟩
  have hsl := hr.slice
  rw [HN.out] at hsl
  have HB := Lib.hid (((Below.refl w.heap.size w).alloc (Nat.le_refl _) _).trans (hb1.mono (by simp)))
  have HR := Lib.hid hr
  clear hr hb1
  go_wp2
  go_loopw [5, 6] (fun tv kv wr => ∃ (j q : Nat) (t : ByteArray), j ≤ n ∧ tv = .string t ∧ kv = .int .i64 ((j : Int) - 1) ∧ t = txt (digText (ds.drop j)) ∧ wr = w1.drewN q) (fun _ kv _ => (intOf kv + 1).toNat)
  case atStart => exact ⟨n, 0, _, by omega, rfl, rfl, by rw [List.drop_of_length_le (by have := HN.out; omega)]; rfl, rfl⟩
  case round =>
    obtain ⟨j, q, t, hj, rfl, rfl, ht, rfl⟩ := hrel
    have HT := Lib.hid ht
    clear ht
    by_cases h0 : 0 < j
    · obtain ⟨i, rfl⟩ : ∃ i, j = i + 1 := ⟨j - 1, by omega⟩
      obtain ⟨d, hd⟩ : ∃ d, ds[i]? = some d := ⟨_, List.getElem?_eq_getElem (by have := HN.out; omega)⟩
      obtain ⟨d0, d9⟩ := HD.out d (List.mem_of_getElem? hd)
      obtain ⟨hcat, hno⟩ := cat_fact (digText_drop hd).symm (by rw [digText_length, List.length_drop]; have := HN.out; omega)
      rw [← HT.out] at hcat hno
      obtain ⟨u, hu⟩ : ∃ u, txt [UInt8.ofNat (48 + d.toNat)] = u := ⟨_, rfl⟩
      obtain ⟨v, hv⟩ : ∃ v, txt (digText (ds.drop i)) = v := ⟨_, rfl⟩
      have hit := fun w => itoa_dig d d0 d9 w
      rw [hu] at hcat hno hit
      rw [hv] at hcat
      have e1 : ((i + 1 : Nat) : Int) - 1 = (i : Int) := by omega
      rw [e1]
      have HDD := Lib.hid hd
      have HV := Lib.hid hv
      have HIT := Lib.hid hit
      clear hd e1 hu hv hit
      go_wp2_with fail
      refine (rod_digit (HR.out.drewN _) HDD.out d0 d9).mono ?_
      rintro e w2 ⟨rfl, q2, rfl⟩
      go_wp2_with fail
      refine (HIT.out _).mono ?_
      rintro e w' ⟨rfl, rfl⟩
      go_wp2
      go_roundw
      case rel =>
        exact ⟨i, _, v, by omega, rfl, by go_num, HV.out.symm, rfl⟩
      case measure => simp [intOf]
    · obtain rfl : j = 0 := by omega
      have e1 : ((0 : Nat) : Int) - 1 = -1 := rfl
      rw [e1]
      clear e1
      go_wp2
      go_ret
      exact ⟨by rw [HT.out, List.drop_zero]; exact rfl, below_drewN HB.out _⟩
set_option maxRecDepth 100000 in
set_option maxHeartbeats 1000000 in
theorem FrameText_no (A A' : Option Addr) (n m c c' : Nat) (hs ls : List Int) (w : World) (hx : Ints w w.heap.size A n hs) (hy : Ints w w.heap.size A' m ls) (hno : ¬ FrOk hs ls) :
    Calls Tryz.prog 22 #[.agg #[.slice A n c, .slice A' m c']] w fun e w' => e = .returned (.string ⟨#[]⟩) ∧ Below w.heap.size w w' := by
  have HX := Lib.hid hx
  have HY := Lib.hid hy
  have HN := Lib.hid hno
  clear hx hy hno
  go_enter Tryz.func22, Tryz.ntmps22
  go_wp2_with fail
  refine (rodsOf_no A A' n m c c' hs ls _ (HX.out.al _) (HY.out.al _) HN.out).mono ?_
  rintro e w1 ⟨rfl, hb1⟩
  have HB := Lib.hid (((Below.refl w.heap.size w).alloc (Nat.le_refl _) _).trans (hb1.mono (by simp)))
  clear hb1
  go_wp2
  go_ret
  exact ⟨rfl, HB.out⟩

set_option maxRecDepth 100000 in
set_option maxHeartbeats 2000000 in
theorem specFrameText_yes (A A' : Option Addr) (n c c' : Nat) (ds : List Int) (w : World) (hx : Ints w w.heap.size A n (HiL ds)) (hy : Ints w w.heap.size A' n (LoL ds)) (hds : Fr.Digs ds) (h1 : 1 ≤ n) (h6 : n ≤ 6) :
    Calls Tryz.prog 177 #[.agg #[.slice A n c, .slice A' n c']] w fun e w' => e = .returned (.string (txt (digText ds))) ∧ Below w.heap.size w w' := by
  have hl : ds.length = n := by have := hx.len; rwa [HiL_length] at this
  have HN := Lib.hid hl
  have HD := Lib.hid hds
  obtain ⟨W, hW⟩ : ∃ W, w.alloc (.cells #[.slice A n c, .slice A' n c'] 30) = W := ⟨_, rfl⟩
  have HX := Lib.hid (hW ▸ hx.al (.cells #[.slice A n c, .slice A' n c'] 30))
  have HY := Lib.hid (hW ▸ hy.al (.cells #[.slice A n c, .slice A' n c'] 30))
  have HBX := Lib.hid (hW ▸ FBox.new w (.slice A n c) (.slice A' n c'))
  have HB := Lib.hid (hW ▸ (Below.refl w.heap.size w).alloc (Nat.le_refl _) (.cells #[.slice A n c, .slice A' n c'] 30))
  have HW := Lib.hid hW
  have c0 := HBX.out.fst
  have c1 := HBX.out.snd
  have cl := HBX.out.lt
  clear hx hy hds hl hW
  go_enter Tryz.func177, Tryz.ntmps177
  go_upto_region 1 with fail
  rw [HW.out]
  go_wp2_with fail
  go_loopw [3, 4] (fun tv kv wr => ∃ (j : Nat) (t : ByteArray), j ≤ n ∧ tv = .string t ∧ kv = .int .i64 ((j : Int) - 1) ∧ t = txt (digText (ds.drop j)) ∧ SB W wr) (fun _ kv _ => (intOf kv + 1).toNat)
  case atStart => exact ⟨n, _, by omega, rfl, rfl, by rw [List.drop_of_length_le (by have := HN.out; omega)]; rfl, SB.refl W⟩
  case round =>
    obtain ⟨j, t, hj, rfl, rfl, ht, hsb⟩ := hrel
    have HT := Lib.hid ht
    have hbr := HBX.out.next hsb
    have r0 := hbr.fst
    have r1 := hbr.snd
    have rl := hbr.lt
    have HBR := Lib.hid hbr
    have HXR := Lib.hid (HX.out.next hsb)
    have HYR := Lib.hid (HY.out.next hsb)
    have HSB := Lib.hid hsb
    clear ht hbr hsb c0 c1 cl
    by_cases h0 : 0 < j
    · obtain ⟨i, rfl⟩ : ∃ i, j = i + 1 := ⟨j - 1, by omega⟩
      obtain ⟨d, hd⟩ : ∃ d, ds[i]? = some d := ⟨_, List.getElem?_eq_getElem (by have := HN.out; omega)⟩
      obtain ⟨d0, d9⟩ := HD.out d (List.mem_of_getElem? hd)
      obtain ⟨hcat, hno⟩ := cat_fact (digText_drop hd).symm (by rw [digText_length, List.length_drop]; have := HN.out; omega)
      rw [← HT.out] at hcat hno
      obtain ⟨u, hu⟩ : ∃ u, txt [UInt8.ofNat (48 + d.toNat)] = u := ⟨_, rfl⟩
      obtain ⟨v, hv⟩ : ∃ v, txt (digText (ds.drop i)) = v := ⟨_, rfl⟩
      have hit := fun w => l6Dec_dig d d0 d9 w
      rw [hu] at hcat hno hit
      rw [hv] at hcat
      have e1 : ((i + 1 : Nat) : Int) - 1 = (i : Int) := by omega
      rw [e1]
      have HDD := Lib.hid (show digAt ds (i : Int) = d from digAt_in hd)
      have HV := Lib.hid hv
      have HIT := Lib.hid hit
      clear hd e1 hu hv hit
      go_wp2_with fail
      refine (specFrameValid_yes A A' n c c' ds _ HXR.out HYR.out HD.out h1 h6).mono ?_
      rintro e w2 ⟨rfl, hb2⟩
      have hbr := HBR.out.next hb2
      have r20 := hbr.fst
      have r21 := hbr.snd
      have r2l := hbr.lt
      have HBR2 := Lib.hid hbr
      have HXR2 := Lib.hid (HXR.out.next hb2)
      have HYR2 := Lib.hid (HYR.out.next hb2)
      have HSB2 := Lib.hid (SB.below HSB.out hb2)
      clear hbr hb2 r0 r1 rl
      go_wp2_with fail
      refine (specFrameDigit_any A A' n n c c' _ _ (i : Int) d _ HXR2.out HYR2.out (.inr ⟨ds, HD.out, rfl, rfl, by have := HN.out; omega, by have := HN.out; omega, HDD.out.symm⟩)).mono ?_
      rintro e w3 ⟨rfl, hb3⟩
      have HSB3 := Lib.hid (SB.below HSB2.out hb3)
      clear hb3 r20 r21 r2l
      go_wp2_with fail
      refine (HIT.out _).mono ?_
      rintro e w4 ⟨rfl, hb4⟩
      have HSB4 := Lib.hid (SB.below HSB3.out hb4)
      clear hb4
      go_wp2
      go_roundw
      case rel => exact ⟨i, v, by omega, rfl, by go_num, HV.out.symm, HSB4.out⟩
      case measure => simp [intOf]
    · obtain rfl : j = 0 := by omega
      have e1 : ((0 : Nat) : Int) - 1 = -1 := rfl
      rw [e1]
      clear e1
      go_wp2
      go_ret
      exact ⟨by rw [HT.out, List.drop_zero]; exact rfl, HB.out.trans (Below.mono HSB.out HB.out.size)⟩
set_option maxRecDepth 100000 in
set_option maxHeartbeats 1000000 in
theorem specFrameText_no (A A' : Option Addr) (n m c c' : Nat) (hs ls : List Int) (w : World) (hx : Ints w w.heap.size A n hs) (hy : Ints w w.heap.size A' m ls) (hno : ¬ FrOk hs ls) (hn : 1 ≤ n) (hn2 : n ≤ 1000000) :
    Calls Tryz.prog 177 #[.agg #[.slice A n c, .slice A' m c']] w fun e w' => e = .returned (.string ⟨#[]⟩) ∧ Below w.heap.size w w' := by
  have HX := Lib.hid hx
  have HY := Lib.hid hy
  have HN := Lib.hid hno
  clear hx hy hno
  go_enter Tryz.func177, Tryz.ntmps177
  go_wp2_with fail
  refine wp_loop_rounds 1 ?_
  rw [rounds_succ]
  go_wp2_with fail
  refine (specFrameValid_no A A' n m c c' hs ls _ (HX.out.al _) (HY.out.al _) HN.out).mono ?_
  rintro e w1 ⟨rfl, hb1⟩
  have HB := Lib.hid (((Below.refl w.heap.size w).alloc (Nat.le_refl _) _).trans (hb1.mono (by simp)))
  clear hb1
  go_wp2
  go_ret
  exact ⟨rfl, HB.out⟩
section
variable {w : World} {A A' : Option Addr} {n c c' : Nat} {ds : List Int} {t : ByteArray}
theorem text_g (hv : FrG w (.agg #[.slice A n c, .slice A' n c']) n ds) (h : txt (digText ds) = t) : Calls Tryz.prog 22 #[.agg #[.slice A n c, .slice A' n c']] w fun e w' => e = .returned (.string t) ∧ Below w.heap.size w w' :=
  h ▸ FrameText_yes A A' n c c' ds w hv.1.rows.1 hv.1.rows.2 hv.2.1 hv.2.2.2.1 hv.2.2.2.2
theorem spectext_g (hv : FrG w (.agg #[.slice A n c, .slice A' n c']) n ds) (h : txt (digText ds) = t) : Calls Tryz.prog 177 #[.agg #[.slice A n c, .slice A' n c']] w fun e w' => e = .returned (.string t) ∧ Below w.heap.size w w' :=
  h ▸ specFrameText_yes A A' n c c' ds w hv.1.rows.1 hv.1.rows.2 hv.2.1 hv.2.2.2.1 hv.2.2.2.2
end
end Go.Proofs.YthdoofmfigemoaaGreatDoor
end

section
/-
  strconv.Itoa under the laid table of powers of ten; the commands that tell a number or the frame: value, frameText, setFrame, add, take.
-/
namespace Go.Proofs.YthdoofmfigemoaaGreatDoor
open Go.RowKit
set_option linter.unusedSimpArgs false
set_option maxRecDepth 100000

/-- the powers of ten lie below block B -/
def Pow (B : Nat) (w : World) : Prop := ∀ w', Below B w w' → Lib.TabIs Tryz.prog w' "internal/strconv.uint64pow10" .u64 Lib.pow10Tab
theorem Pow.below {B : Nat} {w w' : World} (h : Pow B w) (hb : Below B w w') : Pow B w' := fun w2 hb2 => h w2 (hb.trans hb2)
def dec (n : Int) : ByteArray := ⟨(Lib.itoa n).toArray⟩
theorem decDigits_len : ∀ (k u : Nat), u < 10 ^ k → 1 ≤ k → (Lib.decDigits u).length ≤ k
  | 0, _, _, h => absurd h (by omega)
  | k + 1, u, h, _ => by
    unfold Lib.decDigits
    split
    · simp
    · have hk : 1 ≤ k := by
        rcases Nat.eq_zero_or_pos k with rfl | h'
        · simp at h; omega
        · exact h'
      have := decDigits_len k (u / 10) (by rw [Nat.pow_succ] at h; omega) hk
      simp; exact this
theorem dec_size (n : Int) (h0 : -9223372036854775808 ≤ n) (h1 : n ≤ 9223372036854775807) : (dec n).size ≤ 20 := by
  have e : (dec n).size = (Lib.itoa n).length := by show (Lib.itoa n).toArray.size = _; simp
  rw [e]
  unfold Lib.itoa
  split
  · have := decDigits_len 19 n.natAbs (by omega) (by omega)
    simp; exact this
  · have := decDigits_len 19 n.toNat (by omega) (by omega)
    omega
theorem no_long {n : Nat} (h : n ≤ 1000000) (k : Nat) (hk : k ≤ 1000000) : ¬ 9223372036854775807 < n + k := by omega
theorem Itoa_any {B : Nat} {w : World} (h : Pow B w) (n : Int) (h0 : -9223372036854775808 ≤ n) (h1 : n ≤ 9223372036854775807) : Calls Tryz.prog 47 #[.int .i64 n] w fun e w' => e = .returned (.string (dec n)) ∧ Below w.heap.size w w' := by
  refine (Tryz.strconv_Itoa n h0 h1 w (h w (Below.refl _ _))).mono ?_
  rintro e w' ⟨rfl, k, os, rfl⟩
  exact ⟨rfl, Lib.below_grow _ w (Nat.le_refl _) k os⟩
/-- what a telling command leaves: the table as it is -/
def Tell (B0 tb : Nat) (bs ds : List Int) (ts : List Tl) (t : ByteArray) (s : ByteArray) (ok : Bool) (w' : World) : Prop := ok = true ∧ s = t ++ ⟨#[10]⟩ ∧ Tab B0 w' tb bs ds ts
theorem value_cmd (B0 tb : Nat) (bs ds : List Int) (ts : List Tl) (v : Value) (w : World) (h : Tab B0 w tb bs ds ts) (hw : B0 ≤ w.heap.size) (hp : Pow B0 w) (hv : -9223372036854775808 ≤ bVal bs ∧ bVal bs ≤ 9223372036854775807) :
    Calls Tryz.prog 160 #[.pointer (some ⟨tb, 0, none⟩), v] w (CmdPost B0 (Tell B0 tb bs ds ts (dec (bVal bs))) w) := by
  obtain ⟨hB0, Ab, nb, cb, A, c, A', c', At, nt, ct, g0, g1, g2, g3, g4⟩ := id h
  have hlong := no_long (n := (dec (bVal bs)).size) (by have := dec_size (bVal bs) hv.1 hv.2; omega) 1 (by omega)
  have HT := Lib.hid h
  have c0 := g0.cell (j := 0) (v := .slice Ab nb cb) rfl
  have HI := Lib.hid g1.ints
  have HW := Lib.hid hw
  have HP := Lib.hid hp
  have HV := Lib.hid hv
  clear h hB0 g0 g1 g2 g3 g4 hw hp hv
  go_enter Tryz.func160, Tryz.ntmps160
  go_wp2_with (first
    | (go_at_call 48; refine (BoardValue_any Ab nb cb bs _ HI.out).mono ?_; rintro e w1 ⟨rfl, hb1⟩)
    | (go_at_call 47; refine (Itoa_any (HP.out.below (hb1.mono HW.out)) (bVal bs) HV.out.1 HV.out.2).mono ?_; rintro e w2 ⟨rfl, hb2⟩))
  refine bodyPost_ret (v := .tuple #[.string (dec (bVal bs) ++ ⟨#[10]⟩), .bool true]) (by simp [results, Tryz.results160, go_sem]) rfl ?_
  refine ⟨_, _, rfl, ⟨rfl, rfl, (HT.out.next hb1).next hb2⟩, (KeptT.of_below hb1).trans (KeptT.of_below hb2)⟩
theorem frameText_cmd (B0 tb : Nat) (bs ds : List Int) (ts : List Tl) (v : Value) (w : World) (h : Tab B0 w tb bs ds ts) (hd : Fr.Digs ds) (h4 : ds.length = 4) :
    Calls Tryz.prog 163 #[.pointer (some ⟨tb, 0, none⟩), v] w (CmdPost B0 (Tell B0 tb bs ds ts (txt (digText ds))) w) := by
  obtain ⟨hB0, Ab, nb, cb, A, c, A', c', At, nt, ct, g0, g1, g2, g3, g4⟩ := id h
  have hlong := no_long (n := (txt (digText ds)).size) (by rw [txt_size, digText_length]; omega) 1 (by omega)
  have HT := Lib.hid h
  have c1 := g0.cell (j := 1) (v := .slice A 4 c) rfl
  have c2 := g0.cell (j := 2) (v := .slice A' 4 c') rfl
  have HG := Lib.hid (show FrG w (.agg #[.slice A 4 c, .slice A' 4 c']) 4 ds from ⟨⟨A, 4, c, A', 4, c', rfl, g2.ints, g3.ints⟩, hd, h4, by omega, by omega⟩)
  clear h hB0 g0 g1 g2 g3 g4 hd
  go_enter Tryz.func163, Tryz.ntmps163
  go_wp2_with (first
    | (go_at_call 22; refine (text_g HG.out rfl).mono ?_; rintro e w1 ⟨rfl, hb1⟩))
  refine bodyPost_ret (v := .tuple #[.string (txt (digText ds) ++ ⟨#[10]⟩), .bool true]) (by simp [results, Tryz.results163, go_sem]) rfl ?_
  exact ⟨_, _, rfl, ⟨rfl, rfl, HT.out.next hb1⟩, KeptT.of_below hb1⟩
end Go.Proofs.YthdoofmfigemoaaGreatDoor
end

section
/-
  The commands that change the frame: setFrame, add, take.
-/
namespace Go.Proofs.YthdoofmfigemoaaGreatDoor
open Go.RowKit
set_option linter.unusedSimpArgs false
set_option maxRecDepth 100000

/-- the table behind a command of the frame -/
def FrameCmd (B0 tb : Nat) (bs ds : List Int) (ts : List Tl) (R : Option (List Int × Int)) (s : ByteArray) (ok : Bool) (w' : World) : Prop :=
  ok = R.isSome ∧ (s = match R with | none => ⟨#[]⟩ | some (_, p) => dec p ++ ⟨#[10]⟩) ∧ Tab B0 w' tb bs (match R with | none => ds | some (es, _) => es) ts
theorem setFrame_no (w : World) (t : Option Addr) (A A' : Option Addr) (n c n' c' : Nat) (p : Int) :
    Calls Tryz.prog 198 #[.pointer t, .agg #[.slice A n c, .slice A' n' c'], .int .i64 p, .bool false] w fun e w' => e = .returned (.tuple #[.string ⟨#[]⟩, .bool false]) ∧ Below w.heap.size w w' := by
  go_enter Tryz.func198, Tryz.ntmps198
  go_wp2
  go_ret2
  exact ⟨rfl, (Below.refl _ _).alloc (Nat.le_refl _) _⟩
theorem setFrame_yes {B0 : Nat} {w : World} {tb : Nat} {bs ds es : List Int} {ts : List Tl} (h : Tab B0 w tb bs ds ts) (hw : B0 ≤ w.heap.size) (hp : Pow B0 w) {A A' : Option Addr} {c c' : Nat} (h1 : Own w B0 A 4 c (HiL es)) (h2 : Own w B0 A' 4 c' (LoL es)) (p : Int) (p0 : -9223372036854775808 ≤ p) (p1 : p ≤ 9223372036854775807) :
    Calls Tryz.prog 198 #[.pointer (some ⟨tb, 0, none⟩), .agg #[.slice A 4 c, .slice A' 4 c'], .int .i64 p, .bool true] w (CmdPost B0 (fun s ok w' => ok = true ∧ s = dec p ++ ⟨#[10]⟩ ∧ Tab B0 w' tb bs es ts) w) := by
  obtain ⟨hB0, Ab, nb, cb, Az, cz, Az', cz', At, nt, ct, g0, g1, g2, g3, g4⟩ := id h
  have hlong := no_long (n := (dec p).size) (by have := dec_size p p0 p1; omega) 1 (by omega)
  obtain ⟨W, hW⟩ : ∃ W, w.alloc (.cells #[.slice A 4 c, .slice A' 4 c'] 30) = W := ⟨_, rfl⟩
  have hbl : Below w.heap.size w W := by rw [← hW]; exact (Below.refl _ _).alloc (Nat.le_refl _) _
  have HT := Lib.hid ((h.next hbl).setFrame (h1.r.next hbl) (h2.r.next hbl))
  have k0 := g0.next hbl
  have c1 := k0.cell (j := 1) (v := .slice Az 4 cz) rfl
  have c2 := k0.cell (j := 2) (v := .slice Az' 4 cz') rfl
  have f1 := k0.free 1
  have f2 := k0.free 2
  have hk : KeptT B0 w ((W.setCell ⟨tb, 1, none⟩ (.slice A 4 c)).setCell ⟨tb, 2, none⟩ (.slice A' 4 c')) := ((KeptT.of_below hbl).trans (KeptT.set k0 hB0 _ _)).trans (KeptT.set (k0.set 1 _) hB0 _ _)
  have HK := Lib.hid hk
  have HP := Lib.hid (hp.below (hk.below hw))
  have b0 : W.cell? ⟨w.heap.size, 0, none⟩ = some (.slice A 4 c) := by rw [← hW]; exact (Blk.new w _ _).cell rfl
  have b1 : W.cell? ⟨w.heap.size, 1, none⟩ = some (.slice A' 4 c') := by rw [← hW]; exact (Blk.new w _ _).cell rfl
  clear h hp h1 h2 hB0 g0 g1 g2 g3 g4 hbl k0 hk
  subst hW
  go_enter Tryz.func198, Tryz.ntmps198
  go_wp2_with (first
    | (go_at_call 47; refine (Itoa_any HP.out p p0 p1).mono ?_; rintro e w2 ⟨rfl, hb2⟩))
  go_ret2
  exact ⟨_, _, rfl, ⟨rfl, rfl, HT.out.next hb2⟩, HK.out.trans (KeptT.of_below hb2)⟩
/-- what add and take do with what the frame's function hands back -/
theorem frame_cmd {B0 tb : Nat} {bs ds : List Int} {ts : List Tl} {w w1 : World} {R : Option (List Int × Int)} {v : Value} (h : Tab B0 w tb bs ds ts) (hw : B0 ≤ w.heap.size) (hp : Pow B0 w) (hv : FrOwn w1 w.heap.size v (resL R)) (hb : Below w.heap.size w w1)
    (hR : ∀ es p, R = some (es, p) → es.length = 4 ∧ -1000000000 ≤ p ∧ p ≤ 1000000000) :
    Calls Tryz.prog 198 #[.pointer (some ⟨tb, 0, none⟩), v, .int .i64 (resN R), .bool R.isSome] w1 (CmdPost B0 (FrameCmd B0 tb bs ds ts R) w) := by
  have h1 := h.next hb
  obtain ⟨A, c, A', c', rfl, o1, o2, _, _⟩ := hv
  rcases R with _ | ⟨es, p⟩
  · refine (setFrame_no w1 _ A A' _ c _ c' _).mono ?_
    rintro e w2 ⟨rfl, hb2⟩
    exact ⟨_, _, rfl, ⟨rfl, rfl, h1.next hb2⟩, (KeptT.of_below hb).trans (KeptT.of_below hb2)⟩
  · obtain ⟨h4, p0, p1⟩ := hR es p rfl
    have e4 : (resL (some (es, p))).length = 4 := h4
    rw [e4] at o1 o2 ⊢
    refine (setFrame_yes h1 (Nat.le_trans hw hb.size) (hp.below (hb.mono hw)) (o1.mono hw) (o2.mono hw) p (by omega) (by omega)).mono ?_
    rintro e w2 ⟨s, ok, rfl, ⟨rfl, rfl, ht⟩, hk⟩
    exact ⟨_, _, rfl, ⟨rfl, rfl, ht⟩, (KeptT.of_below hb).trans hk⟩
set_option maxHeartbeats 4000000 in
theorem add_cmd (B0 tb : Nat) (bs ds : List Int) (ts : List Tl) (x : Int) (A0 : Option Addr) (n0 : Nat) (w : World) (hn : Own w B0 A0 1 n0 [x]) (h : Tab B0 w tb bs ds ts) (hw : B0 ≤ w.heap.size) (hp : Pow B0 w) (hd : Fr.Digs ds) (h4 : ds.length = 4)
    (hR : ∀ es p, frBy 1 ds x = some (es, p) → es.length = 4 ∧ -1000000000 ≤ p ∧ p ≤ 1000000000) (Q : Ending → World → Prop) (hQ : Q = CmdPost B0 (FrameCmd B0 tb bs ds ts (frBy 1 ds x)) w) :
    Calls Tryz.prog 161 #[.pointer (some ⟨tb, 0, none⟩), .slice A0 1 n0] w Q := by
  obtain ⟨hB0, Ab, nb, cb, A, c, A', c', At, nt, ct, g0, g1, g2, g3, g4⟩ := id h
  obtain ⟨g, rfl, _, hg, hcell, _⟩ := hn.at_ (by omega)
  have d0 := hcell 0 x rfl
  have HT := Lib.hid h
  have c1 := g0.cell (j := 1) (v := .slice A 4 c) rfl
  have c2 := g0.cell (j := 2) (v := .slice A' 4 c') rfl
  have HI := Lib.hid g2.ints
  have HJ := Lib.hid g3.ints
  have HW := Lib.hid hw
  have HP := Lib.hid hp
  have HQ := Lib.hid hQ
  have HRR := Lib.hid hR
  have HF := Lib.hid (show frOf (HiL ds) (LoL ds) (fun ds => frBy 1 ds x) (frBy 1 ds x) from .inr ⟨ds, hd, rfl, rfl, by omega, by omega, rfl⟩)
  clear h hB0 g0 g1 g2 g3 g4 hw hQ hn hcell hp hd hR
  go_enter Tryz.func161, Tryz.ntmps161
  go_wp2_with fail
  go_region_with (first
    | (go_at_call 19; refine (FrameSum_any A A' 4 4 c c' (HiL ds) (LoL ds) x _ _ HI.out.drew HJ.out.drew HF.out).mono ?_; rintro e w1 ⟨⟨v, rfl, hown⟩, hb2⟩)
    | (go_at_call 198; refine (frame_cmd HT.out HW.out HP.out hown (((Below.refl _ _).drew).trans hb2) HRR.out).mono ?_; rintro e w2 ⟨s, ok, rfl, hq, hk⟩))
  all_goals
    go_wp2_with fail
    go_ret2
    rw [HQ.out]
    exact ⟨s, ok, rfl, hq, hk⟩
set_option maxHeartbeats 4000000 in
theorem take_cmd (B0 tb : Nat) (bs ds : List Int) (ts : List Tl) (x : Int) (A0 : Option Addr) (n0 : Nat) (w : World) (hn : Own w B0 A0 1 n0 [x]) (h : Tab B0 w tb bs ds ts) (hw : B0 ≤ w.heap.size) (hp : Pow B0 w) (hd : Fr.Digs ds) (h4 : ds.length = 4)
    (hR : ∀ es p, frBy (-1) ds x = some (es, p) → es.length = 4 ∧ -1000000000 ≤ p ∧ p ≤ 1000000000) (Q : Ending → World → Prop) (hQ : Q = CmdPost B0 (FrameCmd B0 tb bs ds ts (frBy (-1) ds x)) w) :
    Calls Tryz.prog 162 #[.pointer (some ⟨tb, 0, none⟩), .slice A0 1 n0] w Q := by
  obtain ⟨hB0, Ab, nb, cb, A, c, A', c', At, nt, ct, g0, g1, g2, g3, g4⟩ := id h
  obtain ⟨g, rfl, _, hg, hcell, _⟩ := hn.at_ (by omega)
  have d0 := hcell 0 x rfl
  have HT := Lib.hid h
  have c1 := g0.cell (j := 1) (v := .slice A 4 c) rfl
  have c2 := g0.cell (j := 2) (v := .slice A' 4 c') rfl
  have HI := Lib.hid g2.ints
  have HJ := Lib.hid g3.ints
  have HW := Lib.hid hw
  have HP := Lib.hid hp
  have HQ := Lib.hid hQ
  have HRR := Lib.hid hR
  have HF := Lib.hid (show frOf (HiL ds) (LoL ds) (fun ds => frBy (-1) ds x) (frBy (-1) ds x) from .inr ⟨ds, hd, rfl, rfl, by omega, by omega, rfl⟩)
  clear h hB0 g0 g1 g2 g3 g4 hw hQ hn hcell hp hd hR
  go_enter Tryz.func162, Tryz.ntmps162
  go_wp2_with fail
  go_region_with (first
    | (go_at_call 20; refine (FrameLess_any A A' 4 4 c c' (HiL ds) (LoL ds) x _ _ HI.out.drew HJ.out.drew HF.out).mono ?_; rintro e w1 ⟨⟨v, rfl, hown⟩, hb2⟩)
    | (go_at_call 198; refine (frame_cmd HT.out HW.out HP.out hown (((Below.refl _ _).drew).trans hb2) HRR.out).mono ?_; rintro e w2 ⟨s, ok, rfl, hq, hk⟩))
  all_goals
    go_wp2_with fail
    go_ret2
    rw [HQ.out]
    exact ⟨s, ok, rfl, hq, hk⟩
end Go.Proofs.YthdoofmfigemoaaGreatDoor
end

section
/-
  What a line of a script does: from the command's contract.
-/
namespace Go.Proofs.YthdoofmfigemoaaGreatDoor
open Go.RowKit
set_option linter.unusedSimpArgs false
set_option maxRecDepth 100000

/-- the table's state -/
structure St where
  bs : List Int
  ds : List Int
  ts : List Tl
def Tb (B0 : Nat) (w : World) (tb : Nat) (s : St) : Prop := Tab B0 w tb s.bs s.ds s.ts
def LineDoes (line : List UInt8) (s : St) (out : ByteArray) (s' : St) : Prop :=
  ∀ (B0 tb : Nat) (w : World), Tb B0 w tb s → B0 ≤ w.heap.size → Max w → Pow B0 w →
    Calls Tryz.prog 46 #[.pointer (some ⟨tb, 0, none⟩), .string (bs line)] w (fun e w' => e = .returned (.string out) ∧ Tb B0 w' tb s' ∧ KeptT B0 w w')
def noT : ByteArray := ⟨#[110, 111, 10]⟩
def CmdDoes (fid : Nat) (nums : List Int) (s : St) (out : ByteArray) (s' : St) : Prop :=
  (∀ (args : Array Value) (w : World), (callFunc fid args).run Tryz.prog w = .ok (.enter fid args) w) ∧
  ∀ (B0 tb : Nat) (w : World) (A : Option Addr) (n : Nat), Own w B0 A nums.length n nums → Tb B0 w tb s → B0 ≤ w.heap.size → Pow B0 w →
    Calls Tryz.prog fid #[.pointer (some ⟨tb, 0, none⟩), .slice A nums.length n] w (CmdPost B0 (fun t ok w' => (if ok then t else noT) = out ∧ Tb B0 w' tb s') w)
theorem KeptT.set2 {B0 : Nat} {w w2 : World} (h : KeptT B0 w w2) (x y : Value) : KeptT B0 w ((w2.setCell ⟨w.heap.size, 0, none⟩ x).setCell ⟨w.heap.size, 0, none⟩ y) :=
  ⟨h.os, h.tape, h.output, by have := h.size; simpa [World.setCell] using this, fun k hk hn =>
    (heap_setCell_other _ _ k _ (by simp only; omega)).trans ((heap_setCell_other _ _ k _ (by simp only; omega)).trans (h.block k hk hn))⟩
theorem line_does {line : List UInt8} {c : Nat × Nat} {nums : List Int} {s s' : St} {out : ByteArray} (hl : line.length ≤ 1000) (hg : Good line c nums) (hc3 : c.1 ≤ 3) (hr : CmdDoes c.2 nums s out s') : LineDoes line s out s' := by
  intro B0 tb w ht hw hm hp
  have hbs : (bs line).data.toList = line := by simp [bs]
  have hsz : (bs line).size ≤ 1000 := by
    have e : (bs line).size = line.length := by show line.toArray.size = _; simp
    omega
  refine (runLine_good B0 ⟨tb, 0, none⟩ (bs line) c nums w (fun t ok w' => (if ok then t else noT) = out ∧ Tb B0 w' tb s') hsz hm (by rw [hbs]; exact hg) hc3 hr.1 ?_).mono ?_
  · intro w1 A n ho hb
    exact hr.2 B0 tb w1 A n (ho.mono (by omega)) (Tab.next ht hb) (Nat.le_trans hw hb.size) (hp.below (hb.mono hw))
  · rintro e w' ⟨t, ok, w2, x, rfl, ⟨hout, ht2⟩, hk, hblk, rfl⟩
    refine ⟨?_, ?_, hk.set2 _ _⟩
    · rw [← hout]; rfl
    · exact Tab.far (Tab.far ht2 hblk (by decide) (by decide) (by decide) 0 _) (hblk.set 0 _) (by decide) (by decide) (by decide) 0 _
end Go.Proofs.YthdoofmfigemoaaGreatDoor
end

section
/-
  The commands as CmdDoes: lay, reduce, raise, value, add, take, frame.
-/
namespace Go.Proofs.YthdoofmfigemoaaGreatDoor
open Go.RowKit
set_option linter.unusedSimpArgs false
set_option maxRecDepth 100000

theorem CmdPost.mono {B0 : Nat} {Q Q' : ByteArray → Bool → World → Prop} {w w' : World} {e : Ending} (h : CmdPost B0 Q w e w') (k : ∀ s ok w', Q s ok w' → Q' s ok w') : CmdPost B0 Q' w e w' := by
  obtain ⟨s, ok, rfl, hq, hk⟩ := h
  exact ⟨s, ok, rfl, k s ok w' hq, hk⟩
theorem does_reduce (s : St) : CmdDoes 157 [] s (if redOK s.bs then okT else noT) { s with bs := if redOK s.bs then redL s.bs else s.bs } := by
  refine ⟨fun args w => by simp [go_sem], fun B0 tb w A n hn ht hw hp => ?_⟩
  refine (reduce_any B0 tb s.bs s.ds s.ts _ w ht hw _ rfl).mono fun e w' h => h.mono ?_
  rintro t ok w2 ⟨rfl, rfl, h⟩
  exact ⟨by cases redOK s.bs <;> rfl, h⟩
theorem does_raise (s : St) (x : Int) : CmdDoes 158 [x] s (if raiseOK s.bs x then okT else noT) { s with bs := if raiseOK s.bs x then Bd.raiseL s.bs x.toNat else s.bs } := by
  refine ⟨fun args w => by simp [go_sem], fun B0 tb w A n hn ht hw hp => ?_⟩
  refine (raise_any B0 tb s.bs s.ds s.ts x A n w hn ht hw _ rfl).mono fun e w' h => h.mono ?_
  rintro t ok w2 ⟨rfl, rfl, h⟩
  exact ⟨by cases raiseOK s.bs x <;> rfl, h⟩
def layOk (s : St) (x : Int) : Bool := okV x && layOK s.bs (Bd.D true 10 x)
theorem does_lay (s : St) (x : Int) : CmdDoes 156 [x] s (if layOk s x then okT else noT) { s with bs := if layOk s x then Bd.addL s.bs (Bd.D true 10 x) else s.bs } := by
  refine ⟨fun args w => by simp [go_sem], fun B0 tb w A n hn ht hw hp => ?_⟩
  refine (lay_any B0 tb s.bs s.ds s.ts x A n w hn ht hw _ rfl).mono fun e w' h => h.mono ?_
  rintro t ok w2 ⟨rfl, rfl, h⟩
  exact ⟨by show (if layOk s x then (if layOk s x then okT else _) else noT) = _; cases layOk s x <;> rfl, h⟩
theorem does_value (s : St) (hv : -9223372036854775808 ≤ bVal s.bs ∧ bVal s.bs ≤ 9223372036854775807) : CmdDoes 160 [] s (dec (bVal s.bs) ++ ⟨#[10]⟩) s := by
  refine ⟨fun args w => by simp [go_sem], fun B0 tb w A n hn ht hw hp => ?_⟩
  refine (value_cmd B0 tb s.bs s.ds s.ts _ w ht hw hp hv).mono fun e w' h => h.mono ?_
  rintro t ok w2 ⟨rfl, rfl, h⟩
  exact ⟨rfl, h⟩
theorem does_frame (s : St) (hd : Fr.Digs s.ds) (h4 : s.ds.length = 4) : CmdDoes 163 [] s (txt (digText s.ds) ++ ⟨#[10]⟩) s := by
  refine ⟨fun args w => by simp [go_sem], fun B0 tb w A n hn ht hw hp => ?_⟩
  refine (frameText_cmd B0 tb s.bs s.ds s.ts _ w ht hd h4).mono fun e w' h => h.mono ?_
  rintro t ok w2 ⟨rfl, rfl, h⟩
  exact ⟨rfl, h⟩
/-- what add and take tell, and the frame behind them -/
def frSays (R : Option (List Int × Int)) : ByteArray := match R with | none => noT | some (_, p) => dec p ++ ⟨#[10]⟩
def frThen (ds : List Int) (R : Option (List Int × Int)) : List Int := match R with | none => ds | some (es, _) => es
theorem does_add (s : St) (x : Int) (hd : Fr.Digs s.ds) (h4 : s.ds.length = 4) (hR : ∀ es p, frBy 1 s.ds x = some (es, p) → es.length = 4 ∧ -1000000000 ≤ p ∧ p ≤ 1000000000) :
    CmdDoes 161 [x] s (frSays (frBy 1 s.ds x)) { s with ds := frThen s.ds (frBy 1 s.ds x) } := by
  refine ⟨fun args w => by simp [go_sem], fun B0 tb w A n hn ht hw hp => ?_⟩
  refine (add_cmd B0 tb s.bs s.ds s.ts x A n w hn ht hw hp hd h4 hR _ rfl).mono fun e w' h => h.mono ?_
  rintro t ok w2 ⟨rfl, rfl, h⟩
  refine ⟨?_, h⟩
  rcases frBy 1 s.ds x with _ | ⟨es, p⟩ <;> rfl
theorem does_take (s : St) (x : Int) (hd : Fr.Digs s.ds) (h4 : s.ds.length = 4) (hR : ∀ es p, frBy (-1) s.ds x = some (es, p) → es.length = 4 ∧ -1000000000 ≤ p ∧ p ≤ 1000000000) :
    CmdDoes 162 [x] s (frSays (frBy (-1) s.ds x)) { s with ds := frThen s.ds (frBy (-1) s.ds x) } := by
  refine ⟨fun args w => by simp [go_sem], fun B0 tb w A n hn ht hw hp => ?_⟩
  refine (take_cmd B0 tb s.bs s.ds s.ts x A n w hn ht hw hp hd h4 hR _ rfl).mono fun e w' h => h.mono ?_
  rintro t ok w2 ⟨rfl, rfl, h⟩
  refine ⟨?_, h⟩
  rcases frBy (-1) s.ds x with _ | ⟨es, p⟩ <;> rfl
end Go.Proofs.YthdoofmfigemoaaGreatDoor
end

section
/-
  strings.Builder's WriteString in this translation, whose panic of a copied Builder is cut off.
-/
namespace Go.Proofs.YthdoofmfigemoaaGreatDoor
open Go.RowKit
set_option linter.unusedSimpArgs false

theorem bld_byte_info : (Tryz.prog.info? 5).map (fun i => (i.zero, i.size, i.bytes)) = some (some (.int .u8 0), 1, 1) := by kernel_rfl
theorem bld_ne : (65 : TypeId) ≠ 5 := by decide
theorem size_set' (w : World) (p : Addr) (v : Value) : w.heap.size ≤ (w.setCell p v).heap.size := by simp [World.setCell]
theorem bld_size : (Tryz.prog.info? 65).map (·.size) = some 2 := by kernel_rfl
theorem bld_lies : liesAt Tryz.prog Tryz.prog.depth 65 (2 / Tryz.prog.cellsOf 65) 0 65 1 = true := by kernel_rfl
set_option maxRecDepth 100000 in
set_option maxHeartbeats 1000000 in
theorem copyCheck_any (B b : Nat) (bs : List Value) (w : World) (h : Lib.IsBuilder 65 5 B b bs w) :
    Calls Tryz.prog 91 #[.pointer (some ⟨b, 0, none⟩)] w fun e w' => (∃ v, e = .returned v) ∧ Lib.BuilderAt 65 5 B b (.pointer (some ⟨b, 0, none⟩)) bs w' ∧ w.grownBy w' (some b) := by
  obtain ⟨j, hj, hjs⟩ := Option.map_eq_some_iff.1 bld_size
  have hneq := fun w => Lib.run_neq_ptr_same (P := Tryz.prog) w ⟨b, 0, none⟩ Tryz.underlying63 hj
  rcases h with h | h
  · have c0 := h.cell0
    have f0 := h.frozen0
    have HU := Lib.hid (h.used (.pointer (some ⟨b, 0, none⟩)))
    have hsh := h.shape
    have hcv := Lib.run_to_unsafe w ⟨b, 0, none⟩ Tryz.underlying63 Tryz.underlying171 hj (by rw [hjs]; decide) hsh (Nat.zero_lt_succ 1)
    have hcb := Lib.run_from_unsafe w ⟨b, 0, none⟩ Tryz.underlying171 Tryz.underlying63 hj hsh bld_lies
    clear h
    go_enter Tryz.func91, Tryz.ntmps91
    go_wp2
    rw [run_callFunc_extern Tryz.func127 (by kernel_rfl) (by kernel_rfl) (by kernel_rfl) (e := Extern.AbiNoEscape.same) (by kernel_rfl)]
    rw [Lib.run_noEscape]
    simp only [Result.andThen]
    rw [Oper.upon_value]
    go_wp2
    refine bodyPost_end (results_none rfl _ _ _) rfl ⟨⟨_, rfl⟩, HU.out, ⟨rfl, rfl, rfl, size_set' _ _ _, fun k _ hne => heap_setCell_other w _ k _ (fun e => hne (by rw [e]))⟩⟩
  · have c0 := h.cell0
    have H := Lib.hid h
    clear h
    go_enter Tryz.func91, Tryz.ntmps91
    go_wp2
    refine bodyPost_end (results_none rfl _ _ _) rfl ⟨⟨_, rfl⟩, H.out, World.grownBy.refl w _⟩
/-- a Builder that holds the bytes l -/
def Bu (w : World) (B b : Nat) (l : List UInt8) : Prop := Lib.IsBuilder 65 5 B b (Lib.byteCells l) w
/-- all blocks stay but the builder's own and rows of bytes -/
def Oth (b : Nat) (w w' : World) : Prop := ∀ k cs T, w.heap[k]? = some (.cells cs T (0, 0)) → k ≠ b → T ≠ 5 → w'.heap[k]? = w.heap[k]?
set_option maxRecDepth 100000 in
set_option maxHeartbeats 1000000 in
theorem WriteString_any (B b : Nat) (l : List UInt8) (s : ByteArray) (w : World) (h : Bu w B b l) (hlen : l.length + s.size ≤ 1000000000) (hBw : B ≤ w.heap.size) :
    Calls Tryz.prog 45 #[.pointer (some ⟨b, 0, none⟩), .string s] w fun e w' => (∃ v, e = .returned v) ∧ Bu w' B b (l ++ s.data.toList) ∧ Below B w w' ∧ Oth b w w' := by
  obtain ⟨i0, hi, hz0, hz1, hz2⟩ := info_parts bld_byte_info
  go_enter Tryz.func45, Tryz.ntmps45
  go_wp2_with fail
  refine (copyCheck_any B b _ w h).mono ?_
  rintro e w1 ⟨⟨v1, rfl⟩, h1, hg1⟩
  obtain ⟨hB, v, hbk, hown, hne⟩ := h1
  have hb1 : Below B w w1 := grown_below hg1 hBw (by rintro k ⟨⟩; exact hB)
  have c1 : w1.cell? ⟨b, 1, none⟩ = some v := by rw [Lib.cell_of_heap hbk]; rfl
  go_wp2_with (refine Lib.wpList_append_own_string _ rfl _ _ 22 9 rfl B 5 i0 Tryz.underlying22 Tryz.underlying9 hi hz0 hz1 hz2 _ _ _ rfl hown s rfl ?c3 ?c4 ?c5 ?_)
  case c3 => rw [Lib.byteCells_length]; unfold maxLen; omega
  case c4 => rw [Lib.byteCells_length]; omega
  case c5 => have := hb1.size; omega
  intro v' w2 hown' hgrow _
  have hlt : b < w1.heap.size := (Array.getElem?_eq_some_iff.1 hbk).1
  have hb2 : w2.heap[b]? = some (.cells #[.pointer (some ⟨b, 0, none⟩), v] 65 (0, 0)) := by
    rw [hgrow.block b hlt (fun e => hne e.symm)]
    exact hbk
  have d1 : w2.cell? ⟨b, 1, none⟩ = some v := by rw [Lib.cell_of_heap hb2]; rfl
  have f1 : w2.frozen? ⟨b, 1, none⟩ = false := Lib.frozen_of_heap hb2 1
  have HBu := Lib.hid (show Bu (w2.setCell ⟨b, 1, none⟩ v') B b (l ++ s.data.toList) from by
    have := Lib.BuilderAt.put (T := 65) (e := 5) hB hb2 (bs' := Lib.byteCells l ++ Lib.strCells s) (by rw [List.length_append, Lib.strCells_length]; exact hown') bld_ne
    rw [Lib.strCells_eq, ← Lib.byteCells_append] at this
    exact .inr this)
  have HBl := Lib.hid (show Below B w (w2.setCell ⟨b, 1, none⟩ v') from (hb1.grown hgrow (Nat.le_trans hBw hb1.size) (fun k hk => (hown.lt k hk).1)).setCell (p := ⟨b, 1, none⟩) hB _)
  have HO := Lib.hid (show Oth b w (w2.setCell ⟨b, 1, none⟩ v') from fun k cs T hk hkb hT => by
    have hkl := (Array.getElem?_eq_some_iff.1 hk).1
    have hk1 : w1.heap[k]? = w.heap[k]? := hg1.block k hkl (by intro e; injection e with e; exact hkb e)
    have hk2 : w2.heap[k]? = w1.heap[k]? := hgrow.block k (Nat.lt_of_lt_of_le hkl hg1.size) (fun e => Lib.ownBlock_ne hown (hk1.trans hk) hT e.symm)
    exact (heap_setCell_other w2 _ k _ (fun e => hkb (by rw [e]))).trans (hk2.trans hk1))
  obtain ⟨ao, n', cap, rfl⟩ : ∃ ao n' cap, v' = .slice ao n' cap := by
    rcases hown'.2 with ⟨hv, _⟩ | ⟨g, cap, cur, hv, _⟩
    · exact ⟨_, _, _, hv⟩
    · exact ⟨_, _, _, hv⟩
  clear hown' hgrow hown hb1 hbk hb2 hg1 h
  go_wp2
  go_ret2
  exact ⟨⟨_, rfl⟩, HBu.out, HBl.out, HO.out⟩
end Go.Proofs.YthdoofmfigemoaaGreatDoor
end

section
/-
  The output's builder beside the table: each stays when the other is written.
-/
namespace Go.Proofs.YthdoofmfigemoaaGreatDoor
open Go.RowKit
set_option linter.unusedSimpArgs false

theorem ownsRow_blk {w w' : World} {B k n : Nat} {e : TypeId} {v : Value} {vs : List Value} (h : w.ownsRow B e k v n vs) (hk : ∀ g cur, v.ownBlock = some g → w.heap[g]? = some (.cells cur e (0, 0)) → w'.heap[g]? = w.heap[g]?) : w'.ownsRow B e k v n vs := by
  refine ⟨h.1, ?_⟩
  rcases h.2 with h0 | ⟨g, cap, cur, hv, h1, hg, rest⟩
  · exact .inl h0
  · exact .inr ⟨g, cap, cur, hv, h1, (hk g cur (by rw [hv]; rfl) hg).trans hg, rest⟩
theorem KeptT.same {B0 : Nat} {w w' : World} (h : KeptT B0 w w') {k : Nat} {cs : Array Value} {T : TypeId} {z : Nat × Nat} (hb : w.heap[k]? = some (.cells cs T z)) (h1 : T ≠ 62) (h2 : T ≠ 52) : w'.heap[k]? = w.heap[k]? := by
  refine h.block k (Array.getElem?_eq_some_iff.1 hb).1 ?_
  rintro ⟨_, cs', z', T', e, ht⟩
  rw [hb] at e
  injection e with e
  injection e with _ e _
  subst e
  rcases ht with ht | ht
  · exact h1 ht
  · exact h2 ht
/-- the builder stays behind a command -/
theorem Bu.keptT {B0 B b : Nat} {l : List UInt8} {w w' : World} (h : Bu w B b l) (hk : KeptT B0 w w') : Bu w' B b l := by
  have key : ∀ p, Lib.BuilderAt 65 5 B b p (Lib.byteCells l) w → Lib.BuilderAt 65 5 B b p (Lib.byteCells l) w' := by
    rintro p ⟨hB, v, hb, hown, hne⟩
    exact ⟨hB, v, (hk.same hb (by decide) (by decide)).trans hb, ownsRow_blk hown fun g cur _ hg => hk.same hg (by decide) (by decide), hne⟩
  rcases h with h | h
  · exact .inl (key _ h)
  · exact .inr (key _ h)
/-- the table stays behind a write to the builder -/
theorem Tab.oth {B0 tb b : Nat} {bs ds : List Int} {ts : List Tl} {w w' : World} (h : Tab B0 w tb bs ds ts) (ho : Oth b w w') {cs : Array Value} (hb : Blk w b cs 65) : Tab B0 w' tb bs ds ts := by
  obtain ⟨hB, Ab, nb, cb, A, c, A', c', At, nt, ct, h0, h1, h2, h3, h4⟩ := h
  have hb' : w.heap[b]? = some (.cells cs 65 (0, 0)) := hb
  have far : ∀ (k : Nat) (cur : Array Value) (T : TypeId), w.heap[k]? = some (.cells cur T (0, 0)) → T ≠ 65 → T ≠ 5 → w'.heap[k]? = w.heap[k]? := by
    intro k cur T hk hT hT2
    refine ho k cur T hk ?_ hT2
    rintro rfl
    rw [hk] at hb'
    injection hb' with e
    injection e with _ e _
    exact hT e
  have row : ∀ {e : TypeId} {k n c : Nat} {A : Option Addr} {vs : List Value}, e ≠ 65 → e ≠ 5 → OwnR w B0 e k A n c vs → OwnR w' B0 e k A n c vs := fun he he2 hr => ⟨ownsRow_blk hr.1 fun g cur _ hg => far g cur _ hg he he2, hr.2⟩
  exact ⟨hB, Ab, nb, cb, A, c, A', c', At, nt, ct, h0.keep (far tb _ _ h0 (by decide) (by decide)), row (by decide) (by decide) h1.r, row (by decide) (by decide) h2.r, row (by decide) (by decide) h3.r, row (by decide) (by decide) h4⟩
theorem Blk.oth {w w' : World} {b k : Nat} {cs cb : Array Value} {T : TypeId} (h : Blk w k cs T) (ho : Oth b w w') (hb : Blk w b cb 65) (h1 : T ≠ 65) (h2 : T ≠ 5) : Blk w' k cs T := by
  refine h.keep (ho k cs T h ?_ h2)
  rintro rfl
  have e1 : w.heap[k]? = some (.cells cs T (0, 0)) := h
  have e2 : w.heap[k]? = some (.cells cb 65 (0, 0)) := hb
  rw [e1] at e2
  injection e2 with e
  injection e with _ e _
  exact h1 e
end Go.Proofs.YthdoofmfigemoaaGreatDoor
end

section
/-
  Execute over the lines of a script. (UNDER WAY)
-/
namespace Go.Proofs.YthdoofmfigemoaaGreatDoor
open Go.RowKit
set_option linter.unusedSimpArgs false
set_option maxRecDepth 100000

/-- lines, one behind the other -/
inductive Runs : List (List UInt8) → St → List UInt8 → St → Prop
  | nil (s : St) : Runs [] s [] s
  | cons {line : List UInt8} {ls : List (List UInt8)} {s s1 s2 : St} {o : ByteArray} {r : List UInt8} (h : LineDoes line s o s1) (k : Runs ls s1 r s2) : Runs (line :: ls) s (o.data.toList ++ r) s2
theorem bs_append (l r : List UInt8) : bs l ++ bs r = bs (l ++ r) := ByteArray.mk_append_mk l r
theorem cut_count (c : UInt8) : ∀ l : List UInt8, (cut c l).length ≤ l.length + 1
  | [] => by simp [cut]
  | b :: l => by
    have ih := cut_count c l
    unfold cut
    split
    · simp; omega
    · cases hc : cut c l with
      | nil => simp
      | cons y ys => rw [hc] at ih; simp at ih ⊢; omega
/-- the last line -/
def endL (v n : Int) : List UInt8 := [118, 97, 108, 117, 101, 32] ++ Lib.itoa v ++ [32, 116, 97, 108, 108, 105, 101, 115, 32] ++ Lib.itoa n ++ [10]
def St.start : St := ⟨List.replicate 10 0, List.replicate 4 0, []⟩
theorem tb_new (w : World) : Blk ((w.alloc (.cells (IV (List.replicate 10 0)).toArray 3)).alloc (.cells #[.slice (some ⟨w.heap.size, 0, none⟩) 10 10, .slice none 0 0, .slice none 0 0, .slice none 0 0] 62)) (w.heap.size + 1) #[.slice (some ⟨w.heap.size, 0, none⟩) 10 10, .slice none 0 0, .slice none 0 0, .slice none 0 0] 62 := by
  have := Blk.new (w.alloc (.cells (IV (List.replicate 10 0)).toArray 3)) #[.slice (some ⟨w.heap.size, 0, none⟩) 10 10, .slice none 0 0, .slice none 0 0, .slice none 0 0] 62
  rw [World.size_alloc] at this
  exact this
theorem endL_eq (V : Int) (n : Nat) : (((⟨#[118, 97, 108, 117, 101, 32]⟩ ++ dec V) ++ ⟨#[32, 116, 97, 108, 108, 105, 101, 115, 32]⟩) ++ dec (n : Int)) ++ ⟨#[10]⟩ = bs (endL V n) := by
  show (((bs [118, 97, 108, 117, 101, 32] ++ bs (Lib.itoa V)) ++ bs [32, 116, 97, 108, 108, 105, 101, 115, 32]) ++ bs (Lib.itoa (n : Int))) ++ bs [10] = _
  simp only [bs_append]
  congr 1
/-- a builder's own block -/
theorem Bu.blk {w : World} {B b : Nat} {l : List UInt8} (h : Bu w B b l) : ∃ cb, Blk w b cb 65 := by
  rcases h with h | h
  · obtain ⟨_, v, hb, _⟩ := h
    exact ⟨_, hb⟩
  · obtain ⟨_, v, hb, _⟩ := h
    exact ⟨_, hb⟩
set_option maxHeartbeats 4000000 in
theorem Execute_any (text : ByteArray) (ls : List (List UInt8)) (s' : St) (out : List UInt8) (w : World) (hs : text.size ≤ 400) (hcut : cut 10 text.data.toList = ls ++ [[]]) (hr : Runs ls St.start out s') (hm : Max w) (hp : Pow w.heap.size w) (hlen : out.length ≤ 100000)
    (hv : -9223372036854775808 ≤ bVal s'.bs ∧ bVal s'.bs ≤ 9223372036854775807) :
    Calls Tryz.prog 13 #[.string text] w fun e w' => e = .returned (.string (bs (out ++ endL (bVal s'.bs) s'.ts.length))) ∧ Below w.heap.size w w' := by
  have hle : ¬ 400 < text.size := by omega
  have HR := Lib.hid hr
  have HC := Lib.hid hcut
  clear hr hcut
  have hmk : (Instr.makeSlice 28 (.int .i64 10) (.int .i64 10)).run Tryz.prog w = .ok (.slice (some ⟨w.heap.size, 0, none⟩) 10 10) (w.alloc (.cells (IV (List.replicate 10 0)).toArray 3)) := run_make_ints w 10 (by omega)
  go_enter Tryz.func13, Tryz.ntmps13
  go_wp2_with (first
    | (go_at_call 18; refine (FrameOf_yes 4 0 _ (by omega) (by omega) (by omega) (by decide)).mono ?_; rintro e w1 ⟨⟨v, rfl, hfo⟩, hb1⟩; obtain ⟨A, c, A', c', rfl, o1, o2, _, _⟩ := hfo; have t0 := (tb_new w).next hb1; have c1 := t0.cell (j := 1) (v := .slice none 0 0) rfl; have c2 := t0.cell (j := 2) (v := .slice none 0 0) rfl; have f1 := t0.free 1; have f2 := t0.free 2))
  have e4 : (digitsOf 4 0).length = 4 := by decide
  simp only [if_true] at o1 o2
  rw [e4] at o1 o2 ⊢
  have hbd := ((own_lit w (List.replicate 10 0) w.heap.size 10 rfl (by omega) (Nat.le_refl _)).alloc (.cells #[.slice (some ⟨w.heap.size, 0, none⟩) 10 10, .slice none 0 0, .slice none 0 0, .slice none 0 0] 62)).r.next hb1
  have t1 := t0.set 1 (.slice A 4 c)
  have hsz1 := hb1.size
  simp only [World.size_alloc] at hsz1 o1 o2
  have hT : Tb w.heap.size ((w1.setCell ⟨w.heap.size + 1, 1, none⟩ (.slice A 4 c)).setCell ⟨w.heap.size + 1, 2, none⟩ (.slice A' 4 c')) (w.heap.size + 1) St.start :=
    ⟨by omega, some ⟨w.heap.size, 0, none⟩, 10, 10, A, c, A', c', none, 0, 0, t1.set 2 _, (hbd.far t0 (by decide) _ _).far t1 (by decide) _ _, ((o1.mono (by omega)).r.far t0 (by decide) _ _).far t1 (by decide) _ _, ((o2.mono (by omega)).r.far t0 (by decide) _ _).far t1 (by decide) _ _, OwnR.nil _ _ _ _⟩
  have hb1' : Below w.heap.size w w1 := (((Below.refl w.heap.size w).alloc (Nat.le_refl _) _).alloc (by simp) _).trans (hb1.mono (by simp; omega))
  have hbW := (hb1'.setCell (p := ⟨w.heap.size + 1, 1, none⟩) (by simp only; omega) (.slice A 4 c)).setCell (p := ⟨w.heap.size + 1, 2, none⟩) (by simp only; omega) (.slice A' 4 c')
  have hsW : ((w1.setCell ⟨w.heap.size + 1, 1, none⟩ (.slice A 4 c)).setCell ⟨w.heap.size + 1, 2, none⟩ (.slice A' 4 c')).heap.size = w1.heap.size := by simp [World.setCell]
  obtain ⟨W1, hW1⟩ : ∃ W1, (w1.setCell ⟨w.heap.size + 1, 1, none⟩ (.slice A 4 c)).setCell ⟨w.heap.size + 1, 2, none⟩ (.slice A' 4 c') = W1 := ⟨_, rfl⟩
  rw [hW1] at hT hbW hsW ⊢
  rw [← hsW]
  have hTlt : w.heap.size + 1 < W1.heap.size := by obtain ⟨_, _, _, _, _, _, _, _, _, _, _, g, _⟩ := id hT; exact g.lt
  have HT := Lib.hid (Tab.alloc hT (.cells #[.pointer none, .slice none 0 0] 65))
  have hBu : Bu (W1.alloc (.cells #[.pointer none, .slice none 0 0] 65)) W1.heap.size W1.heap.size [] := Lib.fresh_isBuilder _ _ W1
  have HBU := Lib.hid hBu
  have hbW2 := hbW.alloc hbW.size (.cells #[.pointer none, .slice none 0 0] 65)
  clear hT hBu hW1 o1 o2 hbd t0 t1 c1 c2 f1 f2 hb1 hb1' hsW hsz1 hmk
  obtain ⟨m, hm0⟩ := id hm
  have h0 := World.block_lt_of_cell? w _ hm0
  have hm2 := (hbW2.cell (p := ⟨0, 0, none⟩) h0).trans hm0
  have HM := Lib.hid hm
  have HP := Lib.hid hp
  clear hm hp hm0
  refine (Split_any 10 text m _ (by omega) hm2).mono ?_
  rw [HC.out]
  rintro e w3 ⟨rfl, rfl⟩
  have hll : (ls ++ [[]]).length = ls.length + 1 := by simp
  have hlb : ls.length ≤ 1000 := by
    have := cut_count 10 text.data.toList
    rw [HC.out] at this
    have e2 : text.data.toList.length = text.size := by simp
    simp at this
    omega
  have hsub : IntKind.i64.wrap (((ls.length + 1 : Nat) : Int) - 1) = (ls.length : Int) := by rw [show ((ls.length + 1 : Nat) : Int) - 1 = (ls.length : Int) from by omega]; exact IntWalk.i64_in _ (by omega)
  rw [hll]
  obtain ⟨W3, hW3⟩ : ∃ W3, (W1.alloc (.cells #[.pointer none, .slice none 0 0] 65)).alloc (.cells (((ls ++ [[]]).map bs).map Value.string).toArray 9) = W3 := ⟨_, rfl⟩
  rw [hW3]
  have hl3 : Blk W3 (W1.heap.size + 1) (((ls ++ [[]]).map bs).map Value.string).toArray 9 := by
    rw [← hW3]
    have := Blk.new (W1.alloc (.cells #[.pointer none, .slice none 0 0] 65)) (((ls ++ [[]]).map bs).map Value.string).toArray 9
    rw [World.size_alloc] at this
    exact this
  have hb3 : Below (W1.alloc (.cells #[.pointer none, .slice none 0 0] 65)).heap.size (W1.alloc (.cells #[.pointer none, .slice none 0 0] 65)) W3 := by rw [← hW3]; exact (Below.refl _ _).alloc (Nat.le_refl _) _
  have H3 := Lib.hid (show Tb w.heap.size W3 (w.heap.size + 1) St.start ∧ Bu W3 W1.heap.size W1.heap.size [] ∧ Blk W3 (W1.heap.size + 1) (((ls ++ [[]]).map bs).map Value.string).toArray 9 ∧ Below w.heap.size w W3 from
    ⟨Tab.next HT.out hb3, Bu.keptT HBU.out (KeptT.of_below (B0 := 0) hb3), hl3, hbW2.trans (hb3.mono hbW2.size)⟩)
  clear hl3 hb3 hW3 hm2
  go_wp2_with fail
  go_loopw [29] (fun iv wr => ∃ (j : Nat) (st : St) (o1 o2 : List UInt8), j ≤ ls.length ∧ iv = .int .i64 (j : Int) ∧ o1 ++ o2 = out ∧ Runs (ls.drop j) st o2 s' ∧ Tb w.heap.size wr (w.heap.size + 1) st ∧ Bu wr W1.heap.size W1.heap.size o1 ∧
    Blk wr (W1.heap.size + 1) (((ls ++ [[]]).map bs).map Value.string).toArray 9 ∧ Below w.heap.size w wr) (fun iv _ => ls.length - (intOf iv).toNat)
  case atStart => exact ⟨0, St.start, [], out, by omega, rfl, rfl, HR.out, H3.out.1, H3.out.2.1, H3.out.2.2.1, H3.out.2.2.2⟩
  case round =>
    obtain ⟨j, st, o1, o2, hj, rfl, ho, hrn, ht, hbu, hl, hb⟩ := hrel
    by_cases hlt : j < ls.length
    · rw [List.drop_eq_getElem_cons hlt] at hrn
      cases hrn with
      | cons hdo krest =>
        rename_i st1 o r
        have s1 : wr.cell? ⟨W1.heap.size + 1, j, none⟩ = some (.string (bs ls[j])) := hl.cell (by simp [hlt, List.getElem?_append_left])
        have HK := Lib.hid krest
        have HX := Lib.hid (And.intro ho (And.intro ht (And.intro hbu (And.intro hl hb))))
        have HD := Lib.hid hdo
        clear krest ho ht hbu hl hb hdo
        go_wp2_with fail
        refine (HD.out w.heap.size (w.heap.size + 1) wr HX.out.2.1 HX.out.2.2.2.2.size (by obtain ⟨m, hm⟩ := HM.out; exact ⟨m, (HX.out.2.2.2.2.cell (p := ⟨0, 0, none⟩) h0).trans hm⟩) (HP.out.below HX.out.2.2.2.2)).mono ?_
        rintro e w4 ⟨rfl, ht4, hk4⟩
        have HT4 := Lib.hid ht4
        have hbu4 := Bu.keptT HX.out.2.2.1 hk4
        have hl4 := Blk.keptT HX.out.2.2.2.1 hk4 (by decide) (by decide)
        have hb4 := HX.out.2.2.2.2.trans (hk4.below HX.out.2.2.2.2.size)
        have HBU4 := Lib.hid (And.intro hbu4 (And.intro hl4 hb4))
        have hlo : o1.length + o.size ≤ 1000000000 := by
          have e1 := congrArg List.length HX.out.1
          have e2 : o.data.toList.length = o.size := by simp
          simp only [List.length_append] at e1
          omega
        have hbs4 : W1.heap.size ≤ w4.heap.size := by have := hl4.lt; omega
        clear hbu4 hl4 hb4 hk4 ht4
        go_wp2_with fail
        refine (WriteString_any W1.heap.size W1.heap.size o1 o w4 HBU4.out.1 hlo hbs4).mono ?_
        rintro e w5 ⟨⟨v5, rfl⟩, hbu5, hb5, hot5⟩
        obtain ⟨cb, hcb⟩ := Bu.blk HBU4.out.1
        have hbb : w.heap.size ≤ W1.heap.size := hbW.size
        go_wp2_with fail
        refine ⟨⟨j + 1, st1, o1 ++ o.data.toList, r, by omega, by go_num, by rw [List.append_assoc]; exact HX.out.1, HK.out, Tab.oth HT4.out hot5 hcb, hbu5, Blk.oth HBU4.out.2.1 hot5 hcb (by decide) (by decide), HBU4.out.2.2.trans (hb5.mono hbb)⟩, by simp [intOf]; omega⟩
    · have hje : j = ls.length := by omega
      rw [List.drop_eq_nil_of_le (by omega)] at hrn
      cases hrn
      rw [List.append_nil] at ho
      subst ho
      obtain ⟨hB, Ab, nb, cb, A2, c2, A2', c2', At, nt, ct, g0, g1, g2, g3, g4⟩ := id ht
      have c0 := g0.cell (j := 0) (v := .slice Ab nb cb) rfl
      have c3 := g0.cell (j := 3) (v := .slice At nt ct) rfl
      have hnt : s'.ts.length = nt := (OwnT.tals g4).len
      have hntb : nt ≤ 1099511627776 := g4.2
      have HI := Lib.hid g1.ints
      have HG := Lib.hid g0
      have HX := Lib.hid (And.intro hbu hb)
      obtain ⟨V, hV⟩ : ∃ V, bVal s'.bs = V := ⟨_, rfl⟩
      rw [hV] at hv
      have d1 := dec_size V hv.1 hv.2
      have d2 := dec_size (nt : Int) (by omega) (by omega)
      have HE := Lib.hid (endL_eq V nt)
      have hlo : o1.length + (bs (endL V nt)).size ≤ 1000000000 := by
        have e : (bs (endL V nt)).size = (endL V nt).length := by show (endL V nt).toArray.size = _; simp
        have e1 : (dec V).size = (Lib.itoa V).length := by show (Lib.itoa V).toArray.size = _; simp
        have e2 : (dec (nt : Int)).size = (Lib.itoa (nt : Int)).length := by show (Lib.itoa (nt : Int)).toArray.size = _; simp
        rw [e]
        simp only [endL, List.length_append, List.length_cons, List.length_nil]
        omega
      have hl1 := no_long (n := 6) (by omega) (dec V).size (by omega)
      have hl2 := no_long (n := 6 + (dec V).size) (by omega) 9 (by omega)
      have hl3 := no_long (n := 6 + (dec V).size + 9) (by omega) (dec (nt : Int)).size (by omega)
      have hl4 := no_long (n := 6 + (dec V).size + 9 + (dec (nt : Int)).size) (by omega) 1 (by omega)
      have HVV := Lib.hid (And.intro hV hnt)
      have hbb : w.heap.size ≤ W1.heap.size := hbW.size
      have hbw : W1.heap.size ≤ wr.heap.size := by have := hl.lt; omega
      have hB1 : w.heap.size + 1 < W1.heap.size := hTlt
      clear ht hbu hb hl hV g0 g1 g2 g3 g4 hnt hj
      go_wp2_with fail
      go_region_held3 (fun w' => w'.cell? ⟨w.heap.size + 1, 0, none⟩ = some (.slice Ab nb cb) ∧ w'.cell? ⟨w.heap.size + 1, 3, none⟩ = some (.slice At nt ct)) (first | (constructor <;> go_simp) | go_keep) (first
        | (go_at_call 48; refine (BoardValue_any Ab nb cb s'.bs _ HI.out.drew).mono ?_; rw [HVV.out.1]; rintro e w4 ⟨rfl, hb4'⟩; have hb4 := (Below.refl wr.heap.size wr).drew.trans hb4'; have c04 := (HG.out.next hb4).cell (j := 0) (v := .slice Ab nb cb) rfl; have c34 := (HG.out.next hb4).cell (j := 3) (v := .slice At nt ct) rfl; have HB4 := Lib.hid hb4; clear hb4 hb4')
        | (go_at_call 47; refine (Itoa_any ((HP.out.below HX.out.2).below (HB4.out.mono HX.out.2.size)) V hv.1 hv.2).mono ?_; rintro e w5 ⟨rfl, hb5'⟩; have hb5 := HB4.out.trans (hb5'.mono HB4.out.size); have c05 := (HG.out.next hb5).cell (j := 0) (v := .slice Ab nb cb) rfl; have c35 := (HG.out.next hb5).cell (j := 3) (v := .slice At nt ct) rfl; have HB5 := Lib.hid hb5; clear hb5 hb5')
        | (go_at_call 47; refine (Itoa_any ((HP.out.below HX.out.2).below (HB5.out.mono HX.out.2.size)) (nt : Int) (by omega) (by omega)).mono ?_; rintro e w6 ⟨rfl, hb6'⟩; have hb6 := HB5.out.trans (hb6'.mono HB5.out.size); have c06 := (HG.out.next hb6).cell (j := 0) (v := .slice Ab nb cb) rfl; have c36 := (HG.out.next hb6).cell (j := 3) (v := .slice At nt ct) rfl; have HB6 := Lib.hid hb6; clear hb6 hb6')
        | (go_at_call 45; rw [HE.out]; refine (WriteString_any W1.heap.size W1.heap.size o1 _ _ (Bu.keptT HX.out.1 (KeptT.of_below (B0 := 0) HB6.out)) hlo (Nat.le_trans hbw HB6.out.size)).mono ?_; rintro e w7 ⟨⟨v7, rfl⟩, hbu7, hb7, hot7⟩; have c07 : w7.cell? ⟨w.heap.size + 1, 0, none⟩ = some (.slice Ab nb cb) := (hb7.cell (p := ⟨w.heap.size + 1, 0, none⟩) hB1).trans c06; have c37 : w7.cell? ⟨w.heap.size + 1, 3, none⟩ = some (.slice At nt ct) := (hb7.cell (p := ⟨w.heap.size + 1, 3, none⟩) hB1).trans c36))
      rw [bs_list] at hbu7
      have hb7w := (HX.out.2.trans (HB6.out.mono HX.out.2.size)).trans (hb7.mono hbb)
      have HBU7 := Lib.hid hbu7
      have hbw7 : W1.heap.size ≤ w7.heap.size := Nat.le_trans hbw (Nat.le_trans HB6.out.size hb7.size)
      clear hbu7 c07 c37 c0 c3
      go_wp2_with fail
      refine (Tryz.Builder_String_any W1.heap.size W1.heap.size (o1 ++ endL V nt) w7 HBU7.out hbw7).mono ?_
      rintro e w8 ⟨rfl, hb8⟩
      go_wp2_with fail
      go_ret
      exact ⟨by rw [HVV.out.1, HVV.out.2]; rfl, hb7w.trans (hb8.mono hbb)⟩
end Go.Proofs.YthdoofmfigemoaaGreatDoor
end

section
/-
  Lines built of words and numbers: what Split makes of them, and the numbers that their words count as.
-/
namespace Go.Proofs.YthdoofmfigemoaaGreatDoor
open Go.RowKit
set_option linter.unusedSimpArgs false

theorem cut_none (c : UInt8) : ∀ a : List UInt8, c ∉ a → cut c a = [a]
  | [], _ => rfl
  | b :: a, h => by
    have hb : b ≠ c := fun e => h (by simp [e])
    have ih := cut_none c a (fun e => h (List.mem_cons_of_mem _ e))
    simp only [cut, hb, if_false, ih]
theorem cut_at (c : UInt8) : ∀ a b : List UInt8, c ∉ a → cut c (a ++ c :: b) = a :: cut c b
  | [], b, _ => by simp [cut]
  | x :: a, b, h => by
    have hx : x ≠ c := fun e => h (by simp [e])
    have ih := cut_at c a b (fun e => h (List.mem_cons_of_mem _ e))
    simp only [List.cons_append, cut, hx, if_false, ih]
theorem wfold_app : ∀ (a b : List UInt8) (n : Int), wfold (a ++ b) n = (wfold a n).bind (wfold b)
  | [], b, n => rfl
  | c :: a, b, n => by
    simp only [List.cons_append, wfold]
    split
    · rfl
    · exact wfold_app a b _
theorem digit_nat (d : Nat) (h : d < 10) : (UInt8.ofNat (48 + d)).toNat = 48 + d := by
  rw [UInt8.toNat_ofNat']
  omega
theorem wfold_dec (u : Nat) : wfold (Lib.decDigits u) 0 = some (u : Int) := by
  induction u using Nat.strongRecOn with
  | ind u ih =>
    rw [Lib.decDigits]
    split
    · rename_i h
      simp only [wfold, digit_nat u h]
      rw [if_neg (by omega)]
      congr 1
      omega
    · rename_i h
      rw [wfold_app, ih (u / 10) (by omega)]
      show wfold [UInt8.ofNat (48 + u % 10)] ((u / 10 : Nat) : Int) = _
      simp only [wfold, digit_nat (u % 10) (by omega)]
      rw [if_neg (by omega)]
      congr 1
      omega
theorem dec_pos (u : Nat) : 1 ≤ (Lib.decDigits u).length := by
  rw [Lib.decDigits]
  split <;> simp
theorem wnum_itoa (v : Int) (h0 : 0 ≤ v) (h1 : v ≤ 999999) : wnum (Lib.itoa v) = v := by
  have h6 := decDigits_len 6 v.toNat (by omega) (by omega)
  have hp := dec_pos v.toNat
  unfold wnum Lib.itoa
  rw [if_neg (show ¬ v < 0 by omega), if_neg (by omega), wfold_dec]
  simp
  omega
theorem dec_mem {c : UInt8} (u : Nat) : c ∈ Lib.decDigits u → 48 ≤ c.toNat ∧ c.toNat ≤ 57 := by
  induction u using Nat.strongRecOn with
  | ind u ih =>
    rw [Lib.decDigits]
    split
    · rename_i h
      intro hc
      have := List.mem_singleton.1 hc
      subst this
      rw [digit_nat u h]
      omega
    · rename_i h
      intro hc
      rcases List.mem_append.1 hc with hc | hc
      · exact ih (u / 10) (by omega) hc
      · have := List.mem_singleton.1 hc
        subst this
        rw [digit_nat (u % 10) (by omega)]
        omega
theorem itoa_free {c : UInt8} (hc : c.toNat < 48) {v : Int} (h0 : 0 ≤ v) : c ∉ Lib.itoa v := by
  unfold Lib.itoa
  rw [if_neg (by omega)]
  intro h
  have := dec_mem _ h
  omega
theorem good0 {k : List UInt8} {f : Nat} (hk : (32 : UInt8) ∉ k) (hc : cmdOf (bs k) = some (0, f)) : Good k (0, f) [] :=
  ⟨k, [], cut_none 32 k hk, hc, rfl, rfl⟩
theorem good1 {k : List UInt8} {f : Nat} {a : Int} (hk : (32 : UInt8) ∉ k) (hc : cmdOf (bs k) = some (1, f)) (a0 : 0 ≤ a) (a1 : a ≤ 999999) : Good (k ++ 32 :: Lib.itoa a) (1, f) [a] :=
  ⟨k, [Lib.itoa a], by rw [cut_at 32 k _ hk, cut_none 32 _ (itoa_free (by decide) a0)], hc, rfl, by simp [wnum_itoa a a0 a1]⟩
theorem good2 {k : List UInt8} {f : Nat} {a b : Int} (hk : (32 : UInt8) ∉ k) (hc : cmdOf (bs k) = some (2, f)) (a0 : 0 ≤ a) (a1 : a ≤ 999999) (b0 : 0 ≤ b) (b1 : b ≤ 999999) : Good (k ++ 32 :: (Lib.itoa a ++ 32 :: Lib.itoa b)) (2, f) [a, b] :=
  ⟨k, [Lib.itoa a, Lib.itoa b], by rw [cut_at 32 k _ hk, cut_at 32 _ _ (itoa_free (by decide) a0), cut_none 32 _ (itoa_free (by decide) b0)], hc, rfl, by simp [wnum_itoa a a0 a1, wnum_itoa b b0 b1]⟩
theorem good3 {k : List UInt8} {f : Nat} {a b d : Int} (hk : (32 : UInt8) ∉ k) (hc : cmdOf (bs k) = some (3, f)) (a0 : 0 ≤ a) (a1 : a ≤ 999999) (b0 : 0 ≤ b) (b1 : b ≤ 999999) (d0 : 0 ≤ d) (d1 : d ≤ 999999) :
    Good (k ++ 32 :: (Lib.itoa a ++ 32 :: (Lib.itoa b ++ 32 :: Lib.itoa d))) (3, f) [a, b, d] :=
  ⟨k, [Lib.itoa a, Lib.itoa b, Lib.itoa d], by rw [cut_at 32 k _ hk, cut_at 32 _ _ (itoa_free (by decide) a0), cut_at 32 _ _ (itoa_free (by decide) b0), cut_none 32 _ (itoa_free (by decide) d0)], hc, rfl, by simp [wnum_itoa a a0 a1, wnum_itoa b b0 b1, wnum_itoa d d0 d1]⟩
theorem itoa_size (v : Int) (h0 : 0 ≤ v) (h1 : v ≤ 999999) : (Lib.itoa v).length ≤ 6 := by
  have h6 := decDigits_len 6 v.toNat (by omega) (by omega)
  unfold Lib.itoa
  rw [if_neg (by omega)]
  exact h6
end Go.Proofs.YthdoofmfigemoaaGreatDoor
end

section
/-
  The decimal text of a number, by the laws' digits and by the reference's l6Dec.
-/
namespace Go.Proofs.YthdoofmfigemoaaGreatDoor
open Go.RowKit
set_option linter.unusedSimpArgs false

/-- string([]byte{b}) behind other steps -/
theorem conv_blk {w : World} {k : Nat} {v : Int} (h : Blk w k #[.int .u8 v] 5) (b : UInt8) (hv : (b.toNat : Int) = v) :
    (convert 22 9 (.slice (some ⟨k, 0, none⟩) 1 1)).run Tryz.prog w = .ok (.string (bs [b])) w := by
  subst hv
  exact run_convert_bytes_back (P := Tryz.prog) w 22 9 5 ⟨k, 0, none⟩ 1 [b] Tryz.underlying22 Tryz.underlying5 Tryz.underlying9 (by
    intro j hj
    obtain rfl : j = 0 := by simpa using hj
    exact h.cell rfl)
theorem dec_small {n : Nat} (h : n < 10) : dec (n : Int) = bs [UInt8.ofNat (48 + n)] := by
  unfold dec
  rw [Lib.itoa_nonneg, Lib.decDigits_one h]
  rfl
theorem dec_step {n : Nat} (h : ¬ n < 10) : dec (n : Int) = dec ((n / 10 : Nat) : Int) ++ bs [UInt8.ofNat (48 + n % 10)] := by
  unfold dec
  rw [Lib.itoa_nonneg, Lib.itoa_nonneg, Lib.decDigits, dif_neg h]
  exact (ByteArray.mk_append_mk _ _).symm
set_option maxRecDepth 100000 in
set_option maxHeartbeats 2000000 in
theorem digits_any (n : Nat) : n ≤ 9223372036854775807 → ∀ w : World, Calls Tryz.prog 21 #[.int .i64 (n : Int)] w fun e w' => e = .returned (.string (dec (n : Int))) ∧ Below w.heap.size w w' := by
  induction n using Nat.strongRecOn with
  | ind n ih =>
  intro hn w
  by_cases h : n < 10
  · obtain ⟨b, hb⟩ : ∃ b, UInt8.ofNat (48 + n) = b := ⟨_, rfl⟩
    have hbn : (b.toNat : Int) = 48 + (n : Int) := by rw [← hb, digit_nat n h]; omega
    have hcv := conv_blk (Blk.new w #[.int .u8 (48 + (n : Int))] 5) b hbn
    rw [dec_small h, hb]
    have h3 : (n : Int) < 10 := by omega
    clear hb hbn ih
    go_enter Tryz.func21, Tryz.ntmps21
    go_wp2
    go_ret
    exact ⟨rfl, (Below.refl _ _).alloc (Nat.le_refl _) _⟩
  · obtain ⟨b, hb⟩ : ∃ b, UInt8.ofNat (48 + n % 10) = b := ⟨_, rfl⟩
    obtain ⟨m, hm⟩ : ∃ m : Int, ((n % 10 : Nat) : Int) = m := ⟨_, rfl⟩
    have hbn : (b.toNat : Int) = 48 + m := by rw [← hb, digit_nat _ (by omega)]; omega
    have hih := ih (n / 10) (by omega) (by omega)
    obtain ⟨k, hk⟩ : ∃ k : Int, ((n / 10 : Nat) : Int) = k := ⟨_, rfl⟩
    have hq : Int.tdiv (n : Int) 10 = k := by rw [← hk]; rfl
    have hr : Int.tmod (n : Int) 10 = m := by rw [← hm]; rfl
    have m0 : 0 ≤ m := by omega
    have m9 : m ≤ 9 := by omega
    have k0 : 0 ≤ k := by omega
    have k1 : k ≤ 922337203685477580 := by omega
    rw [dec_step h, hb]
    rw [hk] at hih ⊢
    have hsz := dec_size k (by omega) (by omega)
    obtain ⟨D, hD⟩ : ∃ D, dec k = D := ⟨_, rfl⟩
    rw [hD] at hih hsz ⊢
    have h3 : ¬ (n : Int) < 10 := by omega
    have HIH := Lib.hid hih
    have hcv : ∀ w : World, (convert 22 9 (.slice (some ⟨w.heap.size, 0, none⟩) 1 1)).run Tryz.prog (w.alloc (.cells #[.int .u8 (48 + m)] 5)) = .ok (.string (bs [b])) (w.alloc (.cells #[.int .u8 (48 + m)] 5)) := fun w => conv_blk (Blk.new w _ _) b hbn
    have hcvd := conv_blk (Blk.drew (Blk.new w #[.int .u8 (48 + m)] 5)) b hbn
    have hcn := fun (w2 : World) (h : Below (w.alloc (.cells #[.int .u8 (48 + m)] 5)).drew.heap.size (w.alloc (.cells #[.int .u8 (48 + m)] 5)).drew w2) => conv_blk (Blk.next (Blk.drew (Blk.new w #[.int .u8 (48 + m)] 5)) h) b hbn
    obtain ⟨X, hX⟩ : ∃ X, bs [b] = X := ⟨_, rfl⟩
    have hlong : ¬ 9223372036854775807 < D.size + X.size := by
      have e : X.size = 1 := by rw [← hX]; rfl
      omega
    have u1 : IntKind.i64.wrap k = k := IntWalk.i64_in _ (by omega)
    have u2 : IntKind.i64.wrap m = m := IntWalk.i64_in _ (by omega)
    have u3 : IntKind.i64.wrap (48 + m) = 48 + m := IntWalk.i64_in _ (by omega)
    have u4 : IntKind.u8.wrap (48 + m) = 48 + m := IntWalk.u8_in _ (by omega)
    rw [hX] at hcv hcvd hcn ⊢
    clear hb hih ih hD hk hm hn h hX hbn
    go_enter Tryz.func21, Tryz.ntmps21
    go_wp2_with fail
    --<digits
    refine wp_region_held_drew (S := (fun _ => True)) (by kernel_rfl) ?_ (fun hHeld => ?_)
    · (try dsimp only)
      all_goals (exact True.intro)
    refine wpAnyH_take (i := 0) (oi := { dst := some 10, op := _, type := _, pos := _, after := _, guard := _ }) (v := ?v1) rfl (by kernel_rfl) (by kernel_rfl) (by kernel_rfl) (fun _ _ _ h => h) (Or.inl ⟨by rfl, ?hy1⟩) (by first | assumption | exact hHeld) ?rest1
    case hy1 => ((intro w0 hSw; (try dsimp only at hSw); go_simp) <;> with_reducible rfl)
    (try simp only [Act.put, List.setIfInBounds_toArray, List.set_cons_zero, List.set_cons_succ])
    refine wpAnyH_take (i := 1) (oi := { dst := some 11, op := _, type := _, pos := _, after := _, guard := _ }) (v := ?v2) rfl (by kernel_rfl) (by kernel_rfl) (by kernel_rfl) (fun _ _ _ h => h) (Or.inl ⟨by rfl, ?hy2⟩) (by first | assumption | exact hHeld) ?rest2
    case hy2 => ((intro w0 hSw; (try dsimp only at hSw); go_simp) <;> with_reducible rfl)
    (try simp only [Act.put, List.setIfInBounds_toArray, List.set_cons_zero, List.set_cons_succ])
    refine wpAnyH_take (i := 3) (oi := { dst := some 13, op := _, type := _, pos := _, after := _, guard := _ }) (v := ?v3) rfl (by kernel_rfl) (by kernel_rfl) (by kernel_rfl) (fun _ _ _ h => h) (Or.inl ⟨by rfl, ?hy3⟩) (by first | assumption | exact hHeld) ?rest3
    case hy3 => ((intro w0 hSw; (try dsimp only at hSw); go_simp) <;> with_reducible rfl)
    (try simp only [Act.put, List.setIfInBounds_toArray, List.set_cons_zero, List.set_cons_succ])
    refine wpAnyH_take (i := 4) (oi := { dst := some 14, op := _, type := _, pos := _, after := _, guard := _ }) (v := ?v4) rfl (by kernel_rfl) (by kernel_rfl) (by kernel_rfl) (fun _ _ _ h => h) (Or.inl ⟨by rfl, ?hy4⟩) (by first | assumption | exact hHeld) ?rest4
    case hy4 => ((intro w0 hSw; (try dsimp only at hSw); go_simp) <;> with_reducible rfl)
    (try simp only [Act.put, List.setIfInBounds_toArray, List.set_cons_zero, List.set_cons_succ])
    refine wpAnyH_take (i := 5) (oi := { dst := some 15, op := _, type := _, pos := _, after := _, guard := _ }) (v := ?v5) rfl (by kernel_rfl) (by kernel_rfl) (by kernel_rfl) (fun _ _ _ h => h) (Or.inl ⟨by rfl, ?hy5⟩) (by first | assumption | exact hHeld) ?rest5
    case hy5 => ((intro w0 hSw; (try dsimp only at hSw); go_simp) <;> with_reducible rfl)
    (try simp only [Act.put, List.setIfInBounds_toArray, List.set_cons_zero, List.set_cons_succ])
    refine wpAnyH_take (i := 6) (oi := { dst := some 16, op := _, type := _, pos := _, after := _, guard := _ }) (v := ?v6) rfl (by kernel_rfl) (by kernel_rfl) (by kernel_rfl) (fun _ _ _ h => h) (Or.inl ⟨by rfl, ?hy6⟩) (by first | assumption | exact hHeld) ?rest6
    case hy6 => ((intro w0 hSw; (try dsimp only at hSw); go_simp) <;> with_reducible rfl)
    (try simp only [Act.put, List.setIfInBounds_toArray, List.set_cons_zero, List.set_cons_succ])
    refine wpAnyH_ready (rs := [2, 7]) (by kernel_rfl) (by simp) ?_
    refine AllReadyH.cons (o := { dst := some 12, op := _, type := _, pos := _, after := _, guard := _ }) rfl (fun K hK => ?_) ?_
    · go_simp
      refine (HIH.out _).mono ?_
      rintro e w2 ⟨rfl, hb2⟩
      have hcv2 := hcv w2
      (try go_wp2_with fail)
      refine hK.out _ _ ?_ (fun hHeld7 => ?_)
      · (try dsimp only)
        all_goals (exact True.intro)
      clear hK K
      (try clear hHeld)
      (try simp only [Act.put, List.setIfInBounds_toArray, List.set_cons_zero, List.set_cons_succ])
      refine wpAnyH_ready (rs := [7]) (by kernel_rfl) (by simp) ?_
      refine AllReadyH.cons (o := { dst := some 17, op := _, type := _, pos := _, after := _, guard := _ }) rfl (fun K hK => ?_) ?_
      · go_simp
        refine hK.out _ _ ?_ (fun hHeld8 => ?_)
        · (try dsimp only)
          all_goals (exact True.intro)
        clear hK K
        (try clear hHeld7)
        (try simp only [Act.put, List.setIfInBounds_toArray, List.set_cons_zero, List.set_cons_succ])
        refine wpAnyH_ready (rs := [8]) (by kernel_rfl) (by simp) ?_
        refine AllReadyH.cons (o := { dst := some 18, op := _, type := _, pos := _, after := _, guard := _ }) rfl (fun K hK => ?_) ?_
        · go_simp
          refine hK.out _ _ ?_ (fun hHeld9 => ?_)
          · (try dsimp only)
            all_goals (exact True.intro)
          clear hK K
          (try clear hHeld8)
          (try simp only [Act.put, List.setIfInBounds_toArray, List.set_cons_zero, List.set_cons_succ])
          refine wpAnyH_take (i := 9) (oi := { dst := some 19, op := _, type := _, pos := _, after := _, guard := _ }) (v := ?v10) rfl (by kernel_rfl) (by kernel_rfl) (by kernel_rfl) (fun _ _ _ h => h) (Or.inl ⟨by rfl, ?hy10⟩) (by first | assumption | exact hHeld9) ?rest10
          case hy10 => ((intro w0 hSw; (try dsimp only at hSw); go_simp) <;> with_reducible rfl)
          (try simp only [Act.put, List.setIfInBounds_toArray, List.set_cons_zero, List.set_cons_succ])
          refine wpAnyH_take (i := 10) (oi := { dst := some 2, op := _, type := _, pos := _, after := _, guard := _ }) (v := ?v11) rfl (by kernel_rfl) (by kernel_rfl) (by kernel_rfl) (fun _ _ _ h => h) (Or.inl ⟨by rfl, ?hy11⟩) (by first | assumption | exact hHeld9) ?rest11
          case hy11 => ((intro w0 hSw; (try dsimp only at hSw); go_simp) <;> with_reducible rfl)
          (try simp only [Act.put, List.setIfInBounds_toArray, List.set_cons_zero, List.set_cons_succ])
          refine wpAnyH_done (by kernel_rfl) ?_ _
          go_wp2
          go_ret
          exact ⟨rfl, ((Below.refl _ _).drew.trans hb2).alloc (by have := hb2.size; simpa using this) _⟩
        exact AllReadyH.nil
      exact AllReadyH.nil
    refine AllReadyH.cons (o := { dst := some 17, op := _, type := _, pos := _, after := _, guard := _ }) rfl (fun K hK => ?_) ?_
    · go_simp
      refine hK.out _ _ ?_ (fun hHeld12 => ?_)
      · (try dsimp only)
        all_goals (exact True.intro)
      clear hK K
      (try clear hHeld)
      (try simp only [Act.put, List.setIfInBounds_toArray, List.set_cons_zero, List.set_cons_succ])
      refine wpAnyH_ready (rs := [2, 8]) (by kernel_rfl) (by simp) ?_
      refine AllReadyH.cons (o := { dst := some 12, op := _, type := _, pos := _, after := _, guard := _ }) rfl (fun K hK => ?_) ?_
      · go_simp
        refine (HIH.out _).mono ?_
        rintro e w2 ⟨rfl, hb2⟩
        have hcv2 := hcn w2 hb2
        (try go_wp2_with fail)
        refine hK.out _ _ ?_ (fun hHeld13 => ?_)
        · (try dsimp only)
          all_goals (exact True.intro)
        clear hK K
        (try clear hHeld12)
        (try simp only [Act.put, List.setIfInBounds_toArray, List.set_cons_zero, List.set_cons_succ])
        refine wpAnyH_ready (rs := [8]) (by kernel_rfl) (by simp) ?_
        refine AllReadyH.cons (o := { dst := some 18, op := _, type := _, pos := _, after := _, guard := _ }) rfl (fun K hK => ?_) ?_
        · go_simp
          refine hK.out _ _ ?_ (fun hHeld14 => ?_)
          · (try dsimp only)
            all_goals (exact True.intro)
          clear hK K
          (try clear hHeld13)
          (try simp only [Act.put, List.setIfInBounds_toArray, List.set_cons_zero, List.set_cons_succ])
          refine wpAnyH_take (i := 9) (oi := { dst := some 19, op := _, type := _, pos := _, after := _, guard := _ }) (v := ?v15) rfl (by kernel_rfl) (by kernel_rfl) (by kernel_rfl) (fun _ _ _ h => h) (Or.inl ⟨by rfl, ?hy15⟩) (by first | assumption | exact hHeld14) ?rest15
          case hy15 => ((intro w0 hSw; (try dsimp only at hSw); go_simp) <;> with_reducible rfl)
          (try simp only [Act.put, List.setIfInBounds_toArray, List.set_cons_zero, List.set_cons_succ])
          refine wpAnyH_take (i := 10) (oi := { dst := some 2, op := _, type := _, pos := _, after := _, guard := _ }) (v := ?v16) rfl (by kernel_rfl) (by kernel_rfl) (by kernel_rfl) (fun _ _ _ h => h) (Or.inl ⟨by rfl, ?hy16⟩) (by first | assumption | exact hHeld14) ?rest16
          case hy16 => ((intro w0 hSw; (try dsimp only at hSw); go_simp) <;> with_reducible rfl)
          (try simp only [Act.put, List.setIfInBounds_toArray, List.set_cons_zero, List.set_cons_succ])
          refine wpAnyH_done (by kernel_rfl) ?_ _
          go_wp2
          go_ret
          exact ⟨rfl, ((Below.refl _ _).alloc (Nat.le_refl _) _).drew.trans (hb2.mono (by simp))⟩
        exact AllReadyH.nil
      refine AllReadyH.cons (o := { dst := some 18, op := _, type := _, pos := _, after := _, guard := _ }) rfl (fun K hK => ?_) ?_
      · go_simp
        refine hK.out _ _ ?_ (fun hHeld17 => ?_)
        · (try dsimp only)
          all_goals (exact True.intro)
        clear hK K
        (try clear hHeld12)
        (try simp only [Act.put, List.setIfInBounds_toArray, List.set_cons_zero, List.set_cons_succ])
        refine wpAnyH_ready (rs := [2]) (by kernel_rfl) (by simp) ?_
        refine AllReadyH.cons (o := { dst := some 12, op := _, type := _, pos := _, after := _, guard := _ }) rfl (fun K hK => ?_) ?_
        · go_simp
          refine (HIH.out _).mono ?_
          rintro e w2 ⟨rfl, hb2⟩
          (try go_wp2_with fail)
          refine hK.out _ _ ?_ (fun hHeld18 => ?_)
          · (try dsimp only)
            all_goals (exact True.intro)
          clear hK K
          (try clear hHeld17)
          (try simp only [Act.put, List.setIfInBounds_toArray, List.set_cons_zero, List.set_cons_succ])
          refine wpAnyH_take (i := 9) (oi := { dst := some 19, op := _, type := _, pos := _, after := _, guard := _ }) (v := ?v19) rfl (by kernel_rfl) (by kernel_rfl) (by kernel_rfl) (fun _ _ _ h => h) (Or.inl ⟨by rfl, ?hy19⟩) (by first | assumption | exact hHeld18) ?rest19
          case hy19 => ((intro w0 hSw; (try dsimp only at hSw); go_simp) <;> with_reducible rfl)
          (try simp only [Act.put, List.setIfInBounds_toArray, List.set_cons_zero, List.set_cons_succ])
          refine wpAnyH_take (i := 10) (oi := { dst := some 2, op := _, type := _, pos := _, after := _, guard := _ }) (v := ?v20) rfl (by kernel_rfl) (by kernel_rfl) (by kernel_rfl) (fun _ _ _ h => h) (Or.inl ⟨by rfl, ?hy20⟩) (by first | assumption | exact hHeld18) ?rest20
          case hy20 => ((intro w0 hSw; (try dsimp only at hSw); go_simp) <;> with_reducible rfl)
          (try simp only [Act.put, List.setIfInBounds_toArray, List.set_cons_zero, List.set_cons_succ])
          refine wpAnyH_done (by kernel_rfl) ?_ _
          go_wp2
          go_ret
          exact ⟨rfl, ((Below.refl _ _).alloc (Nat.le_refl _) _).drew.trans (hb2.mono (by simp))⟩
        exact AllReadyH.nil
      exact AllReadyH.nil
    exact AllReadyH.nil
    --digits>
set_option maxRecDepth 100000 in
set_option maxHeartbeats 1000000 in
theorem endLine_any (v n : Nat) (hv : v ≤ 9223372036854775807) (hn : n ≤ 9223372036854775807) (w : World) :
    Calls Tryz.prog 23 #[.int .i64 (v : Int), .int .i64 (n : Int)] w fun e w' => e = .returned (.string (bs (endL v n))) ∧ Below w.heap.size w w' := by
  have d1 := dec_size (v : Int) (by omega) (by omega)
  have d2 := dec_size (n : Int) (by omega) (by omega)
  have hl1 := no_long (n := 6) (by omega) (dec (v : Int)).size (by omega)
  have hl2 := no_long (n := 6 + (dec (v : Int)).size) (by omega) 9 (by omega)
  have hl3 := no_long (n := 6 + (dec (v : Int)).size + 9) (by omega) (dec (n : Int)).size (by omega)
  have hl4 := no_long (n := 6 + (dec (v : Int)).size + 9 + (dec (n : Int)).size) (by omega) 1 (by omega)
  have HE := Lib.hid (endL_eq (v : Int) n)
  have h1 := digits_any v hv
  have h2 := digits_any n hn
  have H1 := Lib.hid h1
  have H2 := Lib.hid h2
  clear h1 h2 hv hn
  go_enter Tryz.func23, Tryz.ntmps23
  go_wp2_with fail
  refine (H1.out _).mono ?_
  rintro e w1 ⟨rfl, hb1⟩
  have HB1 := Lib.hid hb1
  clear hb1
  go_wp2_with fail
  refine (H2.out _).mono ?_
  rintro e w2 ⟨rfl, hb2⟩
  have HB2 := Lib.hid (HB1.out.trans (hb2.mono HB1.out.size))
  clear hb2
  go_wp2_with fail
  rw [HE.out]
  go_ret
  exact ⟨rfl, HB2.out⟩
theorem endL_size (v n : Int) (v0 : -9223372036854775808 ≤ v) (v1 : v ≤ 9223372036854775807) (n0 : -9223372036854775808 ≤ n) (n1 : n ≤ 9223372036854775807) : (bs (endL v n)).size ≤ 60 := by
  have e : (bs (endL v n)).size = (endL v n).length := by show (endL v n).toArray.size = _; simp
  have e1 : (dec v).size = (Lib.itoa v).length := by show (Lib.itoa v).toArray.size = _; simp
  have e2 : (dec n).size = (Lib.itoa n).length := by show (Lib.itoa n).toArray.size = _; simp
  have d1 := dec_size v v0 v1
  have d2 := dec_size n n0 n1
  rw [e]
  simp only [endL, List.length_append, List.length_cons, List.length_nil]
  omega
end Go.Proofs.YthdoofmfigemoaaGreatDoor
end

section
/-
  From a walk to a row's form, where the walk wants both the laid tables and the world's shape.
-/
namespace Go.Proofs.YthdoofmfigemoaaGreatDoor
open Go.RowKit
variable {H : Type} {enc : TypeId × Value → H}

theorem handed_both {a : Assume} {C : Checked} {os : Os} {f : FuncId} {fn : Func} {s : ChangeSpec} {conds : List PathCond} {apart fresh handsOn again : Bool} {X : World → Array Value → Prop}
    (hX : ∀ (w w' : World) (args : Array Value), w.heap = w'.heap → X w args → X w' args)
    (own : ownKnob C.prog.godebug = none) (started : os.Started) (noInit : C.prog.inits.idxOf? f = none) (hfn : C.prog.funcs[f]? = some fn)
    (wit : ∃ (w : World) (tape : Tape) (i : Input), w.os = os ∧ (w.forCall tape i).Shaped C.prog ∧ i.vars = [] ∧ Input.okWide C.prog (w.forCall tape i) .any w.heap.size f i ∧
      ((s.pre enc C.prog fn conds apart (w.forCall tape i).memory i.args ∧ X (w.forCall tape i).memory i.args) ∧ sizedMet enc C.prog fn (OpenSpec.ofChange s) apart (w.forCall tape i).memory i.args) ∧ a.holds C.prog (lone (Frame.enter C.prog f i.args .normal) [] (w.forCall tape i)))
    (walk : ∀ (W : World) (base : Nat) (args : Array Value) (ds gs : List (DataW H)) (before : List MemPlace),
      (∀ (j : Nat) t v, fn.params[j]? = some t → args[j]? = some v → Value.okWide C.prog W .any base t v) →
      DataW.Whole enc C.prog fn.params.toList s.vars apart W args.toList ds gs before →
      X W args → W.ShapedOpen C.prog →
      Calls C.prog f args W fun e W' => ∃ v, e = .returned v ∧ s.post enc C.prog fn apart fresh handsOn again W args v W') :
    ReturnsInHanded a C os f .any (fun w args => (s.pre enc C.prog fn conds apart w args ∧ X w args) ∧ sizedMet enc C.prog fn (OpenSpec.ofChange s) apart w args) (s.post enc C.prog fn apart fresh handsOn again) := by
  refine returnsInHanded_of_calls own started noInit wit fun w tape i _ shape _ okay met _ => ?_
  obtain ⟨_, _, _, fn', at', _, _, _, _, vals⟩ := okay
  obtain rfl : fn' = fn := Option.some.inj (at'.symm.trans hfn)
  obtain ⟨⟨⟨ds, gs, before, whole, _⟩, x⟩, _⟩ := met
  refine (walk (w.forCall tape i) w.heap.size i.args ds gs before vals (DataW.Whole.of_heap (w' := w.forCall tape i) (by rfl) whole) (hX _ _ _ (by rfl) x) shape).mono ?_
  rintro e W' ⟨v, rfl, post⟩
  exact ChangeSpec.post_blind post
/-- the cell that strings.Split asks for, out of the world's shape -/
theorem max_of_shape {W : World} (h : W.ShapedOpen Tryz.prog) : Max W :=
  cell_of_shapedOpen_int (P := Tryz.prog) (g := 0) (t := 3) (zero := #[.int .i64 0]) h (of_decide_eq_true (by kernel_rfl)) (by kernel_rfl) rfl (by kernel_rfl) (by kernel_rfl) Tryz.underlying3
theorem tab_of_reads {P : Program} {w : World} {name : String} {k : IntKind} {zs : List Int} {g : Nat} {t e : TypeId} {n : Nat}
    (hg : P.globalNamed name = some g) (hty : (P.globals[g]?).map (·.type) = some t) (ht : P.underlying t = some (.array n e)) (he : P.underlying e = some (.int k)) (hce : P.cellsOf e = 1) (hct : P.cellsOf t = n)
    (h : Lib.VarReads P w name (Lib.tabData k zs)) : Lib.TabIs P w name k zs := by
  obtain ⟨g', t', cs, fuel, p, h1, h2, h3, h4⟩ := h
  obtain rfl := Option.some.inj (hg.symm.trans h1)
  obtain rfl := Option.some.inj (hty.symm.trans h2)
  unfold Lib.TabIs
  rw [h3, ← Lib.cells_of_tab ht he hce hct h4]
theorem pow_data : (Rows.laid_internal_strconv_uint64pow10 : DataW Unit) = Lib.tabData .u64 Lib.pow10Tab := rfl
/-- the powers of ten, out of a row's list -/
theorem pow_of_laid {l : List (String × DataW Unit)} {W : World} (h : laidMetH Tryz.prog l W) (hl : (l.all fun x => x.2.handleName?.isNone) = true) (hm : ("internal/strconv.uint64pow10", Rows.laid_internal_strconv_uint64pow10) ∈ l) : Pow W.heap.size W := by
  rw [MakeChecks.laidMetH_plain _ _ _ hl] at h
  rw [pow_data] at hm
  have hr := Lib.laidMet.reads h hm
  have hg : Tryz.prog.globalNamed "internal/strconv.uint64pow10" = some 1 := by kernel_rfl
  have ht := tab_of_reads (P := Tryz.prog) (t := 213) (e := 195) hg (by kernel_rfl) Tryz.underlying213 Tryz.underlying195 (by kernel_rfl) (by kernel_rfl) hr
  have hlt : 1 < W.heap.size := World.block_lt_of_cell? W _ (Lib.TabIs.cell ht hg 0 (by decide))
  exact fun w' hb => var?_below hb hg hlt ht
end Go.Proofs.YthdoofmfigemoaaGreatDoor
end

section
/-
  A number added on the empty frame of a script, told, and taken again.
-/
namespace Go.Proofs.YthdoofmfigemoaaGreatDoor
open Go.RowKit
set_option linter.unusedSimpArgs false

theorem fr_chg_len (s : Int) : ∀ (ds : List Int) (g : Int) (r : List Int) (n : Int), Fr.chg s ds g = some (r, n) → r.length = ds.length
  | [], g, r, n, h => by
    unfold Fr.chg at h
    split at h
    · injection h with h; injection h with h1 h2; subst h1; rfl
    · cases h
  | d :: ds, g, r, n, h => by
    unfold Fr.chg at h
    split at h
    · injection h with h; injection h with h1 h2; subst h1; rfl
    · split at h
      · injection h with h; injection h with h1 h2; subst h1; rfl
      · cases hc : Fr.chg s ds 1 with
        | none => rw [hc] at h; cases h
        | some p =>
          rw [hc] at h
          injection h with h
          injection h with h1 h2
          subst h1
          have := fr_chg_len s ds 1 p.1 p.2 hc
          simp [this]
theorem fr_all_upper (s : Int) : ∀ (k : Nat) (ds : List Int) (N : Int) (r : List Int) (n : Int), ds.length ≤ 4 → Fr.allF s k ds N = some (r, n) → n ≤ 8 * (k : Int)
  | 0, ds, N, r, n, hl, h => by
    unfold Fr.allF at h
    split at h
    · injection h with h; injection h with h1 h2; subst h2; simp
    · cases h
  | k + 1, ds, N, r, n, hl, h => by
    unfold Fr.allF at h
    split at h
    · injection h with h; injection h with h1 h2; subst h2; omega
    · cases hc : Fr.chg s ds (N % 10) with
      | none => rw [hc] at h; cases h
      | some p =>
        obtain ⟨r1, n1⟩ := p
        rw [hc] at h
        have hu := (chg_upper s ds _ r1 n1 hc).2
        have hlen := fr_chg_len s ds _ r1 n1 hc
        cases r1 with
        | nil => cases h
        | cons d1 ds1 =>
          simp only at h
          cases ha : Fr.allF s k ds1 (N / 10) with
          | none => rw [ha] at h; cases h
          | some p =>
            obtain ⟨r2, n2⟩ := p
            rw [ha] at h
            injection h with h
            injection h with h1 h2
            simp at hlen
            have := fr_all_upper s k ds1 (N / 10) r2 n2 (by omega) ha
            simp at h2
            omega
theorem frBy_upper {s : Int} {ds r : List Int} {N n : Int} (hl : ds.length = 4) (h : frBy s ds N = some (r, n)) : n ≤ 1000 := by
  unfold frBy at h
  split at h
  · have := fr_all_upper s ds.length ds N r n (by omega) h
    omega
  · cases h
def zeros4 : List Int := List.replicate 4 0
theorem zeros4_digs : Fr.Digs zeros4 := by intro d hd; have := List.eq_of_mem_replicate hd; omega
theorem zeros4_val : Fr.val zeros4 = 0 := by decide
theorem fr_both (v : Int) (h0 : 0 ≤ v) (h1 : v < 10000) : ∃ es p q, frBy 1 zeros4 v = some (es, p) ∧ frBy (-1) es v = some (zeros4, q) ∧ Fr.Digs es ∧ es.length = 4 ∧ 0 ≤ p ∧ p ≤ 1000 ∧ 0 ≤ q ∧ q ≤ 1000 := by
  have ht : Fr.ten zeros4.length = 10000 := by decide
  have hi := (frBy_is (s := 1) (.inl rfl) zeros4_digs h0 (by rw [ht]; exact h1)).2 (by rw [zeros4_val, ht]; omega)
  obtain ⟨⟨es, p⟩, hR⟩ := Option.isSome_iff_exists.1 hi
  obtain ⟨r1, r2, r3, -, r5, -, ⟨q, hq⟩, -⟩ := frBy_some (.inl rfl) zeros4_digs hR
  have hq' : frBy (-1) es v = some (zeros4, q) := hq
  obtain ⟨-, -, -, -, q5, -⟩ := frBy_some (.inr rfl) r1 hq'
  exact ⟨es, p, q, hR, hq', r1, r2, r5, frBy_upper rfl hR, q5, frBy_upper (by rw [r2]; rfl) hq'⟩
theorem fr_out (v : Int) (h : ¬ (0 ≤ v ∧ v < 10000)) : frBy 1 zeros4 v = none := frBy_out (by rw [show Fr.ten zeros4.length = 10000 by decide]; exact h)

def wAdd : List UInt8 := [97, 100, 100]
def wTake : List UInt8 := [116, 97, 107, 101]
def wFrame : List UInt8 := [102, 114, 97, 109, 101]
/-- the script of the frame's law -/
def scriptFr (v : Int) : List UInt8 := wAdd ++ 32 :: (Lib.itoa v ++ 10 :: (wFrame ++ 10 :: (wTake ++ 32 :: (Lib.itoa v ++ [10]))))
theorem nl_word {k : List UInt8} {v : Int} (hk : (10 : UInt8) ∉ k) (h0 : 0 ≤ v) : (10 : UInt8) ∉ k ++ 32 :: Lib.itoa v := by
  intro h
  rcases List.mem_append.1 h with h | h
  · exact hk h
  · rcases List.mem_cons.1 h with h | h
    · cases h
    · exact itoa_free (by decide) h0 h
theorem scriptFr_cut (v : Int) (h0 : 0 ≤ v) : cut 10 (scriptFr v) = [wAdd ++ 32 :: Lib.itoa v, wFrame, wTake ++ 32 :: Lib.itoa v] ++ [[]] := by
  have e : scriptFr v = (wAdd ++ 32 :: Lib.itoa v) ++ 10 :: (wFrame ++ 10 :: ((wTake ++ 32 :: Lib.itoa v) ++ 10 :: [])) := by simp [scriptFr]
  rw [e, cut_at 10 _ _ (nl_word (by decide) h0), cut_at 10 _ _ (by decide), cut_at 10 _ _ (nl_word (by decide) h0)]
  rfl
def outFr (es : List Int) (p q : Int) : List UInt8 := Lib.itoa p ++ 10 :: (digText es ++ 10 :: (Lib.itoa q ++ [10]))
theorem bs_line (l : List UInt8) : (bs l ++ ⟨#[10]⟩).data.toList = l ++ [10] := by
  show (bs l ++ bs [10]).data.toList = _
  rw [bs_append, bs_list]
theorem scriptFr_runs (v : Int) (es : List Int) (p q : Int) (h0 : 0 ≤ v) (h1 : v < 10000) (hp : frBy 1 zeros4 v = some (es, p)) (hq : frBy (-1) es v = some (zeros4, q)) (hd : Fr.Digs es) (h4 : es.length = 4) (p0 : 0 ≤ p) (p1 : p ≤ 1000) (q0 : 0 ≤ q) (q1 : q ≤ 1000) :
    Runs [wAdd ++ 32 :: Lib.itoa v, wFrame, wTake ++ 32 :: Lib.itoa v] St.start (outFr es p q) St.start := by
  have hsz := itoa_size v h0 (by omega)
  have l1 : LineDoes (wAdd ++ 32 :: Lib.itoa v) St.start (dec p ++ ⟨#[10]⟩) { St.start with ds := es } := by
    have hc := does_add St.start v zeros4_digs rfl (by
      intro es' p' h
      have h' : frBy 1 zeros4 v = some (es', p') := h
      rw [hp] at h'
      injection h' with h'
      injection h' with e1 e2
      subst e1 e2
      exact ⟨h4, by omega, by omega⟩)
    have e : frBy 1 St.start.ds v = some (es, p) := hp
    rw [e] at hc
    exact line_does (by simp [wAdd]; omega) (good1 (k := wAdd) (by decide) (by rfl) h0 (by omega)) (by decide) hc
  have l2 : LineDoes wFrame { St.start with ds := es } (txt (digText es) ++ ⟨#[10]⟩) { St.start with ds := es } :=
    line_does (by decide) (good0 (k := wFrame) (by decide) (by rfl)) (by decide) (does_frame { St.start with ds := es } hd h4)
  have l3 : LineDoes (wTake ++ 32 :: Lib.itoa v) { St.start with ds := es } (dec q ++ ⟨#[10]⟩) St.start := by
    have hc := does_take { St.start with ds := es } v hd h4 (by
      intro es' p' h
      have h' : frBy (-1) es v = some (es', p') := h
      rw [hq] at h'
      injection h' with h'
      injection h' with e1 e2
      subst e1 e2
      exact ⟨rfl, by omega, by omega⟩)
    have e : frBy (-1) ({ St.start with ds := es } : St).ds v = some (zeros4, q) := hq
    rw [e] at hc
    exact line_does (by simp [wTake]; omega) (good1 (k := wTake) (by decide) (by rfl) h0 (by omega)) (by decide) hc
  have r := Runs.cons l1 (Runs.cons l2 (Runs.cons l3 (Runs.nil _)))
  have e1 : (dec p ++ ⟨#[10]⟩).data.toList = Lib.itoa p ++ [10] := bs_line _
  have e2 : (txt (digText es) ++ ⟨#[10]⟩).data.toList = digText es ++ [10] := bs_line _
  have e3 : (dec q ++ ⟨#[10]⟩).data.toList = Lib.itoa q ++ [10] := bs_line _
  rw [e1, e2, e3] at r
  have eo : outFr es p q = Lib.itoa p ++ [10] ++ (digText es ++ [10] ++ (Lib.itoa q ++ [10] ++ [])) := by simp [outFr]
  rw [eo]
  exact r
/-- the script, run -/
theorem Execute_fr (v : Int) (es : List Int) (p q : Int) (w : World) (h0 : 0 ≤ v) (h1 : v < 10000) (hp : frBy 1 zeros4 v = some (es, p)) (hq : frBy (-1) es v = some (zeros4, q)) (hd : Fr.Digs es) (h4 : es.length = 4) (p0 : 0 ≤ p) (p1 : p ≤ 1000) (q0 : 0 ≤ q) (q1 : q ≤ 1000)
    (hm : Max w) (hpw : Pow w.heap.size w) {s : ByteArray} (hs : s = bs (scriptFr v)) : Calls Tryz.prog 13 #[.string s] w fun e w' => e = .returned (.string (bs (outFr es p q ++ endL 0 0))) ∧ Below w.heap.size w w' := by
  subst hs
  have hv := itoa_size v h0 (by omega)
  have hpz := itoa_size p p0 (by omega)
  have hqz := itoa_size q q0 (by omega)
  have hsz : (bs (scriptFr v)).size ≤ 400 := by
    have e : (bs (scriptFr v)).size = (scriptFr v).length := by show (scriptFr v).toArray.size = _; simp
    rw [e]
    simp [scriptFr, wAdd, wTake, wFrame]
    omega
  have hol : (outFr es p q).length ≤ 100000 := by simp [outFr, digText_length, h4]; omega
  exact Execute_any (bs (scriptFr v)) _ St.start (outFr es p q) w hsz (by rw [bs_list]; exact scriptFr_cut v h0) (scriptFr_runs v es p q h0 h1 hp hq hd h4 p0 p1 q0 q1) hm hpw hol (by decide)
end Go.Proofs.YthdoofmfigemoaaGreatDoor
end
