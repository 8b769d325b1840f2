/-
  The text of a frame: the program's and the reference's; numbers as decimals.
-/
import Derived.Test.YtpaepdlkjblfgaaDoorFrLaw2
import Derived.Lib.ItoaNum
import Derived.Test.YtpaepdlkjblfgaaDoorShelf
import Derived.Laws.IdiomStrings
import Derived.Laws.Concat
import Derived.Deep.RegionHeld3
namespace Go.Proofs.YtpaepdlkjblfgaaDoor
open Go.RowKit

/-- a text by its letters -/
def txt (l : List UInt8) : ByteArray := ⟨l.toArray⟩
theorem txt_size (l : List UInt8) : (txt l).size = l.length := by show l.toArray.size = _; simp
theorem txt_append (l r : List UInt8) : txt l ++ txt r = txt (l ++ r) := ByteArray.mk_append_mk l r
theorem txt_inj {l r : List UInt8} (h : txt l = txt r) : l = r := by
  have : l.toArray = r.toArray := congrArg ByteArray.data h
  simpa using this
/-- the digits, from the last rod on -/
def digText (ds : List Int) : List UInt8 := ds.reverse.map fun d => UInt8.ofNat (48 + d.toNat)
theorem digText_length (ds : List Int) : (digText ds).length = ds.length := by simp [digText]
theorem digText_cons (d : Int) (ds : List Int) : digText (d :: ds) = digText ds ++ [UInt8.ofNat (48 + d.toNat)] := by simp [digText]
theorem digText_inj : ∀ (xs ys : List Int), Fr.Digs xs → Fr.Digs ys → digText xs = digText ys → xs = ys := by
  intro xs ys hx hy h
  have h2 : xs.reverse.map (fun d => UInt8.ofNat (48 + d.toNat)) = ys.reverse.map (fun d => UInt8.ofNat (48 + d.toNat)) := h
  have key : ∀ (l r : List Int), (∀ d ∈ l, 0 ≤ d ∧ d ≤ 9) → (∀ d ∈ r, 0 ≤ d ∧ d ≤ 9) → l.map (fun d => UInt8.ofNat (48 + d.toNat)) = r.map (fun d => UInt8.ofNat (48 + d.toNat)) → l = r := by
    intro l
    induction l with
    | nil => intro r _ _ h; cases r with | nil => rfl | cons a r => simp at h
    | cons a l ih =>
      intro r h1 h2 h
      cases r with
      | nil => simp at h
      | cons b r =>
        simp only [List.map_cons, List.cons.injEq] at h
        have ha := h1 a (by simp)
        have hb := h2 b (by simp)
        have e : (UInt8.ofNat (48 + a.toNat)).toNat = (UInt8.ofNat (48 + b.toNat)).toNat := congrArg UInt8.toNat h.1
        simp only [UInt8.toNat_ofNat'] at e
        rw [show a = b from by omega, ih r (fun d hd => h1 d (by simp [hd])) (fun d hd => h2 d (by simp [hd])) h.2]
  have := key _ _ (fun d hd => hx d (List.mem_reverse.1 hd)) (fun d hd => hy d (List.mem_reverse.1 hd)) h2
  simpa using this
theorem digText_drop {ds : List Int} {k : Nat} {d : Int} (h : ds[k]? = some d) : digText (ds.drop k) = digText (ds.drop (k + 1)) ++ [UInt8.ofNat (48 + d.toNat)] := by rw [drop_cons h, digText_cons]

/-- string([]byte{b}) -/
theorem conv_one (w : World) (b : UInt8) : (convert 22 9 (.slice (some ⟨w.heap.size, 0, none⟩) 1 1)).run Tryd.prog (w.alloc (.cells #[.int .u8 (b.toNat : Int)] 5)) = .ok (.string (txt [b])) (w.alloc (.cells #[.int .u8 (b.toNat : Int)] 5)) := by
  have := run_convert_bytes_back (P := Tryd.prog) (w.alloc (.cells #[.int .u8 (b.toNat : Int)] 5)) 22 9 5 ⟨w.heap.size, 0, none⟩ 1 [b] Tryd.underlying22 Tryd.underlying5 Tryd.underlying9 (by
    intro j hj
    obtain rfl : j = 0 := by simpa using hj
    rw [add_row, cell_of_row _ w.heap.size 0 _ _ _ (heap_alloc_new w _)]
    rfl)
  exact this

set_option maxRecDepth 100000 in
set_option maxHeartbeats 1000000 in
/-- one digit, by the reference -/
theorem l6Dec_dig (d : Int) (h0 : 0 ≤ d) (h9 : d ≤ 9) (w : World) : Calls Tryd.prog 14 #[.int .i64 d] w fun e w' => e = .returned (.string (txt [UInt8.ofNat (48 + d.toNat)])) ∧ Below w.heap.size w w' := by
  obtain ⟨b, hb⟩ : ∃ b, UInt8.ofNat (48 + d.toNat) = b := ⟨_, rfl⟩
  have hbn : (b.toNat : Int) = 48 + d := by rw [← hb, UInt8.toNat_ofNat']; omega
  have hcv : ∀ w : World, (convert 22 9 (.slice (some ⟨w.heap.size, 0, none⟩) 1 1)).run Tryd.prog (w.alloc (.cells #[.int .u8 (48 + d)] 5)) = .ok (.string (txt [b])) (w.alloc (.cells #[.int .u8 (48 + d)] 5)) := fun w => by
    have := conv_one w b
    rwa [hbn] at this
  have h1 : ¬ (d < -9223372036854775807) := by omega
  have h2 : ¬ (d < 0) := by omega
  have h3 : d < 10 := by omega
  rw [hb]
  clear hb hbn
  go_enter Tryd.func14, Tryd.ntmps14
  go_wp2
  go_ret
  exact ⟨rfl, (Below.refl _ _).alloc (Nat.le_refl _) _⟩
/-- one digit, by the library -/
theorem itoa_dig (d : Int) (h0 : 0 ≤ d) (h9 : d ≤ 9) (w : World) : Calls Tryd.prog 11 #[.int .i64 d] w fun e w' => e = .returned (.string (txt [UInt8.ofNat (48 + d.toNat)])) ∧ w = w' := by
  obtain ⟨k, rfl⟩ := Int.eq_ofNat_of_zero_le h0
  have := Tryd.strconv_Itoa_small k (by omega) w
  rw [Lib.decDigits_one (by omega)] at this
  exact this.mono fun _ _ h => ⟨h.1, h.2.symm⟩
theorem cat_fact {a b c : List UInt8} (h : a ++ b = c) (hl : c.length ≤ 1000000000) : txt a ++ txt b = txt c ∧ ¬ ((txt a).size + (txt b).size > 9223372036854775807) := by
  subst h
  rw [List.length_append] at hl
  exact ⟨txt_append a b, by rw [txt_size, txt_size]; omega⟩

set_option maxRecDepth 100000 in
set_option maxHeartbeats 2000000 in
theorem FrameText_yes (A A' : Option Addr) (n c c' : Nat) (ds : List Int) (w : World) (hx : Ints w w.heap.size A n (HiL ds)) (hy : Ints w w.heap.size A' n (LoL ds)) (hds : Fr.Digs ds) (h1 : 1 ≤ n) (h6 : n ≤ 6) :
    Calls Tryd.prog 5 #[.agg #[.slice A n c, .slice A' n c']] w fun e w' => e = .returned (.string (txt (digText ds))) ∧ Below w.heap.size w w' := by
  have hl : ds.length = n := by have := hx.len; rwa [HiL_length] at this
  have HN := Lib.hid hl
  have HX := Lib.hid hx
  have HY := Lib.hid hy
  have HD := Lib.hid hds
  clear hx hy hds hl
  go_enter Tryd.func5, Tryd.ntmps5
  go_wp2_with fail
  refine (rodsOf_yes A A' n c c' ds _ (HX.out.al _) (HY.out.al _) HD.out h1 h6).mono ?_
  rintro e w1 ⟨⟨g, h, rfl, hr⟩, hb1⟩
  have hsl := hr.slice
  rw [HN.out] at hsl
  have HB := Lib.hid (((Below.refl w.heap.size w).alloc (Nat.le_refl _) _).trans (hb1.mono (by simp)))
  have HR := Lib.hid hr
  clear hr hb1
  go_wp2
  go_loopw [5, 6] (fun tv kv wr => ∃ (j q : Nat) (t : ByteArray), j ≤ n ∧ tv = .string t ∧ kv = .int .i64 ((j : Int) - 1) ∧ t = txt (digText (ds.drop j)) ∧ wr = w1.drewN q) (fun _ kv _ => (intOf kv + 1).toNat)
  case atStart => exact ⟨n, 0, _, by omega, rfl, rfl, by rw [List.drop_of_length_le (by have := HN.out; omega)]; rfl, rfl⟩
  case round =>
    obtain ⟨j, q, t, hj, rfl, rfl, ht, rfl⟩ := hrel
    have HT := Lib.hid ht
    clear ht
    by_cases h0 : 0 < j
    · obtain ⟨i, rfl⟩ : ∃ i, j = i + 1 := ⟨j - 1, by omega⟩
      obtain ⟨d, hd⟩ : ∃ d, ds[i]? = some d := ⟨_, List.getElem?_eq_getElem (by have := HN.out; omega)⟩
      obtain ⟨d0, d9⟩ := HD.out d (List.mem_of_getElem? hd)
      obtain ⟨hcat, hno⟩ := cat_fact (digText_drop hd).symm (by rw [digText_length, List.length_drop]; have := HN.out; omega)
      rw [← HT.out] at hcat hno
      obtain ⟨u, hu⟩ : ∃ u, txt [UInt8.ofNat (48 + d.toNat)] = u := ⟨_, rfl⟩
      obtain ⟨v, hv⟩ : ∃ v, txt (digText (ds.drop i)) = v := ⟨_, rfl⟩
      have hit := fun w => itoa_dig d d0 d9 w
      rw [hu] at hcat hno hit
      rw [hv] at hcat
      have e1 : ((i + 1 : Nat) : Int) - 1 = (i : Int) := by omega
      rw [e1]
      have HDD := Lib.hid hd
      have HV := Lib.hid hv
      have HIT := Lib.hid hit
      clear hd e1 hu hv hit
      go_wp2_with fail
      refine (rod_digit (HR.out.drewN _) HDD.out d0 d9).mono ?_
      rintro e w2 ⟨rfl, q2, rfl⟩
      go_wp2_with fail
      refine (HIT.out _).mono ?_
      rintro e w' ⟨rfl, rfl⟩
      go_wp2
      go_roundw
      case rel =>
        exact ⟨i, _, v, by omega, rfl, by go_num, HV.out.symm, rfl⟩
      case measure => simp [intOf]
    · obtain rfl : j = 0 := by omega
      have e1 : ((0 : Nat) : Int) - 1 = -1 := rfl
      rw [e1]
      clear e1
      go_wp2
      go_ret
      exact ⟨by rw [HT.out, List.drop_zero]; exact rfl, below_drewN HB.out _⟩
set_option maxRecDepth 100000 in
set_option maxHeartbeats 1000000 in
theorem FrameText_no (A A' : Option Addr) (n m c c' : Nat) (hs ls : List Int) (w : World) (hx : Ints w w.heap.size A n hs) (hy : Ints w w.heap.size A' m ls) (hno : ¬ FrOk hs ls) :
    Calls Tryd.prog 5 #[.agg #[.slice A n c, .slice A' m c']] w fun e w' => e = .returned (.string ⟨#[]⟩) ∧ Below w.heap.size w w' := by
  have HX := Lib.hid hx
  have HY := Lib.hid hy
  have HN := Lib.hid hno
  clear hx hy hno
  go_enter Tryd.func5, Tryd.ntmps5
  go_wp2_with fail
  refine (rodsOf_no A A' n m c c' hs ls _ (HX.out.al _) (HY.out.al _) HN.out).mono ?_
  rintro e w1 ⟨rfl, hb1⟩
  have HB := Lib.hid (((Below.refl w.heap.size w).alloc (Nat.le_refl _) _).trans (hb1.mono (by simp)))
  clear hb1
  go_wp2
  go_ret
  exact ⟨rfl, HB.out⟩

set_option maxRecDepth 100000 in
set_option maxHeartbeats 2000000 in
theorem specFrameText_yes (A A' : Option Addr) (n c c' : Nat) (ds : List Int) (w : World) (hx : Ints w w.heap.size A n (HiL ds)) (hy : Ints w w.heap.size A' n (LoL ds)) (hds : Fr.Digs ds) (h1 : 1 ≤ n) (h6 : n ≤ 6) :
    Calls Tryd.prog 6 #[.agg #[.slice A n c, .slice A' n c']] w fun e w' => e = .returned (.string (txt (digText ds))) ∧ Below w.heap.size w w' := by
  have hl : ds.length = n := by have := hx.len; rwa [HiL_length] at this
  have HN := Lib.hid hl
  have HD := Lib.hid hds
  obtain ⟨W, hW⟩ : ∃ W, w.alloc (.cells #[.slice A n c, .slice A' n c'] 25) = W := ⟨_, rfl⟩
  have HX := Lib.hid (hW ▸ hx.al (.cells #[.slice A n c, .slice A' n c'] 25))
  have HY := Lib.hid (hW ▸ hy.al (.cells #[.slice A n c, .slice A' n c'] 25))
  have HBX := Lib.hid (hW ▸ Box.new w (.slice A n c) (.slice A' n c'))
  have HB := Lib.hid (hW ▸ (Below.refl w.heap.size w).alloc (Nat.le_refl _) (.cells #[.slice A n c, .slice A' n c'] 25))
  have HW := Lib.hid hW
  have c0 := HBX.out.fst
  have c1 := HBX.out.snd
  have cl := HBX.out.lt
  clear hx hy hds hl hW
  go_enter Tryd.func6, Tryd.ntmps6
  go_upto_region 1 with fail
  rw [HW.out]
  go_wp2_with fail
  go_loopw [3, 4] (fun tv kv wr => ∃ (j : Nat) (t : ByteArray), j ≤ n ∧ tv = .string t ∧ kv = .int .i64 ((j : Int) - 1) ∧ t = txt (digText (ds.drop j)) ∧ SB W wr) (fun _ kv _ => (intOf kv + 1).toNat)
  case atStart => exact ⟨n, _, by omega, rfl, rfl, by rw [List.drop_of_length_le (by have := HN.out; omega)]; rfl, SB.refl W⟩
  case round =>
    obtain ⟨j, t, hj, rfl, rfl, ht, hsb⟩ := hrel
    have HT := Lib.hid ht
    have hbr := HBX.out.next hsb
    have r0 := hbr.fst
    have r1 := hbr.snd
    have rl := hbr.lt
    have HBR := Lib.hid hbr
    have HXR := Lib.hid (HX.out.next hsb)
    have HYR := Lib.hid (HY.out.next hsb)
    have HSB := Lib.hid hsb
    clear ht hbr hsb c0 c1 cl
    by_cases h0 : 0 < j
    · obtain ⟨i, rfl⟩ : ∃ i, j = i + 1 := ⟨j - 1, by omega⟩
      obtain ⟨d, hd⟩ : ∃ d, ds[i]? = some d := ⟨_, List.getElem?_eq_getElem (by have := HN.out; omega)⟩
      obtain ⟨d0, d9⟩ := HD.out d (List.mem_of_getElem? hd)
      obtain ⟨hcat, hno⟩ := cat_fact (digText_drop hd).symm (by rw [digText_length, List.length_drop]; have := HN.out; omega)
      rw [← HT.out] at hcat hno
      obtain ⟨u, hu⟩ : ∃ u, txt [UInt8.ofNat (48 + d.toNat)] = u := ⟨_, rfl⟩
      obtain ⟨v, hv⟩ : ∃ v, txt (digText (ds.drop i)) = v := ⟨_, rfl⟩
      have hit := fun w => l6Dec_dig d d0 d9 w
      rw [hu] at hcat hno hit
      rw [hv] at hcat
      have e1 : ((i + 1 : Nat) : Int) - 1 = (i : Int) := by omega
      rw [e1]
      have HDD := Lib.hid (show digAt ds (i : Int) = d from digAt_in hd)
      have HV := Lib.hid hv
      have HIT := Lib.hid hit
      clear hd e1 hu hv hit
      go_wp2_with fail
      refine (specFrameValid_yes A A' n c c' ds _ HXR.out HYR.out HD.out h1 h6).mono ?_
      rintro e w2 ⟨rfl, hb2⟩
      have hbr := HBR.out.next hb2
      have r20 := hbr.fst
      have r21 := hbr.snd
      have r2l := hbr.lt
      have HBR2 := Lib.hid hbr
      have HXR2 := Lib.hid (HXR.out.next hb2)
      have HYR2 := Lib.hid (HYR.out.next hb2)
      have HSB2 := Lib.hid (SB.below HSB.out hb2)
      clear hbr hb2 r0 r1 rl
      go_wp2_with fail
      refine (specFrameDigit_any A A' n n c c' _ _ (i : Int) d _ HXR2.out HYR2.out (.inr ⟨ds, HD.out, rfl, rfl, by have := HN.out; omega, by have := HN.out; omega, HDD.out.symm⟩)).mono ?_
      rintro e w3 ⟨rfl, hb3⟩
      have HSB3 := Lib.hid (SB.below HSB2.out hb3)
      clear hb3 r20 r21 r2l
      go_wp2_with fail
      refine (HIT.out _).mono ?_
      rintro e w4 ⟨rfl, hb4⟩
      have HSB4 := Lib.hid (SB.below HSB3.out hb4)
      clear hb4
      go_wp2
      go_roundw
      case rel => exact ⟨i, v, by omega, rfl, by go_num, HV.out.symm, HSB4.out⟩
      case measure => simp [intOf]
    · obtain rfl : j = 0 := by omega
      have e1 : ((0 : Nat) : Int) - 1 = -1 := rfl
      rw [e1]
      clear e1
      go_wp2
      go_ret
      exact ⟨by rw [HT.out, List.drop_zero]; exact rfl, HB.out.trans (Below.mono HSB.out HB.out.size)⟩
set_option maxRecDepth 100000 in
set_option maxHeartbeats 1000000 in
theorem specFrameText_no (A A' : Option Addr) (n m c c' : Nat) (hs ls : List Int) (w : World) (hx : Ints w w.heap.size A n hs) (hy : Ints w w.heap.size A' m ls) (hno : ¬ FrOk hs ls) (hn : 1 ≤ n) (hn2 : n ≤ 1000000) :
    Calls Tryd.prog 6 #[.agg #[.slice A n c, .slice A' m c']] w fun e w' => e = .returned (.string ⟨#[]⟩) ∧ Below w.heap.size w w' := by
  have HX := Lib.hid hx
  have HY := Lib.hid hy
  have HN := Lib.hid hno
  clear hx hy hno
  go_enter Tryd.func6, Tryd.ntmps6
  go_wp2_with fail
  refine wp_loop_rounds 1 ?_
  rw [rounds_succ]
  go_wp2_with fail
  refine (specFrameValid_no A A' n m c c' hs ls _ (HX.out.al _) (HY.out.al _) HN.out).mono ?_
  rintro e w1 ⟨rfl, hb1⟩
  have HB := Lib.hid (((Below.refl w.heap.size w).alloc (Nat.le_refl _) _).trans (hb1.mono (by simp)))
  clear hb1
  go_wp2
  go_ret
  exact ⟨rfl, HB.out⟩
section
variable {w : World} {A A' : Option Addr} {n c c' : Nat} {ds : List Int} {t : ByteArray}
theorem text_g (hv : FrG w (.agg #[.slice A n c, .slice A' n c']) n ds) (h : txt (digText ds) = t) : Calls Tryd.prog 5 #[.agg #[.slice A n c, .slice A' n c']] w fun e w' => e = .returned (.string t) ∧ Below w.heap.size w w' :=
  h ▸ FrameText_yes A A' n c c' ds w hv.1.rows.1 hv.1.rows.2 hv.2.1 hv.2.2.2.1 hv.2.2.2.2
theorem spectext_g (hv : FrG w (.agg #[.slice A n c, .slice A' n c']) n ds) (h : txt (digText ds) = t) : Calls Tryd.prog 6 #[.agg #[.slice A n c, .slice A' n c']] w fun e w' => e = .returned (.string t) ∧ Below w.heap.size w w' :=
  h ▸ specFrameText_yes A A' n c c' ds w hv.1.rows.1 hv.1.rows.2 hv.2.1 hv.2.2.2.1 hv.2.2.2.2
end
end Go.Proofs.YtpaepdlkjblfgaaDoor
