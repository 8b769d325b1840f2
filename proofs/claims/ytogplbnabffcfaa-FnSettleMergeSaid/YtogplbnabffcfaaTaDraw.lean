/-
  The draws of tallies.
-/
import Derived.Test.YtogplbnabffcfaaTaRef3
import Derived.Test.YtogplbnabffcfaaTaSettle
import Derived.Test.YtogplbnabffcfaaDraw2
namespace Go.Proofs.Ytogplbnabffcfaa
open Go.RowKit
set_option linter.unusedSimpArgs false

theorem grown_set {a b : World} {row : Option Nat} {p : Addr} (h : a.grownBy b row) (hp : a.heap.size ≤ p.block) (v : Value) : a.grownBy (b.setCell p v) row :=
  ⟨h.os, h.tape, h.output, by rw [size_set]; exact h.size, fun k hk hne => (heap_setCell_other b p k v (fun e => by omega)).trans (h.block k hk hne)⟩
theorem ntext_len {n : Nat} (h : n ≤ 9999) : (txt (Ta.ntext n)).size ≤ 36 := by rw [txt_size]; exact (Ta.worth_bd (Ta.worth_ntext h)).1
/-- a drawn text -/
def OfPost (w : World) (B g p : Nat) (e : Ending) (w' : World) : Prop := ∃ s : ByteArray, e = .returned (.string s) ∧ s.size ≤ 2 ∧ Rd w' B g (p + 1) ∧ w.grownBy w' (some g)
set_option maxHeartbeats 1000000 in
theorem of_any (w : World) (B g p nb : Nat) (h : Rd w B g p) (hp : p ≤ 900100) (s0 s1 s2 : ByteArray) (ty : TypeId) (hb : Blk w nb #[.string s0, .string s1, .string s2] ty) (hne : nb ≠ g) (h0 : s0.size ≤ 2) (h1 : s1.size ≤ 2) (h2 : s2.size ≤ 2) :
    Calls Try.prog 44 #[.pointer (some ⟨g, 0, none⟩), .slice (some ⟨nb, 0, none⟩) 3 3] w (OfPost w B g p) := by
  have HR := Lib.hid h
  have HBL := Lib.hid hb
  clear h hb
  go_enter Try.func44, Try.ntmps44
  go_wp2_with fail
  refine (pick_any _ _ _ _ _ HR.out (by omega)).mono ?_
  rintro e w1 ⟨v1, rfl, hv1, hrd1, hg1⟩
  obtain ⟨hva1, hvb1⟩ := hv1 (by omega)
  have hbl := HBL.out.grown hg1 (by intro e; injection e with e; exact hne e)
  have c0 : w1.cell? ⟨nb, 0, none⟩ = some (.string s0) := hbl.cell rfl
  have c1 : w1.cell? ⟨nb, 1, none⟩ = some (.string s1) := hbl.cell rfl
  have c2 : w1.cell? ⟨nb, 2, none⟩ = some (.string s2) := hbl.cell rfl
  have HRD := Lib.hid (And.intro hrd1 hg1)
  clear hv1 hbl hrd1 hg1
  have hv : v1 = 0 ∨ v1 = 1 ∨ v1 = 2 := by omega
  rcases hv with rfl | rfl | rfl
  · go_wp2
    go_ret
    exact ⟨s0, rfl, h0, HRD.out.1, HRD.out.2⟩
  · go_wp2
    go_ret
    exact ⟨s1, rfl, h1, HRD.out.1, HRD.out.2⟩
  · go_wp2
    go_ret
    exact ⟨s2, rfl, h2, HRD.out.1, HRD.out.2⟩
/-- a drawn tally -/
def TalPost (w : World) (B g p : Nat) (e : Ending) (w' : World) : Prop := ∃ (t : Tl) (q : Nat), e = .returned t.val ∧ t.s.size ≤ 36 ∧ t.f.size ≤ 36 ∧ Rd w' B g q ∧ q ≤ p + 6 ∧ w.grownBy w' (some g)
theorem tal_out {w W : World} {B g p q : Nat} {a0 a1 a2 a3 : Value} {ty : TypeId} (hG : w.grownBy W (some g)) (hR : Rd W B g q) (hq : q ≤ p + 6) (hz : Blk W w.heap.size #[a0, a1, a2, a3] ty) (hg : g < w.heap.size) (t : Tl) (h1 : t.s.size ≤ 36) (h2 : t.f.size ≤ 36) :
    Blk ((((W.setCell ⟨w.heap.size, 0, none⟩ (.int .i64 t.a)).setCell ⟨w.heap.size, 1, none⟩ (.int .i64 t.c)).setCell ⟨w.heap.size, 2, none⟩ (.string t.s)).setCell ⟨w.heap.size, 3, none⟩ (.string t.f)) w.heap.size #[.int .i64 t.a, .int .i64 t.c, .string t.s, .string t.f] ty ∧
    TalPost w B g p (.returned t.val) ((((W.setCell ⟨w.heap.size, 0, none⟩ (.int .i64 t.a)).setCell ⟨w.heap.size, 1, none⟩ (.int .i64 t.c)).setCell ⟨w.heap.size, 2, none⟩ (.string t.s)).setCell ⟨w.heap.size, 3, none⟩ (.string t.f)) := by
  have hB := hR.base
  refine ⟨hz.set4 _ _ _ _, t, q, rfl, h1, h2, ?_, hq, ?_⟩
  · exact (((hR.far (a := ⟨w.heap.size, 0, none⟩) (by show B ≤ w.heap.size; omega) (by show w.heap.size ≠ g; omega) _).far (a := ⟨w.heap.size, 1, none⟩) (by show B ≤ w.heap.size; omega) (by show w.heap.size ≠ g; omega) _).far (a := ⟨w.heap.size, 2, none⟩) (by show B ≤ w.heap.size; omega) (by show w.heap.size ≠ g; omega) _).far (a := ⟨w.heap.size, 3, none⟩) (by show B ≤ w.heap.size; omega) (by show w.heap.size ≠ g; omega) _
  · exact grown_set (grown_set (grown_set (grown_set hG (Nat.le_refl _) _) (Nat.le_refl _) _) (Nat.le_refl _) _) (Nat.le_refl _) _
set_option maxRecDepth 100000 in
set_option maxHeartbeats 2000000 in
theorem l92Tally_any (w : World) (B g p : Nat) (h : Rd w B g p) (hp : p ≤ 900050) : Calls Try.prog 33 #[.pointer (some ⟨g, 0, none⟩)] w (TalPost w B g p) := by
  have hlt := h.lt
  have hbs := h.base
  have HR := Lib.hid h
  have HG := Lib.hid (World.grownBy.refl w (some g))
  clear h
  go_enter Try.func33, Try.ntmps33
  go_wp2_with fail
  refine (pick_any _ _ _ _ 5 (HR.out.alloc _) (by omega)).mono ?_
  rintro e w1 ⟨v1, rfl, hv1, hrd1, hg1⟩
  obtain ⟨hva1, hvb1⟩ := hv1 (by omega)
  have hbz := (Blk.new w #[.int .i64 0, .int .i64 0, .string ⟨#[]⟩, .string ⟨#[]⟩] 33).grown hg1 (by intro e; injection e with e; omega)
  have HZ := Lib.hid hbz
  replace HG := Lib.hid ((HG.out.trans (World.grownBy_alloc _ _ _)).trans hg1)
  replace HR := Lib.hid hrd1
  clear hv1 hrd1 hg1 hbz
  go_wp2_with fail
  refine (pick_any _ _ _ _ 4 HR.out (by omega)).mono ?_
  rintro e w2 ⟨v2, rfl, hv2, hrd2, hg2⟩
  obtain ⟨hva2, hvb2⟩ := hv2 (by omega)
  replace HZ := Lib.hid (HZ.out.grown hg2 (by intro e; injection e with e; omega))
  replace HG := Lib.hid (HG.out.trans hg2)
  replace HR := Lib.hid hrd2
  clear hv2 hrd2 hg2
  obtain ⟨b, hb⟩ : ∃ b, (v1 + 1 + v2).tmod 5 = b := ⟨_, rfl⟩
  have hb0 : 0 ≤ b := by rw [← hb]; exact Int.tmod_nonneg _ (by omega)
  have hb5 : b < 5 := by rw [← hb]; exact Int.tmod_lt_of_pos _ (by omega)
  have wb : IntKind.i64.wrap b = b := IntWalk.i64_in _ (by omega)
  go_wp2_with fail
  refine (pick_any _ _ _ _ 60 HR.out (by omega)).mono ?_
  rintro e w3 ⟨v3, rfl, hv3, hrd3, hg3⟩
  obtain ⟨hva3, hvb3⟩ := hv3 (by omega)
  replace HZ := Lib.hid (HZ.out.grown hg3 (by intro e; injection e with e; omega))
  replace HG := Lib.hid (HG.out.trans hg3)
  replace HR := Lib.hid hrd3
  clear hv3 hrd3 hg3
  go_wp2_with fail
  refine (pick_any _ _ _ _ 20 HR.out (by omega)).mono ?_
  rintro e w4 ⟨v4, rfl, hv4, hrd4, hg4⟩
  obtain ⟨hva4, hvb4⟩ := hv4 (by omega)
  replace HZ := Lib.hid (HZ.out.grown hg4 (by intro e; injection e with e; omega))
  replace HG := Lib.hid (HG.out.trans hg4)
  replace HR := Lib.hid hrd4
  clear hv4 hrd4 hg4
  obtain ⟨x, hx⟩ : ∃ x, v3 * (1 + v4) = x := ⟨_, rfl⟩
  have hxb := mul_in (a := v3) (m := 60) (b := 1 + v4) (k := 20) (by omega) (by omega) (by omega) (by omega)
  rw [hx] at hxb
  have wx : IntKind.i64.wrap x = x := IntWalk.i64_in _ (by omega)
  go_wp2_with fail
  refine (specTallyNew_any _ _ _ _).mono ?_
  rintro e w5 ⟨hcase, hb5'⟩
  obtain ⟨t, he, ht1, ht2⟩ : ∃ t : Tl, (∃ o : Bool, e = .returned (.tuple #[t.val, .bool o])) ∧ t.s.size ≤ 36 ∧ t.f.size ≤ 36 := by
    rcases hcase with ⟨hok, rfl⟩ | ⟨hno, rfl⟩
    · exact ⟨_, ⟨true, rfl⟩, ntext_len (by have := hok.2.1; have := hok.2.2; omega), ntext_len (by have := hok.2.1; have := hok.2.2; omega)⟩
    · exact ⟨⟨0, 0, ⟨#[]⟩, ⟨#[]⟩⟩, ⟨false, rfl⟩, by decide, by decide⟩
  obtain ⟨o, rfl⟩ := he
  replace HZ := Lib.hid (HZ.out.next hb5')
  replace HG := Lib.hid (HG.out.trans (grown_of_below hb5' _))
  replace HR := Lib.hid (HR.out.next hb5')
  obtain ⟨ta, tc, ts, tf⟩ := t
  simp only at ht1 ht2
  simp only [Tl.val]
  clear hcase hb5' hb hx hxb wx wb
  obtain ⟨W6, hW6⟩ : ∃ W6, w5.alloc (.cells #[.int .i64 ta, .int .i64 tc, .string ts, .string tf] 33) = W6 := ⟨_, rfl⟩
  have hbt : Blk W6 w5.heap.size #[.int .i64 ta, .int .i64 tc, .string ts, .string tf] 33 := by rw [← hW6]; exact Blk.new _ _ _
  have hz6 : Blk W6 w.heap.size #[.int .i64 0, .int .i64 0, .string ⟨#[]⟩, .string ⟨#[]⟩] 33 := by rw [← hW6]; exact HZ.out.alloc _
  have hw5 : w.heap.size < w5.heap.size := HZ.out.lt
  have hG6 : w.grownBy W6 (some g) := by rw [← hW6]; exact HG.out.trans (World.grownBy_alloc _ _ _)
  have hR6 : Rd W6 B g (p + 1 + 1 + 1 + 1) := by rw [← hW6]; exact HR.out.alloc _
  go_wp2_with fail
  clear HZ HG HR hW6
  refine (pick_any _ _ _ _ 60 hR6 (by omega)).mono ?_
  rintro e w7 ⟨v7, rfl, hv7, hrd7, hg7⟩
  obtain ⟨hva7, hvb7⟩ := hv7 (by omega)
  have hz7 := hz6.grown hg7 (by intro e; injection e with e; omega)
  have ht7 := hbt.grown hg7 (by intro e; injection e with e; omega)
  have HG7 := Lib.hid (hG6.trans hg7)
  have HR7 := Lib.hid hrd7
  have HZ7 := Lib.hid hz7
  have HT7 := Lib.hid ht7
  clear hv7 hrd7 hg7 hz6 hbt hG6 hR6 hz7 ht7
  by_cases h0 : v7 = 0
  · subst h0
    go_wp2_with fail
    refine (pick_any _ _ _ _ 3 (HR7.out.alloc _) (by omega)).mono ?_
    rintro e w8 ⟨v8, rfl, hv8, hrd8, hg8⟩
    obtain ⟨hva8, hvb8⟩ := hv8 (by omega)
    have hz8 := (HZ7.out.alloc (.cells #[.int .i64 v1, .int .i64 5, .int .i64 (-1)] 3)).grown hg8 (by intro e; injection e with e; omega)
    have ht8 := (HT7.out.alloc (.cells #[.int .i64 v1, .int .i64 5, .int .i64 (-1)] 3)).grown hg8 (by intro e; injection e with e; omega)
    have hwl : w.heap.size < w7.heap.size := HZ7.out.lt
    have hwl5 : w5.heap.size < w7.heap.size := HT7.out.lt
    have hl8 := (Blk.new w7 #[.int .i64 v1, .int .i64 5, .int .i64 (-1)] 3).grown hg8 (by intro e; injection e with e; omega)
    obtain ⟨j8, u8, rfl, hj8, hu8, hc8⟩ := lit_after (n := 3) (us := [v1, 5, -1]) hg8 (by omega) rfl (by omega) hva8 hvb8
    have HG8 := Lib.hid ((HG7.out.trans (World.grownBy_alloc _ _ _)).trans hg8)
    have HR8 := Lib.hid hrd8
    have HZ8 := Lib.hid hz8
    have HT8 := Lib.hid ht8
    have t0 : w8.cell? ⟨w5.heap.size, 0, none⟩ = some (.int .i64 ta) := ht8.cell rfl
    have t1 : w8.cell? ⟨w5.heap.size, 1, none⟩ = some (.int .i64 tc) := ht8.cell rfl
    have t2 : w8.cell? ⟨w5.heap.size, 2, none⟩ = some (.string ts) := ht8.cell rfl
    have t3 : w8.cell? ⟨w5.heap.size, 3, none⟩ = some (.string tf) := ht8.cell rfl
    have z0 : w8.cell? ⟨w.heap.size, 0, none⟩ = some (.int .i64 0) := hz8.cell rfl
    have z1 : w8.cell? ⟨w.heap.size, 1, none⟩ = some (.int .i64 0) := hz8.cell rfl
    have z2 : w8.cell? ⟨w.heap.size, 2, none⟩ = some (.string ⟨#[]⟩) := hz8.cell rfl
    have z3 : w8.cell? ⟨w.heap.size, 3, none⟩ = some (.string ⟨#[]⟩) := hz8.cell rfl
    have f1 := ht8.free 1
    have y0 := hz8.free 0
    have y1 := hz8.free 1
    have y2 := hz8.free 2
    have y3 := hz8.free 3
    have hne5 : ¬ w.heap.size = w5.heap.size := by omega
    clear hv8 hrd8 hg8 hz8 ht8 hl8 hu8
    go_wp2_with fail
    obtain ⟨hf, hp⟩ := tal_out (p := p) (grown_set HG8.out (p := ⟨w5.heap.size, 1, none⟩) (Nat.le_of_lt hw5) (.int .i64 u8)) (HR8.out.far (a := ⟨w5.heap.size, 1, none⟩) (by show B ≤ w5.heap.size; omega) (by show w5.heap.size ≠ g; omega) (.int .i64 u8)) (by omega) (HZ8.out.other (p := ⟨w5.heap.size, 1, none⟩) hne5 (.int .i64 u8)) hlt ⟨ta, u8, ts, tf⟩ ht1 ht2
    have g0 := hf.cell (j := 0) rfl
    have g1 := hf.cell (j := 1) rfl
    have g2 := hf.cell (j := 2) rfl
    have g3 := hf.cell (j := 3) rfl
    exact bodyPost_ret (v := Tl.val ⟨ta, u8, ts, tf⟩) (by simp [results, Try.results33, go_sem, Tl.val, g0, g1, g2, g3]) rfl hp
  have h0' : (v7 == 0) = false := by simpa using h0
  by_cases h1 : v7 = 1
  · subst h1
    have hwl : w.heap.size < w7.heap.size := HZ7.out.lt
    have hwl5 : w5.heap.size < w7.heap.size := HT7.out.lt
    go_wp2_with fail
    refine (of_any _ B g _ w7.heap.size (HR7.out.alloc _) (by omega) _ _ _ _ (Blk.new _ _ _) (by omega) (by decide) (by decide) (by decide)).mono ?_
    rintro e w8 ⟨u8, rfl, hu8, hrd8, hg8⟩
    have hz8 := (HZ7.out.alloc (.cells #[.string ⟨#[]⟩, .string ⟨#[73]⟩, .string ⟨#[73, 88]⟩] 9)).grown hg8 (by intro e; injection e with e; omega)
    have ht8 := (HT7.out.alloc (.cells #[.string ⟨#[]⟩, .string ⟨#[73]⟩, .string ⟨#[73, 88]⟩] 9)).grown hg8 (by intro e; injection e with e; omega)
    have HG8 := Lib.hid ((HG7.out.trans (World.grownBy_alloc _ _ _)).trans hg8)
    have HR8 := Lib.hid hrd8
    have HZ8 := Lib.hid hz8
    have HT8 := Lib.hid ht8
    have t0 : w8.cell? ⟨w5.heap.size, 0, none⟩ = some (.int .i64 ta) := ht8.cell rfl
    have t1 : w8.cell? ⟨w5.heap.size, 1, none⟩ = some (.int .i64 tc) := ht8.cell rfl
    have t2 : w8.cell? ⟨w5.heap.size, 2, none⟩ = some (.string ts) := ht8.cell rfl
    have t3 : w8.cell? ⟨w5.heap.size, 3, none⟩ = some (.string tf) := ht8.cell rfl
    have z0 : w8.cell? ⟨w.heap.size, 0, none⟩ = some (.int .i64 0) := hz8.cell rfl
    have z1 : w8.cell? ⟨w.heap.size, 1, none⟩ = some (.int .i64 0) := hz8.cell rfl
    have z2 : w8.cell? ⟨w.heap.size, 2, none⟩ = some (.string ⟨#[]⟩) := hz8.cell rfl
    have z3 : w8.cell? ⟨w.heap.size, 3, none⟩ = some (.string ⟨#[]⟩) := hz8.cell rfl
    have y0 := hz8.free 0
    have y1 := hz8.free 1
    have y2 := hz8.free 2
    have y3 := hz8.free 3
    have hne5 : ¬ w.heap.size = w5.heap.size := by omega
    have f3 := ht8.free 3
    clear hrd8 hg8 hz8 ht8
    go_wp2_with fail
    obtain ⟨hf, hp⟩ := tal_out (p := p) (grown_set HG8.out (p := ⟨w5.heap.size, 3, none⟩) (Nat.le_of_lt hw5) (.string u8)) (HR8.out.far (a := ⟨w5.heap.size, 3, none⟩) (by show B ≤ w5.heap.size; omega) (by show w5.heap.size ≠ g; omega) (.string u8)) (by omega) (HZ8.out.other (p := ⟨w5.heap.size, 3, none⟩) hne5 (.string u8)) hlt ⟨ta, tc, ts, u8⟩ ht1 (by show u8.size ≤ 36; omega)
    have g0 := hf.cell (j := 0) rfl
    have g1 := hf.cell (j := 1) rfl
    have g2 := hf.cell (j := 2) rfl
    have g3 := hf.cell (j := 3) rfl
    exact bodyPost_ret (v := Tl.val ⟨ta, tc, ts, u8⟩) (by simp [results, Try.results33, go_sem, Tl.val, g0, g1, g2, g3]) rfl hp
  · have h1' : (v7 == 1) = false := by simpa using h1
    have hz8 := HZ7.out
    have ht8 := HT7.out
    have t0 : w7.cell? ⟨w5.heap.size, 0, none⟩ = some (.int .i64 ta) := ht8.cell rfl
    have t1 : w7.cell? ⟨w5.heap.size, 1, none⟩ = some (.int .i64 tc) := ht8.cell rfl
    have t2 : w7.cell? ⟨w5.heap.size, 2, none⟩ = some (.string ts) := ht8.cell rfl
    have t3 : w7.cell? ⟨w5.heap.size, 3, none⟩ = some (.string tf) := ht8.cell rfl
    have z0 : w7.cell? ⟨w.heap.size, 0, none⟩ = some (.int .i64 0) := hz8.cell rfl
    have z1 : w7.cell? ⟨w.heap.size, 1, none⟩ = some (.int .i64 0) := hz8.cell rfl
    have z2 : w7.cell? ⟨w.heap.size, 2, none⟩ = some (.string ⟨#[]⟩) := hz8.cell rfl
    have z3 : w7.cell? ⟨w.heap.size, 3, none⟩ = some (.string ⟨#[]⟩) := hz8.cell rfl
    have y0 := hz8.free 0
    have y1 := hz8.free 1
    have y2 := hz8.free 2
    have y3 := hz8.free 3
    have hne5 : ¬ w.heap.size = w5.heap.size := by omega
    clear hz8 ht8 h0 h1
    go_wp2_with fail
    obtain ⟨hf, hp⟩ := tal_out (p := p) HG7.out HR7.out (by omega) HZ7.out hlt ⟨ta, tc, ts, tf⟩ ht1 ht2
    have g0 := hf.cell (j := 0) rfl
    have g1 := hf.cell (j := 1) rfl
    have g2 := hf.cell (j := 2) rfl
    have g3 := hf.cell (j := 3) rfl
    exact bodyPost_ret (v := Tl.val ⟨ta, tc, ts, tf⟩) (by simp [results, Try.results33, go_sem, Tl.val, g0, g1, g2, g3]) rfl hp
end Go.Proofs.Ytogplbnabffcfaa
