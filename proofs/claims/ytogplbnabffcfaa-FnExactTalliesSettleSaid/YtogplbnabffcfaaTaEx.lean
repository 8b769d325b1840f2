/-
  The exact laws' szTallyS, toTallyS.
-/
import Derived.Test.YtogplbnabffcfaaStructs
import Derived.Test.YtogplbnabffcfaaTaSettle
namespace Go.Proofs.Ytogplbnabffcfaa
open Go.RowKit
set_option linter.unusedSimpArgs false

def SzPost (l : Int) (t : Tl) (w : World) (e : Ending) (w' : World) : Prop :=
  ∃ r : Int, e = .returned (.int .i64 r) ∧ (r = -1 ∨ (0 ≤ r ∧ r ≤ l ∧ t.s.size ≤ 1048576 ∧ t.f.size ≤ 1048576)) ∧ Below w.heap.size w w'
set_option maxRecDepth 100000 in
set_option maxHeartbeats 1000000 in
theorem szTally_any (t : Tl) (l : Int) (h0 : 0 ≤ l) (h1 : l ≤ 1048576) (hs : t.s.size ≤ 9223372036854775807) (hf : t.f.size ≤ 9223372036854775807) (w : World) : Calls Try.prog 28 #[t.val, .int .i64 l] w (SzPost l t w) := by
  obtain ⟨a, c, s, f⟩ := t
  show Calls Try.prog 28 #[.agg #[.int .i64 a, .int .i64 c, .string s, .string f], .int .i64 l] w _
  simp only at hs hf
  have wl : IntKind.i64.wrap (l - (s.size : Int)) = l - (s.size : Int) := IntWalk.i64_in _ (by omega)
  have HB := Lib.hid (show ∀ o, Below w.heap.size w (w.alloc o) from fun o => (Below.refl _ _).alloc (Nat.le_refl _) o)
  by_cases hn1 : l - (s.size : Int) < 0
  · go_enter Try.func28, Try.ntmps28
    go_wp2
    go_ret
    exact ⟨-1, rfl, .inl rfl, HB.out _⟩
  have wl2 : IntKind.i64.wrap (l - (s.size : Int) - (f.size : Int)) = l - (s.size : Int) - (f.size : Int) := IntWalk.i64_in _ (by omega)
  by_cases hn2 : l - (s.size : Int) - (f.size : Int) < 0
  · go_enter Try.func28, Try.ntmps28
    go_wp2
    go_ret
    exact ⟨-1, rfl, .inl rfl, HB.out _⟩
  · go_enter Try.func28, Try.ntmps28
    go_wp2
    go_ret
    exact ⟨_, rfl, .inr ⟨by omega, by omega, by show s.size ≤ _; omega, by show f.size ≤ _; omega⟩, HB.out _⟩
def Small20 (ts : List Tl) : Prop := ∀ t ∈ ts, t.s.size ≤ 1048576 ∧ t.f.size ≤ 1048576
def SzsPost (n : Nat) (ts : List Tl) (w : World) (e : Ending) (w' : World) : Prop :=
  ∃ r : Int, e = .returned (.int .i64 r) ∧ (r = -1 ∨ (0 ≤ r ∧ n ≤ 1048576 ∧ Small20 ts)) ∧ Below w.heap.size w w'
set_option maxRecDepth 100000 in
set_option maxHeartbeats 1000000 in
theorem szTallyS_any (A : Option Addr) (n c : Nat) (ts : List Tl) (w : World) (hr : RawT w A n ts) : Calls Try.prog 14 #[.slice A n c, .int .i64 1048576] w (SzsPost n ts w) := by
  have hmx : n ≤ 9223372036854775807 := by have := hr.2.1; unfold maxLen at this; omega
  have wl : IntKind.i64.wrap (1048576 - (n : Int)) = 1048576 - (n : Int) := IntWalk.i64_in _ (by omega)
  by_cases hn1 : 1048576 - (n : Int) < 0
  · clear hr
    go_enter Try.func14, Try.ntmps14
    go_wp2
    go_ret
    exact ⟨-1, rfl, .inl rfl, Below.refl _ _⟩
  have hn20 : n ≤ 1048576 := by omega
  have HT := Lib.hid (hr.tals (by omega))
  have HL := Lib.hid hr.1
  have HSZ := Lib.hid hr.2.2.1
  clear hr
  go_enter Try.func14, Try.ntmps14
  go_wp2_with fail
  go_loopw [1, 5] (fun lv iv wr => ∃ (k : Nat) (l : Int), k ≤ n ∧ iv = .int .i64 (k : Int) ∧ lv = .int .i64 l ∧ 0 ≤ l ∧ l ≤ 1048576 ∧ Small20 (ts.take k) ∧ Below w.heap.size w wr) (fun _ iv _ => n - (intOf iv).toNat)
  case atStart => exact ⟨0, 1048576 - (n : Int), by omega, rfl, rfl, by omega, by omega, fun t ht => by simp at ht, Below.refl _ _⟩
  case round =>
    obtain ⟨k, l, hk, rfl, rfl, hl0, hl1, hsm, hb⟩ := hrel
    have HSM := Lib.hid hsm
    have HB := Lib.hid hb
    clear hsm hb
    by_cases hlt : k < n
    · obtain ⟨b, off, t, rfl, hlb, ht, k0, k1, k2, k3⟩ := Tals.at_ (show Tals wr w.heap.size A n ts from HT.out.below HB.out) hlt
      have hz := HSZ.out t (List.mem_of_getElem? ht)
      unfold maxLen at hz
      have HTT := Lib.hid ht
      obtain ⟨a, cc, s, f⟩ := t
      simp only at k0 k1 k2 k3 hz
      clear ht
      go_wp2_with fail
      refine (szTally_any ⟨a, cc, s, f⟩ l hl0 hl1 (by simp only; omega) (by simp only; omega) wr).mono ?_
      rintro e w2 ⟨r, rfl, hr, hb2⟩
      have HB2 := Lib.hid (HB.out.trans (hb2.mono HB.out.size))
      clear hb2
      rcases hr with rfl | ⟨r0, r1, r2, r3⟩
      · go_wp2
        go_ret
        exact ⟨-1, rfl, .inl rfl, HB2.out⟩
      · have HN := Lib.hid (show Small20 (ts.take (k + 1)) from fun u hu => by
          rw [take_next HTT.out] at hu
          rcases List.mem_append.1 hu with h | h
          · exact HSM.out u h
          · obtain rfl := List.mem_singleton.1 h
            exact ⟨r2, r3⟩)
        clear r2 r3
        go_wp2_with fail
        exact ⟨⟨k + 1, r, by omega, by go_num, rfl, r0, by omega, HN.out, HB2.out⟩, by simp [intOf]; omega⟩
    · have hsm := HSM.out
      rw [List.take_of_length_le (by have := HL.out; omega)] at hsm
      have HS := Lib.hid hsm
      clear hsm
      go_wp2
      go_ret
      exact ⟨l, rfl, .inr ⟨hl0, hn20, HS.out⟩, HB.out⟩

theorem toTally_any (t : Tl) (w : World) : Calls Try.prog 29 #[t.val] w fun e w' => e = .returned t.val ∧ Below w.heap.size w w' := by
  obtain ⟨a, c, s, f⟩ := t
  show Calls Try.prog 29 #[.agg #[.int .i64 a, .int .i64 c, .string s, .string f]] w fun e w' => e = .returned (.agg #[.int .i64 a, .int .i64 c, .string s, .string f]) ∧ _
  go_enter Try.func29, Try.ntmps29
  go_wp2_with fail
  have hf : Blk (((w.alloc (.cells #[.int .i64 a, .int .i64 c, .string s, .string f] 61)).alloc (.cells #[.int .i64 a, .int .i64 c, .string s, .string f] 33)).alloc (.cells #[.int .i64 a, .int .i64 c, .string s, .string f] 33)) (w.heap.size + 1) #[.int .i64 a, .int .i64 c, .string s, .string f] 33 := by
    have := Blk.new (w.alloc (.cells #[.int .i64 a, .int .i64 c, .string s, .string f] 61)) #[.int .i64 a, .int .i64 c, .string s, .string f] 33
    rw [World.size_alloc] at this
    exact this.alloc _
  have g0 := hf.cell (j := 0) rfl
  have g1 := hf.cell (j := 1) rfl
  have g2 := hf.cell (j := 2) rfl
  have g3 := hf.cell (j := 3) rfl
  exact bodyPost_ret (v := .agg #[.int .i64 a, .int .i64 c, .string s, .string f]) (by simp [results, Try.results29, go_sem, g0, g1, g2, g3]) rfl ⟨rfl, (((Below.refl _ _).alloc (Nat.le_refl _) _).alloc (by simp) _).alloc (by simp; omega) _⟩

theorem TV_cons (t : Tl) (ts : List Tl) : TV (t :: ts) = t.cells ++ TV ts := by simp [TV]
theorem TV_set : ∀ (ts : List Tl) (i : Nat) (t : Tl), i < ts.length → ((((TV ts).set (i * 4) (.int .i64 t.a)).set (i * 4 + 1) (.int .i64 t.c)).set (i * 4 + 2) (.string t.s)).set (i * 4 + 3) (.string t.f) = TV (ts.set i t)
  | [], _, _, h => by simp at h
  | x :: xs, 0, t, _ => by simp [TV_cons, Tl.cells]
  | x :: xs, i + 1, t, h => by
    have ih := TV_set xs i t (by simpa using h)
    rw [List.set_cons_succ, TV_cons, TV_cons, ← ih]
    have e : ∀ j u l, (x.cells ++ l).set ((i + 1) * 4 + j) u = x.cells ++ l.set (i * 4 + j) u := fun j u l => by
      rw [List.set_append_right _ _ (by show 4 ≤ _; omega), show (i + 1) * 4 + j - x.cells.length = i * 4 + j from by show (i + 1) * 4 + j - 4 = _; omega]
    have e0 := e 0
    simp only [Nat.add_zero] at e0
    rw [e0, e 1, e 2, e 3]
/-- one cell of a row of the call's own stored -/
theorem OwnR.put {w : World} {B k n c g : Nat} {e : TypeId} {vs : List Value} (h : OwnR w B e k (some ⟨g, 0, none⟩) n c vs) (j : Nat) (v : Value) : OwnR (w.setCell ⟨g, j, none⟩ v) B e k (some ⟨g, 0, none⟩) n c (vs.set j v) := ⟨(h.1.stored j v).1, h.2⟩
theorem OwnT.set {w : World} {B n c g : Nat} {ts : List Tl} (h : OwnT w B (some ⟨g, 0, none⟩) n c ts) (i : Nat) (t : Tl) (hi : i < ts.length) :
    OwnT ((((w.setCell ⟨g, i * 4, none⟩ (.int .i64 t.a)).setCell ⟨g, i * 4 + 1, none⟩ (.int .i64 t.c)).setCell ⟨g, i * 4 + 2, none⟩ (.string t.s)).setCell ⟨g, i * 4 + 3, none⟩ (.string t.f)) B (some ⟨g, 0, none⟩) n c (ts.set i t) := by
  have := (((h.put (i * 4) (.int .i64 t.a)).put (i * 4 + 1) (.int .i64 t.c)).put (i * 4 + 2) (.string t.s)).put (i * 4 + 3) (.string t.f)
  rw [TV_set ts i t hi] at this
  exact this
def zeroT : Tl := ⟨0, 0, ⟨#[]⟩, ⟨#[]⟩⟩
theorem made_t (n : Nat) : (madeCells (Value.agg #[.int .i64 0, .int .i64 0, .string ⟨#[]⟩, .string ⟨#[]⟩]).cells (n * 4)).toList = TV (List.replicate n zeroT) := by
  apply List.ext_getElem?
  intro j
  by_cases hj : j < n * 4
  · have hg := flat_get (f := Tl.cells) (k := 4) (fun _ => rfl) (List.replicate n zeroT) (j / 4) zeroT (by rw [List.getElem?_replicate, if_pos (by omega)]) (j % 4) (by omega)
    rw [show j / 4 * 4 + j % 4 = j from by omega] at hg
    have e : (TV (List.replicate n zeroT))[j]? = zeroT.cells[j % 4]? := hg
    rw [e]
    have h4 : j % 4 = 0 ∨ j % 4 = 1 ∨ j % 4 = 2 ∨ j % 4 = 3 := by omega
    rcases h4 with h | h | h | h <;> simp [madeCells, hj, Value.cells, h, zeroT, Tl.cells]
  · rw [List.getElem?_eq_none (by simp [madeCells]; omega), List.getElem?_eq_none (by rw [TV_length, List.length_replicate]; omega)]
/-- make([]Tally, n) -/
theorem wpList_make_t {ops : Array Oper} {rest : List Oper} {o : Oper} {a : Act} {w : World} {Q : Exit → Act → World → Prop} (hgd : o.guard = none) (l c : Operand)
    (ho : o.op = .makeSlice 23 l c) {B n : Nat} (hl : a.eval l = .int .i64 (n : Int)) (hc : a.eval c = .int .i64 (n : Int)) (hn : n ≤ 1048576) (hB : B ≤ w.heap.size)
    (h : ∀ w', OwnT w' B (some ⟨w.heap.size, 0, none⟩) n n (List.replicate n zeroT) → w.grownBy w' none → wpList Try.prog ops Q rest (a.put o.dst (.slice (some ⟨w.heap.size, 0, none⟩) n n)) w') :
    wpList Try.prog ops Q (o :: rest) a w := by
  obtain ⟨i0, hi, hz0, hz1, hz2⟩ := info_parts tally_info
  refine wpList_make_full w hgd l c 23 ho B 33 i0 _ 4 Try.underlying23 hi hz0 hz1 .i64 .i64 _ _ n hl hc rfl rfl (by rw [hz2]; omega) (by unfold maxLen; omega) hB ?_
  intro w' hown hg
  rw [made_t] at hown
  exact h w' ⟨hown, by omega⟩ hg
theorem fill_t {ts : List Tl} {n k : Nat} {t : Tl} (hk : k < n) (hl : ts.length = n) (h : ts[k]? = some t) : (ts.take k ++ List.replicate (n - k) zeroT).set k t = ts.take (k + 1) ++ List.replicate (n - (k + 1)) zeroT := by
  have hlk : (ts.take k).length = k := by rw [List.length_take]; omega
  rw [List.set_append_right _ _ (by omega), hlk, Nat.sub_self, take_next h, show n - k = (n - (k + 1)) + 1 from by omega, List.replicate_succ, List.set_cons_zero, List.append_assoc]
  rfl
theorem OwnT.at4 {w : World} {B n c g : Nat} {ts : List Tl} (h : OwnT w B (some ⟨g, 0, none⟩) n c ts) {k : Nat} {x : Tl} (hx : ts[k]? = some x) :
    w.cell? ⟨g, k * 4, none⟩ = some (.int .i64 x.a) ∧ w.cell? ⟨g, k * 4 + 1, none⟩ = some (.int .i64 x.c) ∧ w.cell? ⟨g, k * 4 + 2, none⟩ = some (.string x.s) ∧ w.cell? ⟨g, k * 4 + 3, none⟩ = some (.string x.f) ∧ ∀ j, w.frozen? ⟨g, j, none⟩ = false := by
  have cl := h.1.cells (g := g) rfl
  have gt := flat_get (f := Tl.cells) (k := 4) (fun _ => rfl) _ k x hx
  simp only [add_row] at cl
  refine ⟨cl _ _ (gt 0 (by omega)), cl _ _ (gt 1 (by omega)), cl _ _ (gt 2 (by omega)), cl _ _ (gt 3 (by omega)), fun j => ?_⟩
  rcases h.1.2 with ⟨h1, _⟩ | ⟨g', cap, cur, hv, hb', hg', hr'⟩
  · cases h1
  · injection hv with e1 e2 e3
    injection e1 with e1
    injection e1 with e1
    subst e1
    exact Blk.free (ty := 33) hg' j
theorem below_set4' {w0 w : World} {b B : Nat} (h : Below B w0 w) (hb : B ≤ b) (i j k l : Nat) (x0 x1 x2 x3 : Value) : Below B w0 ((((w.setCell ⟨b, i, none⟩ x0).setCell ⟨b, j, none⟩ x1).setCell ⟨b, k, none⟩ x2).setCell ⟨b, l, none⟩ x3) :=
  (((h.setCell (p := ⟨b, i, none⟩) hb x0).setCell (p := ⟨b, j, none⟩) hb x1).setCell (p := ⟨b, k, none⟩) hb x2).setCell (p := ⟨b, l, none⟩) hb x3
def ToPost (w : World) (n : Nat) (ts : List Tl) (e : Ending) (w' : World) : Prop := ∃ A c, e = .returned (.slice A n c) ∧ OwnT w' w.heap.size A n c ts ∧ Below w.heap.size w w'
set_option maxRecDepth 100000 in
set_option maxHeartbeats 1000000 in
theorem toTallyS_any (A : Option Addr) (n c : Nat) (ts : List Tl) (w : World) (hr : Tals w w.heap.size A n ts) (hn : n ≤ 1048576) : Calls Try.prog 15 #[.slice A n c] w (ToPost w n ts) := by
  have HR := Lib.hid hr
  have HL := Lib.hid hr.len
  clear hr
  go_enter Try.func15, Try.ntmps15
  go_wp2_with (refine wpList_make_t rfl _ _ rfl (B := w.heap.size) (n := n) rfl rfl hn (Nat.le_refl _) ?_; intro w1 hown hg)
  have HO1 := Lib.hid hown
  have HB1 := Lib.hid (grown_below hg (Nat.le_refl w.heap.size) (by simp))
  clear hown hg
  go_loopw [4] (fun iv wr => ∃ (k : Nat), k ≤ n ∧ iv = .int .i64 (k : Int) ∧ OwnT wr w.heap.size (some ⟨w.heap.size, 0, none⟩) n n (ts.take k ++ List.replicate (n - k) zeroT) ∧ Below w.heap.size w wr) (fun iv _ => n - (intOf iv).toNat)
  case atStart => exact ⟨0, by omega, rfl, by simpa using HO1.out, HB1.out⟩
  case round =>
    obtain ⟨k, hk, rfl, ho, hb⟩ := hrel
    have HO := Lib.hid ho
    have HB := Lib.hid hb
    clear ho hb
    by_cases hlt : k < n
    · obtain ⟨b, off, t, rfl, hlb, ht, k0, k1, k2, k3⟩ := Tals.at_ (show Tals wr w.heap.size A n ts from HR.out.below HB.out) hlt
      have HT := Lib.hid ht
      obtain ⟨a, cc, s, f⟩ := t
      simp only at k0 k1 k2 k3
      clear ht
      go_wp2_with fail
      refine (toTally_any ⟨a, cc, s, f⟩ wr).mono ?_
      rintro e w2 ⟨he, hb2⟩
      have he : e = .returned (.agg #[.int .i64 a, .int .i64 cc, .string s, .string f]) := he
      subst he
      have HO2 := Lib.hid (HO.out.next hb2)
      have HB2 := Lib.hid (HB.out.trans (hb2.mono HB.out.size))
      clear hb2
      obtain ⟨x, hx⟩ : ∃ x, (ts.take k ++ List.replicate (n - k) zeroT)[k]? = some x := ⟨_, List.getElem?_eq_getElem (by rw [List.length_append, List.length_take, List.length_replicate]; have := HL.out; omega)⟩
      obtain ⟨m0, m1, m2, m3, fr⟩ := OwnT.at4 HO2.out hx
      have f0 := fr (k * 4)
      have f1 := fr (k * 4 + 1)
      have f2 := fr (k * 4 + 2)
      have f3 := fr (k * 4 + 3)
      have HX := Lib.hid hx
      clear hx fr
      go_wp2_with fail
      refine ⟨⟨k + 1, by omega, by go_num, ?_, below_set4' HB2.out (Nat.le_refl _) _ _ _ _ _ _ _ _⟩, by simp [intOf]; omega⟩
      have := OwnT.set HO2.out k ⟨a, cc, s, f⟩ (by rw [List.length_append, List.length_take, List.length_replicate]; have := HL.out; omega)
      rwa [fill_t hlt HL.out HT.out] at this
    · have hT : ts.take k ++ List.replicate (n - k) zeroT = ts := by
        rw [List.take_of_length_le (by have := HL.out; omega), show n - k = 0 from by omega]; simp
      have ho := HO.out
      rw [hT] at ho
      have HF := Lib.hid ho
      clear ho hT
      go_wp2
      go_ret
      exact ⟨_, _, rfl, HF.out, HB.out⟩
end Go.Proofs.Ytogplbnabffcfaa
