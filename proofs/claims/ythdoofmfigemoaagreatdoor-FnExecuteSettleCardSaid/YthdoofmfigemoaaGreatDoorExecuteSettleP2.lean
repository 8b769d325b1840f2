/-
  Joined texts: ExSettle, ExTallies, TaRef, TaRef2, TaRef3, TaLaw, ExSettleL, TaSame, Draw2, TaDraw, TaDraw2, TaRef4, TaRef5, ExecuteSettleWalk.
-/
import Derived.Test.YthdoofmfigemoaaGreatDoorExecuteSettleP1
import Derived.BigQuiet
import Derived.Deep.RegionWith
import Derived.Laws.StructEq
import Derived.Deep.RegionHeld3

section
/-
  The commands of tallies as CmdDoes: owe, settle.
-/
namespace Go.Proofs.YthdoofmfigemoaaGreatDoor
open Go.RowKit
set_option linter.unusedSimpArgs false
set_option maxRecDepth 100000

theorem does_owe (s : St) (a c v : Int) : CmdDoes 167 [a, c, v] s (if oweOk s.ts a c v then okT else noT) { s with ts := if oweOk s.ts a c v then s.ts ++ [tallyOf a c v] else s.ts } := by
  refine ⟨fun args w => by simp [go_sem], fun B0 tb w A n hn ht hw hp => ?_⟩
  refine (owe_cmd B0 tb s.bs s.ds s.ts a c v A n w hn ht hw _ rfl).mono fun e w' h => h.mono ?_
  rintro t ok w2 ⟨rfl, rfl, h⟩
  exact ⟨by cases oweOk s.ts a c v <;> rfl, h⟩
/-- the settled tallies -/
def settleOf (ts : List Tl) : Option (List Tl) := if okL ts then (Ta.settle 5 (bal (ts.map debtOf))).map (fun out => out.map payT) else none
theorem settleOf_yes {ts : List Tl} {out : List (Nat × Nat × Int)} (h1 : okL ts = true) (h2 : Ta.settle 5 (bal (ts.map debtOf)) = some out) : settleOf ts = some (out.map payT) := by
  unfold settleOf
  rw [if_pos h1, h2]
  rfl
theorem settleOf_no {ts : List Tl} (h : okL ts = false ∨ Ta.settle 5 (bal (ts.map debtOf)) = none) : settleOf ts = none := by
  unfold settleOf
  rcases h with h | h
  · rw [if_neg (by simp [h])]
  · split
    · rw [h]; rfl
    · rfl
def SetCmd (B0 tb : Nat) (bds ds : List Int) (ts : List Tl) (R : Option (List Tl)) (s : ByteArray) (ok : Bool) (w' : World) : Prop := ok = R.isSome ∧ (s = if R.isSome then okT else ⟨#[]⟩) ∧ Tab B0 w' tb bds ds (R.getD ts)
set_option maxHeartbeats 4000000 in
theorem settle_cmd (B0 tb : Nat) (bds ds : List Int) (ts : List Tl) (v : Value) (w : World) (h : Tab B0 w tb bds ds ts) (hw : B0 ≤ w.heap.size) (hsm : Small ts) (Q : Ending → World → Prop) (hQ : Q = CmdPost B0 (SetCmd B0 tb bds ds ts (settleOf ts)) w) :
    Calls Tryz.prog 168 #[.pointer (some ⟨tb, 0, none⟩), v] w Q := by
  obtain ⟨hB0, Ab, nb, cb, A1, c1, A1', c1', At, nt, ct, g0, g1, g2, g3, g4⟩ := id h
  have HT := Lib.hid h
  have c3 := g0.cell (j := 3) (v := .slice At nt ct) rfl
  have HG0 := Lib.hid g0
  have HI := Lib.hid (OwnT.tals g4)
  have HW := Lib.hid hw
  have HQ := Lib.hid hQ
  have HSM := Lib.hid hsm
  have HB0 := Lib.hid hB0
  clear h hB0 g0 g1 g2 g3 g4 hw hQ hsm
  go_enter Tryz.func168, Tryz.ntmps168
  go_wp2_with fail
  refine (TalliesSettle_any At nt ct ts w HI.out HSM.out).mono ?_
  rintro e w1 ⟨⟨out, hok, hset, A2, c2, rfl, ho2⟩ | ⟨hno, rfl⟩, hb1⟩
  · have hR := settleOf_yes hok hset
    have htb := HG0.out.next hb1
    have c31 := htb.cell (j := 3) (v := .slice At nt ct) rfl
    have f31 := htb.free 3
    have hfin := Tab.setTallies (HT.out.next hb1) (OwnR.mono ho2 HW.out)
    have HFIN := Lib.hid (And.intro hfin ((KeptT.of_below hb1).trans (KeptT.set htb HB0.out 3 (.slice A2 out.length c2))))
    have HR := Lib.hid hR
    clear hok hset ho2 hb1 hR hfin htb
    go_wp2_with fail
    try go_ret2
    rw [HQ.out, HR.out]
    exact ⟨_, _, rfl, ⟨rfl, rfl, HFIN.out.1⟩, HFIN.out.2⟩
  · have HR := Lib.hid (settleOf_no hno)
    have HB := Lib.hid hb1
    clear hno hb1
    go_wp2_with fail
    try go_ret2
    rw [HQ.out, HR.out]
    exact ⟨_, _, rfl, ⟨rfl, rfl, HT.out.next HB.out⟩, KeptT.of_below HB.out⟩
theorem does_settle (s : St) (hsm : Small s.ts) : CmdDoes 168 [] s (if (settleOf s.ts).isSome then okT else noT) { s with ts := (settleOf s.ts).getD s.ts } := by
  refine ⟨fun args w => by simp [go_sem], fun B0 tb w A n hn ht hw hp => ?_⟩
  refine (settle_cmd B0 tb s.bs s.ds s.ts _ w ht hw hsm _ rfl).mono fun e w' h => h.mono ?_
  rintro t ok w2 ⟨rfl, rfl, h⟩
  exact ⟨by cases (settleOf s.ts).isSome <;> rfl, h⟩
end Go.Proofs.YthdoofmfigemoaaGreatDoor
end

section
/-
  The command that tells all tallies.
-/
namespace Go.Proofs.YthdoofmfigemoaaGreatDoor
open Go.RowKit
set_option linter.unusedSimpArgs false
set_option maxRecDepth 100000

/-- the line of a tally -/
def tlLine (t : Tl) : List UInt8 := Lib.itoa t.a ++ 62 :: (Lib.itoa t.c ++ 32 :: (t.s.data.toList ++ [10]))
def tlText (ts : List Tl) : List UInt8 := ts.flatMap tlLine
/-- people and texts of a size -/
def Told (t : Tl) : Prop := 0 ≤ t.a ∧ t.a ≤ 4 ∧ 0 ≤ t.c ∧ t.c ≤ 4 ∧ t.s.size ≤ 36
theorem tlLine_len {t : Tl} (h : Told t) : (tlLine t).length ≤ 90 := by
  obtain ⟨a0, a1, c0, c1, hs⟩ := h
  have d1 := dec_size t.a (by omega) (by omega)
  have d2 := dec_size t.c (by omega) (by omega)
  have e1 : (dec t.a).size = (Lib.itoa t.a).length := by show (Lib.itoa t.a).toArray.size = _; simp
  have e2 : (dec t.c).size = (Lib.itoa t.c).length := by show (Lib.itoa t.c).toArray.size = _; simp
  have e3 : t.s.data.toList.length = t.s.size := by simp
  simp only [tlLine, List.length_append, List.length_cons, List.length_nil]
  omega
theorem tlText_len : ∀ {ts : List Tl}, (∀ t ∈ ts, Told t) → (tlText ts).length ≤ 90 * ts.length
  | [], _ => by simp [tlText]
  | t :: ts, h => by
    have h1 := tlLine_len (h t List.mem_cons_self)
    have h2 := tlText_len (ts := ts) (fun u hu => h u (List.mem_cons_of_mem _ hu))
    simp only [tlText, List.flatMap_cons, List.length_append, List.length_cons] at h2 ⊢
    omega
theorem tlText_snoc (ts : List Tl) (t : Tl) : tlText (ts ++ [t]) = tlText ts ++ tlLine t := by simp [tlText]
theorem tlLine_eq (t : Tl) : (((((dec t.a ++ ⟨#[62]⟩) ++ dec t.c) ++ ⟨#[32]⟩) ++ t.s) ++ ⟨#[10]⟩) = bs (tlLine t) := by
  have e : t.s = bs t.s.data.toList := (bs_eta t.s).symm
  rw [e]
  show ((((bs (Lib.itoa t.a) ++ bs [62]) ++ bs (Lib.itoa t.c)) ++ bs [32]) ++ bs t.s.data.toList) ++ bs [10] = _
  simp only [bs_append]
  congr 1
  simp [tlLine, bs_list]
theorem Blk.oth' {w w' : World} {b k : Nat} {cs : Array Value} {T : TypeId} (h : Blk w k cs T) (ho : Oth b w w') (hk : k ≠ b) (h2 : T ≠ 5) : Blk w' k cs T := h.keep (ho k cs T h hk h2)
def TellAll (B0 tb : Nat) (bds ds : List Int) (ts : List Tl) (s : ByteArray) (ok : Bool) (w' : World) : Prop := ok = true ∧ s = bs (tlText ts) ∧ Tab B0 w' tb bds ds ts
set_option maxHeartbeats 4000000 in
theorem tallies_cmd (B0 tb : Nat) (bds ds : List Int) (ts : List Tl) (v : Value) (w : World) (h : Tab B0 w tb bds ds ts) (hw : B0 ≤ w.heap.size) (hp : Pow B0 w) (h12 : ts.length ≤ 12) (hta : ∀ t ∈ ts, Told t) :
    Calls Tryz.prog 169 #[.pointer (some ⟨tb, 0, none⟩), v] w (CmdPost B0 (TellAll B0 tb bds ds ts) w) := by
  obtain ⟨hB0, Ab, nb, cb, A1, c1, A1', c1', At, nt, ct, g0, g1, g2, g3, g4⟩ := id h
  have HT := Lib.hid h
  have hI := OwnT.tals g4
  have hnt : ts.length = nt := hI.len
  have hb1 : Below w.heap.size w (w.alloc (.cells #[.pointer none, .slice none 0 0] 65)) := (Below.refl _ _).alloc (Nat.le_refl _) _
  have hBu : Bu (w.alloc (.cells #[.pointer none, .slice none 0 0] 65)) w.heap.size w.heap.size [] := Lib.fresh_isBuilder _ _ w
  have c3 := g0.cell (j := 3) (v := .slice At nt ct) rfl
  have htlt := g0.lt
  have HI := Lib.hid hI
  have HW := Lib.hid hw
  have HP := Lib.hid hp
  have HN := Lib.hid (And.intro hnt (And.intro h12 hta))
  have HB1 := Lib.hid (And.intro hb1 hBu)
  have hnt0 : (0 : Int) ≤ (nt : Int) := by omega
  have hnt9 : (nt : Int) ≤ 12 := by omega
  clear h hB0 g0 g1 g2 g3 g4 hw hp hI hnt h12 hta hb1 hBu
  go_enter Tryz.func169, Tryz.ntmps169
  go_wp2_with fail
  obtain ⟨W, hW⟩ : ∃ W, w.alloc (.cells #[.pointer none, .slice none 0 0] 65) = W := ⟨_, rfl⟩
  rw [hW] at HB1 ⊢
  clear hW c3
  go_loopw [14] (fun iv wr => ∃ (i : Nat), i ≤ nt ∧ iv = .int .i64 (i : Int) ∧ Bu wr w.heap.size w.heap.size (tlText (ts.take i)) ∧ Below w.heap.size w wr) (fun iv _ => nt - (intOf iv).toNat)
  case atStart => exact ⟨0, by omega, rfl, HB1.out.2, HB1.out.1⟩
  case round =>
    obtain ⟨i, hi, rfl, hbu, hbel⟩ := hrel
    have hsz := hbel.size
    have hszl : w.heap.size < wr.heap.size := by obtain ⟨cb, hcb⟩ := Bu.blk hbu; exact hcb.lt
    by_cases hlt : i < nt
    · obtain ⟨bk, off, t, rfl, hbk, ht, k0, k1, k2, k3⟩ := HI.out.at_ hlt
      have hto := HN.out.2.2 t (List.mem_of_getElem? ht)
      have m0 := (hbel.cell (p := ⟨bk, off + i * 4, none⟩) hbk).trans k0
      have m1 := (hbel.cell (p := ⟨bk, off + i * 4 + 1, none⟩) hbk).trans k1
      have m2 := (hbel.cell (p := ⟨bk, off + i * 4 + 2, none⟩) hbk).trans k2
      have m3 := (hbel.cell (p := ⟨bk, off + i * 4 + 3, none⟩) hbk).trans k3
      have hi0 : (0 : Int) ≤ (i : Int) := by omega
      have hi1 : (i : Int) < (nt : Int) := by omega
      have hbox := Blk.new wr #[.int .i64 t.a, .int .i64 t.c, .string t.s, .string t.f] 52
      have HX := Lib.hid (And.intro hbu (And.intro hbel (And.intro ht hto)))
      have HBOX := Lib.hid hbox
      clear hbu hbel ht hto k0 k1 k2 k3 hbox
      go_wp2_with fail
      obtain ⟨W4, hW4⟩ : ∃ V, wr.alloc (.cells #[.int .i64 t.a, .int .i64 t.c, .string t.s, .string t.f] 52) = V := ⟨_, rfl⟩
      have HBOX4 := Lib.hid (show Blk W4 wr.heap.size #[.int .i64 t.a, .int .i64 t.c, .string t.s, .string t.f] 52 by rw [← hW4]; exact HBOX.out)
      have HB4 := Lib.hid (show Below w.heap.size w W4 by rw [← hW4]; exact HX.out.2.1.alloc HX.out.2.1.size _)
      have HBU4 := Lib.hid (show Bu W4 w.heap.size w.heap.size (tlText (ts.take i)) by rw [← hW4]; exact Bu.keptT HX.out.1 (KeptT.of_below (B0 := 0) ((Below.refl _ _).alloc (Nat.le_refl _) _)))
      have HP4 := Lib.hid (show ∀ w', Below w.heap.size w w' → Pow B0 w' from fun w' hb => HP.out.below (hb.mono HW.out))
      have HLINE := Lib.hid (tlLine_eq t)
      have hlt4 : wr.heap.size < W4.heap.size := HBOX4.out.lt
      have HLEN := Lib.hid (show (tlText (ts.take i)).length + (bs (tlLine t)).size ≤ 2000 from by
        have h1 := tlText_len (ts := ts.take i) (fun u hu => HN.out.2.2 u (List.mem_of_mem_take hu))
        have h2 := tlLine_len HX.out.2.2.2
        have e : (bs (tlLine t)).size = (tlLine t).length := by show (tlLine t).toArray.size = _; simp
        have e2 : (ts.take i).length ≤ 12 := by rw [List.length_take]; omega
        omega)
      obtain ⟨a0, a1, b0, b1, hs⟩ := HX.out.2.2.2
      have d1 := dec_size t.a (by omega) (by omega)
      have d2 := dec_size t.c (by omega) (by omega)
      have l1 := no_long (n := (dec t.a).size) (by omega) 1 (by omega)
      have l2 := no_long (n := (dec t.a).size + 1) (by omega) (dec t.c).size (by omega)
      have l3 := no_long (n := (dec t.a).size + 1 + (dec t.c).size) (by omega) 1 (by omega)
      have l4 := no_long (n := (dec t.a).size + 1 + (dec t.c).size + 1) (by omega) t.s.size (by omega)
      have l5 := no_long (n := (dec t.a).size + 1 + (dec t.c).size + 1 + t.s.size) (by omega) 1 (by omega)
      have z0 := HBOX4.out.cell (j := 0) (v := .int .i64 t.a) rfl
      have z1 := HBOX4.out.cell (j := 1) (v := .int .i64 t.c) rfl
      have z2 := HBOX4.out.cell (j := 2) (v := .string t.s) rfl
      rw [hW4]
      clear hW4 m0 m1 m2 m3
      --<R
      refine wp_region_held_drew (S := (fun w' => w'.cell? ⟨wr.heap.size, 0, none⟩ = some (.int .i64 t.a) ∧ w'.cell? ⟨wr.heap.size, 1, none⟩ = some (.int .i64 t.c) ∧ w'.cell? ⟨wr.heap.size, 2, none⟩ = some (.string t.s))) (by kernel_rfl) ?_ (fun hHeld => ?_)
      · (try dsimp only)
        all_goals (first | (refine ⟨?_, ?_, ?_⟩ <;> go_simp) | go_keep)
      refine wpAnyH_take (i := 0) (oi := { dst := some 18, op := _, type := _, pos := _, after := _, guard := _ }) (v := ?v1) rfl (by kernel_rfl) (by kernel_rfl) (by kernel_rfl) (fun _ _ _ h => h) (Or.inl ⟨by rfl, ?hy1⟩) (by first | assumption | exact hHeld) ?rest1
      case hy1 => ((intro w0 hSw; (try dsimp only at hSw); go_simp) <;> with_reducible rfl)
      (try simp only [Act.put, List.setIfInBounds_toArray, List.set_cons_zero, List.set_cons_succ])
      refine wpAnyH_take (i := 1) (oi := { dst := some 19, op := _, type := _, pos := _, after := _, guard := _ }) (v := ?v2) rfl (by kernel_rfl) (by kernel_rfl) (by kernel_rfl) (fun _ _ _ h => h) (Or.inl ⟨by rfl, ?hy2⟩) (by first | assumption | exact hHeld) ?rest2
      case hy2 => ((intro w0 hSw; (try dsimp only at hSw); go_simp) <;> with_reducible rfl)
      (try simp only [Act.put, List.setIfInBounds_toArray, List.set_cons_zero, List.set_cons_succ])
      refine wpAnyH_take (i := 4) (oi := { dst := some 22, op := _, type := _, pos := _, after := _, guard := _ }) (v := ?v3) rfl (by kernel_rfl) (by kernel_rfl) (by kernel_rfl) (fun _ _ _ h => h) (Or.inl ⟨by rfl, ?hy3⟩) (by first | assumption | exact hHeld) ?rest3
      case hy3 => ((intro w0 hSw; (try dsimp only at hSw); go_simp) <;> with_reducible rfl)
      (try simp only [Act.put, List.setIfInBounds_toArray, List.set_cons_zero, List.set_cons_succ])
      refine wpAnyH_take (i := 5) (oi := { dst := some 23, op := _, type := _, pos := _, after := _, guard := _ }) (v := ?v4) rfl (by kernel_rfl) (by kernel_rfl) (by kernel_rfl) (fun _ _ _ h => h) (Or.inl ⟨by rfl, ?hy4⟩) (by first | assumption | exact hHeld) ?rest4
      case hy4 => ((intro w0 hSw; (try dsimp only at hSw); go_simp) <;> with_reducible rfl)
      (try simp only [Act.put, List.setIfInBounds_toArray, List.set_cons_zero, List.set_cons_succ])
      refine wpAnyH_take (i := 9) (oi := { dst := some 27, op := _, type := _, pos := _, after := _, guard := _ }) (v := ?v5) rfl (by kernel_rfl) (by kernel_rfl) (by kernel_rfl) (fun _ _ _ h => h) (Or.inl ⟨by rfl, ?hy5⟩) (by first | assumption | exact hHeld) ?rest5
      case hy5 => ((intro w0 hSw; (try dsimp only at hSw); go_simp) <;> with_reducible rfl)
      (try simp only [Act.put, List.setIfInBounds_toArray, List.set_cons_zero, List.set_cons_succ])
      refine wpAnyH_take (i := 10) (oi := { dst := some 28, op := _, type := _, pos := _, after := _, guard := _ }) (v := ?v6) rfl (by kernel_rfl) (by kernel_rfl) (by kernel_rfl) (fun _ _ _ h => h) (Or.inl ⟨by rfl, ?hy6⟩) (by first | assumption | exact hHeld) ?rest6
      case hy6 => ((intro w0 hSw; (try dsimp only at hSw); go_simp) <;> with_reducible rfl)
      (try simp only [Act.put, List.setIfInBounds_toArray, List.set_cons_zero, List.set_cons_succ])
      refine wpAnyH_ready (rs := [2]) (by kernel_rfl) (by simp) ?_
      refine AllReadyH.cons (o := { dst := some 20, op := _, type := _, pos := _, after := _, guard := _ }) rfl (fun K hK => ?_) ?_
      · go_simp
        refine (Itoa_any (HP4.out _ (HB4.out.drew)) t.a (by omega) (by omega)).mono ?_
        rintro e w5 ⟨rfl, hb5'⟩
        have hb5 := (Below.refl W4.heap.size W4).drew.trans hb5'
        have p0 := (HBOX4.out.next hb5).cell (j := 0) (v := .int .i64 t.a) rfl
        have p1 := (HBOX4.out.next hb5).cell (j := 1) (v := .int .i64 t.c) rfl
        have p2 := (HBOX4.out.next hb5).cell (j := 2) (v := .string t.s) rfl
        have HB5 := Lib.hid hb5
        clear hb5 hb5'
        refine hK.out _ _ ?_ (fun hHeld7 => ?_)
        · (try dsimp only)
          all_goals (first | (refine ⟨?_, ?_, ?_⟩ <;> go_simp) | go_keep)
        clear hK K
        (try clear hHeld)
        (try simp only [Act.put, List.setIfInBounds_toArray, List.set_cons_zero, List.set_cons_succ])
        refine wpAnyH_take (i := 3) (oi := { dst := some 21, op := _, type := _, pos := _, after := _, guard := _ }) (v := ?v8) rfl (by kernel_rfl) (by kernel_rfl) (by kernel_rfl) (fun _ _ _ h => h) (Or.inl ⟨by rfl, ?hy8⟩) (by first | assumption | exact hHeld7) ?rest8
        case hy8 => ((intro w0 hSw; (try dsimp only at hSw); go_simp) <;> with_reducible rfl)
        (try simp only [Act.put, List.setIfInBounds_toArray, List.set_cons_zero, List.set_cons_succ])
        refine wpAnyH_ready (rs := [6]) (by kernel_rfl) (by simp) ?_
        refine AllReadyH.cons (o := { dst := some 24, op := _, type := _, pos := _, after := _, guard := _ }) rfl (fun K hK => ?_) ?_
        · go_simp
          refine (Itoa_any (HP4.out _ (HB4.out.trans (HB5.out.mono HB4.out.size))) t.c (by omega) (by omega)).mono ?_
          rintro e w6 ⟨rfl, hb6'⟩
          have hb6 := HB5.out.trans (hb6'.mono HB5.out.size)
          have q0 := (HBOX4.out.next hb6).cell (j := 0) (v := .int .i64 t.a) rfl
          have q1 := (HBOX4.out.next hb6).cell (j := 1) (v := .int .i64 t.c) rfl
          have q2 := (HBOX4.out.next hb6).cell (j := 2) (v := .string t.s) rfl
          have HB6 := Lib.hid hb6
          clear hb6 hb6'
          refine hK.out _ _ ?_ (fun hHeld9 => ?_)
          · (try dsimp only)
            all_goals (first | (refine ⟨?_, ?_, ?_⟩ <;> go_simp) | go_keep)
          clear hK K
          (try clear hHeld7)
          (try simp only [Act.put, List.setIfInBounds_toArray, List.set_cons_zero, List.set_cons_succ])
          refine wpAnyH_take (i := 7) (oi := { dst := some 25, op := _, type := _, pos := _, after := _, guard := _ }) (v := ?v10) rfl (by kernel_rfl) (by kernel_rfl) (by kernel_rfl) (fun _ _ _ h => h) (Or.inl ⟨by rfl, ?hy10⟩) (by first | assumption | exact hHeld9) ?rest10
          case hy10 => ((intro w0 hSw; (try dsimp only at hSw); go_simp) <;> with_reducible rfl)
          (try simp only [Act.put, List.setIfInBounds_toArray, List.set_cons_zero, List.set_cons_succ])
          refine wpAnyH_take (i := 8) (oi := { dst := some 26, op := _, type := _, pos := _, after := _, guard := _ }) (v := ?v11) rfl (by kernel_rfl) (by kernel_rfl) (by kernel_rfl) (fun _ _ _ h => h) (Or.inl ⟨by rfl, ?hy11⟩) (by first | assumption | exact hHeld9) ?rest11
          case hy11 => ((intro w0 hSw; (try dsimp only at hSw); go_simp) <;> with_reducible rfl)
          (try simp only [Act.put, List.setIfInBounds_toArray, List.set_cons_zero, List.set_cons_succ])
          refine wpAnyH_take (i := 11) (oi := { dst := some 29, op := _, type := _, pos := _, after := _, guard := _ }) (v := ?v12) rfl (by kernel_rfl) (by kernel_rfl) (by kernel_rfl) (fun _ _ _ h => h) (Or.inl ⟨by rfl, ?hy12⟩) (by first | assumption | exact hHeld9) ?rest12
          case hy12 => ((intro w0 hSw; (try dsimp only at hSw); go_simp) <;> with_reducible rfl)
          (try simp only [Act.put, List.setIfInBounds_toArray, List.set_cons_zero, List.set_cons_succ])
          refine wpAnyH_take (i := 12) (oi := { dst := some 30, op := _, type := _, pos := _, after := _, guard := _ }) (v := ?v13) rfl (by kernel_rfl) (by kernel_rfl) (by kernel_rfl) (fun _ _ _ h => h) (Or.inl ⟨by rfl, ?hy13⟩) (by first | assumption | exact hHeld9) ?rest13
          case hy13 => ((intro w0 hSw; (try dsimp only at hSw); go_simp) <;> with_reducible rfl)
          (try simp only [Act.put, List.setIfInBounds_toArray, List.set_cons_zero, List.set_cons_succ])
          refine wpAnyH_ready (rs := [13]) (by kernel_rfl) (by simp) ?_
          refine AllReadyH.cons (o := { dst := some 31, op := _, type := _, pos := _, after := _, guard := _ }) rfl (fun K hK => ?_) ?_
          · go_simp
            rw [HLINE.out]
            refine (WriteString_any w.heap.size w.heap.size (tlText (ts.take i)) _ _ (Bu.keptT HBU4.out (KeptT.of_below (B0 := 0) HB6.out)) (by have := HLEN.out; omega) (Nat.le_trans HB4.out.size HB6.out.size)).mono ?_
            rintro e w7 ⟨⟨v7, rfl⟩, hbu7, hb7, hot7⟩
            have hbx7 := Blk.oth' (HBOX4.out.next HB6.out) hot7 (by omega) (by decide)
            rw [bs_list] at hbu7
            have r0 := (hbx7).cell (j := 0) (v := .int .i64 t.a) rfl
            have r1 := (hbx7).cell (j := 1) (v := .int .i64 t.c) rfl
            have r2 := (hbx7).cell (j := 2) (v := .string t.s) rfl
            have HB7 := Lib.hid (And.intro hbu7 ((HB4.out.trans (HB6.out.mono HB4.out.size)).trans hb7))
            clear hbu7 hb7 hot7 hbx7
            (try go_wp2_with fail)
            refine hK.out _ _ ?_ (fun hHeld14 => ?_)
            · (try dsimp only)
              all_goals (first | (refine ⟨?_, ?_, ?_⟩ <;> go_simp) | go_keep)
            clear hK K
            (try clear hHeld9)
            (try simp only [Act.put, List.setIfInBounds_toArray, List.set_cons_zero, List.set_cons_succ])
            refine wpAnyH_done (by kernel_rfl) ?_ _
            go_wp2_with fail
            exact ⟨⟨i + 1, by omega, by go_num, by rw [take_next HX.out.2.2.1, tlText_snoc]; exact HB7.out.1, HB7.out.2⟩, by simp [intOf]; omega⟩
          exact AllReadyH.nil
        exact AllReadyH.nil
      exact AllReadyH.nil
      --R>
    · obtain rfl : i = nt := by omega
      have hall : ts.take i = ts := List.take_of_length_le (by rw [HN.out.1]; omega)
      rw [hall] at hbu
      have HX := Lib.hid (And.intro hbu hbel)
      clear hbu hbel hall
      go_wp2_with fail
      refine (Tryz.Builder_String_any w.heap.size w.heap.size (tlText ts) wr HX.out.1 hsz).mono ?_
      rintro e w8 ⟨rfl, hb8⟩
      have HB8 := Lib.hid (HX.out.2.trans hb8)
      clear hb8
      go_wp2_with fail
      refine bodyPost_ret (v := .tuple #[.string (bs (tlText ts)), .bool true]) (by simp [results, Tryz.results169, go_sem, bs]) rfl ?_
      exact ⟨_, _, rfl, ⟨rfl, rfl, HT.out.next HB8.out⟩, KeptT.of_below HB8.out⟩
theorem does_tallies (s : St) (h12 : s.ts.length ≤ 12) (hta : ∀ t ∈ s.ts, Told t) : CmdDoes 169 [] s (bs (tlText s.ts)) s := by
  refine ⟨fun args w => by simp [go_sem], fun B0 tb w A n hn ht hw hp => ?_⟩
  refine (tallies_cmd B0 tb s.bs s.ds s.ts _ w ht hw hp h12 hta).mono fun e w' h => h.mono ?_
  rintro t ok w2 ⟨rfl, rfl, h⟩
  exact ⟨rfl, h⟩
end Go.Proofs.YthdoofmfigemoaaGreatDoor
end

section
/-
  The reference's notches: the worth of a letter, whether a text are notches, the sum of letters.
-/
namespace Go.Proofs.YthdoofmfigemoaaGreatDoor
open Go.RowKit
set_option linter.unusedSimpArgs false

theorem ta_quiet_same {P : Program} {f : FuncId} {args : Array Value} {w : World} {n : Nat} {v : Value}
    (h : Calls P f args (w.drewN n) fun e w' => e = .returned v ∧ w.drewN n = w') : Calls P f args (w.drewN n) fun e w'' => e = .returned v ∧ ∃ m, w'' = w.drewN m :=
  h.mono fun _ _ ⟨he, hm⟩ => ⟨he, n, hm.symm⟩
/-- the worth of a letter, 0 for others -/
def lw (b : UInt8) : Int := match Ta.rank b with | none => 0 | some k => Ta.weight k
theorem l6yWorth_is (b : UInt8) (u : Int) (h : lw b = u) (w : World) : Calls Tryz.prog 188 #[.int .u8 (b.toNat : Int)] w fun e w' => e = .returned (.int .i64 u) ∧ w = w' := by
  subst h
  by_cases h1 : b = 77
  · subst h1
    go_enter Tryz.func188, Tryz.ntmps188
    go_wp2
    go_ret
    exact ⟨rfl, rfl⟩
  by_cases h2 : b = 67
  · subst h2
    go_enter Tryz.func188, Tryz.ntmps188
    go_wp2
    go_ret
    exact ⟨rfl, rfl⟩
  by_cases h3 : b = 88
  · subst h3
    go_enter Tryz.func188, Tryz.ntmps188
    go_wp2
    go_ret
    exact ⟨rfl, rfl⟩
  by_cases h4 : b = 73
  · subst h4
    go_enter Tryz.func188, Tryz.ntmps188
    go_wp2
    go_ret
    exact ⟨rfl, rfl⟩
  have HL := Lib.hid (show lw b = 0 by simp [lw, Ta.rank, h1, h2, h3, h4])
  have e : ∀ k : UInt8, b ≠ k → ((b.toNat : Int) == (k.toNat : Int)) = false := fun k hk => by
    simp only [beq_eq_false_iff_ne, ne_eq, Int.natCast_inj]
    exact fun h => hk (UInt8.toNat_inj.1 h)
  have e1 : ((b.toNat : Int) == 77) = false := e 77 h1
  have e2 : ((b.toNat : Int) == 67) = false := e 67 h2
  have e3 : ((b.toNat : Int) == 88) = false := e 88 h3
  have e4 : ((b.toNat : Int) == 73) = false := e 73 h4
  clear h1 h2 h3 h4 e
  go_enter Tryz.func188, Tryz.ntmps188
  go_wp2
  go_ret
  exact ⟨ret_int HL.out.symm, rfl⟩
theorem lw_none {b : UInt8} (h : Ta.rank b = none) : lw b = 0 := by simp [lw, h]
theorem lw_some {b : UInt8} {k : Nat} (h : Ta.rank b = some k) : lw b = Ta.weight k := by simp [lw, h]
theorem rank_inj {a b : UInt8} {k : Nat} (ha : Ta.rank a = some k) (hb : Ta.rank b = some k) : a = b := by
  unfold Ta.rank at ha hb
  repeat' split at ha
  all_goals first | (injection ha with ha) | (cases ha; done)
  all_goals repeat' split at hb
  all_goals first | (injection hb with hb) | (cases hb; done)
  all_goals first | omega | (simp_all; done)
theorem weight_lt {r k : Nat} (hr : r < 4) (hk : k < 4) : Ta.weight r < Ta.weight k ↔ k < r := by
  unfold Ta.weight
  repeat' split
  all_goals omega

theorem run_idx (s : ByteArray) (i : Nat) (b : UInt8) (I : Int) (hI : I = (i : Int)) (hb : s.data.toList[i]? = some b) (w : World) : (Instr.index 9 (.string s) (.int .i64 I)).run Tryz.prog w = .ok (.int .u8 (b.toNat : Int)) w := by
  subst hI
  obtain ⟨h1, h2⟩ := List.getElem?_eq_some_iff.1 hb
  have hi : i < s.size := by simpa using h1
  rw [run_index_string _ _ _ _ _ Tryz.underlying9, dif_pos ⟨by omega, by omega⟩]
  have e : s[((i : Int)).toNat]'(by omega) = b := by rw [← h2]; rfl
  rw [e]

set_option maxRecDepth 100000 in
set_option maxHeartbeats 1000000 in
theorem specNotchesValid_any (s : ByteArray) (w : World) (hs : s.size ≤ 1099511627776) : Calls Tryz.prog 187 #[.string s] w fun e w' => e = .returned (.bool (validB s)) ∧ Below w.heap.size w w' := by
  have hlen : s.data.toList.length = s.size := by simp
  have HLEN := Lib.hid hlen
  clear hlen
  go_enter Tryz.func187, Tryz.ntmps187
  go_wp2_with fail
  go_loopw [3, 4] (fun mv iv wr => ∃ (i r m : Nat) (t : Int), i ≤ s.size ∧ iv = .int .i64 (i : Int) ∧ mv = .int .i64 (m : Int) ∧ m ≤ 9 ∧ r < 4 ∧ Ta.worth s.data.toList = Ta.scan (s.data.toList.drop i) r m t ∧ ((i = 0 ∧ r = 0 ∧ m = 0) ∨ (∃ j p, i = j + 1 ∧ s.data.toList[j]? = some p ∧ Ta.rank p = some r)) ∧ Below w.heap.size w wr) (fun _ iv _ => s.size - (intOf iv).toNat)
  case atStart => exact ⟨0, 0, 0, 0, by omega, rfl, rfl, by omega, by omega, rfl, .inl ⟨rfl, rfl, rfl⟩, Below.refl _ _⟩
  case round =>
    obtain ⟨i, r, m, t, hi, rfl, rfl, hm9, hr4, hw, hprev, hb⟩ := hrel
    have HW := Lib.hid hw
    have HB := Lib.hid hb
    clear hw hb
    by_cases hlt : i < s.size
    · obtain ⟨b, hb⟩ : ∃ b, s.data.toList[i]? = some b := ⟨_, List.getElem?_eq_getElem (by have := HLEN.out; omega)⟩
      have hix := run_idx s i b _ rfl hb
      have HBL := Lib.hid hb
      clear hb
      rcases hk : Ta.rank b with _ | k
      · have HNO := Lib.hid (show validB s = false by unfold validB; rw [HW.out, drop_cell HBL.out, Ta.scan_none hk]; rfl)
        have HU := Lib.hid (lw_none hk)
        clear hk
        go_wp2_with fail
        go_quiet ((go_at_call 188; exact ta_quiet_same (l6yWorth_is b 0 HU.out _)))
        go_wp2
        go_ret
        exact ⟨ret_bool HNO.out.symm, by first | exact HB.out | exact below_drewN HB.out _⟩
      have hk4 := Ta.rank_lt hk
      obtain ⟨u, hu⟩ : ∃ u, lw b = u := ⟨_, rfl⟩
      have hu2 : u = Ta.weight k := by rw [← hu, lw_some hk]
      have hu1 := (Ta.weight_bd k).1
      have hz : (u == 0) = false := by simp; omega
      have HU := Lib.hid hu
      rcases hprev with ⟨rfl, rfl, rfl⟩ | ⟨j, p, rfl, hp, hrp⟩
      · have HK := Lib.hid hk
        have hix := run_idx s 0 b 0 rfl HBL.out
        clear hk hu hu2 hu1
        go_wp2_with fail
        go_quiet ((go_at_call 188; exact ta_quiet_same (l6yWorth_is b u HU.out _)))
        go_wp2_with fail
        go_quiet (fail)
        go_wp2_with fail
        refine ⟨⟨1, k, 1, t + Ta.weight k, by omega, rfl, rfl, by omega, hk4, ?_, .inr ⟨0, b, rfl, HBL.out, HK.out⟩, below_drewN HB.out _⟩, by simp [intOf]; omega⟩
        rw [HW.out, drop_cell HBL.out, Ta.scan_on HK.out (by omega) (by split <;> omega)]
        congr 1
        split <;> rfl
      · rw [show ((j + 1 : Nat) : Int) = (j : Int) + 1 from rfl] at hix
        have hixp := run_idx s j p _ rfl hp
        obtain ⟨v, hv⟩ : ∃ v, lw p = v := ⟨_, rfl⟩
        have hv2 : v = Ta.weight r := by rw [← hv, lw_some hrp]
        have hlt2 : v < u ↔ k < r := by rw [hu2, hv2]; exact weight_lt hr4 hk4
        have HV := Lib.hid hv
        have HK := Lib.hid (And.intro hk (And.intro hp hrp))
        clear hv hp hrp hk hu hu2 hv2
        by_cases hkr : k < r
        · have huv : v < u := hlt2.2 hkr
          have HNO := Lib.hid (show validB s = false by unfold validB; rw [HW.out, drop_cell HBL.out, Ta.scan_back HK.out.1 hkr]; rfl)
          clear hkr hlt2
          go_wp2_with fail
          go_quiet (first | (go_at_call_of 188 b; exact ta_quiet_same (l6yWorth_is b u HU.out _)) | (go_at_call_of 188 p; exact ta_quiet_same (l6yWorth_is p v HV.out _)))
          go_wp2
          go_ret
          exact ⟨ret_bool HNO.out.symm, by first | exact HB.out | exact below_drewN HB.out _⟩
        · have huv : ¬ v < u := fun e => hkr (hlt2.1 e)
          have hpb : k = r → p = b := fun e => rank_inj HK.out.2.2 (e ▸ HK.out.1)
          have hpb2 : p = b → k = r := fun e => by
            have := HK.out.2.2
            rw [e, HK.out.1] at this
            injection this
          clear hlt2
          by_cases hkr2 : k = r
          · have hpe := hpb hkr2
            subst hkr2
            subst hpe
            have huv2 : v = u := HV.out.symm.trans HU.out
            clear hpb hpb2
            subst huv2
            by_cases h9 : m = 9
            · subst h9
              have HNO := Lib.hid (show validB s = false by unfold validB; rw [HW.out, drop_cell HBL.out, Ta.scan_many HK.out.1 hkr (by rw [if_pos rfl]; omega)]; rfl)
              clear hkr hu1
              go_wp2_with fail
              go_quiet ((go_at_call_of 188 p; exact ta_quiet_same (l6yWorth_is p v HU.out _)))
              go_wp2_with fail
              go_quiet (fail)
              go_wp2
              go_ret
              exact ⟨ret_bool HNO.out.symm, by first | exact HB.out | exact below_drewN HB.out _⟩
            · have hm8 : ¬ (m : Int) + 1 > 9 := by omega
              have HKR := Lib.hid hkr
              clear hkr hu1
              go_wp2_with fail
              go_quiet ((go_at_call_of 188 p; exact ta_quiet_same (l6yWorth_is p v HU.out _)))
              go_wp2_with fail
              go_quiet (fail)
              go_wp2_with fail
              refine ⟨⟨j + 2, k, m + 1, t + Ta.weight k, by omega, by go_num, by go_num, by omega, hk4, ?_, .inr ⟨j + 1, p, rfl, HBL.out, HK.out.1⟩, below_drewN HB.out _⟩, by simp [intOf]; omega⟩
              rw [HW.out, drop_cell HBL.out, Ta.scan_on HK.out.1 HKR.out (by rw [if_pos rfl]; omega), if_pos rfl]
          · have hpe : p ≠ b := fun e => hkr2 (hpb2 e)
            have hne : ((b.toNat : Int) != (p.toNat : Int)) = true := by
              simp only [bne_iff_ne, ne_eq, Int.natCast_inj]
              exact fun h => hpe (UInt8.toNat_inj.1 h).symm
            have HKR := Lib.hid (And.intro hkr hkr2)
            clear hkr hkr2 hpb hpb2 hpe hu1
            go_wp2_with fail
            go_quiet (first | (go_at_call_of 188 b; exact ta_quiet_same (l6yWorth_is b u HU.out _)) | (go_at_call_of 188 p; exact ta_quiet_same (l6yWorth_is p v HV.out _)))
            go_wp2_with fail
            go_quiet (fail)
            go_wp2_with fail
            refine ⟨⟨j + 2, k, 1, t + Ta.weight k, by omega, by go_num, rfl, by omega, hk4, ?_, .inr ⟨j + 1, b, rfl, HBL.out, HK.out.1⟩, below_drewN HB.out _⟩, by simp [intOf]; omega⟩
            rw [HW.out, drop_cell HBL.out, Ta.scan_on HK.out.1 HKR.out.1 (by rw [if_neg HKR.out.2]; omega), if_neg HKR.out.2]
    · obtain rfl : i = s.size := by omega
      have hd : Ta.worth s.data.toList = some t := by
        rw [HW.out, List.drop_eq_nil_of_le (by have := HLEN.out; omega)]; rfl
      have h36 := (Ta.worth_bd hd).1
      have hs36 : s.size ≤ 36 := by have := HLEN.out; omega
      have HYES := Lib.hid (show validB s = true by unfold validB; rw [hd]; rfl)
      clear hd h36
      go_wp2
      go_ret
      exact ⟨ret_bool (by rw [HYES.out]; simp; omega), HB.out⟩
end Go.Proofs.YthdoofmfigemoaaGreatDoor
end

section
/-
  The reference's sum of letters, notches of a worth, tallies, and whether a list are tallies.
-/
namespace Go.Proofs.YthdoofmfigemoaaGreatDoor
open Go.RowKit
set_option linter.unusedSimpArgs false

theorem worth_of {s : ByteArray} (h : validB s = true) : Ta.worth s.data.toList = some (worthB s) := by
  unfold validB at h
  unfold worthB
  cases hw : Ta.worth s.data.toList with
  | none => rw [hw] at h; cases h
  | some v => rfl
theorem valid_size {s : ByteArray} (h : validB s = true) : s.size ≤ 36 := by
  have := (Ta.worth_bd (worth_of h)).1
  simpa using this
set_option maxRecDepth 100000 in
set_option maxHeartbeats 1000000 in
theorem l6ySum_any (s : ByteArray) (w : World) (hv : validB s = true) : Calls Tryz.prog 150 #[.string s] w fun e w' => e = .returned (.int .i64 (worthB s)) ∧ w = w' := by
  have hw0 := worth_of hv
  have hs := valid_size hv
  obtain ⟨v, hvv⟩ : ∃ v, worthB s = v := ⟨_, rfl⟩
  rw [hvv] at hw0 ⊢
  have hlen : s.data.toList.length = s.size := by simp
  have HLEN := Lib.hid hlen
  have HW0 := Lib.hid hw0
  clear hlen hw0 hvv hv
  go_enter Tryz.func150, Tryz.ntmps150
  go_wp2_with fail
  go_loopw [3, 4] (fun nv iv wr => ∃ (i r m : Nat) (t : Int), i ≤ s.size ∧ iv = .int .i64 (i : Int) ∧ nv = .int .i64 t ∧ m ≤ 9 ∧ r < 4 ∧ 0 ≤ t ∧ Ta.scan (s.data.toList.drop i) r m t = some v ∧ w = wr) (fun _ iv _ => s.size - (intOf iv).toNat)
  case atStart => exact ⟨0, 0, 0, 0, by omega, rfl, rfl, by omega, by omega, by omega, HW0.out, rfl⟩
  case round =>
    obtain ⟨i, r, m, t, hi, rfl, rfl, hm9, hr4, ht0, hsc, rfl⟩ := hrel
    have HS := Lib.hid hsc
    clear hsc
    by_cases hlt : i < s.size
    · obtain ⟨b, hb⟩ : ∃ b, s[i] = b := ⟨_, rfl⟩
      have hb2 : s.data.toList[i]? = some b := by
        rw [List.getElem?_eq_getElem (by have := HLEN.out; omega), ← hb]; rfl
      have hsc := HS.out
      rw [drop_cell hb2] at hsc
      cases hk : Ta.rank b with
      | none => rw [Ta.scan_none hk] at hsc; cases hsc
      | some k =>
        by_cases h1 : k < r
        · rw [Ta.scan_back hk h1] at hsc; cases hsc
        by_cases h2 : 9 < (if k = r then m + 1 else 1)
        · rw [Ta.scan_many hk h1 h2] at hsc; cases hsc
        rw [Ta.scan_on hk h1 h2] at hsc
        have hwt := Ta.weight_bd k
        have hk4 := Ta.rank_lt hk
        have hbd := Ta.scan_bd _ _ _ _ _ hk4 (by omega) hsc
        have hv36 := (Ta.worth_bd HW0.out).2.2.1
        have hwr : IntKind.i64.wrap (t + Ta.weight k) = t + Ta.weight k := IntWalk.i64_in _ (by omega)
        have HU := Lib.hid (lw_some hk)
        have HBE := Lib.hid hb
        have HSC := Lib.hid (And.intro hsc (show (if k = r then m + 1 else 1) ≤ 9 by omega))
        clear hb hb2 hsc hk h1 h2 hbd
        go_wp2_with fail
        rw [HBE.out]
        refine (l6yWorth_is b _ HU.out _).mono ?_
        rintro e w' ⟨rfl, rfl⟩
        go_wp2_with fail
        exact ⟨⟨i + 1, k, _, t + Ta.weight k, by omega, by go_num, rfl, HSC.out.2, hk4, by omega, HSC.out.1, trivial⟩, by simp [intOf]; omega⟩
    · obtain rfl : i = s.size := by omega
      have hsc := HS.out
      rw [List.drop_eq_nil_of_le (by have := HLEN.out; omega)] at hsc
      have hv : t = v := by injection hsc
      clear hsc
      go_wp2
      go_ret
      exact ⟨ret_int hv, rfl⟩

theorem ret_str {a b : ByteArray} (h : a = b) : Ending.returned (.string a) = .returned (.string b) := by rw [h]
theorem many_step (a b q : Nat) : a + b * (2 * q + 1) = (a + b) + (b + b) * q := by rw [Nat.mul_add, Nat.add_mul, Nat.mul_left_comm]; omega
theorem many_step0 (a b q : Nat) : a + b * (2 * q) = a + (b + b) * q := by rw [Nat.add_mul, Nat.mul_left_comm]; omega
set_option maxHeartbeats 1000000 in
theorem l6Many_any (s : ByteArray) (c : UInt8) (n : Nat) (hs : s = ⟨#[c]⟩) (hn : n ≤ 9) (w : World) : Calls Tryz.prog 43 #[.string s, .int .i64 (n : Int)] w fun e w' => e = .returned (.string (txt (List.replicate n c))) ∧ w = w' := by
  have hs2 : s = txt (List.replicate 1 c) := hs
  clear hs
  subst hs2
  obtain ⟨R, hR⟩ : ∃ R, txt (List.replicate n c) = R := ⟨_, rfl⟩
  have HR := Lib.hid hR
  rw [hR]
  clear hR
  go_enter Tryz.func43, Tryz.ntmps43
  go_wp2_with fail
  go_loopw [0, 1, 5] (fun sv nv ov wr => ∃ (a b k : Nat), k ≤ 9 ∧ b ≤ 18 ∧ a + b * k = n ∧ sv = .string (txt (List.replicate b c)) ∧ nv = .int .i64 (k : Int) ∧ ov = .string (txt (List.replicate a c)) ∧ w = wr) (fun _ nv _ _ => (intOf nv).toNat)
  case atStart => exact ⟨0, 1, n, hn, by omega, by omega, rfl, rfl, rfl, rfl⟩
  case round =>
    obtain ⟨a, b, k, hk9, hb18, hab, rfl, rfl, rfl, rfl⟩ := hrel
    have HAB := Lib.hid hab
    clear hab
    by_cases hk : k = 0
    · subst hk
      have ha : a = n := by have := HAB.out; rw [Nat.mul_zero] at this; omega
      go_wp2
      go_ret
      exact ⟨ret_str (by rw [← HR.out, ← ha]), rfl⟩
    · obtain ⟨q, hq⟩ : ∃ q, k = 2 * q + 1 ∨ k = 2 * q := ⟨k / 2, by omega⟩
      have hpos : (k : Int) > 0 := by omega
      have hb9 : b ≤ 9 := by have := HAB.out; have := Nat.le_mul_of_pos_right b (show 0 < k by omega); omega
      have ha9 : a ≤ 9 := by have := HAB.out; omega
      have hwq : IntKind.i64.wrap (q : Int) = q := IntWalk.i64_in _ (by omega)
      have hwr := wrap64_nat (n := q) (by omega)
      have sa : (txt (List.replicate a c)).size = a := by rw [txt_size, List.length_replicate]
      have sb : (txt (List.replicate b c)).size = b := by rw [txt_size, List.length_replicate]
      have hdiv : ((k : Int)).tdiv 2 = (q : Int) := by rw [show (2 : Int) = ((2 : Nat) : Int) from rfl, tdiv_nat]; omega
      have hap : ∀ x y, txt (List.replicate x c) ++ txt (List.replicate y c) = txt (List.replicate (x + y) c) := fun x y => by rw [txt_append, List.replicate_append_replicate]
      rcases hq with hq | hq
      · have hmod : ((k : Int)).tmod 2 = 1 := by rw [show (2 : Int) = ((2 : Nat) : Int) from rfl, tmod_nat]; omega
        have HN := Lib.hid (show (a + b) + (b + b) * q = n by rw [← many_step, ← hq]; exact HAB.out)
        have HQ := Lib.hid hq
        clear hq
        go_wp2_with fail
        exact ⟨⟨a + b, b + b, q, by have := HQ.out; omega, by omega, HN.out, rfl, rfl, rfl, trivial⟩, by have := HQ.out; simp [intOf]; omega⟩
      · have hmod : ((k : Int)).tmod 2 = 0 := by rw [show (2 : Int) = ((2 : Nat) : Int) from rfl, tmod_nat]; omega
        have HN := Lib.hid (show a + (b + b) * q = n by rw [← many_step0, ← hq]; exact HAB.out)
        have HQ := Lib.hid hq
        clear hq
        go_wp2_with fail
        exact ⟨⟨a, b + b, q, by have := HQ.out; omega, by omega, HN.out, rfl, rfl, rfl, trivial⟩, by have := HQ.out; simp [intOf]; omega⟩
theorem l6Many_is (s : ByteArray) (c : UInt8) (n : Nat) (N : Int) (hN : N = (n : Int)) (hs : s = ⟨#[c]⟩) (hn : n ≤ 9) (r : ByteArray) (hr : txt (List.replicate n c) = r) (w : World) : Calls Tryz.prog 43 #[.string s, .int .i64 N] w fun e w' => e = .returned (.string r) ∧ w = w' := by
  subst hN
  subst hr
  exact l6Many_any s c n hs hn w
theorem specNotchesOf_no (v : Int) (h : v < 0 ∨ 9999 < v) (w : World) : Calls Tryz.prog 121 #[.int .i64 v] w fun e w' => e = .returned (.tuple #[.string ⟨#[]⟩, .bool false]) ∧ w = w' := by
  go_enter Tryz.func121, Tryz.ntmps121
  go_wp2_with fail
  refine (l6In_no h w).mono ?_
  rintro e w' ⟨rfl, rfl⟩
  go_wp2
  go_ret2
  exact ⟨rfl, rfl⟩
set_option maxHeartbeats 1000000 in
theorem specNotchesOf_yes (n : Nat) (hn : n ≤ 9999) (w : World) : Calls Tryz.prog 121 #[.int .i64 (n : Int)] w fun e w' => e = .returned (.tuple #[.string (txt (Ta.ntext n)), .bool true]) ∧ w = w' := by
  obtain ⟨a, ha⟩ : ∃ a, n / 1000 = a := ⟨_, rfl⟩
  obtain ⟨b', hb'⟩ : ∃ b', n / 100 = b' := ⟨_, rfl⟩
  obtain ⟨c', hc'⟩ : ∃ c', n / 10 = c' := ⟨_, rfl⟩
  obtain ⟨b, hb⟩ : ∃ b, b' % 10 = b := ⟨_, rfl⟩
  obtain ⟨c, hc⟩ : ∃ c, c' % 10 = c := ⟨_, rfl⟩
  obtain ⟨d, hd⟩ : ∃ d, n % 10 = d := ⟨_, rfl⟩
  have q1 : ((n : Nat) : Int).tdiv 1000 = (a : Int) := by rw [show (1000 : Int) = ((1000 : Nat) : Int) from rfl, tdiv_nat, ha]
  have q2 : ((n : Nat) : Int).tdiv 100 = (b' : Int) := by rw [show (100 : Int) = ((100 : Nat) : Int) from rfl, tdiv_nat, hb']
  have q3 : ((n : Nat) : Int).tdiv 10 = (c' : Int) := by rw [show (10 : Int) = ((10 : Nat) : Int) from rfl, tdiv_nat, hc']
  have r2 : ((b' : Nat) : Int).tmod 10 = (b : Int) := by rw [show (10 : Int) = ((10 : Nat) : Int) from rfl, tmod_nat, hb]
  have r3 : ((c' : Nat) : Int).tmod 10 = (c : Int) := by rw [show (10 : Int) = ((10 : Nat) : Int) from rfl, tmod_nat, hc]
  have r4 : ((n : Nat) : Int).tmod 10 = (d : Int) := by rw [show (10 : Int) = ((10 : Nat) : Int) from rfl, tmod_nat, hd]
  have a9 : a ≤ 9 := by omega
  have b9 : b ≤ 9 := by omega
  have c9 : c ≤ 9 := by omega
  have d9 : d ≤ 9 := by omega
  have w1 := wrap_nat (n := a) (by omega)
  have w2 := wrap_nat (n := b') (by omega)
  have w3 := wrap_nat (n := c') (by omega)
  have w4 := wrap_nat (n := b) (by omega)
  have w5 := wrap_nat (n := c) (by omega)
  have w6 := wrap_nat (n := d) (by omega)
  obtain ⟨A, hA⟩ : ∃ A, txt (List.replicate a 77) = A := ⟨_, rfl⟩
  obtain ⟨B, hB⟩ : ∃ B, txt (List.replicate b 67) = B := ⟨_, rfl⟩
  obtain ⟨C, hC⟩ : ∃ C, txt (List.replicate c 88) = C := ⟨_, rfl⟩
  obtain ⟨D, hD⟩ : ∃ D, txt (List.replicate d 73) = D := ⟨_, rfl⟩
  have HT := Lib.hid (show A ++ B ++ C ++ D = txt (Ta.ntext n) by
    rw [← hA, ← hB, ← hC, ← hD, Ta.ntext, Ta.notes, ha, hb', hc', hb, hc, hd, txt_append, txt_append, txt_append, List.append_assoc, List.append_assoc])
  have sA : A.size = a := by rw [← hA, txt_size, List.length_replicate]
  have sB : B.size = b := by rw [← hB, txt_size, List.length_replicate]
  have sC : C.size = c := by rw [← hC, txt_size, List.length_replicate]
  have sD : D.size = d := by rw [← hD, txt_size, List.length_replicate]
  have HA := Lib.hid (And.intro hA (And.intro hB (And.intro hC hD)))
  clear ha hb hb' hc hc' hd hA hB hC hD
  go_enter Tryz.func121, Tryz.ntmps121
  go_wp2_with fail
  refine (l6In_yes (by omega) (by omega) w).mono ?_
  rintro e w' ⟨rfl, rfl⟩
  go_wp2_with fail
  refine (l6Many_is _ 77 a _ rfl rfl a9 A HA.out.1 w).mono ?_
  rintro e w' ⟨rfl, rfl⟩
  go_wp2_with fail
  refine (l6Many_is _ 67 b _ rfl rfl b9 B HA.out.2.1 w).mono ?_
  rintro e w' ⟨rfl, rfl⟩
  go_wp2_with fail
  refine (l6Many_is _ 88 c _ rfl rfl c9 C HA.out.2.2.1 w).mono ?_
  rintro e w' ⟨rfl, rfl⟩
  go_wp2_with fail
  refine (l6Many_is _ 73 d _ rfl rfl d9 D HA.out.2.2.2 w).mono ?_
  rintro e w' ⟨rfl, rfl⟩
  go_wp2
  go_ret2
  refine ⟨?_, rfl⟩
  show Ending.returned (.tuple #[.string (A ++ B ++ C ++ D), .bool true]) = _
  rw [HT.out]
end Go.Proofs.YthdoofmfigemoaaGreatDoor
end

section
/-
  The reference's tallies: a new one, whether it matches, whether a list are tallies.
-/
namespace Go.Proofs.YthdoofmfigemoaaGreatDoor
open Go.RowKit
set_option linter.unusedSimpArgs false

theorem l6yTwo_any (a c : Int) (w : World) : Calls Tryz.prog 122 #[.int .i64 a, .int .i64 c] w fun e w' => e = .returned (.bool (twoB a c)) ∧ w = w' := by
  by_cases h1 : 0 ≤ a ∧ a ≤ 4
  · by_cases h2 : 0 ≤ c ∧ c ≤ 4
    · have HL1 := Lib.hid h1
      have HL2 := Lib.hid h2
      by_cases h3 : a = c
      · have hne : (a != c) = false := by simpa using h3
        have HT := Lib.hid (twoB_no (a := a) (c := c) (by unfold Two; omega))
        clear h1 h2 h3
        go_enter Tryz.func122, Tryz.ntmps122
        go_wp2_with fail
        refine (l6In_yes HL1.out.1 HL1.out.2 w).mono ?_
        rintro e w' ⟨rfl, rfl⟩
        go_wp2_with fail
        refine (l6In_yes HL2.out.1 HL2.out.2 w).mono ?_
        rintro e w' ⟨rfl, rfl⟩
        go_wp2
        go_ret
        exact ⟨ret_bool HT.out.symm, rfl⟩
      · have hne : (a != c) = true := by simpa using h3
        have HT := Lib.hid (twoB_yes (a := a) (c := c) (by unfold Two; omega))
        clear h1 h2 h3
        go_enter Tryz.func122, Tryz.ntmps122
        go_wp2_with fail
        refine (l6In_yes HL1.out.1 HL1.out.2 w).mono ?_
        rintro e w' ⟨rfl, rfl⟩
        go_wp2_with fail
        refine (l6In_yes HL2.out.1 HL2.out.2 w).mono ?_
        rintro e w' ⟨rfl, rfl⟩
        go_wp2
        go_ret
        exact ⟨ret_bool HT.out.symm, rfl⟩
    · have HL1 := Lib.hid h1
      have HL2 := Lib.hid (show c < 0 ∨ 4 < c by omega)
      have HT := Lib.hid (twoB_no (a := a) (c := c) (by unfold Two; omega))
      clear h1 h2
      go_enter Tryz.func122, Tryz.ntmps122
      go_wp2_with fail
      refine (l6In_yes HL1.out.1 HL1.out.2 w).mono ?_
      rintro e w' ⟨rfl, rfl⟩
      go_wp2_with fail
      refine (l6In_no HL2.out w).mono ?_
      rintro e w' ⟨rfl, rfl⟩
      go_wp2
      go_ret
      exact ⟨ret_bool HT.out.symm, rfl⟩
  · have HL1 := Lib.hid (show a < 0 ∨ 4 < a by omega)
    have HT := Lib.hid (twoB_no (a := a) (c := c) (by unfold Two; omega))
    clear h1
    go_enter Tryz.func122, Tryz.ntmps122
    go_wp2_with fail
    refine (l6In_no HL1.out w).mono ?_
    rintro e w' ⟨rfl, rfl⟩
    go_wp2
    go_ret
    exact ⟨ret_bool HT.out.symm, rfl⟩

set_option maxRecDepth 100000 in
set_option maxHeartbeats 4000000 in
theorem specTallyNew_any (a c v : Int) (w : World) : Calls Tryz.prog 86 #[.int .i64 a, .int .i64 c, .int .i64 v] w fun e w' =>
    ((DebtOk a c v ∧ e = .returned (.tuple #[(tallyOf a c v).val, .bool true])) ∨ (¬ DebtOk a c v ∧ e = .returned (.tuple #[noTl, .bool false]))) ∧ Below w.heap.size w w' := by
  obtain ⟨W, hW⟩ : ∃ W, w.alloc (.cells #[.int .i64 0, .int .i64 0, .string ⟨#[]⟩, .string ⟨#[]⟩] 52) = W := ⟨_, rfl⟩
  have hbt : Blk W w.heap.size #[.int .i64 0, .int .i64 0, .string ⟨#[]⟩, .string ⟨#[]⟩] 52 := by rw [← hW]; exact Blk.new _ _ _
  have HB := Lib.hid (show Below w.heap.size w W by rw [← hW]; exact (Below.refl _ _).alloc (Nat.le_refl _) _)
  have t0 : W.cell? ⟨w.heap.size, 0, none⟩ = some (.int .i64 0) := hbt.cell rfl
  have t1 : W.cell? ⟨w.heap.size, 1, none⟩ = some (.int .i64 0) := hbt.cell rfl
  have t2 : W.cell? ⟨w.heap.size, 2, none⟩ = some (.string ⟨#[]⟩) := hbt.cell rfl
  have t3 : W.cell? ⟨w.heap.size, 3, none⟩ = some (.string ⟨#[]⟩) := hbt.cell rfl
  have f0 := hbt.free 0
  have f1 := hbt.free 1
  have f2 := hbt.free 2
  have f3 := hbt.free 3
  have HT := Lib.hid hbt
  have HW := Lib.hid hW
  clear hW hbt
  by_cases hv : 0 ≤ v ∧ v ≤ 9999
  · obtain ⟨hv0, hv9⟩ := hv
    obtain ⟨n, rfl⟩ := Int.eq_ofNat_of_zero_le hv0
    have hn9 : n ≤ 9999 := by omega
    obtain ⟨u, hu⟩ : ∃ u, txt (Ta.ntext n) = u := ⟨_, rfl⟩
    have HU := Lib.hid hu
    go_enter Tryz.func86, Tryz.ntmps86
    go_wp2_with fail
    rw [HW.out]
    go_wp2_with fail
    refine (specNotchesOf_yes n hn9 W).mono ?_
    rintro e w1 ⟨rfl, rfl⟩
    rw [hu]
    clear hu
    go_wp2_with fail
    refine (l6yTwo_any a c _).mono ?_
    rintro e w1 ⟨rfl, rfl⟩
    by_cases h2 : Two a c
    · rw [twoB_yes h2]
      by_cases h0 : n = 0
      · subst h0
        have HN := Lib.hid (show ¬ DebtOk a c ((0 : Nat) : Int) by unfold DebtOk; omega)
        clear h2
        go_wp2_with fail
        have hf := HT.out.set4 (.int .i64 0) (.int .i64 0) (.string ⟨#[]⟩) (.string ⟨#[]⟩)
        have g0 := hf.cell (j := 0) rfl
        have g1 := hf.cell (j := 1) rfl
        have g2 := hf.cell (j := 2) rfl
        have g3 := hf.cell (j := 3) rfl
        exact bodyPost_ret (v := .tuple #[noTl, .bool false]) (by simp [results, Tryz.results86, go_sem, noTl, tallyOf, Tl.val, g0, g1, g2, g3]) rfl ⟨.inr ⟨HN.out, rfl⟩, below_set4 HB.out (by omega) _ _ _ _⟩
      · have HN := Lib.hid (show DebtOk a c (n : Int) from ⟨h2, by omega, by omega⟩)
        have hnz : ((n : Int) == 0) = false := by simp; omega
        clear h2
        go_wp2_with fail
        have hf := HT.out.set4 (.int .i64 a) (.int .i64 c) (.string u) (.string u)
        have g0 := hf.cell (j := 0) rfl
        have g1 := hf.cell (j := 1) rfl
        have g2 := hf.cell (j := 2) rfl
        have g3 := hf.cell (j := 3) rfl
        exact bodyPost_ret (v := .tuple #[(tallyOf a c n).val, .bool true]) (by simp [results, Tryz.results86, go_sem, tallyOf, Tl.val, HU.out, g0, g1, g2, g3]) rfl ⟨.inl ⟨HN.out, rfl⟩, below_set4 HB.out (by omega) _ _ _ _⟩
    · rw [twoB_no h2]
      have HN := Lib.hid (show ¬ DebtOk a c (n : Int) by unfold DebtOk; exact fun h => h2 h.1)
      clear h2
      go_wp2_with fail
      have hf := HT.out.set4 (.int .i64 0) (.int .i64 0) (.string ⟨#[]⟩) (.string ⟨#[]⟩)
      have g0 := hf.cell (j := 0) rfl
      have g1 := hf.cell (j := 1) rfl
      have g2 := hf.cell (j := 2) rfl
      have g3 := hf.cell (j := 3) rfl
      exact bodyPost_ret (v := .tuple #[noTl, .bool false]) (by simp [results, Tryz.results86, go_sem, noTl, tallyOf, Tl.val, g0, g1, g2, g3]) rfl ⟨.inr ⟨HN.out, rfl⟩, below_set4 HB.out (by omega) _ _ _ _⟩
  · have HN := Lib.hid (show ¬ DebtOk a c v by unfold DebtOk; omega)
    have hv2 : v < 0 ∨ 9999 < v := by omega
    have HV2 := Lib.hid hv2
    clear hv hv2
    go_enter Tryz.func86, Tryz.ntmps86
    go_wp2_with fail
    rw [HW.out]
    go_wp2_with fail
    refine (specNotchesOf_no v HV2.out W).mono ?_
    rintro e w1 ⟨rfl, rfl⟩
    go_wp2_with fail
    have hf := HT.out.set4 (.int .i64 0) (.int .i64 0) (.string ⟨#[]⟩) (.string ⟨#[]⟩)
    have g0 := hf.cell (j := 0) rfl
    have g1 := hf.cell (j := 1) rfl
    have g2 := hf.cell (j := 2) rfl
    have g3 := hf.cell (j := 3) rfl
    exact bodyPost_ret (v := .tuple #[noTl, .bool false]) (by simp [results, Tryz.results86, go_sem, noTl, tallyOf, Tl.val, g0, g1, g2, g3]) rfl ⟨.inr ⟨HN.out, rfl⟩, below_set4 HB.out (by omega) _ _ _ _⟩
set_option maxHeartbeats 2000000 in
theorem specTallyMatches_any (t : Tl) (w : World) (hs : t.s.size ≤ 1099511627776) : Calls Tryz.prog 149 #[t.val] w fun e w' => e = .returned (.bool (matchB t)) ∧ Below w.heap.size w w' := by
  obtain ⟨a, c, s, f⟩ := t
  show Calls Tryz.prog 149 #[.agg #[.int .i64 a, .int .i64 c, .string s, .string f]] w _
  have hs' : s.size ≤ 1099511627776 := hs
  obtain ⟨W, hW⟩ : ∃ W, w.alloc (.cells #[.int .i64 a, .int .i64 c, .string s, .string f] 52) = W := ⟨_, rfl⟩
  have k0 : W.cell? ⟨w.heap.size, 0, none⟩ = some (.int .i64 a) := by rw [← hW, cell_of_row _ w.heap.size 0 _ _ _ (heap_alloc_new w _)]; rfl
  have k1 : W.cell? ⟨w.heap.size, 1, none⟩ = some (.int .i64 c) := by rw [← hW, cell_of_row _ w.heap.size 1 _ _ _ (heap_alloc_new w _)]; rfl
  have k2 : W.cell? ⟨w.heap.size, 2, none⟩ = some (.string s) := by rw [← hW, cell_of_row _ w.heap.size 2 _ _ _ (heap_alloc_new w _)]; rfl
  have k3 : W.cell? ⟨w.heap.size, 3, none⟩ = some (.string f) := by rw [← hW, cell_of_row _ w.heap.size 3 _ _ _ (heap_alloc_new w _)]; rfl
  have hlt : w.heap.size < W.heap.size := by rw [← hW]; simp
  have HB := Lib.hid (show Below w.heap.size w W by rw [← hW]; exact (Below.refl _ _).alloc (Nat.le_refl _) _)
  have HW := Lib.hid hW
  clear hW
  go_enter Tryz.func149, Tryz.ntmps149
  go_wp2_with fail
  rw [HW.out]
  go_wp2_with fail
  refine (l6yTwo_any a c _).mono ?_
  rintro e w1 ⟨rfl, rfl⟩
  rcases h2 : twoB a c with _ | _
  · have HM := Lib.hid (show matchB ⟨a, c, s, f⟩ = false by simp [matchB, h2])
    clear h2
    go_wp2
    go_ret
    exact ⟨ret_bool HM.out.symm, HB.out⟩
  · have H2 := Lib.hid h2
    clear h2
    go_wp2_with fail
    refine (specNotchesValid_any s _ hs').mono ?_
    rintro e w2 ⟨rfl, hb2⟩
    have k21 := (hb2.cell (p := ⟨w.heap.size, 2, none⟩) hlt).trans k2
    have k31 := (hb2.cell (p := ⟨w.heap.size, 3, none⟩) hlt).trans k3
    have HB2 := Lib.hid (HB.out.trans (hb2.mono HB.out.size))
    clear hb2 k0 k1 k2 k3
    rcases hv : validB s with _ | _
    · have HM := Lib.hid (show matchB ⟨a, c, s, f⟩ = false by simp [matchB, hv])
      clear hv
      go_wp2
      go_ret
      exact ⟨ret_bool HM.out.symm, HB2.out⟩
    · have HM := Lib.hid (show matchB ⟨a, c, s, f⟩ = decide (s = f) by simp [matchB, H2.out, hv])
      clear hv
      go_wp2
      go_ret
      exact ⟨ret_bool ((str_eq s f).trans HM.out.symm), HB2.out⟩
theorem okB_iff {t : Tl} : okB t = true ↔ matchB t = true ∧ t.s ≠ ⟨#[]⟩ := by
  unfold okB
  simp only [Bool.and_eq_true, decide_eq_true_eq]
  constructor
  · rintro ⟨h1, h2⟩
    refine ⟨h1, fun e => ?_⟩
    rw [e] at h2
    exact absurd h2 (by decide)
  · rintro ⟨h1, h2⟩
    refine ⟨h1, ?_⟩
    have hv : validB t.s = true := by
      unfold matchB at h1
      simp only [Bool.and_eq_true] at h1
      exact h1.2.1
    have hw := worth_of hv
    obtain ⟨_, b1, b2, b3⟩ := Ta.worth_bd hw
    by_cases h0 : worthB t.s = 0
    · exact absurd (by have := b3 h0; rw [← txt_eta t.s, this]; rfl) h2
    · omega
end Go.Proofs.YthdoofmfigemoaaGreatDoor
end

section
/-
  What settled debts come to. No walk in sight.
-/
namespace Go.Proofs.YthdoofmfigemoaaGreatDoor
open Go.RowKit

theorem worthB_txt {n : Nat} (h : n ≤ 9999) : worthB (txt (Ta.ntext n)) = (n : Int) := by unfold worthB; rw [txt_list, Ta.worth_ntext h]; rfl
theorem validB_txt {n : Nat} (h : n ≤ 9999) : validB (txt (Ta.ntext n)) = true := by unfold validB; rw [txt_list, Ta.worth_ntext h]; rfl
theorem tallyOf_ok {a c v : Int} (h : DebtOk a c v) : okB (tallyOf a c v) = true ∧ debtOf (tallyOf a c v) = ⟨a, c, v⟩ := by
  obtain ⟨h1, h2, h3⟩ := h
  obtain ⟨n, rfl⟩ := Int.eq_ofNat_of_zero_le (show 0 ≤ v by omega)
  have hw := worthB_txt (n := n) (by omega)
  have hv := validB_txt (n := n) (by omega)
  refine ⟨?_, ?_⟩
  · simp only [okB, matchB, tallyOf, Int.toNat_natCast, hw, hv, twoB_yes h1, Bool.true_and, Bool.and_true, decide_true, decide_eq_true_eq]
    exact h2
  · simp only [debtOf, tallyOf, Int.toNat_natCast, hw]
def payD (t : Nat × Nat × Int) : Db := ⟨(t.1 : Int), (t.2.1 : Int), t.2.2⟩
/-- debts as payments -/
theorem bal_eff : ∀ (out : List (Nat × Nat × Int)) (b : List Int), b.length = 5 → (∀ t ∈ out, t.1 < 5 ∧ t.2.1 < 5) → ∀ p, p < 5 → ((out.map payD).foldl upd b).getD p 0 = b.getD p 0 + Ta.eff out p
  | [], b, _, _, p, _ => by simp [Ta.eff]
  | (l, h, n) :: r, b, hl, hs, p, hp => by
    obtain ⟨h1, h2⟩ := hs (l, h, n) List.mem_cons_self
    have ih := bal_eff r (upd b (payD (l, h, n))) (by rw [upd_length, hl]) (fun t ht => hs t (List.mem_cons_of_mem _ ht)) p hp
    rw [List.map_cons, List.foldl_cons, ih]
    simp only at h1 h2
    have e : (upd b (payD (l, h, n))).getD p 0 = b.getD p 0 + ((if p = h then n else 0) - (if p = l then n else 0)) := by
      simp only [upd, payD, Int.toNat_natCast]
      rw [Ta.getD_set _ _ _ _ (by rw [List.length_set, hl]; omega), Ta.getD_set _ _ _ _ (by omega), Ta.getD_set _ _ _ _ (by omega)]
      by_cases e1 : p = h
      · subst e1
        rw [if_pos rfl, if_pos rfl]
        by_cases e2 : p = l
        · subst e2; rw [if_pos rfl, if_pos rfl]; omega
        · rw [if_neg e2, if_neg e2]; omega
      · rw [if_neg e1, if_neg e1]
        by_cases e2 : p = l
        · subst e2; rw [if_pos rfl, if_pos rfl]; omega
        · rw [if_neg e2, if_neg e2]; omega
    rw [e]
    simp only [Ta.eff]
    omega
theorem total_all : ∀ (out : List (Nat × Nat × Int)) (a : Int), (out.map payD).foldl (fun a d => a + d.v) a = a + Ta.all out
  | [], a => by simp [Ta.all]
  | (l, h, n) :: r, a => by
    rw [List.map_cons, List.foldl_cons, total_all r]
    simp only [payD, Ta.all]
    omega
theorem pos_upd {b : List Int} {d : Db} (hl : b.length = 5) (ht : Two d.a d.c) (hv : 0 ≤ d.v) : Ta.pos (upd b d) ≤ Ta.pos b + d.v := by
  obtain ⟨t0, t1, t2, t3, t4⟩ := ht
  unfold Ta.pos upd
  rw [Ta.tot_set _ _ _ _ (by rw [List.length_set, hl]; omega), Ta.tot_set _ _ _ _ (by omega)]
  omega
theorem pos_total : ∀ (ds : List Db) (b : List Int) (a : Int), b.length = 5 → (∀ d ∈ ds, Two d.a d.c ∧ 0 ≤ d.v ∧ d.v ≤ 36000) → Ta.pos b ≤ a → Ta.pos (ds.foldl upd b) ≤ ds.foldl (fun a d => a + d.v) a
  | [], _, _, _, _, h => h
  | d :: ds, b, a, hl, hs, h => by
    obtain ⟨h1, h2, h3⟩ := hs d List.mem_cons_self
    rw [List.foldl_cons, List.foldl_cons]
    exact pos_total ds _ _ (by rw [upd_length, hl]) (fun x hx => hs x (List.mem_cons_of_mem _ hx)) (by have := pos_upd hl h1 h2; omega)
theorem ext5 {b c : List Int} (hb : b.length = 5) (hc : c.length = 5) (h : ∀ p, p < 5 → b.getD p 0 = c.getD p 0) : b = c := by
  obtain ⟨a0, a1, a2, a3, a4, rfl⟩ := Ta.five hb
  obtain ⟨c0, c1, c2, c3, c4, rfl⟩ := Ta.five hc
  obtain rfl : a0 = c0 := h 0 (by omega)
  obtain rfl : a1 = c1 := h 1 (by omega)
  obtain rfl : a2 = c2 := h 2 (by omega)
  obtain rfl : a3 = c3 := h 3 (by omega)
  obtain rfl : a4 = c4 := h 4 (by omega)
  rfl
/-- all that the laws say of settled debts -/
structure Settled (ts : List Tl) (out : List (Nat × Nat × Int)) : Prop where
  ok : okL (out.map payT) = true
  bal : bal ((out.map payT).map debtOf) = Go.Proofs.YthdoofmfigemoaaGreatDoor.bal (ts.map debtOf)
  total : total ((out.map payT).map debtOf) = Ta.pos (Go.Proofs.YthdoofmfigemoaaGreatDoor.bal (ts.map debtOf))
  less : Ta.pos (Go.Proofs.YthdoofmfigemoaaGreatDoor.bal (ts.map debtOf)) ≤ Go.Proofs.YthdoofmfigemoaaGreatDoor.total (ts.map debtOf)
  apart : ∀ t ∈ out, ∀ u ∈ out, t.1 ≠ u.2.1
  few : out.length < 5
theorem settled {ts : List Tl} {out : List (Nat × Nat × Int)} (hok : okL ts = true) (h : Ta.settle 5 (bal (ts.map debtOf)) = some out) : Settled ts out := by
  have hF := fair_of hok
  obtain ⟨hbal, hbd⟩ := bal_ok hF
  have hbl := bal_length (ts.map debtOf)
  have hnz := Ta.nz_le (bal (ts.map debtOf))
  obtain ⟨s1, s2, s3, s4⟩ := Ta.settle_spec 5 _ hbal (by omega) out h
  have hlen : out.length < 5 := by
    rcases s4 with s4 | rfl
    · omega
    · simp
  have hD : (out.map payT).map debtOf = out.map payD := by
    rw [List.map_map]
    refine List.map_congr_left fun t ht => ?_
    obtain ⟨a1, a2, a3, a4, a5, _, _⟩ := s1 t ht
    exact (tallyOf_ok ⟨⟨by omega, by omega, by omega, by omega, by omega⟩, a4, a5⟩).2
  have h0 : Ta.pos [0, 0, 0, 0, 0] = 0 := rfl
  refine ⟨?_, ?_, ?_, ?_, fun t ht u hu e => ?_, hlen⟩
  · simp only [okL, Bool.and_eq_true, decide_eq_true_eq, List.all_eq_true, List.length_map]
    refine ⟨by omega, fun x hx => ?_⟩
    obtain ⟨t, ht, rfl⟩ := List.mem_map.1 hx
    obtain ⟨a1, a2, a3, a4, a5, _, _⟩ := s1 t ht
    exact (tallyOf_ok ⟨⟨by omega, by omega, by omega, by omega, by omega⟩, a4, a5⟩).1
  · rw [hD]
    refine ext5 (bal_length _) hbl fun p hp => ?_
    have := bal_eff out [0, 0, 0, 0, 0] rfl (fun t ht => ⟨(s1 t ht).1, (s1 t ht).2.1⟩) p hp
    rw [Go.Proofs.YthdoofmfigemoaaGreatDoor.bal, this, s2 p hp]
    have : ([0, 0, 0, 0, 0] : List Int).getD p 0 = 0 := by
      match p, hp with
      | 0, _ => rfl
      | 1, _ => rfl
      | 2, _ => rfl
      | 3, _ => rfl
      | 4, _ => rfl
    omega
  · rw [hD, Go.Proofs.YthdoofmfigemoaaGreatDoor.total, total_all, s3]; omega
  · exact pos_total _ _ 0 rfl hF.2 (by rw [h0]; omega)
  · have := (s1 t ht).2.2.2.2.2.1
    have := (s1 u hu).2.2.2.2.2.2
    rw [e] at *
    omega
/-- settled debts stay as they are -/
theorem settled_again {ts : List Tl} {out : List (Nat × Nat × Int)} (hok : okL ts = true) (h : Ta.settle 5 (bal (ts.map debtOf)) = some out) : Ta.settle 5 (bal ((out.map payT).map debtOf)) = some out := by rw [(settled hok h).bal]; exact h
end Go.Proofs.YthdoofmfigemoaaGreatDoor
end

section
/-
  Debts told, settled, and told again.
-/
namespace Go.Proofs.YthdoofmfigemoaaGreatDoor
open Go.RowKit
set_option linter.unusedSimpArgs false
set_option maxRecDepth 100000

def belowW (k : Nat) : Int := if k = 0 then 111 else if k = 1 then 11 else if k = 2 then 1 else 0
theorem scan_cap : ∀ (s : List UInt8) (r m : Nat) (t v : Int), r < 4 → m ≤ 9 → Ta.scan s r m t = some v → v ≤ t + (9 - (m : Int)) * Ta.weight r + 9 * belowW r
  | [], r, m, t, v, hr, hm, h => by
    simp [Ta.scan] at h
    subst h
    have h1 := Ta.weight_bd r
    have h2 : 0 ≤ (9 - (m : Int)) * Ta.weight r := Int.mul_nonneg (by omega) (by omega)
    have h3 : 0 ≤ belowW r := by unfold belowW; repeat' split <;> omega
    omega
  | c :: cs, r, m, t, v, hr, hm, h => by
    cases hk : Ta.rank c with
    | none => rw [Ta.scan_none hk] at h; cases h
    | some k =>
      by_cases h1 : k < r
      · rw [Ta.scan_back hk h1] at h; cases h
      · by_cases h2 : 9 < (if k = r then m + 1 else 1)
        · rw [Ta.scan_many hk h1 h2] at h; cases h
        · rw [Ta.scan_on hk h1 h2] at h
          have hk4 := Ta.rank_lt hk
          have ih := scan_cap cs k _ _ v hk4 (by omega) h
          by_cases e : k = r
          · subst e
            rw [if_pos rfl] at ih h2
            have e2 : ((m + 1 : Nat) : Int) = (m : Int) + 1 := by omega
            rw [e2] at ih
            have e3 : (9 - ((m : Int) + 1)) * Ta.weight k = (9 - (m : Int)) * Ta.weight k - Ta.weight k := by
              rw [show 9 - ((m : Int) + 1) = (9 - (m : Int)) - 1 by omega, Int.sub_mul, Int.one_mul]
            omega
          · rw [if_neg e] at ih
            have h3 : 0 ≤ (9 - (m : Int)) * Ta.weight r := Int.mul_nonneg (by omega) (by have := Ta.weight_bd r; omega)
            have h4 : 9 * Ta.weight k + 9 * belowW k ≤ 9 * belowW r := by
              have hr4 : r = 0 ∨ r = 1 ∨ r = 2 ∨ r = 3 := by omega
              have hk5 : k = 0 ∨ k = 1 ∨ k = 2 ∨ k = 3 := by omega
              rcases hr4 with rfl | rfl | rfl | rfl <;> rcases hk5 with rfl | rfl | rfl | rfl <;> first | (exfalso; omega) | decide
            have e5 : (9 - ((1 : Nat) : Int)) * Ta.weight k = 8 * Ta.weight k := by rfl
            rw [e5] at ih
            omega
theorem worthB_cap (s : ByteArray) : worthB s ≤ 9999 := by
  unfold worthB
  cases h : Ta.worth s.data.toList with
  | none => simp
  | some v =>
    have := scan_cap _ 0 0 0 v (by omega) (by omega) h
    simp [Ta.weight, belowW] at this ⊢
    omega
/-- a tally made anew of its debt -/
def norm (t : Tl) : Tl := tallyOf t.a t.c (worthB t.s)
theorem ok_debt {t : Tl} (h : okB t = true) : DebtOk t.a t.c (worthB t.s) := by
  simp only [okB, matchB, Bool.and_eq_true, decide_eq_true_eq, twoB] at h
  exact ⟨h.1.1, h.2, worthB_cap _⟩
theorem ok_told {t : Tl} (h : okB t = true) : Told t := by
  have h2 := ok_debt h
  simp only [okB, matchB, Bool.and_eq_true, decide_eq_true_eq, twoB] at h
  have h3 := valid_size h.1.2.1
  obtain ⟨⟨a0, a1, c0, c1, _⟩, _⟩ := h2
  exact ⟨a0, by omega, c0, by omega, h3⟩
def wOwe : List UInt8 := [111, 119, 101]
def wSettle : List UInt8 := [115, 101, 116, 116, 108, 101]
def wTallies : List UInt8 := [116, 97, 108, 108, 105, 101, 115]
def oweLine (t : Tl) : List UInt8 := wOwe ++ 32 :: (Lib.itoa t.a ++ 32 :: (Lib.itoa t.c ++ 32 :: Lib.itoa (worthB t.s)))
def oweText (ts : List Tl) : List UInt8 := ts.flatMap fun t => oweLine t ++ [10]
theorem oweLine_nl {t : Tl} (h : okB t = true) : (10 : UInt8) ∉ oweLine t := by
  obtain ⟨⟨a0, _, c0, _, _⟩, v0, _⟩ := ok_debt h
  intro hm
  unfold oweLine at hm
  rcases List.mem_append.1 hm with hm | hm
  · exact absurd hm (by decide)
  rcases List.mem_cons.1 hm with hm | hm
  · cases hm
  rcases List.mem_append.1 hm with hm | hm
  · exact itoa_free (by decide) a0 hm
  rcases List.mem_cons.1 hm with hm | hm
  · cases hm
  rcases List.mem_append.1 hm with hm | hm
  · exact itoa_free (by decide) c0 hm
  rcases List.mem_cons.1 hm with hm | hm
  · cases hm
  · exact itoa_free (by decide) (by omega) hm
theorem oweLine_len {t : Tl} (h : okB t = true) : (oweLine t).length ≤ 24 := by
  obtain ⟨⟨a0, a1, c0, c1, _⟩, v0, v1⟩ := ok_debt h
  have e1 := itoa_size t.a a0 (by omega)
  have e2 := itoa_size t.c c0 (by omega)
  have e3 := itoa_size (worthB t.s) (by omega) (by omega)
  simp [oweLine, wOwe]
  omega
theorem cut_owes : ∀ (ts : List Tl) (rest : List UInt8), (∀ t ∈ ts, okB t = true) → cut 10 (oweText ts ++ rest) = ts.map oweLine ++ cut 10 rest
  | [], rest, _ => rfl
  | t :: ts, rest, h => by
    have ih := cut_owes ts rest (fun u hu => h u (List.mem_cons_of_mem _ hu))
    have e : oweText (t :: ts) ++ rest = oweLine t ++ 10 :: (oweText ts ++ rest) := by simp [oweText]
    rw [e, cut_at 10 _ _ (oweLine_nl (h t List.mem_cons_self)), ih]
    rfl
def okL3 : List UInt8 := [111, 107, 10]
def oks (n : Nat) : List UInt8 := (List.replicate n okL3).flatten
theorem runs_owes (bds ds : List Int) : ∀ (ts pre : List Tl), (∀ t ∈ ts, okB t = true) → pre.length + ts.length ≤ 12 → Runs (ts.map oweLine) ⟨bds, ds, pre⟩ (oks ts.length) ⟨bds, ds, pre ++ ts.map norm⟩
  | [], pre, _, _ => by simpa [oks] using Runs.nil (⟨bds, ds, pre⟩ : St)
  | t :: ts, pre, h, hl => by
    have ht := h t List.mem_cons_self
    obtain ⟨⟨a0, a1, c0, c1, hne⟩, v0, v1⟩ := id (ok_debt ht)
    have hyes : oweOk pre t.a t.c (worthB t.s) = true := by
      simp only [List.length_cons] at hl
      simp only [oweOk, decide_eq_true (ok_debt ht), Bool.true_and, decide_eq_true_eq]
      omega
    have hc := does_owe ⟨bds, ds, pre⟩ t.a t.c (worthB t.s)
    simp only [hyes, if_true] at hc
    have l1 : LineDoes (oweLine t) ⟨bds, ds, pre⟩ okT ⟨bds, ds, pre ++ [norm t]⟩ :=
      line_does (by have := oweLine_len ht; omega) (good3 (k := wOwe) (by decide) (by rfl) a0 (by omega) c0 (by omega) (by omega) (by omega)) (by decide) hc
    have ih := runs_owes bds ds ts (pre ++ [norm t]) (fun u hu => h u (List.mem_cons_of_mem _ hu)) (by simp only [List.length_cons] at hl; simp; omega)
    have r := Runs.cons l1 ih
    have e1 : okT.data.toList ++ oks ts.length = oks (t :: ts).length := by show okL3 ++ oks ts.length = _; simp [oks, List.replicate_succ]
    have e2 : pre ++ [norm t] ++ ts.map norm = pre ++ (t :: ts).map norm := by simp
    rw [e1, e2] at r
    exact r
theorem norm_ok {ts : List Tl} (h : okL ts = true) : okL (ts.map norm) = true ∧ (ts.map norm).map debtOf = ts.map debtOf := by
  simp only [okL, Bool.and_eq_true, decide_eq_true_eq, List.all_eq_true] at h ⊢
  refine ⟨⟨by simpa using h.1, fun u hu => ?_⟩, ?_⟩
  · obtain ⟨t, ht, rfl⟩ := List.mem_map.1 hu
    exact (tallyOf_ok (ok_debt (h.2 t ht))).1
  · rw [List.map_map]
    exact List.map_congr_left fun t ht => (tallyOf_ok (ok_debt (h.2 t ht))).2
theorem Runs.app {ls ls2 : List (List UInt8)} {s s1 s2 : St} {o o2 : List UInt8} (h : Runs ls s o s1) (k : Runs ls2 s1 o2 s2) : Runs (ls ++ ls2) s (o ++ o2) s2 := by
  induction h with
  | nil s => exact k
  | cons hd _ ih =>
    rw [List.append_assoc]
    exact Runs.cons hd (ih k)
def tailS : List UInt8 := wSettle ++ 10 :: (wTallies ++ [10])
def outSettle (n : Nat) (us : List Tl) : List UInt8 := oks n ++ (okL3 ++ tlText us)
theorem Execute_settle (ts : List Tl) (out : List (Nat × Nat × Int)) (hok : okL ts = true) (hset : Ta.settle 5 (bal (ts.map debtOf)) = some out) (h7 : ts.length ≤ 7) (w : World) (hm : Max w) (hpw : Pow w.heap.size w) {s : ByteArray} (hs : s = bs (oweText ts ++ tailS)) :
    Calls Tryz.prog 13 #[.string s] w fun e w' => e = .returned (.string (bs (outSettle ts.length (out.map payT) ++ endL 0 (out.length : Int)))) ∧ Below w.heap.size w w' := by
  subst hs
  have hall : ∀ t ∈ ts, okB t = true := by
    simp only [okL, Bool.and_eq_true, List.all_eq_true] at hok
    exact hok.2
  have hsd := settled hok hset
  obtain ⟨n1, n2⟩ := norm_ok hok
  have hus : okL (out.map payT) = true := hsd.ok
  have huall : ∀ t ∈ out.map payT, Told t := by
    simp only [okL, Bool.and_eq_true, List.all_eq_true] at hus
    exact fun t ht => ok_told (hus.2 t ht)
  have hfew := hsd.few
  have hlen : (oweText ts).length ≤ 25 * ts.length := by
    clear hok hset h7 hsd n1 n2
    induction ts with
    | nil => simp [oweText]
    | cons t ts ih =>
      have h1 := oweLine_len (hall t List.mem_cons_self)
      have h2 := ih (fun u hu => hall u (List.mem_cons_of_mem _ hu))
      simp only [oweText, List.flatMap_cons, List.length_append, List.length_cons, List.length_nil] at h2 ⊢
      omega
  have hsz : (bs (oweText ts ++ tailS)).size ≤ 400 := by
    have e : (bs (oweText ts ++ tailS)).size = (oweText ts ++ tailS).length := by show (oweText ts ++ tailS).toArray.size = _; simp
    have e2 : tailS.length = 15 := by decide
    rw [e, List.length_append, e2]
    omega
  have hcut : cut 10 (oweText ts ++ tailS) = (ts.map oweLine ++ [wSettle, wTallies]) ++ [[]] := by
    rw [cut_owes ts _ hall, List.append_assoc]
    congr 1
  have r1 := runs_owes St.start.bs St.start.ds ts [] hall (by simp; omega)
  have hc := does_settle ⟨St.start.bs, St.start.ds, ts.map norm⟩ (fun t ht => by
    obtain ⟨u, hu, rfl⟩ := List.mem_map.1 ht
    have := (tallyOf_ok (ok_debt (hall u hu))).1
    have h1 := ok_told this
    have h2 : (norm u).f.size ≤ 36 := h1.2.2.2.2
    exact ⟨by have := h1.2.2.2.2; show (norm u).s.size ≤ _; have h3 : (norm u).s.size ≤ 36 := h1.2.2.2.2; omega, by omega⟩)
  have hR : settleOf (ts.map norm) = some (out.map payT) := settleOf_yes n1 (by rw [n2]; exact hset)
  simp only [hR, Option.isSome_some, if_true, Option.getD_some] at hc
  have l2 : LineDoes wSettle ⟨St.start.bs, St.start.ds, ts.map norm⟩ okT ⟨St.start.bs, St.start.ds, out.map payT⟩ := line_does (by decide) (good0 (k := wSettle) (by decide) (by rfl)) (by decide) hc
  have l3 : LineDoes wTallies ⟨St.start.bs, St.start.ds, out.map payT⟩ (bs (tlText (out.map payT))) ⟨St.start.bs, St.start.ds, out.map payT⟩ :=
    line_does (by decide) (good0 (k := wTallies) (by decide) (by rfl)) (by decide) (does_tallies ⟨St.start.bs, St.start.ds, out.map payT⟩ (by simp; omega) huall)
  have r2 := Runs.cons l2 (Runs.cons l3 (Runs.nil _))
  have r := Runs.app r1 r2
  have e1 : okT.data.toList = okL3 := rfl
  rw [e1, bs_list, List.append_nil] at r
  have hol : (outSettle ts.length (out.map payT)).length ≤ 100000 := by
    have h1 := tlText_len huall
    have h2 : (oks ts.length).length = 3 * ts.length := by simp [oks, okL3, List.length_flatten, Nat.mul_comm]
    simp only [outSettle, List.length_append, List.length_map] at h1 ⊢
    have : okL3.length = 3 := rfl
    omega
  have hx := Execute_any (bs (oweText ts ++ tailS)) _ ⟨St.start.bs, St.start.ds, out.map payT⟩ (outSettle ts.length (out.map payT)) w hsz (by rw [bs_list]; exact hcut) r hm hpw hol (by show _ ≤ bVal St.start.bs ∧ bVal St.start.bs ≤ _; decide)
  have e : endL (bVal St.start.bs) ((out.map payT).length : Int) = endL 0 (out.length : Int) := by rw [List.length_map]; rfl
  simp only [e] at hx
  exact hx
end Go.Proofs.YthdoofmfigemoaaGreatDoor
end

section
/-
  The law's sameTallies.
-/
namespace Go.Proofs.YthdoofmfigemoaaGreatDoor
open Go.RowKit
set_option linter.unusedSimpArgs false

noncomputable def sameT (ts us : List Tl) : Bool := @decide (ts = us) (Classical.propDecidable _)
theorem sameT_yes {ts us : List Tl} (h : ts = us) : sameT ts us = true := by unfold sameT; exact @decide_eq_true _ (Classical.propDecidable _) h
theorem sameT_no {ts us : List Tl} (h : ts ≠ us) : sameT ts us = false := by unfold sameT; exact @decide_eq_false _ (Classical.propDecidable _) h
theorem sameT_iff {ts us : List Tl} : sameT ts us = true ↔ ts = us := ⟨fun h => (by
  by_cases e : ts = us
  · exact e
  · rw [sameT_no e] at h; cases h), sameT_yes⟩
theorem at_neT {ts us : List Tl} {k : Nat} {t u : Tl} (h1 : ts[k]? = some t) (h2 : us[k]? = some u) (h : t ≠ u) : sameT ts us = false := sameT_no (fun e => h (by rw [e, h2] at h1; injection h1 with h1; exact h1.symm))
theorem str_eqB {a b : ByteArray} (h : a = b) : (a.toList == b.toList) = true := by subst h; simp
theorem str_neB {a b : ByteArray} (h : a ≠ b) : (a.toList == b.toList) = false := by rw [str_eq]; exact decide_eq_false h
set_option maxRecDepth 100000 in
set_option maxHeartbeats 2000000 in
theorem sameTallies_any (A A2 : Option Addr) (n m c c2 : Nat) (ts us : List Tl) (w : World) (h1 : Tals w w.heap.size A n ts) (h2 : Tals w w.heap.size A2 m us) : Calls Tryz.prog 38 #[.slice A n c, .slice A2 m c2] w fun e w' => e = .returned (.bool (sameT ts us)) ∧ Below w.heap.size w w' := by
  have l1 := h1.len
  have l2 := h2.len
  have hn40 := h1.2.1
  have H1 := Lib.hid h1
  have H2 := Lib.hid h2
  have L1 := Lib.hid l1
  have L2 := Lib.hid l2
  clear h1 h2 l1 l2
  by_cases hnm : n = m
  rotate_left
  · have hne : ((n : Int) != (m : Int)) = true := by simp; omega
    have hno : sameT ts us = false := sameT_no (fun e => hnm (by rw [← L1.out, ← L2.out, e]))
    have HNO := Lib.hid hno
    clear hno
    go_enter Tryz.func38, Tryz.ntmps38
    go_wp2
    go_ret
    exact ⟨ret_bool HNO.out.symm, Below.refl _ _⟩
  subst hnm
  have hne : ((n : Int) != (n : Int)) = false := by simp
  go_enter Tryz.func38, Tryz.ntmps38
  go_wp2_with fail
  go_loopw [5] (fun iv wr => ∃ (k q : Nat), k ≤ n ∧ iv = .int .i64 (k : Int) ∧ wr = w.drewN q ∧ ts.take k = us.take k) (fun iv _ => n - (intOf iv).toNat)
  case atStart => exact ⟨0, 0, by omega, rfl, rfl, by simp⟩
  case round =>
    obtain ⟨k, q, hk, rfl, hwr, heq⟩ := hrel
    have HWR := Lib.hid hwr
    have HEQ := Lib.hid heq
    clear hwr heq
    by_cases hlt : k < n
    · obtain ⟨b, off, t, rfl, hlb, ht, k0, k1, k2, k3⟩ := Tals.at_ (show Tals wr w.heap.size A n ts from by rw [HWR.out]; exact H1.out) hlt
      obtain ⟨b', off', t', rfl, hlb', ht', j0, j1, j2, j3⟩ := Tals.at_ (show Tals wr w.heap.size A2 n us from by rw [HWR.out]; exact H2.out) hlt
      have HT := Lib.hid (And.intro ht ht')
      obtain ⟨a, cc, s, f⟩ := t
      obtain ⟨a', cc', s', f'⟩ := t'
      simp only at k0 k1 k2 k3 j0 j1 j2 j3
      clear ht ht'
      by_cases h1 : a = a'
      rotate_left
      · have HNO := Lib.hid (at_neT HT.out.1 HT.out.2 (fun e => h1 (by injection e)))
        have hb1 : (a == a') = false := by simpa using h1
        clear h1
        go_wp2_with fail
        go_quiet (fail)
        go_wp2
        go_ret
        exact ⟨ret_bool HNO.out.symm, by rw [HWR.out]; exact below_drewN (below_drewN (Below.refl _ _) _) _⟩
      subst h1
      by_cases h2 : cc = cc'
      rotate_left
      · have HNO := Lib.hid (at_neT HT.out.1 HT.out.2 (fun e => h2 (by injection e)))
        have hb2 : (cc == cc') = false := by simpa using h2
        clear h2
        go_wp2_with fail
        go_quiet (fail)
        go_wp2
        go_ret
        exact ⟨ret_bool HNO.out.symm, by rw [HWR.out]; exact below_drewN (below_drewN (Below.refl _ _) _) _⟩
      subst h2
      by_cases h3 : s = s'
      rotate_left
      · have HNO := Lib.hid (at_neT HT.out.1 HT.out.2 (fun e => h3 (by injection e)))
        have hb3 : (s.toList == s'.toList) = false := str_neB h3
        clear h3
        go_wp2_with fail
        go_quiet (fail)
        go_wp2
        go_ret
        exact ⟨ret_bool HNO.out.symm, by rw [HWR.out]; exact below_drewN (below_drewN (Below.refl _ _) _) _⟩
      subst h3
      by_cases h4 : f = f'
      rotate_left
      · have HNO := Lib.hid (at_neT HT.out.1 HT.out.2 (fun e => h4 (by injection e)))
        have hb4 : (f.toList == f'.toList) = false := str_neB h4
        clear h4
        go_wp2_with fail
        go_quiet (fail)
        go_wp2
        go_ret
        exact ⟨ret_bool HNO.out.symm, by rw [HWR.out]; exact below_drewN (below_drewN (Below.refl _ _) _) _⟩
      subst h4
      go_wp2_with fail
      go_quiet (fail)
      go_wp2_with fail
      exact ⟨⟨k + 1, _, by omega, by go_num, by rw [HWR.out]; simp only [World.drewN_drewN]; exact rfl, by rw [take_next HT.out.1, take_next HT.out.2, HEQ.out]⟩, by simp [intOf]; omega⟩
    · obtain rfl : k = n := by omega
      have hy : sameT ts us = true := sameT_yes (by
        have := HEQ.out
        rwa [List.take_of_length_le (by have := L1.out; omega), List.take_of_length_le (by have := L2.out; omega)] at this)
      have HY := Lib.hid hy
      clear hy
      go_wp2
      go_ret
      exact ⟨ret_bool HY.out.symm, by rw [HWR.out]; exact below_drewN (Below.refl _ _) _⟩
end Go.Proofs.YthdoofmfigemoaaGreatDoor
end

section
/-
  A code is opened: a reader in a new block.
-/
namespace Go.Proofs.YthdoofmfigemoaaGreatDoor
open Go.RowKit

/-- a slice of bytes that can be read; its cells lie below block B -/
def Bytes (w : World) (B : Nat) (A : Option Addr) (n c : Nat) : Prop :=
  n ≤ c ∧ (0 < n → ∃ b off, A = some ⟨b, off, none⟩ ∧ b < B ∧ ∀ j, j < n → ∃ u : Int, 0 ≤ u ∧ u ≤ 255 ∧ w.cell? ⟨b, off + j, none⟩ = some (.int .u8 u))
theorem Bytes.of_row {w : World} {a : Option Addr} {len cap : Nat} {zs : List Int} (h : IsRow .u8 w a len cap zs) : Bytes w w.heap.size a len cap := by
  rcases h with ⟨rfl, rfl, rfl, rfl⟩ | ⟨x, rfl, h1, h2, h3, h4, h5⟩
  · exact ⟨by omega, fun h => absurd h (by omega)⟩
  · refine ⟨h1, fun hn => ?_⟩
    obtain ⟨b, off, spot⟩ := x
    have h0 := h4 0 (by omega)
    have hs : spot = none := by simpa [Addr.add] using World.cell?_spot h0
    subst hs
    refine ⟨b, off, rfl, by simpa [Addr.add] using World.block_lt_of_cell? w _ h0, fun j hj => ?_⟩
    have := h4 j (by omega)
    rw [show (⟨b, off, none⟩ : Addr).add j = ⟨b, off + j, none⟩ from by unfold Addr.add; split <;> simp_all] at this
    have hm := h5 (zs.getD j 0) (by rw [List.getD_eq_getElem?_getD, List.getElem?_eq_getElem (by omega)]; exact List.getElem_mem _)
    generalize zs.getD j 0 = u at hm this
    have m0 : IntKind.u8.min = 0 := rfl
    have m1 : IntKind.u8.max = 255 := rfl
    simp [Lit.wf, m0, m1] at hm
    exact ⟨u, by omega, by omega, this⟩
theorem Bytes.next {w w' : World} {A : Option Addr} {n c : Nat} (h : Bytes w w.heap.size A n c) (hb : Below w.heap.size w w') : Bytes w' w'.heap.size A n c := by
  refine ⟨h.1, fun hn => ?_⟩
  obtain ⟨b, off, e, hlt, hc⟩ := h.2 hn
  have := hb.size
  refine ⟨b, off, e, by omega, fun j hj => ?_⟩
  obtain ⟨u, h0, h1, hu⟩ := hc j hj
  exact ⟨u, h0, h1, (hb.cell (p := ⟨b, off + j, none⟩) hlt).trans hu⟩

set_option maxHeartbeats 1000000 in
theorem l6Open_any (A : Option Addr) (n c : Nat) (w : World) (h : Bytes w w.heap.size A n c) (hn : n ≤ 1048576) :
    Calls Tryz.prog 40 #[.slice A n c] w fun e w' => e = .returned (.pointer (some ⟨w.heap.size, 0, none⟩)) ∧ Rd w' w.heap.size w.heap.size 0 ∧ Below w.heap.size w w' := by
  have hc := h.1
  have H := Lib.hid h
  clear h
  have fin : ∀ (m : Nat) (A' : Option Addr) (c' : Nat), m ≤ 2000 → m ≤ n → A' = A → Rd (w.alloc (.cells #[.slice A' m c', .int .i64 0] 133)) w.heap.size w.heap.size 0 ∧ Below w.heap.size w (w.alloc (.cells #[.slice A' m c', .int .i64 0] 133)) := by
    intro m A' c' hm hmn hA
    subst hA
    refine ⟨⟨_, m, c', heap_alloc_new w _, hm, Nat.le_refl _, fun h0 => ?_⟩, (Below.refl _ _).alloc (Nat.le_refl _) _⟩
    obtain ⟨b, off, e, hlt, hc⟩ := H.out.2 (by omega)
    refine ⟨b, off, e, hlt, fun j hj => ?_⟩
    obtain ⟨u, h0, h1, hu⟩ := hc j (by omega)
    exact ⟨u, h0, h1, (World.cell?_alloc_lt w _ _ hlt).trans hu⟩
  have FIN := Lib.hid fin
  clear fin
  by_cases hbig : 2000 < n
  · obtain ⟨b, off, rfl, hlt, hcc⟩ := H.out.2 (by omega)
    clear hcc
    go_enter Tryz.func40, Tryz.ntmps40
    go_wp2
    go_ret
    exact ⟨rfl, FIN.out _ _ _ (by omega) (by omega) rfl⟩
  · go_enter Tryz.func40, Tryz.ntmps40
    go_wp2
    go_ret
    exact ⟨rfl, FIN.out _ _ _ (by omega) (by omega) rfl⟩
end Go.Proofs.YthdoofmfigemoaaGreatDoor
end

section
/-
  The draws of tallies.
-/
namespace Go.Proofs.YthdoofmfigemoaaGreatDoor
open Go.RowKit
set_option linter.unusedSimpArgs false

theorem ta_grown_set {a b : World} {row : Option Nat} {p : Addr} (h : a.grownBy b row) (hp : a.heap.size ≤ p.block) (v : Value) : a.grownBy (b.setCell p v) row :=
  ⟨h.os, h.tape, h.output, by rw [size_set]; exact h.size, fun k hk hne => (heap_setCell_other b p k v (fun e => by omega)).trans (h.block k hk hne)⟩
theorem ntext_len {n : Nat} (h : n ≤ 9999) : (txt (Ta.ntext n)).size ≤ 36 := by rw [txt_size]; exact (Ta.worth_bd (Ta.worth_ntext h)).1
/-- a drawn text -/
def OfPost (w : World) (B g p : Nat) (e : Ending) (w' : World) : Prop := ∃ s : ByteArray, e = .returned (.string s) ∧ s.size ≤ 2 ∧ Rd w' B g (p + 1) ∧ w.grownBy w' (some g)
set_option maxHeartbeats 1000000 in
theorem of_any (w : World) (B g p nb : Nat) (h : Rd w B g p) (hp : p ≤ 900100) (s0 s1 s2 : ByteArray) (ty : TypeId) (hb : Blk w nb #[.string s0, .string s1, .string s2] ty) (hne : nb ≠ g) (h0 : s0.size ≤ 2) (h1 : s1.size ≤ 2) (h2 : s2.size ≤ 2) :
    Calls Tryz.prog 89 #[.pointer (some ⟨g, 0, none⟩), .slice (some ⟨nb, 0, none⟩) 3 3] w (OfPost w B g p) := by
  have HR := Lib.hid h
  have HBL := Lib.hid hb
  clear h hb
  go_enter Tryz.func89, Tryz.ntmps89
  go_wp2_with fail
  refine (pick_any _ _ _ _ _ HR.out (by omega)).mono ?_
  rintro e w1 ⟨v1, rfl, hv1, hrd1, hg1⟩
  obtain ⟨hva1, hvb1⟩ := hv1 (by omega)
  have hbl := HBL.out.grown hg1 (by intro e; injection e with e; exact hne e)
  have c0 : w1.cell? ⟨nb, 0, none⟩ = some (.string s0) := hbl.cell rfl
  have c1 : w1.cell? ⟨nb, 1, none⟩ = some (.string s1) := hbl.cell rfl
  have c2 : w1.cell? ⟨nb, 2, none⟩ = some (.string s2) := hbl.cell rfl
  have HRD := Lib.hid (And.intro hrd1 hg1)
  clear hv1 hbl hrd1 hg1
  have hv : v1 = 0 ∨ v1 = 1 ∨ v1 = 2 := by omega
  rcases hv with rfl | rfl | rfl
  · go_wp2
    go_ret
    exact ⟨s0, rfl, h0, HRD.out.1, HRD.out.2⟩
  · go_wp2
    go_ret
    exact ⟨s1, rfl, h1, HRD.out.1, HRD.out.2⟩
  · go_wp2
    go_ret
    exact ⟨s2, rfl, h2, HRD.out.1, HRD.out.2⟩
/-- a drawn tally -/
def TalPost (w : World) (B g p : Nat) (e : Ending) (w' : World) : Prop := ∃ (t : Tl) (q : Nat), e = .returned t.val ∧ t.s.size ≤ 36 ∧ t.f.size ≤ 36 ∧ Rd w' B g q ∧ q ≤ p + 6 ∧ w.grownBy w' (some g)
theorem tal_out {w W : World} {B g p q : Nat} {a0 a1 a2 a3 : Value} {ty : TypeId} (hG : w.grownBy W (some g)) (hR : Rd W B g q) (hq : q ≤ p + 6) (hz : Blk W w.heap.size #[a0, a1, a2, a3] ty) (hg : g < w.heap.size) (t : Tl) (h1 : t.s.size ≤ 36) (h2 : t.f.size ≤ 36) :
    Blk ((((W.setCell ⟨w.heap.size, 0, none⟩ (.int .i64 t.a)).setCell ⟨w.heap.size, 1, none⟩ (.int .i64 t.c)).setCell ⟨w.heap.size, 2, none⟩ (.string t.s)).setCell ⟨w.heap.size, 3, none⟩ (.string t.f)) w.heap.size #[.int .i64 t.a, .int .i64 t.c, .string t.s, .string t.f] ty ∧
    TalPost w B g p (.returned t.val) ((((W.setCell ⟨w.heap.size, 0, none⟩ (.int .i64 t.a)).setCell ⟨w.heap.size, 1, none⟩ (.int .i64 t.c)).setCell ⟨w.heap.size, 2, none⟩ (.string t.s)).setCell ⟨w.heap.size, 3, none⟩ (.string t.f)) := by
  have hB := hR.base
  refine ⟨hz.set4 _ _ _ _, t, q, rfl, h1, h2, ?_, hq, ?_⟩
  · exact (((hR.far (a := ⟨w.heap.size, 0, none⟩) (by show B ≤ w.heap.size; omega) (by show w.heap.size ≠ g; omega) _).far (a := ⟨w.heap.size, 1, none⟩) (by show B ≤ w.heap.size; omega) (by show w.heap.size ≠ g; omega) _).far (a := ⟨w.heap.size, 2, none⟩) (by show B ≤ w.heap.size; omega) (by show w.heap.size ≠ g; omega) _).far (a := ⟨w.heap.size, 3, none⟩) (by show B ≤ w.heap.size; omega) (by show w.heap.size ≠ g; omega) _
  · exact ta_grown_set (ta_grown_set (ta_grown_set (ta_grown_set hG (Nat.le_refl _) _) (Nat.le_refl _) _) (Nat.le_refl _) _) (Nat.le_refl _) _
set_option maxRecDepth 100000 in
set_option maxHeartbeats 2000000 in
theorem l92Tally_any (w : World) (B g p : Nat) (h : Rd w B g p) (hp : p ≤ 900050) : Calls Tryz.prog 113 #[.pointer (some ⟨g, 0, none⟩)] w (TalPost w B g p) := by
  have hlt := h.lt
  have hbs := h.base
  have HR := Lib.hid h
  have HG := Lib.hid (World.grownBy.refl w (some g))
  clear h
  go_enter Tryz.func113, Tryz.ntmps113
  go_wp2_with fail
  refine (pick_any _ _ _ _ 5 (HR.out.alloc _) (by omega)).mono ?_
  rintro e w1 ⟨v1, rfl, hv1, hrd1, hg1⟩
  obtain ⟨hva1, hvb1⟩ := hv1 (by omega)
  have hbz := (Blk.new w #[.int .i64 0, .int .i64 0, .string ⟨#[]⟩, .string ⟨#[]⟩] 52).grown hg1 (by intro e; injection e with e; omega)
  have HZ := Lib.hid hbz
  replace HG := Lib.hid ((HG.out.trans (World.grownBy_alloc _ _ _)).trans hg1)
  replace HR := Lib.hid hrd1
  clear hv1 hrd1 hg1 hbz
  go_wp2_with fail
  refine (pick_any _ _ _ _ 4 HR.out (by omega)).mono ?_
  rintro e w2 ⟨v2, rfl, hv2, hrd2, hg2⟩
  obtain ⟨hva2, hvb2⟩ := hv2 (by omega)
  replace HZ := Lib.hid (HZ.out.grown hg2 (by intro e; injection e with e; omega))
  replace HG := Lib.hid (HG.out.trans hg2)
  replace HR := Lib.hid hrd2
  clear hv2 hrd2 hg2
  obtain ⟨b, hb⟩ : ∃ b, (v1 + 1 + v2).tmod 5 = b := ⟨_, rfl⟩
  have hb0 : 0 ≤ b := by rw [← hb]; exact Int.tmod_nonneg _ (by omega)
  have hb5 : b < 5 := by rw [← hb]; exact Int.tmod_lt_of_pos _ (by omega)
  have wb : IntKind.i64.wrap b = b := IntWalk.i64_in _ (by omega)
  go_wp2_with fail
  refine (pick_any _ _ _ _ 60 HR.out (by omega)).mono ?_
  rintro e w3 ⟨v3, rfl, hv3, hrd3, hg3⟩
  obtain ⟨hva3, hvb3⟩ := hv3 (by omega)
  replace HZ := Lib.hid (HZ.out.grown hg3 (by intro e; injection e with e; omega))
  replace HG := Lib.hid (HG.out.trans hg3)
  replace HR := Lib.hid hrd3
  clear hv3 hrd3 hg3
  go_wp2_with fail
  refine (pick_any _ _ _ _ 20 HR.out (by omega)).mono ?_
  rintro e w4 ⟨v4, rfl, hv4, hrd4, hg4⟩
  obtain ⟨hva4, hvb4⟩ := hv4 (by omega)
  replace HZ := Lib.hid (HZ.out.grown hg4 (by intro e; injection e with e; omega))
  replace HG := Lib.hid (HG.out.trans hg4)
  replace HR := Lib.hid hrd4
  clear hv4 hrd4 hg4
  obtain ⟨x, hx⟩ : ∃ x, v3 * (1 + v4) = x := ⟨_, rfl⟩
  have hxb := mul_in (a := v3) (m := 60) (b := 1 + v4) (k := 20) (by omega) (by omega) (by omega) (by omega)
  rw [hx] at hxb
  have wx : IntKind.i64.wrap x = x := IntWalk.i64_in _ (by omega)
  go_wp2_with fail
  refine (specTallyNew_any _ _ _ _).mono ?_
  rintro e w5 ⟨hcase, hb5'⟩
  obtain ⟨t, he, ht1, ht2⟩ : ∃ t : Tl, (∃ o : Bool, e = .returned (.tuple #[t.val, .bool o])) ∧ t.s.size ≤ 36 ∧ t.f.size ≤ 36 := by
    rcases hcase with ⟨hok, rfl⟩ | ⟨hno, rfl⟩
    · exact ⟨_, ⟨true, rfl⟩, ntext_len (by have := hok.2.1; have := hok.2.2; omega), ntext_len (by have := hok.2.1; have := hok.2.2; omega)⟩
    · exact ⟨⟨0, 0, ⟨#[]⟩, ⟨#[]⟩⟩, ⟨false, rfl⟩, by decide, by decide⟩
  obtain ⟨o, rfl⟩ := he
  replace HZ := Lib.hid (HZ.out.next hb5')
  replace HG := Lib.hid (HG.out.trans (grown_of_below hb5' _))
  replace HR := Lib.hid (HR.out.next hb5')
  obtain ⟨ta, tc, ts, tf⟩ := t
  simp only at ht1 ht2
  simp only [Tl.val]
  clear hcase hb5' hb hx hxb wx wb
  obtain ⟨W6, hW6⟩ : ∃ W6, w5.alloc (.cells #[.int .i64 ta, .int .i64 tc, .string ts, .string tf] 52) = W6 := ⟨_, rfl⟩
  have hbt : Blk W6 w5.heap.size #[.int .i64 ta, .int .i64 tc, .string ts, .string tf] 52 := by rw [← hW6]; exact Blk.new _ _ _
  have hz6 : Blk W6 w.heap.size #[.int .i64 0, .int .i64 0, .string ⟨#[]⟩, .string ⟨#[]⟩] 52 := by rw [← hW6]; exact HZ.out.alloc _
  have hw5 : w.heap.size < w5.heap.size := HZ.out.lt
  have hG6 : w.grownBy W6 (some g) := by rw [← hW6]; exact HG.out.trans (World.grownBy_alloc _ _ _)
  have hR6 : Rd W6 B g (p + 1 + 1 + 1 + 1) := by rw [← hW6]; exact HR.out.alloc _
  go_wp2_with fail
  clear HZ HG HR hW6
  refine (pick_any _ _ _ _ 60 hR6 (by omega)).mono ?_
  rintro e w7 ⟨v7, rfl, hv7, hrd7, hg7⟩
  obtain ⟨hva7, hvb7⟩ := hv7 (by omega)
  have hz7 := hz6.grown hg7 (by intro e; injection e with e; omega)
  have ht7 := hbt.grown hg7 (by intro e; injection e with e; omega)
  have HG7 := Lib.hid (hG6.trans hg7)
  have HR7 := Lib.hid hrd7
  have HZ7 := Lib.hid hz7
  have HT7 := Lib.hid ht7
  clear hv7 hrd7 hg7 hz6 hbt hG6 hR6 hz7 ht7
  by_cases h0 : v7 = 0
  · subst h0
    go_wp2_with fail
    refine (pick_any _ _ _ _ 3 (HR7.out.alloc _) (by omega)).mono ?_
    rintro e w8 ⟨v8, rfl, hv8, hrd8, hg8⟩
    obtain ⟨hva8, hvb8⟩ := hv8 (by omega)
    have hz8 := (HZ7.out.alloc (.cells #[.int .i64 v1, .int .i64 5, .int .i64 (-1)] 3)).grown hg8 (by intro e; injection e with e; omega)
    have ht8 := (HT7.out.alloc (.cells #[.int .i64 v1, .int .i64 5, .int .i64 (-1)] 3)).grown hg8 (by intro e; injection e with e; omega)
    have hwl : w.heap.size < w7.heap.size := HZ7.out.lt
    have hwl5 : w5.heap.size < w7.heap.size := HT7.out.lt
    have hl8 := (Blk.new w7 #[.int .i64 v1, .int .i64 5, .int .i64 (-1)] 3).grown hg8 (by intro e; injection e with e; omega)
    obtain ⟨j8, u8, rfl, hj8, hu8, hc8⟩ := lit_after (n := 3) (us := [v1, 5, -1]) hg8 (by omega) rfl (by omega) hva8 hvb8
    have HG8 := Lib.hid ((HG7.out.trans (World.grownBy_alloc _ _ _)).trans hg8)
    have HR8 := Lib.hid hrd8
    have HZ8 := Lib.hid hz8
    have HT8 := Lib.hid ht8
    have t0 : w8.cell? ⟨w5.heap.size, 0, none⟩ = some (.int .i64 ta) := ht8.cell rfl
    have t1 : w8.cell? ⟨w5.heap.size, 1, none⟩ = some (.int .i64 tc) := ht8.cell rfl
    have t2 : w8.cell? ⟨w5.heap.size, 2, none⟩ = some (.string ts) := ht8.cell rfl
    have t3 : w8.cell? ⟨w5.heap.size, 3, none⟩ = some (.string tf) := ht8.cell rfl
    have z0 : w8.cell? ⟨w.heap.size, 0, none⟩ = some (.int .i64 0) := hz8.cell rfl
    have z1 : w8.cell? ⟨w.heap.size, 1, none⟩ = some (.int .i64 0) := hz8.cell rfl
    have z2 : w8.cell? ⟨w.heap.size, 2, none⟩ = some (.string ⟨#[]⟩) := hz8.cell rfl
    have z3 : w8.cell? ⟨w.heap.size, 3, none⟩ = some (.string ⟨#[]⟩) := hz8.cell rfl
    have f1 := ht8.free 1
    have y0 := hz8.free 0
    have y1 := hz8.free 1
    have y2 := hz8.free 2
    have y3 := hz8.free 3
    have hne5 : ¬ w.heap.size = w5.heap.size := by omega
    clear hv8 hrd8 hg8 hz8 ht8 hl8 hu8
    go_wp2_with fail
    obtain ⟨hf, hp⟩ := tal_out (p := p) (ta_grown_set HG8.out (p := ⟨w5.heap.size, 1, none⟩) (Nat.le_of_lt hw5) (.int .i64 u8)) (HR8.out.far (a := ⟨w5.heap.size, 1, none⟩) (by show B ≤ w5.heap.size; omega) (by show w5.heap.size ≠ g; omega) (.int .i64 u8)) (by omega) (HZ8.out.other (p := ⟨w5.heap.size, 1, none⟩) hne5 (.int .i64 u8)) hlt ⟨ta, u8, ts, tf⟩ ht1 ht2
    have g0 := hf.cell (j := 0) rfl
    have g1 := hf.cell (j := 1) rfl
    have g2 := hf.cell (j := 2) rfl
    have g3 := hf.cell (j := 3) rfl
    exact bodyPost_ret (v := Tl.val ⟨ta, u8, ts, tf⟩) (by simp [results, Tryz.results113, go_sem, Tl.val, g0, g1, g2, g3]) rfl hp
  have h0' : (v7 == 0) = false := by simpa using h0
  by_cases h1 : v7 = 1
  · subst h1
    have hwl : w.heap.size < w7.heap.size := HZ7.out.lt
    have hwl5 : w5.heap.size < w7.heap.size := HT7.out.lt
    go_wp2_with fail
    refine (of_any _ B g _ w7.heap.size (HR7.out.alloc _) (by omega) _ _ _ _ (Blk.new _ _ _) (by omega) (by decide) (by decide) (by decide)).mono ?_
    rintro e w8 ⟨u8, rfl, hu8, hrd8, hg8⟩
    have hz8 := (HZ7.out.alloc (.cells #[.string ⟨#[]⟩, .string ⟨#[73]⟩, .string ⟨#[73, 88]⟩] 9)).grown hg8 (by intro e; injection e with e; omega)
    have ht8 := (HT7.out.alloc (.cells #[.string ⟨#[]⟩, .string ⟨#[73]⟩, .string ⟨#[73, 88]⟩] 9)).grown hg8 (by intro e; injection e with e; omega)
    have HG8 := Lib.hid ((HG7.out.trans (World.grownBy_alloc _ _ _)).trans hg8)
    have HR8 := Lib.hid hrd8
    have HZ8 := Lib.hid hz8
    have HT8 := Lib.hid ht8
    have t0 : w8.cell? ⟨w5.heap.size, 0, none⟩ = some (.int .i64 ta) := ht8.cell rfl
    have t1 : w8.cell? ⟨w5.heap.size, 1, none⟩ = some (.int .i64 tc) := ht8.cell rfl
    have t2 : w8.cell? ⟨w5.heap.size, 2, none⟩ = some (.string ts) := ht8.cell rfl
    have t3 : w8.cell? ⟨w5.heap.size, 3, none⟩ = some (.string tf) := ht8.cell rfl
    have z0 : w8.cell? ⟨w.heap.size, 0, none⟩ = some (.int .i64 0) := hz8.cell rfl
    have z1 : w8.cell? ⟨w.heap.size, 1, none⟩ = some (.int .i64 0) := hz8.cell rfl
    have z2 : w8.cell? ⟨w.heap.size, 2, none⟩ = some (.string ⟨#[]⟩) := hz8.cell rfl
    have z3 : w8.cell? ⟨w.heap.size, 3, none⟩ = some (.string ⟨#[]⟩) := hz8.cell rfl
    have y0 := hz8.free 0
    have y1 := hz8.free 1
    have y2 := hz8.free 2
    have y3 := hz8.free 3
    have hne5 : ¬ w.heap.size = w5.heap.size := by omega
    have f3 := ht8.free 3
    clear hrd8 hg8 hz8 ht8
    go_wp2_with fail
    obtain ⟨hf, hp⟩ := tal_out (p := p) (ta_grown_set HG8.out (p := ⟨w5.heap.size, 3, none⟩) (Nat.le_of_lt hw5) (.string u8)) (HR8.out.far (a := ⟨w5.heap.size, 3, none⟩) (by show B ≤ w5.heap.size; omega) (by show w5.heap.size ≠ g; omega) (.string u8)) (by omega) (HZ8.out.other (p := ⟨w5.heap.size, 3, none⟩) hne5 (.string u8)) hlt ⟨ta, tc, ts, u8⟩ ht1 (by show u8.size ≤ 36; omega)
    have g0 := hf.cell (j := 0) rfl
    have g1 := hf.cell (j := 1) rfl
    have g2 := hf.cell (j := 2) rfl
    have g3 := hf.cell (j := 3) rfl
    exact bodyPost_ret (v := Tl.val ⟨ta, tc, ts, u8⟩) (by simp [results, Tryz.results113, go_sem, Tl.val, g0, g1, g2, g3]) rfl hp
  · have h1' : (v7 == 1) = false := by simpa using h1
    have hz8 := HZ7.out
    have ht8 := HT7.out
    have t0 : w7.cell? ⟨w5.heap.size, 0, none⟩ = some (.int .i64 ta) := ht8.cell rfl
    have t1 : w7.cell? ⟨w5.heap.size, 1, none⟩ = some (.int .i64 tc) := ht8.cell rfl
    have t2 : w7.cell? ⟨w5.heap.size, 2, none⟩ = some (.string ts) := ht8.cell rfl
    have t3 : w7.cell? ⟨w5.heap.size, 3, none⟩ = some (.string tf) := ht8.cell rfl
    have z0 : w7.cell? ⟨w.heap.size, 0, none⟩ = some (.int .i64 0) := hz8.cell rfl
    have z1 : w7.cell? ⟨w.heap.size, 1, none⟩ = some (.int .i64 0) := hz8.cell rfl
    have z2 : w7.cell? ⟨w.heap.size, 2, none⟩ = some (.string ⟨#[]⟩) := hz8.cell rfl
    have z3 : w7.cell? ⟨w.heap.size, 3, none⟩ = some (.string ⟨#[]⟩) := hz8.cell rfl
    have y0 := hz8.free 0
    have y1 := hz8.free 1
    have y2 := hz8.free 2
    have y3 := hz8.free 3
    have hne5 : ¬ w.heap.size = w5.heap.size := by omega
    clear hz8 ht8 h0 h1
    go_wp2_with fail
    obtain ⟨hf, hp⟩ := tal_out (p := p) HG7.out HR7.out (by omega) HZ7.out hlt ⟨ta, tc, ts, tf⟩ ht1 ht2
    have g0 := hf.cell (j := 0) rfl
    have g1 := hf.cell (j := 1) rfl
    have g2 := hf.cell (j := 2) rfl
    have g3 := hf.cell (j := 3) rfl
    exact bodyPost_ret (v := Tl.val ⟨ta, tc, ts, tf⟩) (by simp [results, Tryz.results113, go_sem, Tl.val, g0, g1, g2, g3]) rfl hp
end Go.Proofs.YthdoofmfigemoaaGreatDoor
end

section
/-
  The draw of a list of tallies.
-/
namespace Go.Proofs.YthdoofmfigemoaaGreatDoor
open Go.RowKit
set_option linter.unusedSimpArgs false

def Small36 (ts : List Tl) : Prop := ∀ t ∈ ts, t.s.size ≤ 36 ∧ t.f.size ≤ 36
theorem Small36.small {ts : List Tl} (h : Small36 ts) : Small ts := fun t ht => by have := h t ht; omega
/-- a drawn list of tallies -/
def DTals (w : World) (g : Nat) (e : Ending) (w' : World) : Prop := ∃ A n c ts, e = .returned (.slice A n c) ∧ Tals w' w'.heap.size A n ts ∧ n ≤ 7 ∧ Small36 ts ∧ w.grownBy w' (some g)
set_option maxRecDepth 100000 in
set_option maxHeartbeats 2000000 in
theorem l92Tallies_any (w : World) (B g p : Nat) (h : Rd w B g p) (hp : p ≤ 900000) : Calls Tryz.prog 79 #[.pointer (some ⟨g, 0, none⟩)] w (DTals w g) := by
  have hlt := h.lt
  have HR := Lib.hid h
  clear h
  go_enter Tryz.func79, Tryz.ntmps79
  go_wp2_with fail
  refine (pick_any _ _ _ _ 8 (HR.out.alloc _) (by omega)).mono ?_
  rintro e w1 ⟨v1, rfl, hv1, hrd1, hg1⟩
  obtain ⟨hva1, hvb1⟩ := hv1 (by omega)
  obtain ⟨n, rfl⟩ := Int.eq_ofNat_of_zero_le hva1
  have hn7 : n ≤ 7 := by omega
  have hO1 : OwnT w1 w.heap.size (some ⟨w.heap.size, 0, none⟩) 0 0 [] := (lit_nil_t w w.heap.size (Nat.le_refl _)).kept hg1 (fun q hq e => by
    have hq : w.heap.size = q := by injection hq
    injection e with e
    omega)
  have HO1 := Lib.hid hO1
  have HG1 := Lib.hid ((World.grownBy_alloc w (.cells #[] 52) (some g)).trans hg1)
  have HR1 := Lib.hid hrd1
  clear hv1 hrd1 hg1 hO1 hva1 hvb1
  go_wp2_with fail
  go_loopw [3, 5] (fun sv iv wr => ∃ (k c q : Nat) (AT : Option Addr) (ts : List Tl), k ≤ n ∧ iv = .int .i64 (k : Int) ∧ sv = .slice AT k c ∧ OwnT wr w.heap.size AT k c ts ∧ Small36 ts ∧ Rd wr B g q ∧ q ≤ p + 1 + 6 * k ∧ w.grownBy wr (some g)) (fun _ iv _ => n - (intOf iv).toNat)
  case atStart => exact ⟨0, 0, p + 1, _, [], by omega, rfl, rfl, HO1.out, fun t ht => by simp at ht, HR1.out, by omega, HG1.out⟩
  case round =>
    obtain ⟨k, c, q, AT, ts, hk, rfl, rfl, ho, hsm, hrd, hq, hg⟩ := hrel
    have HO := Lib.hid ho
    have HSM := Lib.hid hsm
    have HRD := Lib.hid hrd
    have HG := Lib.hid hg
    clear ho hsm hrd hg
    by_cases hltk : k < n
    · go_wp2_with fail
      refine (l92Tally_any wr B g q HRD.out (by omega)).mono ?_
      rintro e w2 ⟨t, q2, rfl, ht1, ht2, hrd2, hq2, hg2⟩
      have HO2 := Lib.hid (HO.out.kept hg2 (fun z hz e => by have := (HO.out.blk z hz).1; injection e with e; omega))
      have HRD2 := Lib.hid hrd2
      have HG2 := Lib.hid (HG.out.trans hg2)
      have HT := Lib.hid (show Small36 (ts ++ [t]) from fun u hu => by
        rcases List.mem_append.1 hu with h | h
        · exact HSM.out u h
        · obtain rfl := List.mem_singleton.1 h
          exact ⟨ht1, ht2⟩)
      obtain ⟨ta, tc, tss, tf⟩ := t
      simp only [Tl.val]
      clear hrd2 hg2 ht1 ht2
      have hsz := HG2.out.size
      have HSZ := Lib.hid hsz
      clear hsz
      go_wp2_with (refine wpList_app_t_at rfl _ _ rfl rfl HO2.out ⟨ta, tc, tss, tf⟩ _ _ rfl rfl _ rfl (by omega) HSZ.out ?_; intro A9 c9 w9 ho9 hg9 hat9)
      refine ⟨⟨k + 1, c9, q2, A9, _, by omega, by go_num, rfl, ho9, HT.out, ?_, by omega, ?_⟩, by simp [intOf]; omega⟩
      · refine HRD2.out.grown hg9 (fun z hz => ?_)
        have := (HO2.out.blk z hz).1
        have := HRD2.out.base
        exact ⟨by omega, by omega⟩
      · exact HG2.out.then_ hg9 (fun z hz => .inl (HO2.out.blk z hz).1)
    · obtain rfl : k = n := by omega
      go_wp2
      go_ret
      exact ⟨_, _, _, ts, rfl, HO.out.tals, hn7, HSM.out, HG.out⟩
/-- a law's draw of a list of tallies -/
def DrewT (w : World) (e : Ending) (w' : World) : Prop := ∃ A n c ts, e = .returned (.slice A n c) ∧ Tals w' w'.heap.size A n ts ∧ n ≤ 7 ∧ Small36 ts ∧ Below w.heap.size w w'
set_option maxHeartbeats 1000000 in
theorem DrawTalliesSettle_any (A : Option Addr) (n c : Nat) (w : World) (h : Bytes w w.heap.size A n c) (hn : n ≤ 1048576) :
    Calls Tryz.prog 35 #[.slice A n c] w (DrewT w) := by
  have H := Lib.hid h
  clear h
  go_enter Tryz.func35, Tryz.ntmps35
  go_wp2_with fail
  refine (l6Open_any _ _ _ _ H.out hn).mono ?_
  rintro e w0 ⟨rfl, hrd, hb⟩
  have HB := Lib.hid hb
  have hlt := hrd.lt
  have HR := Lib.hid hrd
  clear hrd hb
  go_wp2_with fail
  refine (l92Tallies_any _ _ _ _ HR.out (by omega)).mono ?_
  rintro e w1 ⟨A1, n1, c1, ts, rfl, hx, hn1, hsm, hg1⟩
  have HX := Lib.hid hx
  have HB2 := Lib.hid (HB.out.trans (base_in hg1 (Nat.le_refl _) (by omega)))
  have HSM := Lib.hid hsm
  clear hx hg1 hsm
  go_wp2
  go_ret
  exact ⟨_, _, _, _, rfl, HX.out, hn1, HSM.out, HB2.out⟩
end Go.Proofs.YthdoofmfigemoaaGreatDoor
end

section
/-
  The reference's TalliesValid, l6yBalance, TalliesBalance.
-/
namespace Go.Proofs.YthdoofmfigemoaaGreatDoor
open Go.RowKit
set_option linter.unusedSimpArgs false

theorem str_nil (s : ByteArray) : s.toList.isEmpty = decide (s = ⟨#[]⟩) := by
  rw [ByteArray.toList_eq]
  by_cases h : s = ⟨#[]⟩
  · subst h; rfl
  · rw [decide_eq_false h]
    cases hl : s.data.toList with
    | nil => exact absurd (by rw [← txt_eta s, hl]; rfl) h
    | cons _ _ => rfl
set_option maxRecDepth 100000 in
set_option maxHeartbeats 1000000 in
theorem specTalliesValid_any (A : Option Addr) (n c : Nat) (ts : List Tl) (w : World) (hr : Tals w w.heap.size A n ts) (hsm : Small ts) : Calls Tryz.prog 119 #[.slice A n c] w fun e w' => e = .returned (.bool (okL ts)) ∧ Below w.heap.size w w' := by
  have hl := hr.len
  have hn40 := hr.2.1
  have HL := Lib.hid hl
  have HR := Lib.hid hr
  have HSM := Lib.hid hsm
  clear hr hl hsm
  go_enter Tryz.func119, Tryz.ntmps119
  go_wp2_with fail
  go_loopw [3] (fun iv wr => ∃ (k : Nat), k ≤ n ∧ iv = .int .i64 (k : Int) ∧ Below w.heap.size w wr ∧ (∀ t ∈ ts.take k, okB t = true)) (fun iv _ => n - (intOf iv).toNat)
  case atStart => exact ⟨0, by omega, rfl, Below.refl _ _, by simp⟩
  case round =>
    obtain ⟨k, hk, rfl, hb, hok⟩ := hrel
    have HB := Lib.hid hb
    have HOK := Lib.hid hok
    clear hb hok
    by_cases hlt : k < n
    · obtain ⟨b, off, t, rfl, hlb, ht, k0, k1, k2, k3⟩ := Tals.at_ (show Tals wr w.heap.size A n ts from HR.out.below HB.out) hlt
      have hts := HSM.out t (List.mem_of_getElem? ht)
      have HT := Lib.hid ht
      obtain ⟨a, cc, s, f⟩ := t
      simp only at k0 k1 k2 k3 hts
      clear ht
      go_wp2_with fail
      refine (specTallyMatches_any ⟨a, cc, s, f⟩ wr hts.1).mono ?_
      rintro e w2 ⟨rfl, hb2⟩
      have hlw : b < wr.heap.size := Nat.lt_of_lt_of_le hlb HB.out.size
      have q2 := (hb2.cell (p := ⟨b, off + k * 4 + 2, none⟩) hlw).trans k2
      have HB2 := Lib.hid (HB.out.trans (hb2.mono HB.out.size))
      clear hb2 k0 k1 k2 k3
      rcases hm : matchB ⟨a, cc, s, f⟩ with _ | _
      · have HNO := Lib.hid (okL_no HT.out (by simp [okB, hm]))
        clear hm
        go_wp2
        go_ret
        exact ⟨ret_bool HNO.out.symm, HB2.out⟩
      · by_cases hs : s = ⟨#[]⟩
        · have HNO := Lib.hid (okL_no HT.out (by
            cases h : okB ⟨a, cc, s, f⟩ with
            | false => rfl
            | true => exact absurd hs (okB_iff.1 h).2))
          have hse : s.toList.isEmpty = true := by rw [str_nil, decide_eq_true hs]
          clear hm hs
          go_wp2
          go_ret
          exact ⟨ret_bool HNO.out.symm, HB2.out⟩
        · have HYES := Lib.hid (okB_iff.2 ⟨hm, hs⟩)
          have hse : s.toList.isEmpty = false := by rw [str_nil, decide_eq_false hs]
          clear hm hs
          go_wp2_with fail
          refine ⟨⟨k + 1, by omega, by go_num, HB2.out, ?_⟩, by simp [intOf]; omega⟩
          rw [take_next HT.out]
          intro u hu
          rcases List.mem_append.1 hu with h | h
          · exact HOK.out u h
          · obtain rfl := List.mem_singleton.1 h
            exact HYES.out
    · obtain rfl : k = n := by omega
      have hokl : okL ts = decide (k ≤ 12) := by
        have h := HOK.out
        rw [List.take_of_length_le (by have := HL.out; omega)] at h
        rw [okL, List.all_eq_true.2 h, Bool.and_true, HL.out]
      have HO := Lib.hid hokl
      clear hokl
      go_wp2
      go_ret
      exact ⟨ret_bool (by rw [HO.out]; simp; omega), HB.out⟩

theorem upd_back {b : List Int} {p q : Nat} {v u u2 : Int} (hne : p ≠ q) (hq : b[q]? = some u) (hp : (b.set q (u + v))[p]? = some u2) : upd b ⟨(p : Int), (q : Int), v⟩ = (b.set q (u + v)).set p (u2 - v) := by
  have e1 : b.getD p 0 = u2 := by rw [List.getElem?_set_ne (Ne.symm hne)] at hp; rw [List.getD_eq_getElem?_getD, hp]; rfl
  have e2 : (b.set p (u2 - v)).getD q 0 = u := by rw [List.getD_eq_getElem?_getD, List.getElem?_set_ne hne, hq]; rfl
  unfold upd
  simp only [Int.toNat_natCast]
  rw [e1, e2, List.set_comm _ _ hne]
set_option maxRecDepth 100000 in
set_option maxHeartbeats 2000000 in
theorem l6yBalance_any (A : Option Addr) (n c : Nat) (ts : List Tl) (w : World) (hr : Tals w w.heap.size A n ts) (hok : okL ts = true) : Calls Tryz.prog 120 #[.slice A n c] w fun e w' =>
    e = .returned (.slice (some ⟨w.heap.size, 0, none⟩) 5 5) ∧ Own w' w.heap.size (some ⟨w.heap.size, 0, none⟩) 5 5 (bal (ts.map debtOf)) ∧ Below w.heap.size w w' := by
  have hF := fair_of hok
  have hl := hr.len
  have h12 : n ≤ 12 := by have := hF.1; rw [List.length_map] at this; omega
  have HL := Lib.hid hl
  have HR := Lib.hid hr
  have HF := Lib.hid hF
  have HOK := Lib.hid hok
  clear hl hr hF hok
  go_enter Tryz.func120, Tryz.ntmps120
  go_wp2_with (refine wpList_make_ints rfl _ _ rfl (B := w.heap.size) (n := 5) rfl rfl (by omega) (Nat.le_refl _) ?_; intro w1 hown hg)
  have HO1 := Lib.hid hown
  have HB1 := Lib.hid (grown_below hg (Nat.le_refl w.heap.size) (by simp))
  clear hown hg
  go_loopw [4] (fun iv wr => ∃ (k : Nat), k ≤ n ∧ iv = .int .i64 (k : Int) ∧ Own wr w.heap.size (some ⟨w.heap.size, 0, none⟩) 5 5 (bal ((ts.map debtOf).take k)) ∧ Within (36000 * (k : Int)) (bal ((ts.map debtOf).take k)) ∧ Below w.heap.size w wr) (fun iv _ => n - (intOf iv).toNat)
  case atStart =>
    refine ⟨0, by omega, rfl, HO1.out, ⟨rfl, fun i u hu => ?_⟩, HB1.out⟩
    have h5 : ([0, 0, 0, 0, 0] : List Int)[i]? = some u := hu
    have := List.mem_of_getElem? h5
    simp at this
    omega
  case round =>
    obtain ⟨k, hk, rfl, ho, hw, hb⟩ := hrel
    have HO := Lib.hid ho
    have HW := Lib.hid hw
    have HB := Lib.hid hb
    clear ho hw hb
    by_cases hlt : k < n
    · obtain ⟨b, off, t, rfl, hlb, ht, k0, k1, k2, k3⟩ := Tals.at_ (show Tals wr w.heap.size A n ts from HR.out.below HB.out) hlt
      have hd : (ts.map debtOf)[k]? = some (debtOf t) := by rw [List.getElem?_map, ht]; rfl
      have hv : validB t.s = true := by
        have := HOK.out
        simp only [okL, Bool.and_eq_true, decide_eq_true_eq, List.all_eq_true] at this
        have := this.2 t (List.mem_of_getElem? ht)
        simp only [okB, matchB, Bool.and_eq_true] at this
        exact this.1.2.1
      obtain ⟨⟨t0, t1, t2, t3, t4⟩, v0, v1⟩ := HF.out.2 _ (List.mem_of_getElem? hd)
      have HN := Lib.hid (bal_next hd)
      obtain ⟨a, cc, s, f⟩ := t
      obtain ⟨v, hvv⟩ : ∃ v, worthB s = v := ⟨_, rfl⟩
      have HV := Lib.hid (And.intro hv hvv)
      simp only [debtOf] at t0 t1 t2 t3 t4 v0 v1
      rw [hvv] at v0 v1
      obtain ⟨p, rfl⟩ := Int.eq_ofNat_of_zero_le t0
      obtain ⟨q, rfl⟩ := Int.eq_ofNat_of_zero_le t2
      simp only at k0 k1 k2 k3 hv
      have hbL := HW.out.1
      obtain ⟨u, hu⟩ : ∃ u, (bal ((ts.map debtOf).take k))[q]? = some u := ⟨_, List.getElem?_eq_getElem (by omega)⟩
      have hub := HW.out.2 q u hu
      obtain ⟨g, hge, _, hglt, hcell, hfree⟩ := HO.out.at_ (by omega)
      injection hge with hge
      injection hge with hge
      subst hge
      have a0 : wr.cell? ⟨w.heap.size, q, none⟩ = some (.int .i64 u) := hcell q u hu
      have fa := hfree q
      have hp5 : p < 5 := by omega
      have hq5 : q < 5 := by omega
      have hpq : p ≠ q := by omega
      obtain ⟨b1, hb1⟩ : ∃ b1, (bal ((ts.map debtOf).take k)).set q (u + v) = b1 := ⟨_, rfl⟩
      have hb1l : b1.length = 5 := by rw [← hb1, List.length_set, hbL]
      obtain ⟨u2, hu2⟩ : ∃ u2, b1[p]? = some u2 := ⟨_, List.getElem?_eq_getElem (by omega)⟩
      have hu2b : -(36000 * (k : Int)) ≤ u2 ∧ u2 ≤ 36000 * (k : Int) := by
        rw [← hb1, List.getElem?_set_ne (by omega)] at hu2
        exact HW.out.2 p u2 hu2
      have w1 : IntKind.i64.wrap (u + v) = u + v := IntWalk.i64_in _ (by omega)
      have w2 : IntKind.i64.wrap (u2 - v) = u2 - v := IntWalk.i64_in _ (by omega)
      obtain ⟨W2, hW2⟩ : ∃ W2, (wr.setCell ⟨w.heap.size, q, none⟩ (.int .i64 (u + v))).drew = W2 := ⟨_, rfl⟩
      have hst := HO.out.store q (u + v)
      rw [hb1] at hst
      have hO2 : Own W2 w.heap.size (some ⟨w.heap.size, 0, none⟩) 5 5 b1 := by rw [← hW2]; exact hst.1.drew
      have hB2 : Below w.heap.size w W2 := by rw [← hW2]; exact (HB.out.setCell (p := ⟨w.heap.size, q, none⟩) (Nat.le_refl _) _).drew
      obtain ⟨g2, hge2, _, hglt2, hcell2, hfree2⟩ := hO2.at_ (by omega)
      injection hge2 with hge2
      injection hge2 with hge2
      subst hge2
      have a2 : W2.cell? ⟨w.heap.size, p, none⟩ = some (.int .i64 u2) := hcell2 p u2 hu2
      have fa2 := hfree2 p
      have n0 : W2.cell? ⟨b, off + k * 4, none⟩ = some (.int .i64 (p : Int)) := by
        rw [← hW2]
        exact (((Below.refl w.heap.size wr).setCell (p := ⟨w.heap.size, q, none⟩) (Nat.le_refl _) _).cell (p := ⟨b, off + k * 4, none⟩) hlb).trans k0
      obtain ⟨W3, hW3⟩ : ∃ W3, (W2.setCell ⟨w.heap.size, p, none⟩ (.int .i64 (u2 - v))).drew = W3 := ⟨_, rfl⟩
      have hbn : bal ((ts.map debtOf).take (k + 1)) = b1.set p (u2 - v) := by
        rw [HN.out]
        show upd _ ⟨(p : Int), (q : Int), worthB s⟩ = _
        rw [hvv, ← hb1]
        exact upd_back hpq hu (by rw [hb1]; exact hu2)
      have hO3 : Own W3 w.heap.size (some ⟨w.heap.size, 0, none⟩) 5 5 (bal ((ts.map debtOf).take (k + 1))) := by
        rw [hbn, ← hW3]
        exact (hO2.store p (u2 - v)).1.drew
      have hWi : Within (36000 * ((k + 1 : Nat) : Int)) (bal ((ts.map debtOf).take (k + 1))) := by
        rw [HN.out]
        have := Within.upd HW.out (d := debtOf ⟨(p : Int), (q : Int), s, f⟩) (by show 0 ≤ worthB s; rw [hvv]; exact v0) (by show worthB s ≤ 36000; rw [hvv]; exact v1) ⟨t0, t1, t2, t3, t4⟩
        rwa [show 36000 * (k : Int) + 36000 = 36000 * ((k + 1 : Nat) : Int) from by omega] at this
      have hB3 : Below w.heap.size w W3 := by rw [← hW3]; exact (hB2.setCell (p := ⟨w.heap.size, p, none⟩) (Nat.le_refl _) _).drew
      have HREL := Lib.hid (And.intro hO3 (And.intro hWi hB3))
      have HW2 := Lib.hid hW2
      have HW3 := Lib.hid hW3
      clear ht hd hv hvv hu hcell hfree hb1 hu2 hW2 hst hO2 hB2 hcell2 hfree2 hW3 hbn hO3 hWi hB3
      go_wp2_with fail
      refine (l6ySum_any s wr HV.out.1).mono ?_
      rintro e w' ⟨rfl, rfl⟩
      rw [HV.out.2]
      go_wp2_with fail
      go_region_with (fail)
      all_goals rw [HW2.out]
      all_goals clear a0 fa w1 k0 k1
      all_goals go_wp2_with fail
      all_goals go_region_with (fail)
      all_goals rw [HW3.out]
      all_goals go_wp2_with fail
      all_goals exact ⟨⟨k + 1, by omega, by go_num, HREL.out.1, HREL.out.2.1, HREL.out.2.2⟩, by simp [intOf]; omega⟩
    · obtain rfl : k = n := by omega
      have hT : (ts.map debtOf).take k = ts.map debtOf := List.take_of_length_le (by rw [List.length_map]; have := HL.out; omega)
      have ho := HO.out
      rw [hT] at ho
      have HO5 := Lib.hid ho
      clear ho hT
      go_wp2
      go_ret
      exact ⟨rfl, HO5.out, HB.out⟩
/-- what the reference's TalliesBalance gives -/
def SBalPost (w : World) (ts : List Tl) (e : Ending) (w' : World) : Prop :=
  ((okL ts = true ∧ ∃ g, w.heap.size ≤ g ∧ e = .returned (.tuple #[.slice (some ⟨g, 0, none⟩) 5 5, .bool true]) ∧ Own w' w.heap.size (some ⟨g, 0, none⟩) 5 5 (bal (ts.map debtOf))) ∨ (okL ts = false ∧ ∃ g, e = .returned (.tuple #[.slice (some ⟨g, 0, none⟩) 0 0, .bool false]))) ∧ Below w.heap.size w w'
set_option maxRecDepth 100000 in
theorem specTalliesBalance_any (A : Option Addr) (n c : Nat) (ts : List Tl) (w : World) (hr : Tals w w.heap.size A n ts) (hsm : Small ts) : Calls Tryz.prog 85 #[.slice A n c] w (SBalPost w ts) := by
  go_enter Tryz.func85, Tryz.ntmps85
  go_wp2_with fail
  refine (specTalliesValid_any A n c ts w hr hsm).mono ?_
  rintro e w1 ⟨rfl, hb⟩
  have HR1 := Lib.hid (show Tals w1 w1.heap.size A n ts from Row.next hr hb)
  have HB := Lib.hid hb
  clear hr hsm hb
  rcases hok : okL ts with _ | _
  · have HNO := Lib.hid hok
    clear hok
    go_wp2
    go_ret2
    exact ⟨.inr ⟨HNO.out, _, rfl⟩, HB.out.alloc HB.out.size _⟩
  · have HOK := Lib.hid hok
    clear hok
    go_wp2_with fail
    refine (l6yBalance_any A n c ts w1 HR1.out HOK.out).mono ?_
    rintro e w2 ⟨rfl, ho, hb2⟩
    have HO := Lib.hid (ho.mono HB.out.size)
    have HB2 := Lib.hid (HB.out.trans (hb2.mono HB.out.size))
    clear ho hb2
    go_wp2
    go_ret2
    exact ⟨.inl ⟨HOK.out, _, HB.out.size, rfl, HO.out⟩, HB2.out⟩
end Go.Proofs.YthdoofmfigemoaaGreatDoor
end

section
/-
  The reference's TalliesSettle.
-/
namespace Go.Proofs.YthdoofmfigemoaaGreatDoor
open Go.RowKit
set_option linter.unusedSimpArgs false

def SSettlePost (w : World) (ts : List Tl) (e : Ending) (w' : World) : Prop :=
  ((∃ out, okL ts = true ∧ Ta.settle 5 (bal (ts.map debtOf)) = some out ∧ ∃ A c, e = .returned (.tuple #[.slice A out.length c, .bool true]) ∧ OwnT w' w.heap.size A out.length c (out.map payT)) ∨
    ((okL ts = false ∨ Ta.settle 5 (bal (ts.map debtOf)) = none) ∧ ∃ g c, e = .returned (.tuple #[.slice (some ⟨g, 0, none⟩) 0 c, .bool false]))) ∧ Below w.heap.size w w'
/-- in the loop of rounds: the balances, and the tallies so far -/
def SSettling (w wr : World) (B g : Nat) (b0 : List Int) (k : Nat) (sv : Value) : Prop :=
  ∃ (b : List Int) (f : Nat) (out : List (Nat × Nat × Int)) (AT : Option Addr) (cT : Nat),
    k = out.length ∧ sv = .slice AT out.length cT ∧ Ta.Todo b0 f b out ∧ Ta.Bal b ∧ Ta.Bd 432000 b ∧ Own wr B (some ⟨g, 0, none⟩) 5 5 b ∧ OwnT wr B AT out.length cT (out.map payT) ∧ (∀ q, (Value.slice AT out.length cT).ownBlock = some q → q ≠ g) ∧ Below B w wr
theorem getD_some {b : List Int} {k : Nat} (h : k < b.length) : b[k]? = some (b.getD k 0) := by rw [List.getD_eq_getElem?_getD, List.getElem?_eq_getElem h]; rfl
set_option maxRecDepth 100000 in
set_option maxHeartbeats 2000000 in
theorem specTalliesSettle_any (A : Option Addr) (n c : Nat) (ts : List Tl) (w : World) (hr : Tals w w.heap.size A n ts) (hsm : Small ts) : Calls Tryz.prog 37 #[.slice A n c] w (SSettlePost w ts) := by
  obtain ⟨W, hW⟩ : ∃ W, w.alloc (.cells #[] 52) = W := ⟨_, rfl⟩
  have hb0 : Below w.heap.size w W := by rw [← hW]; exact (Below.refl _ _).alloc (Nat.le_refl _) _
  have hsz : W.heap.size = w.heap.size + 1 := by rw [← hW]; simp
  have hT0 : OwnT W w.heap.size (some ⟨w.heap.size, 0, none⟩) 0 0 [] := by rw [← hW]; exact lit_nil_t w _ (Nat.le_refl _)
  have HR := Lib.hid (show Tals W W.heap.size A n ts from Row.next hr hb0)
  have HB0 := Lib.hid hb0
  have HT0 := Lib.hid hT0
  have HW := Lib.hid hW
  have HSM := Lib.hid hsm
  have HSZ := Lib.hid hsz
  clear hr hsm hb0 hT0 hW hsz
  go_enter Tryz.func37, Tryz.ntmps37
  go_wp2_with fail
  rw [HW.out]
  refine (specTalliesBalance_any A n c ts W HR.out HSM.out).mono ?_
  rintro e w1 ⟨⟨hok, g, hgW, rfl, ho⟩ | ⟨hno, g, rfl⟩, hb⟩
  rotate_left
  · have HB := Lib.hid (HB0.out.trans (hb.mono HB0.out.size))
    have HNO := Lib.hid hno
    clear hno hb
    go_wp2
    go_ret2
    exact ⟨.inr ⟨.inl HNO.out, _, _, rfl⟩, HB.out⟩
  obtain ⟨b, hbb⟩ : ∃ b, bal (ts.map debtOf) = b := ⟨_, rfl⟩
  obtain ⟨hbal, hbd⟩ := bal_ok (fair_of hok)
  have hbl := bal_length (ts.map debtOf)
  rw [hbb] at hbal hbd hbl ho
  have HPS := Lib.hid (show ∀ e w', (((∃ out, Ta.settle 5 b = some out ∧ ∃ A c, e = .returned (.tuple #[.slice A out.length c, .bool true]) ∧ OwnT w' w.heap.size A out.length c (out.map payT)) ∨
    (Ta.settle 5 b = none ∧ ∃ g c, e = .returned (.tuple #[.slice (some ⟨g, 0, none⟩) 0 c, .bool false]))) ∧ Below w.heap.size w w') → SSettlePost w ts e w' from fun e w' h => by
      unfold SSettlePost
      rw [hbb]
      rcases h with ⟨⟨out, h1, h2⟩ | ⟨h1, h2⟩, h3⟩
      · exact ⟨.inl ⟨out, hok, h1, h2⟩, h3⟩
      · exact ⟨.inr ⟨.inr h1, h2⟩, h3⟩)
  have HST := Lib.hid (show SSettling w w1 w.heap.size g b 0 (.slice (some ⟨w.heap.size, 0, none⟩) 0 0) from by
    refine ⟨b, 5, [], _, _, rfl, rfl, Ta.Todo.start hbl, hbal, hbd, ho.mono HB0.out.size, HT0.out.next hb, fun q hq => ?_, HB0.out.trans (hb.mono HB0.out.size)⟩
    have hq : w.heap.size = q := by injection hq
    have := HSZ.out
    omega)
  have HG := Lib.hid hgW
  clear hok hbb hbal hbd hbl ho hb hgW
  go_wp2_with fail
  go_loopw [4, 7] (fun sv iv wr => ∃ (k : Nat), k ≤ 5 ∧ iv = .int .i64 (k : Int) ∧ SSettling w wr w.heap.size g b k sv) (fun _ iv _ => 5 - (intOf iv).toNat)
  case atStart => exact ⟨0, by omega, rfl, HST.out⟩
  case round =>
    obtain ⟨k, hk, rfl, b2, f, out, AT, cT, hko, rfl, hT, hbal, hbd, ho, hot, hsep, hb⟩ := hrel
    have HTD := Lib.hid (And.intro hT (And.intro hbal hbd))
    have HO := Lib.hid ho
    have HOT := Lib.hid (And.intro hot hsep)
    have HB := Lib.hid hb
    have HKO := Lib.hid hko
    have hbl2 := hbal.1
    clear hT hbal hbd ho hot hsep hb hko
    obtain ⟨wo, hwo⟩ : ∃ wo, wo = wr := ⟨_, rfl⟩
    subst hwo
    by_cases hlt : k < 5
    · have hltI : (k : Int) < 5 := by omega
      go_wp2_with fail
      go_loopw [8, 9, 10] (fun lv hv iv wq => ∃ (i q : Nat), i ≤ 5 ∧ iv = .int .i64 (i : Int) ∧ lv = .int .i64 (Ta.lowK b2 i : Int) ∧ hv = .int .i64 (Ta.highK b2 i : Int) ∧ wq = wo.drewN q) (fun _ _ iv _ => 5 - (intOf iv).toNat)
      case atStart => exact ⟨0, 0, by omega, rfl, rfl, rfl, rfl⟩
      case round =>
        obtain ⟨i, q, hi, rfl, rfl, rfl, hwq⟩ := hrel
        have HWQ := Lib.hid hwq
        clear hwq
        by_cases hi5 : i < 5
        · have hoq : Own wr w.heap.size (some ⟨g, 0, none⟩) 5 5 b2 := by rw [HWQ.out]; exact HO.out.drewN q
          obtain ⟨g', hge, _, _, hcell, _⟩ := hoq.at_ (by omega)
          injection hge with hge
          injection hge with hge
          subst hge
          have hLi := (Ta.lowK_spec b2 i).2.2.2
          have hHi := (Ta.highK_spec b2 i).2.2.2
          have eL : Ta.lowK b2 (i + 1) = if b2.getD i 0 < b2.getD (Ta.lowK b2 i) 0 then i else Ta.lowK b2 i := rfl
          have eH : Ta.highK b2 (i + 1) = if b2.getD (Ta.highK b2 i) 0 < b2.getD i 0 then i else Ta.highK b2 i := rfl
          obtain ⟨L, hL⟩ : ∃ L, Ta.lowK b2 i = L := ⟨_, rfl⟩
          obtain ⟨H, hH⟩ : ∃ H, Ta.highK b2 i = H := ⟨_, rfl⟩
          rw [hL] at hLi eL ⊢
          rw [hH] at hHi eH ⊢
          have ci := hcell i _ (getD_some (by omega))
          have cl := hcell L _ (getD_some (by omega))
          have ch := hcell H _ (getD_some (by omega))
          obtain ⟨x, hx⟩ : ∃ x, b2.getD i 0 = x := ⟨_, rfl⟩
          obtain ⟨y, hy⟩ : ∃ y, b2.getD L 0 = y := ⟨_, rfl⟩
          obtain ⟨z, hz⟩ : ∃ z, b2.getD H 0 = z := ⟨_, rfl⟩
          rw [hx] at ci eL eH
          rw [hy] at cl eL
          rw [hz] at ch eH
          clear hoq hcell hL hH hx hy hz
          by_cases h1 : x < y
          · rw [if_pos h1] at eL
            by_cases h2 : z < x
            · rw [if_pos h2] at eH
              have HE := Lib.hid (And.intro eL eH)
              clear eL eH
              go_wp2_with fail
              go_quiet (fail)
              go_wp2_with fail
              go_quiet (fail)
              go_wp2_with fail
              exact ⟨⟨i + 1, _, by omega, by go_num, by rw [HE.out.1], by rw [HE.out.2], by rw [HWQ.out]; simp only [World.drewN_drewN]; exact rfl⟩, by simp [intOf]; omega⟩
            · rw [if_neg h2] at eH
              have HE := Lib.hid (And.intro eL eH)
              clear eL eH
              go_wp2_with fail
              go_quiet (fail)
              go_wp2_with fail
              go_quiet (fail)
              go_wp2_with fail
              exact ⟨⟨i + 1, _, by omega, by go_num, by rw [HE.out.1], by rw [HE.out.2], by rw [HWQ.out]; simp only [World.drewN_drewN]; exact rfl⟩, by simp [intOf]; omega⟩
          · rw [if_neg h1] at eL
            by_cases h2 : z < x
            · rw [if_pos h2] at eH
              have HE := Lib.hid (And.intro eL eH)
              clear eL eH
              go_wp2_with fail
              go_quiet (fail)
              go_wp2_with fail
              go_quiet (fail)
              go_wp2_with fail
              exact ⟨⟨i + 1, _, by omega, by go_num, by rw [HE.out.1], by rw [HE.out.2], by rw [HWQ.out]; simp only [World.drewN_drewN]; exact rfl⟩, by simp [intOf]; omega⟩
            · rw [if_neg h2] at eH
              have HE := Lib.hid (And.intro eL eH)
              clear eL eH
              go_wp2_with fail
              go_quiet (fail)
              go_wp2_with fail
              go_quiet (fail)
              go_wp2_with fail
              exact ⟨⟨i + 1, _, by omega, by go_num, by rw [HE.out.1], by rw [HE.out.2], by rw [HWQ.out]; simp only [World.drewN_drewN]; exact rfl⟩, by simp [intOf]; omega⟩
        · have h5 : i = 5 := by omega
          have HO' := Lib.hid (show Own wr w.heap.size (some ⟨g, 0, none⟩) 5 5 b2 by rw [HWQ.out]; exact HO.out.drewN q)
          have HOT' := Lib.hid (show OwnT wr w.heap.size AT out.length cT (out.map payT) by rw [HWQ.out]; exact HOT.out.1.drewN q)
          have HB' := Lib.hid (show Below w.heap.size w wr by rw [HWQ.out]; exact below_drewN HB.out q)
          obtain ⟨L, hL⟩ : ∃ L, Ta.low b2 = L := ⟨_, rfl⟩
          obtain ⟨H, hH⟩ : ∃ H, Ta.high b2 = H := ⟨_, rfl⟩
          have eL : Ta.lowK b2 i = L := by rw [h5]; exact hL
          have eH : Ta.highK b2 i = H := by rw [h5]; exact hH
          rw [eL, eH]
          have L5 : L < 5 := by rw [← hL]; exact Ta.low_lt b2
          have H5 : H < 5 := by rw [← hH]; exact Ta.high_lt b2
          obtain ⟨y, hy⟩ : ∃ y, b2.getD L 0 = y := ⟨_, rfl⟩
          obtain ⟨z, hz⟩ : ∃ z, b2.getD H 0 = z := ⟨_, rfl⟩
          obtain ⟨m, hm⟩ : ∃ m, Ta.due b2 = m := ⟨_, rfl⟩
          have hmin : min z (-y) = m := by rw [← hm, Ta.due, hL, hH, hy, hz]; omega
          obtain ⟨g', hge, _, hgl, hcell, hfree⟩ := HO'.out.at_ (by omega)
          injection hge with hge
          injection hge with hge
          subst hge
          have cl := hcell L _ (getD_some (by omega))
          have ch := hcell H _ (getD_some (by omega))
          rw [hy] at cl
          rw [hz] at ch
          have by_ := HTD.out.2.2 L
          rw [hy] at by_
          have bz := HTD.out.2.2 H
          rw [hz] at bz
          have hneg : IntKind.i64.wrap (-y) = -y := neg_in by_
          have HEQ := Lib.hid (And.intro hL (And.intro hH (And.intro hm (And.intro hy hz))))
          have HMIN := Lib.hid hmin
          have hspec := Ta.due_spec HTD.out.2.1
          rw [hL, hH, hm, hy, hz] at hspec
          have HSP := Lib.hid hspec
          have HF := Lib.hid hfree
          clear h5 hL hH eL eH hy hz hm hmin hcell hfree hspec
          go_wp2_with fail
          go_quiet (fail)
          rw [HMIN.out]
          by_cases hm0 : m = 0
          · have HFIN := Lib.hid (show ∀ q, SSettlePost w ts (.returned (.tuple #[.slice AT out.length cT, .bool true])) (wr.drewN q) from fun q => HPS.out _ _ ⟨.inl ⟨out, HTD.out.1.done (by rw [HEQ.out.2.2.1]; exact hm0), AT, cT, rfl, HOT'.out.drewN q⟩, below_drewN HB'.out q⟩)
            subst hm0
            go_wp2
            go_ret2
            exact HFIN.out _
          have hmz : (m == 0) = false := by simpa using hm0
          have HM0 := Lib.hid hm0
          clear hm0
          go_wp2_with fail
          refine (specTallyNew_any (L : Int) (H : Int) m _).mono ?_
          rintro e w6 ⟨⟨hok, he⟩ | ⟨hno, he⟩, hb6⟩
          rotate_left
          · subst he
            have hb6' : Below wr.heap.size wr w6 := (below_drewN (Below.refl wr.heap.size wr) _).trans hb6
            have hm9 : 9999 < m := by
              by_cases h9 : 9999 < m
              · exact h9
              · obtain ⟨s0, _, s2⟩ := HSP.out
                have := s2 HM0.out
                exact absurd ⟨⟨by omega, by omega, by omega, by omega, fun e => this.2.2 (by omega)⟩, by have := HM0.out; omega, by omega⟩ hno
            have HN := Lib.hid (show ∀ o o' g c, SSettlePost w ts (.returned (.tuple #[.slice (some ⟨g, 0, none⟩) 0 c, .bool false])) ((w6.alloc o).alloc o') from fun o o' g c => HPS.out _ _ ⟨.inr ⟨HTD.out.1.no HTD.out.2.1 (by rw [HEQ.out.2.2.1]; exact HM0.out) (by rw [HEQ.out.2.2.1]; exact .inr hm9), g, c, rfl⟩,
              ((HB'.out.trans (hb6'.mono HB'.out.size)).alloc (Nat.le_trans HB'.out.size hb6'.size) _).alloc (by simp; have := HB'.out.size; have := hb6'.size; omega) _⟩)
            clear hb6 hb6' hno hm9
            unfold noTl
            go_wp2
            go_ret2
            exact HN.out _ _ _ _
          · have hb6' : Below wr.heap.size wr w6 := (below_drewN (Below.refl wr.heap.size wr) _).trans hb6
            have he : e = .returned (.tuple #[.agg #[.int .i64 (L : Int), .int .i64 (H : Int), .string (txt (Ta.ntext m.toNat)), .string (txt (Ta.ntext m.toNat))], .bool true]) := he
            subst he
            obtain ⟨s, hs⟩ : ∃ s, txt (Ta.ntext m.toNat) = s := ⟨_, rfl⟩
            have hpt : payT (L, H, m) = ⟨(L : Int), (H : Int), s, s⟩ := by rw [← hs]; rfl
            rw [hs]
            obtain ⟨W7, hW7⟩ : ∃ W7, w6.alloc (.cells #[.int .i64 (L : Int), .int .i64 (H : Int), .string s, .string s] 52) = W7 := ⟨_, rfl⟩
            have hb7 : Below wr.heap.size wr W7 := by rw [← hW7]; exact hb6'.alloc hb6'.size _
            have HPT := Lib.hid hpt
            have HM := Lib.hid hok
            have HO7 := Lib.hid (HO'.out.next hb7)
            have HOT7 := Lib.hid (HOT'.out.next hb7)
            have HB7 := Lib.hid (HB'.out.trans (hb7.mono HB'.out.size))
            have hglt : g < W7.heap.size := Nat.lt_of_lt_of_le hgl hb7.size
            have HGL := Lib.hid hglt
            obtain ⟨f2, rfl⟩ := HTD.out.1.pos HTD.out.2.1 (by rw [HEQ.out.2.2.1]; exact HM0.out)
            have hout : out.length ≤ 4 := by have := HTD.out.1.2.2; omega
            have HNB := Lib.hid (show w6.heap.size + 1 = W7.heap.size by rw [← hW7]; simp)
            have hspec := HSP.out
            have hLH : ¬ L = H := (hspec.2.2 HM0.out).2.2
            have hHL : ¬ H = L := fun e => hLH e.symm
            have wy : IntKind.i64.wrap (y + m) = y + m := IntWalk.i64_in _ (by have := HMIN.out; have := hspec.1; omega)
            have wz : IntKind.i64.wrap (z - m) = z - m := IntWalk.i64_in _ (by have := HMIN.out; have := hspec.1; omega)
            clear hpt hok hb7 hb6 hb6' hs cl ch hneg hspec hgl hglt by_ bz
            subst hW7
            go_wp2_with (refine wpList_app_t_at rfl _ _ rfl rfl HOT7.out ⟨(L : Int), (H : Int), s, s⟩ _ _ rfl HNB.out _ rfl (by omega) HB7.out.size ?_; intro A9 c9 w9 ho9 hg9 hat9; have hO9 := HO7.out.kept hg9 (fun q hq e => HOT.out.2 q e (by have hq : g = q := (by injection hq); exact hq.symm)); have HO9 := Lib.hid hO9; obtain ⟨g9, hge9, _, hgl9, hcell9, hfree9⟩ := hO9.at_ (by omega); injection hge9 with hge9; injection hge9 with hge9; subst hge9; have cl9 : w9.cell? ⟨g, L, none⟩ = some (.int .i64 y) := (by rw [← HEQ.out.2.2.2.1]; exact hcell9 L _ (getD_some (by omega))); have ch9 : w9.cell? ⟨g, H, none⟩ = some (.int .i64 z) := (by rw [← HEQ.out.2.2.2.2]; exact hcell9 H _ (getD_some (by omega))); have fl9 := hfree9 L; have fh9 := hfree9 H; have HOT9 := Lib.hid ho9; have HG9 := Lib.hid hg9; have HAT9 := Lib.hid hat9; clear hO9 hcell9 hfree9 ho9 hg9 hat9)
            have hnext := HTD.out.1.next HTD.out.2.1 (by rw [HEQ.out.2.2.1]; exact HM0.out) (by rw [HEQ.out.2.2.1]; exact HM.out.2.1) (by rw [HEQ.out.2.2.1]; exact HM.out.2.2)
            have hbal3 := Ta.pay_bal HTD.out.2.1 (by rw [HEQ.out.2.2.1]; exact HM0.out)
            have hbd3 := HTD.out.2.2.pay HTD.out.2.1 (by rw [HEQ.out.2.2.1]; exact HM0.out)
            rw [HEQ.out.1, HEQ.out.2.1, HEQ.out.2.2.1] at hnext hbal3 hbd3
            have hpay : Ta.pay b2 L H m = (b2.set L (y + m)).set H (z - m) := by unfold Ta.pay; rw [HEQ.out.2.2.2.1, HEQ.out.2.2.2.2]
            have hO10 := ((HO9.out.store L (y + m)).1.store H (z - m)).1
            rw [← hpay] at hO10
            have hsep9 : ∀ q, (Value.slice A9 (out.length + 1) c9).ownBlock = some q → q ≠ g := fun q hq => by
              rcases HAT9.out q hq with e | e
              · exact HOT.out.2 q e
              · have := HGL.out; omega
            have hOT10 := (HOT9.out.aside hsep9 L (.int .i64 (y + m))).aside hsep9 H (.int .i64 (z - m))
            have hgB : w.heap.size ≤ g := by have := HG.out; have := HSZ.out; omega
            have hB10 := ((HB7.out.grown HG9.out HB7.out.size (fun q hq => (HOT7.out.blk q hq).1)).setCell (p := ⟨g, L, none⟩) hgB (.int .i64 (y + m))).setCell (p := ⟨g, H, none⟩) hgB (.int .i64 (z - m))
            have hlen : (out ++ [(L, H, m)]).length = out.length + 1 := by simp
            refine ⟨⟨k + 1, by omega, by go_num, _, f2, out ++ [(L, H, m)], A9, c9, by rw [hlen, HKO.out], by rw [hlen], hnext, hbal3, hbd3, hO10, ?_, by rw [hlen]; exact hsep9, hB10⟩, by simp [intOf]; omega⟩
            rw [hlen, List.map_append, List.map_cons, List.map_nil, HPT.out]
            exact hOT10
    · have hk5 : k = 5 := by omega
      have hf0 : f = 0 := by have := HTD.out.1.2.2; have := HKO.out; omega
      have hset : Ta.settle 5 b = some out := by rw [HTD.out.1.1, hf0]; simp [Ta.settle]
      have HFIN := Lib.hid (show SSettlePost w ts (.returned (.tuple #[.slice AT out.length cT, .bool true])) wo from HPS.out _ _ ⟨.inl ⟨out, hset, AT, cT, rfl, HOT.out.1⟩, HB.out⟩)
      clear hk5 hf0 hset
      go_wp2
      go_ret2
      exact HFIN.out
end Go.Proofs.YthdoofmfigemoaaGreatDoor
end

section
/-
  FnExecuteSettle returns true for every code: debts are told and settled.
-/
namespace Go.Proofs.YthdoofmfigemoaaGreatDoor.fnExecuteSettle
open Go.RowKit
set_option linter.unusedSimpArgs false

theorem digits_int (v : Int) (h0 : 0 ≤ v) (h1 : v ≤ 1000000000) (w : World) : Calls Tryz.prog 21 #[.int .i64 v] w fun e w' => e = .returned (.string (dec v)) ∧ Below w.heap.size w w' := by
  obtain ⟨n, rfl⟩ := Int.eq_ofNat_of_zero_le h0
  exact digits_any n (by omega) w
theorem owe_eq (pre : List Tl) (t : Tl) : (((((((bs (oweText pre) ++ ⟨#[111, 119, 101, 32]⟩) ++ dec t.a) ++ ⟨#[32]⟩) ++ dec t.c) ++ ⟨#[32]⟩) ++ dec (worthB t.s)) ++ ⟨#[10]⟩) = bs (oweText (pre ++ [t])) := by
  show ((((((bs (oweText pre) ++ bs [111, 119, 101, 32]) ++ bs (Lib.itoa t.a)) ++ bs [32]) ++ bs (Lib.itoa t.c)) ++ bs [32]) ++ bs (Lib.itoa (worthB t.s))) ++ bs [10] = _
  simp only [bs_append]
  congr 1
  simp [oweText, oweLine, wOwe]
theorem oks_eq (n : Nat) : bs (oks n) ++ ⟨#[111, 107, 10]⟩ = bs (oks (n + 1)) := by
  show bs (oks n) ++ bs okL3 = _
  rw [bs_append]
  congr 1
  simp [oks, List.replicate_succ']
theorem due_eq (n : Nat) : bs (oks n) ++ ⟨#[111, 107, 10]⟩ = bs (outSettle n []) := by
  show bs (oks n) ++ bs okL3 = _
  rw [bs_append]
  simp [outSettle, tlText]
theorem tell_eq (n : Nat) (pre : List Tl) (t : Tl) : ((((((bs (outSettle n pre) ++ dec t.a) ++ ⟨#[62]⟩) ++ dec t.c) ++ ⟨#[32]⟩) ++ t.s) ++ ⟨#[10]⟩) = bs (outSettle n (pre ++ [t])) := by
  have e : t.s = bs t.s.data.toList := (bs_eta t.s).symm
  rw [e]
  show (((((bs (outSettle n pre) ++ bs (Lib.itoa t.a)) ++ bs [62]) ++ bs (Lib.itoa t.c)) ++ bs [32]) ++ bs t.s.data.toList) ++ bs [10] = _
  simp only [bs_append]
  congr 1
  simp [outSettle, tlText, tlLine, bs_list]
theorem script_eq (ts : List Tl) : bs (oweText ts) ++ ⟨#[115, 101, 116, 116, 108, 101, 10, 116, 97, 108, 108, 105, 101, 115, 10]⟩ = bs (oweText ts ++ tailS) := by
  show bs (oweText ts) ++ bs [115, 101, 116, 116, 108, 101, 10, 116, 97, 108, 108, 105, 101, 115, 10] = _
  rw [bs_append]
  rfl
theorem bs_size (l : List UInt8) : (bs l).size = l.length := by show l.toArray.size = _; simp
theorem oweText_len {ts : List Tl} (h : ∀ t ∈ ts, okB t = true) : (oweText ts).length ≤ 25 * ts.length := by
  induction ts with
  | nil => simp [oweText]
  | cons t ts ih =>
    have h1 := oweLine_len (h t List.mem_cons_self)
    have h2 := ih (fun u hu => h u (List.mem_cons_of_mem _ hu))
    simp only [oweText, List.flatMap_cons, List.length_append, List.length_cons, List.length_nil] at h2 ⊢
    omega
theorem oks_len (n : Nat) : (oks n).length = 3 * n := by simp [oks, okL3, List.length_flatten, Nat.mul_comm]
theorem outSettle_len {n : Nat} {us : List Tl} (h : ∀ t ∈ us, Told t) : (outSettle n us).length ≤ 3 * n + 3 + 90 * us.length := by
  have h1 := tlText_len h
  have h2 := oks_len n
  have h3 : okL3.length = 3 := rfl
  simp only [outSettle, List.length_append]
  omega
set_option maxRecDepth 100000 in
set_option maxHeartbeats 8000000 in
theorem walk (a0 : Option Addr) (len0 cap0 : Nat) (z0 : List Int) (w : World) (w0 : IsRow .u8 w a0 len0 cap0 z0) (hm : Max w) (hp : Pow w.heap.size w) :
    Calls Tryz.prog 10 #[.slice a0 len0 cap0] w fun e w' => e = .returned (.bool true) ∧ Below w.heap.size w w' := by
  by_cases hbig : 1048576 < len0
  · clear w0
    go_enter Tryz.func10, Tryz.ntmps10
    go_wp2
    go_ret
    exact ⟨rfl, Below.refl _ _⟩
  have HC := Lib.hid (Bytes.of_row w0)
  have HM := Lib.hid hm
  have HP := Lib.hid hp
  have h0w : 0 < w.heap.size := by obtain ⟨m, hm0⟩ := hm; exact World.block_lt_of_cell? w _ hm0
  clear w0 hm hp
  go_enter Tryz.func10, Tryz.ntmps10
  go_wp2_with fail
  refine (DrawTalliesSettle_any _ _ _ _ HC.out (by omega)).mono ?_
  rintro e w1 ⟨A1, n1, c1, ts, rfl, hx1, hn1, hsm, hb1⟩
  have HI1 := Lib.hid hx1
  have HB1 := Lib.hid hb1
  have HSM := Lib.hid hsm.small
  clear hx1 hb1 hsm
  go_wp2_with fail
  refine (TalliesSettle_any A1 n1 c1 ts w1 HI1.out HSM.out).mono ?_
  rintro e w2 ⟨⟨out, hok, hset, A2, c2, rfl, ho2⟩ | ⟨hno, rfl⟩, hb2⟩
  rotate_left
  · replace HI1 := Lib.hid (show Tals w2 w2.heap.size A1 n1 ts from Row.next HI1.out hb2)
    have HB2 := Lib.hid (below_chain HB1.out hb2)
    have HNO := Lib.hid hno
    clear hb2 hno
    go_wp2_with fail
    refine (specTalliesSettle_any A1 n1 c1 ts w2 HI1.out HSM.out).mono ?_
    rintro e w3 ⟨⟨out, hok, hset, A3, c3, rfl, ho3⟩ | ⟨hno3, g3, c3, rfl⟩, hb3⟩
    · exfalso
      rcases HNO.out with h | h
      · rw [h] at hok; cases hok
      · rw [h] at hset; cases hset
    have HB3 := Lib.hid (below_chain HB2.out hb3)
    clear hno3 hb3
    go_wp2_with fail
    refine (sameTallies_any none (some ⟨g3, 0, none⟩) 0 0 0 c3 [] [] w3 (Row.nil _ _ _ _) (Row.nil _ _ _ _)).mono ?_
    rintro e w4 ⟨rfl, hb4⟩
    rw [sameT_yes rfl]
    have HB4 := Lib.hid (below_chain HB3.out hb4)
    clear hb4
    go_wp2_with fail
    refine (sameTallies_any none (some ⟨g3, 0, none⟩) 0 0 0 c3 [] [] w4 (Row.nil _ _ _ _) (Row.nil _ _ _ _)).mono ?_
    rintro e w5 ⟨rfl, hb5⟩
    rw [sameT_yes rfl]
    have HB5 := Lib.hid (below_chain HB4.out hb5)
    clear hb5
    go_wp2
    go_ret
    exact ⟨rfl, HB5.out⟩
  replace HI1 := Lib.hid (show Tals w2 w2.heap.size A1 n1 ts from Row.next HI1.out hb2)
  have HB2 := Lib.hid (below_chain HB1.out hb2)
  have HI2 := Lib.hid ho2.tals
  have HOK := Lib.hid (And.intro hok hset)
  have hsd := settled hok hset
  have hout := hsd.few
  have htsl : ts.length = n1 := HI1.out.len
  have hall : ∀ t ∈ ts, okB t = true := by
    simp only [okL, Bool.and_eq_true, List.all_eq_true] at hok
    exact hok.2
  have hus0 : ∀ t ∈ out.map payT, Told t := by
    have h := hsd.ok
    simp only [okL, Bool.and_eq_true, List.all_eq_true] at h
    exact fun t ht => ok_told (h.2 t ht)
  obtain ⟨us, hus⟩ : ∃ us, out.map payT = us := ⟨_, rfl⟩
  rw [hus] at HI2 hus0
  have hul : us.length = out.length := by rw [← hus]; simp
  have HE := Lib.hid (show ∀ w : World, Max w → Pow w.heap.size w → ∀ s : ByteArray, s = bs (oweText ts ++ tailS) → Calls Tryz.prog 13 #[.string s] w fun e w' => e = .returned (.string (bs (outSettle ts.length us ++ endL 0 (out.length : Int)))) ∧ Below w.heap.size w w' from fun w h1 h2 s h3 => hus ▸ Execute_settle ts out hok hset (by omega) w h1 h2 h3)
  have HUS := Lib.hid hus
  have HAT := Lib.hid (And.intro hall (And.intro hus0 (And.intro htsl hul)))
  clear hb2 ho2 hok hset hus hsd hall hus0 htsl hul
  go_wp2_with fail
  refine (specTalliesSettle_any A1 n1 c1 ts w2 HI1.out HSM.out).mono ?_
  rintro e w3 ⟨⟨out3, hok3, hset3, A3, c3, rfl, ho3⟩ | ⟨hno3, g3, c3, rfl⟩, hb3⟩
  rotate_left
  · exfalso
    rcases hno3 with h | h
    · rw [HOK.out.1] at h; cases h
    · rw [HOK.out.2] at h; cases h
  obtain rfl : out = out3 := by have := HOK.out.2; rw [hset3] at this; injection this with this; exact this.symm
  have ht3 := ho3.tals
  rw [HUS.out] at ht3
  have HI3 := Lib.hid ht3
  replace HI1 := Lib.hid (show Tals w3 w3.heap.size A1 n1 ts from Row.next HI1.out hb3)
  replace HI2 := Lib.hid (show Tals w3 w3.heap.size A2 out.length us from Row.next HI2.out hb3)
  have HB3 := Lib.hid (below_chain HB2.out hb3)
  clear hb3 ho3 ht3 hok3 hset3
  go_wp2_with fail
  refine (sameTallies_any A2 A3 out.length out.length c2 c3 us us w3 HI2.out HI3.out).mono ?_
  rintro e w4 ⟨rfl, hb4⟩
  rw [sameT_yes rfl]
  replace HI1 := Lib.hid (show Tals w4 w4.heap.size A1 n1 ts from Row.next HI1.out hb4)
  replace HI2 := Lib.hid (show Tals w4 w4.heap.size A2 out.length us from Row.next HI2.out hb4)
  have HB4 := Lib.hid (below_chain HB3.out hb4)
  clear hb4 HI3
  have hn1' : (n1 : Int) ≤ 7 := by omega
  have ho1' : (out.length : Int) < 5 := by omega
  go_wp2_with fail
  go_loopw [8, 9, 10] (fun sv dv iv wr => ∃ (i : Nat), i ≤ n1 ∧ iv = .int .i64 (i : Int) ∧ sv = .string (bs (oweText (ts.take i))) ∧ dv = .string (bs (oks i)) ∧ Below w4.heap.size w4 wr) (fun _ _ iv _ => n1 - (intOf iv).toNat)
  case atStart => exact ⟨0, by omega, rfl, rfl, rfl, Below.refl _ _⟩
  case round =>
    obtain ⟨i, hi, rfl, rfl, rfl, hbel⟩ := hrel
    by_cases hlt : i < n1
    · obtain ⟨bk, off, t, rfl, hbk, ht, k0, k1, k2, k3⟩ := HI1.out.at_ hlt
      have hokt := HAT.out.1 t (List.mem_of_getElem? ht)
      obtain ⟨⟨a0', a1', c0', c1', _⟩, v0', v1'⟩ := ok_debt hokt
      have hts := (ok_told hokt).2.2.2.2
      have m0 := (hbel.cell (p := ⟨bk, off + i * 4, none⟩) hbk).trans k0
      have m1 := (hbel.cell (p := ⟨bk, off + i * 4 + 1, none⟩) hbk).trans k1
      have m2 := (hbel.cell (p := ⟨bk, off + i * 4 + 2, none⟩) hbk).trans k2
      have hi0 : (0 : Int) ≤ (i : Int) := by omega
      have hi1 : (i : Int) < (n1 : Int) := by omega
      have hpl := oweText_len (ts := ts.take i) (fun u hu => HAT.out.1 u (List.mem_of_mem_take hu))
      have htl : (ts.take i).length ≤ 7 := by rw [List.length_take]; omega
      have hxs : (bs (oweText (ts.take i))).size ≤ 175 := by rw [bs_size]; omega
      have hys : (bs (oks i)).size ≤ 21 := by rw [bs_size, oks_len]; omega
      have HLN := Lib.hid (owe_eq (ts.take i) t)
      have HOKS := Lib.hid (oks_eq i)
      obtain ⟨X, hX⟩ : ∃ X, bs (oweText (ts.take i)) = X := ⟨_, rfl⟩
      obtain ⟨Y, hY⟩ : ∃ Y, bs (oks i) = Y := ⟨_, rfl⟩
      rw [hX] at HLN hxs ⊢
      rw [hY] at HOKS hys ⊢
      obtain ⟨v, hv⟩ : ∃ v, worthB t.s = v := ⟨_, rfl⟩
      rw [hv] at HLN v0' v1'
      have d1 := dec_size t.a (by omega) (by omega)
      have d2 := dec_size t.c (by omega) (by omega)
      have d3 := dec_size v (by omega) (by omega)
      have q1 := no_long (n := X.size) (by omega) 4 (by omega)
      have q2 := no_long (n := X.size + 4) (by omega) (dec t.a).size (by omega)
      have q3 := no_long (n := X.size + 4 + (dec t.a).size) (by omega) 1 (by omega)
      have q4 := no_long (n := X.size + 4 + (dec t.a).size + 1) (by omega) (dec t.c).size (by omega)
      have q5 := no_long (n := X.size + 4 + (dec t.a).size + 1 + (dec t.c).size) (by omega) 1 (by omega)
      have q6 := no_long (n := X.size + 4 + (dec t.a).size + 1 + (dec t.c).size + 1) (by omega) (dec v).size (by omega)
      have q7 := no_long (n := X.size + 4 + (dec t.a).size + 1 + (dec t.c).size + 1 + (dec v).size) (by omega) 1 (by omega)
      have q8 := no_long (n := Y.size) (by omega) 3 (by omega)
      have HBEL := Lib.hid hbel
      have HTT := Lib.hid (And.intro ht hv)
      clear hbel ht hv k0 k1 k2 k3 hpl htl hX hY hokt
      go_wp2_with fail
      --<R
      refine wp_region_held_drew (S := (fun w' => w'.cell? ⟨bk, off + i * 4, none⟩ = some (.int .i64 t.a) ∧ w'.cell? ⟨bk, off + i * 4 + 1, none⟩ = some (.int .i64 t.c) ∧ w'.cell? ⟨bk, off + i * 4 + 2, none⟩ = some (.string t.s))) (by kernel_rfl) ?_ (fun hHeld => ?_)
      · (try dsimp only)
        all_goals (first | (refine ⟨?_, ?_, ?_⟩ <;> go_simp) | go_keep)
      refine wpAnyH_take (i := 0) (oi := { dst := some 54, op := _, type := _, pos := _, after := _, guard := _ }) (v := ?v1) rfl (by kernel_rfl) (by kernel_rfl) (by kernel_rfl) (fun _ _ _ h => h) (Or.inl ⟨by rfl, ?hy1⟩) (by first | assumption | exact hHeld) ?rest1
      case hy1 => ((intro w0 hSw; (try dsimp only at hSw); go_simp) <;> with_reducible rfl)
      (try simp only [Act.put, List.setIfInBounds_toArray, List.set_cons_zero, List.set_cons_succ])
      refine wpAnyH_take (i := 1) (oi := { dst := some 55, op := _, type := _, pos := _, after := _, guard := _ }) (v := ?v2) rfl (by kernel_rfl) (by kernel_rfl) (by kernel_rfl) (fun _ _ _ h => h) (Or.inl ⟨by rfl, ?hy2⟩) (by first | assumption | exact hHeld) ?rest2
      case hy2 => ((intro w0 hSw; (try dsimp only at hSw); go_simp) <;> with_reducible rfl)
      (try simp only [Act.put, List.setIfInBounds_toArray, List.set_cons_zero, List.set_cons_succ])
      refine wpAnyH_take (i := 2) (oi := { dst := some 56, op := _, type := _, pos := _, after := _, guard := _ }) (v := ?v3) rfl (by kernel_rfl) (by kernel_rfl) (by kernel_rfl) (fun _ _ _ h => h) (Or.inl ⟨by rfl, ?hy3⟩) (by first | assumption | exact hHeld) ?rest3
      case hy3 => ((intro w0 hSw; (try dsimp only at hSw); go_simp) <;> with_reducible rfl)
      (try simp only [Act.put, List.setIfInBounds_toArray, List.set_cons_zero, List.set_cons_succ])
      refine wpAnyH_take (i := 3) (oi := { dst := some 57, op := _, type := _, pos := _, after := _, guard := _ }) (v := ?v4) rfl (by kernel_rfl) (by kernel_rfl) (by kernel_rfl) (fun _ _ _ h => h) (Or.inl ⟨by rfl, ?hy4⟩) (by first | assumption | exact hHeld) ?rest4
      case hy4 => ((intro w0 hSw; (try dsimp only at hSw); go_simp) <;> with_reducible rfl)
      (try simp only [Act.put, List.setIfInBounds_toArray, List.set_cons_zero, List.set_cons_succ])
      refine wpAnyH_take (i := 4) (oi := { dst := some 58, op := _, type := _, pos := _, after := _, guard := _ }) (v := ?v5) rfl (by kernel_rfl) (by kernel_rfl) (by kernel_rfl) (fun _ _ _ h => h) (Or.inl ⟨by rfl, ?hy5⟩) (by first | assumption | exact hHeld) ?rest5
      case hy5 => ((intro w0 hSw; (try dsimp only at hSw); go_simp) <;> with_reducible rfl)
      (try simp only [Act.put, List.setIfInBounds_toArray, List.set_cons_zero, List.set_cons_succ])
      refine wpAnyH_take (i := 5) (oi := { dst := some 59, op := _, type := _, pos := _, after := _, guard := _ }) (v := ?v6) rfl (by kernel_rfl) (by kernel_rfl) (by kernel_rfl) (fun _ _ _ h => h) (Or.inl ⟨by rfl, ?hy6⟩) (by first | assumption | exact hHeld) ?rest6
      case hy6 => ((intro w0 hSw; (try dsimp only at hSw); go_simp) <;> with_reducible rfl)
      (try simp only [Act.put, List.setIfInBounds_toArray, List.set_cons_zero, List.set_cons_succ])
      refine wpAnyH_take (i := 6) (oi := { dst := some 60, op := _, type := _, pos := _, after := _, guard := _ }) (v := ?v7) rfl (by kernel_rfl) (by kernel_rfl) (by kernel_rfl) (fun _ _ _ h => h) (Or.inl ⟨by rfl, ?hy7⟩) (by first | assumption | exact hHeld) ?rest7
      case hy7 => ((intro w0 hSw; (try dsimp only at hSw); go_simp) <;> with_reducible rfl)
      (try simp only [Act.put, List.setIfInBounds_toArray, List.set_cons_zero, List.set_cons_succ])
      refine wpAnyH_take (i := 10) (oi := { dst := some 64, op := _, type := _, pos := _, after := _, guard := _ }) (v := ?v8) rfl (by kernel_rfl) (by kernel_rfl) (by kernel_rfl) (fun _ _ _ h => h) (Or.inl ⟨by rfl, ?hy8⟩) (by first | assumption | exact hHeld) ?rest8
      case hy8 => ((intro w0 hSw; (try dsimp only at hSw); go_simp) <;> with_reducible rfl)
      (try simp only [Act.put, List.setIfInBounds_toArray, List.set_cons_zero, List.set_cons_succ])
      refine wpAnyH_take (i := 11) (oi := { dst := some 65, op := _, type := _, pos := _, after := _, guard := _ }) (v := ?v9) rfl (by kernel_rfl) (by kernel_rfl) (by kernel_rfl) (fun _ _ _ h => h) (Or.inl ⟨by rfl, ?hy9⟩) (by first | assumption | exact hHeld) ?rest9
      case hy9 => ((intro w0 hSw; (try dsimp only at hSw); go_simp) <;> with_reducible rfl)
      (try simp only [Act.put, List.setIfInBounds_toArray, List.set_cons_zero, List.set_cons_succ])
      refine wpAnyH_take (i := 12) (oi := { dst := some 66, op := _, type := _, pos := _, after := _, guard := _ }) (v := ?v10) rfl (by kernel_rfl) (by kernel_rfl) (by kernel_rfl) (fun _ _ _ h => h) (Or.inl ⟨by rfl, ?hy10⟩) (by first | assumption | exact hHeld) ?rest10
      case hy10 => ((intro w0 hSw; (try dsimp only at hSw); go_simp) <;> with_reducible rfl)
      (try simp only [Act.put, List.setIfInBounds_toArray, List.set_cons_zero, List.set_cons_succ])
      refine wpAnyH_take (i := 13) (oi := { dst := some 67, op := _, type := _, pos := _, after := _, guard := _ }) (v := ?v11) rfl (by kernel_rfl) (by kernel_rfl) (by kernel_rfl) (fun _ _ _ h => h) (Or.inl ⟨by rfl, ?hy11⟩) (by first | assumption | exact hHeld) ?rest11
      case hy11 => ((intro w0 hSw; (try dsimp only at hSw); go_simp) <;> with_reducible rfl)
      (try simp only [Act.put, List.setIfInBounds_toArray, List.set_cons_zero, List.set_cons_succ])
      refine wpAnyH_take (i := 14) (oi := { dst := some 68, op := _, type := _, pos := _, after := _, guard := _ }) (v := ?v12) rfl (by kernel_rfl) (by kernel_rfl) (by kernel_rfl) (fun _ _ _ h => h) (Or.inl ⟨by rfl, ?hy12⟩) (by first | assumption | exact hHeld) ?rest12
      case hy12 => ((intro w0 hSw; (try dsimp only at hSw); go_simp) <;> with_reducible rfl)
      (try simp only [Act.put, List.setIfInBounds_toArray, List.set_cons_zero, List.set_cons_succ])
      refine wpAnyH_take (i := 18) (oi := { dst := some 72, op := _, type := _, pos := _, after := _, guard := _ }) (v := ?v13) rfl (by kernel_rfl) (by kernel_rfl) (by kernel_rfl) (fun _ _ _ h => h) (Or.inl ⟨by rfl, ?hy13⟩) (by first | assumption | exact hHeld) ?rest13
      case hy13 => ((intro w0 hSw; (try dsimp only at hSw); go_simp) <;> with_reducible rfl)
      (try simp only [Act.put, List.setIfInBounds_toArray, List.set_cons_zero, List.set_cons_succ])
      refine wpAnyH_take (i := 19) (oi := { dst := some 73, op := _, type := _, pos := _, after := _, guard := _ }) (v := ?v14) rfl (by kernel_rfl) (by kernel_rfl) (by kernel_rfl) (fun _ _ _ h => h) (Or.inl ⟨by rfl, ?hy14⟩) (by first | assumption | exact hHeld) ?rest14
      case hy14 => ((intro w0 hSw; (try dsimp only at hSw); go_simp) <;> with_reducible rfl)
      (try simp only [Act.put, List.setIfInBounds_toArray, List.set_cons_zero, List.set_cons_succ])
      refine wpAnyH_take (i := 20) (oi := { dst := some 74, op := _, type := _, pos := _, after := _, guard := _ }) (v := ?v15) rfl (by kernel_rfl) (by kernel_rfl) (by kernel_rfl) (fun _ _ _ h => h) (Or.inl ⟨by rfl, ?hy15⟩) (by first | assumption | exact hHeld) ?rest15
      case hy15 => ((intro w0 hSw; (try dsimp only at hSw); go_simp) <;> with_reducible rfl)
      (try simp only [Act.put, List.setIfInBounds_toArray, List.set_cons_zero, List.set_cons_succ])
      refine wpAnyH_take (i := 21) (oi := { dst := some 75, op := _, type := _, pos := _, after := _, guard := _ }) (v := ?v16) rfl (by kernel_rfl) (by kernel_rfl) (by kernel_rfl) (fun _ _ _ h => h) (Or.inl ⟨by rfl, ?hy16⟩) (by first | assumption | exact hHeld) ?rest16
      case hy16 => ((intro w0 hSw; (try dsimp only at hSw); go_simp) <;> with_reducible rfl)
      (try simp only [Act.put, List.setIfInBounds_toArray, List.set_cons_zero, List.set_cons_succ])
      refine wpAnyH_take (i := 22) (oi := { dst := some 76, op := _, type := _, pos := _, after := _, guard := _ }) (v := ?v17) rfl (by kernel_rfl) (by kernel_rfl) (by kernel_rfl) (fun _ _ _ h => h) (Or.inl ⟨by rfl, ?hy17⟩) (by first | assumption | exact hHeld) ?rest17
      case hy17 => ((intro w0 hSw; (try dsimp only at hSw); go_simp) <;> with_reducible rfl)
      (try simp only [Act.put, List.setIfInBounds_toArray, List.set_cons_zero, List.set_cons_succ])
      refine wpAnyH_ready (rs := [7]) (by kernel_rfl) (by simp) ?_
      refine AllReadyH.cons (o := { dst := some 61, op := _, type := _, pos := _, after := _, guard := _ }) rfl (fun K hK => ?_) ?_
      · go_simp
        refine (digits_int t.a a0' (by omega) _).mono ?_
        rintro e w5 ⟨rfl, hb5'⟩
        have hb5 := (Below.refl wr.heap.size wr).drew.trans hb5'
        have p0 := (hb5.cell (p := ⟨bk, off + i * 4, none⟩) (Nat.lt_of_lt_of_le hbk HBEL.out.size)).trans m0
        have p1 := (hb5.cell (p := ⟨bk, off + i * 4 + 1, none⟩) (Nat.lt_of_lt_of_le hbk HBEL.out.size)).trans m1
        have p2 := (hb5.cell (p := ⟨bk, off + i * 4 + 2, none⟩) (Nat.lt_of_lt_of_le hbk HBEL.out.size)).trans m2
        have HB5' := Lib.hid hb5
        clear hb5 hb5'
        refine hK.out _ _ ?_ (fun hHeld18 => ?_)
        · (try dsimp only)
          all_goals (first | (refine ⟨?_, ?_, ?_⟩ <;> go_simp) | go_keep)
        clear hK K
        (try clear hHeld)
        (try simp only [Act.put, List.setIfInBounds_toArray, List.set_cons_zero, List.set_cons_succ])
        refine wpAnyH_take (i := 8) (oi := { dst := some 62, op := _, type := _, pos := _, after := _, guard := _ }) (v := ?v19) rfl (by kernel_rfl) (by kernel_rfl) (by kernel_rfl) (fun _ _ _ h => h) (Or.inl ⟨by rfl, ?hy19⟩) (by first | assumption | exact hHeld18) ?rest19
        case hy19 => ((intro w0 hSw; (try dsimp only at hSw); go_simp) <;> with_reducible rfl)
        (try simp only [Act.put, List.setIfInBounds_toArray, List.set_cons_zero, List.set_cons_succ])
        refine wpAnyH_take (i := 9) (oi := { dst := some 63, op := _, type := _, pos := _, after := _, guard := _ }) (v := ?v20) rfl (by kernel_rfl) (by kernel_rfl) (by kernel_rfl) (fun _ _ _ h => h) (Or.inl ⟨by rfl, ?hy20⟩) (by first | assumption | exact hHeld18) ?rest20
        case hy20 => ((intro w0 hSw; (try dsimp only at hSw); go_simp) <;> with_reducible rfl)
        (try simp only [Act.put, List.setIfInBounds_toArray, List.set_cons_zero, List.set_cons_succ])
        refine wpAnyH_ready (rs := [15]) (by kernel_rfl) (by simp) ?_
        refine AllReadyH.cons (o := { dst := some 69, op := _, type := _, pos := _, after := _, guard := _ }) rfl (fun K hK => ?_) ?_
        · go_simp
          refine (digits_int t.c c0' (by omega) _).mono ?_
          rintro e w6 ⟨rfl, hb6'⟩
          have hb6 := HB5'.out.trans (hb6'.mono HB5'.out.size)
          have q0 := (hb6.cell (p := ⟨bk, off + i * 4, none⟩) (Nat.lt_of_lt_of_le hbk HBEL.out.size)).trans m0
          have q1 := (hb6.cell (p := ⟨bk, off + i * 4 + 1, none⟩) (Nat.lt_of_lt_of_le hbk HBEL.out.size)).trans m1
          have q2 := (hb6.cell (p := ⟨bk, off + i * 4 + 2, none⟩) (Nat.lt_of_lt_of_le hbk HBEL.out.size)).trans m2
          have HB6' := Lib.hid hb6
          clear hb6 hb6'
          refine hK.out _ _ ?_ (fun hHeld21 => ?_)
          · (try dsimp only)
            all_goals (first | (refine ⟨?_, ?_, ?_⟩ <;> go_simp) | go_keep)
          clear hK K
          (try clear hHeld18)
          (try simp only [Act.put, List.setIfInBounds_toArray, List.set_cons_zero, List.set_cons_succ])
          refine wpAnyH_take (i := 16) (oi := { dst := some 70, op := _, type := _, pos := _, after := _, guard := _ }) (v := ?v22) rfl (by kernel_rfl) (by kernel_rfl) (by kernel_rfl) (fun _ _ _ h => h) (Or.inl ⟨by rfl, ?hy22⟩) (by first | assumption | exact hHeld21) ?rest22
          case hy22 => ((intro w0 hSw; (try dsimp only at hSw); go_simp) <;> with_reducible rfl)
          (try simp only [Act.put, List.setIfInBounds_toArray, List.set_cons_zero, List.set_cons_succ])
          refine wpAnyH_take (i := 17) (oi := { dst := some 71, op := _, type := _, pos := _, after := _, guard := _ }) (v := ?v23) rfl (by kernel_rfl) (by kernel_rfl) (by kernel_rfl) (fun _ _ _ h => h) (Or.inl ⟨by rfl, ?hy23⟩) (by first | assumption | exact hHeld21) ?rest23
          case hy23 => ((intro w0 hSw; (try dsimp only at hSw); go_simp) <;> with_reducible rfl)
          (try simp only [Act.put, List.setIfInBounds_toArray, List.set_cons_zero, List.set_cons_succ])
          refine wpAnyH_ready (rs := [23]) (by kernel_rfl) (by simp) ?_
          refine AllReadyH.cons (o := { dst := some 77, op := _, type := _, pos := _, after := _, guard := _ }) rfl (fun K hK => ?_) ?_
          · go_simp
            refine (NotchesWorth_any t.s _ (by omega)).mono ?_
            rw [HTT.out.2]
            rintro e w7 ⟨rfl, hb7'⟩
            have hb7 := HB6'.out.trans (hb7'.mono HB6'.out.size)
            have r0 := (hb7.cell (p := ⟨bk, off + i * 4, none⟩) (Nat.lt_of_lt_of_le hbk HBEL.out.size)).trans m0
            have r1 := (hb7.cell (p := ⟨bk, off + i * 4 + 1, none⟩) (Nat.lt_of_lt_of_le hbk HBEL.out.size)).trans m1
            have r2 := (hb7.cell (p := ⟨bk, off + i * 4 + 2, none⟩) (Nat.lt_of_lt_of_le hbk HBEL.out.size)).trans m2
            have HB7' := Lib.hid hb7
            clear hb7 hb7'
            refine hK.out _ _ ?_ (fun hHeld24 => ?_)
            · (try dsimp only)
              all_goals (first | (refine ⟨?_, ?_, ?_⟩ <;> go_simp) | go_keep)
            clear hK K
            (try clear hHeld21)
            (try simp only [Act.put, List.setIfInBounds_toArray, List.set_cons_zero, List.set_cons_succ])
            refine wpAnyH_ready (rs := [24]) (by kernel_rfl) (by simp) ?_
            refine AllReadyH.cons (o := { dst := some 78, op := _, type := _, pos := _, after := _, guard := _ }) rfl (fun K hK => ?_) ?_
            · go_simp
              refine (digits_int v (by omega) (by omega) _).mono ?_
              rintro e w8 ⟨rfl, hb8'⟩
              have hb8 := HB7'.out.trans (hb8'.mono HB7'.out.size)
              have s0 := (hb8.cell (p := ⟨bk, off + i * 4, none⟩) (Nat.lt_of_lt_of_le hbk HBEL.out.size)).trans m0
              have s1 := (hb8.cell (p := ⟨bk, off + i * 4 + 1, none⟩) (Nat.lt_of_lt_of_le hbk HBEL.out.size)).trans m1
              have s2 := (hb8.cell (p := ⟨bk, off + i * 4 + 2, none⟩) (Nat.lt_of_lt_of_le hbk HBEL.out.size)).trans m2
              have HB8' := Lib.hid hb8
              clear hb8 hb8'
              refine hK.out _ _ ?_ (fun hHeld25 => ?_)
              · (try dsimp only)
                all_goals (first | (refine ⟨?_, ?_, ?_⟩ <;> go_simp) | go_keep)
              clear hK K
              (try clear hHeld24)
              (try simp only [Act.put, List.setIfInBounds_toArray, List.set_cons_zero, List.set_cons_succ])
              refine wpAnyH_take (i := 25) (oi := { dst := some 79, op := _, type := _, pos := _, after := _, guard := _ }) (v := ?v26) rfl (by kernel_rfl) (by kernel_rfl) (by kernel_rfl) (fun _ _ _ h => h) (Or.inl ⟨by rfl, ?hy26⟩) (by first | assumption | exact hHeld25) ?rest26
              case hy26 => ((intro w0 hSw; (try dsimp only at hSw); go_simp) <;> with_reducible rfl)
              (try simp only [Act.put, List.setIfInBounds_toArray, List.set_cons_zero, List.set_cons_succ])
              refine wpAnyH_take (i := 26) (oi := { dst := some 80, op := _, type := _, pos := _, after := _, guard := _ }) (v := ?v27) rfl (by kernel_rfl) (by kernel_rfl) (by kernel_rfl) (fun _ _ _ h => h) (Or.inl ⟨by rfl, ?hy27⟩) (by first | assumption | exact hHeld25) ?rest27
              case hy27 => ((intro w0 hSw; (try dsimp only at hSw); go_simp) <;> with_reducible rfl)
              (try simp only [Act.put, List.setIfInBounds_toArray, List.set_cons_zero, List.set_cons_succ])
              refine wpAnyH_take (i := 27) (oi := { dst := some 8, op := _, type := _, pos := _, after := _, guard := _ }) (v := ?v28) rfl (by kernel_rfl) (by kernel_rfl) (by kernel_rfl) (fun _ _ _ h => h) (Or.inl ⟨by rfl, ?hy28⟩) (by first | assumption | exact hHeld25) ?rest28
              case hy28 => ((intro w0 hSw; (try dsimp only at hSw); go_simp) <;> with_reducible rfl)
              (try simp only [Act.put, List.setIfInBounds_toArray, List.set_cons_zero, List.set_cons_succ])
              refine wpAnyH_done (by kernel_rfl) ?_ _
              rw [HLN.out]
              go_wp2_with fail
              rw [HOKS.out]
              exact ⟨⟨i + 1, by omega, by go_num, by rw [take_next HTT.out.1], rfl, HBEL.out.trans (HB8'.out.mono HBEL.out.size)⟩, by simp [intOf]; omega⟩
            exact AllReadyH.nil
          exact AllReadyH.nil
        exact AllReadyH.nil
      exact AllReadyH.nil
      --R>
    · obtain rfl : i = n1 := by omega
      have htk : ts.take i = ts := List.take_of_length_le (by rw [HAT.out.2.2.1]; omega)
      rw [htk]
      have hxs : (bs (oweText ts)).size ≤ 175 := by
        have := oweText_len HAT.out.1
        have h7 := HAT.out.2.2.1
        rw [bs_size]
        omega
      have hys : (bs (oks i)).size ≤ 21 := by rw [bs_size, oks_len]; omega
      have HDUE := Lib.hid (due_eq i)
      have HSC := Lib.hid (script_eq ts)
      obtain ⟨X, hX⟩ : ∃ X, bs (oweText ts) = X := ⟨_, rfl⟩
      obtain ⟨Y, hY⟩ : ∃ Y, bs (oks i) = Y := ⟨_, rfl⟩
      rw [hX] at HSC hxs ⊢
      rw [hY] at HDUE hys ⊢
      have q8 := no_long (n := Y.size) (by omega) 3 (by omega)
      have q9 := no_long (n := X.size) (by omega) 15 (by omega)
      have HBEL := Lib.hid hbel
      clear hbel htk hX hY
      go_wp2_with fail
      rw [HDUE.out]
      obtain ⟨wq, rfl⟩ : ∃ V, V = wr := ⟨_, rfl⟩
      go_loopw [9, 11] (fun dv jv wJ => ∃ (j : Nat), j ≤ out.length ∧ jv = .int .i64 (j : Int) ∧ dv = .string (bs (outSettle i (us.take j))) ∧ Below wq.heap.size wq wJ) (fun _ jv _ => out.length - (intOf jv).toNat)
      case atStart => exact ⟨0, by omega, rfl, rfl, Below.refl _ _⟩
      case round =>
        obtain ⟨j, hj, rfl, rfl, hbj⟩ := hrel
        by_cases hjt : j < out.length
        · obtain ⟨bk, off, t, rfl, hbk, ht, k0, k1, k2, k3⟩ := HI2.out.at_ hjt
          obtain ⟨a0', a1', c0', c1', hts⟩ := HAT.out.2.1 t (List.mem_of_getElem? ht)
          have hbw := HBEL.out.trans (hbj.mono HBEL.out.size)
          have m0 := (hbw.cell (p := ⟨bk, off + j * 4, none⟩) hbk).trans k0
          have m1 := (hbw.cell (p := ⟨bk, off + j * 4 + 1, none⟩) hbk).trans k1
          have m2 := (hbw.cell (p := ⟨bk, off + j * 4 + 2, none⟩) hbk).trans k2
          have hj0 : (0 : Int) ≤ (j : Int) := by omega
          have hj1 : (j : Int) < (out.length : Int) := by omega
          have hpl := outSettle_len (n := i) (us := us.take j) (fun u hu => HAT.out.2.1 u (List.mem_of_mem_take hu))
          have htl : (us.take j).length ≤ 5 := by rw [List.length_take]; omega
          have hzs : (bs (outSettle i (us.take j))).size ≤ 2000 := by rw [bs_size]; omega
          have HTL := Lib.hid (tell_eq i (us.take j) t)
          obtain ⟨Z, hZ⟩ : ∃ Z, bs (outSettle i (us.take j)) = Z := ⟨_, rfl⟩
          rw [hZ] at HTL hzs ⊢
          have d1 := dec_size t.a (by omega) (by omega)
          have d2 := dec_size t.c (by omega) (by omega)
          have q1 := no_long (n := Z.size) (by omega) (dec t.a).size (by omega)
          have q2 := no_long (n := Z.size + (dec t.a).size) (by omega) 1 (by omega)
          have q3 := no_long (n := Z.size + (dec t.a).size + 1) (by omega) (dec t.c).size (by omega)
          have q4 := no_long (n := Z.size + (dec t.a).size + 1 + (dec t.c).size) (by omega) 1 (by omega)
          have q5 := no_long (n := Z.size + (dec t.a).size + 1 + (dec t.c).size + 1) (by omega) t.s.size (by omega)
          have q6 := no_long (n := Z.size + (dec t.a).size + 1 + (dec t.c).size + 1 + t.s.size) (by omega) 1 (by omega)
          have HBJ := Lib.hid hbj
          have HTT := Lib.hid ht
          have hbkj : bk < wr.heap.size := by have := HBEL.out.size; have := hbj.size; omega
          have hbk4 : bk < wq.heap.size := by have := HBEL.out.size; omega
          clear hbj hbw ht k0 k1 k2 k3 hpl htl hZ
          go_wp2_with fail
          --<S
          refine wp_region_held_drew (S := (fun w' => w'.cell? ⟨bk, off + j * 4, none⟩ = some (.int .i64 t.a) ∧ w'.cell? ⟨bk, off + j * 4 + 1, none⟩ = some (.int .i64 t.c) ∧ w'.cell? ⟨bk, off + j * 4 + 2, none⟩ = some (.string t.s))) (by kernel_rfl) ?_ (fun hHeld => ?_)
          · (try dsimp only)
            all_goals (first | (refine ⟨?_, ?_, ?_⟩ <;> go_simp) | go_keep)
          refine wpAnyH_take (i := 0) (oi := { dst := some 91, op := _, type := _, pos := _, after := _, guard := _ }) (v := ?v1001) rfl (by kernel_rfl) (by kernel_rfl) (by kernel_rfl) (fun _ _ _ h => h) (Or.inl ⟨by rfl, ?hy1001⟩) (by first | assumption | exact hHeld) ?rest1001
          case hy1001 => ((intro w0 hSw; (try dsimp only at hSw); go_simp) <;> with_reducible rfl)
          (try simp only [Act.put, List.setIfInBounds_toArray, List.set_cons_zero, List.set_cons_succ])
          refine wpAnyH_take (i := 1) (oi := { dst := some 92, op := _, type := _, pos := _, after := _, guard := _ }) (v := ?v1002) rfl (by kernel_rfl) (by kernel_rfl) (by kernel_rfl) (fun _ _ _ h => h) (Or.inl ⟨by rfl, ?hy1002⟩) (by first | assumption | exact hHeld) ?rest1002
          case hy1002 => ((intro w0 hSw; (try dsimp only at hSw); go_simp) <;> with_reducible rfl)
          (try simp only [Act.put, List.setIfInBounds_toArray, List.set_cons_zero, List.set_cons_succ])
          refine wpAnyH_take (i := 2) (oi := { dst := some 93, op := _, type := _, pos := _, after := _, guard := _ }) (v := ?v1003) rfl (by kernel_rfl) (by kernel_rfl) (by kernel_rfl) (fun _ _ _ h => h) (Or.inl ⟨by rfl, ?hy1003⟩) (by first | assumption | exact hHeld) ?rest1003
          case hy1003 => ((intro w0 hSw; (try dsimp only at hSw); go_simp) <;> with_reducible rfl)
          (try simp only [Act.put, List.setIfInBounds_toArray, List.set_cons_zero, List.set_cons_succ])
          refine wpAnyH_take (i := 3) (oi := { dst := some 94, op := _, type := _, pos := _, after := _, guard := _ }) (v := ?v1004) rfl (by kernel_rfl) (by kernel_rfl) (by kernel_rfl) (fun _ _ _ h => h) (Or.inl ⟨by rfl, ?hy1004⟩) (by first | assumption | exact hHeld) ?rest1004
          case hy1004 => ((intro w0 hSw; (try dsimp only at hSw); go_simp) <;> with_reducible rfl)
          (try simp only [Act.put, List.setIfInBounds_toArray, List.set_cons_zero, List.set_cons_succ])
          refine wpAnyH_take (i := 4) (oi := { dst := some 95, op := _, type := _, pos := _, after := _, guard := _ }) (v := ?v1005) rfl (by kernel_rfl) (by kernel_rfl) (by kernel_rfl) (fun _ _ _ h => h) (Or.inl ⟨by rfl, ?hy1005⟩) (by first | assumption | exact hHeld) ?rest1005
          case hy1005 => ((intro w0 hSw; (try dsimp only at hSw); go_simp) <;> with_reducible rfl)
          (try simp only [Act.put, List.setIfInBounds_toArray, List.set_cons_zero, List.set_cons_succ])
          refine wpAnyH_take (i := 5) (oi := { dst := some 96, op := _, type := _, pos := _, after := _, guard := _ }) (v := ?v1006) rfl (by kernel_rfl) (by kernel_rfl) (by kernel_rfl) (fun _ _ _ h => h) (Or.inl ⟨by rfl, ?hy1006⟩) (by first | assumption | exact hHeld) ?rest1006
          case hy1006 => ((intro w0 hSw; (try dsimp only at hSw); go_simp) <;> with_reducible rfl)
          (try simp only [Act.put, List.setIfInBounds_toArray, List.set_cons_zero, List.set_cons_succ])
          refine wpAnyH_take (i := 9) (oi := { dst := some 100, op := _, type := _, pos := _, after := _, guard := _ }) (v := ?v1007) rfl (by kernel_rfl) (by kernel_rfl) (by kernel_rfl) (fun _ _ _ h => h) (Or.inl ⟨by rfl, ?hy1007⟩) (by first | assumption | exact hHeld) ?rest1007
          case hy1007 => ((intro w0 hSw; (try dsimp only at hSw); go_simp) <;> with_reducible rfl)
          (try simp only [Act.put, List.setIfInBounds_toArray, List.set_cons_zero, List.set_cons_succ])
          refine wpAnyH_take (i := 10) (oi := { dst := some 101, op := _, type := _, pos := _, after := _, guard := _ }) (v := ?v1008) rfl (by kernel_rfl) (by kernel_rfl) (by kernel_rfl) (fun _ _ _ h => h) (Or.inl ⟨by rfl, ?hy1008⟩) (by first | assumption | exact hHeld) ?rest1008
          case hy1008 => ((intro w0 hSw; (try dsimp only at hSw); go_simp) <;> with_reducible rfl)
          (try simp only [Act.put, List.setIfInBounds_toArray, List.set_cons_zero, List.set_cons_succ])
          refine wpAnyH_take (i := 11) (oi := { dst := some 102, op := _, type := _, pos := _, after := _, guard := _ }) (v := ?v1009) rfl (by kernel_rfl) (by kernel_rfl) (by kernel_rfl) (fun _ _ _ h => h) (Or.inl ⟨by rfl, ?hy1009⟩) (by first | assumption | exact hHeld) ?rest1009
          case hy1009 => ((intro w0 hSw; (try dsimp only at hSw); go_simp) <;> with_reducible rfl)
          (try simp only [Act.put, List.setIfInBounds_toArray, List.set_cons_zero, List.set_cons_succ])
          refine wpAnyH_take (i := 12) (oi := { dst := some 103, op := _, type := _, pos := _, after := _, guard := _ }) (v := ?v1010) rfl (by kernel_rfl) (by kernel_rfl) (by kernel_rfl) (fun _ _ _ h => h) (Or.inl ⟨by rfl, ?hy1010⟩) (by first | assumption | exact hHeld) ?rest1010
          case hy1010 => ((intro w0 hSw; (try dsimp only at hSw); go_simp) <;> with_reducible rfl)
          (try simp only [Act.put, List.setIfInBounds_toArray, List.set_cons_zero, List.set_cons_succ])
          refine wpAnyH_take (i := 13) (oi := { dst := some 104, op := _, type := _, pos := _, after := _, guard := _ }) (v := ?v1011) rfl (by kernel_rfl) (by kernel_rfl) (by kernel_rfl) (fun _ _ _ h => h) (Or.inl ⟨by rfl, ?hy1011⟩) (by first | assumption | exact hHeld) ?rest1011
          case hy1011 => ((intro w0 hSw; (try dsimp only at hSw); go_simp) <;> with_reducible rfl)
          (try simp only [Act.put, List.setIfInBounds_toArray, List.set_cons_zero, List.set_cons_succ])
          refine wpAnyH_take (i := 17) (oi := { dst := some 108, op := _, type := _, pos := _, after := _, guard := _ }) (v := ?v1012) rfl (by kernel_rfl) (by kernel_rfl) (by kernel_rfl) (fun _ _ _ h => h) (Or.inl ⟨by rfl, ?hy1012⟩) (by first | assumption | exact hHeld) ?rest1012
          case hy1012 => ((intro w0 hSw; (try dsimp only at hSw); go_simp) <;> with_reducible rfl)
          (try simp only [Act.put, List.setIfInBounds_toArray, List.set_cons_zero, List.set_cons_succ])
          refine wpAnyH_take (i := 18) (oi := { dst := some 109, op := _, type := _, pos := _, after := _, guard := _ }) (v := ?v1013) rfl (by kernel_rfl) (by kernel_rfl) (by kernel_rfl) (fun _ _ _ h => h) (Or.inl ⟨by rfl, ?hy1013⟩) (by first | assumption | exact hHeld) ?rest1013
          case hy1013 => ((intro w0 hSw; (try dsimp only at hSw); go_simp) <;> with_reducible rfl)
          (try simp only [Act.put, List.setIfInBounds_toArray, List.set_cons_zero, List.set_cons_succ])
          refine wpAnyH_take (i := 19) (oi := { dst := some 110, op := _, type := _, pos := _, after := _, guard := _ }) (v := ?v1014) rfl (by kernel_rfl) (by kernel_rfl) (by kernel_rfl) (fun _ _ _ h => h) (Or.inl ⟨by rfl, ?hy1014⟩) (by first | assumption | exact hHeld) ?rest1014
          case hy1014 => ((intro w0 hSw; (try dsimp only at hSw); go_simp) <;> with_reducible rfl)
          (try simp only [Act.put, List.setIfInBounds_toArray, List.set_cons_zero, List.set_cons_succ])
          refine wpAnyH_take (i := 20) (oi := { dst := some 111, op := _, type := _, pos := _, after := _, guard := _ }) (v := ?v1015) rfl (by kernel_rfl) (by kernel_rfl) (by kernel_rfl) (fun _ _ _ h => h) (Or.inl ⟨by rfl, ?hy1015⟩) (by first | assumption | exact hHeld) ?rest1015
          case hy1015 => ((intro w0 hSw; (try dsimp only at hSw); go_simp) <;> with_reducible rfl)
          (try simp only [Act.put, List.setIfInBounds_toArray, List.set_cons_zero, List.set_cons_succ])
          refine wpAnyH_take (i := 21) (oi := { dst := some 112, op := _, type := _, pos := _, after := _, guard := _ }) (v := ?v1016) rfl (by kernel_rfl) (by kernel_rfl) (by kernel_rfl) (fun _ _ _ h => h) (Or.inl ⟨by rfl, ?hy1016⟩) (by first | assumption | exact hHeld) ?rest1016
          case hy1016 => ((intro w0 hSw; (try dsimp only at hSw); go_simp) <;> with_reducible rfl)
          (try simp only [Act.put, List.setIfInBounds_toArray, List.set_cons_zero, List.set_cons_succ])
          refine wpAnyH_ready (rs := [6]) (by kernel_rfl) (by simp) ?_
          refine AllReadyH.cons (o := { dst := some 97, op := _, type := _, pos := _, after := _, guard := _ }) rfl (fun K hK => ?_) ?_
          · go_simp
            refine (digits_int t.a a0' (by omega) _).mono ?_
            rintro e w5 ⟨rfl, hb5'⟩
            have hb5 := (Below.refl wr.heap.size wr).drew.trans hb5'
            have p0 := (hb5.cell (p := ⟨bk, off + j * 4, none⟩) (hbkj)).trans m0
            have p1 := (hb5.cell (p := ⟨bk, off + j * 4 + 1, none⟩) (hbkj)).trans m1
            have p2 := (hb5.cell (p := ⟨bk, off + j * 4 + 2, none⟩) (hbkj)).trans m2
            have HB5' := Lib.hid hb5
            clear hb5 hb5'
            refine hK.out _ _ ?_ (fun hHeld1017 => ?_)
            · (try dsimp only)
              all_goals (first | (refine ⟨?_, ?_, ?_⟩ <;> go_simp) | go_keep)
            clear hK K
            (try clear hHeld)
            (try simp only [Act.put, List.setIfInBounds_toArray, List.set_cons_zero, List.set_cons_succ])
            refine wpAnyH_take (i := 7) (oi := { dst := some 98, op := _, type := _, pos := _, after := _, guard := _ }) (v := ?v1018) rfl (by kernel_rfl) (by kernel_rfl) (by kernel_rfl) (fun _ _ _ h => h) (Or.inl ⟨by rfl, ?hy1018⟩) (by first | assumption | exact hHeld1017) ?rest1018
            case hy1018 => ((intro w0 hSw; (try dsimp only at hSw); go_simp) <;> with_reducible rfl)
            (try simp only [Act.put, List.setIfInBounds_toArray, List.set_cons_zero, List.set_cons_succ])
            refine wpAnyH_take (i := 8) (oi := { dst := some 99, op := _, type := _, pos := _, after := _, guard := _ }) (v := ?v1019) rfl (by kernel_rfl) (by kernel_rfl) (by kernel_rfl) (fun _ _ _ h => h) (Or.inl ⟨by rfl, ?hy1019⟩) (by first | assumption | exact hHeld1017) ?rest1019
            case hy1019 => ((intro w0 hSw; (try dsimp only at hSw); go_simp) <;> with_reducible rfl)
            (try simp only [Act.put, List.setIfInBounds_toArray, List.set_cons_zero, List.set_cons_succ])
            refine wpAnyH_ready (rs := [14]) (by kernel_rfl) (by simp) ?_
            refine AllReadyH.cons (o := { dst := some 105, op := _, type := _, pos := _, after := _, guard := _ }) rfl (fun K hK => ?_) ?_
            · go_simp
              refine (digits_int t.c c0' (by omega) _).mono ?_
              rintro e w6 ⟨rfl, hb6'⟩
              have hb6 := HB5'.out.trans (hb6'.mono HB5'.out.size)
              have q0 := (hb6.cell (p := ⟨bk, off + j * 4, none⟩) (hbkj)).trans m0
              have q1 := (hb6.cell (p := ⟨bk, off + j * 4 + 1, none⟩) (hbkj)).trans m1
              have q2 := (hb6.cell (p := ⟨bk, off + j * 4 + 2, none⟩) (hbkj)).trans m2
              have HB6' := Lib.hid hb6
              clear hb6 hb6'
              refine hK.out _ _ ?_ (fun hHeld1020 => ?_)
              · (try dsimp only)
                all_goals (first | (refine ⟨?_, ?_, ?_⟩ <;> go_simp) | go_keep)
              clear hK K
              (try clear hHeld1017)
              (try simp only [Act.put, List.setIfInBounds_toArray, List.set_cons_zero, List.set_cons_succ])
              refine wpAnyH_take (i := 15) (oi := { dst := some 106, op := _, type := _, pos := _, after := _, guard := _ }) (v := ?v1021) rfl (by kernel_rfl) (by kernel_rfl) (by kernel_rfl) (fun _ _ _ h => h) (Or.inl ⟨by rfl, ?hy1021⟩) (by first | assumption | exact hHeld1020) ?rest1021
              case hy1021 => ((intro w0 hSw; (try dsimp only at hSw); go_simp) <;> with_reducible rfl)
              (try simp only [Act.put, List.setIfInBounds_toArray, List.set_cons_zero, List.set_cons_succ])
              refine wpAnyH_take (i := 16) (oi := { dst := some 107, op := _, type := _, pos := _, after := _, guard := _ }) (v := ?v1022) rfl (by kernel_rfl) (by kernel_rfl) (by kernel_rfl) (fun _ _ _ h => h) (Or.inl ⟨by rfl, ?hy1022⟩) (by first | assumption | exact hHeld1020) ?rest1022
              case hy1022 => ((intro w0 hSw; (try dsimp only at hSw); go_simp) <;> with_reducible rfl)
              (try simp only [Act.put, List.setIfInBounds_toArray, List.set_cons_zero, List.set_cons_succ])
              refine wpAnyH_take (i := 22) (oi := { dst := some 113, op := _, type := _, pos := _, after := _, guard := _ }) (v := ?v1023) rfl (by kernel_rfl) (by kernel_rfl) (by kernel_rfl) (fun _ _ _ h => h) (Or.inl ⟨by rfl, ?hy1023⟩) (by first | assumption | exact hHeld1020) ?rest1023
              case hy1023 => ((intro w0 hSw; (try dsimp only at hSw); go_simp) <;> with_reducible rfl)
              (try simp only [Act.put, List.setIfInBounds_toArray, List.set_cons_zero, List.set_cons_succ])
              refine wpAnyH_take (i := 23) (oi := { dst := some 114, op := _, type := _, pos := _, after := _, guard := _ }) (v := ?v1024) rfl (by kernel_rfl) (by kernel_rfl) (by kernel_rfl) (fun _ _ _ h => h) (Or.inl ⟨by rfl, ?hy1024⟩) (by first | assumption | exact hHeld1020) ?rest1024
              case hy1024 => ((intro w0 hSw; (try dsimp only at hSw); go_simp) <;> with_reducible rfl)
              (try simp only [Act.put, List.setIfInBounds_toArray, List.set_cons_zero, List.set_cons_succ])
              refine wpAnyH_take (i := 24) (oi := { dst := some 9, op := _, type := _, pos := _, after := _, guard := _ }) (v := ?v1025) rfl (by kernel_rfl) (by kernel_rfl) (by kernel_rfl) (fun _ _ _ h => h) (Or.inl ⟨by rfl, ?hy1025⟩) (by first | assumption | exact hHeld1020) ?rest1025
              case hy1025 => ((intro w0 hSw; (try dsimp only at hSw); go_simp) <;> with_reducible rfl)
              (try simp only [Act.put, List.setIfInBounds_toArray, List.set_cons_zero, List.set_cons_succ])
              refine wpAnyH_done (by kernel_rfl) ?_ _
              rw [HTL.out]
              go_wp2_with fail
              exact ⟨⟨j + 1, by omega, by go_num, by rw [take_next HTT.out], HBJ.out.trans (HB6'.out.mono HBJ.out.size)⟩, by simp [intOf]; omega⟩
            exact AllReadyH.nil
          exact AllReadyH.nil
          --S>
        · obtain rfl : j = out.length := by omega
          have htu : us.take out.length = us := List.take_of_length_le (by rw [HAT.out.2.2.2]; omega)
          rw [htu]
          have hzs : (bs (outSettle i us)).size ≤ 2000 := by
            have := outSettle_len (n := i) HAT.out.2.1
            have h7 := HAT.out.2.2.2
            rw [bs_size]
            omega
          have hfin : bs (outSettle i us) ++ bs (endL 0 (out.length : Int)) = bs (outSettle ts.length us ++ endL 0 (out.length : Int)) := by rw [bs_append, HAT.out.2.2.1]
          have HFIN := Lib.hid hfin
          have HBW := Lib.hid (below_chain HB4.out (HBEL.out.trans (hbj.mono HBEL.out.size)))
          have hls := endL_size 0 (out.length : Int) (by omega) (by omega) (by omega) (by omega)
          have HDL := Lib.hid (show ∀ w : World, Calls Tryz.prog 23 #[.int .i64 0, .int .i64 (out.length : Int)] w fun e w' => e = .returned (.string (bs (endL 0 (out.length : Int)))) ∧ Below w.heap.size w w' from fun w => endLine_any 0 out.length (by omega) (by omega) w)
          obtain ⟨Z, hZ⟩ : ∃ Z, bs (outSettle i us) = Z := ⟨_, rfl⟩
          obtain ⟨L, hL⟩ : ∃ L, bs (endL 0 (out.length : Int)) = L := ⟨_, rfl⟩
          obtain ⟨R, hR⟩ : ∃ R, bs (outSettle ts.length us ++ endL 0 (out.length : Int)) = R := ⟨_, rfl⟩
          rw [hZ] at HFIN hzs ⊢
          rw [hL] at HFIN HDL hls
          have HEX := Lib.hid HE.out
          rw [hR] at HFIN HEX
          have q1 := no_long (n := Z.size) (by omega) L.size (by omega)
          have HMJ := Lib.hid (show Max wr from by obtain ⟨m, hm⟩ := HM.out; exact ⟨m, (HBW.out.cell (p := ⟨0, 0, none⟩) h0w).trans hm⟩)
          have HPJ := Lib.hid (show Pow wr.heap.size wr from fun w' hb => HP.out w' (HBW.out.trans (hb.mono HBW.out.size)))
          clear hbj htu hfin hZ hL hR HE
          go_wp2_with fail
          rw [HSC.out]
          refine (HEX.out _ HMJ.out HPJ.out _ rfl).mono ?_
          rintro e w8 ⟨rfl, hb8⟩
          have HB8 := Lib.hid (below_chain HBW.out hb8)
          clear hb8
          go_wp2_with fail
          refine (HDL.out _).mono ?_
          rintro e w9 ⟨rfl, hb9⟩
          have HB9 := Lib.hid (below_chain HB8.out hb9)
          clear hb9
          go_wp2_with fail
          rw [HFIN.out]
          go_ret
          exact ⟨by simp, HB9.out⟩
end Go.Proofs.YthdoofmfigemoaaGreatDoor.fnExecuteSettle
end
