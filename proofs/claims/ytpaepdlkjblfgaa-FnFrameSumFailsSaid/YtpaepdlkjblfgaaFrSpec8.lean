/-
  FrameShift of the reference.
-/
import Derived.Test.YtpaepdlkjblfgaaFrSpec7
import Derived.Deep.Upon
namespace Go.Proofs.Ytpaepdlkjblfgaa
open Go.RowKit
set_option linter.unusedSimpArgs false

/-- append([]int{z}, us...): a row of its own in a new block -/
theorem step_app_one {ops : Array Oper} {o : Oper} {a : Act} {w : World} {K : Act → World → Prop} {Q : Exit → Act → World → Prop} {E : Prop} (hgd : o.guard = none) (s x : Operand)
    (ho : o.op = .call { callee := .builtin .append, args := #[s, x], argTypes := #[23, 23] })
    {b : Nat} {z : Int} {B0 : Nat} (hown : Own w B0 (some ⟨b, 0, none⟩) 1 1 [z]) (hs : a.eval s = .slice (some ⟨b, 0, none⟩) 1 1) {B m c0 : Nat} {A : Option Addr} {us : List Int}
    (hx : a.eval x = .slice A m c0) (hr : Ints w B A m us) (hm : 0 < m) (hm2 : m ≤ 1000)
    (h : ∀ g c' w', Own w' w.heap.size (some ⟨g, 0, none⟩) (1 + m) c' (z :: us) → w.grownBy w' none → K (a.put o.dst (.slice (some ⟨g, 0, none⟩) (1 + m) c')) w') :
    if Region.wanted o (yielded ops a.tmps) = true then Oper.wp Try.prog o a w K Q else E := by
  obtain ⟨i0, hi, hz0, hz1, hz2⟩ := info_parts own_int_info
  have hl := hr.len
  have hb := hr.bound
  obtain ⟨b2, off, rfl, hlt, hc⟩ := hr.addr hm
  obtain ⟨g7, e7, _, _, hc7, _⟩ := hown.at_ (by omega)
  obtain rfl : b = g7 := by simpa using e7
  refine step_append_grows hgd s x 23 ho 3 i0 (.int .i64 0) 1 8 Try.underlying23 hi hz0 hz1 hz2 rfl (by decide) (some ⟨b, 0, none⟩) 1 1 (IV [z]) hs (by simp) rfl ?_
    ⟨b2, off, none⟩ m c0 (IV us) hx (by simp [IV, hl]) ?_ (IV_one us) (by omega) (by unfold maxLen; omega) (by omega) ?_
  · intro q hq j u hj
    obtain rfl : (⟨b, 0, none⟩ : Addr) = q := by simpa using hq
    have hj' : ([z].map (Value.int .i64))[j]? = some u := hj
    rw [List.getElem?_map] at hj'
    obtain ⟨y, hy, rfl⟩ := Option.map_eq_some_iff.1 hj'
    rw [add_row]
    exact hc7 j y hy
  · intro j u hj
    have hj' : (us.map (Value.int .i64))[j]? = some u := hj
    rw [List.getElem?_map] at hj'
    obtain ⟨y, hy, rfl⟩ := Option.map_eq_some_iff.1 hj'
    have e : (⟨b2, off, none⟩ : Addr).add j = ⟨b2, off + j, none⟩ := by unfold Addr.add; split <;> simp_all
    rw [e]
    exact hc j y hy
  · intro v' w' hown' hg
    obtain ⟨A', c', rfl, h'⟩ := Own.of_app (xs := [z]) us rfl hown' (by omega)
    obtain ⟨g, rfl, _⟩ := h'.at_ (by omega)
    exact h g c' w' h' hg
/-- append([]int{z}, nothing...) -/
theorem step_app_nothing {ops : Array Oper} {o : Oper} {a : Act} {w : World} {K : Act → World → Prop} {Q : Exit → Act → World → Prop} {E : Prop} (hgd : o.guard = none) (s x : Operand)
    (ho : o.op = .call { callee := .builtin .append, args := #[s, x], argTypes := #[23, 23] })
    {p p2 : Addr} (hs : a.eval s = .slice (some p) 1 1) {c0 : Nat} (hx : a.eval x = .slice (some p2) 0 c0) (h : K (a.put o.dst (.slice (some p) 1 1)) w) :
    if Region.wanted o (yielded ops a.tmps) = true then Oper.wp Try.prog o a w K Q else E := by
  rw [if_pos (by simp [Region.wanted, hgd])]
  obtain ⟨i0, hi, hz0, hz1, hz2⟩ := info_parts own_int_info
  have hrun : (Builtin.append_ #[23, 23] o.type #[.slice (some p) 1 1, .slice (some p2) 0 c0]).run Try.prog w = .ok (.slice (some p) 1 1) w := by
    simp [Builtin.append_, run_underlying Try.underlying23, sizeOf, typeInfo, hi, Builtin.lenOf, Builtin.firstCells, storeCells, loadCells, loadCellsFrom]
  unfold Oper.wp
  simp [execOp, ho, resolve, invoke, builtin, hs, hx, hrun, Result.andThen]
  exact h
theorem HiL_shift {ds : List Int} {m : Nat} (h : ds.length = m + 1) : HiL (shiftL ds) = 0 :: (HiL ds).take m := by simp [HiL, shiftL, h, List.map_take]
theorem LoL_shift {ds : List Int} {m : Nat} (h : ds.length = m + 1) : LoL (shiftL ds) = 0 :: (LoL ds).take m := by simp [LoL, shiftL, h, List.map_take]
theorem shift_end {w w4 : World} {m c1 c2 g1 g2 : Nat} {ds : List Int} (hl : ds.length = m + 1) (h1 : Own w4 (w.heap.size + 2) (some ⟨g1, 0, none⟩) (1 + m) c1 (0 :: (HiL ds).take m)) (h2 : Own w4 (w.heap.size + 2) (some ⟨g2, 0, none⟩) (1 + m) c2 (0 :: (LoL ds).take m)) (hne : g1 ≠ g2) (hb : Below w.heap.size w w4) :
    FrPair w true (shiftL ds) (.returned (.tuple #[.agg #[.slice (some ⟨g1, 0, none⟩) (1 + m) c1, .slice (some ⟨g2, 0, none⟩) (1 + m) c2], .bool true])) ((w4.setCell ⟨w.heap.size + 1, 0, none⟩ (.slice (some ⟨g1, 0, none⟩) (1 + m) c1)).setCell ⟨w.heap.size + 1, 1, none⟩ (.slice (some ⟨g2, 0, none⟩) (1 + m) c2)) := by
  refine ⟨⟨_, rfl, ?_⟩, below_over hb (by omega) _ _⟩
  rw [if_pos rfl]
  refine (FrOwn.over (B := w.heap.size + 2) ?_ (by omega) _ _).mono (by omega)
  have e : (shiftL ds).length = 1 + m := by rw [shiftL_length (by omega)]; omega
  refine ⟨some ⟨g1, 0, none⟩, c1, some ⟨g2, 0, none⟩, c2, by rw [e], ?_, ?_, apart_of hne, apart_of (Ne.symm hne)⟩
  · rw [e, HiL_shift hl]; exact h1
  · rw [e, LoL_shift hl]; exact h2
theorem FrPair.drew {w w' : World} {ok : Bool} {ds : List Int} {e : Ending} (h : FrPair w ok ds e w') : FrPair w ok ds e w'.drew := by
  obtain ⟨⟨v, he, A, c, A', c', hv, h1, h2, h3, h4⟩, hb⟩ := h
  exact ⟨⟨v, he, A, c, A', c', hv, h1.drew, h2.drew, h3, h4⟩, hb.drew⟩
theorem Box.bg {w w' : World} {b : Nat} {u v : Value} (h : Box w b u v) (hg : w.grownBy w' none) : Box w' b u v := h.grown hg (by simp)


set_option maxRecDepth 100000 in
set_option maxHeartbeats 4000000 in
theorem specFrameShift_yes (A A' : Option Addr) (n c c' : Nat) (ds : List Int) (w : World) (hx : Ints w w.heap.size A n (HiL ds)) (hy : Ints w w.heap.size A' n (LoL ds)) (hds : Fr.Digs ds) (h1 : 1 ≤ n) (h6 : n ≤ 6) (hcap : n ≤ c) (hcap' : n ≤ c') :
    Calls Try.prog 28 #[.agg #[.slice A n c, .slice A' n c']] w (FrPair w (okS ds) (shiftL ds)) := by
  have hl : ds.length = n := by have := hx.len; rwa [HiL_length] at this
  obtain ⟨d, hd⟩ : ∃ d, ds[n - 1]? = some d := ⟨_, List.getElem?_eq_getElem (by omega)⟩
  obtain ⟨d0, d9⟩ := hds d (List.mem_of_getElem? hd)
  have hok : okS ds = decide (d = 0) := by unfold okS; rw [hl, List.getD_eq_getElem?_getD, hd]; rfl
  rw [hok]
  obtain ⟨m, rfl⟩ : ∃ m, n = m + 1 := ⟨n - 1, by omega⟩
  rw [Nat.add_sub_cancel] at hd
  obtain ⟨bh, oh, rfl, -, -⟩ := hx.addr (by omega)
  obtain ⟨bl, ol, rfl, -, -⟩ := hy.addr (by omega)
  have HX := Lib.hid hx
  have HY := Lib.hid hy
  have HD := Lib.hid hds
  have HL := Lib.hid hl
  have HDG := Lib.hid (show digAt ds (m : Int) = d from digAt_in hd)
  have HB0 := Lib.hid (below_two w (.cells #[.slice (some ⟨bh, oh, none⟩) (m + 1) c, .slice (some ⟨bl, ol, none⟩) (m + 1) c'] 25) (.cells #[.slice none 0 0, .slice none 0 0] 25))
  have HXB := Lib.hid ((Box.new w (.slice (some ⟨bh, oh, none⟩) (m + 1) c) (.slice (some ⟨bl, ol, none⟩) (m + 1) c')).alloc (.cells #[.slice none 0 0, .slice none 0 0] 25))
  have HZB := Lib.hid (Box.new (w.alloc (.cells #[.slice (some ⟨bh, oh, none⟩) (m + 1) c, .slice (some ⟨bl, ol, none⟩) (m + 1) c'] 25)) (.slice none 0 0) (.slice none 0 0))
  have HI := Lib.hid ((hx.al (.cells #[.slice (some ⟨bh, oh, none⟩) (m + 1) c, .slice (some ⟨bl, ol, none⟩) (m + 1) c'] 25)).al (.cells #[.slice none 0 0, .slice none 0 0] 25))
  have HJ := Lib.hid ((hy.al (.cells #[.slice (some ⟨bh, oh, none⟩) (m + 1) c, .slice (some ⟨bl, ol, none⟩) (m + 1) c'] 25)).al (.cells #[.slice none 0 0, .slice none 0 0] 25))
  clear hx hy hds hl hd hok
  have e1 : ((m + 1 : Nat) : Int) - 1 = (m : Int) := by omega
  go_enter Try.func28, Try.ntmps28
  go_wp2_with fail
  refine (specFrameValid_yes _ _ (m + 1) c c' ds _ HI.out HJ.out HD.out h1 h6).mono ?_
  rintro e w1 ⟨rfl, hb1⟩
  have hxb := HXB.out.next hb1
  have hzb := HZB.out.next hb1
  rw [World.size_alloc] at hzb
  have x10 := hxb.fst
  have x11 := hxb.snd
  have xl1 := hxb.lt
  have HXB1 := Lib.hid hxb
  have HZB1 := Lib.hid hzb
  have HI1 := Lib.hid (HI.out.next hb1)
  have HJ1 := Lib.hid (HJ.out.next hb1)
  have HB1 := Lib.hid (HB0.out.trans (hb1.mono (by simp; omega)))
  clear hxb hzb hb1 HXB HZB
  go_wp2_with fail
  refine (specFrameDigit_any _ _ _ _ c c' _ _ (m : Int) d _ HI1.out HJ1.out (.inr ⟨ds, HD.out, rfl, rfl, by have := HL.out; omega, by have := HL.out; omega, HDG.out.symm⟩)).mono ?_
  rintro e w2 ⟨rfl, hb2⟩
  have hxb := HXB1.out.next hb2
  have hzb := HZB1.out.next hb2
  have x20 := hxb.fst
  have x21 := hxb.snd
  have xl2 := hxb.lt
  have z20 := hzb.fst
  have z21 := hzb.snd
  have zf20 := hzb.free 0
  have zf21 := hzb.free 1
  have zl2 := hzb.lt
  have HXB := Lib.hid hxb
  have HZB := Lib.hid hzb
  have HBB := Lib.hid (HB1.out.trans (hb2.mono HB1.out.size))
  have hi2 := HI1.out.next hb2
  have hj2 := HJ1.out.next hb2
  have HRH : Hid (∀ v, SB w2 v → Ints v v.heap.size (some ⟨bh, oh, none⟩) m ((HiL ds).take m)) := Lib.hid fun v h => (hi2.next h).take (by omega)
  have HRL : Hid (∀ v, SB w2 v → Ints v v.heap.size (some ⟨bl, ol, none⟩) m ((LoL ds).take m)) := Lib.hid fun v h => (hj2.next h).take (by omega)
  clear hxb hzb hb2 hi2 hj2 x10 x11 xl1 HXB1 HZB1 HI1 HJ1 HI HJ
  by_cases hd0 : d = 0
  · subst hd0
    rw [decide_eq_true rfl]
    have hc1 : (m : Int) ≤ (c : Int) := by omega
    have hc2 : (m : Int) ≤ (c' : Int) := by omega
    have mm0 : (0 : Int) ≤ (m : Int) := by omega
    have mw : IntKind.i64.wrap (m : Int) = (m : Int) := IntWalk.i64_in _ (by omega)
    have mw0 : IntKind.i64.wrap 0 = 0 := by decide
    have zne : w.heap.size ≠ w.heap.size + 1 := by omega
    have zne' : w.heap.size + 1 ≠ w.heap.size := by omega
    by_cases hm1 : 0 < m
    · go_wp2_with fail
      refine wp_region_held_drew (S := (fun w' => w'.cell? ⟨w.heap.size, 0, none⟩ = some (.slice (some ⟨bh, oh, none⟩) (m + 1) c) ∧ w'.cell? ⟨w.heap.size, 1, none⟩ = some (.slice (some ⟨bl, ol, none⟩) (m + 1) c'))) (by kernel_rfl) ?_ (fun hHeld => ?_)
      · (try dsimp only)
        first | (constructor <;> go_simp) | go_keep
      refine wpAnyH_take (i := 1) (oi := { dst := some 20, op := _, type := _, pos := _, after := _, guard := _ }) (v := ?v1) rfl (by kernel_rfl) (by kernel_rfl) (by kernel_rfl) (fun _ _ _ h => h) (Or.inl ⟨by rfl, ?hy1⟩) (by assumption) ?rest1
      case hy1 => ((intro w0 hSw; (try dsimp only at hSw); go_simp) <;> with_reducible rfl)
      (try simp only [Act.put, List.setIfInBounds_toArray, List.set_cons_zero, List.set_cons_succ])
      refine wpAnyH_take (i := 2) (oi := { dst := some 21, op := _, type := _, pos := _, after := _, guard := _ }) (v := ?v2) rfl (by kernel_rfl) (by kernel_rfl) (by kernel_rfl) (fun _ _ _ h => h) (Or.inl ⟨by rfl, ?hy2⟩) (by assumption) ?rest2
      case hy2 => ((intro w0 hSw; (try dsimp only at hSw); go_simp) <;> with_reducible rfl)
      (try simp only [Act.put, List.setIfInBounds_toArray, List.set_cons_zero, List.set_cons_succ])
      refine wpAnyH_take (i := 3) (oi := { dst := some 22, op := _, type := _, pos := _, after := _, guard := _ }) (v := ?v3) rfl (by kernel_rfl) (by kernel_rfl) (by kernel_rfl) (fun _ _ _ h => h) (Or.inl ⟨by rfl, ?hy3⟩) (by assumption) ?rest3
      case hy3 => ((intro w0 hSw; (try dsimp only at hSw); go_simp) <;> with_reducible rfl)
      (try simp only [Act.put, List.setIfInBounds_toArray, List.set_cons_zero, List.set_cons_succ])
      refine wpAnyH_take (i := 4) (oi := { dst := some 23, op := _, type := _, pos := _, after := _, guard := _ }) (v := ?v4) rfl (by kernel_rfl) (by kernel_rfl) (by kernel_rfl) (fun _ _ _ h => h) (Or.inl ⟨by rfl, ?hy4⟩) (by assumption) ?rest4
      case hy4 => ((intro w0 hSw; (try dsimp only at hSw); go_simp) <;> with_reducible rfl)
      (try simp only [Act.put, List.setIfInBounds_toArray, List.set_cons_zero, List.set_cons_succ])
      refine wpAnyH_take (i := 5) (oi := { dst := some 24, op := _, type := _, pos := _, after := _, guard := _ }) (v := ?v5) rfl (by kernel_rfl) (by kernel_rfl) (by kernel_rfl) (fun _ _ _ h => h) (Or.inl ⟨by rfl, ?hy5⟩) (by assumption) ?rest5
      case hy5 => ((intro w0 hSw; (try dsimp only at hSw); go_simp) <;> with_reducible rfl)
      (try simp only [Act.put, List.setIfInBounds_toArray, List.set_cons_zero, List.set_cons_succ])
      refine wpAnyH_take (i := 8) (oi := { dst := some 27, op := _, type := _, pos := _, after := _, guard := _ }) (v := ?v6) rfl (by kernel_rfl) (by kernel_rfl) (by kernel_rfl) (fun _ _ _ h => h) (Or.inl ⟨by rfl, ?hy6⟩) (by assumption) ?rest6
      case hy6 => ((intro w0 hSw; (try dsimp only at hSw); go_simp) <;> with_reducible rfl)
      (try simp only [Act.put, List.setIfInBounds_toArray, List.set_cons_zero, List.set_cons_succ])
      refine wpAnyH_take (i := 9) (oi := { dst := some 28, op := _, type := _, pos := _, after := _, guard := _ }) (v := ?v7) rfl (by kernel_rfl) (by kernel_rfl) (by kernel_rfl) (fun _ _ _ h => h) (Or.inl ⟨by rfl, ?hy7⟩) (by assumption) ?rest7
      case hy7 => ((intro w0 hSw; (try dsimp only at hSw); go_simp) <;> with_reducible rfl)
      (try simp only [Act.put, List.setIfInBounds_toArray, List.set_cons_zero, List.set_cons_succ])
      refine wpAnyH_take (i := 10) (oi := { dst := some 29, op := _, type := _, pos := _, after := _, guard := _ }) (v := ?v8) rfl (by kernel_rfl) (by kernel_rfl) (by kernel_rfl) (fun _ _ _ h => h) (Or.inl ⟨by rfl, ?hy8⟩) (by assumption) ?rest8
      case hy8 => ((intro w0 hSw; (try dsimp only at hSw); go_simp) <;> with_reducible rfl)
      (try simp only [Act.put, List.setIfInBounds_toArray, List.set_cons_zero, List.set_cons_succ])
      refine wpAnyH_take (i := 11) (oi := { dst := some 30, op := _, type := _, pos := _, after := _, guard := _ }) (v := ?v9) rfl (by kernel_rfl) (by kernel_rfl) (by kernel_rfl) (fun _ _ _ h => h) (Or.inl ⟨by rfl, ?hy9⟩) (by assumption) ?rest9
      case hy9 => ((intro w0 hSw; (try dsimp only at hSw); go_simp) <;> with_reducible rfl)
      (try simp only [Act.put, List.setIfInBounds_toArray, List.set_cons_zero, List.set_cons_succ])
      refine wpAnyH_take (i := 12) (oi := { dst := some 31, op := _, type := _, pos := _, after := _, guard := _ }) (v := ?v10) rfl (by kernel_rfl) (by kernel_rfl) (by kernel_rfl) (fun _ _ _ h => h) (Or.inl ⟨by rfl, ?hy10⟩) (by assumption) ?rest10
      case hy10 => ((intro w0 hSw; (try dsimp only at hSw); go_simp) <;> with_reducible rfl)
      (try simp only [Act.put, List.setIfInBounds_toArray, List.set_cons_zero, List.set_cons_succ])
      refine wpAnyH_ready (rs := [0, 7]) (by kernel_rfl) (by simp) ?_
      refine AllReadyH.cons (o := { dst := some 19, op := _, type := _, pos := _, after := _, guard := _ }) rfl (fun K hK => ?_) ?_
      · go_simp
        refine hK.out _ _ ?_ (fun hHeld11 => ?_)
        · (try dsimp only)
          first | (constructor <;> go_simp) | go_keep
        clear hK K
        (try clear hHeld)
        (try simp only [Act.put, List.setIfInBounds_toArray, List.set_cons_zero, List.set_cons_succ])
        refine wpAnyH_ready (rs := [6, 7]) (by kernel_rfl) (by simp) ?_
        refine AllReadyH.cons (o := { dst := some 25, op := _, type := _, pos := _, after := _, guard := _ }) rfl (fun K hK => ?_) ?_
        · have hsb6e : SB w2 (w2.alloc (.cells #[.int .i64 0] 3)) := ((SB.refl w2).alloc (.cells #[.int .i64 0] 3))
          have hzs6 := hsb6e.size
          (try simp only [World.size_alloc] at hzs6)
          have hown6 := own_lit w2 [0] (w.heap.size + 2) 1 rfl (by omega) (by first | omega | (simp; omega))
          (try simp only [World.size_alloc] at hown6)
          refine step_app_one (by rfl) (.tmp 19) (.tmp 24) (by rfl) hown6.drew (by rfl) (by rfl) (HRH.out _ hsb6e).drew hm1 (by omega) ?_
          intro g6 c6 w6 ho6 hg6'
          have hg6 : (w2.alloc (.cells #[.int .i64 0] 3)).grownBy w6 none := ⟨hg6'.os, hg6'.tape, hg6'.output, hg6'.size, hg6'.block⟩
          have hz6 := hg6.size
          (try simp only [World.size_alloc] at hz6)
          have hsb6 : SB w2 w6 := hsb6e.grown hg6
          have HXB6 := Lib.hid (Box.bg (HXB.out.alloc (.cells #[.int .i64 0] 3)) hg6)
          have HZB6 := Lib.hid (Box.bg (HZB.out.alloc (.cells #[.int .i64 0] 3)) hg6)
          have x60 := HXB6.out.fst
          have x61 := HXB6.out.snd
          have xl6 := HXB6.out.lt
          have z60 := HZB6.out.fst
          have z61 := HZB6.out.snd
          have zf60 := HZB6.out.free 0
          have zf61 := HZB6.out.free 1
          have zl6 := HZB6.out.lt
          have HO6 := Lib.hid (ho6.mono (show w.heap.size + 2 ≤ _ by first | omega | (simp; omega)))
          have hblk6 := (ho6.blk g6 rfl).1
          (try simp only [World.size_alloc, size_drew_] at hblk6)
          have HK6_0 := Lib.hid ((own_lit w2 [0] (w.heap.size + 2) 1 rfl (by omega) (by first | omega | (simp; omega))).kept hg6 (by simp))
          clear ho6 hg6 hg6' hsb6e
          refine hK.out _ _ ?_ (fun hHeld12 => ?_)
          · (try dsimp only)
            first | (constructor <;> go_simp) | go_keep
          clear hK K
          (try clear hHeld11)
          (try simp only [Act.put, List.setIfInBounds_toArray, List.set_cons_zero, List.set_cons_succ])
          refine wpAnyH_ready (rs := [7]) (by kernel_rfl) (by simp) ?_
          refine AllReadyH.cons (o := { dst := some 26, op := _, type := _, pos := _, after := _, guard := _ }) rfl (fun K hK => ?_) ?_
          · go_simp
            refine hK.out _ _ ?_ (fun hHeld13 => ?_)
            · (try dsimp only)
              first | (constructor <;> go_simp) | go_keep
            clear hK K
            (try clear hHeld12)
            (try simp only [Act.put, List.setIfInBounds_toArray, List.set_cons_zero, List.set_cons_succ])
            refine wpAnyH_ready (rs := [13]) (by kernel_rfl) (by simp) ?_
            refine AllReadyH.cons (o := { dst := some 32, op := _, type := _, pos := _, after := _, guard := _ }) rfl (fun K hK => ?_) ?_
            · have hsb13e : SB w2 (w6.alloc (.cells #[.int .i64 0] 3)) := (hsb6.alloc (.cells #[.int .i64 0] 3))
              have hzs13 := hsb13e.size
              (try simp only [World.size_alloc] at hzs13)
              have hown13 := own_lit w6 [0] (w.heap.size + 2) 1 rfl (by omega) (by first | omega | (simp; omega))
              (try simp only [World.size_alloc] at hown13)
              refine step_app_one (by rfl) (.tmp 26) (.tmp 31) (by rfl) hown13.drew (by rfl) (by rfl) (HRL.out _ hsb13e).drew hm1 (by omega) ?_
              intro g13 c13 w13 ho13 hg13'
              have hg13 : (w6.alloc (.cells #[.int .i64 0] 3)).grownBy w13 none := ⟨hg13'.os, hg13'.tape, hg13'.output, hg13'.size, hg13'.block⟩
              have hz13 := hg13.size
              (try simp only [World.size_alloc] at hz13)
              have hsb13 : SB w2 w13 := hsb13e.grown hg13
              have HXB13 := Lib.hid (Box.bg (HXB6.out.alloc (.cells #[.int .i64 0] 3)) hg13)
              have HZB13 := Lib.hid (Box.bg (HZB6.out.alloc (.cells #[.int .i64 0] 3)) hg13)
              have x130 := HXB13.out.fst
              have x131 := HXB13.out.snd
              have xl13 := HXB13.out.lt
              have z130 := HZB13.out.fst
              have z131 := HZB13.out.snd
              have zf130 := HZB13.out.free 0
              have zf131 := HZB13.out.free 1
              have zl13 := HZB13.out.lt
              have HO13 := Lib.hid (ho13.mono (show w.heap.size + 2 ≤ _ by first | omega | (simp; omega)))
              have hblk13 := (ho13.blk g13 rfl).1
              (try simp only [World.size_alloc, size_drew_] at hblk13)
              have HK13_0 := Lib.hid ((((HK6_0.out)).alloc (.cells #[.int .i64 0] 3)).kept hg13 (by simp))
              have HK13_7 := Lib.hid ((own_lit w6 [0] (w.heap.size + 2) 1 rfl (by omega) (by first | omega | (simp; omega))).kept hg13 (by simp))
              have HKR13_6 := Lib.hid ((((HO6.out)).alloc (.cells #[.int .i64 0] 3)).kept hg13 (by simp))
              have hlo13_6 := (HKR13_6.out.blk g6 rfl).2
              have hlow13_6 := ((((HO6.out)).alloc (.cells #[.int .i64 0] 3)).blk g6 rfl).2
              (try simp only [World.size_alloc] at hlow13_6)
              clear ho13 hg13 hg13' hsb13e
              refine hK.out _ _ ?_ (fun hHeld14 => ?_)
              · (try dsimp only)
                first | (constructor <;> go_simp) | go_keep
              clear hK K
              (try clear hHeld13)
              (try simp only [Act.put, List.setIfInBounds_toArray, List.set_cons_zero, List.set_cons_succ])
              refine wpAnyH_take (i := 14) (oi := { dst := some 33, op := _, type := _, pos := _, after := _, guard := _ }) (v := ?v15) rfl (by kernel_rfl) (by kernel_rfl) (by kernel_rfl) (fun _ _ _ h => h) (Or.inl ⟨by rfl, ?hy15⟩) (by assumption) ?rest15
              case hy15 => ((intro w0 hSw; (try dsimp only at hSw); go_simp) <;> with_reducible rfl)
              (try simp only [Act.put, List.setIfInBounds_toArray, List.set_cons_zero, List.set_cons_succ])
              refine wpAnyH_ready (rs := [15]) (by kernel_rfl) (by simp) ?_
              refine AllReadyH.cons (o := { dst := none, op := _, type := _, pos := _, after := _, guard := _ }) rfl (fun K hK => ?_) ?_
              · go_simp
                refine hK.out _ _ ?_ (fun hHeld16 => ?_)
                · (try dsimp only)
                  first | (constructor <;> go_simp) | go_keep
                clear hK K
                (try clear hHeld14)
                (try simp only [Act.put, List.setIfInBounds_toArray, List.set_cons_zero, List.set_cons_succ])
                refine wpAnyH_take (i := 16) (oi := { dst := some 3, op := _, type := _, pos := _, after := _, guard := _ }) (v := ?v17) rfl (by kernel_rfl) (by kernel_rfl) (by kernel_rfl) (fun _ _ _ h => h) (Or.inl ⟨by rfl, ?hy17⟩) (by assumption) ?rest17
                case hy17 => ((intro w0 hSw; (try dsimp only at hSw); go_simp) <;> with_reducible rfl)
                (try simp only [Act.put, List.setIfInBounds_toArray, List.set_cons_zero, List.set_cons_succ])
                refine wpAnyH_done (by kernel_rfl) ?_ _
                go_wp2
                have hb3 := Box.over (HZB13.out) (.slice (some ⟨g6, 0, none⟩) (1 + m) c6) (.slice (some ⟨g13, 0, none⟩) (1 + m) c13)
                have hfin := shift_end HL.out (HKR13_6.out) (HO13.out) (by omega) (HBB.out.trans (Below.mono (show SB w2 w13 from hsb13) HBB.out.size))
                have hc3 := hb3.fst
                have hd3 := hb3.snd
                exact bodyPost_ret (v := .tuple #[.agg #[.slice (some ⟨g6, 0, none⟩) (1 + m) c6, .slice (some ⟨g13, 0, none⟩) (1 + m) c13], .bool true]) (by simp [results, Try.results28, go_sem, hc3, hd3]) rfl hfin
              exact AllReadyH.nil
            exact AllReadyH.nil
          exact AllReadyH.nil
        refine AllReadyH.cons (o := { dst := some 26, op := _, type := _, pos := _, after := _, guard := _ }) rfl (fun K hK => ?_) ?_
        · go_simp
          refine hK.out _ _ ?_ (fun hHeld18 => ?_)
          · (try dsimp only)
            first | (constructor <;> go_simp) | go_keep
          clear hK K
          (try clear hHeld11)
          (try simp only [Act.put, List.setIfInBounds_toArray, List.set_cons_zero, List.set_cons_succ])
          refine wpAnyH_ready (rs := [6]) (by kernel_rfl) (by simp) ?_
          refine AllReadyH.cons (o := { dst := some 25, op := _, type := _, pos := _, after := _, guard := _ }) rfl (fun K hK => ?_) ?_
          · have hsb6e : SB w2 ((w2.alloc (.cells #[.int .i64 0] 3)).alloc (.cells #[.int .i64 0] 3)) := (((SB.refl w2).alloc (.cells #[.int .i64 0] 3)).alloc (.cells #[.int .i64 0] 3))
            have hzs6 := hsb6e.size
            (try simp only [World.size_alloc] at hzs6)
            have hown6 := (own_lit w2 [0] (w.heap.size + 2) 1 rfl (by omega) (by first | omega | (simp; omega))).alloc (.cells #[.int .i64 0] 3)
            (try simp only [World.size_alloc] at hown6)
            refine step_app_one (by rfl) (.tmp 19) (.tmp 24) (by rfl) hown6.drew (by rfl) (by rfl) (HRH.out _ hsb6e).drew hm1 (by omega) ?_
            intro g6 c6 w6 ho6 hg6'
            have hg6 : ((w2.alloc (.cells #[.int .i64 0] 3)).alloc (.cells #[.int .i64 0] 3)).grownBy w6 none := ⟨hg6'.os, hg6'.tape, hg6'.output, hg6'.size, hg6'.block⟩
            have hz6 := hg6.size
            (try simp only [World.size_alloc] at hz6)
            have hsb6 : SB w2 w6 := hsb6e.grown hg6
            have HXB6 := Lib.hid (Box.bg ((HXB.out.alloc (.cells #[.int .i64 0] 3)).alloc (.cells #[.int .i64 0] 3)) hg6)
            have HZB6 := Lib.hid (Box.bg ((HZB.out.alloc (.cells #[.int .i64 0] 3)).alloc (.cells #[.int .i64 0] 3)) hg6)
            have x60 := HXB6.out.fst
            have x61 := HXB6.out.snd
            have xl6 := HXB6.out.lt
            have z60 := HZB6.out.fst
            have z61 := HZB6.out.snd
            have zf60 := HZB6.out.free 0
            have zf61 := HZB6.out.free 1
            have zl6 := HZB6.out.lt
            have HO6 := Lib.hid (ho6.mono (show w.heap.size + 2 ≤ _ by first | omega | (simp; omega)))
            have hblk6 := (ho6.blk g6 rfl).1
            (try simp only [World.size_alloc, size_drew_] at hblk6)
            have HK6_0 := Lib.hid (((own_lit w2 [0] (w.heap.size + 2) 1 rfl (by omega) (by first | omega | (simp; omega))).alloc (.cells #[.int .i64 0] 3)).kept hg6 (by simp))
            have HK6_7 := Lib.hid ((own_lit (w2.alloc (.cells #[.int .i64 0] 3)) [0] (w.heap.size + 2) 1 rfl (by omega) (by first | omega | (simp; omega))).kept hg6 (by simp))
            clear ho6 hg6 hg6' hsb6e
            refine hK.out _ _ ?_ (fun hHeld19 => ?_)
            · (try dsimp only)
              first | (constructor <;> go_simp) | go_keep
            clear hK K
            (try clear hHeld18)
            (try simp only [Act.put, List.setIfInBounds_toArray, List.set_cons_zero, List.set_cons_succ])
            refine wpAnyH_ready (rs := [13]) (by kernel_rfl) (by simp) ?_
            refine AllReadyH.cons (o := { dst := some 32, op := _, type := _, pos := _, after := _, guard := _ }) rfl (fun K hK => ?_) ?_
            · have hsb13e : SB w2 (w6) := hsb6
              have hzs13 := hsb13e.size
              (try simp only [World.size_alloc] at hzs13)
              have hown13 := (HK6_7.out)
              (try simp only [World.size_alloc] at hown13)
              refine step_app_one (by rfl) (.tmp 26) (.tmp 31) (by rfl) hown13.drew (by rfl) (by rfl) (HRL.out _ hsb13e).drew hm1 (by omega) ?_
              intro g13 c13 w13 ho13 hg13'
              have hg13 : (w6).grownBy w13 none := ⟨hg13'.os, hg13'.tape, hg13'.output, hg13'.size, hg13'.block⟩
              have hz13 := hg13.size
              (try simp only [World.size_alloc] at hz13)
              have hsb13 : SB w2 w13 := hsb13e.grown hg13
              have HXB13 := Lib.hid (Box.bg HXB6.out hg13)
              have HZB13 := Lib.hid (Box.bg HZB6.out hg13)
              have x130 := HXB13.out.fst
              have x131 := HXB13.out.snd
              have xl13 := HXB13.out.lt
              have z130 := HZB13.out.fst
              have z131 := HZB13.out.snd
              have zf130 := HZB13.out.free 0
              have zf131 := HZB13.out.free 1
              have zl13 := HZB13.out.lt
              have HO13 := Lib.hid (ho13.mono (show w.heap.size + 2 ≤ _ by first | omega | (simp; omega)))
              have hblk13 := (ho13.blk g13 rfl).1
              (try simp only [World.size_alloc, size_drew_] at hblk13)
              have HK13_0 := Lib.hid (((HK6_0.out)).kept hg13 (by simp))
              have HK13_7 := Lib.hid (((HK6_7.out)).kept hg13 (by simp))
              have HKR13_6 := Lib.hid (((HO6.out)).kept hg13 (by simp))
              have hlo13_6 := (HKR13_6.out.blk g6 rfl).2
              have hlow13_6 := (((HO6.out)).blk g6 rfl).2
              (try simp only [World.size_alloc] at hlow13_6)
              clear ho13 hg13 hg13' hsb13e
              refine hK.out _ _ ?_ (fun hHeld20 => ?_)
              · (try dsimp only)
                first | (constructor <;> go_simp) | go_keep
              clear hK K
              (try clear hHeld19)
              (try simp only [Act.put, List.setIfInBounds_toArray, List.set_cons_zero, List.set_cons_succ])
              refine wpAnyH_take (i := 14) (oi := { dst := some 33, op := _, type := _, pos := _, after := _, guard := _ }) (v := ?v21) rfl (by kernel_rfl) (by kernel_rfl) (by kernel_rfl) (fun _ _ _ h => h) (Or.inl ⟨by rfl, ?hy21⟩) (by assumption) ?rest21
              case hy21 => ((intro w0 hSw; (try dsimp only at hSw); go_simp) <;> with_reducible rfl)
              (try simp only [Act.put, List.setIfInBounds_toArray, List.set_cons_zero, List.set_cons_succ])
              refine wpAnyH_ready (rs := [15]) (by kernel_rfl) (by simp) ?_
              refine AllReadyH.cons (o := { dst := none, op := _, type := _, pos := _, after := _, guard := _ }) rfl (fun K hK => ?_) ?_
              · go_simp
                refine hK.out _ _ ?_ (fun hHeld22 => ?_)
                · (try dsimp only)
                  first | (constructor <;> go_simp) | go_keep
                clear hK K
                (try clear hHeld20)
                (try simp only [Act.put, List.setIfInBounds_toArray, List.set_cons_zero, List.set_cons_succ])
                refine wpAnyH_take (i := 16) (oi := { dst := some 3, op := _, type := _, pos := _, after := _, guard := _ }) (v := ?v23) rfl (by kernel_rfl) (by kernel_rfl) (by kernel_rfl) (fun _ _ _ h => h) (Or.inl ⟨by rfl, ?hy23⟩) (by assumption) ?rest23
                case hy23 => ((intro w0 hSw; (try dsimp only at hSw); go_simp) <;> with_reducible rfl)
                (try simp only [Act.put, List.setIfInBounds_toArray, List.set_cons_zero, List.set_cons_succ])
                refine wpAnyH_done (by kernel_rfl) ?_ _
                go_wp2
                have hb3 := Box.over (HZB13.out) (.slice (some ⟨g6, 0, none⟩) (1 + m) c6) (.slice (some ⟨g13, 0, none⟩) (1 + m) c13)
                have hfin := shift_end HL.out (HKR13_6.out) (HO13.out) (by omega) (HBB.out.trans (Below.mono (show SB w2 w13 from hsb13) HBB.out.size))
                have hc3 := hb3.fst
                have hd3 := hb3.snd
                exact bodyPost_ret (v := .tuple #[.agg #[.slice (some ⟨g6, 0, none⟩) (1 + m) c6, .slice (some ⟨g13, 0, none⟩) (1 + m) c13], .bool true]) (by simp [results, Try.results28, go_sem, hc3, hd3]) rfl hfin
              exact AllReadyH.nil
            exact AllReadyH.nil
          exact AllReadyH.nil
        exact AllReadyH.nil
      refine AllReadyH.cons (o := { dst := some 26, op := _, type := _, pos := _, after := _, guard := _ }) rfl (fun K hK => ?_) ?_
      · go_simp
        refine hK.out _ _ ?_ (fun hHeld24 => ?_)
        · (try dsimp only)
          first | (constructor <;> go_simp) | go_keep
        clear hK K
        (try clear hHeld)
        (try simp only [Act.put, List.setIfInBounds_toArray, List.set_cons_zero, List.set_cons_succ])
        refine wpAnyH_ready (rs := [0]) (by kernel_rfl) (by simp) ?_
        refine AllReadyH.cons (o := { dst := some 19, op := _, type := _, pos := _, after := _, guard := _ }) rfl (fun K hK => ?_) ?_
        · go_simp
          refine hK.out _ _ ?_ (fun hHeld25 => ?_)
          · (try dsimp only)
            first | (constructor <;> go_simp) | go_keep
          clear hK K
          (try clear hHeld24)
          (try simp only [Act.put, List.setIfInBounds_toArray, List.set_cons_zero, List.set_cons_succ])
          refine wpAnyH_ready (rs := [6]) (by kernel_rfl) (by simp) ?_
          refine AllReadyH.cons (o := { dst := some 25, op := _, type := _, pos := _, after := _, guard := _ }) rfl (fun K hK => ?_) ?_
          · have hsb6e : SB w2 ((w2.alloc (.cells #[.int .i64 0] 3)).alloc (.cells #[.int .i64 0] 3)) := (((SB.refl w2).alloc (.cells #[.int .i64 0] 3)).alloc (.cells #[.int .i64 0] 3))
            have hzs6 := hsb6e.size
            (try simp only [World.size_alloc] at hzs6)
            have hown6 := own_lit (w2.alloc (.cells #[.int .i64 0] 3)) [0] (w.heap.size + 2) 1 rfl (by omega) (by first | omega | (simp; omega))
            (try simp only [World.size_alloc] at hown6)
            refine step_app_one (by rfl) (.tmp 19) (.tmp 24) (by rfl) hown6.drew (by rfl) (by rfl) (HRH.out _ hsb6e).drew hm1 (by omega) ?_
            intro g6 c6 w6 ho6 hg6'
            have hg6 : ((w2.alloc (.cells #[.int .i64 0] 3)).alloc (.cells #[.int .i64 0] 3)).grownBy w6 none := ⟨hg6'.os, hg6'.tape, hg6'.output, hg6'.size, hg6'.block⟩
            have hz6 := hg6.size
            (try simp only [World.size_alloc] at hz6)
            have hsb6 : SB w2 w6 := hsb6e.grown hg6
            have HXB6 := Lib.hid (Box.bg ((HXB.out.alloc (.cells #[.int .i64 0] 3)).alloc (.cells #[.int .i64 0] 3)) hg6)
            have HZB6 := Lib.hid (Box.bg ((HZB.out.alloc (.cells #[.int .i64 0] 3)).alloc (.cells #[.int .i64 0] 3)) hg6)
            have x60 := HXB6.out.fst
            have x61 := HXB6.out.snd
            have xl6 := HXB6.out.lt
            have z60 := HZB6.out.fst
            have z61 := HZB6.out.snd
            have zf60 := HZB6.out.free 0
            have zf61 := HZB6.out.free 1
            have zl6 := HZB6.out.lt
            have HO6 := Lib.hid (ho6.mono (show w.heap.size + 2 ≤ _ by first | omega | (simp; omega)))
            have hblk6 := (ho6.blk g6 rfl).1
            (try simp only [World.size_alloc, size_drew_] at hblk6)
            have HK6_7 := Lib.hid (((own_lit w2 [0] (w.heap.size + 2) 1 rfl (by omega) (by first | omega | (simp; omega))).alloc (.cells #[.int .i64 0] 3)).kept hg6 (by simp))
            have HK6_0 := Lib.hid ((own_lit (w2.alloc (.cells #[.int .i64 0] 3)) [0] (w.heap.size + 2) 1 rfl (by omega) (by first | omega | (simp; omega))).kept hg6 (by simp))
            clear ho6 hg6 hg6' hsb6e
            refine hK.out _ _ ?_ (fun hHeld26 => ?_)
            · (try dsimp only)
              first | (constructor <;> go_simp) | go_keep
            clear hK K
            (try clear hHeld25)
            (try simp only [Act.put, List.setIfInBounds_toArray, List.set_cons_zero, List.set_cons_succ])
            refine wpAnyH_ready (rs := [13]) (by kernel_rfl) (by simp) ?_
            refine AllReadyH.cons (o := { dst := some 32, op := _, type := _, pos := _, after := _, guard := _ }) rfl (fun K hK => ?_) ?_
            · have hsb13e : SB w2 (w6) := hsb6
              have hzs13 := hsb13e.size
              (try simp only [World.size_alloc] at hzs13)
              have hown13 := (HK6_7.out)
              (try simp only [World.size_alloc] at hown13)
              refine step_app_one (by rfl) (.tmp 26) (.tmp 31) (by rfl) hown13.drew (by rfl) (by rfl) (HRL.out _ hsb13e).drew hm1 (by omega) ?_
              intro g13 c13 w13 ho13 hg13'
              have hg13 : (w6).grownBy w13 none := ⟨hg13'.os, hg13'.tape, hg13'.output, hg13'.size, hg13'.block⟩
              have hz13 := hg13.size
              (try simp only [World.size_alloc] at hz13)
              have hsb13 : SB w2 w13 := hsb13e.grown hg13
              have HXB13 := Lib.hid (Box.bg HXB6.out hg13)
              have HZB13 := Lib.hid (Box.bg HZB6.out hg13)
              have x130 := HXB13.out.fst
              have x131 := HXB13.out.snd
              have xl13 := HXB13.out.lt
              have z130 := HZB13.out.fst
              have z131 := HZB13.out.snd
              have zf130 := HZB13.out.free 0
              have zf131 := HZB13.out.free 1
              have zl13 := HZB13.out.lt
              have HO13 := Lib.hid (ho13.mono (show w.heap.size + 2 ≤ _ by first | omega | (simp; omega)))
              have hblk13 := (ho13.blk g13 rfl).1
              (try simp only [World.size_alloc, size_drew_] at hblk13)
              have HK13_7 := Lib.hid (((HK6_7.out)).kept hg13 (by simp))
              have HK13_0 := Lib.hid (((HK6_0.out)).kept hg13 (by simp))
              have HKR13_6 := Lib.hid (((HO6.out)).kept hg13 (by simp))
              have hlo13_6 := (HKR13_6.out.blk g6 rfl).2
              have hlow13_6 := (((HO6.out)).blk g6 rfl).2
              (try simp only [World.size_alloc] at hlow13_6)
              clear ho13 hg13 hg13' hsb13e
              refine hK.out _ _ ?_ (fun hHeld27 => ?_)
              · (try dsimp only)
                first | (constructor <;> go_simp) | go_keep
              clear hK K
              (try clear hHeld26)
              (try simp only [Act.put, List.setIfInBounds_toArray, List.set_cons_zero, List.set_cons_succ])
              refine wpAnyH_take (i := 14) (oi := { dst := some 33, op := _, type := _, pos := _, after := _, guard := _ }) (v := ?v28) rfl (by kernel_rfl) (by kernel_rfl) (by kernel_rfl) (fun _ _ _ h => h) (Or.inl ⟨by rfl, ?hy28⟩) (by assumption) ?rest28
              case hy28 => ((intro w0 hSw; (try dsimp only at hSw); go_simp) <;> with_reducible rfl)
              (try simp only [Act.put, List.setIfInBounds_toArray, List.set_cons_zero, List.set_cons_succ])
              refine wpAnyH_ready (rs := [15]) (by kernel_rfl) (by simp) ?_
              refine AllReadyH.cons (o := { dst := none, op := _, type := _, pos := _, after := _, guard := _ }) rfl (fun K hK => ?_) ?_
              · go_simp
                refine hK.out _ _ ?_ (fun hHeld29 => ?_)
                · (try dsimp only)
                  first | (constructor <;> go_simp) | go_keep
                clear hK K
                (try clear hHeld27)
                (try simp only [Act.put, List.setIfInBounds_toArray, List.set_cons_zero, List.set_cons_succ])
                refine wpAnyH_take (i := 16) (oi := { dst := some 3, op := _, type := _, pos := _, after := _, guard := _ }) (v := ?v30) rfl (by kernel_rfl) (by kernel_rfl) (by kernel_rfl) (fun _ _ _ h => h) (Or.inl ⟨by rfl, ?hy30⟩) (by assumption) ?rest30
                case hy30 => ((intro w0 hSw; (try dsimp only at hSw); go_simp) <;> with_reducible rfl)
                (try simp only [Act.put, List.setIfInBounds_toArray, List.set_cons_zero, List.set_cons_succ])
                refine wpAnyH_done (by kernel_rfl) ?_ _
                go_wp2
                have hb3 := Box.over (HZB13.out) (.slice (some ⟨g6, 0, none⟩) (1 + m) c6) (.slice (some ⟨g13, 0, none⟩) (1 + m) c13)
                have hfin := shift_end HL.out (HKR13_6.out) (HO13.out) (by omega) (HBB.out.trans (Below.mono (show SB w2 w13 from hsb13) HBB.out.size))
                have hc3 := hb3.fst
                have hd3 := hb3.snd
                exact bodyPost_ret (v := .tuple #[.agg #[.slice (some ⟨g6, 0, none⟩) (1 + m) c6, .slice (some ⟨g13, 0, none⟩) (1 + m) c13], .bool true]) (by simp [results, Try.results28, go_sem, hc3, hd3]) rfl hfin
              exact AllReadyH.nil
            exact AllReadyH.nil
          exact AllReadyH.nil
        exact AllReadyH.nil
      exact AllReadyH.nil
    · obtain rfl : m = 0 := by omega
      go_wp2_with fail
      refine wp_region_held_drew (S := (fun w' => w'.cell? ⟨w.heap.size, 0, none⟩ = some (.slice (some ⟨bh, oh, none⟩) (0 + 1) c) ∧ w'.cell? ⟨w.heap.size, 1, none⟩ = some (.slice (some ⟨bl, ol, none⟩) (0 + 1) c'))) (by kernel_rfl) ?_ (fun hHeld => ?_)
      · (try dsimp only)
        first | (constructor <;> go_simp) | go_keep
      refine wpAnyH_take (i := 1) (oi := { dst := some 20, op := _, type := _, pos := _, after := _, guard := _ }) (v := ?v31) rfl (by kernel_rfl) (by kernel_rfl) (by kernel_rfl) (fun _ _ _ h => h) (Or.inl ⟨by rfl, ?hy31⟩) (by assumption) ?rest31
      case hy31 => ((intro w0 hSw; (try dsimp only at hSw); go_simp) <;> with_reducible rfl)
      (try simp only [Act.put, List.setIfInBounds_toArray, List.set_cons_zero, List.set_cons_succ])
      refine wpAnyH_take (i := 2) (oi := { dst := some 21, op := _, type := _, pos := _, after := _, guard := _ }) (v := ?v32) rfl (by kernel_rfl) (by kernel_rfl) (by kernel_rfl) (fun _ _ _ h => h) (Or.inl ⟨by rfl, ?hy32⟩) (by assumption) ?rest32
      case hy32 => ((intro w0 hSw; (try dsimp only at hSw); go_simp) <;> with_reducible rfl)
      (try simp only [Act.put, List.setIfInBounds_toArray, List.set_cons_zero, List.set_cons_succ])
      refine wpAnyH_take (i := 3) (oi := { dst := some 22, op := _, type := _, pos := _, after := _, guard := _ }) (v := ?v33) rfl (by kernel_rfl) (by kernel_rfl) (by kernel_rfl) (fun _ _ _ h => h) (Or.inl ⟨by rfl, ?hy33⟩) (by assumption) ?rest33
      case hy33 => ((intro w0 hSw; (try dsimp only at hSw); go_simp) <;> with_reducible rfl)
      (try simp only [Act.put, List.setIfInBounds_toArray, List.set_cons_zero, List.set_cons_succ])
      refine wpAnyH_take (i := 4) (oi := { dst := some 23, op := _, type := _, pos := _, after := _, guard := _ }) (v := ?v34) rfl (by kernel_rfl) (by kernel_rfl) (by kernel_rfl) (fun _ _ _ h => h) (Or.inl ⟨by rfl, ?hy34⟩) (by assumption) ?rest34
      case hy34 => ((intro w0 hSw; (try dsimp only at hSw); go_simp) <;> with_reducible rfl)
      (try simp only [Act.put, List.setIfInBounds_toArray, List.set_cons_zero, List.set_cons_succ])
      refine wpAnyH_take (i := 5) (oi := { dst := some 24, op := _, type := _, pos := _, after := _, guard := _ }) (v := ?v35) rfl (by kernel_rfl) (by kernel_rfl) (by kernel_rfl) (fun _ _ _ h => h) (Or.inl ⟨by rfl, ?hy35⟩) (by assumption) ?rest35
      case hy35 => ((intro w0 hSw; (try dsimp only at hSw); go_simp) <;> with_reducible rfl)
      (try simp only [Act.put, List.setIfInBounds_toArray, List.set_cons_zero, List.set_cons_succ])
      refine wpAnyH_take (i := 8) (oi := { dst := some 27, op := _, type := _, pos := _, after := _, guard := _ }) (v := ?v36) rfl (by kernel_rfl) (by kernel_rfl) (by kernel_rfl) (fun _ _ _ h => h) (Or.inl ⟨by rfl, ?hy36⟩) (by assumption) ?rest36
      case hy36 => ((intro w0 hSw; (try dsimp only at hSw); go_simp) <;> with_reducible rfl)
      (try simp only [Act.put, List.setIfInBounds_toArray, List.set_cons_zero, List.set_cons_succ])
      refine wpAnyH_take (i := 9) (oi := { dst := some 28, op := _, type := _, pos := _, after := _, guard := _ }) (v := ?v37) rfl (by kernel_rfl) (by kernel_rfl) (by kernel_rfl) (fun _ _ _ h => h) (Or.inl ⟨by rfl, ?hy37⟩) (by assumption) ?rest37
      case hy37 => ((intro w0 hSw; (try dsimp only at hSw); go_simp) <;> with_reducible rfl)
      (try simp only [Act.put, List.setIfInBounds_toArray, List.set_cons_zero, List.set_cons_succ])
      refine wpAnyH_take (i := 10) (oi := { dst := some 29, op := _, type := _, pos := _, after := _, guard := _ }) (v := ?v38) rfl (by kernel_rfl) (by kernel_rfl) (by kernel_rfl) (fun _ _ _ h => h) (Or.inl ⟨by rfl, ?hy38⟩) (by assumption) ?rest38
      case hy38 => ((intro w0 hSw; (try dsimp only at hSw); go_simp) <;> with_reducible rfl)
      (try simp only [Act.put, List.setIfInBounds_toArray, List.set_cons_zero, List.set_cons_succ])
      refine wpAnyH_take (i := 11) (oi := { dst := some 30, op := _, type := _, pos := _, after := _, guard := _ }) (v := ?v39) rfl (by kernel_rfl) (by kernel_rfl) (by kernel_rfl) (fun _ _ _ h => h) (Or.inl ⟨by rfl, ?hy39⟩) (by assumption) ?rest39
      case hy39 => ((intro w0 hSw; (try dsimp only at hSw); go_simp) <;> with_reducible rfl)
      (try simp only [Act.put, List.setIfInBounds_toArray, List.set_cons_zero, List.set_cons_succ])
      refine wpAnyH_take (i := 12) (oi := { dst := some 31, op := _, type := _, pos := _, after := _, guard := _ }) (v := ?v40) rfl (by kernel_rfl) (by kernel_rfl) (by kernel_rfl) (fun _ _ _ h => h) (Or.inl ⟨by rfl, ?hy40⟩) (by assumption) ?rest40
      case hy40 => ((intro w0 hSw; (try dsimp only at hSw); go_simp) <;> with_reducible rfl)
      (try simp only [Act.put, List.setIfInBounds_toArray, List.set_cons_zero, List.set_cons_succ])
      refine wpAnyH_ready (rs := [0, 7]) (by kernel_rfl) (by simp) ?_
      refine AllReadyH.cons (o := { dst := some 19, op := _, type := _, pos := _, after := _, guard := _ }) rfl (fun K hK => ?_) ?_
      · go_simp
        refine hK.out _ _ ?_ (fun hHeld41 => ?_)
        · (try dsimp only)
          first | (constructor <;> go_simp) | go_keep
        clear hK K
        (try clear hHeld)
        (try simp only [Act.put, List.setIfInBounds_toArray, List.set_cons_zero, List.set_cons_succ])
        refine wpAnyH_ready (rs := [6, 7]) (by kernel_rfl) (by simp) ?_
        refine AllReadyH.cons (o := { dst := some 25, op := _, type := _, pos := _, after := _, guard := _ }) rfl (fun K hK => ?_) ?_
        · refine step_app_nothing (by rfl) (.tmp 19) (.tmp 24) (by rfl) (by rfl) (by rfl) ?_
          refine hK.out _ _ ?_ (fun hHeld42 => ?_)
          · (try dsimp only)
            first | (constructor <;> go_simp) | go_keep
          clear hK K
          (try clear hHeld41)
          (try simp only [Act.put, List.setIfInBounds_toArray, List.set_cons_zero, List.set_cons_succ])
          refine wpAnyH_ready (rs := [7]) (by kernel_rfl) (by simp) ?_
          refine AllReadyH.cons (o := { dst := some 26, op := _, type := _, pos := _, after := _, guard := _ }) rfl (fun K hK => ?_) ?_
          · go_simp
            refine hK.out _ _ ?_ (fun hHeld43 => ?_)
            · (try dsimp only)
              first | (constructor <;> go_simp) | go_keep
            clear hK K
            (try clear hHeld42)
            (try simp only [Act.put, List.setIfInBounds_toArray, List.set_cons_zero, List.set_cons_succ])
            refine wpAnyH_ready (rs := [13]) (by kernel_rfl) (by simp) ?_
            refine AllReadyH.cons (o := { dst := some 32, op := _, type := _, pos := _, after := _, guard := _ }) rfl (fun K hK => ?_) ?_
            · refine step_app_nothing (by rfl) (.tmp 26) (.tmp 31) (by rfl) (by rfl) (by rfl) ?_
              refine hK.out _ _ ?_ (fun hHeld44 => ?_)
              · (try dsimp only)
                first | (constructor <;> go_simp) | go_keep
              clear hK K
              (try clear hHeld43)
              (try simp only [Act.put, List.setIfInBounds_toArray, List.set_cons_zero, List.set_cons_succ])
              refine wpAnyH_take (i := 14) (oi := { dst := some 33, op := _, type := _, pos := _, after := _, guard := _ }) (v := ?v45) rfl (by kernel_rfl) (by kernel_rfl) (by kernel_rfl) (fun _ _ _ h => h) (Or.inl ⟨by rfl, ?hy45⟩) (by assumption) ?rest45
              case hy45 => ((intro w0 hSw; (try dsimp only at hSw); go_simp) <;> with_reducible rfl)
              (try simp only [Act.put, List.setIfInBounds_toArray, List.set_cons_zero, List.set_cons_succ])
              refine wpAnyH_ready (rs := [15]) (by kernel_rfl) (by simp) ?_
              refine AllReadyH.cons (o := { dst := none, op := _, type := _, pos := _, after := _, guard := _ }) rfl (fun K hK => ?_) ?_
              · go_simp
                refine hK.out _ _ ?_ (fun hHeld46 => ?_)
                · (try dsimp only)
                  first | (constructor <;> go_simp) | go_keep
                clear hK K
                (try clear hHeld44)
                (try simp only [Act.put, List.setIfInBounds_toArray, List.set_cons_zero, List.set_cons_succ])
                refine wpAnyH_take (i := 16) (oi := { dst := some 3, op := _, type := _, pos := _, after := _, guard := _ }) (v := ?v47) rfl (by kernel_rfl) (by kernel_rfl) (by kernel_rfl) (fun _ _ _ h => h) (Or.inl ⟨by rfl, ?hy47⟩) (by assumption) ?rest47
                case hy47 => ((intro w0 hSw; (try dsimp only at hSw); go_simp) <;> with_reducible rfl)
                (try simp only [Act.put, List.setIfInBounds_toArray, List.set_cons_zero, List.set_cons_succ])
                refine wpAnyH_done (by kernel_rfl) ?_ _
                go_wp2
                have o0 := (own_lit w2 [0] (w.heap.size + 2) 1 rfl (by omega) (by first | omega | (simp; omega))).alloc (.cells #[.int .i64 0] 3)
                have o7 := own_lit (w2.alloc (.cells #[.int .i64 0] 3)) [0] (w.heap.size + 2) 1 rfl (by omega) (by first | omega | (simp; omega))
                (try simp only [World.size_alloc] at o0 o7)
                have hww : (((w2.alloc (.cells #[.int .i64 0] 3)).alloc (.cells #[.int .i64 0] 3)).setCell ⟨w.heap.size + 1, 0, none⟩ (.slice (some ⟨w2.heap.size, 0, none⟩) 1 1)).setCell ⟨w.heap.size + 1, 1, none⟩ (.slice (some ⟨w2.heap.size + 1, 0, none⟩) 1 1) = ((((w2.setCell ⟨w.heap.size + 1, 0, none⟩ (.slice (some ⟨w2.heap.size, 0, none⟩) 1 1)).setCell ⟨w.heap.size + 1, 1, none⟩ (.slice (some ⟨w2.heap.size + 1, 0, none⟩) 1 1)).alloc (.cells #[.int .i64 0] 3)).alloc (.cells #[.int .i64 0] 3)) := by
                  rw [World.setCell_alloc_past (n := w.heap.size + 1) _ _ _ (by simp; omega), World.setCell_alloc_past (n := w.heap.size + 1) _ _ _ zl2, World.setCell_alloc_past (n := w.heap.size + 1) _ _ _ (by simp; omega), World.setCell_alloc_past (n := w.heap.size + 1) _ _ _ (by simp; omega)]
                have hfin : FrPair w true (shiftL ds) (.returned (.tuple #[.agg #[.slice (some ⟨w2.heap.size, 0, none⟩) 1 1, .slice (some ⟨w2.heap.size + 1, 0, none⟩) 1 1], .bool true])) ((((w2.setCell ⟨w.heap.size + 1, 0, none⟩ (.slice (some ⟨w2.heap.size, 0, none⟩) 1 1)).setCell ⟨w.heap.size + 1, 1, none⟩ (.slice (some ⟨w2.heap.size + 1, 0, none⟩) 1 1)).alloc (.cells #[.int .i64 0] 3)).alloc (.cells #[.int .i64 0] 3)) := by
                  rw [← hww]
                  exact shift_end (w4 := (w2.alloc (.cells #[.int .i64 0] 3)).alloc (.cells #[.int .i64 0] 3)) (m := 0) (ds := ds) HL.out (g1 := w2.heap.size) (g2 := w2.heap.size + 1) o0 o7 (by omega) (HBB.out.trans (Below.mono (show SB w2 ((w2.alloc (.cells #[.int .i64 0] 3)).alloc (.cells #[.int .i64 0] 3)) from (((SB.refl w2).alloc (.cells #[.int .i64 0] 3)).alloc (.cells #[.int .i64 0] 3))) HBB.out.size))
                have hb3 := ((Box.over HZB.out (.slice (some ⟨w2.heap.size, 0, none⟩) 1 1) (.slice (some ⟨w2.heap.size + 1, 0, none⟩) 1 1)).alloc (.cells #[.int .i64 0] 3)).alloc (.cells #[.int .i64 0] 3)
                have hc3 := hb3.fst
                have hd3 := hb3.snd
                exact bodyPost_ret (v := .tuple #[.agg #[.slice (some ⟨w2.heap.size, 0, none⟩) 1 1, .slice (some ⟨w2.heap.size + 1, 0, none⟩) 1 1], .bool true]) (by simp [results, Try.results28, go_sem, hc3, hd3]) rfl hfin.drew
              exact AllReadyH.nil
            exact AllReadyH.nil
          exact AllReadyH.nil
        refine AllReadyH.cons (o := { dst := some 26, op := _, type := _, pos := _, after := _, guard := _ }) rfl (fun K hK => ?_) ?_
        · go_simp
          refine hK.out _ _ ?_ (fun hHeld48 => ?_)
          · (try dsimp only)
            first | (constructor <;> go_simp) | go_keep
          clear hK K
          (try clear hHeld41)
          (try simp only [Act.put, List.setIfInBounds_toArray, List.set_cons_zero, List.set_cons_succ])
          refine wpAnyH_ready (rs := [6]) (by kernel_rfl) (by simp) ?_
          refine AllReadyH.cons (o := { dst := some 25, op := _, type := _, pos := _, after := _, guard := _ }) rfl (fun K hK => ?_) ?_
          · refine step_app_nothing (by rfl) (.tmp 19) (.tmp 24) (by rfl) (by rfl) (by rfl) ?_
            refine hK.out _ _ ?_ (fun hHeld49 => ?_)
            · (try dsimp only)
              first | (constructor <;> go_simp) | go_keep
            clear hK K
            (try clear hHeld48)
            (try simp only [Act.put, List.setIfInBounds_toArray, List.set_cons_zero, List.set_cons_succ])
            refine wpAnyH_ready (rs := [13]) (by kernel_rfl) (by simp) ?_
            refine AllReadyH.cons (o := { dst := some 32, op := _, type := _, pos := _, after := _, guard := _ }) rfl (fun K hK => ?_) ?_
            · refine step_app_nothing (by rfl) (.tmp 26) (.tmp 31) (by rfl) (by rfl) (by rfl) ?_
              refine hK.out _ _ ?_ (fun hHeld50 => ?_)
              · (try dsimp only)
                first | (constructor <;> go_simp) | go_keep
              clear hK K
              (try clear hHeld49)
              (try simp only [Act.put, List.setIfInBounds_toArray, List.set_cons_zero, List.set_cons_succ])
              refine wpAnyH_take (i := 14) (oi := { dst := some 33, op := _, type := _, pos := _, after := _, guard := _ }) (v := ?v51) rfl (by kernel_rfl) (by kernel_rfl) (by kernel_rfl) (fun _ _ _ h => h) (Or.inl ⟨by rfl, ?hy51⟩) (by assumption) ?rest51
              case hy51 => ((intro w0 hSw; (try dsimp only at hSw); go_simp) <;> with_reducible rfl)
              (try simp only [Act.put, List.setIfInBounds_toArray, List.set_cons_zero, List.set_cons_succ])
              refine wpAnyH_ready (rs := [15]) (by kernel_rfl) (by simp) ?_
              refine AllReadyH.cons (o := { dst := none, op := _, type := _, pos := _, after := _, guard := _ }) rfl (fun K hK => ?_) ?_
              · go_simp
                refine hK.out _ _ ?_ (fun hHeld52 => ?_)
                · (try dsimp only)
                  first | (constructor <;> go_simp) | go_keep
                clear hK K
                (try clear hHeld50)
                (try simp only [Act.put, List.setIfInBounds_toArray, List.set_cons_zero, List.set_cons_succ])
                refine wpAnyH_take (i := 16) (oi := { dst := some 3, op := _, type := _, pos := _, after := _, guard := _ }) (v := ?v53) rfl (by kernel_rfl) (by kernel_rfl) (by kernel_rfl) (fun _ _ _ h => h) (Or.inl ⟨by rfl, ?hy53⟩) (by assumption) ?rest53
                case hy53 => ((intro w0 hSw; (try dsimp only at hSw); go_simp) <;> with_reducible rfl)
                (try simp only [Act.put, List.setIfInBounds_toArray, List.set_cons_zero, List.set_cons_succ])
                refine wpAnyH_done (by kernel_rfl) ?_ _
                go_wp2
                have o0 := (own_lit w2 [0] (w.heap.size + 2) 1 rfl (by omega) (by first | omega | (simp; omega))).alloc (.cells #[.int .i64 0] 3)
                have o7 := own_lit (w2.alloc (.cells #[.int .i64 0] 3)) [0] (w.heap.size + 2) 1 rfl (by omega) (by first | omega | (simp; omega))
                (try simp only [World.size_alloc] at o0 o7)
                have hww : (((w2.alloc (.cells #[.int .i64 0] 3)).alloc (.cells #[.int .i64 0] 3)).setCell ⟨w.heap.size + 1, 0, none⟩ (.slice (some ⟨w2.heap.size, 0, none⟩) 1 1)).setCell ⟨w.heap.size + 1, 1, none⟩ (.slice (some ⟨w2.heap.size + 1, 0, none⟩) 1 1) = ((((w2.setCell ⟨w.heap.size + 1, 0, none⟩ (.slice (some ⟨w2.heap.size, 0, none⟩) 1 1)).setCell ⟨w.heap.size + 1, 1, none⟩ (.slice (some ⟨w2.heap.size + 1, 0, none⟩) 1 1)).alloc (.cells #[.int .i64 0] 3)).alloc (.cells #[.int .i64 0] 3)) := by
                  rw [World.setCell_alloc_past (n := w.heap.size + 1) _ _ _ (by simp; omega), World.setCell_alloc_past (n := w.heap.size + 1) _ _ _ zl2, World.setCell_alloc_past (n := w.heap.size + 1) _ _ _ (by simp; omega), World.setCell_alloc_past (n := w.heap.size + 1) _ _ _ (by simp; omega)]
                have hfin : FrPair w true (shiftL ds) (.returned (.tuple #[.agg #[.slice (some ⟨w2.heap.size, 0, none⟩) 1 1, .slice (some ⟨w2.heap.size + 1, 0, none⟩) 1 1], .bool true])) ((((w2.setCell ⟨w.heap.size + 1, 0, none⟩ (.slice (some ⟨w2.heap.size, 0, none⟩) 1 1)).setCell ⟨w.heap.size + 1, 1, none⟩ (.slice (some ⟨w2.heap.size + 1, 0, none⟩) 1 1)).alloc (.cells #[.int .i64 0] 3)).alloc (.cells #[.int .i64 0] 3)) := by
                  rw [← hww]
                  exact shift_end (w4 := (w2.alloc (.cells #[.int .i64 0] 3)).alloc (.cells #[.int .i64 0] 3)) (m := 0) (ds := ds) HL.out (g1 := w2.heap.size) (g2 := w2.heap.size + 1) o0 o7 (by omega) (HBB.out.trans (Below.mono (show SB w2 ((w2.alloc (.cells #[.int .i64 0] 3)).alloc (.cells #[.int .i64 0] 3)) from (((SB.refl w2).alloc (.cells #[.int .i64 0] 3)).alloc (.cells #[.int .i64 0] 3))) HBB.out.size))
                have hb3 := ((Box.over HZB.out (.slice (some ⟨w2.heap.size, 0, none⟩) 1 1) (.slice (some ⟨w2.heap.size + 1, 0, none⟩) 1 1)).alloc (.cells #[.int .i64 0] 3)).alloc (.cells #[.int .i64 0] 3)
                have hc3 := hb3.fst
                have hd3 := hb3.snd
                exact bodyPost_ret (v := .tuple #[.agg #[.slice (some ⟨w2.heap.size, 0, none⟩) 1 1, .slice (some ⟨w2.heap.size + 1, 0, none⟩) 1 1], .bool true]) (by simp [results, Try.results28, go_sem, hc3, hd3]) rfl hfin.drew
              exact AllReadyH.nil
            exact AllReadyH.nil
          exact AllReadyH.nil
        exact AllReadyH.nil
      refine AllReadyH.cons (o := { dst := some 26, op := _, type := _, pos := _, after := _, guard := _ }) rfl (fun K hK => ?_) ?_
      · go_simp
        refine hK.out _ _ ?_ (fun hHeld54 => ?_)
        · (try dsimp only)
          first | (constructor <;> go_simp) | go_keep
        clear hK K
        (try clear hHeld)
        (try simp only [Act.put, List.setIfInBounds_toArray, List.set_cons_zero, List.set_cons_succ])
        refine wpAnyH_ready (rs := [0]) (by kernel_rfl) (by simp) ?_
        refine AllReadyH.cons (o := { dst := some 19, op := _, type := _, pos := _, after := _, guard := _ }) rfl (fun K hK => ?_) ?_
        · go_simp
          refine hK.out _ _ ?_ (fun hHeld55 => ?_)
          · (try dsimp only)
            first | (constructor <;> go_simp) | go_keep
          clear hK K
          (try clear hHeld54)
          (try simp only [Act.put, List.setIfInBounds_toArray, List.set_cons_zero, List.set_cons_succ])
          refine wpAnyH_ready (rs := [6]) (by kernel_rfl) (by simp) ?_
          refine AllReadyH.cons (o := { dst := some 25, op := _, type := _, pos := _, after := _, guard := _ }) rfl (fun K hK => ?_) ?_
          · refine step_app_nothing (by rfl) (.tmp 19) (.tmp 24) (by rfl) (by rfl) (by rfl) ?_
            refine hK.out _ _ ?_ (fun hHeld56 => ?_)
            · (try dsimp only)
              first | (constructor <;> go_simp) | go_keep
            clear hK K
            (try clear hHeld55)
            (try simp only [Act.put, List.setIfInBounds_toArray, List.set_cons_zero, List.set_cons_succ])
            refine wpAnyH_ready (rs := [13]) (by kernel_rfl) (by simp) ?_
            refine AllReadyH.cons (o := { dst := some 32, op := _, type := _, pos := _, after := _, guard := _ }) rfl (fun K hK => ?_) ?_
            · refine step_app_nothing (by rfl) (.tmp 26) (.tmp 31) (by rfl) (by rfl) (by rfl) ?_
              refine hK.out _ _ ?_ (fun hHeld57 => ?_)
              · (try dsimp only)
                first | (constructor <;> go_simp) | go_keep
              clear hK K
              (try clear hHeld56)
              (try simp only [Act.put, List.setIfInBounds_toArray, List.set_cons_zero, List.set_cons_succ])
              refine wpAnyH_take (i := 14) (oi := { dst := some 33, op := _, type := _, pos := _, after := _, guard := _ }) (v := ?v58) rfl (by kernel_rfl) (by kernel_rfl) (by kernel_rfl) (fun _ _ _ h => h) (Or.inl ⟨by rfl, ?hy58⟩) (by assumption) ?rest58
              case hy58 => ((intro w0 hSw; (try dsimp only at hSw); go_simp) <;> with_reducible rfl)
              (try simp only [Act.put, List.setIfInBounds_toArray, List.set_cons_zero, List.set_cons_succ])
              refine wpAnyH_ready (rs := [15]) (by kernel_rfl) (by simp) ?_
              refine AllReadyH.cons (o := { dst := none, op := _, type := _, pos := _, after := _, guard := _ }) rfl (fun K hK => ?_) ?_
              · go_simp
                refine hK.out _ _ ?_ (fun hHeld59 => ?_)
                · (try dsimp only)
                  first | (constructor <;> go_simp) | go_keep
                clear hK K
                (try clear hHeld57)
                (try simp only [Act.put, List.setIfInBounds_toArray, List.set_cons_zero, List.set_cons_succ])
                refine wpAnyH_take (i := 16) (oi := { dst := some 3, op := _, type := _, pos := _, after := _, guard := _ }) (v := ?v60) rfl (by kernel_rfl) (by kernel_rfl) (by kernel_rfl) (fun _ _ _ h => h) (Or.inl ⟨by rfl, ?hy60⟩) (by assumption) ?rest60
                case hy60 => ((intro w0 hSw; (try dsimp only at hSw); go_simp) <;> with_reducible rfl)
                (try simp only [Act.put, List.setIfInBounds_toArray, List.set_cons_zero, List.set_cons_succ])
                refine wpAnyH_done (by kernel_rfl) ?_ _
                go_wp2
                have o0 := own_lit (w2.alloc (.cells #[.int .i64 0] 3)) [0] (w.heap.size + 2) 1 rfl (by omega) (by first | omega | (simp; omega))
                have o7 := (own_lit w2 [0] (w.heap.size + 2) 1 rfl (by omega) (by first | omega | (simp; omega))).alloc (.cells #[.int .i64 0] 3)
                (try simp only [World.size_alloc] at o0 o7)
                have hww : (((w2.alloc (.cells #[.int .i64 0] 3)).alloc (.cells #[.int .i64 0] 3)).setCell ⟨w.heap.size + 1, 0, none⟩ (.slice (some ⟨w2.heap.size + 1, 0, none⟩) 1 1)).setCell ⟨w.heap.size + 1, 1, none⟩ (.slice (some ⟨w2.heap.size, 0, none⟩) 1 1) = ((((w2.setCell ⟨w.heap.size + 1, 0, none⟩ (.slice (some ⟨w2.heap.size + 1, 0, none⟩) 1 1)).setCell ⟨w.heap.size + 1, 1, none⟩ (.slice (some ⟨w2.heap.size, 0, none⟩) 1 1)).alloc (.cells #[.int .i64 0] 3)).alloc (.cells #[.int .i64 0] 3)) := by
                  rw [World.setCell_alloc_past (n := w.heap.size + 1) _ _ _ (by simp; omega), World.setCell_alloc_past (n := w.heap.size + 1) _ _ _ zl2, World.setCell_alloc_past (n := w.heap.size + 1) _ _ _ (by simp; omega), World.setCell_alloc_past (n := w.heap.size + 1) _ _ _ (by simp; omega)]
                have hfin : FrPair w true (shiftL ds) (.returned (.tuple #[.agg #[.slice (some ⟨w2.heap.size + 1, 0, none⟩) 1 1, .slice (some ⟨w2.heap.size, 0, none⟩) 1 1], .bool true])) ((((w2.setCell ⟨w.heap.size + 1, 0, none⟩ (.slice (some ⟨w2.heap.size + 1, 0, none⟩) 1 1)).setCell ⟨w.heap.size + 1, 1, none⟩ (.slice (some ⟨w2.heap.size, 0, none⟩) 1 1)).alloc (.cells #[.int .i64 0] 3)).alloc (.cells #[.int .i64 0] 3)) := by
                  rw [← hww]
                  exact shift_end (w4 := (w2.alloc (.cells #[.int .i64 0] 3)).alloc (.cells #[.int .i64 0] 3)) (m := 0) (ds := ds) HL.out (g1 := w2.heap.size + 1) (g2 := w2.heap.size) o0 o7 (by omega) (HBB.out.trans (Below.mono (show SB w2 ((w2.alloc (.cells #[.int .i64 0] 3)).alloc (.cells #[.int .i64 0] 3)) from (((SB.refl w2).alloc (.cells #[.int .i64 0] 3)).alloc (.cells #[.int .i64 0] 3))) HBB.out.size))
                have hb3 := ((Box.over HZB.out (.slice (some ⟨w2.heap.size + 1, 0, none⟩) 1 1) (.slice (some ⟨w2.heap.size, 0, none⟩) 1 1)).alloc (.cells #[.int .i64 0] 3)).alloc (.cells #[.int .i64 0] 3)
                have hc3 := hb3.fst
                have hd3 := hb3.snd
                exact bodyPost_ret (v := .tuple #[.agg #[.slice (some ⟨w2.heap.size + 1, 0, none⟩) 1 1, .slice (some ⟨w2.heap.size, 0, none⟩) 1 1], .bool true]) (by simp [results, Try.results28, go_sem, hc3, hd3]) rfl hfin.drew
              exact AllReadyH.nil
            exact AllReadyH.nil
          exact AllReadyH.nil
        exact AllReadyH.nil
      exact AllReadyH.nil
  · have hd1 : (d == 0) = false := by simpa using hd0
    have HBF := Lib.hid (FrPair.no (w := w) (ds := shiftL ds) (below_over HBB.out (show w.heap.size ≤ w.heap.size + 1 by omega) (.slice none 0 0) (.slice none 0 0)))
    have hb3 := HZB.out.over (.slice none 0 0) (.slice none 0 0)
    have HC3 := Lib.hid hb3.fst
    have HD3 := Lib.hid hb3.snd
    clear hb3
    go_wp2
    exact bodyPost_ret (v := .tuple #[.agg #[.slice none 0 0, .slice none 0 0], .bool false]) (by simp [results, Try.results28, go_sem, HC3.out, HD3.out]) rfl (by rw [decide_eq_false hd0]; exact HBF.out)
set_option maxRecDepth 100000 in
set_option maxHeartbeats 2000000 in
theorem specFrameShift_no (A A' : Option Addr) (n m c c' : Nat) (hs ls : List Int) (w : World) (hx : Ints w w.heap.size A n hs) (hy : Ints w w.heap.size A' m ls) (hno : ¬ FrOk hs ls) :
    Calls Try.prog 28 #[.agg #[.slice A n c, .slice A' m c']] w (FrPair w false []) := by
  have HX := Lib.hid hx
  have HY := Lib.hid hy
  have HN := Lib.hid hno
  clear hx hy hno
  go_enter Try.func28, Try.ntmps28
  go_wp2_with fail
  refine (specFrameValid_no A A' n m c c' hs ls _ ((HX.out.al _).al _) ((HY.out.al _).al _) HN.out).mono ?_
  rintro e w1 ⟨rfl, hb1⟩
  have hz := ((Box.new (w.alloc (.cells #[.slice A n c, .slice A' m c'] 25)) (.slice none 0 0) (.slice none 0 0)).next hb1)
  have hz0 := hz.fst
  have hz1 := hz.snd
  have hf0 := hz.free 0
  have hf1 := hz.free 1
  simp only [World.size_alloc] at hz hz0 hz1 hf0 hf1
  have HZ := Lib.hid hz
  have HB := Lib.hid ((below_two w _ _).trans (hb1.mono (by simp; omega)))
  clear hz hb1
  go_wp2
  exact bodyPost_ret (v := .tuple #[.agg #[.slice none 0 0, .slice none 0 0], .bool false]) (by simp [results, Try.results28, go_sem, over_fst HZ.out, over_snd HZ.out]) rfl (FrPair.no (below_over HB.out (by omega) _ _))
end Go.Proofs.Ytpaepdlkjblfgaa
