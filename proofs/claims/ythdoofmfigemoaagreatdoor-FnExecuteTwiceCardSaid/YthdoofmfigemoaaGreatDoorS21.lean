/-
  Joined texts.
-/
import Derived.Test.YthdoofmfigemoaaGreatDoorS19
import Derived.Test.YthdoofmfigemoaaGreatDoorS20
set_option linter.unusedSimpArgs false
set_option linter.unusedVariables false
set_option maxRecDepth 100000
set_option maxHeartbeats 4000000
namespace Go.Proofs.YthdoofmfigemoaaGreatDoor
open Go.RowKit
theorem l9Line_any (s : St) (hs : InvS s) (k : List UInt8) (ws : List (List UInt8)) (v : Value) (Aw : Option Addr) (nw cw : Nat) (w : World) (h : AskIn w s k ws v Aw nw cw) :
  Calls Tryz.prog 52 #[v, .slice Aw nw cw] w (LinePost9 w (stepW s k (ws.map wnum))) := by
 by_cases ht : Tested k ws.length
 ·rcases ht with ⟨rfl, hl⟩ | ⟨rfl, hl⟩ | ⟨rfl, hl⟩ | ⟨rfl, hl⟩ | ⟨rfl, hl⟩ | ⟨rfl, hl⟩ | ⟨rfl, hl⟩
  ·obtain ⟨x, rfl⟩ := len1 hl
   refine l9Line_lay s hs trivial x v Aw nw cw w h _ _ _ rfl rfl (fun h => ?_) (fun h => ?_)
   ·show (if layOk s (wnum x) then okT else noT, layTo s (wnum x)) = _
    have h' : layOk s (wnum x) = true := h
    unfold layTo
    rw [h']
    rfl
   ·show (if layOk s (wnum x) then okT else noT, layTo s (wnum x)) = _
    have h' : layOk s (wnum x) = false := h
    unfold layTo
    rw [h']
    rfl
  ·obtain rfl := len0 hl
   refine l9Line_reduce s hs v Aw nw cw w h _ _ _ rfl rfl (fun h => ?_) (fun h => ?_)
   ·show (if redOK s.bs then okT else noT, redTo s) = _
    unfold redTo
    rw [h]
    rfl
   ·show (if redOK s.bs then okT else noT, redTo s) = _
    unfold redTo
    rw [h]
    rfl
  ·obtain ⟨x, rfl⟩ := len1 hl
   refine l9Line_raise s hs trivial x v Aw nw cw w h _ _ _ rfl rfl (fun h => ?_) (fun h => ?_)
   ·show (if raiseOK s.bs (wnum x) then okT else noT, raiseTo s (wnum x)) = _
    unfold raiseTo
    rw [h]
    rfl
   ·show (if raiseOK s.bs (wnum x) then okT else noT, raiseTo s (wnum x)) = _
    unfold raiseTo
    rw [h]
    rfl
  ·obtain ⟨x, rfl⟩ := len1 hl
   refine l9Line_add s hs trivial x v Aw nw cw w h _ _ rfl (fun es p h => ?_) (fun h => ?_)
   ·show (frSays (frBy 1 s.ds (wnum x)), frTo 1 s (wnum x)) = _
    unfold frTo
    rw [h]
    rfl
   ·show (frSays (frBy 1 s.ds (wnum x)), frTo 1 s (wnum x)) = _
    unfold frTo
    rw [h]
    rfl
  ·obtain ⟨x, rfl⟩ := len1 hl
   refine l9Line_take s hs trivial x v Aw nw cw w h _ _ rfl (fun es p h => ?_) (fun h => ?_)
   ·show (frSays (frBy (-1) s.ds (wnum x)), frTo (-1) s (wnum x)) = _
    unfold frTo
    rw [h]
    rfl
   ·show (frSays (frBy (-1) s.ds (wnum x)), frTo (-1) s (wnum x)) = _
    unfold frTo
    rw [h]
    rfl
  ·obtain ⟨x, y, z, rfl⟩ := len3 hl
   refine l9Line_owe s hs trivial x y z v Aw nw cw w h _ _ _ rfl rfl (fun h => ?_) (fun h => ?_)
   ·show (if oweOk s.ts (wnum x) (wnum y) (wnum z) then okT else noT, oweTo s (wnum x) (wnum y) (wnum z)) = _
    unfold oweTo OweL
    rw [h]
    rfl
   ·show (if oweOk s.ts (wnum x) (wnum y) (wnum z) then okT else noT, oweTo s (wnum x) (wnum y) (wnum z)) = _
    unfold oweTo
    rw [h]
    rfl
  ·obtain rfl := len0 hl
   refine l9Line_settle s hs v Aw nw cw w h _ _ _ rfl rfl (fun h => ?_) (fun h => ?_)
   ·show (if (settleOf s.ts).isSome then okT else noT, setTo s) = _
    unfold setTo
    cases hS : settleOf s.ts with
    | none => rw [hS] at h; cases h
    | some us => rfl
   ·show (if (settleOf s.ts).isSome then okT else noT, setTo s) = _
    unfold setTo
    cases hS : settleOf s.ts with
    | none => rfl
    | some us => rw [hS] at h; cases h
 ·exact l9Line_other s hs k ws v Aw nw cw w h _ (by rw [step_ask (by rw [List.length_map]; exact ht)]) ht
def Slices (cs : Array Value) : Prop := ∀ (j : Nat) (u : Value), cs[j]? = some u → ∃ A n c, u = Value.slice A n c
theorem slices4 (A0 A1 A2 A3 : Option Addr) (n0 n1 n2 n3 c0 c1 c2 c3 : Nat) : Slices #[.slice A0 n0 c0, .slice A1 n1 c1, .slice A2 n2 c2, .slice A3 n3 c3] := by
 intro j u h
 match j, h with
 | 0, h => exact ⟨_, _, _, (Option.some.inj h).symm⟩
 | 1, h => exact ⟨_, _, _, (Option.some.inj h).symm⟩
 | 2, h => exact ⟨_, _, _, (Option.some.inj h).symm⟩
 | 3, h => exact ⟨_, _, _, (Option.some.inj h).symm⟩
theorem Row.box {w : World} {B n k b : Nat} {A : Option Addr} {vs : List Value} {cs : Array Value} {T : TypeId} (h : Row w B A n k vs) (hv : ∀ u ∈ vs, ∀ A n c, u ≠ Value.slice A n c) (hz : Blk w b cs T) (hs : Slices cs) (j : Nat) (x : Value) : Row (w.setCell ⟨b, j, none⟩ x) B A n k vs := by
 refine ⟨h.1, h.2.1, fun hn => ?_⟩
 obtain ⟨q, off, e, hq, hc⟩ := h.2.2 hn
 refine ⟨q, off, e, hq, fun i u hi => ?_⟩
 have h1 := hc i u hi
 have hne : q ≠ b := by
  intro e2
  subst e2
  rw [cell_of_row w q (off + i) _ _ _ hz] at h1
  obtain ⟨A', n', c', rfl⟩ := hs _ _ h1
  exact hv _ (List.mem_of_getElem? hi) A' n' c' rfl
 exact (World.cell?_of_block (heap_setCell_other w _ q _ hne)).trans h1
theorem Ints.box {w : World} {B n b : Nat} {A : Option Addr} {xs : List Int} {cs : Array Value} {T : TypeId} (h : Ints w B A n xs) (hz : Blk w b cs T) (hs : Slices cs) (j : Nat) (x : Value) : Ints (w.setCell ⟨b, j, none⟩ x) B A n xs := by
 refine ⟨h.1, h.2.1, fun hn => ?_⟩
 obtain ⟨q, off, e, hq, hc⟩ := h.2.2 hn
 refine ⟨q, off, e, hq, fun i u hi => ?_⟩
 have h1 := hc i u hi
 have hne : q ≠ b := by
  intro e2
  subst e2
  rw [cell_of_row w q (off + i) _ _ _ hz] at h1
  obtain ⟨A', n', c', h2⟩ := hs _ _ h1
  cases h2
 exact (World.cell?_of_block (heap_setCell_other w _ q _ hne)).trans h1
theorem TV_noslice (ts : List Tl) : ∀ u ∈ TV ts, ∀ A n c, u ≠ Value.slice A n c := by
 intro u hu A n c e
 obtain ⟨t, -, h⟩ := List.mem_flatMap.1 hu
 subst e
 simp [Tl.cells] at h
theorem SVal.box {w : World} {s : St} {v : Value} {b : Nat} {cs : Array Value} {T : TypeId} (h : SVal w s v) (hz : Blk w b cs T) (hs : Slices cs) (j : Nat) (x : Value) : SVal (w.setCell ⟨b, j, none⟩ x) s v := by
 obtain ⟨Ab, nb, cb, A, c, A', c', At, nt, ct, e, h1, h2, h3, h4⟩ := h
 have hsz : (w.setCell ⟨b, j, none⟩ x).heap.size = w.heap.size := by simp [World.setCell]
 exact ⟨Ab, nb, cb, A, c, A', c', At, nt, ct, e, by rw [hsz]; exact h1.box hz hs j x, by rw [hsz]; exact h2.box hz hs j x, by rw [hsz]; exact h3.box hz hs j x, by rw [hsz]; exact Row.box h4 (TV_noslice _) hz hs j x⟩
theorem SVal.box4 {w : World} {s : St} {v : Value} {b : Nat} {A0 A1 A2 A3 B0 B1 B2 B3 : Option Addr} {n0 n1 n2 n3 c0 c1 c2 c3 m0 m1 m2 m3 d0 d1 d2 d3 : Nat} {T : TypeId} (h : SVal w s v) (hz : Blk w b #[.slice A0 n0 c0, .slice A1 n1 c1, .slice A2 n2 c2, .slice A3 n3 c3] T) :
  SVal ((((w.setCell ⟨b, 0, none⟩ (.slice B0 m0 d0)).setCell ⟨b, 1, none⟩ (.slice B1 m1 d1)).setCell ⟨b, 2, none⟩ (.slice B2 m2 d2)).setCell ⟨b, 3, none⟩ (.slice B3 m3 d3)) s v := by
 have z1 : Blk (w.setCell ⟨b, 0, none⟩ (.slice B0 m0 d0)) b #[.slice B0 m0 d0, .slice A1 n1 c1, .slice A2 n2 c2, .slice A3 n3 c3] T := hz.set 0 _
 have z2 : Blk ((w.setCell ⟨b, 0, none⟩ (.slice B0 m0 d0)).setCell ⟨b, 1, none⟩ (.slice B1 m1 d1)) b #[.slice B0 m0 d0, .slice B1 m1 d1, .slice A2 n2 c2, .slice A3 n3 c3] T := z1.set 1 _
 have z3 : Blk (((w.setCell ⟨b, 0, none⟩ (.slice B0 m0 d0)).setCell ⟨b, 1, none⟩ (.slice B1 m1 d1)).setCell ⟨b, 2, none⟩ (.slice B2 m2 d2)) b #[.slice B0 m0 d0, .slice B1 m1 d1, .slice B2 m2 d2, .slice A3 n3 c3] T := z2.set 2 _
 exact (((h.box hz (slices4 _ _ _ _ _ _ _ _ _ _ _ _) 0 _).box z1 (slices4 _ _ _ _ _ _ _ _ _ _ _ _) 1 _).box z2 (slices4 _ _ _ _ _ _ _ _ _ _ _ _) 2 _).box z3 (slices4 _ _ _ _ _ _ _ _ _ _ _ _) 3 _
theorem start_bs : (if okV 0 = true then Bd.D true 10 0 else []) = St.start.bs := by decide
theorem start_ds : (if true = true then digitsOf 4 0 else []) = St.start.ds := by decide
theorem specExecute_long (text : ByteArray) (w : World) (hs : 400 < text.size) : Calls Tryz.prog 14 #[.string text] w fun e w' => e = .returned (.string (bs longT)) ∧ Below w.heap.size w w' := by
 go_enter Tryz.func14, Tryz.ntmps14
 go_wp2_with fail
 go_ret
 exact ⟨rfl, Below.refl _ _⟩
theorem SVal.parts {w : World} {s : St} {Ab A A' At : Option Addr} {nb cb c c' nt ct : Nat} (h : SVal w s (.agg #[.slice Ab nb cb, .slice A 4 c, .slice A' 4 c', .slice At nt ct])) : Ints w w.heap.size Ab nb s.bs ∧ Tals w w.heap.size At nt s.ts := by
 obtain ⟨Ab1, nb1, cb1, A1, c1, A1', c1', At1, nt1, ct1, e, i1, i2, i3, i4⟩ := h
 simp at e
 obtain ⟨⟨rfl, rfl, rfl⟩, -, -, rfl, rfl, rfl⟩ := e
 exact ⟨i1, i4⟩
theorem end_eq (o : List UInt8) (s : St) : ((((bs o ++ ⟨#[118, 97, 108, 117, 101, 32]⟩) ++ dec (bVal s.bs)) ++ ⟨#[32, 116, 97, 108, 108, 105, 101, 115, 32]⟩) ++ dec (s.ts.length : Int)) ++ ⟨#[10]⟩ = bs (o ++ endS s) := by
 show ((((bs o ++ bs [118, 97, 108, 117, 101, 32]) ++ bs (Lib.itoa (bVal s.bs))) ++ bs [32, 116, 97, 108, 108, 105, 101, 115, 32]) ++ bs (Lib.itoa (s.ts.length : Int))) ++ bs [10] = _
 simp only [bs_append]
 congr 1
 simp [endS, endL]
theorem specExecute_short (text : ByteArray) (w : World) (hs : text.size ≤ 400) (ls : List (List UInt8)) (lst : List UInt8) (hcut : cut 10 text.data.toList = ls ++ [lst]) (out : List UInt8) (s' : St) (hrun : runL St.start ls = (out, s')) (hlen : out.length ≤ 100000) :
  Calls Tryz.prog 14 #[.string text] w fun e w' => e = .returned (.string (bs (out ++ endS s'))) ∧ Below w.heap.size w w' := by
 have hle : ¬ 400 < text.size := by omega
 have HC := Hd (fun w => l9Cut_any 10 text w (by omega))
 have HR := Hd hrun
 have HCUT := Hd hcut
 clear hcut hrun
 go_enter Tryz.func14, Tryz.ntmps14
 go_wp2_with fail
 refine (specBoardOf_any 0 _).mono ?_
 rintro e w1 ⟨⟨A1, n1, c1, rfl, ho1⟩, hb1⟩
 rw [start_bs] at ho1
 have HB1 := Hd hb1
 have HO1 := Hd ho1
 clear hb1 ho1
 go_wp2_with fail
 refine (specFrameOf_yes 4 0 _ (by omega) (by omega) (by omega) (by decide)).mono ?_
 rintro e w2 ⟨⟨v, rfl, hfo⟩, hb2⟩
 rw [start_ds] at hfo
 obtain ⟨A2, c2, A3, c3, rfl, o2, o3, -, -⟩ := hfo
 have e4 : St.start.ds.length = 4 := rfl
 simp only [e4] at o2 o3 ⊢
 have HB2 := Hd (below_chain HB1.out hb2)
 have HO := Hd (And.intro (HO1.out.next hb2) (And.intro o2 o3))
 clear hb2 o2 o3 HO1 HB1 e4
 go_wp2_with fail
 obtain ⟨W3, hW3⟩ : ∃ V, (((w2.alloc (.cells #[.slice A2 4 c2, .slice A3 4 c3] 30)).alloc (.cells #[] 52)).alloc (.cells #[.slice A1 n1 c1, .slice A2 4 c2, .slice A3 4 c3, .slice (some ⟨w2.heap.size + 1, 0, none⟩) 0 0] T75)) = V := ⟨_, rfl⟩
 have hb23 : Below w2.heap.size w2 W3 := by rw [← hW3]; exact (((Below.refl _ _).alloc (Nat.le_refl _) _).alloc (by simp) _).alloc (by simp; omega) _
 obtain ⟨b7, hb7⟩ : ∃ b, w2.heap.size + 1 + 1 = b := ⟨_, rfl⟩
 have hx7 : Blk W3 b7 #[.slice A1 n1 c1, .slice A2 4 c2, .slice A3 4 c3, .slice (some ⟨w2.heap.size + 1, 0, none⟩) 0 0] T75 := by
  rw [← hW3, ← hb7]
  have := Blk.new ((w2.alloc (.cells #[.slice A2 4 c2, .slice A3 4 c3] 30)).alloc (.cells #[] 52)) #[.slice A1 n1 c1, .slice A2 4 c2, .slice A3 4 c3, .slice (some ⟨w2.heap.size + 1, 0, none⟩) 0 0] T75
  simpa using this
 have hsv3 : SVal W3 St.start (.agg #[.slice A1 n1 c1, .slice A2 4 c2, .slice A3 4 c3, .slice (some ⟨w2.heap.size + 1, 0, none⟩) 0 0]) := by
  refine ⟨A1, n1, c1, A2, c2, A3, c3, some ⟨w2.heap.size + 1, 0, none⟩, 0, 0, rfl, ?_, ?_, ?_, Row.nil _ _ _ _⟩
  ·exact HO.out.1.ints.next hb23
  ·exact HO.out.2.1.ints.next hb23
  ·exact HO.out.2.2.ints.next hb23
 have hw7 : w.heap.size ≤ b7 := by have := HB2.out.size; omega
 have hlt7 : b7 < W3.heap.size := hx7.lt
 have hbw3 : Below w.heap.size w W3 := HB2.out.trans (hb23.mono HB2.out.size)
 rw [hW3, hb7]
 have HX3 := Hd (And.intro hx7 (And.intro hsv3 hbw3))
 clear hW3 hb23 hb7 hx7 hsv3 hbw3 HO HB2
 refine (HC.out _).mono ?_
 rintro e w4 ⟨Al, nl, cl, rfl, hal, hnl, hb4⟩
 rw [HCUT.out] at hal hnl
 obtain ⟨n, hn⟩ : ∃ n, ls.length = n := ⟨_, rfl⟩
 have hnl2 : nl = n + 1 := by rw [hnl, ← hn]; simp
 subst hnl2
 obtain ⟨gl, rfl⟩ := OwnR.some2 hal (by omega)
 have HLR0 := Hd (hal.mono (B' := 0) (Nat.zero_le _))
 have HX4 := Hd (And.intro (HX3.out.1.next hb4) (And.intro (HX3.out.2.1.next hb4) (HX3.out.2.2.trans (hb4.mono HX3.out.2.2.size))))
 have hlt74 : b7 < w4.heap.size := HX4.out.1.lt
 have hn400 : n ≤ 401 := by
  have h1 := cut_count 10 text.data.toList
  rw [HCUT.out] at h1
  have h2 : text.data.toList.length = text.size := by simp
  simp at h1
  omega
 have HN := Hd hn
 clear hal hnl hb4 hn HX3 hlt7
 have hnI : (n : Int) ≤ 401 := by omega
 go_wp2_with fail
 go_loopw [8, 10] (fun ov iv wr => ∃ (j : Nat) (st : St) (o1 : List UInt8) (Ab A A' At : Option Addr) (nb cb c c' nt ct : Nat), j ≤ n ∧ iv = .int .i64 (j : Int) ∧ ov = .string (bs o1) ∧ o1 ++ (runL st (ls.drop j)).1 = out ∧ (runL st (ls.drop j)).2 = s' ∧ InvS st ∧ Blk wr b7 #[.slice Ab nb cb, .slice A 4 c, .slice A' 4 c', .slice At nt ct] T75 ∧ SVal wr st (.agg #[.slice Ab nb cb, .slice A 4 c, .slice A' 4 c', .slice At nt ct]) ∧ OwnR wr 0 9 1 (some ⟨gl, 0, none⟩) (n + 1) cl (SV ((ls ++ [lst]).map bs)) ∧ Below w.heap.size w wr) (fun _ iv _ => n - (intOf iv).toNat)
 case atStart =>
  refine ⟨0, St.start, [], _, _, _, _, _, _, _, _, _, _, by omega, rfl, rfl, ?_, ?_, InvS.start, HX4.out.1, HX4.out.2.1, HLR0.out, HX4.out.2.2⟩
  ·rw [List.drop_zero, HR.out]; rfl
  ·rw [List.drop_zero, HR.out]
 case round =>
  clear HX4 HLR0 hlt74
  obtain ⟨j, st, o1, Ab, A, A', At, nb, cb, c, c', nt, ct, hj, rfl, rfl, ho1, hs1, hinv, hblk, hsv, hlr, hb⟩ := hrel
  have hbs := hb.size
  obtain ⟨⟨p0, p1, p2, p3⟩, ⟨r0, r1, r2, r3⟩, ltp⟩ := cells4 hblk
  by_cases hlt : j < n
  ·have hlt2 : j < ls.length := by have := HN.out; omega
   obtain ⟨ln, hln⟩ : ∃ ln, ls[j]? = some ln := ⟨_, List.getElem?_eq_getElem hlt2⟩
   have hdrop : ls.drop j = ln :: ls.drop (j + 1) := by
    rw [List.drop_eq_getElem_cons hlt2]
    rw [List.getElem?_eq_getElem hlt2] at hln
    injection hln with hln
    rw [hln]
   have l0 : wr.cell? ⟨gl, j, none⟩ = some (.string (bs ln)) := OwnR.cell2 hlr (j := j) (by show (((ls ++ [lst]).map bs).map Value.string)[j]? = _; rw [List.getElem?_map, List.getElem?_map, List.getElem?_append_left hlt2, hln]; rfl)
   have hgl : gl < wr.heap.size := World.block_lt_of_cell? wr _ l0
   have hmem : ln ∈ cut 10 text.data.toList := by rw [HCUT.out]; exact List.mem_append_left _ (List.mem_of_getElem? hln)
   have hlnl : ln.length ≤ 400 := by
    have := cut_len 10 _ ln hmem
    have h2 : text.data.toList.length = text.size := by simp
    omega
   obtain ⟨k, ws, h32⟩ : ∃ k ws, cut 32 ln = k :: ws := by
    cases h : cut 32 ln with
    | nil => exact absurd h (cut_ne _ _)
    | cons k ws => exact ⟨k, ws, rfl⟩
   have hstep : stepL st ln = stepW st k (ws.map wnum) := by unfold stepL; rw [h32]
   rw [hdrop] at ho1 hs1
   have hrun1 : runL st (ln :: ls.drop (j + 1)) = ((stepL st ln).1.data.toList ++ (runL (stepL st ln).2 (ls.drop (j + 1))).1, (runL (stepL st ln).2 (ls.drop (j + 1))).2) := rfl
   rw [hrun1, hstep] at ho1 hs1
   have hinv2 := hinv.stepW k (ws.map wnum)
   have hwl : ∀ x ∈ ws, x.length ≤ 1000 := fun x hx => by
    have := cut_len 32 ln x (by rw [h32]; exact List.mem_cons_of_mem _ hx)
    omega
   have hwn : ws.length ≤ 1000 := by
    have := cut_count 32 ln
    rw [h32] at this
    simp at this
    omega
   have hcl : ∀ w : World, Calls Tryz.prog 51 #[.string (bs ln), .int .u8 32] w fun e w' => ∃ A n cp, e = .returned (.slice A n cp) ∧ OwnR w' w.heap.size 9 1 A n cp (SV ((k :: ws).map bs)) ∧ Below w.heap.size w w' := fun w => by
    have h1 := l9Cut_any 32 (bs ln) w (by rw [bs_size]; omega)
    rw [bs_list, h32] at h1
    refine Calls.mono h1 ?_
    rintro e w' ⟨A, n, cp, h1, h2, -, h4⟩
    exact ⟨A, n, cp, h1, h2, h4⟩
   obtain ⟨r, hr⟩ : ∃ r, stepW st k (ws.map wnum) = r := ⟨_, rfl⟩
   rw [hr] at ho1 hs1 hinv2
   obtain ⟨said, st2⟩ := r
   have hll : ∀ (v : Value) (Aw : Option Addr) (nw cw : Nat) (w : World), AskIn w st k ws v Aw nw cw → Calls Tryz.prog 52 #[v, .slice Aw nw cw] w (LinePost9 w (said, st2)) := fun v Aw nw cw w h => by rw [← hr]; exact l9Line_any st hinv k ws v Aw nw cw w h
   have hsz1 : o1.length + said.size ≤ 100000 := by
    have e1 := congrArg List.length ho1
    simp only [List.length_append, ba_size] at e1
    omega
   have hno := no_long (n := (bs o1).size) (by rw [bs_size]; omega) said.size (by omega)
   have hcat : bs o1 ++ said = bs (o1 ++ said.data.toList) := by rw [← bs_append, bs_eta]
   have HCL := Hd hcl
   have HLL := Hd hll
   have HBX := Hd hblk
   have HSV := Hd hsv
   have HLR := Hd hlr
   have HB := Hd hb
   have HFIN := Hd (And.intro ho1 (And.intro hs1 (And.intro hinv2 hcat)))
   have HWS := Hd (And.intro hwl hwn)
   have hjI : (j : Int) + 1 < ((n + 1 : Nat) : Int) := by omega
   have hj1 : (j : Int) < ((n + 1 : Nat) : Int) := by omega
   have hj2 : j < n + 1 := by omega
   have hj3 : (j : Int) < (n : Int) + 1 := by omega
   have hj4 : (j : Int) + 1 < (n : Int) + 1 := by omega
   have hj5 : (j : Int) < (n : Int) := by omega
   clear hlt2 hln hdrop hmem hlnl h32 hstep hrun1 hwl hwn hcl hr hll hblk hsv hlr hb ho1 hs1 hinv2 hcat hinv
   go_wp2_with fail
   refine wp_region_held_drew (S := (fun w' => w'.cell? ⟨b7, 0, none⟩ = some (.slice Ab nb cb) ∧ w'.cell? ⟨b7, 1, none⟩ = some (.slice A 4 c) ∧ w'.cell? ⟨b7, 2, none⟩ = some (.slice A' 4 c') ∧ w'.cell? ⟨b7, 3, none⟩ = some (.slice At nt ct) ∧ w'.cell? ⟨gl, j, none⟩ = some (.string (bs ln)))) (by kernel_rfl) ?_ (fun hHeld => ?_)
   ·(try dsimp only)
    all_goals (first | (refine ⟨?_, ?_, ?_, ?_, ?_⟩ <;> go_simp) | go_keep)
   refine Tk 0 (some 38) (v := ?v1) rfl (Or.inl ⟨by rfl, ?hy1⟩) (by first | assumption | exact hHeld) ?rest1
   case hy1 => ((intro w0 hSw; (try dsimp only at hSw); go_simp) <;> with_reducible rfl)
   (try simp only [Tp0, Tp1, Tp2, Tp3, Tp4])
   refine Tk 1 (some 39) (v := ?v2) rfl (Or.inl ⟨by rfl, ?hy2⟩) (by first | assumption | exact hHeld) ?rest2
   case hy2 => ((intro w0 hSw; (try dsimp only at hSw); go_simp) <;> with_reducible rfl)
   (try simp only [Tp0, Tp1, Tp2, Tp3, Tp4])
   refine Tk 2 (some 40) (v := ?v3) rfl (Or.inl ⟨by rfl, ?hy3⟩) (by first | assumption | exact hHeld) ?rest3
   case hy3 => ((intro w0 hSw; (try dsimp only at hSw); go_simp) <;> with_reducible rfl)
   (try simp only [Tp0, Tp1, Tp2, Tp3, Tp4])
   refine Tk 3 (some 41) (v := ?v4) rfl (Or.inl ⟨by rfl, ?hy4⟩) (by first | assumption | exact hHeld) ?rest4
   case hy4 => ((intro w0 hSw; (try dsimp only at hSw); go_simp) <;> with_reducible rfl)
   (try simp only [Tp0, Tp1, Tp2, Tp3, Tp4])
   refine Tk 4 (some 42) (v := ?v5) rfl (Or.inl ⟨by rfl, ?hy5⟩) (by first | assumption | exact hHeld) ?rest5
   case hy5 => ((intro w0 hSw; (try dsimp only at hSw); go_simp) <;> with_reducible rfl)
   (try simp only [Tp0, Tp1, Tp2, Tp3, Tp4])
   refine wpAnyH_ready (rs := [5, 10]) (by kernel_rfl) (by simp) ?_
   refine AllReadyH.cons (o := ⟨some 43, _, _, _, _, _⟩) rfl (fun K hK => ?_) ?_
   ·go_simp
    refine (HCL.out _).mono ?_
    rintro e w5 ⟨A5, n5, c5, rfl, hw5, hb5'⟩
    have hb5 : Below wr.heap.size wr w5 := (Below.refl wr.heap.size wr).drew.trans hb5'
    obtain ⟨⟨s0, s1, s2, s3⟩, ⟨sf0, sf1, sf2, sf3⟩, lts⟩ := cells4 (HBX.out.next hb5)
    have ls := (hb5.cell (p := ⟨gl, j, none⟩) hgl).trans l0
    have gls : gl < _ := Nat.lt_of_lt_of_le hgl hb5.size
    have HB5 := Hd hb5
    have HW5 := Hd (OwnR.mono (B' := 0) hw5 (Nat.zero_le _))
    clear hb5 hb5' hw5
    (try go_wp2_with fail)
    refine hK.out _ _ ?_ (fun hHeld6 => ?_)
    ·(try dsimp only)
     all_goals (first | (refine ⟨?_, ?_, ?_, ?_, ?_⟩ <;> go_simp) | go_keep)
    clear hK K
    (try clear hHeld)
    (try simp only [Tp0, Tp1, Tp2, Tp3, Tp4])
    refine wpAnyH_ready (rs := [6, 10]) (by kernel_rfl) (by simp) ?_
    refine AllReadyH.cons (o := ⟨some 44, _, _, _, _, _⟩) rfl (fun K hK => ?_) ?_
    ·go_simp
     have hbx := HB5.out
     have hwx := HW5.out
     refine (HLL.out _ A5 n5 c5 w5 ⟨HSV.out.next hbx, hwx, HWS.out.1, HWS.out.2⟩).mono ?_
     rintro e w6 ⟨v6, rfl, hsv6, hb6'⟩
     obtain ⟨Bb, mb, eb, B2, e2, B3, e3, Bt, mt, et, rfl, -⟩ := id hsv6
     have hb6 : Below wr.heap.size wr w6 := hbx.trans (hb6'.mono hbx.size)
     obtain ⟨⟨t0, t1, t2, t3⟩, ⟨tf0, tf1, tf2, tf3⟩, ltt⟩ := cells4 (HBX.out.next hb6)
     have lt := (hb6.cell (p := ⟨gl, j, none⟩) hgl).trans l0
     have glt : gl < _ := Nat.lt_of_lt_of_le hgl hb6.size
     have HB6 := Hd hb6
     have HSV6 := Hd hsv6
     clear hb6 hb6' hsv6 hbx hwx
     (try go_wp2_with fail)
     refine hK.out _ _ ?_ (fun hHeld7 => ?_)
     ·(try dsimp only)
      all_goals (first | (refine ⟨?_, ?_, ?_, ?_, ?_⟩ <;> go_simp) | go_keep)
     clear hK K
     (try clear hHeld6)
     (try simp only [Tp0, Tp1, Tp2, Tp3, Tp4])
     refine Tk 7 (some 37) (v := ?v8) rfl (Or.inl ⟨by rfl, ?hy8⟩) (by first | assumption | exact hHeld7) ?rest8
     case hy8 => ((intro w0 hSw; (try dsimp only at hSw); go_simp) <;> with_reducible rfl)
     (try simp only [Tp0, Tp1, Tp2, Tp3, Tp4])
     refine Tk 8 (some 45) (v := ?v9) rfl (Or.inl ⟨by rfl, ?hy9⟩) (by first | assumption | exact hHeld7) ?rest9
     case hy9 => ((intro w0 hSw; (try dsimp only at hSw); go_simp) <;> with_reducible rfl)
     (try simp only [Tp0, Tp1, Tp2, Tp3, Tp4])
     refine Tk 9 (some 46) (v := ?v10) rfl (Or.inl ⟨by rfl, ?hy10⟩) (by first | assumption | exact hHeld7) ?rest10
     case hy10 => ((intro w0 hSw; (try dsimp only at hSw); go_simp) <;> with_reducible rfl)
     (try simp only [Tp0, Tp1, Tp2, Tp3, Tp4])
     refine wpAnyH_ready (rs := [10]) (by kernel_rfl) (by simp) ?_
     refine AllReadyH.cons (o := ⟨some 11, _, _, _, _, _⟩) rfl (fun K hK => ?_) ?_
     ·go_simp
      refine hK.out _ _ ?_ (fun hHeld11 => ?_)
      ·(try dsimp only)
       all_goals (first | (refine ⟨?_, ?_, ?_, ?_, ?_⟩ <;> go_simp) | go_keep)
      clear hK K
      (try clear hHeld7)
      (try simp only [Tp0, Tp1, Tp2, Tp3, Tp4])
      refine wpAnyH_ready (rs := [11]) (by kernel_rfl) (by simp) ?_
      refine AllReadyH.cons (o := ⟨none, _, _, _, _, _⟩) rfl (fun K hK => ?_) ?_
      ·go_simp
       refine hK.out _ _ ?_ (fun hHeld12 => ?_)
       ·(try dsimp only)
        all_goals (first | (refine ⟨?_, ?_, ?_, ?_, ?_⟩ <;> go_simp) | go_keep)
       clear hK K
       (try clear hHeld11)
       (try simp only [Tp0, Tp1, Tp2, Tp3, Tp4])
       refine Tk 12 (some 12) (v := ?v13) rfl (Or.inl ⟨by rfl, ?hy13⟩) (by first | assumption | exact hHeld12) ?rest13
       case hy13 => ((intro w0 hSw; (try dsimp only at hSw); go_simp) <;> with_reducible rfl)
       (try simp only [Tp0, Tp1, Tp2, Tp3, Tp4])
       refine wpAnyH_done (by kernel_rfl) ?_ _
       obtain ⟨W9, hW9⟩ : ∃ V, (w6.alloc (.cells #[.slice Bb mb eb, .slice B2 4 e2, .slice B3 4 e3, .slice Bt mt et] T75)) = V := ⟨_, rfl⟩
       have k7 : Blk W9 b7 #[.slice Ab nb cb, .slice A 4 c, .slice A' 4 c', .slice At nt ct] T75 := by rw [← hW9]; exact (HBX.out.next HB6.out).alloc _
       have kq : Blk W9 w6.heap.size #[.slice Bb mb eb, .slice B2 4 e2, .slice B3 4 e3, .slice Bt mt et] T75 := by rw [← hW9]; exact Blk.new _ _ _
       have kb : Below wr.heap.size wr W9 := by rw [← hW9]; exact HB6.out.alloc HB6.out.size _
       have ks : SVal W9 st2 (.agg #[.slice Bb mb eb, .slice B2 4 e2, .slice B3 4 e3, .slice Bt mt et]) := by rw [← hW9]; exact HSV6.out.next ((Below.refl _ _).alloc (Nat.le_refl _) _)
       have qle : b7 < w6.heap.size := by have := HB6.out.size; omega
       rw [hW9]
       have HK := Hd (And.intro k7 (And.intro kb ks))
       obtain ⟨⟨u0, u1, u2, u3⟩, ⟨uf0, uf1, uf2, uf3⟩, ltu⟩ := cells4 k7
       obtain ⟨⟨v0, v1, v2, v3⟩, ⟨vf0, vf1, vf2, vf3⟩, ltv⟩ := cells4 kq
       obtain ⟨q9, hq9⟩ : ∃ q9, w6.heap.size = q9 := ⟨_, rfl⟩
       rw [hq9] at v0 v1 v2 v3 vf0 vf1 vf2 vf3 ltv qle ⊢
       clear hW9 hq9 k7 kq kb ks
       go_wp2_with fail
       refine ⟨⟨j + 1, st2, o1 ++ said.data.toList, Bb, B2, B3, Bt, mb, eb, e2, e3, mt, et, by omega, by go_num, by rw [HFIN.out.2.2.2], by rw [List.append_assoc]; exact HFIN.out.1, HFIN.out.2.1, HFIN.out.2.2.1, HK.out.1.set4 (.slice Bb mb eb) (.slice B2 4 e2) (.slice B3 4 e3) (.slice Bt mt et), SVal.box4 HK.out.2.2 HK.out.1, ?_, below_set4 (HB.out.trans (HK.out.2.1.mono HB.out.size)) hw7 _ _ _ _⟩, by simp [intOf]; omega⟩
       have y0 := HK.out.1
       have y1 := y0.set 0 (.slice Bb mb eb)
       have y2 := y1.set 1 (.slice B2 4 e2)
       have y3 := y2.set 2 (.slice B3 4 e3)
       exact ((((OwnR.next HLR.out HK.out.2.1).far y0 (by decide) 0 _).far y1 (by decide) 1 _).far y2 (by decide) 2 _).far y3 (by decide) 3 _
      exact AllReadyH.nil
     exact AllReadyH.nil
    refine AllReadyH.cons (o := ⟨some 11, _, _, _, _, _⟩) rfl (fun K hK => ?_) ?_
    ·go_simp
     refine hK.out _ _ ?_ (fun hHeld14 => ?_)
     ·(try dsimp only)
      all_goals (first | (refine ⟨?_, ?_, ?_, ?_, ?_⟩ <;> go_simp) | go_keep)
     clear hK K
     (try clear hHeld6)
     (try simp only [Tp0, Tp1, Tp2, Tp3, Tp4])
     refine wpAnyH_ready (rs := [6]) (by kernel_rfl) (by simp) ?_
     refine AllReadyH.cons (o := ⟨some 44, _, _, _, _, _⟩) rfl (fun K hK => ?_) ?_
     ·go_simp
      have hbx : Below wr.heap.size wr (w5.alloc (.cells #[.slice none 0 0, .slice none 0 0, .slice none 0 0, .slice none 0 0] T75)) := HB5.out.alloc HB5.out.size _
      have hwx := HW5.out.alloc (.cells #[.slice none 0 0, .slice none 0 0, .slice none 0 0, .slice none 0 0] T75)
      refine (HLL.out _ A5 n5 c5 (w5.alloc (.cells #[.slice none 0 0, .slice none 0 0, .slice none 0 0, .slice none 0 0] T75)) ⟨HSV.out.next hbx, hwx, HWS.out.1, HWS.out.2⟩).mono ?_
      rintro e w6 ⟨v6, rfl, hsv6, hb6'⟩
      obtain ⟨Bb, mb, eb, B2, e2, B3, e3, Bt, mt, et, rfl, -⟩ := id hsv6
      have hb6 : Below wr.heap.size wr w6 := hbx.trans (hb6'.mono hbx.size)
      have zb6 : Blk w6 w5.heap.size #[.slice none 0 0, .slice none 0 0, .slice none 0 0, .slice none 0 0] T75 := (Blk.new w5 #[.slice none 0 0, .slice none 0 0, .slice none 0 0, .slice none 0 0] T75).next hb6'
      obtain ⟨⟨z0, z1, z2, z3⟩, ⟨zf0, zf1, zf2, zf3⟩, ltz⟩ := cells4 zb6
      obtain ⟨⟨t0, t1, t2, t3⟩, ⟨tf0, tf1, tf2, tf3⟩, ltt⟩ := cells4 (HBX.out.next hb6)
      have lt := (hb6.cell (p := ⟨gl, j, none⟩) hgl).trans l0
      have glt : gl < _ := Nat.lt_of_lt_of_le hgl hb6.size
      have HB6 := Hd hb6
      have HSV6 := Hd hsv6
      have HZ6 := Hd zb6
      clear hb6 hb6' hsv6 hbx hwx zb6
      (try go_wp2_with fail)
      refine hK.out _ _ ?_ (fun hHeld15 => ?_)
      ·(try dsimp only)
       all_goals (first | (refine ⟨?_, ?_, ?_, ?_, ?_⟩ <;> go_simp) | go_keep)
      clear hK K
      (try clear hHeld14)
      (try simp only [Tp0, Tp1, Tp2, Tp3, Tp4])
      refine Tk 7 (some 37) (v := ?v16) rfl (Or.inl ⟨by rfl, ?hy16⟩) (by first | assumption | exact hHeld15) ?rest16
      case hy16 => ((intro w0 hSw; (try dsimp only at hSw); go_simp) <;> with_reducible rfl)
      (try simp only [Tp0, Tp1, Tp2, Tp3, Tp4])
      refine Tk 8 (some 45) (v := ?v17) rfl (Or.inl ⟨by rfl, ?hy17⟩) (by first | assumption | exact hHeld15) ?rest17
      case hy17 => ((intro w0 hSw; (try dsimp only at hSw); go_simp) <;> with_reducible rfl)
      (try simp only [Tp0, Tp1, Tp2, Tp3, Tp4])
      refine Tk 9 (some 46) (v := ?v18) rfl (Or.inl ⟨by rfl, ?hy18⟩) (by first | assumption | exact hHeld15) ?rest18
      case hy18 => ((intro w0 hSw; (try dsimp only at hSw); go_simp) <;> with_reducible rfl)
      (try simp only [Tp0, Tp1, Tp2, Tp3, Tp4])
      refine wpAnyH_ready (rs := [11]) (by kernel_rfl) (by simp) ?_
      refine AllReadyH.cons (o := ⟨none, _, _, _, _, _⟩) rfl (fun K hK => ?_) ?_
      ·go_simp
       refine hK.out _ _ ?_ (fun hHeld19 => ?_)
       ·(try dsimp only)
        all_goals (first | (refine ⟨?_, ?_, ?_, ?_, ?_⟩ <;> go_simp) | go_keep)
       clear hK K
       (try clear hHeld15)
       (try simp only [Tp0, Tp1, Tp2, Tp3, Tp4])
       refine Tk 12 (some 12) (v := ?v20) rfl (Or.inl ⟨by rfl, ?hy20⟩) (by first | assumption | exact hHeld19) ?rest20
       case hy20 => ((intro w0 hSw; (try dsimp only at hSw); go_simp) <;> with_reducible rfl)
       (try simp only [Tp0, Tp1, Tp2, Tp3, Tp4])
       refine wpAnyH_done (by kernel_rfl) ?_ _
       have qle : b7 < w5.heap.size := by have := HB5.out.size; omega
       have qge : wr.heap.size ≤ w5.heap.size := HB5.out.size
       obtain ⟨W9, hW9⟩ : ∃ V, ((((w6.setCell ⟨w5.heap.size, 0, none⟩ (.slice Bb mb eb)).setCell ⟨w5.heap.size, 1, none⟩ (.slice B2 4 e2)).setCell ⟨w5.heap.size, 2, none⟩ (.slice B3 4 e3)).setCell ⟨w5.heap.size, 3, none⟩ (.slice Bt mt et)) = V := ⟨_, rfl⟩
       have k7 : Blk W9 b7 #[.slice Ab nb cb, .slice A 4 c, .slice A' 4 c', .slice At nt ct] T75 := by rw [← hW9]; exact ((((HBX.out.next HB6.out).other (p := ⟨w5.heap.size, 0, none⟩) (by show b7 ≠ w5.heap.size; omega) _).other (p := ⟨w5.heap.size, 1, none⟩) (by show b7 ≠ w5.heap.size; omega) _).other (p := ⟨w5.heap.size, 2, none⟩) (by show b7 ≠ w5.heap.size; omega) _).other (p := ⟨w5.heap.size, 3, none⟩) (by show b7 ≠ w5.heap.size; omega) _
       have kq : Blk W9 w5.heap.size #[.slice Bb mb eb, .slice B2 4 e2, .slice B3 4 e3, .slice Bt mt et] T75 := by rw [← hW9]; exact HZ6.out.set4 (.slice Bb mb eb) (.slice B2 4 e2) (.slice B3 4 e3) (.slice Bt mt et)
       have kb : Below wr.heap.size wr W9 := by rw [← hW9]; exact below_set4 HB6.out qge (.slice Bb mb eb) (.slice B2 4 e2) (.slice B3 4 e3) (.slice Bt mt et)
       have ks : SVal W9 st2 (.agg #[.slice Bb mb eb, .slice B2 4 e2, .slice B3 4 e3, .slice Bt mt et]) := by rw [← hW9]; exact SVal.box4 HSV6.out HZ6.out
       rw [hW9]
       have HK := Hd (And.intro k7 (And.intro kb ks))
       obtain ⟨⟨u0, u1, u2, u3⟩, ⟨uf0, uf1, uf2, uf3⟩, ltu⟩ := cells4 k7
       obtain ⟨⟨v0, v1, v2, v3⟩, ⟨vf0, vf1, vf2, vf3⟩, ltv⟩ := cells4 kq
       obtain ⟨q9, hq9⟩ : ∃ q9, w5.heap.size = q9 := ⟨_, rfl⟩
       rw [hq9] at v0 v1 v2 v3 vf0 vf1 vf2 vf3 ltv qle ⊢
       clear hW9 hq9 k7 kq kb ks
       go_wp2_with fail
       refine ⟨⟨j + 1, st2, o1 ++ said.data.toList, Bb, B2, B3, Bt, mb, eb, e2, e3, mt, et, by omega, by go_num, by rw [HFIN.out.2.2.2], by rw [List.append_assoc]; exact HFIN.out.1, HFIN.out.2.1, HFIN.out.2.2.1, HK.out.1.set4 (.slice Bb mb eb) (.slice B2 4 e2) (.slice B3 4 e3) (.slice Bt mt et), SVal.box4 HK.out.2.2 HK.out.1, ?_, below_set4 (HB.out.trans (HK.out.2.1.mono HB.out.size)) hw7 _ _ _ _⟩, by simp [intOf]; omega⟩
       have y0 := HK.out.1
       have y1 := y0.set 0 (.slice Bb mb eb)
       have y2 := y1.set 1 (.slice B2 4 e2)
       have y3 := y2.set 2 (.slice B3 4 e3)
       exact ((((OwnR.next HLR.out HK.out.2.1).far y0 (by decide) 0 _).far y1 (by decide) 1 _).far y2 (by decide) 2 _).far y3 (by decide) 3 _
      exact AllReadyH.nil
     exact AllReadyH.nil
    exact AllReadyH.nil
   refine AllReadyH.cons (o := ⟨some 11, _, _, _, _, _⟩) rfl (fun K hK => ?_) ?_
   ·go_simp
    refine hK.out _ _ ?_ (fun hHeld21 => ?_)
    ·(try dsimp only)
     all_goals (first | (refine ⟨?_, ?_, ?_, ?_, ?_⟩ <;> go_simp) | go_keep)
    clear hK K
    (try clear hHeld)
    (try simp only [Tp0, Tp1, Tp2, Tp3, Tp4])
    refine wpAnyH_ready (rs := [5]) (by kernel_rfl) (by simp) ?_
    refine AllReadyH.cons (o := ⟨some 43, _, _, _, _, _⟩) rfl (fun K hK => ?_) ?_
    ·go_simp
     refine (HCL.out _).mono ?_
     rintro e w5 ⟨A5, n5, c5, rfl, hw5, hb5'⟩
     have hb5 : Below wr.heap.size wr w5 := ((Below.refl wr.heap.size wr).alloc (Nat.le_refl _) (.cells #[.slice none 0 0, .slice none 0 0, .slice none 0 0, .slice none 0 0] T75)).drew.trans (hb5'.mono (by simp))
     have zb5 := (Blk.drew (Blk.new wr #[.slice none 0 0, .slice none 0 0, .slice none 0 0, .slice none 0 0] T75)).next hb5'
     have HZ5 := Hd zb5
     obtain ⟨⟨z0, z1, z2, z3⟩, ⟨zf0, zf1, zf2, zf3⟩, ltz⟩ := cells4 zb5
     obtain ⟨⟨s0, s1, s2, s3⟩, ⟨sf0, sf1, sf2, sf3⟩, lts⟩ := cells4 (HBX.out.next hb5)
     have ls := (hb5.cell (p := ⟨gl, j, none⟩) hgl).trans l0
     have gls : gl < _ := Nat.lt_of_lt_of_le hgl hb5.size
     have HB5 := Hd hb5
     have HW5 := Hd (OwnR.mono (B' := 0) hw5 (Nat.zero_le _))
     clear hb5 hb5' hw5 zb5
     (try go_wp2_with fail)
     refine hK.out _ _ ?_ (fun hHeld22 => ?_)
     ·(try dsimp only)
      all_goals (first | (refine ⟨?_, ?_, ?_, ?_, ?_⟩ <;> go_simp) | go_keep)
     clear hK K
     (try clear hHeld21)
     (try simp only [Tp0, Tp1, Tp2, Tp3, Tp4])
     refine wpAnyH_ready (rs := [6]) (by kernel_rfl) (by simp) ?_
     refine AllReadyH.cons (o := ⟨some 44, _, _, _, _, _⟩) rfl (fun K hK => ?_) ?_
     ·go_simp
      have hbx := HB5.out
      have hwx := HW5.out
      refine (HLL.out _ A5 n5 c5 w5 ⟨HSV.out.next hbx, hwx, HWS.out.1, HWS.out.2⟩).mono ?_
      rintro e w6 ⟨v6, rfl, hsv6, hb6'⟩
      obtain ⟨Bb, mb, eb, B2, e2, B3, e3, Bt, mt, et, rfl, -⟩ := id hsv6
      have hb6 : Below wr.heap.size wr w6 := hbx.trans (hb6'.mono hbx.size)
      have zb6 := HZ5.out.next hb6'
      obtain ⟨⟨z0, z1, z2, z3⟩, ⟨zf0, zf1, zf2, zf3⟩, ltz⟩ := cells4 zb6
      obtain ⟨⟨t0, t1, t2, t3⟩, ⟨tf0, tf1, tf2, tf3⟩, ltt⟩ := cells4 (HBX.out.next hb6)
      have lt := (hb6.cell (p := ⟨gl, j, none⟩) hgl).trans l0
      have glt : gl < _ := Nat.lt_of_lt_of_le hgl hb6.size
      have HB6 := Hd hb6
      have HSV6 := Hd hsv6
      have HZ6 := Hd zb6
      clear hb6 hb6' hsv6 hbx hwx zb6
      (try go_wp2_with fail)
      refine hK.out _ _ ?_ (fun hHeld23 => ?_)
      ·(try dsimp only)
       all_goals (first | (refine ⟨?_, ?_, ?_, ?_, ?_⟩ <;> go_simp) | go_keep)
      clear hK K
      (try clear hHeld22)
      (try simp only [Tp0, Tp1, Tp2, Tp3, Tp4])
      refine Tk 7 (some 37) (v := ?v24) rfl (Or.inl ⟨by rfl, ?hy24⟩) (by first | assumption | exact hHeld23) ?rest24
      case hy24 => ((intro w0 hSw; (try dsimp only at hSw); go_simp) <;> with_reducible rfl)
      (try simp only [Tp0, Tp1, Tp2, Tp3, Tp4])
      refine Tk 8 (some 45) (v := ?v25) rfl (Or.inl ⟨by rfl, ?hy25⟩) (by first | assumption | exact hHeld23) ?rest25
      case hy25 => ((intro w0 hSw; (try dsimp only at hSw); go_simp) <;> with_reducible rfl)
      (try simp only [Tp0, Tp1, Tp2, Tp3, Tp4])
      refine Tk 9 (some 46) (v := ?v26) rfl (Or.inl ⟨by rfl, ?hy26⟩) (by first | assumption | exact hHeld23) ?rest26
      case hy26 => ((intro w0 hSw; (try dsimp only at hSw); go_simp) <;> with_reducible rfl)
      (try simp only [Tp0, Tp1, Tp2, Tp3, Tp4])
      refine wpAnyH_ready (rs := [11]) (by kernel_rfl) (by simp) ?_
      refine AllReadyH.cons (o := ⟨none, _, _, _, _, _⟩) rfl (fun K hK => ?_) ?_
      ·go_simp
       refine hK.out _ _ ?_ (fun hHeld27 => ?_)
       ·(try dsimp only)
        all_goals (first | (refine ⟨?_, ?_, ?_, ?_, ?_⟩ <;> go_simp) | go_keep)
       clear hK K
       (try clear hHeld23)
       (try simp only [Tp0, Tp1, Tp2, Tp3, Tp4])
       refine Tk 12 (some 12) (v := ?v28) rfl (Or.inl ⟨by rfl, ?hy28⟩) (by first | assumption | exact hHeld27) ?rest28
       case hy28 => ((intro w0 hSw; (try dsimp only at hSw); go_simp) <;> with_reducible rfl)
       (try simp only [Tp0, Tp1, Tp2, Tp3, Tp4])
       refine wpAnyH_done (by kernel_rfl) ?_ _
       have qle : b7 < wr.heap.size := by omega
       have qge : wr.heap.size ≤ wr.heap.size := Nat.le_refl _
       obtain ⟨W9, hW9⟩ : ∃ V, ((((w6.setCell ⟨wr.heap.size, 0, none⟩ (.slice Bb mb eb)).setCell ⟨wr.heap.size, 1, none⟩ (.slice B2 4 e2)).setCell ⟨wr.heap.size, 2, none⟩ (.slice B3 4 e3)).setCell ⟨wr.heap.size, 3, none⟩ (.slice Bt mt et)) = V := ⟨_, rfl⟩
       have k7 : Blk W9 b7 #[.slice Ab nb cb, .slice A 4 c, .slice A' 4 c', .slice At nt ct] T75 := by rw [← hW9]; exact ((((HBX.out.next HB6.out).other (p := ⟨wr.heap.size, 0, none⟩) (by show b7 ≠ wr.heap.size; omega) _).other (p := ⟨wr.heap.size, 1, none⟩) (by show b7 ≠ wr.heap.size; omega) _).other (p := ⟨wr.heap.size, 2, none⟩) (by show b7 ≠ wr.heap.size; omega) _).other (p := ⟨wr.heap.size, 3, none⟩) (by show b7 ≠ wr.heap.size; omega) _
       have kq : Blk W9 wr.heap.size #[.slice Bb mb eb, .slice B2 4 e2, .slice B3 4 e3, .slice Bt mt et] T75 := by rw [← hW9]; exact HZ6.out.set4 (.slice Bb mb eb) (.slice B2 4 e2) (.slice B3 4 e3) (.slice Bt mt et)
       have kb : Below wr.heap.size wr W9 := by rw [← hW9]; exact below_set4 HB6.out qge (.slice Bb mb eb) (.slice B2 4 e2) (.slice B3 4 e3) (.slice Bt mt et)
       have ks : SVal W9 st2 (.agg #[.slice Bb mb eb, .slice B2 4 e2, .slice B3 4 e3, .slice Bt mt et]) := by rw [← hW9]; exact SVal.box4 HSV6.out HZ6.out
       rw [hW9]
       have HK := Hd (And.intro k7 (And.intro kb ks))
       obtain ⟨⟨u0, u1, u2, u3⟩, ⟨uf0, uf1, uf2, uf3⟩, ltu⟩ := cells4 k7
       obtain ⟨⟨v0, v1, v2, v3⟩, ⟨vf0, vf1, vf2, vf3⟩, ltv⟩ := cells4 kq
       obtain ⟨q9, hq9⟩ : ∃ q9, wr.heap.size = q9 := ⟨_, rfl⟩
       rw [hq9] at v0 v1 v2 v3 vf0 vf1 vf2 vf3 ltv qle ⊢
       clear hW9 hq9 k7 kq kb ks
       go_wp2_with fail
       refine ⟨⟨j + 1, st2, o1 ++ said.data.toList, Bb, B2, B3, Bt, mb, eb, e2, e3, mt, et, by omega, by go_num, by rw [HFIN.out.2.2.2], by rw [List.append_assoc]; exact HFIN.out.1, HFIN.out.2.1, HFIN.out.2.2.1, HK.out.1.set4 (.slice Bb mb eb) (.slice B2 4 e2) (.slice B3 4 e3) (.slice Bt mt et), SVal.box4 HK.out.2.2 HK.out.1, ?_, below_set4 (HB.out.trans (HK.out.2.1.mono HB.out.size)) hw7 _ _ _ _⟩, by simp [intOf]; omega⟩
       have y0 := HK.out.1
       have y1 := y0.set 0 (.slice Bb mb eb)
       have y2 := y1.set 1 (.slice B2 4 e2)
       have y3 := y2.set 2 (.slice B3 4 e3)
       exact ((((OwnR.next HLR.out HK.out.2.1).far y0 (by decide) 0 _).far y1 (by decide) 1 _).far y2 (by decide) 2 _).far y3 (by decide) 3 _
      exact AllReadyH.nil
     exact AllReadyH.nil
    exact AllReadyH.nil
   exact AllReadyH.nil
  ·obtain rfl : j = n := by omega
   have hdr : ls.drop j = [] := List.drop_eq_nil_of_le (by have := HN.out; omega)
   rw [hdr] at ho1 hs1
   have ho1' : o1 = out := by rw [← ho1]; show o1 = o1 ++ []; simp
   have hs1' : st = s' := hs1
   subst ho1' hs1'
   obtain ⟨ib, it⟩ := hsv.parts
   have hnt := it.len
   have hbv := hinv.b.bval
   obtain ⟨t12, -, -⟩ := okL_told hinv.t
   have hend := end_eq o1 st
   rw [hnt] at hend t12
   have hd1 := dec_size (bVal st.bs) (by omega) (by omega)
   have hd2 := dec_size (nt : Int) (by omega) (by omega)
   have hos := bs_size o1
   have l1 := no_long (n := (bs o1).size) (by omega) 6 (by omega)
   have l2 := no_long (n := (bs o1).size + 6) (by omega) (dec (bVal st.bs)).size (by omega)
   have l3 := no_long (n := (bs o1).size + 6 + (dec (bVal st.bs)).size) (by omega) 9 (by omega)
   have l4 := no_long (n := (bs o1).size + 6 + (dec (bVal st.bs)).size + 9) (by omega) (dec (nt : Int)).size (by omega)
   have l5 := no_long (n := (bs o1).size + 6 + (dec (bVal st.bs)).size + 9 + (dec (nt : Int)).size) (by omega) 1 (by omega)
   have HBV := Hd (fun w (h : Ints w w.heap.size Ab nb st.bs) => specBoardValue_any Ab nb cb st.bs w _ h)
   have HD1 := Hd (fun w => l6Dec_int (bVal st.bs) (by omega) (by omega) w)
   have HD2 := Hd (fun w => l6Dec_int (nt : Int) (by omega) (by omega) w)
   have HIB := Hd ib
   have HB := Hd hb
   have HBX := Hd hblk
   have HE := Hd hend
   obtain ⟨E, hE⟩ : ∃ E, bs (o1 ++ endS st) = E := ⟨_, rfl⟩
   have hnI1 : ¬ (j : Int) + 1 < (j : Int) + 1 := by omega
   have hnI2 : ¬ (j : Int) < (j : Int) := by omega
   clear ho1 hs1 hdr ib it hnt hbv t12 hend hd1 hd2 hos hsv hlr hb hblk hinv hj hlt
   go_wp2_with fail
   refine wp_region_held_drew (S := (fun w' => w'.cell? ⟨b7, 0, none⟩ = some (.slice Ab nb cb) ∧ w'.cell? ⟨b7, 3, none⟩ = some (.slice At nt ct))) (by kernel_rfl) ?_ (fun hHeld => ?_)
   ·(try dsimp only)
    all_goals (first | (refine ⟨?_, ?_⟩ <;> go_simp) | go_keep)
   refine Tk 0 (some 51) (v := ?v5001) rfl (Or.inl ⟨by rfl, ?hy5001⟩) (by first | assumption | exact hHeld) ?rest5001
   case hy5001 => ((intro w0 hSw; (try dsimp only at hSw); go_simp) <;> with_reducible rfl)
   (try simp only [Tp0, Tp1, Tp2, Tp3, Tp4])
   refine Tk 1 (some 52) (v := ?v5002) rfl (Or.inl ⟨by rfl, ?hy5002⟩) (by first | assumption | exact hHeld) ?rest5002
   case hy5002 => ((intro w0 hSw; (try dsimp only at hSw); go_simp) <;> with_reducible rfl)
   (try simp only [Tp0, Tp1, Tp2, Tp3, Tp4])
   refine Tk 2 (some 53) (v := ?v5003) rfl (Or.inl ⟨by rfl, ?hy5003⟩) (by first | assumption | exact hHeld) ?rest5003
   case hy5003 => ((intro w0 hSw; (try dsimp only at hSw); go_simp) <;> with_reducible rfl)
   (try simp only [Tp0, Tp1, Tp2, Tp3, Tp4])
   refine Tk 3 (some 54) (v := ?v5004) rfl (Or.inl ⟨by rfl, ?hy5004⟩) (by first | assumption | exact hHeld) ?rest5004
   case hy5004 => ((intro w0 hSw; (try dsimp only at hSw); go_simp) <;> with_reducible rfl)
   (try simp only [Tp0, Tp1, Tp2, Tp3, Tp4])
   refine Tk 8 (some 59) (v := ?v5005) rfl (Or.inl ⟨by rfl, ?hy5005⟩) (by first | assumption | exact hHeld) ?rest5005
   case hy5005 => ((intro w0 hSw; (try dsimp only at hSw); go_simp) <;> with_reducible rfl)
   (try simp only [Tp0, Tp1, Tp2, Tp3, Tp4])
   refine Tk 9 (some 60) (v := ?v5006) rfl (Or.inl ⟨by rfl, ?hy5006⟩) (by first | assumption | exact hHeld) ?rest5006
   case hy5006 => ((intro w0 hSw; (try dsimp only at hSw); go_simp) <;> with_reducible rfl)
   (try simp only [Tp0, Tp1, Tp2, Tp3, Tp4])
   refine Tk 10 (some 61) (v := ?v5007) rfl (Or.inl ⟨by rfl, ?hy5007⟩) (by first | assumption | exact hHeld) ?rest5007
   case hy5007 => ((intro w0 hSw; (try dsimp only at hSw); go_simp) <;> with_reducible rfl)
   (try simp only [Tp0, Tp1, Tp2, Tp3, Tp4])
   refine wpAnyH_ready (rs := [4]) (by kernel_rfl) (by simp) ?_
   refine AllReadyH.cons (o := ⟨some 55, _, _, _, _, _⟩) rfl (fun K hK => ?_) ?_
   ·go_simp
    refine (HBV.out _ (HIB.out.next ((Below.refl wr.heap.size wr).drew))).mono ?_
    rintro e w5 ⟨rfl, hb5'⟩
    have hb5 : Below wr.heap.size wr w5 := (Below.refl wr.heap.size wr).drew.trans hb5'
    obtain ⟨⟨s0, s1, s2, s3⟩, -, lts⟩ := cells4 (HBX.out.next hb5)
    have HB5 := Hd hb5
    clear hb5 hb5'
    (try go_wp2_with fail)
    refine hK.out _ _ ?_ (fun hHeld5008 => ?_)
    ·(try dsimp only)
     all_goals (first | (refine ⟨?_, ?_⟩ <;> go_simp) | go_keep)
    clear hK K
    (try clear hHeld)
    (try simp only [Tp0, Tp1, Tp2, Tp3, Tp4])
    refine wpAnyH_ready (rs := [5]) (by kernel_rfl) (by simp) ?_
    refine AllReadyH.cons (o := ⟨some 56, _, _, _, _, _⟩) rfl (fun K hK => ?_) ?_
    ·go_simp
     refine (HD1.out _).mono ?_
     rintro e w6 ⟨rfl, hb6'⟩
     have hb6 := HB5.out.trans (hb6'.mono HB5.out.size)
     obtain ⟨⟨t0, t1, t2, t3⟩, -, ltt⟩ := cells4 (HBX.out.next hb6)
     have HB6 := Hd hb6
     clear hb6 hb6'
     (try go_wp2_with fail)
     refine hK.out _ _ ?_ (fun hHeld5009 => ?_)
     ·(try dsimp only)
      all_goals (first | (refine ⟨?_, ?_⟩ <;> go_simp) | go_keep)
     clear hK K
     (try clear hHeld5008)
     (try simp only [Tp0, Tp1, Tp2, Tp3, Tp4])
     refine Tk 6 (some 57) (v := ?v5010) rfl (Or.inl ⟨by rfl, ?hy5010⟩) (by first | assumption | exact hHeld5009) ?rest5010
     case hy5010 => ((intro w0 hSw; (try dsimp only at hSw); go_simp) <;> with_reducible rfl)
     (try simp only [Tp0, Tp1, Tp2, Tp3, Tp4])
     refine Tk 7 (some 58) (v := ?v5011) rfl (Or.inl ⟨by rfl, ?hy5011⟩) (by first | assumption | exact hHeld5009) ?rest5011
     case hy5011 => ((intro w0 hSw; (try dsimp only at hSw); go_simp) <;> with_reducible rfl)
     (try simp only [Tp0, Tp1, Tp2, Tp3, Tp4])
     refine wpAnyH_ready (rs := [11]) (by kernel_rfl) (by simp) ?_
     refine AllReadyH.cons (o := ⟨some 62, _, _, _, _, _⟩) rfl (fun K hK => ?_) ?_
     ·go_simp
      refine (HD2.out _).mono ?_
      rintro e w7 ⟨rfl, hb7'⟩
      have hb7 := HB6.out.trans (hb7'.mono HB6.out.size)
      obtain ⟨⟨u0, u1, u2, u3⟩, -, ltu⟩ := cells4 (HBX.out.next hb7)
      have HB7 := Hd hb7
      clear hb7 hb7'
      (try go_wp2_with fail)
      refine hK.out _ _ ?_ (fun hHeld5012 => ?_)
      ·(try dsimp only)
       all_goals (first | (refine ⟨?_, ?_⟩ <;> go_simp) | go_keep)
      clear hK K
      (try clear hHeld5009)
      (try simp only [Tp0, Tp1, Tp2, Tp3, Tp4])
      refine Tk 12 (some 63) (v := ?v5013) rfl (Or.inl ⟨by rfl, ?hy5013⟩) (by first | assumption | exact hHeld5012) ?rest5013
      case hy5013 => ((intro w0 hSw; (try dsimp only at hSw); go_simp) <;> with_reducible rfl)
      (try simp only [Tp0, Tp1, Tp2, Tp3, Tp4])
      refine Tk 13 (some 64) (v := ?v5014) rfl (Or.inl ⟨by rfl, ?hy5014⟩) (by first | assumption | exact hHeld5012) ?rest5014
      case hy5014 => ((intro w0 hSw; (try dsimp only at hSw); go_simp) <;> with_reducible rfl)
      (try simp only [Tp0, Tp1, Tp2, Tp3, Tp4])
      refine Tk 14 (some 2) (v := ?v5015) rfl (Or.inl ⟨by rfl, ?hy5015⟩) (by first | assumption | exact hHeld5012) ?rest5015
      case hy5015 => ((intro w0 hSw; (try dsimp only at hSw); go_simp) <;> with_reducible rfl)
      (try simp only [Tp0, Tp1, Tp2, Tp3, Tp4])
      refine wpAnyH_done (by kernel_rfl) ?_ _
      go_wp2_with fail
      go_ret
      exact ⟨by rw [← HE.out]; rfl, HB.out.trans (HB7.out.mono HB.out.size)⟩
     exact AllReadyH.nil
    exact AllReadyH.nil
   exact AllReadyH.nil
theorem specExecute_all (text : ByteArray) (w : World) : Calls Tryz.prog 14 #[.string text] w fun e w' => e = .returned (.string (bs (execT text.data.toList))) ∧ Below w.heap.size w w' := by
 have hsz := ba_size text
 by_cases h : 400 < text.size
 ·rw [execT_long (by omega)]
  exact specExecute_long text w h
 ·rw [execT_short (by omega)]
  have hrun : runL St.start (lines text.data.toList) = (preOf text.data.toList, finOf text.data.toList) := rfl
  exact specExecute_short text w (by omega) (lines text.data.toList) _ (List.dropLast_concat_getLast (cut_ne _ _)).symm _ _ hrun (Nat.le_trans (pre_size _ (by omega)) (by omega))
end Go.Proofs.YthdoofmfigemoaaGreatDoor
