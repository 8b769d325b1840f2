/-
  Joined texts.
-/
import Derived.Test.YthdoofmfigemoaaGreatDoorS8
import Derived.Test.YthdoofmfigemoaaGreatDoorS9
import Derived.Test.YthdoofmfigemoaaGreatDoorS10
import Derived.Lib.Join
set_option linter.unusedSimpArgs false
set_option linter.unusedVariables false
set_option maxRecDepth 100000
set_option maxHeartbeats 4000000
namespace Go.Proofs.YthdoofmfigemoaaGreatDoor
open Go.RowKit
theorem str_info : (Tryz.prog.info? 9).map (fun i => (i.zero, i.size, i.bytes)) = some (some (.string ⟨#[]⟩), 1, 16) := by kernel_rfl
def SV (l : List ByteArray) : List Value := l.map Value.string
theorem SV_one (l : List ByteArray) : ∀ u ∈ SV l, u.oneCell' = true := by
 intro u hu
 obtain ⟨x, _, rfl⟩ := List.mem_map.1 hu
 rfl
theorem wpList_app_s {ops : Array Oper} {rest : List Oper} {o : Oper} {a : Act} {w : World} {Q : Exit → Act → World → Prop} (hgd : o.guard = none) (s x : Operand)
  (ho : o.op = .call { callee := .builtin .append, args := #[s, x], argTypes := #[66, 66] })
  {B : Nat} {A : Option Addr} {n c : Nat} {ts : List ByteArray} (hs : a.eval s = .slice A n c) (hown : OwnR w B 9 1 A n c (SV ts)) (t : ByteArray) (c0 : Nat)
  (hx : a.eval x = .slice (some ⟨w.heap.size, 0, none⟩) 1 c0) (cs : Array Value) (hcs : cs = #[.string t]) (hn : n + 1 ≤ 1000000) (hB : B ≤ w.heap.size)
  (h : ∀ A' c' w', OwnR w' B 9 1 A' (n + 1) c' (SV (ts ++ [t])) → w.grownBy w' (Value.slice A n c).ownBlock → wpList Tryz.prog ops Q rest (a.put o.dst (.slice A' (n + 1) c')) w') :
  wpList Tryz.prog ops Q (o :: rest) a (w.alloc (.cells cs 9)) := by
 obtain ⟨i0, hi, hz0, hz1, hz2⟩ := info_parts str_info
 subst hcs
 refine wpList_append_own _ hgd s x 66 ho B 9 i0 _ 1 16 Tryz.underlying66 hi hz0 hz1 hz2 rfl (by decide) _ n (SV ts) hs (hown.1.alloc _)
  ⟨w.heap.size, 0, none⟩ 1 c0 (SV [t]) hx (by simp [SV]) ?_ (SV_one _) (by unfold maxLen; omega) (by omega) (by simp; omega) ?_
 ·intro j u hj
  rw [add_row, cell_of_row _ w.heap.size j _ _ _ (heap_alloc_new w _)]
  simpa [SV] using hj
 ·intro v' w' hown' hg _
  have e : SV ts ++ SV [t] = SV (ts ++ [t]) := by simp [SV]
  rw [e] at hown'
  obtain ⟨A', c', rfl, h'⟩ := shape_own hown' (by omega)
  exact h A' c' w' h' ⟨hg.os, hg.tape, hg.output, by have := hg.size; simp at this; omega, fun k hk hne => (hg.block k (by simp; omega) hne).trans (Below.heap_alloc w _ k hk)⟩
theorem wpList_make_s {ops : Array Oper} {rest : List Oper} {o : Oper} {a : Act} {w : World} {Q : Exit → Act → World → Prop} (hgd : o.guard = none) (l c : Operand)
  (ho : o.op = .makeSlice 66 l c) {B n : Nat} (C : Int) (hl : a.eval l = .int .i64 0) (hc : a.eval c = .int .i64 C) (hC : C = (n : Int)) (hn : n ≤ 1000000) (hB : B ≤ w.heap.size)
  (h : ∀ w', OwnR w' B 9 1 (some ⟨w.heap.size, 0, none⟩) 0 n (SV []) → w.grownBy w' none → wpList Tryz.prog ops Q rest (a.put o.dst (.slice (some ⟨w.heap.size, 0, none⟩) 0 n)) w') :
  wpList Tryz.prog ops Q (o :: rest) a w := by
 obtain ⟨i0, hi, hz0, hz1, hz2⟩ := info_parts str_info
 refine wpList_make_own w hgd l c 66 ho B 9 i0 _ 1 Tryz.underlying66 hi hz0 hz1 .i64 .i64 C n hl hc hC (by rw [hz2]; omega) (by unfold maxLen; omega) hB ?_
 intro w' hown hg
 exact h w' ⟨hown, by omega⟩ hg
theorem blk_ty {w : World} {k : Nat} {cs cur : Array Value} {T e : TypeId} {z : Nat × Nat} (h : Blk w k cs T) (h1 : w.heap[k]? = some (.cells cur e z)) : e = T := by
 have h2 : some (Obj.cells cur e z) = some (Obj.cells cs T (0, 0)) := h1.symm.trans h
 exact (Obj.cells.inj (Option.some.inj h2)).2.1
def bdWords (xs : List Int) : List ByteArray := xs.reverse.map dec
def bdText (xs : List Int) : List UInt8 := Lib.join ((bdWords xs).map (·.data.toList)) [124]
theorem bdWords_step {xs : List Int} {i : Nat} {u : Int} (h : xs[i]? = some u) : bdWords (xs.drop i) = bdWords (xs.drop (i + 1)) ++ [dec u] := by
 obtain ⟨h1, h2⟩ := List.getElem?_eq_some_iff.1 h
 rw [List.drop_eq_getElem_cons h1, h2]
 simp [bdWords]
theorem BoardText_yes (A : Option Addr) (n c : Nat) (xs : List Int) (w : World) (hx : Ints w w.heap.size A n xs) (hok : Bd.okB xs = true) (hp : Pow w.heap.size w) (hlen : (bdText xs).length ≤ 1000000) :
  Calls Tryz.prog 28 #[.slice A n c] w fun e w' => e = .returned (.string (bs (bdText xs))) ∧ Below w.heap.size w w' := by
 have hl := (Bd.okB_iff xs).1 hok
 have HX := Hd hx
 have HOK := Hd hok
 have HL := Hd hl
 have HP := Hd hp
 have HN := Hd hlen
 clear hx hok hl hp hlen
 go_enter Tryz.func28, Tryz.ntmps28
 go_wp2_with (first
  | (go_at_call 68; refine (layOut_yes HX.out HOK.out).mono ?_; rintro e w1 ⟨rfl, hb1⟩)
  | (refine wpList_store_ten rfl rfl _ _ rfl w1.heap.size rfl 93 (AV z10) xs rfl (heap_alloc_new w1 _) rfl HL.out.1 _ (setRow_alloc w1 _ _ _) ?_)
  | (refine wpList_make_s rfl _ _ rfl (B := w.heap.size) (n := 10) _ rfl rfl rfl (by omega) (by have := hb1.size; simp; omega) ?_; intro w2 hown hg))
 have hbk : Blk w2 w1.heap.size (AV xs) 93 := Blk.grown (Blk.new w1 _ _) hg (by simp)
 have hbl : Below w.heap.size w w2 := (hb1.alloc hb1.size (.cells (AV xs) 93)).grown hg (by have := hb1.size; simp; omega) (by simp)
 have hlt1 : w.heap.size ≤ w1.heap.size := hb1.size
 simp only [World.size_alloc] at hown
 have HO := Hd hown
 have HBK := Hd hbk
 have HBL := Hd hbl
 clear hown hbk hbl hg hb1
 go_loopw [5, 6] (fun sv pv wr => ∃ (j m cc : Nat) (S : Option Addr), j ≤ 10 ∧ m = 10 - j ∧ pv = .int .i64 ((j : Int) - 1) ∧ sv = .slice S m cc ∧ OwnR wr w.heap.size 9 1 S m cc (SV (bdWords (xs.drop j))) ∧ Blk wr w1.heap.size (AV xs) 93 ∧ Below w.heap.size w wr) (fun _ pv _ => ((intOf pv) + 1).toNat)
 case atStart =>
  refine ⟨10, 0, 10, _, by omega, by omega, rfl, rfl, ?_, HBK.out, HBL.out⟩
  rw [List.drop_eq_nil_of_le (by have := HL.out.1; omega)]
  exact HO.out
 case round =>
  obtain ⟨j, m, cc, S, hj, hm, rfl, rfl, ho, hb, hbel⟩ := hrel
  rcases j with _ | i
  ·obtain rfl : m = 10 := by omega
   clear hm
   have hpv : ((0 : Nat) : Int) - 1 = -1 := by omega
   rw [hpv]
   have hwords : (bdWords xs).length = 10 := by simp [bdWords, HL.out.1]
   rw [List.drop_zero] at ho
   obtain ⟨bk, off, rfl, hbk, hcells⟩ := ho.row.2.2 (by omega)
   have HB := Hd (And.intro hbel hcells)
   have hcap := ho.cap
   clear hbel hcells ho hb
   go_wp2_with fail
   have hj := Tryz.strings_Join bk off cc (bdWords xs) ⟨#[124]⟩ wr (fun j x h => HB.out.2 j _ (by simp [SV, h])) hbk (by omega) (by omega) (by have := HN.out; have e : (Lib.join ((bdWords xs).map (·.data.toList)) (⟨#[124]⟩ : ByteArray).data.toList).length ≤ 1000000 := this; omega)
   rw [hwords] at hj
   refine hj.mono ?_
   rintro e w4 ⟨rfl, hb4⟩
   have HB4 := Hd (below_chain HB.out.1 hb4)
   clear hb4 hj
   go_wp2_with fail
   go_ret
   exact ⟨rfl, HB4.out⟩
  ·obtain ⟨u, hu⟩ : ∃ u, xs[i]? = some u := ⟨_, List.getElem?_eq_getElem (by have := HL.out.1; omega)⟩
   have hpv : ((i + 1 : Nat) : Int) - 1 = (i : Int) := by omega
   rw [hpv]
   have hub := HL.out.2 u (List.mem_of_getElem? hu)
   have c1 := hb.cell (j := i) (AV_get hu)
   have hi9 : (i : Int) < 10 := by omega
   have hi0 : (0 : Int) ≤ (i : Int) := by omega
   have HU := Hd hu
   have HMM := Hd hm
   clear hm
   have HX2 := Hd (And.intro ho (And.intro hb hbel))
   clear ho hb hbel hu
   go_wp2_with fail
   refine (Itoa_any (HP.out.below HX2.out.2.2) u (by omega) (by omega)).mono ?_
   rintro e w3 ⟨rfl, hb3⟩
   have ho3 := HX2.out.1.next hb3
   have hk3 := HX2.out.2.1.next hb3
   have hbl3 := HX2.out.2.2.trans (hb3.mono HX2.out.2.2.size)
   have hs3 := hbl3.size
   clear hb3
   go_wp2_with (at_builtin; refine wpList_app_s rfl _ _ rfl rfl ho3 (dec u) 1 rfl _ rfl (by have := HMM.out; omega) hs3 ?_; intro S4 c4 w4 ho4 hg4)
   refine ⟨⟨i, m + 1, c4, S4, by omega, by have := HMM.out; omega, by go_num, rfl, ?_, hk3.grown hg4 (by intro e; obtain ⟨cur, z, h1⟩ := ho3.ty e.symm; exact absurd (blk_ty hk3 h1) (by decide)), hbl3.grown hg4 hs3 (fun q hq => (ho3.blk q hq).1)⟩, by simp [intOf]⟩
   rw [bdWords_step HU.out]
   exact ho4
theorem joinTail_len : ∀ r : List (List UInt8), (∀ y ∈ r, y.length ≤ 20) → (Lib.joinTail [124] r).length ≤ 21 * r.length
 | [], _ => by simp [Lib.joinTail]
 | y :: r, h => by
  have h1 := h y List.mem_cons_self
  have h2 := joinTail_len r (fun z hz => h z (List.mem_cons_of_mem _ hz))
  simp [Lib.joinTail] at h2 ⊢
  omega
theorem bdText_len {xs : List Int} (hl : xs.length = 10) (hx : ∀ x ∈ xs, 0 ≤ x ∧ x ≤ 20) : (bdText xs).length ≤ 300 := by
 have hw : ∀ y ∈ (bdWords xs).map (·.data.toList), y.length ≤ 20 := by
  intro y hy
  obtain ⟨b, hb, rfl⟩ := List.mem_map.1 hy
  obtain ⟨x, hx', rfl⟩ := List.mem_map.1 hb
  obtain ⟨x0, x1⟩ := hx x (by simpa using hx')
  have := dec_size x (by omega) (by omega)
  simpa using this
 have hlen : ((bdWords xs).map (·.data.toList)).length = 10 := by simp [bdWords, hl]
 unfold bdText
 cases hc : (bdWords xs).map (·.data.toList) with
 | nil => rw [hc] at hlen; cases hlen
 | cons y r =>
  rw [hc] at hlen hw
  rw [Lib.join_cons]
  have h1 := hw y List.mem_cons_self
  have h2 := joinTail_len r (fun z hz => hw z (List.mem_cons_of_mem _ hz))
  simp at hlen ⊢
  omega
theorem boardText_cmd (B0 tb : Nat) (bds ds : List Int) (ts : List Tl) (v : Value) (w : World) (h : Tab B0 w tb bds ds ts) (hw : B0 ≤ w.heap.size) (hp : Pow B0 w) (hok : Bd.okB bds = true) :
  Calls Tryz.prog 159 #[.pointer (some ⟨tb, 0, none⟩), v] w (CmdPost B0 (Tell B0 tb bds ds ts (bs (bdText bds))) w) := by
 obtain ⟨hB0, Ab, nb, cb, A, c, A', c', At, nt, ct, g0, g1, g2, g3, g4⟩ := id h
 have hl := (Bd.okB_iff bds).1 hok
 have hlen := bdText_len hl.1 hl.2
 have hsz : (bs (bdText bds)).size = (bdText bds).length := by show (bdText bds).toArray.size = _; simp
 have hlong := no_long (n := (bs (bdText bds)).size) (by omega) 1 (by omega)
 have HT := Hd h
 have c0 := g0.cell (j := 0) (v := .slice Ab nb cb) rfl
 have HI := Hd g1.ints
 have HP := Hd (show Pow w.heap.size w from fun w' hb => hp w' (hb.mono hw))
 have HOK := Hd hok
 clear h hB0 g0 g1 g2 g3 g4 hp hok hl hsz hw
 go_enter Tryz.func159, Tryz.ntmps159
 go_wp2_with (first
  | (go_at_call 28; refine (BoardText_yes Ab nb cb bds _ HI.out HOK.out HP.out (by omega)).mono ?_; rintro e w1 ⟨rfl, hb1⟩))
 refine bodyPost_ret (v := .tuple #[.string (bs (bdText bds) ++ ⟨#[10]⟩), .bool true]) (by simp [results, Tryz.results159, go_sem]) rfl ?_
 exact ⟨_, _, rfl, ⟨rfl, rfl, HT.out.next hb1⟩, KeptT.of_below hb1⟩
theorem does_board (s : St) (hok : Bd.okB s.bs = true) : CmdDoes 159 [] s (bs (bdText s.bs) ++ ⟨#[10]⟩) s := by
 refine ⟨fun args w => by simp [go_sem], fun B0 tb w A n hn ht hw hp => ?_⟩
 refine (boardText_cmd B0 tb s.bs s.ds s.ts _ w ht hw hp hok).mono fun e w' h => h.mono ?_
 rintro t ok w2 ⟨rfl, rfl, h⟩
 exact ⟨rfl, h⟩
theorem l9Number_any (s : ByteArray) (w : World) (hs : s.size ≤ 1000000) : Calls Tryz.prog 131 #[.string s] w fun e w' => e = .returned (.int .i64 (wnum s.data.toList)) ∧ w = w' := by
 have hlen : s.data.toList.length = s.size := by simp
 obtain ⟨R, hR⟩ : ∃ R, wnum s.data.toList = R := ⟨_, rfl⟩
 rw [hR]
 unfold wnum at hR
 rw [hlen] at hR
 have HLEN := Hd hlen
 clear hlen
 by_cases h1 : s.size < 1
 ·rw [if_pos (.inl h1)] at hR
  subst hR
  go_enter Tryz.func131, Tryz.ntmps131
  go_wp2_with fail
  refine (l6In_no (by omega) _).mono ?_
  rintro e w' ⟨rfl, rfl⟩
  go_wp2_with fail
  go_ret
  exact ⟨rfl, rfl⟩
 by_cases h2 : 6 < s.size
 ·rw [if_pos (.inr h2)] at hR
  subst hR
  go_enter Tryz.func131, Tryz.ntmps131
  go_wp2_with fail
  refine (l6In_no (by omega) _).mono ?_
  rintro e w' ⟨rfl, rfl⟩
  go_wp2_with fail
  go_ret
  exact ⟨rfl, rfl⟩
 rw [if_neg (by omega)] at hR
 have HR := Hd hR
 clear hR
 go_enter Tryz.func131, Tryz.ntmps131
 go_wp2_with fail
 refine (l6In_yes (by omega) (by omega) _).mono ?_
 rintro e w' ⟨rfl, rfl⟩
 go_wp2_with fail
 go_loopw [3, 4] (fun nv iv wr => ∃ (i : Nat) (n : Int), i ≤ s.size ∧ iv = .int .i64 (i : Int) ∧ nv = .int .i64 n ∧ 0 ≤ n ∧ n ≤ 1000000000000 ∧ n < 10 ^ i ∧ (wfold (s.data.toList.drop i) n).getD 9999999 = R ∧ w = wr) (fun _ iv _ => s.size - (intOf iv).toNat)
 case atStart => exact ⟨0, 0, by omega, rfl, rfl, by omega, by omega, by omega, HR.out, rfl⟩
 case round =>
  obtain ⟨i, n, hi, rfl, rfl, hn0, hn1, hn2, hw, rfl⟩ := hrel
  have HW := Hd hw
  have HP := Hd hn2
  clear hw hn2
  by_cases hlt : i < s.size
  ·obtain ⟨b, hb⟩ : ∃ b, s[i] = b := ⟨_, rfl⟩
   have hb2 : s.data.toList[i]? = some b := by
    rw [List.getElem?_eq_getElem (by have := HLEN.out; omega), ← hb]; rfl
   have hw := HW.out
   rw [ex_drop_at hb2] at hw
   unfold wfold at hw
   by_cases hd : b.toNat < 48
   ·rw [if_pos (.inl hd)] at hw
    have hwR : (9999999 : Int) = R := hw
    have HWR := Hd hwR
    have hdI : (b.toNat : Int) < 48 := by omega
    clear hb2 hw hwR
    go_wp2
    go_ret
    exact ⟨ret_int HWR.out, rfl⟩
   by_cases hd2 : 57 < b.toNat
   ·rw [if_pos (.inr hd2)] at hw
    have hwR : (9999999 : Int) = R := hw
    have HWR := Hd hwR
    have hdI : ¬ (b.toNat : Int) < 48 := by omega
    have hdJ : (b.toNat : Int) > 57 := by omega
    clear hb2 hw hwR
    go_wp2
    go_ret
    exact ⟨ret_int HWR.out, rfl⟩
   rw [if_neg (by omega)] at hw
   obtain ⟨x, hx⟩ : ∃ x, b.toNat = x := ⟨_, rfl⟩
   rw [hx] at hw hd hd2
   rw [Int.mul_comm n 10] at hw
   have hnb : n < 10 ^ 5 := by
    have h6 : i ≤ 5 := by omega
    have := HP.out
    have h10 : (10 : Int) ^ i ≤ 10 ^ 5 := pow5 i h6
    omega
   have hnp : 10 * n + ((x : Int) - 48) < 10 ^ (i + 1) := by
    have := HP.out
    rw [Int.pow_succ]
    omega
   have w1 : IntKind.i64.wrap (10 * n) = 10 * n := IntWalk.i64_in _ (by omega)
   have w2 : IntKind.u8.wrap ((x : Int) - 48) = (x : Int) - 48 := IntWalk.u8_in _ (by omega)
   have w3 : IntKind.i64.wrap ((x : Int) - 48) = (x : Int) - 48 := IntWalk.i64_in _ (by omega)
   have w4 : IntKind.i64.wrap (10 * n + ((x : Int) - 48)) = 10 * n + ((x : Int) - 48) := IntWalk.i64_in _ (by omega)
   have hdI : ¬ (x : Int) < 48 := by omega
   have hdJ : ¬ (x : Int) > 57 := by omega
   have HN := Hd (And.intro hw hnp)
   clear hb2 hw hnp hd hd2
   go_wp2_with fail
   exact ⟨⟨i + 1, _, by omega, by go_num, rfl, by omega, by omega, HN.out.2, HN.out.1, trivial⟩, by simp [intOf]; omega⟩
  ·have hwR : n = R := by
    have hw := HW.out
    rw [List.drop_eq_nil_of_le (by have := HLEN.out; omega)] at hw
    exact hw
   have HWR := Hd hwR
   clear hwR
   go_wp2
   go_ret
   exact ⟨ret_int HWR.out, rfl⟩
def cutGo (c : UInt8) : List UInt8 → List UInt8 → List (List UInt8)
 | cur, [] => [cur]
 | cur, b :: l => if b = c then cur :: cutGo c [] l else cutGo c (cur ++ [b]) l
theorem cutGo_is (c : UInt8) : ∀ (l cur : List UInt8), ∃ x xs, cut c l = x :: xs ∧ cutGo c cur l = (cur ++ x) :: xs
 | [], cur => ⟨[], [], rfl, by simp [cutGo]⟩
 | b :: l, cur => by
  unfold cut cutGo
  by_cases h : b = c
  ·rw [if_pos h, if_pos h]
   obtain ⟨x, xs, h1, h2⟩ := cutGo_is c l []
   refine ⟨[], cut c l, rfl, ?_⟩
   rw [h1, h2]
   simp
  ·rw [if_neg h, if_neg h]
   obtain ⟨x, xs, h1, h2⟩ := cutGo_is c l (cur ++ [b])
   rw [h1]
   exact ⟨b :: x, xs, rfl, by rw [h2]; simp⟩
theorem cutGo_nil (c : UInt8) (l : List UInt8) : cutGo c [] l = cut c l := by
 obtain ⟨x, xs, h1, h2⟩ := cutGo_is c l []
 rw [h1, h2]; rfl
theorem ext_bs (s : ByteArray) (f i : Nat) : s.extract f i = bs ((s.data.toList.drop f).take (i - f)) := by
 apply ByteArray.ext
 show (s.extract f i).data = ((s.data.toList.drop f).take (i - f)).toArray
 rw [ByteArray.data_extract]
 apply Array.toList_inj.1
 simp [List.extract_eq_take_drop]
theorem cur_next {l : List UInt8} {f i : Nat} {b : UInt8} (h : l[i]? = some b) (hf : f ≤ i) : (l.drop f).take (i - f) ++ [b] = (l.drop f).take (i + 1 - f) := by
 rw [show i + 1 - f = i - f + 1 from by omega, List.take_add_one, List.getElem?_drop, show f + (i - f) = i from by omega, h]
 rfl
theorem l9Cut_any (c : UInt8) (s : ByteArray) (w : World) (hs : s.size ≤ 900000) : Calls Tryz.prog 51 #[.string s, .int .u8 c.toNat] w fun e w' => ∃ A n cp, e = .returned (.slice A n cp) ∧ OwnR w' w.heap.size 9 1 A n cp (SV ((cut c s.data.toList).map bs)) ∧ n = (cut c s.data.toList).length ∧ Below w.heap.size w w' := by
 have hlen : s.data.toList.length = s.size := by simp
 obtain ⟨l, hl⟩ : ∃ l, s.data.toList = l := ⟨_, rfl⟩
 rw [hl] at hlen ⊢
 have HL := Hd hl
 have hR := cutGo_nil c l
 obtain ⟨R, hRR⟩ : ∃ R, cut c l = R := ⟨_, rfl⟩
 rw [hRR] at hR ⊢
 have HR := Hd hR
 clear hl hR hRR
 go_enter Tryz.func51, Tryz.ntmps51
 go_wp2_with fail
 have H0 := Hd (show OwnR (w.alloc (.cells #[] 9)) w.heap.size 9 1 (some ⟨w.heap.size, 0, none⟩) 0 0 (SV []) ∧ Below w.heap.size w (w.alloc (.cells #[] 9)) from
  ⟨⟨⟨rfl, .inr ⟨w.heap.size, 0, #[], rfl, Nat.le_refl _, heap_alloc_new w _, Nat.le_refl _, by unfold maxLen; omega, rfl, rfl⟩⟩, by omega⟩, (Below.refl _ _).alloc (Nat.le_refl _) _⟩)
 go_loopw [5, 6, 7] (fun ov fv iv wr => ∃ (i f m cp : Nat) (A : Option Addr) (done : List (List UInt8)) (cur : List UInt8), i ≤ s.size ∧ f ≤ i ∧ m ≤ i ∧ iv = .int .i64 (i : Int) ∧ fv = .int .i64 (f : Int) ∧ ov = .slice A m cp ∧ cur = (l.drop f).take (i - f) ∧ done ++ cutGo c cur (l.drop i) = R ∧ m = done.length ∧ OwnR wr w.heap.size 9 1 A m cp (SV (done.map bs)) ∧ Below w.heap.size w wr) (fun _ _ iv _ => s.size - (intOf iv).toNat)
 case atStart => exact ⟨0, 0, 0, 0, _, [], [], by omega, by omega, by omega, rfl, rfl, rfl, by simp, HR.out, rfl, H0.out.1, H0.out.2⟩
 case round =>
  clear H0
  obtain ⟨i, f, m, cp, A, done, cur, hi, hf, hm, rfl, rfl, rfl, hcur, hdo, hmd, ho, hb⟩ := hrel
  have HO := Hd ho
  have HB := Hd hb
  have hsz := hb.size
  clear ho hb
  have hext : s.extract f i = bs cur := by rw [ext_bs, HL.out, hcur]
  by_cases hlt : i < s.size
  ·obtain ⟨b, hb⟩ : ∃ b, s[i] = b := ⟨_, rfl⟩
   have hb2 : l[i]? = some b := by
    rw [← HL.out, List.getElem?_eq_getElem (by simpa using hlt), ← hb]; rfl
   rw [ex_drop_at hb2] at hdo
   unfold cutGo at hdo
   by_cases hbc : b = c
   ·subst hbc
    rw [if_pos rfl] at hdo
    have HD := Hd (And.intro hdo hmd)
    have HX := Hd hext
    clear hb2 hdo hmd hcur hext
    go_wp2_with (at_builtin; refine wpList_app_s rfl _ _ rfl rfl HO.out (s.extract f i) _ rfl _ rfl (by omega) hsz ?_; intro A1 c1 w1 own1 hg1)
    go_roundw
    case rel =>
     refine ⟨i + 1, i + 1, m + 1, _, _, done ++ [cur], [], by omega, by omega, by omega, by go_num, by go_num, rfl, by simp, ?_, by simp [HD.out.2], ?_, ?_⟩
     ·rw [← HD.out.1]; simp
     ·rw [HX.out] at own1; simpa using own1
     ·exact HB.out.grown hg1 hsz fun j hj => (HO.out.1.lt j hj).1
    case measure => simp [intOf]; omega
   ·rw [if_neg hbc] at hdo
    have hbn : ¬ (b.toNat : Int) = (c.toNat : Int) := fun e => hbc (UInt8.toNat_inj.1 (by omega))
    have HD := Hd (And.intro hdo (And.intro hmd (And.intro hcur (cur_next hb2 hf))))
    clear hb2 hdo hmd hcur hext
    go_wp2_with fail
    go_roundw
    case rel => exact ⟨i + 1, f, m, cp, A, done, cur ++ [b], by omega, by omega, by omega, by go_num, rfl, rfl, by rw [HD.out.2.2.1]; exact HD.out.2.2.2, HD.out.1, HD.out.2.1, HO.out, HB.out⟩
    case measure => simp [intOf]; omega
  ·obtain rfl : i = s.size := by omega
   have hd0 : l.drop s.size = [] := List.drop_eq_nil_of_le (by omega)
   rw [hd0] at hdo
   have HD := Hd (And.intro hdo hmd)
   have HX := Hd hext
   clear hdo hmd hcur hext hd0
   go_wp2_with (at_builtin; refine wpList_app_s rfl _ _ rfl rfl HO.out (s.extract f s.size) _ rfl _ rfl (by omega) hsz ?_; intro A1 c1 w1 own1 hg1)
   go_ret
   rw [HX.out] at own1
   have hR : R = done ++ [cur] := HD.out.1.symm
   refine ⟨_, _, _, rfl, ?_, ?_, HB.out.grown hg1 hsz fun j hj => (HO.out.1.lt j hj).1⟩
   ·rw [hR]; simpa using own1
   ·rw [hR]; simp [HD.out.2]
theorem OwnR.cell2 {w : World} {B k n c g : Nat} {e : TypeId} {vs : List Value} (h : OwnR w B e k (some ⟨g, 0, none⟩) n c vs) {j : Nat} {u : Value} (hu : vs[j]? = some u) : w.cell? ⟨g, j, none⟩ = some u := by
 have := h.1.cells (g := g) rfl j u hu
 rwa [add_row] at this
theorem OwnR.some2 {w : World} {B k n c : Nat} {A : Option Addr} {e : TypeId} {vs : List Value} (h : OwnR w B e k A n c vs) (hn : 0 < n) : ∃ g, A = some ⟨g, 0, none⟩ := by
 rcases h.1.2 with ⟨_, h0⟩ | ⟨g, cap, cur, hv, _⟩
 ·omega
 ·injection hv with e1 e2 e3
  exact ⟨g, e1⟩
abbrev Wds (w : World) (B : Nat) (A : Option Addr) (n c : Nat) (ws : List (List UInt8)) : Prop := OwnR w B 9 1 A n c (SV (ws.map bs))
theorem Wds.at_ {w : World} {B n c k : Nat} {A : Option Addr} {ws : List (List UInt8)} {x : List UInt8} (h : Wds w B A n c ws) (hk : ws[k]? = some x) : ∃ g, A = some ⟨g, 0, none⟩ ∧ g < w.heap.size ∧ w.cell? ⟨g, k, none⟩ = some (.string (bs x)) := by
 have hl : (SV (ws.map bs)).length = n * 1 := h.1.1
 have hlt := (List.getElem?_eq_some_iff.1 hk).1
 obtain ⟨g, rfl⟩ := h.some2 (by simp [SV] at hl; omega)
 exact ⟨g, rfl, (h.1.lt g rfl).2, h.cell2 (by simp [SV, hk])⟩
theorem Wds.len {w : World} {B n c : Nat} {A : Option Addr} {ws : List (List UInt8)} (h : Wds w B A n c ws) : ws.length = n := by
 have hl : (SV (ws.map bs)).length = n * 1 := h.1.1
 simp [SV] at hl
 exact hl
theorem l9Numbers_any (A : Option Addr) (B n c : Nat) (k : List UInt8) (ws : List (List UInt8)) (w : World) (h : Wds w B A n c (k :: ws)) (hs : ∀ x ∈ ws, x.length ≤ 1000) (hn : ws.length ≤ 1000) :
  Calls Tryz.prog 97 #[.slice A n c] w fun e w' => ∃ A' c', e = .returned (.slice A' ws.length c') ∧ Own w' w.heap.size A' ws.length c' (ws.map wnum) ∧ Below w.heap.size w w' := by
 have hlen := h.len
 have hnn : n = ws.length + 1 := by simpa using hlen.symm
 have HW := Hd h
 have HS := Hd hs
 have H0 := Hd (lit_nil w)
 have hn2 : (n : Int) ≤ 1001 := by omega
 have HNN := Hd hnn
 clear h hs hlen hnn
 go_enter Tryz.func97, Tryz.ntmps97
 go_wp2_with fail
 go_loopw [3, 4] (fun ov iv wr => ∃ (j cp : Nat) (Ao : Option Addr), j ≤ ws.length ∧ iv = .int .i64 ((j : Int) + 1) ∧ ov = .slice Ao j cp ∧ Own wr w.heap.size Ao j cp ((ws.take j).map wnum) ∧ Below w.heap.size w wr) (fun _ iv _ => n - (intOf iv).toNat)
 case atStart => exact ⟨0, 0, _, by omega, rfl, rfl, by simpa using H0.out, (Below.refl _ _).alloc (Nat.le_refl _) _⟩
 case round =>
  clear H0
  obtain ⟨j, cp, Ao, hj, rfl, rfl, ho, hb⟩ := hrel
  have HO := Hd ho
  have HB := Hd hb
  have hsz := hb.size
  have hww : Wds wr B A n c (k :: ws) := OwnR.next HW.out hb
  clear ho hb
  by_cases hlt : j < ws.length
  ·obtain ⟨x, hx⟩ : ∃ x, ws[j]? = some x := ⟨_, List.getElem?_eq_getElem hlt⟩
   obtain ⟨g, rfl, hg, hcell⟩ := hww.at_ (k := j + 1) (x := x) (by simpa using hx)
   have hcI : wr.cell? ⟨g, 0 + ((j : Int) + 1).toNat, none⟩ = some (.string (bs x)) := by
    rw [show 0 + ((j : Int) + 1).toNat = j + 1 by omega]; exact hcell
   have hxs : (bs x).size ≤ 1000000 := by
    have h3 : (bs x).size = x.length := by show x.toArray.size = _; simp
    have := HS.out x (List.mem_of_getElem? hx)
    omega
   have HX := Hd hx
   have hjn : (j : Int) + 1 < (n : Int) := by have := HNN.out; omega
   clear hww hx
   go_wp2_with fail
   refine (l9Number_any (bs x) wr hxs).mono ?_
   rintro e w' ⟨rfl, rfl⟩
   rw [bs_list]
   go_wp2_with (at_builtin; refine wpList_app rfl _ _ rfl rfl HO.out [wnum x] 1 rfl _ rfl _ rfl (by omega) hsz ?_; intro A2 c2 w4 ho4 hg4)
   go_roundw
   case rel => exact ⟨j + 1, _, _, by omega, by go_num, rfl, by rw [List.take_add_one, HX.out, List.map_append]; exact ho4, HB.out.grown hg4 hsz fun q hq => (HO.out.blk q hq).1⟩
   case measure => simp [intOf]; omega
  ·obtain rfl : j = ws.length := by omega
   have hjn : ¬ ((ws.length : Int) + 1 < (n : Int)) := by have := HNN.out; omega
   clear hww
   go_wp2_with fail
   go_ret
   have ho := HO.out
   rw [List.take_of_length_le (Nat.le_refl _)] at ho
   exact ⟨_, _, rfl, ho, HB.out⟩
theorem l9Said_yes (t : ByteArray) (w : World) (ht : t.size ≤ 100000) : Calls Tryz.prog 139 #[.string t, .bool true] w fun e w' => e = .returned (.string (t ++ ⟨#[10]⟩)) ∧ w = w' := by
 have hl := no_long (n := t.size) (by omega) 1 (by omega)
 go_enter Tryz.func139, Tryz.ntmps139
 go_wp2_with fail
 go_ret
 exact ⟨rfl, rfl⟩
theorem l9Said_no (t : ByteArray) (w : World) : Calls Tryz.prog 139 #[.string t, .bool false] w fun e w' => e = .returned (.string noT) ∧ w = w' := by
 go_enter Tryz.func139, Tryz.ntmps139
 go_wp2_with fail
 go_ret
 exact ⟨rfl, rfl⟩
theorem conv_blk {w : World} {k : Nat} {v : Int} (h : Blk w k #[.int .u8 v] 5) (b : UInt8) (hv : (b.toNat : Int) = v) :
  (convert 22 9 (.slice (some ⟨k, 0, none⟩) 1 1)).run Tryz.prog w = .ok (.string (bs [b])) w := by
 subst hv
 exact run_convert_bytes_back (P := Tryz.prog) w 22 9 5 ⟨k, 0, none⟩ 1 [b] Tryz.underlying22 Tryz.underlying5 Tryz.underlying9 (by
  intro j hj
  obtain rfl : j = 0 := by simpa using hj
  exact h.cell rfl)
theorem dec_small {n : Nat} (h : n < 10) : dec (n : Int) = bs [UInt8.ofNat (48 + n)] := by
 unfold dec
 rw [Lib.itoa_nonneg, Lib.decDigits_one h]
 rfl
theorem dec_step {n : Nat} (h : ¬ n < 10) : dec (n : Int) = dec ((n / 10 : Nat) : Int) ++ bs [UInt8.ofNat (48 + n % 10)] := by
 unfold dec
 rw [Lib.itoa_nonneg, Lib.itoa_nonneg, Lib.decDigits, dif_neg h]
 exact (ByteArray.mk_append_mk _ _).symm
theorem l6Dec_any (n : Nat) : n ≤ 9223372036854775807 → ∀ w : World, Calls Tryz.prog 53 #[.int .i64 (n : Int)] w fun e w' => e = .returned (.string (dec (n : Int))) ∧ Below w.heap.size w w' := by
 induction n using Nat.strongRecOn with
 | ind n ih =>
 intro hn w
 by_cases h : n < 10
 ·obtain ⟨b, hb⟩ : ∃ b, UInt8.ofNat (48 + n) = b := ⟨_, rfl⟩
  have hbn : (b.toNat : Int) = 48 + (n : Int) := by rw [← hb, digit_nat n h]; omega
  have hcv := conv_blk (Blk.new w #[.int .u8 (48 + (n : Int))] 5) b hbn
  rw [dec_small h, hb]
  have h3 : (n : Int) < 10 := by omega
  have h4 : ¬ (n : Int) < 0 := by omega
  have h5 : ¬ (n : Int) < -9223372036854775807 := by omega
  clear hb hbn ih
  go_enter Tryz.func53, Tryz.ntmps53
  go_wp2
  go_ret
  exact ⟨rfl, (Below.refl _ _).alloc (Nat.le_refl _) _⟩
 ·obtain ⟨b, hb⟩ : ∃ b, UInt8.ofNat (48 + n % 10) = b := ⟨_, rfl⟩
  obtain ⟨m, hm⟩ : ∃ m : Int, ((n % 10 : Nat) : Int) = m := ⟨_, rfl⟩
  have hbn : (b.toNat : Int) = 48 + m := by rw [← hb, digit_nat _ (by omega)]; omega
  have hih := ih (n / 10) (by omega) (by omega)
  obtain ⟨k, hk⟩ : ∃ k : Int, ((n / 10 : Nat) : Int) = k := ⟨_, rfl⟩
  have hq : Int.tdiv (n : Int) 10 = k := by rw [← hk]; rfl
  have hr : Int.tmod (n : Int) 10 = m := by rw [← hm]; rfl
  have m0 : 0 ≤ m := by omega
  have m9 : m ≤ 9 := by omega
  have k0 : 0 ≤ k := by omega
  have k1 : k ≤ 922337203685477580 := by omega
  rw [dec_step h, hb]
  rw [hk] at hih ⊢
  have hsz := dec_size k (by omega) (by omega)
  obtain ⟨D, hD⟩ : ∃ D, dec k = D := ⟨_, rfl⟩
  rw [hD] at hih hsz ⊢
  have h3 : ¬ (n : Int) < 10 := by omega
  have h4 : ¬ (n : Int) < 0 := by omega
  have h5 : ¬ (n : Int) < -9223372036854775807 := by omega
  have HIH := Hd hih
  have hcv : ∀ w : World, (convert 22 9 (.slice (some ⟨w.heap.size, 0, none⟩) 1 1)).run Tryz.prog (w.alloc (.cells #[.int .u8 (48 + m)] 5)) = .ok (.string (bs [b])) (w.alloc (.cells #[.int .u8 (48 + m)] 5)) := fun w => conv_blk (Blk.new w _ _) b hbn
  have hcvd := conv_blk (Blk.drew (Blk.new w #[.int .u8 (48 + m)] 5)) b hbn
  have hcn := fun (w2 : World) (h : Below (w.alloc (.cells #[.int .u8 (48 + m)] 5)).drew.heap.size (w.alloc (.cells #[.int .u8 (48 + m)] 5)).drew w2) => conv_blk (Blk.next (Blk.drew (Blk.new w #[.int .u8 (48 + m)] 5)) h) b hbn
  obtain ⟨X, hX⟩ : ∃ X, bs [b] = X := ⟨_, rfl⟩
  have hlong : ¬ 9223372036854775807 < D.size + X.size := by
   have e : X.size = 1 := by rw [← hX]; rfl
   omega
  have u1 : IntKind.i64.wrap k = k := IntWalk.i64_in _ (by omega)
  have u2 : IntKind.i64.wrap m = m := IntWalk.i64_in _ (by omega)
  have u3 : IntKind.i64.wrap (48 + m) = 48 + m := IntWalk.i64_in _ (by omega)
  have u4 : IntKind.u8.wrap (48 + m) = 48 + m := IntWalk.u8_in _ (by omega)
  rw [hX] at hcv hcvd hcn ⊢
  clear hb hih ih hD hk hm hn h hX hbn
  go_enter Tryz.func53, Tryz.ntmps53
  go_wp2_with fail
  refine wp_region_held_drew (S := (fun _ => True)) (by kernel_rfl) ?_ (fun hHeld => ?_)
  ·(try dsimp only)
   all_goals (exact True.intro)
  refine Tk 0 (some 18) (v := ?v1) rfl (Or.inl ⟨by rfl, ?hy1⟩) (by first | assumption | exact hHeld) ?rest1
  case hy1 => ((intro w0 hSw; (try dsimp only at hSw); go_simp) <;> with_reducible rfl)
  (try simp only [Tp0, Tp1, Tp2, Tp3, Tp4])
  refine Tk 1 (some 19) (v := ?v2) rfl (Or.inl ⟨by rfl, ?hy2⟩) (by first | assumption | exact hHeld) ?rest2
  case hy2 => ((intro w0 hSw; (try dsimp only at hSw); go_simp) <;> with_reducible rfl)
  (try simp only [Tp0, Tp1, Tp2, Tp3, Tp4])
  refine Tk 3 (some 21) (v := ?v3) rfl (Or.inl ⟨by rfl, ?hy3⟩) (by first | assumption | exact hHeld) ?rest3
  case hy3 => ((intro w0 hSw; (try dsimp only at hSw); go_simp) <;> with_reducible rfl)
  (try simp only [Tp0, Tp1, Tp2, Tp3, Tp4])
  refine Tk 4 (some 22) (v := ?v4) rfl (Or.inl ⟨by rfl, ?hy4⟩) (by first | assumption | exact hHeld) ?rest4
  case hy4 => ((intro w0 hSw; (try dsimp only at hSw); go_simp) <;> with_reducible rfl)
  (try simp only [Tp0, Tp1, Tp2, Tp3, Tp4])
  refine Tk 5 (some 23) (v := ?v5) rfl (Or.inl ⟨by rfl, ?hy5⟩) (by first | assumption | exact hHeld) ?rest5
  case hy5 => ((intro w0 hSw; (try dsimp only at hSw); go_simp) <;> with_reducible rfl)
  (try simp only [Tp0, Tp1, Tp2, Tp3, Tp4])
  refine Tk 6 (some 24) (v := ?v6) rfl (Or.inl ⟨by rfl, ?hy6⟩) (by first | assumption | exact hHeld) ?rest6
  case hy6 => ((intro w0 hSw; (try dsimp only at hSw); go_simp) <;> with_reducible rfl)
  (try simp only [Tp0, Tp1, Tp2, Tp3, Tp4])
  refine wpAnyH_ready (rs := [2, 7]) (by kernel_rfl) (by simp) ?_
  refine AllReadyH.cons (o := ⟨some 20, _, _, _, _, _⟩) rfl (fun K hK => ?_) ?_
  ·go_simp
   refine (HIH.out _).mono ?_
   rintro e w2 ⟨rfl, hb2⟩
   have hcv2 := hcv w2
   (try go_wp2_with fail)
   refine hK.out _ _ ?_ (fun hHeld7 => ?_)
   ·(try dsimp only)
    all_goals (exact True.intro)
   clear hK K
   (try clear hHeld)
   (try simp only [Tp0, Tp1, Tp2, Tp3, Tp4])
   refine wpAnyH_ready (rs := [7]) (by kernel_rfl) (by simp) ?_
   refine AllReadyH.cons (o := ⟨some 25, _, _, _, _, _⟩) rfl (fun K hK => ?_) ?_
   ·go_simp
    refine hK.out _ _ ?_ (fun hHeld8 => ?_)
    ·(try dsimp only)
     all_goals (exact True.intro)
    clear hK K
    (try clear hHeld7)
    (try simp only [Tp0, Tp1, Tp2, Tp3, Tp4])
    refine wpAnyH_ready (rs := [8]) (by kernel_rfl) (by simp) ?_
    refine AllReadyH.cons (o := ⟨some 26, _, _, _, _, _⟩) rfl (fun K hK => ?_) ?_
    ·go_simp
     refine hK.out _ _ ?_ (fun hHeld9 => ?_)
     ·(try dsimp only)
      all_goals (exact True.intro)
     clear hK K
     (try clear hHeld8)
     (try simp only [Tp0, Tp1, Tp2, Tp3, Tp4])
     refine Tk 9 (some 27) (v := ?v10) rfl (Or.inl ⟨by rfl, ?hy10⟩) (by first | assumption | exact hHeld9) ?rest10
     case hy10 => ((intro w0 hSw; (try dsimp only at hSw); go_simp) <;> with_reducible rfl)
     (try simp only [Tp0, Tp1, Tp2, Tp3, Tp4])
     refine Tk 10 (some 2) (v := ?v11) rfl (Or.inl ⟨by rfl, ?hy11⟩) (by first | assumption | exact hHeld9) ?rest11
     case hy11 => ((intro w0 hSw; (try dsimp only at hSw); go_simp) <;> with_reducible rfl)
     (try simp only [Tp0, Tp1, Tp2, Tp3, Tp4])
     refine wpAnyH_done (by kernel_rfl) ?_ _
     go_wp2
     go_ret
     exact ⟨rfl, ((Below.refl _ _).drew.trans hb2).alloc (by have := hb2.size; simpa using this) _⟩
    exact AllReadyH.nil
   exact AllReadyH.nil
  refine AllReadyH.cons (o := ⟨some 25, _, _, _, _, _⟩) rfl (fun K hK => ?_) ?_
  ·go_simp
   refine hK.out _ _ ?_ (fun hHeld12 => ?_)
   ·(try dsimp only)
    all_goals (exact True.intro)
   clear hK K
   (try clear hHeld)
   (try simp only [Tp0, Tp1, Tp2, Tp3, Tp4])
   refine wpAnyH_ready (rs := [2, 8]) (by kernel_rfl) (by simp) ?_
   refine AllReadyH.cons (o := ⟨some 20, _, _, _, _, _⟩) rfl (fun K hK => ?_) ?_
   ·go_simp
    refine (HIH.out _).mono ?_
    rintro e w2 ⟨rfl, hb2⟩
    have hcv2 := hcn w2 hb2
    (try go_wp2_with fail)
    refine hK.out _ _ ?_ (fun hHeld13 => ?_)
    ·(try dsimp only)
     all_goals (exact True.intro)
    clear hK K
    (try clear hHeld12)
    (try simp only [Tp0, Tp1, Tp2, Tp3, Tp4])
    refine wpAnyH_ready (rs := [8]) (by kernel_rfl) (by simp) ?_
    refine AllReadyH.cons (o := ⟨some 26, _, _, _, _, _⟩) rfl (fun K hK => ?_) ?_
    ·go_simp
     refine hK.out _ _ ?_ (fun hHeld14 => ?_)
     ·(try dsimp only)
      all_goals (exact True.intro)
     clear hK K
     (try clear hHeld13)
     (try simp only [Tp0, Tp1, Tp2, Tp3, Tp4])
     refine Tk 9 (some 27) (v := ?v15) rfl (Or.inl ⟨by rfl, ?hy15⟩) (by first | assumption | exact hHeld14) ?rest15
     case hy15 => ((intro w0 hSw; (try dsimp only at hSw); go_simp) <;> with_reducible rfl)
     (try simp only [Tp0, Tp1, Tp2, Tp3, Tp4])
     refine Tk 10 (some 2) (v := ?v16) rfl (Or.inl ⟨by rfl, ?hy16⟩) (by first | assumption | exact hHeld14) ?rest16
     case hy16 => ((intro w0 hSw; (try dsimp only at hSw); go_simp) <;> with_reducible rfl)
     (try simp only [Tp0, Tp1, Tp2, Tp3, Tp4])
     refine wpAnyH_done (by kernel_rfl) ?_ _
     go_wp2
     go_ret
     exact ⟨rfl, ((Below.refl _ _).alloc (Nat.le_refl _) _).drew.trans (hb2.mono (by simp))⟩
    exact AllReadyH.nil
   refine AllReadyH.cons (o := ⟨some 26, _, _, _, _, _⟩) rfl (fun K hK => ?_) ?_
   ·go_simp
    refine hK.out _ _ ?_ (fun hHeld17 => ?_)
    ·(try dsimp only)
     all_goals (exact True.intro)
    clear hK K
    (try clear hHeld12)
    (try simp only [Tp0, Tp1, Tp2, Tp3, Tp4])
    refine wpAnyH_ready (rs := [2]) (by kernel_rfl) (by simp) ?_
    refine AllReadyH.cons (o := ⟨some 20, _, _, _, _, _⟩) rfl (fun K hK => ?_) ?_
    ·go_simp
     refine (HIH.out _).mono ?_
     rintro e w2 ⟨rfl, hb2⟩
     (try go_wp2_with fail)
     refine hK.out _ _ ?_ (fun hHeld18 => ?_)
     ·(try dsimp only)
      all_goals (exact True.intro)
     clear hK K
     (try clear hHeld17)
     (try simp only [Tp0, Tp1, Tp2, Tp3, Tp4])
     refine Tk 9 (some 27) (v := ?v19) rfl (Or.inl ⟨by rfl, ?hy19⟩) (by first | assumption | exact hHeld18) ?rest19
     case hy19 => ((intro w0 hSw; (try dsimp only at hSw); go_simp) <;> with_reducible rfl)
     (try simp only [Tp0, Tp1, Tp2, Tp3, Tp4])
     refine Tk 10 (some 2) (v := ?v20) rfl (Or.inl ⟨by rfl, ?hy20⟩) (by first | assumption | exact hHeld18) ?rest20
     case hy20 => ((intro w0 hSw; (try dsimp only at hSw); go_simp) <;> with_reducible rfl)
     (try simp only [Tp0, Tp1, Tp2, Tp3, Tp4])
     refine wpAnyH_done (by kernel_rfl) ?_ _
     go_wp2
     go_ret
     exact ⟨rfl, ((Below.refl _ _).alloc (Nat.le_refl _) _).drew.trans (hb2.mono (by simp))⟩
    exact AllReadyH.nil
   exact AllReadyH.nil
  exact AllReadyH.nil
theorem l6Dec_m1 (w : World) : Calls Tryz.prog 53 #[.int .i64 (-1)] w fun e w' => ∃ t, e = .returned (.string t) ∧ t.size ≤ 30 ∧ Below w.heap.size w w' := by
 go_enter Tryz.func53, Tryz.ntmps53
 go_wp2_with fail
 refine (l6Dec_any 1 (by omega) _).mono ?_
 rintro e w2 ⟨rfl, hb2⟩
 have HB := Hd hb2
 have hz := dec_size 1 (by omega) (by omega)
 have h2 : (((1 : Nat) : Int)) = 1 := rfl
 rw [h2]
 have hl := no_long (n := 1) (by omega) (dec 1).size (by omega)
 clear hb2
 go_wp2_with fail
 go_ret
 refine ⟨_, rfl, ?_, HB.out⟩
 rw [ByteArray.size_append]
 show 1 + _ ≤ 30
 omega
theorem ten_succ' (s : Nat) : Fr.ten (s + 1) = 10 * Fr.ten s := by
 first
  | rfl
  | (simp only [Fr.ten]; omega)
  | (simp only [Fr.ten, Int.pow_succ]; omega)
theorem specNumeralOf_yes (v : Nat) (hv : v < 1000000) (w : World) : Calls Tryz.prog 179 #[.int .i64 (v : Int)] w (NumPost w v) := by
 have hvI : (v : Int) ≤ 999999 := by omega
 go_enter Tryz.func179, Tryz.ntmps179
 go_wp2_with fail
 refine (l6In_yes (by omega) (by omega) _).mono ?_
 rintro e w' ⟨rfl, rfl⟩
 have H0 := Hd (lit_nil w)
 go_wp2_with fail
 go_loopw [0, 4] (fun nv ov wr => ∃ (N s cp : Nat) (A : Option Addr) (L : List Int), nv = .int .i64 (N : Int) ∧ ov = .slice A s cp ∧ s ≤ 6 ∧ N * 10 ^ s ≤ v ∧ Own wr w.heap.size A s cp L ∧ Fr.Digs L ∧ (v : Int) = Fr.val L.reverse + Fr.ten s * N ∧ Below w.heap.size w wr) (fun nv ov _ => (intOf nv).toNat + (match ov with | .slice _ 0 _ => 1 | _ => 0))
 case atStart => exact ⟨v, 0, 0, _, [], rfl, rfl, by omega, by simp, H0.out, (fun d h => (by cases h)), (by simp [Fr.val, Fr.ten]), (Below.refl _ _).alloc (Nat.le_refl _) _⟩
 case round =>
  clear H0
  obtain ⟨N, s, cp, A, L, rfl, rfl, hs, hN, ho, hd, hval, hb⟩ := hrel
  have hNv : N < 1000000 := by
   have h1 : 1 ≤ 10 ^ s := Nat.pow_pos (by omega)
   have h2 : N * 1 ≤ N * 10 ^ s := Nat.mul_le_mul_left _ h1
   omega
  have HO := Hd ho
  have HB := Hd hb
  have HD := Hd (And.intro hd hval)
  have hsz := hb.size
  clear ho hb hd hval
  by_cases hend : N = 0 ∧ 0 < s
  ·obtain ⟨rfl, hs0⟩ := hend
   have hs1 : ¬ (s : Int) = 0 := by omega
   go_wp2_with fail
   go_ret2
   refine ⟨_, _, _, L, rfl, ⟨(okN_iff L).2 ⟨by have := HO.out.len; omega, by have := HO.out.len; omega, HD.out.1⟩, ?_⟩, HO.out, HB.out⟩
   have := HD.out.2
   simpa using this.symm
  ·have hs5 : s ≤ 5 := by
    rcases Nat.lt_or_ge s 6 with h | h
    ·omega
    ·exfalso
     obtain rfl : s = 6 := by omega
     have : N ≠ 0 := fun e => hend ⟨e, by omega⟩
     omega
   have hnext : N / 10 * 10 ^ (s + 1) ≤ v := by
    rw [Nat.pow_succ, Nat.mul_comm (10 ^ s) 10, ← Nat.mul_assoc]
    exact Nat.le_trans (Nat.mul_le_mul_right _ (Nat.div_mul_le_self N 10)) hN
   have hlen := HO.out.len
   have hval2 : (v : Int) = Fr.val ((N : Int) % 10 :: L).reverse + Fr.ten (1 + s) * ((N / 10 : Nat) : Int) := by
    rw [List.reverse_cons, val_snoc, List.length_reverse, hlen, Nat.add_comm 1 s]
    have ht : Fr.ten (s + 1) = 10 * Fr.ten s := ten_succ' s
    have h := HD.out.2
    obtain ⟨T, hT⟩ : ∃ T, Fr.ten s = T := ⟨_, rfl⟩
    obtain ⟨q, hq⟩ : ∃ q : Int, ((N / 10 : Nat) : Int) = q := ⟨_, rfl⟩
    obtain ⟨r, hr⟩ : ∃ r : Int, (N : Int) % 10 = r := ⟨_, rfl⟩
    have e : (N : Int) = 10 * q + r := by omega
    rw [ht, hT, hq, hr]
    rw [hT, e, Int.mul_add] at h
    have e3 : T * (10 * q) = 10 * T * q := by rw [← Int.mul_assoc, Int.mul_comm T 10]
    rw [e3] at h
    omega
   have hd2 : Fr.Digs ((N : Int) % 10 :: L) := fun x hx => by
    rcases List.mem_cons.1 hx with rfl | hx
    ·omega
    ·exact HD.out.1 x hx
   have HN := Hd (And.intro hval2 (And.intro hd2 hnext))
   have HLIT : Hid (Own (wr.alloc (.cells #[.int .i64 ((N : Int) % 10)] 3)) w.heap.size (some ⟨wr.heap.size, 0, none⟩) 1 1 [(N : Int) % 10]) := Hd (own_lit wr [(N : Int) % 10] w.heap.size 1 rfl (by omega) hsz)
   clear hval2 hd2 hnext hlen
   have fin : ∀ (A1 : Option Addr) (c1 : Nat) (w1 : World), Own w1 w.heap.size A1 (1 + s) c1 ([(N : Int) % 10] ++ L) → Below w.heap.size w w1 → ∃ (N' s' cp : Nat) (A : Option Addr) (L : List Int), Value.int .i64 ((N : Int) / 10) = .int .i64 (N' : Int) ∧ Value.slice A1 (1 + s) c1 = .slice A s' cp ∧ s' ≤ 6 ∧ N' * 10 ^ s' ≤ v ∧ Own w1 w.heap.size A s' cp L ∧ Fr.Digs L ∧ (v : Int) = Fr.val L.reverse + Fr.ten s' * N' ∧ Below w.heap.size w w1 := fun A1 c1 w1 h1 h2 =>
    ⟨N / 10, 1 + s, c1, A1, (N : Int) % 10 :: L, by congr 1, rfl, by omega, by rw [Nat.add_comm]; exact HN.out.2.2, h1, HN.out.2.1, HN.out.1, h2⟩
   have HF := Hd fin
   clear fin
   by_cases h0 : 0 < N
   ·have hNI : (0 : Int) < (N : Int) := by omega
    have hNB : (N : Int) ≤ 1000000 := by omega
    go_wp2_with (at_builtin; refine wpList_app_ints rfl _ _ rfl rfl HLIT.out rfl (HO.out.ints.alloc (Nat.le_refl _) _) (by omega) (by simp; omega) ?_; intro A1 c1 w1 hown1 hg1)
    have HB1 := Hd (below_step (HB.out.alloc hsz _) hg1 HLIT.out (by simp; omega))
    go_roundw
    case rel => exact HF.out _ _ _ hown1 HB1.out
    case measure => simp [intOf]; split <;> omega
   ·obtain rfl : N = 0 := by omega
    obtain rfl : s = 0 := by
     rcases Nat.eq_zero_or_pos s with h | h
     ·exact h
     ·exact absurd ⟨rfl, h⟩ hend
    go_wp2_with (at_builtin; refine wpList_app_ints rfl _ _ rfl rfl HLIT.out rfl (HO.out.ints.alloc (Nat.le_refl _) _) (by omega) (by simp; omega) ?_; intro A1 c1 w1 hown1 hg1)
    have HB1 := Hd (below_step (HB.out.alloc hsz _) hg1 HLIT.out (by simp; omega))
    go_roundw
    case rel => exact HF.out _ _ _ hown1 HB1.out
    case measure => simp [intOf]
theorem l3Digit_yes {n : Int} (h0 : 0 ≤ n) (h1 : n ≤ 9) (w : World) : Calls Tryz.prog 228 #[.int .i64 n] w fun e w' => e = .returned (.bool true) ∧ w = w' := by
 go_enter Tryz.func228, Tryz.ntmps228
 go_wp2_with fail
 refine (l6In_yes h0 h1 _).mono ?_
 rintro e w' ⟨rfl, rfl⟩
 go_wp2_with fail
 go_ret
 exact ⟨rfl, rfl⟩
theorem specRodCell_yes {x y : Int} (x0 : 0 ≤ x) (x9 : x ≤ 9) (y0 : 0 ≤ y) (y9 : y ≤ 9) (w : World) : Calls Tryz.prog 235 #[.int .i64 x, .int .i64 y] w fun e w' => e = .returned (.tuple #[.int .i64 (x * y / 10), .int .i64 (x * y % 10), .bool true]) ∧ w = w' := by
 have hxy : 0 ≤ x * y ∧ x * y ≤ 81 := ⟨Int.mul_nonneg x0 y0, by have := Int.mul_le_mul x9 y9 y0 (by omega); omega⟩
 have hr : Int.tmod (x * y) 10 = x * y % 10 := Int.tmod_eq_emod_of_nonneg hxy.1
 have hq : Int.tdiv (x * y) 10 = x * y / 10 := Int.tdiv_eq_ediv_of_nonneg hxy.1
 obtain ⟨c, hc⟩ : ∃ c, x * y = c := ⟨_, rfl⟩
 obtain ⟨r, hrr⟩ : ∃ r, c % 10 = r := ⟨_, rfl⟩
 obtain ⟨q, hqq⟩ : ∃ q, c / 10 = q := ⟨_, rfl⟩
 rw [hc] at hr hq hxy ⊢
 have r0 : 0 ≤ r ∧ r ≤ 9 := by omega
 have q0 : 0 ≤ q ∧ q ≤ 9 := by omega
 rw [hrr] at hr ⊢
 rw [hqq] at hq ⊢
 have v1 : IntKind.i64.wrap r = r := IntWalk.i64_in _ (by omega)
 have v2 : IntKind.i64.wrap q = q := IntWalk.i64_in _ (by omega)
 have v5 : IntKind.i64.wrap c = c := IntWalk.i64_in _ (by omega)
 go_enter Tryz.func235, Tryz.ntmps235
 go_wp2_with fail
 refine (l3Digit_yes x0 x9 _).mono ?_
 rintro e w' ⟨rfl, rfl⟩
 go_wp2_with fail
 refine (l3Digit_yes y0 y9 _).mono ?_
 rintro e w' ⟨rfl, rfl⟩
 go_wp2_with fail
 refine bodyPost_ret (results_tmp3 rfl _ _ _) rfl ?_
 exact ⟨rfl, rfl⟩
structure DiagR (xr yr S : List Int) (i j : Nat) (x : Int) : Prop where
 len : S.length = xr.length + yr.length
 bd : ∀ u ∈ S, 0 ≤ u ∧ u ≤ 9 * ((i * 6 + j : Nat) : Int)
 val : Fr.val S = Fr.val (xr.take i) * Fr.val yr + x * Fr.ten i * Fr.val (yr.take j)
theorem val_take {l : List Int} {j : Nat} {y : Int} (h : l[j]? = some y) : Fr.val (l.take (j + 1)) = Fr.val (l.take j) + Fr.ten j * y := by
 rw [take_next h, val_snoc, List.length_take, Nat.min_eq_left (Nat.le_of_lt (List.getElem?_eq_some_iff.1 h).1)]
theorem DiagR.step {xr yr S : List Int} {i j : Nat} {x y u u' : Int} (h : DiagR xr yr S i j x) (hy : yr[j]? = some y) (x0 : 0 ≤ x) (x9 : x ≤ 9) (y0 : 0 ≤ y) (y9 : y ≤ 9)
  (hu : S[i + j]? = some u) (hu' : (S.set (i + j) (u + x * y % 10))[i + j + 1]? = some u') : DiagR xr yr ((S.set (i + j) (u + x * y % 10)).set (i + j + 1) (u' + x * y / 10)) i (j + 1) x := by
 have hxy : 0 ≤ x * y ∧ x * y ≤ 81 := ⟨Int.mul_nonneg x0 y0, by have := Int.mul_le_mul x9 y9 y0 (by omega); omega⟩
 have hb := h.bd u (List.mem_of_getElem? hu)
 have hb1 : ∀ z ∈ S.set (i + j) (u + x * y % 10), 0 ≤ z ∧ z ≤ 9 * ((i * 6 + (j + 1) : Nat) : Int) := fun z hz => by
  rcases List.mem_or_eq_of_mem_set hz with hz | rfl
  ·have := h.bd z hz; omega
  ·omega
 have hu2 : 0 ≤ u' ∧ u' ≤ 9 * ((i * 6 + j : Nat) : Int) := by
  rw [List.getElem?_set_ne (by omega)] at hu'
  exact h.bd u' (List.mem_of_getElem? hu')
 refine ⟨by simp [h.len], fun z hz => ?_, ?_⟩
 ·rcases List.mem_or_eq_of_mem_set hz with hz | rfl
  ·exact hb1 z hz
  ·omega
 ·rw [val_set _ _ _ _ hu', val_set _ _ _ _ hu, h.val, val_take hy, Fr.ten_succ]
  have e : Fr.ten (i + j) = Fr.ten i * Fr.ten j := by unfold Fr.ten; rw [Int.pow_add]
  rw [e]
  generalize Fr.ten i = p
  generalize Fr.ten j = q
  generalize Fr.val (yr.take j) = r
  have hd : x * y = 10 * (x * y / 10) + x * y % 10 := by omega
  have e2 : x * p * (r + q * y) = x * p * r + x * y * (p * q) := by
   rw [Int.mul_add]
   congr 1
   rw [Int.mul_comm q y, Int.mul_assoc x p, Int.mul_assoc x y, ← Int.mul_assoc p y, Int.mul_comm p y, Int.mul_assoc y p]
  rw [e2]
  have e3 : x * y * (p * q) = 10 * (x * y / 10) * (p * q) + x * y % 10 * (p * q) := by rw [← Int.add_mul, ← hd]
  rw [e3]
  have e4 : x * y / 10 * (10 * (p * q)) = 10 * (x * y / 10) * (p * q) := by rw [← Int.mul_assoc, Int.mul_comm (x * y / 10) 10]
  rw [e4]
  omega
theorem DiagR.row {xr yr S : List Int} {i : Nat} {x : Int} (h : DiagR xr yr S i yr.length x) (hx : xr[i]? = some x) (hl : yr.length ≤ 6) (x' : Int) : DiagR xr yr S (i + 1) 0 x' := by
 refine ⟨h.len, fun u hu => by have := h.bd u hu; omega, ?_⟩
 rw [h.val, val_take hx, List.take_length]
 simp only [List.take_zero, Fr.val, Int.mul_zero, Int.add_zero]
 rw [Int.add_mul, Int.mul_comm x]
theorem specLatticeSums_yes (A A' : Option Addr) (la c lb c' : Nat) (xs ys : List Int) (w : World) (hx : Ints w w.heap.size A la xs) (hy : Ints w w.heap.size A' lb ys) (h1 : okN xs = true) (h2 : okN ys = true) :
  Calls Tryz.prog 230 #[.slice A la c, .slice A' lb c'] w fun e w' => ∃ A2 c2 S, e = .returned (.tuple #[.slice A2 (la + lb) c2, .bool true]) ∧ Own w' w.heap.size A2 (la + lb) c2 S ∧ (∀ u ∈ S, 0 ≤ u ∧ u ≤ 9 * (36 : Int)) ∧ Fr.val S = Fr.val xs.reverse * Fr.val ys.reverse ∧ Below w.heap.size w w' := by
 obtain ⟨x1, x6, xd⟩ := (okN_iff xs).1 h1
 obtain ⟨y1, y6, yd⟩ := (okN_iff ys).1 h2
 have hla := hx.len
 have hlb := hy.len
 rw [hla] at x1 x6
 rw [hlb] at y1 y6
 obtain ⟨ba, oa, rfl, hba, hca⟩ := hx.addr (by omega)
 obtain ⟨bb, ob, rfl, hbb, hcb⟩ := hy.addr (by omega)
 have HCA := Hd (And.intro hca hcb)
 have HXD := Hd (And.intro xd (And.intro yd (And.intro hla hlb)))
 have a1 : (1 : Int) ≤ (la : Int) := by omega
 have a6 : (la : Int) ≤ 6 := by omega
 have b1 : (1 : Int) ≤ (lb : Int) := by omega
 have b6 : (lb : Int) ≤ 6 := by omega
 have hsum : IntKind.i64.wrap ((la : Int) + (lb : Int)) = ((la + lb : Nat) : Int) := by rw [IntWalk.i64_in _ (by omega)]; push_cast; rfl
 have hv1 := specNumeralValid_is (w := w) hx h1 (c := c)
 have hv2 := specNumeralValid_is (w := w) hy h2 (c := c')
 have HV := Hd (And.intro hv1 hv2)
 clear hx hy xd yd hla hlb h1 h2 hv1 hv2 hca hcb
 go_enter Tryz.func230, Tryz.ntmps230
 go_wp2_with fail
 refine HV.out.1.mono ?_
 rintro e w' ⟨rfl, rfl⟩
 go_wp2_with fail
 refine HV.out.2.mono ?_
 rintro e w' ⟨rfl, rfl⟩
 go_wp2_with (first
  | (refine wpList_make_ints rfl _ _ rfl (B := w.heap.size) (n := la + lb) rfl rfl (by omega) (Nat.le_refl _) ?_; intro w2 hown hg))
 have hbl := Below.grown (Below.refl w.heap.size w) hg (Nat.le_refl _) (by simp)
 have HO := Hd (And.intro hown hbl)
 clear hown hg hbl
 go_loopw [7] (fun iv wr => ∃ (i : Nat) (S : List Int), i ≤ la ∧ iv = .int .i64 (i : Int) ∧ DiagR xs.reverse ys.reverse S i 0 0 ∧ Own wr w.heap.size (some ⟨w.heap.size, 0, none⟩) (la + lb) (la + lb) S ∧ Below w.heap.size w wr) (fun iv _ => la - (intOf iv).toNat)
 case atStart =>
  refine ⟨0, List.replicate (la + lb) 0, by omega, rfl, ⟨by simp [HXD.out.2.2.1, HXD.out.2.2.2], fun u hu => ?_, ?_⟩, HO.out.1, HO.out.2⟩
  ·have := List.eq_of_mem_replicate hu; omega
  ·have : ∀ n : Nat, Fr.val (List.replicate n 0) = 0 := fun n => by
    induction n with
    | zero => rfl
    | succ n ih => rw [List.replicate_succ, Fr.val, ih]; rfl
   rw [this]
   simp [Fr.val]
 case round =>
  obtain ⟨i, S, hi, rfl, hd, ho, hb⟩ := hrel
  by_cases hlt : i < la
  ·obtain ⟨kx, hkx⟩ : ∃ kx, kx = la - 1 - i := ⟨_, rfl⟩
   obtain ⟨x, hx⟩ : ∃ x, xs[kx]? = some x := ⟨_, List.getElem?_eq_getElem (by rw [HXD.out.2.2.1]; omega)⟩
   have hxr : xs.reverse[i]? = some x := by rw [List.getElem?_reverse (by rw [HXD.out.2.2.1]; exact hlt), HXD.out.2.2.1, ← hkx]; exact hx
   have hxb := HXD.out.1 x (List.mem_of_getElem? hx)
   have hkxI : (la : Int) - 1 - (i : Int) = (kx : Int) := by omega
   have hkxl : (kx : Int) < (la : Int) := by omega
   have hcx := HCA.out.1 kx x hx
   have HXX := Hd hxr
   have i0 : (0 : Int) ≤ (i : Int) := by omega
   have i1 : (i : Int) < (la : Int) := by omega
   have hd0 : DiagR xs.reverse ys.reverse S i 0 x := ⟨hd.len, hd.bd, by rw [hd.val]; simp [Fr.val]⟩
   have HS := Hd (And.intro hd0 (And.intro ho hb))
   clear hd hd0 ho hb hx hxr hkx
   go_wp2_with fail
   obtain ⟨wq, rfl⟩ : ∃ V, V = wr := ⟨_, rfl⟩
   go_loopw [8] (fun jv wr => ∃ (j : Nat) (S : List Int), j ≤ lb ∧ jv = .int .i64 (j : Int) ∧ DiagR xs.reverse ys.reverse S i j x ∧ Own wr w.heap.size (some ⟨w.heap.size, 0, none⟩) (la + lb) (la + lb) S ∧ Below w.heap.size w wr) (fun jv _ => lb - (intOf jv).toNat)
   case atStart => exact ⟨0, S, by omega, rfl, HS.out.1, HS.out.2.1, HS.out.2.2⟩
   case round =>
    obtain ⟨j, S, hj, rfl, hd, ho, hb⟩ := hrel
    by_cases hjt : j < lb
    ·obtain ⟨ky, hky⟩ : ∃ ky, ky = lb - 1 - j := ⟨_, rfl⟩
     obtain ⟨y, hy⟩ : ∃ y, ys[ky]? = some y := ⟨_, List.getElem?_eq_getElem (by rw [HXD.out.2.2.2]; omega)⟩
     have hyr : ys.reverse[j]? = some y := by rw [List.getElem?_reverse (by rw [HXD.out.2.2.2]; exact hjt), HXD.out.2.2.2, ← hky]; exact hy
     have hyb := HXD.out.2.1 y (List.mem_of_getElem? hy)
     have hkyI : (lb : Int) - 1 - (j : Int) = (ky : Int) := by omega
     have hkyl : (ky : Int) < (lb : Int) := by omega
     have cx := (hb.cell (p := ⟨ba, oa + kx, none⟩) hba).trans hcx
     have cy := (hb.cell (p := ⟨bb, ob + ky, none⟩) hbb).trans (HCA.out.2 ky y hy)
     have hxy : 0 ≤ x * y ∧ x * y ≤ 81 := ⟨Int.mul_nonneg hxb.1 hyb.1, by have := Int.mul_le_mul hxb.2 hyb.2 hyb.1 (by omega); omega⟩
     obtain ⟨k, hk⟩ : ∃ k, i + j = k := ⟨_, rfl⟩
     have hkI : (i : Int) + (j : Int) = (k : Int) := by omega
     have hSl : S.length = la + lb := by rw [hd.len, List.length_reverse, List.length_reverse, HXD.out.2.2.1, HXD.out.2.2.2]
     obtain ⟨u, hu⟩ : ∃ u, S[k]? = some u := ⟨_, List.getElem?_eq_getElem (by omega)⟩
     obtain ⟨u', hu'⟩ : ∃ u', (S.set k (u + x * y % 10))[k + 1]? = some u' := ⟨_, List.getElem?_eq_getElem (by simp; omega)⟩
     have hub := hd.bd u (List.mem_of_getElem? hu)
     have hub' : 0 ≤ u' ∧ u' ≤ 9 * ((i * 6 + j : Nat) : Int) := by
      have h2 := hu'
      rw [List.getElem?_set_ne (by omega)] at h2
      exact hd.bd u' (List.mem_of_getElem? h2)
     have j0 : (0 : Int) ≤ (j : Int) := by omega
     have j1 : (j : Int) < (lb : Int) := by omega
     have hkl : k + 1 < la + lb := by omega
     have hklI : (k : Int) + 1 < ((la + lb : Nat) : Int) := by omega
     obtain ⟨ck, ck1, fk, fk1⟩ : wr.cell? ⟨w.heap.size, k, none⟩ = some (.int .i64 u) ∧ wr.cell? ⟨w.heap.size, k + 1, none⟩ = some (.int .i64 u') ∧ wr.frozen? ⟨w.heap.size, k, none⟩ = false ∧ wr.frozen? ⟨w.heap.size, k + 1, none⟩ = false := by
      obtain ⟨g, e, _, _, hc, hf⟩ := ho.at_ (by omega)
      obtain rfl : w.heap.size = g := by simpa using e
      have h2 := hu'
      rw [List.getElem?_set_ne (by omega)] at h2
      exact ⟨hc k u hu, hc (k + 1) u' h2, hf k, hf (k + 1)⟩
     have hod := ho
     obtain ⟨hs1, _⟩ := hod.store k (u + x * y % 10)
     obtain ⟨hs2, _⟩ := hs1.store (k + 1) (u' + x * y / 10)
     have hbf := (hb.setCell (p := ⟨w.heap.size, k, none⟩) (Nat.le_refl _) (.int .i64 (u + x * y % 10))).setCell (p := ⟨w.heap.size, k + 1, none⟩) (Nat.le_refl _) (.int .i64 (u' + x * y / 10))
     have hdn := hd.step hyr hxb.1 hxb.2 hyb.1 hyb.2 (by rw [hk]; exact hu) (by rw [hk]; exact hu')
     rw [hk] at hdn
     have HRC := Hd (fun w => specRodCell_yes hxb.1 hxb.2 hyb.1 hyb.2 w)
     have r0 : 0 ≤ x * y % 10 ∧ x * y % 10 ≤ 9 := by omega
     have q0 : 0 ≤ x * y / 10 ∧ x * y / 10 ≤ 9 := by omega
     generalize x * y % 10 = r at *
     generalize x * y / 10 = q at *
     obtain ⟨r0, r9⟩ := r0
     obtain ⟨q0, q9⟩ := q0
     have v3 : IntKind.i64.wrap (u + r) = u + r := IntWalk.i64_in _ (by omega)
     have v4 : IntKind.i64.wrap (u' + q) = u' + q := IntWalk.i64_in _ (by omega)
     have z1 : (0 : Int) ≤ (kx : Int) := by omega
     have z2 : (0 : Int) ≤ (ky : Int) := by omega
     have z3 : IntKind.i64.wrap ((la : Int) - 1) = (la : Int) - 1 := IntWalk.i64_in _ (by omega)
     have z4 : IntKind.i64.wrap (kx : Int) = (kx : Int) := IntWalk.i64_in _ (by omega)
     have z7 : IntKind.i64.wrap (k : Int) = (k : Int) := IntWalk.i64_in _ (by omega)
     have z8 : IntKind.i64.wrap ((k : Int) + 1) = (k : Int) + 1 := IntWalk.i64_in _ (by omega)
     have z5 : IntKind.i64.wrap ((lb : Int) - 1) = (lb : Int) - 1 := IntWalk.i64_in _ (by omega)
     have z6 : IntKind.i64.wrap (ky : Int) = (ky : Int) := IntWalk.i64_in _ (by omega)
     have HFIN := Hd (And.intro hdn (And.intro hs2 hbf))
     clear hd ho hb hy hyr hu hu' hSl hk hs1 hs2 hbf hdn hod hxy hky
     go_wp2_with fail
     go_region_with (go_at_call 235; refine (HRC.out _).mono ?_; rintro e w5 ⟨rfl, rfl⟩)
     all_goals go_wp2_with fail
     all_goals exact ⟨⟨j + 1, _, by omega, by go_num, HFIN.out.1, HFIN.out.2.1.drew, HFIN.out.2.2.drew⟩, by simp [intOf]; omega⟩
    ·obtain rfl : j = lb := by omega
     have HS2 := Hd (And.intro hd (And.intro ho hb))
     clear hd ho hb
     go_wp2_with fail
     refine ⟨⟨i + 1, S, by omega, by go_num, ?_, HS2.out.2.1, HS2.out.2.2⟩, by simp [intOf]; omega⟩
     have h1 := HS2.out.1
     rw [← HXD.out.2.2.2, ← List.length_reverse] at h1
     exact h1.row HXX.out (by rw [List.length_reverse, HXD.out.2.2.2]; exact y6) 0
  ·obtain rfl : i = la := by omega
   have hval := hd.val
   rw [List.take_of_length_le (by rw [List.length_reverse, HXD.out.2.2.1]; exact Nat.le_refl _)] at hval
   have hval2 : Fr.val S = Fr.val xs.reverse * Fr.val ys.reverse := by rw [hval]; simp [Fr.val]
   have hbd : ∀ u ∈ S, 0 ≤ u ∧ u ≤ 9 * (36 : Int) := fun u hu => by have := hd.bd u hu; omega
   have HR := Hd (And.intro hbd (And.intro hval2 (And.intro ho hb)))
   clear hd ho hb hval hval2 hbd
   go_wp2_with fail
   go_ret2
   exact ⟨_, _, S, rfl, HR.out.2.2.1, HR.out.1, HR.out.2.1, HR.out.2.2.2⟩
theorem specNumeralOf_no (v : Int) (h : v < 0 ∨ 999999 < v) (w : World) : Calls Tryz.prog 179 #[.int .i64 v] w fun e w' => ∃ A n c, e = .returned (.tuple #[.slice A n c, .bool false]) ∧ Own w' w.heap.size A 0 c [] ∧ n = 0 ∧ Below w.heap.size w w' := by
 go_enter Tryz.func179, Tryz.ntmps179
 go_wp2_with fail
 refine (l6In_no h _).mono ?_
 rintro e w' ⟨rfl, rfl⟩
 have H0 := Hd (lit_nil w)
 go_wp2_with fail
 go_ret2
 exact ⟨_, _, _, rfl, H0.out, rfl, (Below.refl _ _).alloc (Nat.le_refl _) _⟩
theorem NumeralOf_no (v : Int) (h : v < 0 ∨ 1000000 ≤ v) (w : World) : Calls Tryz.prog 199 #[.int .i64 v] w fun e w' => e = .returned (.tuple #[.slice none 0 0, .bool false]) ∧ w = w' := by
 rcases h with h | h
 ·go_enter Tryz.func199, Tryz.ntmps199
  go_wp2_with fail
  go_ret2
  exact ⟨rfl, rfl⟩
 ·have h0 : ¬ v < 0 := by omega
  go_enter Tryz.func199, Tryz.ntmps199
  go_wp2_with fail
  go_ret2
  exact ⟨rfl, rfl⟩
theorem l3Value_any (A : Option Addr) (B n c : Nat) (xs : List Int) (w : World) (hx : Ints w B A n xs) (hd : Fr.Digs xs) (hn : n ≤ 12) : Calls Tryz.prog 214 #[.slice A n c] w fun e w' => e = .returned (.int .i64 (Fr.val xs.reverse)) ∧ w = w' := by
 have hl := hx.len
 have HX := Hd hx
 have HD := Hd hd
 have hnI : (n : Int) ≤ 12 := by omega
 clear hx hd
 go_enter Tryz.func214, Tryz.ntmps214
 go_wp2_with fail
 go_loopw [3, 4] (fun nv iv wr => ∃ (k : Nat) (s : Int), wr = w ∧ k ≤ n ∧ iv = .int .i64 (k : Int) ∧ nv = .int .i64 s ∧ 0 ≤ s ∧ s < Fr.ten k ∧ s = Fr.val (xs.take k).reverse) (fun _ iv _ => n - (intOf iv).toNat)
 case atStart => exact ⟨0, 0, rfl, by omega, rfl, rfl, by omega, by decide, by simp [Fr.val]⟩
 case round =>
  obtain ⟨k, s, hwr, hk, rfl, rfl, s0, s1, hs⟩ := hrel
  subst hwr
  by_cases hlt : k < n
  ·obtain ⟨b, off, u, rfl, hlb, hu, hcell⟩ := HX.out.at_ hlt
   have hub := HD.out u (List.mem_of_getElem? hu)
   have h11 : Fr.ten k ≤ 100000000000 := by
    have := ten_mono (show k ≤ 11 by omega)
    exact this
   have hnext : 10 * s + u = Fr.val (xs.take (k + 1)).reverse := by
    rw [take_next hu, List.reverse_append, List.reverse_singleton, List.singleton_append, Fr.val, ← hs]
    omega
   have hb2 : 10 * s + u < Fr.ten (k + 1) := by rw [ten_succ']; omega
   have u0 := hub.1
   have u9 := hub.2
   have s11 : s ≤ 100000000000 := by omega
   have HN := Hd (And.intro hnext hb2)
   clear hu hub hnext hb2 hs s1
   go_wp2_with fail
   go_roundw
   case rel => exact ⟨k + 1, _, trivial, by omega, by go_num, rfl, by omega, HN.out.2, HN.out.1⟩
   case measure => simp [intOf]; omega
  ·obtain rfl : k = n := by omega
   have hf : s = Fr.val xs.reverse := by rw [hs, List.take_of_length_le (by omega)]
   have HF := Hd hf
   clear hf hs
   go_wp2_with fail
   go_ret
   exact ⟨ret_int HF.out, rfl⟩
def uStepT (o : List UInt8) (x : Int) : List UInt8 := (if o = [] then [] else o ++ [32, 43, 32]) ++ [49, 47] ++ Lib.itoa x
def uPre (l : List Int) : List UInt8 := l.foldl uStepT []
def uText (l : List Int) : List UInt8 := if l = [] then [48] else uPre l
theorem uPre_snoc (l : List Int) (x : Int) : uPre (l ++ [x]) = uStepT (uPre l) x := by simp [uPre]
theorem uPre_nil {l : List Int} (h : uPre l = []) : l = [] := by
 rcases List.eq_nil_or_concat l with rfl | ⟨l', x, rfl⟩
 ·rfl
 ·rw [List.concat_eq_append, uPre_snoc] at h
  simp [uStepT] at h
theorem uPre_take {l : List Int} {k : Nat} {u : Int} (h : l[k]? = some u) : uPre (l.take (k + 1)) = (if k = 0 then [] else uPre (l.take k) ++ [32, 43, 32]) ++ [49, 47] ++ Lib.itoa u := by
 rw [take_next h, uPre_snoc, uStepT]
 congr 2
 by_cases h0 : k = 0
 ·subst h0
  simp [uPre]
 ·rw [if_neg h0, if_neg]
  intro e
  have := uPre_nil e
  have hk := (List.getElem?_eq_some_iff.1 h).1
  have h1 : (l.take k).length = k := by rw [List.length_take]; omega
  rw [this] at h1
  simp at h1
  omega
theorem uFold_len : ∀ (l : List Int) (o : List UInt8), (∀ x ∈ l, (Lib.itoa x).length ≤ 20) → (l.foldl uStepT o).length ≤ o.length + 30 * l.length
 | [], o, _ => by simp
 | x :: l, o, h => by
  have h2 := h x List.mem_cons_self
  have h1 := uFold_len l (uStepT o x) fun y hy => h y (List.mem_cons_of_mem _ hy)
  have h3 : (uStepT o x).length ≤ o.length + 25 := by
   rw [uStepT]
   split <;> simp <;> omega
  simp only [List.foldl_cons, List.length_cons]
  omega
theorem uPre_len (l : List Int) (h : ∀ x ∈ l, (Lib.itoa x).length ≤ 20) : (uPre l).length ≤ 30 * l.length := by
 have := uFold_len l [] h
 simpa [uPre] using this
theorem val_nn : ∀ l : List Int, (∀ d ∈ l, 0 ≤ d) → 0 ≤ Fr.val l
 | [], _ => by simp [Fr.val]
 | x :: l, h => by
  have := val_nn l fun d hd => h d (List.mem_cons_of_mem _ hd)
  have := h x List.mem_cons_self
  simp only [Fr.val]
  omega
theorem ten_pos' (n : Nat) : 0 < Fr.ten n := by unfold Fr.ten; exact Int.pow_pos (by omega)
theorem specLatticeDigits_yes (A A' : Option Addr) (la c lb c' : Nat) (xs ys : List Int) (w : World) (hx : Ints w w.heap.size A la xs) (hy : Ints w w.heap.size A' lb ys) (h1 : okN xs = true) (h2 : okN ys = true) :
  Calls Tryz.prog 213 #[.slice A la c, .slice A' lb c'] w fun e w' => ∃ A2 n2 c2 L, e = .returned (.tuple #[.slice A2 n2 c2, .bool true]) ∧ Own w' w.heap.size A2 n2 c2 L ∧ n2 ≤ 12 ∧ Fr.Digs L ∧ Fr.val L.reverse = Fr.val xs.reverse * Fr.val ys.reverse ∧ Below w.heap.size w w' := by
 obtain ⟨x1, x6, xd⟩ := (okN_iff xs).1 h1
 obtain ⟨y1, y6, yd⟩ := (okN_iff ys).1 h2
 have hla := hx.len
 have hlb := hy.len
 have b1 := val_lt h1
 have b2 := val_lt h2
 have hp := prod_lt b1.1 b1.2 b2.1 b2.2
 have hpe : Fr.ten xs.length * Fr.ten ys.length = Fr.ten (la + lb) := by rw [hla, hlb]; unfold Fr.ten; rw [Int.pow_add]
 rw [hpe] at hp
 obtain ⟨n, hn⟩ : ∃ n, la + lb = n := ⟨_, rfl⟩
 have hn12 : (n : Int) ≤ 12 := by omega
 have HC := Hd (specLatticeSums_yes A A' la c lb c' xs ys w hx hy h1 h2)
 rw [hn] at HC hp
 have HP := Hd hp
 clear hx hy h1 h2 xd yd b1 b2 hp hpe hla hlb x1 x6 y1 y6
 go_enter Tryz.func213, Tryz.ntmps213
 go_wp2_with fail
 refine HC.out.mono ?_
 rintro e w1 ⟨A2, c2, S, rfl, ho, hbd, hval, hb⟩
 have HS := Hd (And.intro ho.ints (And.intro hbd hval))
 have HB := Hd hb
 have H0 := Hd (lit_nil w1)
 have hsz0 := hb.size
 clear ho hbd hval hb HC
 go_wp2_with fail
 go_loopw [8, 9, 10] (fun ov cv iv wr => ∃ (i cp : Nat) (r : Int) (Ao : Option Addr) (L : List Int), i ≤ n ∧ iv = .int .i64 (i : Int) ∧ cv = .int .i64 r ∧ ov = .slice Ao i cp ∧ 0 ≤ r ∧ r ≤ 1000 ∧ Own wr w1.heap.size Ao i cp L ∧ Fr.Digs L ∧ Fr.val L.reverse + Fr.ten i * r = Fr.val (S.take i) ∧ Below w1.heap.size w1 wr) (fun _ _ iv _ => n - (intOf iv).toNat)
 case atStart => exact ⟨0, 0, 0, _, [], by omega, rfl, rfl, rfl, by omega, by omega, H0.out, (fun d h => (by cases h)), by simp [Fr.val], (Below.refl _ _).alloc (Nat.le_refl _) _⟩
 case round =>
  clear H0
  obtain ⟨i, cp, r, Ao, L, hi, rfl, rfl, rfl, r0, r1, ho, hd, hv, hb⟩ := hrel
  have hs := HS.out.1.next hb
  have HO := Hd ho
  have HB1 := Hd hb
  have hsz := hb.size
  have hll := ho.len
  by_cases hlt : i < n
  ·obtain ⟨bs0, off, u, rfl, hlb, hu, hcell⟩ := hs.at_ hlt
   have hub := HS.out.2.1 u (List.mem_of_getElem? hu)
   obtain ⟨cc, hcc⟩ : ∃ cc, r + u = cc := ⟨_, rfl⟩
   have c0 : 0 ≤ cc := by omega
   have c9 : cc ≤ 2000 := by omega
   have hval2 : Fr.val (cc % 10 :: L).reverse + Fr.ten (i + 1) * (cc / 10) = Fr.val (S.take (i + 1)) := by
    rw [List.reverse_cons, val_snoc, List.length_reverse, hll, val_take hu, ← hv, ten_succ']
    obtain ⟨T, hT⟩ : ∃ T, Fr.ten i = T := ⟨_, rfl⟩
    rw [hT]
    have e : cc = 10 * (cc / 10) + cc % 10 := by omega
    have e1 : T * cc = T * r + T * u := by rw [← hcc, Int.mul_add]
    have e2 : T * cc = 10 * T * (cc / 10) + T * (cc % 10) := by
     conv => lhs; rw [e]
     rw [Int.mul_add, ← Int.mul_assoc, Int.mul_comm T 10]
    omega
   have hd2 : Fr.Digs (cc % 10 :: L) := fun x hx => by
    rcases List.mem_cons.1 hx with rfl | hx
    ·omega
    ·exact hd x hx
   have HN := Hd (And.intro hval2 hd2)
   have v1 : IntKind.i64.wrap cc = cc := IntWalk.i64_in _ (by omega)
   have HLIT : Hid (Own (wr.alloc (.cells #[.int .i64 (cc % 10)] 3)) w1.heap.size (some ⟨wr.heap.size, 0, none⟩) 1 1 [cc % 10]) := Hd (own_lit wr [cc % 10] w1.heap.size 1 rfl (by omega) hsz)
   have hltI : (i : Int) < (n : Int) := by omega
   clear hu hub hval2 hd2 hv hd ho hb hs hll r0 r1
   go_wp2_with (at_builtin; refine wpList_app_ints rfl _ _ rfl rfl HLIT.out rfl (HO.out.ints.alloc (Nat.le_refl _) _) (by omega) (by simp; omega) ?_; intro A1 c1 w4 hown1 hg1)
   have HB2 := Hd (below_step (HB1.out.alloc hsz _) hg1 HLIT.out (by simp; omega))
   rw [Nat.add_comm 1 i] at hown1 ⊢
   refine ⟨⟨i + 1, c1, cc / 10, A1, cc % 10 :: L, by omega, by go_num, rfl, rfl, by omega, by omega, hown1, HN.out.2, HN.out.1, HB2.out⟩, ?_⟩
   simp [intOf]
   omega
  ·obtain rfl : i = n := by omega
   have hSl := hs.len
   rw [List.take_of_length_le (by omega), HS.out.2.2] at hv
   have hnn := val_nn L.reverse fun d hd' => (hd d (List.mem_reverse.1 hd')).1
   have hr0 : r = 0 := by
    rcases Int.lt_or_le 0 r with h | h
    ·exfalso
     have h1 := Int.mul_le_mul_of_nonneg_left (show (1 : Int) ≤ r by omega) (Int.le_of_lt (ten_pos' i))
     have := HP.out
     omega
    ·omega
   have hfin : Fr.val L.reverse = Fr.val xs.reverse * Fr.val ys.reverse := by rw [← hv, hr0]; simp
   have HF := Hd (And.intro hd hfin)
   have hi12 : i ≤ 12 := by omega
   clear hv hd ho hb hs hll hSl hnn hr0 hfin
   go_wp2_with fail
   go_ret2
   exact ⟨_, _, _, L, rfl, HO.out.mono hsz0, hi12, HF.out.1, HF.out.2, HB.out.trans (HB1.out.mono hsz0)⟩
theorem specLatticeTimes_yes (A A' : Option Addr) (la c lb c' : Nat) (xs ys : List Int) (w : World) (hx : Ints w w.heap.size A la xs) (hy : Ints w w.heap.size A' lb ys) (h1 : okN xs = true) (h2 : okN ys = true) :
  Calls Tryz.prog 180 #[.slice A la c, .slice A' lb c'] w fun e w' => e = .returned (.int .i64 (Fr.val xs.reverse * Fr.val ys.reverse)) ∧ Below w.heap.size w w' := by
 have HC := Hd (specLatticeDigits_yes A A' la c lb c' xs ys w hx hy h1 h2)
 clear hx hy h1 h2
 go_enter Tryz.func180, Tryz.ntmps180
 go_wp2_with fail
 refine HC.out.mono ?_
 rintro e w1 ⟨A2, n2, c2, L, rfl, ho, hn, hd, hv, hb⟩
 have HS := Hd (And.intro ho.ints (And.intro hd hv))
 have HB := Hd hb
 clear ho hd hv hb HC
 go_wp2_with fail
 refine (l3Value_any _ _ _ _ _ _ HS.out.1 HS.out.2.1 hn).mono ?_
 rintro e w2 ⟨rfl, rfl⟩
 rw [HS.out.2.2]
 go_wp2_with fail
 go_ret
 exact ⟨rfl, HB.out⟩
theorem specLatticeTimes_no (A A' : Option Addr) (la c lb c' : Nat) (xs ys : List Int) (w : World) (hx : Ints w w.heap.size A la xs) (hy : Ints w w.heap.size A' lb ys) (h : (okN xs && okN ys) = false) :
  Calls Tryz.prog 180 #[.slice A la c, .slice A' lb c'] w fun e w' => e = .returned (.int .i64 (-1)) ∧ Below w.heap.size w w' := by
 have HS := Hd (show Calls Tryz.prog 230 #[.slice A la c, .slice A' lb c'] w fun e w' => ∃ A2 n2 c2, e = .returned (.tuple #[.slice A2 n2 c2, .bool false]) ∧ Below w.heap.size w w' from by
  by_cases h1 : okN xs = true
  ·have h2 : okN ys = false := by rw [h1] at h; simpa using h
   have hv1 := specNumeralValid_is (w := w) hx h1 (c := c)
   have hv2 := specNumeralValid_is (w := w) hy h2 (c := c')
   have HV := Hd (And.intro hv1 hv2)
   clear hx hy h h1 h2 hv1 hv2
   go_enter Tryz.func230, Tryz.ntmps230
   go_wp2_with fail
   refine HV.out.1.mono ?_
   rintro e w' ⟨rfl, rfl⟩
   go_wp2_with fail
   refine HV.out.2.mono ?_
   rintro e w' ⟨rfl, rfl⟩
   go_wp2_with fail
   go_ret2
   exact ⟨_, _, _, rfl, (Below.refl _ _).alloc (Nat.le_refl _) _⟩
  ·have h1 : okN xs = false := by simpa using h1
   have hv1 := specNumeralValid_is (w := w) hx h1 (c := c)
   have HV := Hd hv1
   clear hx hy h h1 hv1
   go_enter Tryz.func230, Tryz.ntmps230
   go_wp2_with fail
   refine HV.out.mono ?_
   rintro e w' ⟨rfl, rfl⟩
   go_wp2_with fail
   go_ret2
   exact ⟨_, _, _, rfl, (Below.refl _ _).alloc (Nat.le_refl _) _⟩)
 clear hx hy h
 have HD := Hd (show Calls Tryz.prog 213 #[.slice A la c, .slice A' lb c'] w fun e w' => ∃ A2 n2 c2, e = .returned (.tuple #[.slice A2 n2 c2, .bool false]) ∧ Below w.heap.size w w' from by
  go_enter Tryz.func213, Tryz.ntmps213
  go_wp2_with fail
  refine HS.out.mono ?_
  rintro e w1 ⟨A2, n2, c2, rfl, hb⟩
  have HB := Hd hb
  clear hb
  go_wp2_with fail
  go_ret2
  exact ⟨_, _, _, rfl, HB.out.alloc HB.out.size _⟩)
 clear HS
 go_enter Tryz.func180, Tryz.ntmps180
 go_wp2_with fail
 refine HD.out.mono ?_
 rintro e w1 ⟨A2, n2, c2, rfl, hb⟩
 have HB := Hd hb
 clear hb
 go_wp2_with fail
 go_ret
 exact ⟨rfl, HB.out⟩
end Go.Proofs.YthdoofmfigemoaaGreatDoor
