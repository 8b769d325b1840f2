/-
  Joined texts: ExBoard, BdSpec, BdDraw, Draw2, BdDraw2, BdSpec2, BdSpec3, BdLawKit, ExLay, BdLawKit3, ExecuteLayWalk.
-/
import Derived.Test.YthdoofmfigemoaaGreatDoorBase4
import Derived.Lib.Join
import Derived.StillTailTactics
import Derived.BigRegion
import Derived.Deep.RegionWith
import Derived.Deep.RegionLaw

section
/-
  The text of a board, and the command that tells it.
-/
namespace Go.Proofs.YthdoofmfigemoaaGreatDoor
open Go.RowKit
set_option linter.unusedSimpArgs false
set_option maxRecDepth 100000

theorem str_info : (Tryz.prog.info? 9).map (fun i => (i.zero, i.size, i.bytes)) = some (some (.string ⟨#[]⟩), 1, 16) := by kernel_rfl
def SV (l : List ByteArray) : List Value := l.map Value.string
theorem SV_one (l : List ByteArray) : ∀ u ∈ SV l, u.oneCell' = true := by
  intro u hu
  obtain ⟨x, _, rfl⟩ := List.mem_map.1 hu
  rfl
/-- append(words, s): the new word lies in a block of its own -/
theorem wpList_app_s {ops : Array Oper} {rest : List Oper} {o : Oper} {a : Act} {w : World} {Q : Exit → Act → World → Prop} (hgd : o.guard = none) (s x : Operand)
    (ho : o.op = .call { callee := .builtin .append, args := #[s, x], argTypes := #[66, 66] })
    {B : Nat} {A : Option Addr} {n c : Nat} {ts : List ByteArray} (hs : a.eval s = .slice A n c) (hown : OwnR w B 9 1 A n c (SV ts)) (t : ByteArray) (c0 : Nat)
    (hx : a.eval x = .slice (some ⟨w.heap.size, 0, none⟩) 1 c0) (cs : Array Value) (hcs : cs = #[.string t]) (hn : n + 1 ≤ 1000000) (hB : B ≤ w.heap.size)
    (h : ∀ A' c' w', OwnR w' B 9 1 A' (n + 1) c' (SV (ts ++ [t])) → w.grownBy w' (Value.slice A n c).ownBlock → wpList Tryz.prog ops Q rest (a.put o.dst (.slice A' (n + 1) c')) w') :
    wpList Tryz.prog ops Q (o :: rest) a (w.alloc (.cells cs 9)) := by
  obtain ⟨i0, hi, hz0, hz1, hz2⟩ := info_parts str_info
  subst hcs
  refine wpList_append_own _ hgd s x 66 ho B 9 i0 _ 1 16 Tryz.underlying66 hi hz0 hz1 hz2 rfl (by decide) _ n (SV ts) hs (hown.1.alloc _)
    ⟨w.heap.size, 0, none⟩ 1 c0 (SV [t]) hx (by simp [SV]) ?_ (SV_one _) (by unfold maxLen; omega) (by omega) (by simp; omega) ?_
  · intro j u hj
    rw [add_row, cell_of_row _ w.heap.size j _ _ _ (heap_alloc_new w _)]
    simpa [SV] using hj
  · intro v' w' hown' hg _
    have e : SV ts ++ SV [t] = SV (ts ++ [t]) := by simp [SV]
    rw [e] at hown'
    obtain ⟨A', c', rfl, h'⟩ := shape_own hown' (by omega)
    exact h A' c' w' h' ⟨hg.os, hg.tape, hg.output, by have := hg.size; simp at this; omega, fun k hk hne => (hg.block k (by simp; omega) hne).trans (Below.heap_alloc w _ k hk)⟩
/-- make([]string, 0, n) -/
theorem wpList_make_s {ops : Array Oper} {rest : List Oper} {o : Oper} {a : Act} {w : World} {Q : Exit → Act → World → Prop} (hgd : o.guard = none) (l c : Operand)
    (ho : o.op = .makeSlice 66 l c) {B n : Nat} (C : Int) (hl : a.eval l = .int .i64 0) (hc : a.eval c = .int .i64 C) (hC : C = (n : Int)) (hn : n ≤ 1000000) (hB : B ≤ w.heap.size)
    (h : ∀ w', OwnR w' B 9 1 (some ⟨w.heap.size, 0, none⟩) 0 n (SV []) → w.grownBy w' none → wpList Tryz.prog ops Q rest (a.put o.dst (.slice (some ⟨w.heap.size, 0, none⟩) 0 n)) w') :
    wpList Tryz.prog ops Q (o :: rest) a w := by
  obtain ⟨i0, hi, hz0, hz1, hz2⟩ := info_parts str_info
  refine wpList_make_own w hgd l c 66 ho B 9 i0 _ 1 Tryz.underlying66 hi hz0 hz1 .i64 .i64 C n hl hc hC (by rw [hz2]; omega) (by unfold maxLen; omega) hB ?_
  intro w' hown hg
  exact h w' ⟨hown, by omega⟩ hg
theorem blk_ty {w : World} {k : Nat} {cs cur : Array Value} {T e : TypeId} {z : Nat × Nat} (h : Blk w k cs T) (h1 : w.heap[k]? = some (.cells cur e z)) : e = T := by
  have h2 : some (Obj.cells cur e z) = some (Obj.cells cs T (0, 0)) := h1.symm.trans h
  exact (Obj.cells.inj (Option.some.inj h2)).2.1
/-- the counters as words, from the last place on -/
def bdWords (xs : List Int) : List ByteArray := xs.reverse.map dec
def bdText (xs : List Int) : List UInt8 := Lib.join ((bdWords xs).map (·.data.toList)) [124]
theorem bdWords_step {xs : List Int} {i : Nat} {u : Int} (h : xs[i]? = some u) : bdWords (xs.drop i) = bdWords (xs.drop (i + 1)) ++ [dec u] := by
  obtain ⟨h1, h2⟩ := List.getElem?_eq_some_iff.1 h
  rw [List.drop_eq_getElem_cons h1, h2]
  simp [bdWords]
set_option maxHeartbeats 4000000 in
theorem BoardText_yes (A : Option Addr) (n c : Nat) (xs : List Int) (w : World) (hx : Ints w w.heap.size A n xs) (hok : Bd.okB xs = true) (hp : Pow w.heap.size w) (hlen : (bdText xs).length ≤ 1000000) :
    Calls Tryz.prog 28 #[.slice A n c] w fun e w' => e = .returned (.string (bs (bdText xs))) ∧ Below w.heap.size w w' := by
  have hl := (Bd.okB_iff xs).1 hok
  have HX := Lib.hid hx
  have HOK := Lib.hid hok
  have HL := Lib.hid hl
  have HP := Lib.hid hp
  have HN := Lib.hid hlen
  clear hx hok hl hp hlen
  go_enter Tryz.func28, Tryz.ntmps28
  go_wp2_with (first
    | (go_at_call 68; refine (layOut_yes HX.out HOK.out).mono ?_; rintro e w1 ⟨rfl, hb1⟩)
    | (refine wpList_store_ten rfl rfl _ _ rfl w1.heap.size rfl 93 (AV z10) xs rfl (heap_alloc_new w1 _) rfl HL.out.1 _ (setRow_alloc w1 _ _ _) ?_)
    | (refine wpList_make_s rfl _ _ rfl (B := w.heap.size) (n := 10) _ rfl rfl rfl (by omega) (by have := hb1.size; simp; omega) ?_; intro w2 hown hg))
  have hbk : Blk w2 w1.heap.size (AV xs) 93 := Blk.grown (Blk.new w1 _ _) hg (by simp)
  have hbl : Below w.heap.size w w2 := (hb1.alloc hb1.size (.cells (AV xs) 93)).grown hg (by have := hb1.size; simp; omega) (by simp)
  have hlt1 : w.heap.size ≤ w1.heap.size := hb1.size
  simp only [World.size_alloc] at hown
  have HO := Lib.hid hown
  have HBK := Lib.hid hbk
  have HBL := Lib.hid hbl
  clear hown hbk hbl hg hb1
  go_loopw [5, 6] (fun sv pv wr => ∃ (j m cc : Nat) (S : Option Addr), j ≤ 10 ∧ m = 10 - j ∧ pv = .int .i64 ((j : Int) - 1) ∧ sv = .slice S m cc ∧ OwnR wr w.heap.size 9 1 S m cc (SV (bdWords (xs.drop j))) ∧ Blk wr w1.heap.size (AV xs) 93 ∧ Below w.heap.size w wr) (fun _ pv _ => ((intOf pv) + 1).toNat)
  case atStart =>
    refine ⟨10, 0, 10, _, by omega, by omega, rfl, rfl, ?_, HBK.out, HBL.out⟩
    rw [List.drop_eq_nil_of_le (by have := HL.out.1; omega)]
    exact HO.out
  case round =>
    obtain ⟨j, m, cc, S, hj, hm, rfl, rfl, ho, hb, hbel⟩ := hrel
    rcases j with _ | i
    · obtain rfl : m = 10 := by omega
      clear hm
      have hpv : ((0 : Nat) : Int) - 1 = -1 := by omega
      rw [hpv]
      have hwords : (bdWords xs).length = 10 := by simp [bdWords, HL.out.1]
      rw [List.drop_zero] at ho
      obtain ⟨bk, off, rfl, hbk, hcells⟩ := ho.row.2.2 (by omega)
      have HB := Lib.hid (And.intro hbel hcells)
      have hcap := ho.cap
      clear hbel hcells ho hb
      go_wp2_with fail
      have hj := Tryz.strings_Join bk off cc (bdWords xs) ⟨#[124]⟩ wr (fun j x h => HB.out.2 j _ (by simp [SV, h])) hbk (by omega) (by omega) (by have := HN.out; have e : (Lib.join ((bdWords xs).map (·.data.toList)) (⟨#[124]⟩ : ByteArray).data.toList).length ≤ 1000000 := this; omega)
      rw [hwords] at hj
      refine hj.mono ?_
      rintro e w4 ⟨rfl, hb4⟩
      have HB4 := Lib.hid (below_chain HB.out.1 hb4)
      clear hb4 hj
      go_wp2_with fail
      go_ret
      exact ⟨rfl, HB4.out⟩
    · obtain ⟨u, hu⟩ : ∃ u, xs[i]? = some u := ⟨_, List.getElem?_eq_getElem (by have := HL.out.1; omega)⟩
      have hpv : ((i + 1 : Nat) : Int) - 1 = (i : Int) := by omega
      rw [hpv]
      have hub := HL.out.2 u (List.mem_of_getElem? hu)
      have c1 := hb.cell (j := i) (AV_get hu)
      have hi9 : (i : Int) < 10 := by omega
      have hi0 : (0 : Int) ≤ (i : Int) := by omega
      have HU := Lib.hid hu
      have HMM := Lib.hid hm
      clear hm
      have HX2 := Lib.hid (And.intro ho (And.intro hb hbel))
      clear ho hb hbel hu
      go_wp2_with fail
      refine (Itoa_any (HP.out.below HX2.out.2.2) u (by omega) (by omega)).mono ?_
      rintro e w3 ⟨rfl, hb3⟩
      have ho3 := HX2.out.1.next hb3
      have hk3 := HX2.out.2.1.next hb3
      have hbl3 := HX2.out.2.2.trans (hb3.mono HX2.out.2.2.size)
      have hs3 := hbl3.size
      clear hb3
      go_wp2_with (at_builtin; refine wpList_app_s rfl _ _ rfl rfl ho3 (dec u) 1 rfl _ rfl (by have := HMM.out; omega) hs3 ?_; intro S4 c4 w4 ho4 hg4)
      refine ⟨⟨i, m + 1, c4, S4, by omega, by have := HMM.out; omega, by go_num, rfl, ?_, hk3.grown hg4 (by intro e; obtain ⟨cur, z, h1⟩ := ho3.ty e.symm; exact absurd (blk_ty hk3 h1) (by decide)), hbl3.grown hg4 hs3 (fun q hq => (ho3.blk q hq).1)⟩, by simp [intOf]⟩
      rw [bdWords_step HU.out]
      exact ho4
theorem joinTail_len : ∀ r : List (List UInt8), (∀ y ∈ r, y.length ≤ 20) → (Lib.joinTail [124] r).length ≤ 21 * r.length
  | [], _ => by simp [Lib.joinTail]
  | y :: r, h => by
    have h1 := h y List.mem_cons_self
    have h2 := joinTail_len r (fun z hz => h z (List.mem_cons_of_mem _ hz))
    simp [Lib.joinTail] at h2 ⊢
    omega
theorem bdText_len {xs : List Int} (hl : xs.length = 10) (hx : ∀ x ∈ xs, 0 ≤ x ∧ x ≤ 20) : (bdText xs).length ≤ 300 := by
  have hw : ∀ y ∈ (bdWords xs).map (·.data.toList), y.length ≤ 20 := by
    intro y hy
    obtain ⟨b, hb, rfl⟩ := List.mem_map.1 hy
    obtain ⟨x, hx', rfl⟩ := List.mem_map.1 hb
    obtain ⟨x0, x1⟩ := hx x (by simpa using hx')
    have := dec_size x (by omega) (by omega)
    simpa using this
  have hlen : ((bdWords xs).map (·.data.toList)).length = 10 := by simp [bdWords, hl]
  unfold bdText
  cases hc : (bdWords xs).map (·.data.toList) with
  | nil => rw [hc] at hlen; cases hlen
  | cons y r =>
    rw [hc] at hlen hw
    rw [Lib.join_cons]
    have h1 := hw y List.mem_cons_self
    have h2 := joinTail_len r (fun z hz => hw z (List.mem_cons_of_mem _ hz))
    simp at hlen ⊢
    omega
theorem boardText_cmd (B0 tb : Nat) (bds ds : List Int) (ts : List Tl) (v : Value) (w : World) (h : Tab B0 w tb bds ds ts) (hw : B0 ≤ w.heap.size) (hp : Pow B0 w) (hok : Bd.okB bds = true) :
    Calls Tryz.prog 159 #[.pointer (some ⟨tb, 0, none⟩), v] w (CmdPost B0 (Tell B0 tb bds ds ts (bs (bdText bds))) w) := by
  obtain ⟨hB0, Ab, nb, cb, A, c, A', c', At, nt, ct, g0, g1, g2, g3, g4⟩ := id h
  have hl := (Bd.okB_iff bds).1 hok
  have hlen := bdText_len hl.1 hl.2
  have hsz : (bs (bdText bds)).size = (bdText bds).length := by show (bdText bds).toArray.size = _; simp
  have hlong := no_long (n := (bs (bdText bds)).size) (by omega) 1 (by omega)
  have HT := Lib.hid h
  have c0 := g0.cell (j := 0) (v := .slice Ab nb cb) rfl
  have HI := Lib.hid g1.ints
  have HP := Lib.hid (show Pow w.heap.size w from fun w' hb => hp w' (hb.mono hw))
  have HOK := Lib.hid hok
  clear h hB0 g0 g1 g2 g3 g4 hp hok hl hsz hw
  go_enter Tryz.func159, Tryz.ntmps159
  go_wp2_with (first
    | (go_at_call 28; refine (BoardText_yes Ab nb cb bds _ HI.out HOK.out HP.out (by omega)).mono ?_; rintro e w1 ⟨rfl, hb1⟩))
  refine bodyPost_ret (v := .tuple #[.string (bs (bdText bds) ++ ⟨#[10]⟩), .bool true]) (by simp [results, Tryz.results159, go_sem]) rfl ?_
  exact ⟨_, _, rfl, ⟨rfl, rfl, HT.out.next hb1⟩, KeptT.of_below hb1⟩
theorem does_board (s : St) (hok : Bd.okB s.bs = true) : CmdDoes 159 [] s (bs (bdText s.bs) ++ ⟨#[10]⟩) s := by
  refine ⟨fun args w => by simp [go_sem], fun B0 tb w A n hn ht hw hp => ?_⟩
  refine (boardText_cmd B0 tb s.bs s.ds s.ts _ w ht hw hp hok).mono fun e w' h => h.mono ?_
  rintro t ok w2 ⟨rfl, rfl, h⟩
  exact ⟨rfl, h⟩
end Go.Proofs.YthdoofmfigemoaaGreatDoor
end

section
/-
  What the reference's functions on boards give back, for every list.
-/
namespace Go.Proofs.YthdoofmfigemoaaGreatDoor
open Go.RowKit

theorem l1Group_any (k : Nat) (hk : k ≤ 1000) (w : World) : Calls Tryz.prog 134 #[.int .i64 (k : Int)] w fun e w' => e = .returned (.int .i64 (Bd.grp k)) ∧ w = w' := by
  rcases Nat.mod_two_eq_zero_or_one k with h | h
  · have h1 : ((k : Int) % 2 == 0) = true := by simp; omega
    go_enter Tryz.func134, Tryz.ntmps134
    go_wp2
    go_ret
    exact ⟨ret_int (by simp [Bd.grp, h]), rfl⟩
  · have h1 : ((k : Int) % 2 == 0) = false := by simp; omega
    go_enter Tryz.func134, Tryz.ntmps134
    go_wp2
    go_ret
    exact ⟨ret_int (by simp [Bd.grp, h]), rfl⟩

set_option maxHeartbeats 400000 in
theorem l1Worth_any (k : Nat) (hk : k ≤ 10) (w : World) : Calls Tryz.prog 142 #[.int .i64 (k : Int)] w fun e w' => e = .returned (.int .i64 (Bd.worth k)) ∧ w = w' := by
  go_enter Tryz.func142, Tryz.ntmps142
  go_wp2
  go_loop [3, 4] (fun t i => ∃ p : Nat, p ≤ k ∧ i = .int .i64 p ∧ t = .int .i64 (Bd.worth p)) (fun _ i => k - (intOf i).toNat)
  case atStart => exact ⟨0, by omega, rfl, rfl⟩
  case round =>
    obtain ⟨p, hp, rfl, rfl⟩ := hrel
    by_cases hlt : p < k
    · obtain ⟨w0, w1⟩ := Bd.worth_range p (by omega)
      have hs := Bd.worth_succ p
      have HS := Lib.hid hs
      clear hs
      rcases Nat.mod_two_eq_zero_or_one p with h | h
      · have h1 : ((p : Int) % 2 == 0) = true := by simp; omega
        have hg : Bd.grp p = 5 := by simp [Bd.grp, h]
        have HG := Lib.hid hg
        clear hg h
        go_wp2
        go_round
        case rel => exact ⟨p + 1, by omega, by go_num, by rw [HS.out, HG.out, Int.mul_comm]⟩
        case measure => simp [intOf]; omega
      · have h1 : ((p : Int) % 2 == 0) = false := by simp; omega
        have hg : Bd.grp p = 2 := by simp [Bd.grp, h]
        have HG := Lib.hid hg
        clear hg h
        go_wp2
        go_round
        case rel => exact ⟨p + 1, by omega, by go_num, by rw [HS.out, HG.out, Int.mul_comm]⟩
        case measure => simp [intOf]; omega
    · go_wp2
      go_ret
      obtain rfl : p = k := by omega
      exact ⟨rfl, rfl⟩

theorem okB_out {xs : List Int} {k : Nat} {u : Int} (h : xs[k]? = some u) (hu : u < 0 ∨ 20 < u) : Bd.okB xs = false := by
  cases hb : Bd.okB xs with
  | false => rfl
  | true => have := ((Bd.okB_iff xs).1 hb).2 u (List.mem_of_getElem? h); omega
theorem okB_len {xs : List Int} (h : xs.length ≠ 10) : Bd.okB xs = false := by
  cases hb : Bd.okB xs with
  | false => rfl
  | true => exact absurd ((Bd.okB_iff xs).1 hb).1 h

set_option maxHeartbeats 400000 in
theorem specBoardValid_any (A : Option Addr) (n c : Nat) (xs : List Int) (w : World) (B : Nat) (hx : Ints w B A n xs) :
    Calls Tryz.prog 104 #[.slice A n c] w fun e w' => e = .returned (.bool (Bd.okB xs)) ∧ w = w' := by
  have hb := hx.bound
  have HX := Lib.hid hx.len
  rcases h10 : ((n : Int) == 10) with _ | _
  all_goals
    go_enter Tryz.func104, Tryz.ntmps104
    go_wp2
    go_loop [3] (fun i => ∃ k : Nat, k ≤ n ∧ i = .int .i64 k ∧ ∀ x ∈ xs.take k, 0 ≤ x ∧ x ≤ 20) (fun i => n - (intOf i).toNat)
    case atStart => exact ⟨0, by omega, rfl, by simp⟩
    case round =>
      obtain ⟨k, hk, rfl, hin⟩ := hrel
      have HIN := Lib.hid hin
      clear hin
      by_cases hlt : k < n
      · obtain ⟨b, off, u, rfl, hlb, hu, hcell⟩ := hx.at_ hlt
        have HU := Lib.hid hu
        clear hu
        by_cases hr : u < 0 ∨ 20 < u
        · have HR := Lib.hid hr
          clear hr
          go_wp2_with (go_at_call 67; refine (l6In_no HR.out _).mono ?_; rintro e w' ⟨rfl, rfl⟩)
          go_ret
          exact ⟨ret_bool (okB_out HU.out HR.out).symm, rfl⟩
        · have r0 : 0 ≤ u := by omega
          have r1 : u ≤ 20 := by omega
          clear hr
          go_wp2_with (go_at_call 67; refine (l6In_yes (by omega) (by omega) _).mono ?_; rintro e w' ⟨rfl, rfl⟩)
          go_round
          case rel => exact ⟨k + 1, by omega, by go_num, by rw [take_next HU.out]; intro x hx; rcases List.mem_append.1 hx with h | h; exact HIN.out x h; simp at h; omega⟩
          case measure => simp [intOf]; omega
      · go_wp2
        go_ret
        obtain rfl : k = n := by omega
        refine ⟨ret_bool ?_, rfl⟩
        have hin := HIN.out
        rw [List.take_of_length_le (by have := HX.out; omega)] at hin
        first
          | (symm; exact okB_len (by have := HX.out; simp at h10; omega))
          | (symm; exact (Bd.okB_iff xs).2 ⟨by have := HX.out; simp at h10; omega, hin⟩)

set_option maxRecDepth 100000 in
set_option maxHeartbeats 1000000 in
theorem l1Value_any (A : Option Addr) (n c : Nat) (xs : List Int) (w : World) (B : Nat) (hx : Ints w B A n xs) (hok : Bd.okB xs = true) :
    Calls Tryz.prog 105 #[.slice A n c] w fun e w' => e = .returned (.int .i64 (Bd.V true xs)) ∧ ∃ q, w' = w.drewN q := by
  have hl := (Bd.okB_iff xs).1 hok
  have hn : n = 10 := by have := hx.len; omega
  subst hn
  have HL := Lib.hid hl
  clear hl hok
  go_enter Tryz.func105, Tryz.ntmps105
  go_wp2
  go_loopw [3, 4] (fun s i wr => ∃ k q : Nat, k ≤ 10 ∧ i = .int .i64 k ∧ s = .int .i64 (Bd.V true (xs.take k)) ∧ wr = w.drewN q) (fun _ i _ => 10 - (intOf i).toNat)
  case atStart => exact ⟨0, 0, by omega, rfl, rfl, rfl⟩
  case round =>
    obtain ⟨k, q, hk, rfl, rfl, hwr⟩ := hrel
    have hxr : Ints wr B A 10 xs := by rw [hwr]; exact hx.drewN q
    have HWR := Lib.hid hwr
    clear hwr
    by_cases hlt : k < 10
    · obtain ⟨b, off, u, rfl, hlb, hu, hcell⟩ := hxr.at_ hlt
      obtain ⟨m0, m1⟩ := HL.out.2 u (List.mem_of_getElem? hu)
      have HV := Lib.hid (Bd.V_take hu)
      obtain ⟨t0, t1⟩ := Bd.term_range m0 m1 hk
      obtain ⟨v0, v1⟩ := Bd.V_take_range HL.out.2 k hk (by have := HL.out.1; omega)
      clear hu
      generalize Bd.V true (xs.take k) = v at *
      have s1 : IntKind.i64.wrap (u * Bd.worth k) = u * Bd.worth k := IntWalk.i64_in _ (by omega)
      have s2 : IntKind.i64.wrap (v + u * Bd.worth k) = v + u * Bd.worth k := IntWalk.i64_in _ (by omega)
      go_wp2_with fail
      go_quiet ((go_at_call 142; exact quiet_same (l1Worth_any _ (by omega) _)))
      clear s1 s2
      go_wp2
      go_roundw
      case rel => exact ⟨k + 1, _, by omega, by go_num, by rw [HV.out], by rw [HWR.out, World.drewN_drewN]⟩
      case measure => simp [intOf]; omega
    · go_wp2
      go_ret
      obtain rfl : k = 10 := by omega
      exact ⟨ret_int (by rw [List.take_of_length_le (by have := HL.out.1; omega)]), _, HWR.out⟩

set_option maxHeartbeats 400000 in
theorem specBoardValue_any (A : Option Addr) (n c : Nat) (xs : List Int) (w : World) (B : Nat) (hx : Ints w B A n xs) :
    Calls Tryz.prog 54 #[.slice A n c] w fun e w' => e = .returned (.int .i64 (bVal xs)) ∧ Below w.heap.size w w' := by
  have hx' := Lib.hid hx
  rcases hok : Bd.okB xs with _ | _
  · have HOK := Lib.hid hok
    have HV := Lib.hid (show bVal xs = -1 by simp [bVal, hok])
    clear hx hok
    go_enter Tryz.func54, Tryz.ntmps54
    go_wp2_with (go_at_call 104; refine (specBoardValid_any _ _ _ xs _ B hx'.out).mono ?_; rintro e w' ⟨rfl, rfl⟩; rw [HOK.out])
    go_ret
    exact ⟨ret_int HV.out.symm, Below.refl _ _⟩
  · have HOK := Lib.hid hok
    have HV := Lib.hid (show bVal xs = Bd.V true xs by simp [bVal, hok])
    clear hx hok
    go_enter Tryz.func54, Tryz.ntmps54
    go_wp2_with (first
      | (go_at_call 104; refine (specBoardValid_any _ _ _ xs _ B hx'.out).mono ?_; rintro e w' ⟨rfl, rfl⟩; rw [HOK.out])
      | (go_at_call 105; refine (l1Value_any _ _ _ xs _ B hx'.out HOK.out).mono ?_; rintro e w' ⟨rfl, q, rfl⟩))
    go_ret
    exact ⟨ret_int HV.out.symm, below_drewN (Below.refl _ _) _⟩

set_option maxRecDepth 100000 in
set_option maxHeartbeats 1000000 in
theorem specBoardOf_any (v : Int) (w : World) : Calls Tryz.prog 26 #[.int .i64 v] w (BoardPost w (okV v) (Bd.D true 10 v)) := by
  by_cases hr : v < 0 ∨ 99999 < v
  · have hok : okV v = false := by simp [okV]; omega
    rw [hok]
    have HR := Lib.hid hr
    clear hr hok
    go_enter Tryz.func26, Tryz.ntmps26
    go_wp2_with (go_at_call 67; refine (l6In_no HR.out _).mono ?_; rintro e w' ⟨rfl, rfl⟩)
    go_ret2
    exact ⟨⟨_, _, _, rfl, own_lit w [] w.heap.size 0 rfl (by omega) (Nat.le_refl _)⟩, (Below.refl _ _).alloc (Nat.le_refl _) _⟩
  · have hok : okV v = true := by simp [okV]; omega
    rw [hok]
    have r0 : 0 ≤ v := by omega
    have r1 : v ≤ 99999 := by omega
    have hown0 := own_lit w [] w.heap.size 0 rfl (by omega) (Nat.le_refl _)
    have HO := Lib.hid hown0
    clear hr hok hown0
    go_enter Tryz.func26, Tryz.ntmps26
    go_wp2_with (go_at_call 67; refine (l6In_yes (by omega) (by omega) _).mono ?_; rintro e w' ⟨rfl, rfl⟩)
    go_loopw [0, 4, 5] (fun val out i wr => ∃ (j : Nat) (A : Option Addr) (c : Nat) (pre : List Int) (z : Int), j ≤ 5 ∧ i = .int .i64 (2 * j : Nat) ∧ val = .int .i64 z ∧ 0 ≤ z ∧ z ≤ 99999 ∧ out = .slice A (2 * j) c ∧ Own wr w.heap.size A (2 * j) c pre ∧ pre ++ Bd.D true (10 - 2 * j) z = Bd.D true 10 v ∧ Below w.heap.size w wr) (fun _ _ i _ => 10 - (intOf i).toNat)
    case atStart => exact ⟨0, _, _, [], v, by omega, rfl, rfl, r0, r1, rfl, HO.out, rfl, (Below.refl _ _).alloc (Nat.le_refl _) _⟩
    case round =>
      obtain ⟨j, A, c, pre, z, hj, rfl, rfl, z0, z1, rfl, hown, heq, hbel⟩ := hrel
      have HEQ := Lib.hid heq
      clear heq r0 r1
      by_cases hlt : j < 5
      · have e2 : Bd.D true (10 - 2 * j) z = z % 5 :: (z / 5 % 2) :: Bd.D true (10 - 2 * (j + 1)) (z / 10) := by
          rw [show 10 - 2 * j = (10 - 2 * (j + 1)) + 2 from by omega]
          simp only [Bd.D, Bd.full]
          simp
          rw [Int.ediv_ediv_of_nonneg (by omega)]
          rfl
        have HE2 := Lib.hid e2
        have hB := hbel.size
        clear e2
        go_wp2_with (at_builtin; refine wpList_app rfl _ _ rfl rfl hown [z % 5, z / 5 % 2] 2 rfl _ rfl _ rfl (by omega) hB ?_; intro A1 c1 w2 hown2 hg2)
        have hbel2 := below_step hbel hg2 hown hB
        go_roundw
        case rel =>
          refine ⟨j + 1, A1, c1, pre ++ [z % 5, z / 5 % 2], z / 10, by omega, by go_num, rfl, by omega, by omega, by rw [show 2 * (j + 1) = 2 * j + 2 from by omega], by rw [show 2 * (j + 1) = 2 * j + 2 from by omega]; exact hown2, ?_, hbel2⟩
          have := HEQ.out
          rw [HE2.out] at this
          rw [← this]
          simp
        case measure => simp [intOf]; omega
      · go_wp2
        go_ret2
        obtain rfl : j = 5 := by omega
        refine ⟨⟨_, _, _, rfl, ?_⟩, hbel⟩
        have := HEQ.out
        simp only [Nat.reduceMul, Nat.sub_self, Bd.D, List.append_nil] at this
        rw [if_pos rfl, ← show pre = Bd.D true 10 v from by simpa [Bd.D] using this]
        exact hown
end Go.Proofs.YthdoofmfigemoaaGreatDoor
end

section
/-
  The draws of boards, places and values: whatever the code, they come back with a list that can be read.
-/
namespace Go.Proofs.YthdoofmfigemoaaGreatDoor
open Go.RowKit

theorem own_tail {w : World} {B g n c : Nat} {xs : List Int} (h : Own w B (some ⟨g, 0, none⟩) n c xs) (hn : n = 10) : Ints w w.heap.size (some ⟨g, 1, none⟩) 9 (xs.drop 1) := by
  obtain ⟨g8, e8, hg8, hl8, hc8, hf8⟩ := h.at_ (by omega)
  obtain rfl : g = g8 := by simpa using e8
  exact ⟨by have := h.len; simp; omega, by omega, fun _ => ⟨g, 1, rfl, hl8, fun j u hu => hc8 (1 + j) u (by rw [List.getElem?_drop] at hu; exact hu)⟩⟩
/-- what a board's draw comes back with -/
def BdDrawn (w : World) (B g p : Nat) (e : Ending) (w' : World) : Prop :=
  ∃ A n c xs q, e = .returned (.slice A n c) ∧ (∀ v, w'.grownBy v (some g) → Ints v v.heap.size A n xs) ∧ n ≤ 10 ∧ Rd w' B g q ∧ q ≤ p + 40 ∧ w.grownBy w' (some g)

end Go.Proofs.YthdoofmfigemoaaGreatDoor
end

section
/-
  A code is opened: a reader in a new block.
-/
namespace Go.Proofs.YthdoofmfigemoaaGreatDoor
open Go.RowKit

/-- a slice of bytes that can be read; its cells lie below block B -/
def Bytes (w : World) (B : Nat) (A : Option Addr) (n c : Nat) : Prop :=
  n ≤ c ∧ (0 < n → ∃ b off, A = some ⟨b, off, none⟩ ∧ b < B ∧ ∀ j, j < n → ∃ u : Int, 0 ≤ u ∧ u ≤ 255 ∧ w.cell? ⟨b, off + j, none⟩ = some (.int .u8 u))
theorem Bytes.of_row {w : World} {a : Option Addr} {len cap : Nat} {zs : List Int} (h : IsRow .u8 w a len cap zs) : Bytes w w.heap.size a len cap := by
  rcases h with ⟨rfl, rfl, rfl, rfl⟩ | ⟨x, rfl, h1, h2, h3, h4, h5⟩
  · exact ⟨by omega, fun h => absurd h (by omega)⟩
  · refine ⟨h1, fun hn => ?_⟩
    obtain ⟨b, off, spot⟩ := x
    have h0 := h4 0 (by omega)
    have hs : spot = none := by simpa [Addr.add] using World.cell?_spot h0
    subst hs
    refine ⟨b, off, rfl, by simpa [Addr.add] using World.block_lt_of_cell? w _ h0, fun j hj => ?_⟩
    have := h4 j (by omega)
    rw [show (⟨b, off, none⟩ : Addr).add j = ⟨b, off + j, none⟩ from by unfold Addr.add; split <;> simp_all] at this
    have hm := h5 (zs.getD j 0) (by rw [List.getD_eq_getElem?_getD, List.getElem?_eq_getElem (by omega)]; exact List.getElem_mem _)
    generalize zs.getD j 0 = u at hm this
    have m0 : IntKind.u8.min = 0 := rfl
    have m1 : IntKind.u8.max = 255 := rfl
    simp [Lit.wf, m0, m1] at hm
    exact ⟨u, by omega, by omega, this⟩
theorem Bytes.next {w w' : World} {A : Option Addr} {n c : Nat} (h : Bytes w w.heap.size A n c) (hb : Below w.heap.size w w') : Bytes w' w'.heap.size A n c := by
  refine ⟨h.1, fun hn => ?_⟩
  obtain ⟨b, off, e, hlt, hc⟩ := h.2 hn
  have := hb.size
  refine ⟨b, off, e, by omega, fun j hj => ?_⟩
  obtain ⟨u, h0, h1, hu⟩ := hc j hj
  exact ⟨u, h0, h1, (hb.cell (p := ⟨b, off + j, none⟩) hlt).trans hu⟩

set_option maxHeartbeats 1000000 in
theorem l6Open_any (A : Option Addr) (n c : Nat) (w : World) (h : Bytes w w.heap.size A n c) (hn : n ≤ 1048576) :
    Calls Tryz.prog 40 #[.slice A n c] w fun e w' => e = .returned (.pointer (some ⟨w.heap.size, 0, none⟩)) ∧ Rd w' w.heap.size w.heap.size 0 ∧ Below w.heap.size w w' := by
  have hc := h.1
  have H := Lib.hid h
  clear h
  have fin : ∀ (m : Nat) (A' : Option Addr) (c' : Nat), m ≤ 2000 → m ≤ n → A' = A → Rd (w.alloc (.cells #[.slice A' m c', .int .i64 0] 133)) w.heap.size w.heap.size 0 ∧ Below w.heap.size w (w.alloc (.cells #[.slice A' m c', .int .i64 0] 133)) := by
    intro m A' c' hm hmn hA
    subst hA
    refine ⟨⟨_, m, c', heap_alloc_new w _, hm, Nat.le_refl _, fun h0 => ?_⟩, (Below.refl _ _).alloc (Nat.le_refl _) _⟩
    obtain ⟨b, off, e, hlt, hc⟩ := H.out.2 (by omega)
    refine ⟨b, off, e, hlt, fun j hj => ?_⟩
    obtain ⟨u, h0, h1, hu⟩ := hc j (by omega)
    exact ⟨u, h0, h1, (World.cell?_alloc_lt w _ _ hlt).trans hu⟩
  have FIN := Lib.hid fin
  clear fin
  by_cases hbig : 2000 < n
  · obtain ⟨b, off, rfl, hlt, hcc⟩ := H.out.2 (by omega)
    clear hcc
    go_enter Tryz.func40, Tryz.ntmps40
    go_wp2
    go_ret
    exact ⟨rfl, FIN.out _ _ _ (by omega) (by omega) rfl⟩
  · go_enter Tryz.func40, Tryz.ntmps40
    go_wp2
    go_ret
    exact ⟨rfl, FIN.out _ _ _ (by omega) (by omega) rfl⟩
end Go.Proofs.YthdoofmfigemoaaGreatDoor
end

section
/-
  The laws' draws of boards, places and values.
-/
namespace Go.Proofs.YthdoofmfigemoaaGreatDoor
open Go.RowKit

/-- a drawn board -/
def Drew1 (w : World) (e : Ending) (w' : World) : Prop := ∃ A n c xs, e = .returned (.slice A n c) ∧ Ints w' w'.heap.size A n xs ∧ n ≤ 10 ∧ Below w.heap.size w w'

/-- two drawn boards -/
def Drew2 (w : World) (e : Ending) (w' : World) : Prop :=
  ∃ A n c xs A2 n2 c2 ys, e = .returned (.tuple #[.slice A n c, .slice A2 n2 c2]) ∧ Ints w' w'.heap.size A n xs ∧ Ints w' w'.heap.size A2 n2 ys ∧ n ≤ 10 ∧ n2 ≤ 10 ∧ Below w.heap.size w w'
/-- a drawn board and a place -/
def DrewPlace (w : World) (e : Ending) (w' : World) : Prop :=
  ∃ A n c xs v, e = .returned (.tuple #[.slice A n c, .int .i64 v]) ∧ Ints w' w'.heap.size A n xs ∧ n ≤ 10 ∧ -100 ≤ v ∧ v ≤ 100 ∧ Below w.heap.size w w'
/-- a drawn value -/
def DrewV (w : World) (e : Ending) (w' : World) : Prop := ∃ v, e = .returned (.int .i64 v) ∧ -100 ≤ v ∧ v ≤ 1000000 ∧ Below w.heap.size w w'
set_option maxHeartbeats 1000000 in
theorem l91Value_any (w0 w : World) (g : Nat) (h : Rd w w0.heap.size g 0) (hb0 : Below w0.heap.size w0 w) :
    Calls Tryz.prog 64 #[.pointer (some ⟨g, 0, none⟩)] w (DrewV w0) := by
  have hlt := h.lt
  have hbs := h.base
  have HB := Lib.hid hb0
  have HR := Lib.hid h
  clear h hb0
  go_enter Tryz.func64, Tryz.ntmps64
  go_wp2_with fail
  refine (pick_any _ _ _ _ _ HR.out (by omega)).mono ?_
  rintro e w3 ⟨v3, rfl, hv3, hrd3, hg3⟩
  have hv3 := hv3 (by omega)
  have hsz3 := hg3.size
  have HB3 := Lib.hid (HB.out.trans (base_in hg3 hbs (by omega)))
  have HR3 := Lib.hid hrd3
  clear hrd3 hg3
  by_cases e0 : v3 = 0
  · subst e0
    go_wp2_with fail
    have hlit := own_lit w3 [-1, 99999, 100000, 0] w3.heap.size 4 rfl (by omega) (by omega)
    refine (pick_any _ _ _ _ _ (HR3.out.alloc _) (by omega)).mono ?_
    rintro e w4 ⟨v4, rfl, hv4, hrd4, hg4⟩
    have hv4 := hv4 (by omega)
    have hlit := own_pick hlit hg4 (by omega)
    have HB4 := Lib.hid ((HB3.out.alloc (by omega) _).trans (base_in hg4 hbs (by simp; omega)))
    clear hrd4 hg4
    obtain ⟨g7, e7, _, _, hc7, _⟩ := hlit.at_ (by omega)
    obtain rfl : w3.heap.size = g7 := by simpa using e7
    obtain ⟨j7, rfl⟩ := Int.eq_ofNat_of_zero_le hv4.1
    obtain ⟨u7, hu7⟩ : ∃ u, ([-1, 99999, 100000, 0] : List Int)[j7]? = some u := ⟨_, List.getElem?_eq_getElem (by simp; omega)⟩
    have hc7 := hc7 _ _ hu7
    have hbd : -100 ≤ u7 ∧ u7 ≤ 1000000 := by
      have := List.mem_of_getElem? hu7
      simp at this
      omega
    clear hlit hu7 e7
    go_wp2
    go_ret
    exact ⟨_, rfl, hbd.1, hbd.2, HB4.out⟩
  · have e0' : (v3 == 0) = false := by simpa using e0
    go_wp2_with fail
    refine (pick_any _ _ _ _ _ HR3.out (by omega)).mono ?_
    rintro e w4 ⟨v4, rfl, hv4, hrd4, hg4⟩
    have hv4 := hv4 (by omega)
    have hsz4 := hg4.size
    have HB4 := Lib.hid (HB3.out.trans (base_in hg4 hbs (by omega)))
    have HR4 := Lib.hid hrd4
    clear hrd4 hg4
    go_wp2_with fail
    refine (pick_any _ _ _ _ _ HR4.out (by omega)).mono ?_
    rintro e w5 ⟨v5, rfl, hv5, hrd5, hg5⟩
    have hv5 := hv5 (by omega)
    have HB5 := Lib.hid (HB4.out.trans (base_in hg5 hbs (by omega)))
    clear hrd5 hg5
    go_wp2
    go_ret
    exact ⟨_, rfl, by omega, by omega, HB5.out⟩
theorem DrawBoardOf_any (A : Option Addr) (n c : Nat) (w : World) (h : Bytes w w.heap.size A n c) (hn : n ≤ 1048576) :
    Calls Tryz.prog 24 #[.slice A n c] w (DrewV w) := by
  have H := Lib.hid h
  clear h
  go_enter Tryz.func24, Tryz.ntmps24
  go_wp2_with fail
  refine (l6Open_any _ _ _ _ H.out hn).mono ?_
  rintro e w1 ⟨rfl, hrd, hb⟩
  have HB := Lib.hid hb
  have HR := Lib.hid hrd
  clear hrd hb
  go_wp2_with fail
  refine (l91Value_any _ _ _ HR.out HB.out).mono ?_
  rintro e w2 ⟨v, rfl, hv0, hv1, hb⟩
  have HB2 := Lib.hid hb
  clear hb
  go_wp2
  go_ret
  exact ⟨_, rfl, hv0, hv1, HB2.out⟩
end Go.Proofs.YthdoofmfigemoaaGreatDoor
end

section
/-
  What the reference's functions that change boards give back, for every list.
-/
namespace Go.Proofs.YthdoofmfigemoaaGreatDoor
open Go.RowKit

theorem valid_yes {A : Option Addr} {n c : Nat} {xs : List Int} {w : World} {B : Nat} (hx : Ints w B A n xs) (h : Bd.okB xs = true) :
    Calls Tryz.prog 104 #[.slice A n c] w fun e w' => e = .returned (.bool true) ∧ w = w' := by
  have := specBoardValid_any A n c xs w B hx
  rwa [h] at this
theorem valid_no {A : Option Addr} {n c : Nat} {xs : List Int} {w : World} {B : Nat} (hx : Ints w B A n xs) (h : Bd.okB xs = false) :
    Calls Tryz.prog 104 #[.slice A n c] w fun e w' => e = .returned (.bool false) ∧ w = w' := by
  have := specBoardValid_any A n c xs w B hx
  rwa [h] at this
/-- the board with some taken at one place and some put at another -/
def shiftL (xs : List Int) (p : Nat) (t : Int) (q : Nat) (s : Int) : List Int := (xs.set p (xs.getD p 0 - t)).set q ((xs.set p (xs.getD p 0 - t)).getD q 0 + s)

set_option maxHeartbeats 400000 in
theorem l1Shift_no (A : Option Addr) (n c : Nat) (xs : List Int) (p t q s : Int) (w : World) (B : Nat) (hx : Ints w B A n xs) (h : Bd.okB xs = false ∨ p < 0 ∨ 9 < p ∨ q < 0 ∨ 9 < q) :
    Calls Tryz.prog 133 #[.slice A n c, .int .i64 p, .int .i64 t, .int .i64 q, .int .i64 s] w (BoardPost w false []) := by
  have hx' := Lib.hid hx
  rcases hok : Bd.okB xs with _ | _
  · have HOK := Lib.hid hok
    clear hx hok h
    go_enter Tryz.func133, Tryz.ntmps133
    go_wp2_with (go_at_call 104; refine (valid_no hx'.out HOK.out).mono ?_; rintro e w' ⟨rfl, rfl⟩)
    go_ret2
    exact ⟨⟨_, _, _, rfl, lit_nil w⟩, (Below.refl _ _).alloc (Nat.le_refl _) _⟩
  · have HOK := Lib.hid hok
    rw [hok] at h
    clear hx hok
    by_cases hp : p < 0 ∨ 9 < p
    · have HP := Lib.hid hp
      clear hp h
      go_enter Tryz.func133, Tryz.ntmps133
      go_wp2_with (first
        | (go_at_call 104; refine (valid_yes hx'.out HOK.out).mono ?_; rintro e w' ⟨rfl, rfl⟩)
        | (go_at_call 67; refine (l6In_no HP.out _).mono ?_; rintro e w' ⟨rfl, rfl⟩))
      go_ret2
      exact ⟨⟨_, _, _, rfl, lit_nil w⟩, (Below.refl _ _).alloc (Nat.le_refl _) _⟩
    · have hq : q < 0 ∨ 9 < q := by simp at h; omega
      have p0 : 0 ≤ p := by omega
      have p1 : p ≤ 9 := by omega
      have HQ := Lib.hid hq
      clear hp h hq
      go_enter Tryz.func133, Tryz.ntmps133
      go_wp2_with fail
      refine (valid_yes hx'.out HOK.out).mono ?_
      rintro e w' ⟨rfl, rfl⟩
      go_wp2_with fail
      refine (l6In_yes p0 p1 _).mono ?_
      rintro e w' ⟨rfl, rfl⟩
      go_wp2_with fail
      refine (l6In_no HQ.out _).mono ?_
      rintro e w' ⟨rfl, rfl⟩
      go_wp2
      go_ret2
      exact ⟨⟨_, _, _, rfl, lit_nil w⟩, (Below.refl _ _).alloc (Nat.le_refl _) _⟩

set_option maxHeartbeats 1000000 in
theorem l1Shift_yes (A : Option Addr) (n c : Nat) (xs : List Int) (p q : Nat) (t s : Int) (w : World) (hx : Ints w w.heap.size A n xs) (hok : Bd.okB xs = true) (hp : p < 10) (hq : q < 10) (hpq : p ≠ q)
    (t0 : 0 ≤ t) (t1 : t ≤ 10) (s0 : 0 ≤ s) (s1 : s ≤ 10) :
    Calls Tryz.prog 133 #[.slice A n c, .int .i64 (p : Int), .int .i64 t, .int .i64 (q : Int), .int .i64 s] w (BoardPost w (Bd.okB (shiftL xs p t q s)) (shiftL xs p t q s)) := by
  have hl := (Bd.okB_iff xs).1 hok
  have hn : n = 10 := by have := hx.len; omega
  subst hn
  have hx' := Lib.hid hx
  have HOK := Lib.hid hok
  obtain ⟨u, hu⟩ : ∃ u, xs[p]? = some u := ⟨_, List.getElem?_eq_getElem (by omega)⟩
  obtain ⟨v, hv⟩ : ∃ v, xs[q]? = some v := ⟨_, List.getElem?_eq_getElem (by omega)⟩
  obtain ⟨u0, u1⟩ := hl.2 u (List.mem_of_getElem? hu)
  obtain ⟨v0, v1⟩ := hl.2 v (List.mem_of_getElem? hv)
  have he : shiftL xs p t q s = (xs.set p (u - t)).set q (v + s) := by
    unfold shiftL
    have e1 : xs.getD p 0 = u := by rw [List.getD_eq_getElem?_getD, hu]; rfl
    have e2 : (xs.set p (u - t)).getD q 0 = v := by rw [List.getD_eq_getElem?_getD, List.getElem?_set_ne hpq, hv]; rfl
    rw [e1, e2]
  rw [he]
  have hq2 : (xs.set p (u - t))[q]? = some v := by rw [List.getElem?_set_ne hpq, hv]
  have HU := Lib.hid hu
  have HQ2 := Lib.hid hq2
  have hln : Own (w.alloc (.cells #[] 3)) w.heap.size (some ⟨w.heap.size, 0, none⟩) 0 0 [] := lit_nil w
  have HLN := Lib.hid hln
  have i0 : (0 : Int) ≤ (p : Int) := by omega
  have i1 : (p : Int) ≤ 9 := by omega
  have i2 : (0 : Int) ≤ (q : Int) := by omega
  have i3 : (q : Int) ≤ 9 := by omega
  clear hx hok hl hu hv he hq2 hln
  rcases hres : Bd.okB ((xs.set p (u - t)).set q (v + s)) with _ | _
  all_goals
    have HRES := Lib.hid hres
    clear hres
    go_enter Tryz.func133, Tryz.ntmps133
    go_wp2_with fail
    refine (valid_yes hx'.out HOK.out).mono ?_
    rintro e w' ⟨rfl, rfl⟩
    go_wp2_with fail
    refine (l6In_yes i0 i1 _).mono ?_
    rintro e w' ⟨rfl, rfl⟩
    go_wp2_with fail
    refine (l6In_yes i2 i3 _).mono ?_
    rintro e w' ⟨rfl, rfl⟩
    go_wp2_with (first
      | (at_builtin; refine wpList_app_ints rfl _ _ rfl rfl HLN.out rfl (hx'.out.alloc (Nat.le_refl _) _) (by omega) (by simp) ?_; intro A1 c1 w1 hown1 hg1; simp only [Nat.zero_add, List.nil_append] at hown1; obtain ⟨g, rfl, hgB, hgl, hcells, hfr⟩ := hown1.at_ (by omega); have cu := hcells p u HU.out; have fu := hfr p; have fq := hfr q; have hs1 := hown1.store p (u - t); obtain ⟨g2, hg2e, _, _, hcells2, _⟩ := hs1.1.at_ (by omega); obtain rfl : g = g2 := (by simpa using hg2e); have cq := hcells2 q v HQ2.out; have HS2 := Lib.hid (hs1.1.store q (v + s)); have HS1 := Lib.hid hs1; have HG1 := Lib.hid hg1; clear hcells hfr hs1 hg1 hcells2 hg2e)
      | (go_at_call 104; refine (specBoardValid_any _ _ _ ((xs.set p (u - t)).set q (v + s)) _ _ HS2.out.1.ints).mono ?_; rintro e w' ⟨rfl, rfl⟩; rw [HRES.out]))
    go_ret2
    have hB1 : Below w.heap.size w w1 := ((Below.refl _ _).alloc (Nat.le_refl _) _).grown HG1.out (by simp) (by intro k hk; simp [Value.ownBlock] at hk; omega)
    have hB2 := (hB1.setCell (p := ⟨g, p, none⟩) hgB (.int .i64 (u - t))).setCell (p := ⟨g, q, none⟩) hgB (.int .i64 (v + s))
    have hln := Own.mono (lit_nil ((w1.setCell ⟨g, p, none⟩ (.int .i64 (u - t))).setCell ⟨g, q, none⟩ (.int .i64 (v + s)))) hB2.size
    simp only [World.size_setCell] at hln
    first
      | exact ⟨⟨_, _, _, rfl, HS2.out.1⟩, hB2⟩
      | exact ⟨⟨_, _, _, rfl, hln⟩, hB2.alloc hB2.size _⟩

set_option maxHeartbeats 400000 in
theorem specBoardReduce_any (A : Option Addr) (n c : Nat) (xs : List Int) (w : World) (hx : Ints w w.heap.size A n xs) :
    Calls Tryz.prog 99 #[.slice A n c] w (BoardPost w (redOK xs) (redL xs)) := by
  have hx' := Lib.hid hx
  rcases hok : Bd.okB xs with _ | _
  · have HOK := Lib.hid hok
    rw [show redOK xs = false by simp [redOK, hok]]
    clear hx hok
    go_enter Tryz.func99, Tryz.ntmps99
    go_wp2_with (go_at_call 104; refine (valid_no hx'.out HOK.out).mono ?_; rintro e w' ⟨rfl, rfl⟩)
    go_ret2
    exact ⟨⟨_, _, _, rfl, lit_nil w⟩, (Below.refl _ _).alloc (Nat.le_refl _) _⟩
  · have HOK := Lib.hid hok
    rw [show redOK xs = okV (Bd.V true xs) by simp [redOK, hok]]
    clear hx hok
    go_enter Tryz.func99, Tryz.ntmps99
    go_wp2_with (first
      | (go_at_call 104; refine (valid_yes hx'.out HOK.out).mono ?_; rintro e w' ⟨rfl, rfl⟩)
      | (go_at_call 105; refine (l1Value_any _ _ _ xs _ _ hx'.out HOK.out).mono ?_; rintro e w' ⟨rfl, q, rfl⟩)
      | (go_at_call 26; refine (specBoardOf_any _ _).mono ?_; rintro e w2 ⟨⟨A2, n2, c2, rfl, hown⟩, hb2⟩))
    go_ret2
    exact ⟨⟨_, _, _, rfl, hown⟩, (below_drewN (Below.refl _ _) q).trans hb2⟩

theorem shift_raise {xs : List Int} (p : Nat) : shiftL xs p (Bd.grp p) (p + 1) 1 = Bd.raiseL xs p := by
  unfold shiftL Bd.raiseL Bd.move
  rw [show xs.getD p 0 + (0 - Bd.grp p) = xs.getD p 0 - Bd.grp p from by omega]
theorem okB_fit {xs : List Int} (h : xs.length = 10) : Bd.okB xs = fitB xs := by simp [Bd.okB, Bd.allIn, fitB, h]
theorem shift_lower {xs : List Int} (hl : xs.length = 10) (p : Nat) (hp : p < 9) : shiftL xs (p + 1) 1 p (Bd.grp p) = Bd.lowerL xs (p + 1) := by
  obtain ⟨u, hu⟩ : ∃ u, xs[p]? = some u := ⟨_, List.getElem?_eq_getElem (by omega)⟩
  obtain ⟨v, hv⟩ : ∃ v, xs[p + 1]? = some v := ⟨_, List.getElem?_eq_getElem (by omega)⟩
  rw [Bd.lowerL_eq hu hv]
  unfold shiftL
  have e1 : xs.getD (p + 1) 0 = v := by rw [List.getD_eq_getElem?_getD, hv]; rfl
  have e2 : (xs.set (p + 1) (v - 1)).getD p 0 = u := by rw [List.getD_eq_getElem?_getD, List.getElem?_set_ne (by omega), hu]; rfl
  rw [e1, e2]

set_option maxHeartbeats 1000000 in
theorem specBoardRaise_any (A : Option Addr) (n c : Nat) (xs : List Int) (q : Int) (w : World) (hx : Ints w w.heap.size A n xs) :
    Calls Tryz.prog 100 #[.slice A n c, .int .i64 q] w (BoardPost w (raiseOK xs q) (Bd.raiseL xs q.toNat)) := by
  have hx' := Lib.hid hx
  by_cases hq : q < 0 ∨ 9 < q
  · have HQ := Lib.hid hq
    rw [show raiseOK xs q = false by simp [raiseOK]; omega]
    clear hx hq
    go_enter Tryz.func100, Tryz.ntmps100
    go_wp2_with (go_at_call 67; refine (l6In_no HQ.out _).mono ?_; rintro e w' ⟨rfl, rfl⟩)
    go_ret2
    exact ⟨⟨_, _, _, rfl, lit_nil w⟩, (Below.refl _ _).alloc (Nat.le_refl _) _⟩
  · obtain ⟨p, rfl⟩ := Int.eq_ofNat_of_zero_le (by omega : 0 ≤ q)
    have i0 : (0 : Int) ≤ (p : Int) := by omega
    have i1 : (p : Int) ≤ 9 := by omega
    have hg := Bd.grp_cases p
    have g2 : 2 ≤ Bd.grp p ∧ Bd.grp p ≤ 5 := by rcases hg with h | h <;> omega
    obtain ⟨g2, g5⟩ := g2
    clear hq hg
    by_cases hno : Bd.okB xs = false ∨ p = 9
    · rw [show raiseOK xs (p : Int) = false by rcases hno with h | h <;> simp [raiseOK, h]]
      have HNO := Lib.hid (show Bd.okB xs = false ∨ (p : Int) < 0 ∨ 9 < (p : Int) ∨ (p : Int) + 1 < 0 ∨ 9 < (p : Int) + 1 by rcases hno with h | h; exact .inl h; exact .inr (by omega))
      clear hx hno
      go_enter Tryz.func100, Tryz.ntmps100
      go_wp2_with (first
        | (go_at_call 67; refine (l6In_yes i0 i1 _).mono ?_; rintro e w' ⟨rfl, rfl⟩)
        | (go_at_call 134; refine (l1Group_any _ (by omega) _).mono ?_; rintro e w' ⟨rfl, rfl⟩)
        | (go_at_call 133; refine (l1Shift_no _ _ _ xs _ _ _ _ _ _ hx'.out HNO.out).mono ?_; rintro e w2 ⟨⟨A2, n2, c2, rfl, hown⟩, hb2⟩))
      go_ret2
      exact ⟨⟨_, _, _, rfl, hown⟩, hb2⟩
    · have hok : Bd.okB xs = true := by
        cases h : Bd.okB xs with
        | false => exact absurd (.inl h) hno
        | true => rfl
      have hp9 : p < 9 := by omega
      have hl := ((Bd.okB_iff xs).1 hok).1
      rw [show raiseOK xs (p : Int) = Bd.okB (Bd.raiseL xs p) by rw [okB_fit ((Bd.raiseL_length xs p).trans hl)]; simp [raiseOK, hok]; omega, Int.toNat_natCast, ← shift_raise]
      have HOK := Lib.hid hok
      have e1 : ((p + 1 : Nat) : Int) = (p : Int) + 1 := by omega
      have hsh := l1Shift_yes A n c xs p (p + 1) (Bd.grp p) 1 w hx hok (by omega) (by omega) (by omega) (by omega) (by omega) (by omega) (by omega)
      rw [e1] at hsh
      have HSH := Lib.hid hsh
      clear hx hno hok hsh e1 hl
      go_enter Tryz.func100, Tryz.ntmps100
      go_wp2_with (first
        | (go_at_call 67; refine (l6In_yes i0 i1 _).mono ?_; rintro e w' ⟨rfl, rfl⟩)
        | (go_at_call 134; refine (l1Group_any _ (by omega) _).mono ?_; rintro e w' ⟨rfl, rfl⟩)
        | (go_at_call 133; refine HSH.out.mono ?_; rintro e w2 ⟨⟨A2, n2, c2, rfl, hown⟩, hb2⟩))
      go_ret2
      exact ⟨⟨_, _, _, rfl, hown⟩, hb2⟩

end Go.Proofs.YthdoofmfigemoaaGreatDoor
end

section
/-
  The reference's raises and layings, for every list.
-/
namespace Go.Proofs.YthdoofmfigemoaaGreatDoor
open Go.RowKit

theorem step_app {ops : Array Oper} {o : Oper} {a : Act} {w : World} {K : Act → World → Prop} {Q : Exit → Act → World → Prop} {E : Prop} (hgd : o.guard = none) (s x : Operand)
    (ho : o.op = .call { callee := .builtin .append, args := #[s, x], argTypes := #[28, 28] })
    {B : Nat} {A : Option Addr} {n c : Nat} {xs : List Int} (hs : a.eval s = .slice A n c) (hown : Own w B A n c xs) (us : List Int) (m : Nat) (hm : us.length = m) (c0 : Nat)
    (hx : a.eval x = .slice (some ⟨w.heap.size, 0, none⟩) m c0) (cs : Array Value) (hcs : cs = (IV us).toArray) (hn : n + m ≤ 1099511627776) (hB : B ≤ w.heap.size)
    (h : ∀ A' c' w', Own w' B A' (n + m) c' (xs ++ us) → w.grownBy w' (Value.slice A n c).ownBlock → K (a.put o.dst (.slice A' (n + m) c')) w') :
    if Region.wanted o (yielded ops a.tmps) = true then Oper.wp Tryz.prog o a (w.alloc (.cells cs 3)) K Q else E := by
  obtain ⟨i0, hi, hz0, hz1, hz2⟩ := info_parts own_int_info
  subst hcs
  subst hm
  rw [if_pos (by simp [Region.wanted, hgd])]
  refine wp_append_own _ s x 28 ho B 3 i0 (.int .i64 0) 1 8 Tryz.underlying28 hi hz0 hz1 hz2 rfl (by decide) _ n (IV xs) hs (hown.1.alloc _)
    ⟨w.heap.size, 0, none⟩ us.length c0 (IV us) hx (by simp [IV]) ?_ (IV_one us) (by unfold maxLen; omega) (by omega) (by simp; omega) ?_
  · intro j u hj
    rw [add_row, cell_of_row _ w.heap.size j _ _ _ (heap_alloc_new w _)]
    simpa using hj
  · intro v' w' hown' hg _
    obtain ⟨A', c', rfl, h'⟩ := Own.of_app us rfl hown' hn
    exact h A' c' w' h' ⟨hg.os, hg.tape, hg.output, by have := hg.size; simp at this; omega, fun k hk hne => (hg.block k (by simp; omega) hne).trans (Below.heap_alloc w _ k hk)⟩

def par (k : Nat) : Bool := decide (k % 2 = 0)
theorem full_par (k : Nat) : Bd.full (par k) = Bd.grp k := by
  rcases Nat.mod_two_eq_zero_or_one k with h | h <;> simp [par, Bd.full, Bd.grp, h]
theorem par_succ (k : Nat) : par (k + 1) = !(par k) := by
  rcases Nat.mod_two_eq_zero_or_one k with h | h
  · have : (k + 1) % 2 = 1 := by omega
    simp [par, h, this]
  · have : (k + 1) % 2 = 0 := by omega
    simp [par, h, this]
theorem R_drop {xs : List Int} {k : Nat} {u : Int} (c : Int) (h : xs[k]? = some u) :
    Bd.R (par k) c (xs.drop k) = (u + c) / Bd.grp k + Bd.R (par (k + 1)) ((u + c) / Bd.grp k) (xs.drop (k + 1)) := by
  have hk := (List.getElem?_eq_some_iff.1 h)
  obtain ⟨hk, hu⟩ := hk
  rw [List.drop_eq_getElem_cons hk, hu, Bd.R, full_par, par_succ]

set_option maxRecDepth 100000 in
set_option maxHeartbeats 1000000 in
theorem specBoardLay_any (A B : Option Addr) (n c m d : Nat) (xs ys : List Int) (w : World) (hx : Ints w w.heap.size A n xs) (hy : Ints w w.heap.size B m ys) :
    Calls Tryz.prog 132 #[.slice A n c, .slice B m d] w (BoardPost w (layOK xs ys) (Bd.addL xs ys)) := by
  have hx' := Lib.hid hx
  have hy' := Lib.hid hy
  rcases hokx : Bd.okB xs with _ | _
  · have HX := Lib.hid hokx
    rw [show layOK xs ys = false by simp [layOK, hokx]]
    clear hx hy hokx
    go_enter Tryz.func132, Tryz.ntmps132
    go_wp2_with (go_at_call 104; refine (valid_no hx'.out HX.out).mono ?_; rintro e w' ⟨rfl, rfl⟩)
    go_ret2
    exact ⟨⟨_, _, _, rfl, lit_nil w⟩, (Below.refl _ _).alloc (Nat.le_refl _) _⟩
  · have HX := Lib.hid hokx
    rcases hoky : Bd.okB ys with _ | _
    · have HY := Lib.hid hoky
      rw [show layOK xs ys = false by simp [layOK, hoky]]
      clear hx hy hokx hoky
      go_enter Tryz.func132, Tryz.ntmps132
      go_wp2_with fail
      refine (valid_yes hx'.out HX.out).mono ?_
      rintro e w' ⟨rfl, rfl⟩
      go_wp2_with fail
      refine (valid_no hy'.out HY.out).mono ?_
      rintro e w' ⟨rfl, rfl⟩
      go_wp2
      go_ret2
      exact ⟨⟨_, _, _, rfl, lit_nil w⟩, (Below.refl _ _).alloc (Nat.le_refl _) _⟩
    · have HY := Lib.hid hoky
      have hlx := (Bd.okB_iff xs).1 hokx
      have hly := (Bd.okB_iff ys).1 hoky
      have hll := hlx.1.trans hly.1.symm
      have hla := Bd.addL_length xs ys hll
      rw [show layOK xs ys = Bd.okB (Bd.addL xs ys) by rw [okB_fit (hla.trans hlx.1)]; simp [layOK, hokx, hoky]]
      have hn : n = 10 := by have := hx.len; omega
      have hm : m = 10 := by have := hy.len; omega
      subst hn
      subst hm
      have HLX := Lib.hid hlx
      have HLY := Lib.hid hly
      have HLA := Lib.hid (hla.trans hlx.1)
      have HLN := Lib.hid (lit_nil w)
      rcases hres : Bd.okB (Bd.addL xs ys) with _ | _
      all_goals
        have HRES := Lib.hid hres
        clear hx hy hokx hoky hlx hly hll hla hres
        go_enter Tryz.func132, Tryz.ntmps132
        go_wp2_with fail
        refine (valid_yes hx'.out HX.out).mono ?_
        rintro e w' ⟨rfl, rfl⟩
        go_wp2_with fail
        refine (valid_yes hy'.out HY.out).mono ?_
        rintro e w' ⟨rfl, rfl⟩
        go_wp2
        go_loopw [6, 7] (fun out i wr => ∃ (k : Nat) (A2 : Option Addr) (c2 : Nat), k ≤ 10 ∧ i = .int .i64 k ∧ out = .slice A2 k c2 ∧ Own wr w.heap.size A2 k c2 ((Bd.addL xs ys).take k) ∧ Below w.heap.size w wr) (fun _ i _ => 10 - (intOf i).toNat)
        case atStart => exact ⟨0, _, _, by omega, rfl, rfl, by simpa using HLN.out, (Below.refl _ _).alloc (Nat.le_refl _) _⟩
        case round =>
          obtain ⟨k, A2, c2, hk, rfl, rfl, hown, hbel⟩ := hrel
          have hB := hbel.size
          by_cases hlt : k < 10
          · obtain ⟨b1, o1, u, rfl, hb1, hu, hc1⟩ := (hx'.out.below hbel).at_ hlt
            obtain ⟨b2, o2, v, rfl, hb2, hv, hc2⟩ := (hy'.out.below hbel).at_ hlt
            obtain ⟨u0, u1⟩ := HLX.out.2 u (List.mem_of_getElem? hu)
            obtain ⟨v0, v1⟩ := HLY.out.2 v (List.mem_of_getElem? hv)
            have HN := Lib.hid (take_next (Bd.addL_get xs ys k u v hu hv))
            clear hu hv
            have i0 : (0 : Int) ≤ (k : Int) := by omega
            have i1 : (k : Int) < 10 := by omega
            have t1 : IntKind.i64.wrap (u + v) = u + v := IntWalk.i64_in _ (by omega)
            go_wp2_with fail
            go_region_law (refine step_app (w := wr.drew) rfl _ _ rfl rfl hown.drew [u + v] 1 rfl _ rfl _ rfl (by omega) hB ?_; intro A3 c3 w2 hown2 hg2)
            all_goals
              go_wp2
              go_roundw
              case rel => exact ⟨k + 1, _, _, by omega, by go_num, rfl, by rw [HN.out]; exact hown2, below_step hbel.drew hg2 hown.drew hB⟩
              case measure => simp [intOf]; omega
          · have e10 : (Bd.addL xs ys).take k = Bd.addL xs ys := List.take_of_length_le (by have := HLA.out; omega)
            rw [e10] at hown
            have HO := Lib.hid hown
            have HBL := Lib.hid hbel
            clear hown hbel e10
            go_wp2_with (go_at_call 104; refine (specBoardValid_any _ _ _ (Bd.addL xs ys) _ _ HO.out.ints).mono ?_; rintro e w' ⟨rfl, rfl⟩; rw [HRES.out])
            go_ret2
            first
              | exact ⟨⟨_, _, _, rfl, HO.out⟩, HBL.out⟩
              | exact ⟨⟨_, _, _, rfl, (lit_nil _).mono HBL.out.size⟩, HBL.out.alloc HBL.out.size _⟩

end Go.Proofs.YthdoofmfigemoaaGreatDoor
end

section
/-
  What the boards' laws read: facts on lists that are moved along; the words of the contracts at reduced boards.
-/
namespace Go.Proofs.YthdoofmfigemoaaGreatDoor
open Go.RowKit

theorem okV_iff (v : Int) : okV v = true ↔ 0 ≤ v ∧ v ≤ 99999 := by simp [okV]
theorem V_DD {v : Int} (h : okV v = true) : Bd.V true (Bd.D true 10 v) = v := by
  have := (okV_iff v).1 h
  exact Bd.V_D 10 true v this.1 (by rw [Bd.P10]; omega)
theorem redOK_D {v : Int} (h : okV v = true) : redOK (Bd.D true 10 v) = true := by simp [redOK, Bd.okB_D, V_DD h, h]
theorem redL_D {v : Int} (h : okV v = true) : redL (Bd.D true 10 v) = Bd.D true 10 v := by simp [redL, V_DD h]
theorem bVal_D {v : Int} (h : okV v = true) : bVal (Bd.D true 10 v) = v := by simp [bVal, Bd.okB_D, V_DD h]
theorem bCnt_D (v : Int) : bCnt (Bd.D true 10 v) = Bd.sum (Bd.D true 10 v) := by simp [bCnt, Bd.okB_D]
theorem bFew_yes {v : Int} (h : okV v = true) : bFew v = Bd.sum (Bd.D true 10 v) := by simp [bFew, h]
theorem isRed_D (v : Int) : (Bd.okB (Bd.D true 10 v) && Bd.isRed true (Bd.D true 10 v)) = true := by rw [Bd.okB_D, Bd.red_D]; rfl

theorem V_range {xs : List Int} (h : Bd.okB xs = true) : 0 ≤ Bd.V true xs ∧ Bd.V true xs ≤ 20000000 := by
  have h' := (Bd.okB_iff xs).1 h
  have := Bd.V_take_range h'.2 10 (Nat.le_refl _) (by omega)
  rw [List.take_of_length_le (by omega)] at this
  exact ⟨this.1, by omega⟩
theorem sum_range {xs : List Int} (h : Bd.okB xs = true) : 0 ≤ Bd.sum xs ∧ Bd.sum xs ≤ 200 := by
  have h' := (Bd.okB_iff xs).1 h
  have := Bd.sum_take_range h'.2 10 (by omega)
  rw [List.take_of_length_le (by omega)] at this
  exact ⟨this.1, by omega⟩
theorem bVal_yes {xs : List Int} (h : Bd.okB xs = true) : bVal xs = Bd.V true xs := by simp [bVal, h]
theorem bCnt_yes {xs : List Int} (h : Bd.okB xs = true) : bCnt xs = Bd.sum xs := by simp [bCnt, h]
theorem take_parts {xs ys : List Int} (h : takeOK xs ys = true) : Bd.okB xs = true ∧ Bd.okB ys = true ∧ okV (Bd.V true xs - Bd.V true ys) = true := by
  simp [takeOK] at h
  exact ⟨h.1.1, h.1.2, h.2⟩
theorem okB_of_fit {xs : List Int} (h : xs.length = 10) (hf : fitB xs = true) : Bd.okB xs = true := by rw [okB_fit h, hf]
theorem lay_parts {xs ys : List Int} (h : layOK xs ys = true) : Bd.okB xs = true ∧ Bd.okB ys = true ∧ Bd.okB (Bd.addL xs ys) = true ∧ xs.length = ys.length := by
  simp [layOK] at h
  have hx := ((Bd.okB_iff xs).1 h.1.1).1
  have hy := ((Bd.okB_iff ys).1 h.1.2).1
  exact ⟨h.1.1, h.1.2, okB_of_fit (by rw [Bd.addL_length _ _ (by omega)]; exact hx) h.2, by omega⟩
theorem V_lay {xs ys : List Int} (h : layOK xs ys = true) : bVal (Bd.addL xs ys) = Bd.V true xs + Bd.V true ys := by
  obtain ⟨_, _, h3, h4⟩ := lay_parts h
  rw [bVal_yes h3, Bd.V_addL _ _ _ h4]
end Go.Proofs.YthdoofmfigemoaaGreatDoor
end

section
/-
  A number laid twice, reduced, and told as a board.
-/
namespace Go.Proofs.YthdoofmfigemoaaGreatDoor
open Go.RowKit
set_option linter.unusedSimpArgs false
set_option maxRecDepth 100000

theorem D_small (n : Nat) : ∀ (b : Bool) (v : Int), ∀ x ∈ Bd.D b n v, 0 ≤ x ∧ x ≤ 4 := by
  induction n with
  | zero => intro b v x hx; cases hx
  | succ n ih =>
    intro b v x hx
    unfold Bd.D at hx
    rcases List.mem_cons.1 hx with rfl | hx
    · have h1 := Int.emod_nonneg v (show Bd.full b ≠ 0 by have := Bd.full_pos b; omega)
      have h2 := Int.emod_lt_of_pos v (Bd.full_pos b)
      rcases Bd.full_cases b with e | e <;> rw [e] at h1 h2 ⊢ <;> omega
    · exact ih (!b) _ x hx
theorem addL_fit : ∀ (xs ys : List Int), (∀ x ∈ xs, 0 ≤ x ∧ x ≤ 4) → (∀ y ∈ ys, 0 ≤ y ∧ y ≤ 4) → ∀ z ∈ Bd.addL xs ys, 0 ≤ z ∧ z ≤ 20
  | [], _, _, _, z, hz => by simp [Bd.addL] at hz
  | _ :: _, [], _, _, z, hz => by simp [Bd.addL] at hz
  | x :: xs, y :: ys, hx, hy, z, hz => by
    unfold Bd.addL at hz
    rcases List.mem_cons.1 hz with rfl | hz
    · have h1 := hx x List.mem_cons_self
      have h2 := hy y List.mem_cons_self
      omega
    · exact addL_fit xs ys (fun a ha => hx a (List.mem_cons_of_mem _ ha)) (fun a ha => hy a (List.mem_cons_of_mem _ ha)) z hz
theorem fitB_of {zs : List Int} (h : ∀ z ∈ zs, 0 ≤ z ∧ z ≤ 20) : fitB zs = true := by
  simp only [fitB, List.all_eq_true, Bool.and_eq_true, decide_eq_true_eq]
  exact h
theorem addL_zero : ∀ (ys : List Int) (n : Nat), ys.length = n → Bd.addL (List.replicate n 0) ys = ys
  | [], n, h => by cases h; rfl
  | y :: ys, n, h => by
    cases n with
    | zero => cases h
    | succ n =>
      simp only [List.replicate_succ, Bd.addL]
      rw [addL_zero ys n (by simpa using h)]
      simp
def zeros10 : List Int := List.replicate 10 0
theorem zeros10_ok : Bd.okB zeros10 = true := by decide
theorem lay_first {v : Int} (hv : okV v = true) : layOk St.start v = true ∧ Bd.addL St.start.bs (Bd.D true 10 v) = Bd.D true 10 v := by
  have e : Bd.addL St.start.bs (Bd.D true 10 v) = Bd.D true 10 v := addL_zero _ 10 (Bd.D_length _ _ _)
  refine ⟨?_, e⟩
  have h1 : Bd.okB St.start.bs = true := zeros10_ok
  simp only [layOk, layOK, hv, h1, Bd.okB_D, e, fitB_of (Bd.D_range 10 true v), Bool.and_self, Bool.true_and]
theorem lay_second {v : Int} (hv : okV v = true) : layOk ⟨Bd.D true 10 v, St.start.ds, St.start.ts⟩ v = true := by
  simp only [layOk, layOK, hv, Bd.okB_D, fitB_of (addL_fit _ _ (D_small 10 true v) (D_small 10 true v)), Bool.and_self, Bool.true_and]
theorem lay_twice {v : Int} (hv : okV v = true) (hv2 : okV (2 * v) = true) : redOK (Bd.addL (Bd.D true 10 v) (Bd.D true 10 v)) = true ∧ redL (Bd.addL (Bd.D true 10 v) (Bd.D true 10 v)) = Bd.D true 10 (2 * v) := by
  have hV : Bd.V true (Bd.addL (Bd.D true 10 v) (Bd.D true 10 v)) = 2 * v := by rw [Bd.V_addL _ _ _ rfl, V_DD hv]; omega
  have hok : Bd.okB (Bd.addL (Bd.D true 10 v) (Bd.D true 10 v)) = true := (Bd.okB_iff _).2 ⟨by rw [Bd.addL_length _ _ rfl, Bd.D_length], addL_fit _ _ (D_small 10 true v) (D_small 10 true v)⟩
  exact ⟨by simp only [redOK, hok, hV, hv2, Bool.and_self], by simp only [redL, hV]⟩
def wLay : List UInt8 := [108, 97, 121]
def wReduce : List UInt8 := [114, 101, 100, 117, 99, 101]
def wBoard : List UInt8 := [98, 111, 97, 114, 100]
def scriptLay (v : Int) : List UInt8 := wLay ++ 32 :: (Lib.itoa v ++ 10 :: (wLay ++ 32 :: (Lib.itoa v ++ 10 :: (wReduce ++ 10 :: (wBoard ++ [10])))))
theorem scriptLay_cut (v : Int) (h0 : 0 ≤ v) : cut 10 (scriptLay v) = [wLay ++ 32 :: Lib.itoa v, wLay ++ 32 :: Lib.itoa v, wReduce, wBoard] ++ [[]] := by
  have e : scriptLay v = (wLay ++ 32 :: Lib.itoa v) ++ 10 :: ((wLay ++ 32 :: Lib.itoa v) ++ 10 :: (wReduce ++ 10 :: (wBoard ++ 10 :: []))) := by simp [scriptLay]
  rw [e, cut_at 10 _ _ (nl_word (by decide) h0), cut_at 10 _ _ (nl_word (by decide) h0), cut_at 10 _ _ (by decide), cut_at 10 _ _ (by decide)]
  rfl
def okL : List UInt8 := [111, 107, 10]
def outLay (v : Int) : List UInt8 := okL ++ (okL ++ (okL ++ (bdText (Bd.D true 10 (2 * v)) ++ [10])))
theorem scriptLay_runs (v : Int) (hv : okV v = true) (hv2 : okV (2 * v) = true) :
    Runs [wLay ++ 32 :: Lib.itoa v, wLay ++ 32 :: Lib.itoa v, wReduce, wBoard] St.start (outLay v) ⟨Bd.D true 10 (2 * v), St.start.ds, St.start.ts⟩ := by
  have hb : 0 ≤ v ∧ v ≤ 99999 := by simpa [okV] using hv
  have hsz := itoa_size v hb.1 (by omega)
  obtain ⟨a1, a2⟩ := lay_first hv
  have a3 := lay_second hv
  obtain ⟨a4, a5⟩ := lay_twice hv hv2
  have l1 : LineDoes (wLay ++ 32 :: Lib.itoa v) St.start okT ⟨Bd.D true 10 v, St.start.ds, St.start.ts⟩ := by
    have hc := does_lay St.start v
    rw [a1, a2] at hc
    exact line_does (by simp [wLay]; omega) (good1 (k := wLay) (by decide) (by rfl) hb.1 (by omega)) (by decide) hc
  have l2 : LineDoes (wLay ++ 32 :: Lib.itoa v) ⟨Bd.D true 10 v, St.start.ds, St.start.ts⟩ okT ⟨Bd.addL (Bd.D true 10 v) (Bd.D true 10 v), St.start.ds, St.start.ts⟩ := by
    have hc := does_lay ⟨Bd.D true 10 v, St.start.ds, St.start.ts⟩ v
    rw [a3] at hc
    exact line_does (by simp [wLay]; omega) (good1 (k := wLay) (by decide) (by rfl) hb.1 (by omega)) (by decide) hc
  have l3 : LineDoes wReduce ⟨Bd.addL (Bd.D true 10 v) (Bd.D true 10 v), St.start.ds, St.start.ts⟩ okT ⟨Bd.D true 10 (2 * v), St.start.ds, St.start.ts⟩ := by
    have hc := does_reduce ⟨Bd.addL (Bd.D true 10 v) (Bd.D true 10 v), St.start.ds, St.start.ts⟩
    simp only [a4, a5, if_true] at hc
    exact line_does (by decide) (good0 (k := wReduce) (by decide) (by rfl)) (by decide) hc
  have l4 : LineDoes wBoard ⟨Bd.D true 10 (2 * v), St.start.ds, St.start.ts⟩ (bs (bdText (Bd.D true 10 (2 * v))) ++ ⟨#[10]⟩) ⟨Bd.D true 10 (2 * v), St.start.ds, St.start.ts⟩ :=
    line_does (by decide) (good0 (k := wBoard) (by decide) (by rfl)) (by decide) (does_board ⟨Bd.D true 10 (2 * v), St.start.ds, St.start.ts⟩ (Bd.okB_D _))
  have r := Runs.cons l1 (Runs.cons l2 (Runs.cons l3 (Runs.cons l4 (Runs.nil _))))
  have e1 : okT.data.toList = okL := rfl
  have e2 : (bs (bdText (Bd.D true 10 (2 * v))) ++ ⟨#[10]⟩).data.toList = bdText (Bd.D true 10 (2 * v)) ++ [10] := bs_line _
  rw [e1, e2, List.append_nil] at r
  exact r
theorem Execute_lay (v : Int) (hv : okV v = true) (hv2 : okV (2 * v) = true) (w : World) (hm : Max w) (hpw : Pow w.heap.size w) {s : ByteArray} (hs : s = bs (scriptLay v)) :
    Calls Tryz.prog 13 #[.string s] w fun e w' => e = .returned (.string (bs (outLay v ++ endL (2 * v) 0))) ∧ Below w.heap.size w w' := by
  subst hs
  have hb : 0 ≤ v ∧ v ≤ 99999 := by simpa [okV] using hv
  have hz := itoa_size v hb.1 (by omega)
  have hsz : (bs (scriptLay v)).size ≤ 400 := by
    have e : (bs (scriptLay v)).size = (scriptLay v).length := by show (scriptLay v).toArray.size = _; simp
    rw [e]
    simp [scriptLay, wLay, wReduce, wBoard]
    omega
  have hl := bdText_len (Bd.D_length 10 true (2 * v)) (Bd.D_range 10 true (2 * v))
  have hol : (outLay v).length ≤ 100000 := by simp [outLay, okL]; omega
  have hx := Execute_any (bs (scriptLay v)) _ ⟨Bd.D true 10 (2 * v), St.start.ds, St.start.ts⟩ (outLay v) w hsz (by rw [bs_list]; exact scriptLay_cut v hb.1) (scriptLay_runs v hv hv2) hm hpw hol (by show _ ≤ bVal (Bd.D true 10 (2 * v)) ∧ bVal (Bd.D true 10 (2 * v)) ≤ _; rw [bVal_D hv2]; omega)
  have e : endL (bVal (Bd.D true 10 (2 * v))) ((St.start.ts).length : Int) = endL (2 * v) 0 := by rw [bVal_D hv2]; rfl
  simp only [e] at hx
  exact hx
end Go.Proofs.YthdoofmfigemoaaGreatDoor
end

section
/-
  Raises and lowerings: what is read off the board behind one.
-/
namespace Go.Proofs.YthdoofmfigemoaaGreatDoor
open Go.RowKit

theorem raise_parts {xs : List Int} {p : Int} (h : raiseOK xs p = true) : Bd.okB xs = true ∧ 0 ≤ p ∧ p < 9 ∧ Bd.okB (Bd.raiseL xs p.toNat) = true := by
  simp [raiseOK] at h
  exact ⟨h.1.1.1, h.1.1.2, h.1.2, okB_of_fit (by rw [Bd.raiseL_length]; exact ((Bd.okB_iff xs).1 h.1.1.1).1) h.2⟩
theorem lower_parts {xs : List Int} {p : Int} (h : lowerOK xs p = true) : Bd.okB xs = true ∧ 1 ≤ p ∧ p < 10 ∧ Bd.okB (Bd.lowerL xs p.toNat) = true := by
  simp [lowerOK] at h
  exact ⟨h.1.1.1, h.1.1.2, h.1.2, okB_of_fit (by rw [Bd.lowerL_length]; exact ((Bd.okB_iff xs).1 h.1.1.1).1) h.2⟩
theorem fit_of_okB {xs : List Int} (h : Bd.okB xs = true) : fitB xs = true := by rw [← okB_fit ((Bd.okB_iff xs).1 h).1]; exact h
theorem lower_raise {xs : List Int} {p : Nat} (h : p + 1 < xs.length) : Bd.lowerL (Bd.raiseL xs p) (p + 1) = xs := by
  have := Bd.move_back xs p (0 - Bd.grp p) 1 h
  simpa [Bd.lowerL, Bd.raiseL] using this
theorem raise_lower {xs : List Int} {p : Nat} (h : p + 1 < xs.length) : Bd.raiseL (Bd.lowerL xs (p + 1)) p = xs := by
  have := Bd.move_back xs p (Bd.grp p) (-1) h
  simpa [Bd.lowerL, Bd.raiseL] using this
theorem V_raise {xs : List Int} {p : Nat} (h : p + 1 < xs.length) : Bd.V true (Bd.raiseL xs p) = Bd.V true xs := by
  have := Bd.V_move xs true p 1 h
  simpa [Bd.raiseL, Bd.nthG_grp] using this
theorem V_lower {xs : List Int} {p : Nat} (h : p + 1 < xs.length) : Bd.V true (Bd.lowerL xs (p + 1)) = Bd.V true xs := by
  have := Bd.V_move xs true p (-1) h
  simpa [Bd.lowerL, Bd.nthG_grp] using this
theorem sum_raise {xs : List Int} {p : Nat} (h : p + 1 < xs.length) : Bd.sum (Bd.raiseL xs p) = Bd.sum xs - Bd.grp p + 1 := by
  have := Bd.sum_move xs p (0 - Bd.grp p) 1 h
  rw [Bd.raiseL, this]; omega
theorem sum_lower {xs : List Int} {p : Nat} (h : p + 1 < xs.length) : Bd.sum (Bd.lowerL xs (p + 1)) = Bd.sum xs + Bd.grp p - 1 := by
  have := Bd.sum_move xs p (Bd.grp p) (-1) h
  rw [Bd.lowerL, show p + 1 - 1 = p from rfl, this]; omega
theorem R_raise {xs : List Int} {p : Nat} (h : p + 1 < xs.length) : Bd.R true 0 (Bd.raiseL xs p) = Bd.R true 0 xs - 1 := by
  have := Bd.R_move p true 0 xs h
  simpa [Bd.raiseL, Bd.nthG_grp] using this
/-- a raise, taken back -/
theorem raise_back {xs : List Int} {p : Int} (h : raiseOK xs p = true) : lowerOK (Bd.raiseL xs p.toNat) (p + 1) = true ∧ Bd.lowerL (Bd.raiseL xs p.toNat) (p + 1).toNat = xs := by
  obtain ⟨h1, h2, h3, h4⟩ := raise_parts h
  have hl := ((Bd.okB_iff xs).1 h1).1
  have e : (p + 1).toNat = p.toNat + 1 := by omega
  have e2 : Bd.lowerL (Bd.raiseL xs p.toNat) (p + 1).toNat = xs := by rw [e]; exact lower_raise (by omega)
  refine ⟨?_, e2⟩
  simp only [lowerOK, e2, h4, fit_of_okB h1]
  simp; omega
theorem lower_back {xs : List Int} {p : Int} (h : lowerOK xs p = true) : raiseOK (Bd.lowerL xs p.toNat) (p - 1) = true ∧ Bd.raiseL (Bd.lowerL xs p.toNat) (p - 1).toNat = xs := by
  obtain ⟨h1, h2, h3, h4⟩ := lower_parts h
  have hl := ((Bd.okB_iff xs).1 h1).1
  have e : p.toNat = (p - 1).toNat + 1 := by omega
  have e2 : Bd.raiseL (Bd.lowerL xs p.toNat) (p - 1).toNat = xs := by rw [e]; exact raise_lower (by omega)
  refine ⟨?_, e2⟩
  simp only [raiseOK, e2, h4, fit_of_okB h1]
  simp; omega
/-- the numbers a raise turns -/
theorem raise_nums {xs : List Int} {p : Int} (h : raiseOK xs p = true) : bVal (Bd.raiseL xs p.toNat) = Bd.V true xs ∧ ∃ g, (g = 5 ∨ g = 2) ∧ bCnt (Bd.raiseL xs p.toNat) = Bd.sum xs - g + 1 := by
  obtain ⟨h1, h2, h3, h4⟩ := raise_parts h
  have hl := ((Bd.okB_iff xs).1 h1).1
  exact ⟨by rw [bVal_yes h4, V_raise (by omega)], _, Bd.grp_cases _, by rw [bCnt_yes h4, sum_raise (by omega)]⟩
theorem lower_nums {xs : List Int} {p : Int} (h : lowerOK xs p = true) : bVal (Bd.lowerL xs p.toNat) = Bd.V true xs ∧ ∃ g, (g = 5 ∨ g = 2) ∧ bCnt (Bd.lowerL xs p.toNat) = Bd.sum xs + g - 1 := by
  obtain ⟨h1, h2, h3, h4⟩ := lower_parts h
  have hl := ((Bd.okB_iff xs).1 h1).1
  obtain ⟨q, hq⟩ : ∃ q : Nat, p.toNat = q + 1 := ⟨p.toNat - 1, by omega⟩
  rw [hq] at h4 ⊢
  exact ⟨by rw [bVal_yes h4, V_lower (by omega)], _, Bd.grp_cases q, by rw [bCnt_yes h4, sum_lower (by omega)]⟩
theorem raise_rais {xs : List Int} {p : Int} (h : raiseOK xs p = true) : (bRais xs = -1) ∨ (bRais (Bd.raiseL xs p.toNat) = bRais xs - 1 ∧ 0 ≤ bRais xs ∧ bRais xs ≤ 1000) := by
  obtain ⟨h1, h2, h3, h4⟩ := raise_parts h
  have hl := ((Bd.okB_iff xs).1 h1)
  by_cases hv : Bd.V true xs ≤ 99999
  · right
    have hs := sum_range h1
    have e1 : bRais xs = Bd.R true 0 xs := by simp [bRais, h1, hv]
    have e2 : bRais (Bd.raiseL xs p.toNat) = Bd.R true 0 (Bd.raiseL xs p.toNat) := by
      have : Bd.V true (Bd.raiseL xs p.toNat) ≤ 99999 := by rw [V_raise (by omega)]; exact hv
      simp [bRais, h4, this]
    have h0 := Bd.R_nonneg xs true 0 (by omega) (fun x hx => (hl.2 x hx).1)
    have hR := Bd.R_sum xs true 0 (by omega) (fun x hx => (hl.2 x hx).1)
    rw [e1, e2, R_raise (by omega)]
    refine ⟨rfl, h0, ?_⟩
    have hC := Bd.C_nonneg xs true 0 (by omega) (fun x hx => (hl.2 x hx).1)
    have hN := Bd.D_eq_N xs true 0
    have hD := sum_range (Bd.okB_D (Bd.V true xs + 0))
    rw [hl.1] at hN
    rw [hN] at hD
    omega
  · left
    simp [bRais, hv]
end Go.Proofs.YthdoofmfigemoaaGreatDoor
end

section
/-
  FnExecuteLay returns true for every code: numbers are laid and reduced.
-/
namespace Go.Proofs.YthdoofmfigemoaaGreatDoor.fnExecuteLay
open Go.RowKit
set_option linter.unusedSimpArgs false

theorem script_eq (v : Int) : (((⟨#[108, 97, 121, 32]⟩ ++ dec v) ++ ⟨#[10, 108, 97, 121, 32]⟩) ++ dec v) ++ ⟨#[10, 114, 101, 100, 117, 99, 101, 10, 98, 111, 97, 114, 100, 10]⟩ = bs (scriptLay v) := by
  show (((bs [108, 97, 121, 32] ++ bs (Lib.itoa v)) ++ bs [10, 108, 97, 121, 32]) ++ bs (Lib.itoa v)) ++ bs [10, 114, 101, 100, 117, 99, 101, 10, 98, 111, 97, 114, 100, 10] = _
  simp only [bs_append]
  congr 1
  simp [scriptLay, wLay, wReduce, wBoard]
theorem answer_eq (v : Int) : ((⟨#[111, 107, 10, 111, 107, 10, 111, 107, 10]⟩ ++ bs (bdText (Bd.D true 10 (2 * v)))) ++ ⟨#[10]⟩) ++ bs (endL (2 * v) 0) = bs (outLay v ++ endL (2 * v) 0) := by
  show ((bs [111, 107, 10, 111, 107, 10, 111, 107, 10] ++ bs (bdText (Bd.D true 10 (2 * v)))) ++ bs [10]) ++ bs (endL (2 * v) 0) = _
  simp only [bs_append]
  simp [outLay, okL]
set_option maxRecDepth 100000 in
set_option maxHeartbeats 4000000 in
theorem walk (a0 : Option Addr) (len0 cap0 : Nat) (z0 : List Int) (w : World) (w0 : IsRow .u8 w a0 len0 cap0 z0) (hm : Max w) (hp : Pow w.heap.size w) :
    Calls Tryz.prog 7 #[.slice a0 len0 cap0] w fun e w' => e = .returned (.bool true) ∧ Below w.heap.size w w' := by
  by_cases hbig : 1048576 < len0
  · clear w0
    go_enter Tryz.func7, Tryz.ntmps7
    go_wp2
    go_ret
    exact ⟨rfl, Below.refl _ _⟩
  · have HC := Lib.hid (Bytes.of_row w0)
    have HM := Lib.hid hm
    have HP := Lib.hid hp
    have h0w : 0 < w.heap.size := by obtain ⟨m, hm0⟩ := hm; exact World.block_lt_of_cell? w _ hm0
    clear w0 hm hp
    go_enter Tryz.func7, Tryz.ntmps7
    go_wp2_with fail
    refine (DrawBoardOf_any _ _ _ _ HC.out (by omega)).mono ?_
    rintro e w1 ⟨v, rfl, hv0, hv1, hb1⟩
    have HB1 := Lib.hid hb1
    clear hb1
    rcases hok : okV v with _ | _
    · have HOK := Lib.hid hok
      clear hok
      go_wp2_with fail
      have hcall := fun w => BoardOf_any v w
      rw [HOK.out] at hcall
      refine (hcall _).mono ?_
      clear hcall
      rintro e w2 ⟨⟨A2, n2, c2, rfl, ho2⟩, hb2⟩
      simp only [Bool.false_eq_true, if_false] at ho2
      have HB2 := Lib.hid (below_chain HB1.out hb2)
      clear hb2
      have HI2 := Lib.hid ho2.ints
      clear ho2
      go_wp2_with fail
      have hcall := fun w => specBoardOf_any v w
      rw [HOK.out] at hcall
      refine (hcall _).mono ?_
      clear hcall
      rintro e w3 ⟨⟨A3, n3, c3, rfl, ho3⟩, hb3⟩
      simp only [Bool.false_eq_true, if_false] at ho3
      replace HI2 := Lib.hid (HI2.out.next hb3)
      have HB3 := Lib.hid (below_chain HB2.out hb3)
      clear hb3
      have HI3 := Lib.hid ho3.ints
      clear ho3
      go_wp2_with fail
      refine (sameInts_any _ _ _ _ _ _ _ _ _ _ _ HI2.out HI3.out).mono ?_
      rintro e w4 ⟨rfl, q4, hw4⟩
      rw [sameB_self]
      replace HI2 := Lib.hid (ints_same HI2.out hw4)
      replace HI3 := Lib.hid (ints_same HI3.out hw4)
      replace HB3 := Lib.hid (below_same HB3.out hw4)
      clear hw4
      go_wp2_with fail
      refine (sameInts_any _ _ _ _ _ _ _ _ _ _ _ HI2.out HI3.out).mono ?_
      rintro e w5 ⟨rfl, q5, hw5⟩
      rw [sameB_self]
      replace HB3 := Lib.hid (below_same HB3.out hw5)
      clear hw5
      go_wp2
      go_ret
      exact ⟨rfl, HB3.out⟩
    · have HOK := Lib.hid hok
      have hvb : 0 ≤ v ∧ v ≤ 99999 := by simpa [okV] using hok
      obtain ⟨V, rfl⟩ := Int.eq_ofNat_of_zero_le hvb.1
      have hV9 : V ≤ 99999 := by omega
      clear hok hvb hv0 hv1
      go_wp2_with fail
      have hcall := fun w => BoardOf_any (V : Int) w
      rw [HOK.out] at hcall
      refine (hcall _).mono ?_
      clear hcall
      rintro e w2 ⟨⟨A2, n2, c2, rfl, ho2⟩, hb2⟩
      simp only [if_true] at ho2
      have HB2 := Lib.hid (below_chain HB1.out hb2)
      clear hb2
      have HI2 := Lib.hid ho2.ints
      clear ho2
      go_wp2_with fail
      have hcall := fun w => specBoardOf_any (V : Int) w
      rw [HOK.out] at hcall
      refine (hcall _).mono ?_
      clear hcall
      rintro e w3 ⟨⟨A3, n3, c3, rfl, ho3⟩, hb3⟩
      simp only [if_true] at ho3
      replace HI2 := Lib.hid (HI2.out.next hb3)
      have HB3 := Lib.hid (below_chain HB2.out hb3)
      clear hb3
      have HI3 := Lib.hid ho3.ints
      clear ho3
      go_wp2_with fail
      refine (sameInts_any _ _ _ _ _ _ _ _ _ _ _ HI2.out HI3.out).mono ?_
      rintro e w4 ⟨rfl, q4, hw4⟩
      rw [sameB_self]
      replace HB3 := Lib.hid (below_same HB3.out hw4)
      clear hw4 HI2 HI3
      have h2w : IntKind.i64.wrap (2 * (V : Int)) = 2 * (V : Int) := IntWalk.i64_in _ (by omega)
      by_cases hbg : 2 * V ≤ 99999
      · have hok2 : okV (2 * (V : Int)) = true := by simp [okV]; omega
        have HE := Lib.hid (show ∀ w : World, Max w → Pow w.heap.size w → ∀ s : ByteArray, s = bs (scriptLay V) → Calls Tryz.prog 13 #[.string s] w fun e w' => e = .returned (.string (bs (outLay V ++ endL (2 * (V : Int)) 0))) ∧ Below w.heap.size w w' from fun w h1 h2 s h3 => Execute_lay V HOK.out hok2 w h1 h2 h3)
        have HA := Lib.hid (answer_eq (V : Int))
        have HS := Lib.hid (script_eq (V : Int))
        have HOK2 := Lib.hid hok2
        have hbl := bdText_len (Bd.D_length 10 true (2 * (V : Int))) (Bd.D_range 10 true (2 * (V : Int)))
        have hbz : (bs (bdText (Bd.D true 10 (2 * (V : Int))))).size ≤ 300 := by
          have e : (bs (bdText (Bd.D true 10 (2 * (V : Int))))).size = (bdText (Bd.D true 10 (2 * (V : Int)))).length := by show (bdText (Bd.D true 10 (2 * (V : Int)))).toArray.size = _; simp
          omega
        have HBT := Lib.hid (show ∀ (A : Option Addr) (n c : Nat) (w : World), Ints w w.heap.size A n (Bd.D true 10 (2 * (V : Int))) → Pow w.heap.size w → Calls Tryz.prog 28 #[.slice A n c] w fun e w' => e = .returned (.string (bs (bdText (Bd.D true 10 (2 * (V : Int)))))) ∧ Below w.heap.size w w' from fun A n c w hi hp => BoardText_yes A n c _ w hi (Bd.okB_D _) hp (by omega))
        have HDV := Lib.hid (show ∀ w : World, Calls Tryz.prog 21 #[.int .i64 (V : Int)] w fun e w' => e = .returned (.string (dec V)) ∧ Below w.heap.size w w' from fun w => digits_any V (by omega) w)
        have HDL := Lib.hid (show ∀ w : World, Calls Tryz.prog 23 #[.int .i64 (2 * (V : Int)), .int .i64 0] w fun e w' => e = .returned (.string (bs (endL (2 * (V : Int)) 0))) ∧ Below w.heap.size w w' from fun w => endLine_any (2 * V) 0 (by omega) (by omega) w)
        have k1 := dec_size (V : Int) (by omega) (by omega)
        have k2 := endL_size (2 * (V : Int)) 0 (by omega) (by omega) (by omega) (by omega)
        obtain ⟨D, hD⟩ : ∃ D, dec (V : Int) = D := ⟨_, rfl⟩
        obtain ⟨T, hT⟩ : ∃ T, bs (bdText (Bd.D true 10 (2 * (V : Int)))) = T := ⟨_, rfl⟩
        obtain ⟨L, hL⟩ : ∃ L, bs (endL (2 * (V : Int)) 0) = L := ⟨_, rfl⟩
        obtain ⟨R, hRR⟩ : ∃ R, bs (outLay V ++ endL (2 * (V : Int)) 0) = R := ⟨_, rfl⟩
        rw [hD] at k1 HS HDV
        rw [hT] at hbz HA HBT
        rw [hL] at k2 HA HDL
        rw [hRR] at HA HE
        have m1 := no_long (n := 4) (by omega) D.size (by omega)
        have m2 := no_long (n := 4 + D.size) (by omega) 5 (by omega)
        have m3 := no_long (n := 4 + D.size + 5) (by omega) D.size (by omega)
        have m4 := no_long (n := 4 + D.size + 5 + D.size) (by omega) 14 (by omega)
        have m5 := no_long (n := 9) (by omega) T.size (by omega)
        have m6 := no_long (n := 9 + T.size) (by omega) 1 (by omega)
        have m7 := no_long (n := 9 + T.size + 1) (by omega) L.size (by omega)
        clear hok2 hbl hD hT hL hRR
        go_wp2_with fail
        have hcall := fun w => BoardOf_any (2 * (V : Int)) w
        rw [HOK2.out] at hcall
        refine (hcall _).mono ?_
        clear hcall
        rintro e w5 ⟨⟨A5, n5, c5, rfl, ho5⟩, hb5⟩
        simp only [if_true] at ho5
        have HI5 := Lib.hid ho5.ints
        have HB5 := Lib.hid (below_chain HB3.out hb5)
        clear hb5 ho5
        go_wp2_with fail
        refine (HDV.out _).mono ?_
        rintro e w6 ⟨rfl, hb6⟩
        have HI6 := Lib.hid (HI5.out.next hb6)
        have HB6 := Lib.hid (below_chain HB5.out hb6)
        clear hb6
        go_wp2_with fail
        refine (HDV.out _).mono ?_
        rintro e w7 ⟨rfl, hb7⟩
        have HI7 := Lib.hid (HI6.out.next hb7)
        have HB7 := Lib.hid (below_chain HB6.out hb7)
        clear hb7
        have HM7 := Lib.hid (show Max w7 from by obtain ⟨m, hm⟩ := HM.out; exact ⟨m, (HB7.out.cell (p := ⟨0, 0, none⟩) h0w).trans hm⟩)
        have HP7 := Lib.hid (show Pow w7.heap.size w7 from fun w' hb => HP.out w' (HB7.out.trans (hb.mono HB7.out.size)))
        go_wp2_with fail
        rw [HS.out]
        refine (HE.out _ HM7.out HP7.out _ rfl).mono ?_
        rintro e w8 ⟨rfl, hb8⟩
        have HI8 := Lib.hid (HI7.out.next hb8)
        have HB8 := Lib.hid (below_chain HB7.out hb8)
        clear hb8
        have HP8 := Lib.hid (show Pow w8.heap.size w8 from fun w' hb => HP.out w' (HB8.out.trans (hb.mono HB8.out.size)))
        go_wp2_with fail
        refine (HBT.out _ _ _ _ HI8.out HP8.out).mono ?_
        rintro e w9 ⟨rfl, hb9⟩
        have HB9 := Lib.hid (below_chain HB8.out hb9)
        clear hb9
        go_wp2_with fail
        refine (HDL.out _).mono ?_
        rintro e w10 ⟨rfl, hb10⟩
        have HB10 := Lib.hid (below_chain HB9.out hb10)
        clear hb10
        go_wp2_with fail
        rw [HA.out]
        go_ret
        exact ⟨by simp, HB10.out⟩
      · have hok2 : okV (2 * (V : Int)) = false := by simp [okV]; omega
        have HOK2 := Lib.hid hok2
        have hgt : 2 * (V : Int) > 99999 := by omega
        clear hok2
        go_wp2_with fail
        have hcall := fun w => BoardOf_any (2 * (V : Int)) w
        rw [HOK2.out] at hcall
        refine (hcall _).mono ?_
        clear hcall
        rintro e w5 ⟨⟨A5, n5, c5, rfl, ho5⟩, hb5⟩
        have HB5 := Lib.hid (below_chain HB3.out hb5)
        clear hb5 ho5
        go_wp2_with fail
        go_ret
        exact ⟨rfl, HB5.out⟩
end Go.Proofs.YthdoofmfigemoaaGreatDoor.fnExecuteLay
end
