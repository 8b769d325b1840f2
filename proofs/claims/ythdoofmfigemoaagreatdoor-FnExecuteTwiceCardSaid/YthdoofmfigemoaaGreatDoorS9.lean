/-
  Joined texts.
-/
import Derived.Test.YthdoofmfigemoaaGreatDoorS5
import Derived.Test.YthdoofmfigemoaaGreatDoorS6
import Derived.Test.YthdoofmfigemoaaGreatDoorS7
set_option linter.unusedSimpArgs false
set_option linter.unusedVariables false
set_option maxRecDepth 100000
set_option maxHeartbeats 4000000
namespace Go.Proofs.YthdoofmfigemoaaGreatDoor
open Go.RowKit
structure St where
 bs : List Int
 ds : List Int
 ts : List Tl
def Tb (B0 : Nat) (w : World) (tb : Nat) (s : St) : Prop := Tab B0 w tb s.bs s.ds s.ts
def LineDoes (line : List UInt8) (s : St) (out : ByteArray) (s' : St) : Prop :=
 ∀ (B0 tb : Nat) (w : World), Tb B0 w tb s → B0 ≤ w.heap.size → Max w → Pow B0 w →
  Calls Tryz.prog 46 #[.pointer (some ⟨tb, 0, none⟩), .string (bs line)] w (fun e w' => e = .returned (.string out) ∧ Tb B0 w' tb s' ∧ KeptT B0 w w')
def noT : ByteArray := ⟨#[110, 111, 10]⟩
def CmdDoes (fid : Nat) (nums : List Int) (s : St) (out : ByteArray) (s' : St) : Prop :=
 (∀ (args : Array Value) (w : World), (callFunc fid args).run Tryz.prog w = .ok (.enter fid args) w) ∧
 ∀ (B0 tb : Nat) (w : World) (A : Option Addr) (n : Nat), Own w B0 A nums.length n nums → Tb B0 w tb s → B0 ≤ w.heap.size → Pow B0 w →
  Calls Tryz.prog fid #[.pointer (some ⟨tb, 0, none⟩), .slice A nums.length n] w (CmdPost B0 (fun t ok w' => (if ok then t else noT) = out ∧ Tb B0 w' tb s') w)
theorem KeptT.set2 {B0 : Nat} {w w2 : World} (h : KeptT B0 w w2) (x y : Value) : KeptT B0 w ((w2.setCell ⟨w.heap.size, 0, none⟩ x).setCell ⟨w.heap.size, 0, none⟩ y) :=
 ⟨h.os, h.tape, h.output, by have := h.size; simpa [World.setCell] using this, fun k hk hn =>
  (heap_setCell_other _ _ k _ (by simp only; omega)).trans ((heap_setCell_other _ _ k _ (by simp only; omega)).trans (h.block k hk hn))⟩
theorem line_does {line : List UInt8} {c : Nat × Nat} {nums : List Int} {s s' : St} {out : ByteArray} (hl : line.length ≤ 1000) (hg : Good line c nums) (hc3 : c.1 ≤ 3) (hr : CmdDoes c.2 nums s out s') : LineDoes line s out s' := by
 intro B0 tb w ht hw hm hp
 have hbs : (bs line).data.toList = line := by simp [bs]
 have hsz : (bs line).size ≤ 1000 := by
  have e : (bs line).size = line.length := by show line.toArray.size = _; simp
  omega
 refine (runLine_good B0 ⟨tb, 0, none⟩ (bs line) c nums w (fun t ok w' => (if ok then t else noT) = out ∧ Tb B0 w' tb s') hsz hm (by rw [hbs]; exact hg) hc3 hr.1 ?_).mono ?_
 ·intro w1 A n ho hb
  exact hr.2 B0 tb w1 A n (ho.mono (by omega)) (Tab.next ht hb) (Nat.le_trans hw hb.size) (hp.below (hb.mono hw))
 ·rintro e w' ⟨t, ok, w2, x, rfl, ⟨hout, ht2⟩, hk, hblk, rfl⟩
  refine ⟨?_, ?_, hk.set2 _ _⟩
  ·rw [← hout]; rfl
  ·exact Tab.far (Tab.far ht2 hblk (by decide) (by decide) (by decide) 0 _) (hblk.set 0 _) (by decide) (by decide) (by decide) 0 _
inductive Runs : List (List UInt8) → St → List UInt8 → St → Prop
 | nil (s : St) : Runs [] s [] s
 | cons {line : List UInt8} {ls : List (List UInt8)} {s s1 s2 : St} {o : ByteArray} {r : List UInt8} (h : LineDoes line s o s1) (k : Runs ls s1 r s2) : Runs (line :: ls) s (o.data.toList ++ r) s2
theorem bs_append (l r : List UInt8) : bs l ++ bs r = bs (l ++ r) := ByteArray.mk_append_mk l r
theorem cut_count (c : UInt8) : ∀ l : List UInt8, (cut c l).length ≤ l.length + 1
 | [] => by simp [cut]
 | b :: l => by
  have ih := cut_count c l
  unfold cut
  split
  ·simp; omega
  ·cases hc : cut c l with
   | nil => simp
   | cons y ys => rw [hc] at ih; simp at ih ⊢; omega
def endL (v n : Int) : List UInt8 := [118, 97, 108, 117, 101, 32] ++ Lib.itoa v ++ [32, 116, 97, 108, 108, 105, 101, 115, 32] ++ Lib.itoa n ++ [10]
def St.start : St := ⟨List.replicate 10 0, List.replicate 4 0, []⟩
theorem tb_new (w : World) : Blk ((w.alloc (.cells (IV (List.replicate 10 0)).toArray 3)).alloc (.cells #[.slice (some ⟨w.heap.size, 0, none⟩) 10 10, .slice none 0 0, .slice none 0 0, .slice none 0 0] 62)) (w.heap.size + 1) #[.slice (some ⟨w.heap.size, 0, none⟩) 10 10, .slice none 0 0, .slice none 0 0, .slice none 0 0] 62 := by
 have := Blk.new (w.alloc (.cells (IV (List.replicate 10 0)).toArray 3)) #[.slice (some ⟨w.heap.size, 0, none⟩) 10 10, .slice none 0 0, .slice none 0 0, .slice none 0 0] 62
 rw [World.size_alloc] at this
 exact this
theorem endL_eq (V : Int) (n : Nat) : (((⟨#[118, 97, 108, 117, 101, 32]⟩ ++ dec V) ++ ⟨#[32, 116, 97, 108, 108, 105, 101, 115, 32]⟩) ++ dec (n : Int)) ++ ⟨#[10]⟩ = bs (endL V n) := by
 show (((bs [118, 97, 108, 117, 101, 32] ++ bs (Lib.itoa V)) ++ bs [32, 116, 97, 108, 108, 105, 101, 115, 32]) ++ bs (Lib.itoa (n : Int))) ++ bs [10] = _
 simp only [bs_append]
 congr 1
theorem Bu.blk {w : World} {B b : Nat} {l : List UInt8} (h : Bu w B b l) : ∃ cb, Blk w b cb 65 := by
 rcases h with h | h
 ·obtain ⟨_, v, hb, _⟩ := h
  exact ⟨_, hb⟩
 ·obtain ⟨_, v, hb, _⟩ := h
  exact ⟨_, hb⟩
theorem CmdPost.mono {B0 : Nat} {Q Q' : ByteArray → Bool → World → Prop} {w w' : World} {e : Ending} (h : CmdPost B0 Q w e w') (k : ∀ s ok w', Q s ok w' → Q' s ok w') : CmdPost B0 Q' w e w' := by
 obtain ⟨s, ok, rfl, hq, hk⟩ := h
 exact ⟨s, ok, rfl, k s ok w' hq, hk⟩
theorem does_reduce (s : St) : CmdDoes 157 [] s (if redOK s.bs then okT else noT) { s with bs := if redOK s.bs then redL s.bs else s.bs } := by
 refine ⟨fun args w => by simp [go_sem], fun B0 tb w A n hn ht hw hp => ?_⟩
 refine (reduce_any B0 tb s.bs s.ds s.ts _ w ht hw _ rfl).mono fun e w' h => h.mono ?_
 rintro t ok w2 ⟨rfl, rfl, h⟩
 exact ⟨by cases redOK s.bs <;> rfl, h⟩
theorem does_raise (s : St) (x : Int) : CmdDoes 158 [x] s (if raiseOK s.bs x then okT else noT) { s with bs := if raiseOK s.bs x then Bd.raiseL s.bs x.toNat else s.bs } := by
 refine ⟨fun args w => by simp [go_sem], fun B0 tb w A n hn ht hw hp => ?_⟩
 refine (raise_any B0 tb s.bs s.ds s.ts x A n w hn ht hw _ rfl).mono fun e w' h => h.mono ?_
 rintro t ok w2 ⟨rfl, rfl, h⟩
 exact ⟨by cases raiseOK s.bs x <;> rfl, h⟩
def layOk (s : St) (x : Int) : Bool := okV x && layOK s.bs (Bd.D true 10 x)
theorem does_lay (s : St) (x : Int) : CmdDoes 156 [x] s (if layOk s x then okT else noT) { s with bs := if layOk s x then Bd.addL s.bs (Bd.D true 10 x) else s.bs } := by
 refine ⟨fun args w => by simp [go_sem], fun B0 tb w A n hn ht hw hp => ?_⟩
 refine (lay_any B0 tb s.bs s.ds s.ts x A n w hn ht hw _ rfl).mono fun e w' h => h.mono ?_
 rintro t ok w2 ⟨rfl, rfl, h⟩
 exact ⟨by show (if layOk s x then (if layOk s x then okT else _) else noT) = _; cases layOk s x <;> rfl, h⟩
theorem does_value (s : St) (hv : -9223372036854775808 ≤ bVal s.bs ∧ bVal s.bs ≤ 9223372036854775807) : CmdDoes 160 [] s (dec (bVal s.bs) ++ ⟨#[10]⟩) s := by
 refine ⟨fun args w => by simp [go_sem], fun B0 tb w A n hn ht hw hp => ?_⟩
 refine (value_cmd B0 tb s.bs s.ds s.ts _ w ht hw hp hv).mono fun e w' h => h.mono ?_
 rintro t ok w2 ⟨rfl, rfl, h⟩
 exact ⟨rfl, h⟩
theorem does_frame (s : St) (hd : Fr.Digs s.ds) (h4 : s.ds.length = 4) : CmdDoes 163 [] s (txt (digText s.ds) ++ ⟨#[10]⟩) s := by
 refine ⟨fun args w => by simp [go_sem], fun B0 tb w A n hn ht hw hp => ?_⟩
 refine (frameText_cmd B0 tb s.bs s.ds s.ts _ w ht hd h4).mono fun e w' h => h.mono ?_
 rintro t ok w2 ⟨rfl, rfl, h⟩
 exact ⟨rfl, h⟩
def frSays (R : Option (List Int × Int)) : ByteArray := match R with | none => noT | some (_, p) => dec p ++ ⟨#[10]⟩
def frThen (ds : List Int) (R : Option (List Int × Int)) : List Int := match R with | none => ds | some (es, _) => es
theorem does_add (s : St) (x : Int) (hd : Fr.Digs s.ds) (h4 : s.ds.length = 4) (hR : ∀ es p, frBy 1 s.ds x = some (es, p) → es.length = 4 ∧ -1000000000 ≤ p ∧ p ≤ 1000000000) :
  CmdDoes 161 [x] s (frSays (frBy 1 s.ds x)) { s with ds := frThen s.ds (frBy 1 s.ds x) } := by
 refine ⟨fun args w => by simp [go_sem], fun B0 tb w A n hn ht hw hp => ?_⟩
 refine (add_cmd B0 tb s.bs s.ds s.ts x A n w hn ht hw hp hd h4 hR _ rfl).mono fun e w' h => h.mono ?_
 rintro t ok w2 ⟨rfl, rfl, h⟩
 refine ⟨?_, h⟩
 rcases frBy 1 s.ds x with _ | ⟨es, p⟩ <;> rfl
theorem does_take (s : St) (x : Int) (hd : Fr.Digs s.ds) (h4 : s.ds.length = 4) (hR : ∀ es p, frBy (-1) s.ds x = some (es, p) → es.length = 4 ∧ -1000000000 ≤ p ∧ p ≤ 1000000000) :
  CmdDoes 162 [x] s (frSays (frBy (-1) s.ds x)) { s with ds := frThen s.ds (frBy (-1) s.ds x) } := by
 refine ⟨fun args w => by simp [go_sem], fun B0 tb w A n hn ht hw hp => ?_⟩
 refine (take_cmd B0 tb s.bs s.ds s.ts x A n w hn ht hw hp hd h4 hR _ rfl).mono fun e w' h => h.mono ?_
 rintro t ok w2 ⟨rfl, rfl, h⟩
 refine ⟨?_, h⟩
 rcases frBy (-1) s.ds x with _ | ⟨es, p⟩ <;> rfl
def BadL (line : List UInt8) : Prop := ∃ k ws, cut 32 line = k :: ws ∧ (cmdOf (bs k) = none ∨ ∃ c, cmdOf (bs k) = some c ∧ c.1 ≤ 3 ∧ ws.length ≠ c.1)
abbrev badV : Value := .iface 174 (.agg #[])
def ParseDies (w : World) (e : Ending) (w' : World) : Prop := e = .panicked [{ v := badV, recovered := false }] ∧ Below w.heap.size w w'
theorem parseLine_none (line : ByteArray) (w : World) (hs : line.size ≤ 1000) (hm : Max w) (k : List UInt8) (ws : List (List UInt8)) (hcut : cut 32 line.data.toList = k :: ws) (hcmd : cmdOf (bs k) = none) : Calls Tryz.prog 94 #[.string line] w (ParseDies w) := by
 obtain ⟨m, hm⟩ := hm
 obtain ⟨W, hW⟩ : ∃ W, w.alloc (.cells #[.int .i64 0, .nilFunc] 139) = W := ⟨_, rfl⟩
 have hbl : Below w.heap.size w W := by rw [← hW]; exact (Below.refl _ _).alloc (Nat.le_refl _) _
 have hmW : W.cell? ⟨0, 0, none⟩ = some (.int .i64 m) := by rw [← hW]; exact (World.cell?_alloc_lt w _ _ (World.block_lt_of_cell? w _ hm)).trans hm
 have HW := Hd hW
 have HBL := Hd hbl
 have HC := Hd (And.intro hcut hcmd)
 clear hW hbl hm hcut hcmd
 go_enter Tryz.func94, Tryz.ntmps94
 go_wp2_with fail
 rw [HW.out]
 refine (Split_any 32 line m W (by omega) hmW).mono ?_
 rw [HC.out.1]
 rintro e w1 ⟨rfl, rfl⟩
 obtain ⟨cn, hcn⟩ : ∃ cn, ws.length = cn := ⟨_, rfl⟩
 have hws : (k :: ws).length = cn + 1 := by simp; exact hcn
 rw [hws]
 obtain ⟨W1, hW1⟩ : ∃ W1, W.alloc (.cells (((k :: ws).map bs).map Value.string).toArray 9) = W1 := ⟨_, rfl⟩
 have hst : Blk W1 W.heap.size (((k :: ws).map bs).map Value.string).toArray 9 := by rw [← hW1]; exact Blk.new _ _ _
 have hbl1 : Below w.heap.size w W1 := by rw [← hW1]; exact HBL.out.alloc HBL.out.size _
 rw [hW1]
 have s0 : W1.cell? ⟨W.heap.size, 0, none⟩ = some (.string (bs k)) := hst.cell rfl
 have hsz : W.heap.size < W1.heap.size := hst.lt
 have HBL1 := Hd hbl1
 clear hW1 hst hbl1 hws hcn
 have l1 := lookup_no HC.out.2 (W1.alloc (.map (E 15) 15)).drew W1.heap.size (heap_alloc_new W1 _)
 have l2 := lookup_no HC.out.2 ((W1.alloc (.map (E 15) 15)).alloc (.cells #[.int .i64 0, .nilFunc] 139)).drew W1.heap.size ((Below.heap_alloc _ _ W1.heap.size (by simp)).trans (heap_alloc_new W1 _))
 have l3 := lookup_no HC.out.2 ((W1.alloc (.cells #[.int .i64 0, .nilFunc] 139)).alloc (.map (E 15) 15)).drew (W1.heap.size + 1) (by
  have := heap_alloc_new (W1.alloc (.cells #[.int .i64 0, .nilFunc] 139)) (.map (E 15) 15)
  rw [World.size_alloc] at this
  exact this)
 obtain ⟨WA, hWA⟩ : ∃ WA, ((W1.alloc (.map (E 15) 15)).alloc (.cells #[.int .i64 0, .nilFunc] 139)).drew = WA := ⟨_, rfl⟩
 obtain ⟨WB, hWB⟩ : ∃ WB, ((W1.alloc (.cells #[.int .i64 0, .nilFunc] 139)).alloc (.map (E 15) 15)).drew = WB := ⟨_, rfl⟩
 have QA := Hd (show Below W1.heap.size W1 WA from by
  rw [← hWA]
  exact (((Below.refl _ _).alloc (Nat.le_refl _) _).alloc (by simp) _).drew)
 have QB := Hd (show Below W1.heap.size W1 WB from by
  rw [← hWB]
  exact (((Below.refl _ _).alloc (Nat.le_refl _) _).alloc (by simp) _).drew)
 have HA := Hd hWA
 have HBB := Hd hWB
 clear hWA hWB
 go_wp2_with fail
 go_region_held3 (fun w' => w'.cell? ⟨W.heap.size, 0, none⟩ = some (.string (bs k))) (first | exact s0 | go_simp | go_keep) ((go_at_call 128; refine (commandsByWord_any _).mono ?_; rintro e w2 ⟨rfl, rfl⟩))
 all_goals (first | (rw [HA.out]; have hqb := QA.out; obtain ⟨W2, rfl⟩ : ∃ W2, W2 = WA := ⟨WA, rfl⟩) | (rw [HBB.out]; have hqb := QB.out; obtain ⟨W2, rfl⟩ : ∃ W2, W2 = WB := ⟨WB, rfl⟩))
 all_goals
  have HBL2 := Hd (HBL1.out.trans (hqb.mono HBL1.out.size))
  clear hqb l1 l2 l3 s0 hsz
  go_wp2_with fail
  exact ⟨rfl, rfl, HBL2.out⟩
theorem parseLine_wrong (line : ByteArray) (w : World) (hs : line.size ≤ 1000) (hm : Max w) (k : List UInt8) (ws : List (List UInt8)) (hcut : cut 32 line.data.toList = k :: ws) (c : Nat × Nat) (hcmd : cmdOf (bs k) = some c) (hc3 : c.1 ≤ 3) (hne : ws.length ≠ c.1) : Calls Tryz.prog 94 #[.string line] w (ParseDies w) := by
 obtain ⟨fc, fid⟩ := c
 simp only at hc3 hne
 obtain ⟨m, hm⟩ := hm
 obtain ⟨W, hW⟩ : ∃ W, w.alloc (.cells #[.int .i64 0, .nilFunc] 139) = W := ⟨_, rfl⟩
 have hbl : Below w.heap.size w W := by rw [← hW]; exact (Below.refl _ _).alloc (Nat.le_refl _) _
 have hmW : W.cell? ⟨0, 0, none⟩ = some (.int .i64 m) := by rw [← hW]; exact (World.cell?_alloc_lt w _ _ (World.block_lt_of_cell? w _ hm)).trans hm
 have HW := Hd hW
 have HBL := Hd hbl
 have HC := Hd (And.intro hcut hcmd)
 clear hW hbl hm hcut hcmd
 go_enter Tryz.func94, Tryz.ntmps94
 go_wp2_with fail
 rw [HW.out]
 refine (Split_any 32 line m W (by omega) hmW).mono ?_
 rw [HC.out.1]
 rintro e w1 ⟨rfl, rfl⟩
 obtain ⟨cn, hcn⟩ : ∃ cn, ws.length = cn := ⟨_, rfl⟩
 have hws : (k :: ws).length = cn + 1 := by simp; exact hcn
 rw [hws]
 obtain ⟨W1, hW1⟩ : ∃ W1, W.alloc (.cells (((k :: ws).map bs).map Value.string).toArray 9) = W1 := ⟨_, rfl⟩
 have hst : Blk W1 W.heap.size (((k :: ws).map bs).map Value.string).toArray 9 := by rw [← hW1]; exact Blk.new _ _ _
 have hbl1 : Below w.heap.size w W1 := by rw [← hW1]; exact HBL.out.alloc HBL.out.size _
 rw [hW1]
 have s0 : W1.cell? ⟨W.heap.size, 0, none⟩ = some (.string (bs k)) := hst.cell rfl
 have hsz : W.heap.size < W1.heap.size := hst.lt
 have HBL1 := Hd hbl1
 clear hW1 hst hbl1 hws
 have l1 := lookup_yes HC.out.2 (W1.alloc (.map (E 15) 15)).drew W1.heap.size (heap_alloc_new W1 _)
 have l2 := lookup_yes HC.out.2 ((W1.alloc (.map (E 15) 15)).alloc (.cells #[.int .i64 0, .nilFunc] 139)).drew W1.heap.size ((Below.heap_alloc _ _ W1.heap.size (by simp)).trans (heap_alloc_new W1 _))
 have l3 := lookup_yes HC.out.2 ((W1.alloc (.cells #[.int .i64 0, .nilFunc] 139)).alloc (.map (E 15) 15)).drew (W1.heap.size + 1) (by
  have := heap_alloc_new (W1.alloc (.cells #[.int .i64 0, .nilFunc] 139)) (.map (E 15) 15)
  rw [World.size_alloc] at this
  exact this)
 unfold cmdVal at l1 l2 l3
 obtain ⟨WA, hWA⟩ : ∃ WA, ((W1.alloc (.map (E 15) 15)).alloc (.cells #[.int .i64 (fc : Int), .func (.func fid) #[] #[]] 139)).drew = WA := ⟨_, rfl⟩
 obtain ⟨WB, hWB⟩ : ∃ WB, ((W1.alloc (.cells #[.int .i64 (fc : Int), .func (.func fid) #[] #[]] 139)).alloc (.map (E 15) 15)).drew = WB := ⟨_, rfl⟩
 have QA := Hd (show Blk WA (W1.heap.size + 1) #[.int .i64 (fc : Int), .func (.func fid) #[] #[]] 139 ∧ Below W1.heap.size W1 WA from by
  rw [← hWA]
  have := Blk.new (W1.alloc (.map (E 15) 15)) #[.int .i64 (fc : Int), .func (.func fid) #[] #[]] 139
  rw [World.size_alloc] at this
  exact ⟨this.drew, (((Below.refl _ _).alloc (Nat.le_refl _) _).alloc (by simp) _).drew⟩)
 have QB := Hd (show Blk WB W1.heap.size #[.int .i64 (fc : Int), .func (.func fid) #[] #[]] 139 ∧ Below W1.heap.size W1 WB from by
  rw [← hWB]
  exact ⟨((Blk.new _ _ _).alloc _).drew, (((Below.refl _ _).alloc (Nat.le_refl _) _).alloc (by simp) _).drew⟩)
 have HA := Hd hWA
 have HBB := Hd hWB
 clear hWA hWB
 go_wp2_with fail
 go_region_held3 (fun w' => w'.cell? ⟨W.heap.size, 0, none⟩ = some (.string (bs k))) (first | exact s0 | go_simp | go_keep) ((go_at_call 128; refine (commandsByWord_any _).mono ?_; rintro e w2 ⟨rfl, rfl⟩))
 all_goals (first | (rw [HA.out]; obtain ⟨hq, hqb⟩ := QA.out; obtain ⟨W2, rfl⟩ : ∃ W2, W2 = WA := ⟨WA, rfl⟩) | (rw [HBB.out]; obtain ⟨hq, hqb⟩ := QB.out; obtain ⟨W2, rfl⟩ : ∃ W2, W2 = WB := ⟨WB, rfl⟩))
 all_goals
  have HBL2 := Hd (HBL1.out.trans (hqb.mono HBL1.out.size))
  have d0 := hq.cell (j := 0) (v := .int .i64 (fc : Int)) rfl
  have hcf : ¬ (cn : Int) = (fc : Int) := by omega
  have hcn2 : (cn : Int) ≤ 1001 := by
   have h1 := cut_count 32 line.data.toList
   have h2 : line.data.toList.length = line.size := by simp
   rw [HC.out.1] at h1
   simp at h1
   have h3 : line.data.size = line.size := rfl
   omega
  have hcn0 : (0 : Int) ≤ (cn : Int) := by omega
  clear hq hqb l1 l2 l3 s0 hsz
  go_wp2_with fail
  exact ⟨rfl, rfl, HBL2.out⟩
theorem assert_bad (w : World) : (Instr.typeAssert badV 20 174 true).run Tryz.prog w = .ok (.tuple #[.agg #[], .bool true]) w := by
 have hu : Tryz.prog.underlying 174 = some (.struct #[]) := by kernel_rfl
 simp [Instr.typeAssert, run_underlying hu, go_sem, Result.andThen]
theorem isBadLine_yes (w : World) : Calls Tryz.prog 93 #[badV] w fun e w' => e = .returned (.bool true) ∧ Below w.heap.size w w' := by
 have hta := assert_bad
 go_enter Tryz.func93, Tryz.ntmps93
 go_wp2_with fail
 go_ret
 exact ⟨rfl, (Below.refl _ _).alloc (Nat.le_refl _) _⟩
def whatT : ByteArray := ⟨#[119, 104, 97, 116, 10]⟩
theorem catch_bad (p : Nat) (w : World) (s : ByteArray) (hb : Blk w p #[.string s] 9) :
  CallsD Tryz.prog 92 #[.pointer (some ⟨p, 0, none⟩)] (.panicking [{ v := badV, recovered := false }]) w fun e u' w' => e = .returned (.tuple #[]) ∧ u' = .panicking [{ v := badV, recovered := true }] ∧ ∃ w2, Below w.heap.size w w2 ∧ w' = w2.setCell ⟨p, 0, none⟩ (.string whatT) := by
 refine callsD_of_wpS Tryz.func92 rfl fun c₀ cs hu => ?_
 apply wpS_seq
 apply wpS_region
 simp [wpOpsS, go_sem, recoverD, hu, Tryz.ntmps92, Exit.thenS]
 refine wpS_of_wp ?_
 simp only [Array.replicate_succ, Array.replicate_zero, List.push_toArray, List.append_toArray, List.nil_append, List.cons_append, List.setIfInBounds_toArray, List.set_cons_succ, List.set_cons_zero]
 have m0 := hb.cell (j := 0) (v := .string s) rfl
 have HB := Hd hb
 have hpl := hb.lt
 clear hb
 go_wp2_with fail
 refine (isBadLine_yes _).mono ?_
 rintro e w2 ⟨rfl, hb2⟩
 have hbn := HB.out.next hb2
 have n0 := hbn.cell (j := 0) (v := .string s) rfl
 have f0 := hbn.free 0
 have HB2 := Hd hb2
 clear hb2 hbn
 go_wp2_with fail
 have HB3 := HB2.out
 have e0 : (⟨#[119, 104, 97, 116, 10]⟩ : ByteArray) = whatT := rfl
 rw [e0]
 have hw : ∃ w3, Below w.heap.size w w3 ∧ w2.setCell ⟨p, 0, none⟩ (.string whatT) = w3.setCell ⟨p, 0, none⟩ (.string whatT) := ⟨w2, HB3, rfl⟩
 clear HB HB2 n0 f0 m0 hpl HB3 e0
 generalize w2.setCell ⟨p, 0, none⟩ (.string whatT) = W9 at hw ⊢
 cases c₀
 simp_all [bodyPostS, results, Tryz.results92]
theorem runLine_bad (t : Addr) (line : ByteArray) (w : World) (hs : line.size ≤ 1000) (hm : Max w) (hg : BadL line.data.toList) :
  Calls Tryz.prog 46 #[.pointer (some t), .string line] w fun e w' => e = .returned (.string whatT) ∧ Below w.heap.size w w' := by
 have hmf : ∀ (fn : Fn) (first cap : Array Value) (w : World), (Instr.makeFunc fn first cap).run Tryz.prog w = .ok (.func fn first cap) w := fun _ _ _ _ => rfl
 obtain ⟨W, hW⟩ : ∃ W, w.alloc (.cells #[.string ⟨#[]⟩] 9) = W := ⟨_, rfl⟩
 have hb2 : Blk W w.heap.size #[.string ⟨#[]⟩] 9 := by rw [← hW]; exact Blk.new _ _ _
 have hbl : Below w.heap.size w W := by rw [← hW]; exact (Below.refl _ _).alloc (Nat.le_refl _) _
 have hmW : Max W := by obtain ⟨m, hm⟩ := hm; exact ⟨m, by rw [← hW]; exact (World.cell?_alloc_lt w _ _ (World.block_lt_of_cell? w _ hm)).trans hm⟩
 have HP := Hd (show Calls Tryz.prog 94 #[.string line] W (ParseDies W) from by
  obtain ⟨k, ws, hc, h | ⟨c, h1, h2, h3⟩⟩ := hg
  ·exact parseLine_none line W hs hmW k ws hc h
  ·exact parseLine_wrong line W hs hmW k ws hc c h1 h2 h3)
 have HW := Hd hW
 have HB2 := Hd hb2
 have HBL := Hd hbl
 clear hW hb2 hbl hg
 go_enter_defers Tryz.func46, Tryz.ntmps46
 go_wp2_with fail
 rw [HW.out]
 refine HP.out.mono ?_
 rintro e w1 ⟨rfl, hb⟩
 have HB := Hd hb
 clear hb
 dsimp only
 refine leaves_cons (f := 92) (args := #[.pointer (some ⟨w.heap.size, 0, none⟩)]) (by simp) (by simp [go_sem]) ?_
 refine (catch_bad w.heap.size w1 ⟨#[]⟩ (HB2.out.next HB.out)).mono ?_
 rintro e u' w4 ⟨rfl, rfl, w3, hb3, rfl⟩
 have hbk := (HB2.out.next HB.out).next hb3
 have g0 := (hbk.set 0 (.string whatT)).cell (j := 0) (v := .string whatT) rfl
 have hfin : Below w.heap.size w (w3.setCell ⟨w.heap.size, 0, none⟩ (.string whatT)) := ((HBL.out.trans (HB.out.mono HBL.out.size)).trans (hb3.mono (Nat.le_trans HBL.out.size HB.out.size))).setCell (p := ⟨w.heap.size, 0, none⟩) (Nat.le_refl _) _
 simp [Leaves, settle, results, Tryz.results46, go_sem, g0]
 exact hfin
theorem line_bad {line : List UInt8} (hl : line.length ≤ 1000) (hg : BadL line) (s : St) : LineDoes line s whatT s := by
 intro B0 tb w ht hw hm hp
 have hbs : (bs line).data.toList = line := by simp [bs]
 have hsz : (bs line).size ≤ 1000 := by
  have e : (bs line).size = line.length := by show line.toArray.size = _; simp
  omega
 refine (runLine_bad ⟨tb, 0, none⟩ (bs line) w hsz hm (by rw [hbs]; exact hg)).mono ?_
 rintro e w' ⟨rfl, hb⟩
 exact ⟨rfl, Tab.next ht hb, KeptT.of_below hb⟩
theorem Execute_long (text : ByteArray) (w : World) (hs : 400 < text.size) : Calls Tryz.prog 13 #[.string text] w fun e w' => e = .returned (.string ⟨#[116, 111, 111, 32, 108, 111, 110, 103, 10]⟩) ∧ w = w' := by
 go_enter Tryz.func13, Tryz.ntmps13
 go_wp2_with fail
 go_ret
 exact ⟨rfl, rfl⟩
theorem Execute_any2 (text : ByteArray) (ls : List (List UInt8)) (lst : List UInt8) (s' : St) (out : List UInt8) (w : World) (hs : text.size ≤ 400) (hcut : cut 10 text.data.toList = ls ++ [lst]) (hr : Runs ls St.start out s') (hm : Max w) (hp : Pow w.heap.size w) (hlen : out.length ≤ 100000)
  (hv : -9223372036854775808 ≤ bVal s'.bs ∧ bVal s'.bs ≤ 9223372036854775807) :
  Calls Tryz.prog 13 #[.string text] w fun e w' => e = .returned (.string (bs (out ++ endL (bVal s'.bs) s'.ts.length))) ∧ Below w.heap.size w w' := by
 have hle : ¬ 400 < text.size := by omega
 have HR := Hd hr
 have HC := Hd hcut
 clear hr hcut
 have hmk : (Instr.makeSlice 28 (.int .i64 10) (.int .i64 10)).run Tryz.prog w = .ok (.slice (some ⟨w.heap.size, 0, none⟩) 10 10) (w.alloc (.cells (IV (List.replicate 10 0)).toArray 3)) := run_make_ints w 10 (by omega)
 go_enter Tryz.func13, Tryz.ntmps13
 go_wp2_with (first
  | (go_at_call 18; refine (FrameOf_yes 4 0 _ (by omega) (by omega) (by omega) (by decide)).mono ?_; rintro e w1 ⟨⟨v, rfl, hfo⟩, hb1⟩; obtain ⟨A, c, A', c', rfl, o1, o2, _, _⟩ := hfo; have t0 := (tb_new w).next hb1; have c1 := t0.cell (j := 1) (v := .slice none 0 0) rfl; have c2 := t0.cell (j := 2) (v := .slice none 0 0) rfl; have f1 := t0.free 1; have f2 := t0.free 2))
 have e4 : (digitsOf 4 0).length = 4 := by decide
 simp only [if_true] at o1 o2
 rw [e4] at o1 o2 ⊢
 have hbd := ((own_lit w (List.replicate 10 0) w.heap.size 10 rfl (by omega) (Nat.le_refl _)).alloc (.cells #[.slice (some ⟨w.heap.size, 0, none⟩) 10 10, .slice none 0 0, .slice none 0 0, .slice none 0 0] 62)).r.next hb1
 have t1 := t0.set 1 (.slice A 4 c)
 have hsz1 := hb1.size
 simp only [World.size_alloc] at hsz1 o1 o2
 have hT : Tb w.heap.size ((w1.setCell ⟨w.heap.size + 1, 1, none⟩ (.slice A 4 c)).setCell ⟨w.heap.size + 1, 2, none⟩ (.slice A' 4 c')) (w.heap.size + 1) St.start :=
  ⟨by omega, some ⟨w.heap.size, 0, none⟩, 10, 10, A, c, A', c', none, 0, 0, t1.set 2 _, (hbd.far t0 (by decide) _ _).far t1 (by decide) _ _, ((o1.mono (by omega)).r.far t0 (by decide) _ _).far t1 (by decide) _ _, ((o2.mono (by omega)).r.far t0 (by decide) _ _).far t1 (by decide) _ _, OwnR.nil _ _ _ _⟩
 have hb1' : Below w.heap.size w w1 := (((Below.refl w.heap.size w).alloc (Nat.le_refl _) _).alloc (by simp) _).trans (hb1.mono (by simp; omega))
 have hbW := (hb1'.setCell (p := ⟨w.heap.size + 1, 1, none⟩) (by simp only; omega) (.slice A 4 c)).setCell (p := ⟨w.heap.size + 1, 2, none⟩) (by simp only; omega) (.slice A' 4 c')
 have hsW : ((w1.setCell ⟨w.heap.size + 1, 1, none⟩ (.slice A 4 c)).setCell ⟨w.heap.size + 1, 2, none⟩ (.slice A' 4 c')).heap.size = w1.heap.size := by simp [World.setCell]
 obtain ⟨W1, hW1⟩ : ∃ W1, (w1.setCell ⟨w.heap.size + 1, 1, none⟩ (.slice A 4 c)).setCell ⟨w.heap.size + 1, 2, none⟩ (.slice A' 4 c') = W1 := ⟨_, rfl⟩
 rw [hW1] at hT hbW hsW ⊢
 rw [← hsW]
 have hTlt : w.heap.size + 1 < W1.heap.size := by obtain ⟨_, _, _, _, _, _, _, _, _, _, _, g, _⟩ := id hT; exact g.lt
 have HT := Hd (Tab.alloc hT (.cells #[.pointer none, .slice none 0 0] 65))
 have hBu : Bu (W1.alloc (.cells #[.pointer none, .slice none 0 0] 65)) W1.heap.size W1.heap.size [] := Lib.fresh_isBuilder _ _ W1
 have HBU := Hd hBu
 have hbW2 := hbW.alloc hbW.size (.cells #[.pointer none, .slice none 0 0] 65)
 clear hT hBu hW1 o1 o2 hbd t0 t1 c1 c2 f1 f2 hb1 hb1' hsW hsz1 hmk
 obtain ⟨m, hm0⟩ := id hm
 have h0 := World.block_lt_of_cell? w _ hm0
 have hm2 := (hbW2.cell (p := ⟨0, 0, none⟩) h0).trans hm0
 have HM := Hd hm
 have HP := Hd hp
 clear hm hp hm0
 refine (Split_any 10 text m _ (by omega) hm2).mono ?_
 rw [HC.out]
 rintro e w3 ⟨rfl, rfl⟩
 have hll : (ls ++ [lst]).length = ls.length + 1 := by simp
 have hlb : ls.length ≤ 1000 := by
  have := cut_count 10 text.data.toList
  rw [HC.out] at this
  have e2 : text.data.toList.length = text.size := by simp
  simp at this
  omega
 have hsub : IntKind.i64.wrap (((ls.length + 1 : Nat) : Int) - 1) = (ls.length : Int) := by rw [show ((ls.length + 1 : Nat) : Int) - 1 = (ls.length : Int) from by omega]; exact IntWalk.i64_in _ (by omega)
 rw [hll]
 obtain ⟨W3, hW3⟩ : ∃ W3, (W1.alloc (.cells #[.pointer none, .slice none 0 0] 65)).alloc (.cells (((ls ++ [lst]).map bs).map Value.string).toArray 9) = W3 := ⟨_, rfl⟩
 rw [hW3]
 have hl3 : Blk W3 (W1.heap.size + 1) (((ls ++ [lst]).map bs).map Value.string).toArray 9 := by
  rw [← hW3]
  have := Blk.new (W1.alloc (.cells #[.pointer none, .slice none 0 0] 65)) (((ls ++ [lst]).map bs).map Value.string).toArray 9
  rw [World.size_alloc] at this
  exact this
 have hb3 : Below (W1.alloc (.cells #[.pointer none, .slice none 0 0] 65)).heap.size (W1.alloc (.cells #[.pointer none, .slice none 0 0] 65)) W3 := by rw [← hW3]; exact (Below.refl _ _).alloc (Nat.le_refl _) _
 have H3 := Hd (show Tb w.heap.size W3 (w.heap.size + 1) St.start ∧ Bu W3 W1.heap.size W1.heap.size [] ∧ Blk W3 (W1.heap.size + 1) (((ls ++ [lst]).map bs).map Value.string).toArray 9 ∧ Below w.heap.size w W3 from
  ⟨Tab.next HT.out hb3, Bu.keptT HBU.out (KeptT.of_below (B0 := 0) hb3), hl3, hbW2.trans (hb3.mono hbW2.size)⟩)
 clear hl3 hb3 hW3 hm2
 go_wp2_with fail
 go_loopw [29] (fun iv wr => ∃ (j : Nat) (st : St) (o1 o2 : List UInt8), j ≤ ls.length ∧ iv = .int .i64 (j : Int) ∧ o1 ++ o2 = out ∧ Runs (ls.drop j) st o2 s' ∧ Tb w.heap.size wr (w.heap.size + 1) st ∧ Bu wr W1.heap.size W1.heap.size o1 ∧
  Blk wr (W1.heap.size + 1) (((ls ++ [lst]).map bs).map Value.string).toArray 9 ∧ Below w.heap.size w wr) (fun iv _ => ls.length - (intOf iv).toNat)
 case atStart => exact ⟨0, St.start, [], out, by omega, rfl, rfl, HR.out, H3.out.1, H3.out.2.1, H3.out.2.2.1, H3.out.2.2.2⟩
 case round =>
  obtain ⟨j, st, o1, o2, hj, rfl, ho, hrn, ht, hbu, hl, hb⟩ := hrel
  by_cases hlt : j < ls.length
  ·rw [List.drop_eq_getElem_cons hlt] at hrn
   cases hrn with
   | cons hdo krest =>
    rename_i st1 o r
    have s1 : wr.cell? ⟨W1.heap.size + 1, j, none⟩ = some (.string (bs ls[j])) := hl.cell (by simp [hlt, List.getElem?_append_left])
    have HK := Hd krest
    have HX := Hd (And.intro ho (And.intro ht (And.intro hbu (And.intro hl hb))))
    have HD := Hd hdo
    clear krest ho ht hbu hl hb hdo
    go_wp2_with fail
    refine (HD.out w.heap.size (w.heap.size + 1) wr HX.out.2.1 HX.out.2.2.2.2.size (by obtain ⟨m, hm⟩ := HM.out; exact ⟨m, (HX.out.2.2.2.2.cell (p := ⟨0, 0, none⟩) h0).trans hm⟩) (HP.out.below HX.out.2.2.2.2)).mono ?_
    rintro e w4 ⟨rfl, ht4, hk4⟩
    have HT4 := Hd ht4
    have hbu4 := Bu.keptT HX.out.2.2.1 hk4
    have hl4 := Blk.keptT HX.out.2.2.2.1 hk4 (by decide) (by decide)
    have hb4 := HX.out.2.2.2.2.trans (hk4.below HX.out.2.2.2.2.size)
    have HBU4 := Hd (And.intro hbu4 (And.intro hl4 hb4))
    have hlo : o1.length + o.size ≤ 1000000000 := by
     have e1 := congrArg List.length HX.out.1
     have e2 : o.data.toList.length = o.size := by simp
     simp only [List.length_append] at e1
     omega
    have hbs4 : W1.heap.size ≤ w4.heap.size := by have := hl4.lt; omega
    clear hbu4 hl4 hb4 hk4 ht4
    go_wp2_with fail
    refine (WriteString_any W1.heap.size W1.heap.size o1 o w4 HBU4.out.1 hlo hbs4).mono ?_
    rintro e w5 ⟨⟨v5, rfl⟩, hbu5, hb5, hot5⟩
    obtain ⟨cb, hcb⟩ := Bu.blk HBU4.out.1
    have hbb : w.heap.size ≤ W1.heap.size := hbW.size
    go_wp2_with fail
    refine ⟨⟨j + 1, st1, o1 ++ o.data.toList, r, by omega, by go_num, by rw [List.append_assoc]; exact HX.out.1, HK.out, Tab.oth HT4.out hot5 hcb, hbu5, Blk.oth HBU4.out.2.1 hot5 hcb (by decide) (by decide), HBU4.out.2.2.trans (hb5.mono hbb)⟩, by simp [intOf]; omega⟩
  ·have hje : j = ls.length := by omega
   rw [List.drop_eq_nil_of_le (by omega)] at hrn
   cases hrn
   rw [List.append_nil] at ho
   subst ho
   obtain ⟨hB, Ab, nb, cb, A2, c2, A2', c2', At, nt, ct, g0, g1, g2, g3, g4⟩ := id ht
   have c0 := g0.cell (j := 0) (v := .slice Ab nb cb) rfl
   have c3 := g0.cell (j := 3) (v := .slice At nt ct) rfl
   have hnt : s'.ts.length = nt := (OwnT.tals g4).len
   have hntb : nt ≤ 1099511627776 := g4.2
   have HI := Hd g1.ints
   have HG := Hd g0
   have HX := Hd (And.intro hbu hb)
   obtain ⟨V, hV⟩ : ∃ V, bVal s'.bs = V := ⟨_, rfl⟩
   rw [hV] at hv
   have d1 := dec_size V hv.1 hv.2
   have d2 := dec_size (nt : Int) (by omega) (by omega)
   have HE := Hd (endL_eq V nt)
   have hlo : o1.length + (bs (endL V nt)).size ≤ 1000000000 := by
    have e : (bs (endL V nt)).size = (endL V nt).length := by show (endL V nt).toArray.size = _; simp
    have e1 : (dec V).size = (Lib.itoa V).length := by show (Lib.itoa V).toArray.size = _; simp
    have e2 : (dec (nt : Int)).size = (Lib.itoa (nt : Int)).length := by show (Lib.itoa (nt : Int)).toArray.size = _; simp
    rw [e]
    simp only [endL, List.length_append, List.length_cons, List.length_nil]
    omega
   have hl1 := no_long (n := 6) (by omega) (dec V).size (by omega)
   have hl2 := no_long (n := 6 + (dec V).size) (by omega) 9 (by omega)
   have hl3 := no_long (n := 6 + (dec V).size + 9) (by omega) (dec (nt : Int)).size (by omega)
   have hl4 := no_long (n := 6 + (dec V).size + 9 + (dec (nt : Int)).size) (by omega) 1 (by omega)
   have HVV := Hd (And.intro hV hnt)
   have hbb : w.heap.size ≤ W1.heap.size := hbW.size
   have hbw : W1.heap.size ≤ wr.heap.size := by have := hl.lt; omega
   have hB1 : w.heap.size + 1 < W1.heap.size := hTlt
   clear ht hbu hb hl hV g0 g1 g2 g3 g4 hnt hj
   go_wp2_with fail
   go_region_held3 (fun w' => w'.cell? ⟨w.heap.size + 1, 0, none⟩ = some (.slice Ab nb cb) ∧ w'.cell? ⟨w.heap.size + 1, 3, none⟩ = some (.slice At nt ct)) (first | (constructor <;> go_simp) | go_keep) (first
    | (go_at_call 48; refine (BoardValue_any Ab nb cb s'.bs _ HI.out.drew).mono ?_; rw [HVV.out.1]; rintro e w4 ⟨rfl, hb4'⟩; have hb4 := (Below.refl wr.heap.size wr).drew.trans hb4'; have c04 := (HG.out.next hb4).cell (j := 0) (v := .slice Ab nb cb) rfl; have c34 := (HG.out.next hb4).cell (j := 3) (v := .slice At nt ct) rfl; have HB4 := Hd hb4; clear hb4 hb4')
    | (go_at_call 47; refine (Itoa_any ((HP.out.below HX.out.2).below (HB4.out.mono HX.out.2.size)) V hv.1 hv.2).mono ?_; rintro e w5 ⟨rfl, hb5'⟩; have hb5 := HB4.out.trans (hb5'.mono HB4.out.size); have c05 := (HG.out.next hb5).cell (j := 0) (v := .slice Ab nb cb) rfl; have c35 := (HG.out.next hb5).cell (j := 3) (v := .slice At nt ct) rfl; have HB5 := Hd hb5; clear hb5 hb5')
    | (go_at_call 47; refine (Itoa_any ((HP.out.below HX.out.2).below (HB5.out.mono HX.out.2.size)) (nt : Int) (by omega) (by omega)).mono ?_; rintro e w6 ⟨rfl, hb6'⟩; have hb6 := HB5.out.trans (hb6'.mono HB5.out.size); have c06 := (HG.out.next hb6).cell (j := 0) (v := .slice Ab nb cb) rfl; have c36 := (HG.out.next hb6).cell (j := 3) (v := .slice At nt ct) rfl; have HB6 := Hd hb6; clear hb6 hb6')
    | (go_at_call 45; rw [HE.out]; refine (WriteString_any W1.heap.size W1.heap.size o1 _ _ (Bu.keptT HX.out.1 (KeptT.of_below (B0 := 0) HB6.out)) hlo (Nat.le_trans hbw HB6.out.size)).mono ?_; rintro e w7 ⟨⟨v7, rfl⟩, hbu7, hb7, hot7⟩; have c07 : w7.cell? ⟨w.heap.size + 1, 0, none⟩ = some (.slice Ab nb cb) := (hb7.cell (p := ⟨w.heap.size + 1, 0, none⟩) hB1).trans c06; have c37 : w7.cell? ⟨w.heap.size + 1, 3, none⟩ = some (.slice At nt ct) := (hb7.cell (p := ⟨w.heap.size + 1, 3, none⟩) hB1).trans c36))
   rw [bs_list] at hbu7
   have hb7w := (HX.out.2.trans (HB6.out.mono HX.out.2.size)).trans (hb7.mono hbb)
   have HBU7 := Hd hbu7
   have hbw7 : W1.heap.size ≤ w7.heap.size := Nat.le_trans hbw (Nat.le_trans HB6.out.size hb7.size)
   clear hbu7 c07 c37 c0 c3
   go_wp2_with fail
   refine (Tryz.Builder_String_any W1.heap.size W1.heap.size (o1 ++ endL V nt) w7 HBU7.out hbw7).mono ?_
   rintro e w8 ⟨rfl, hb8⟩
   go_wp2_with fail
   go_ret
   exact ⟨by rw [HVV.out.1, HVV.out.2]; rfl, hb7w.trans (hb8.mono hbb)⟩
def Nd (w : World) (b : Nat) (x : Int) (p : Option Addr) : Prop := w.heap[b]? = some (.cells #[.int .i64 x, .pointer p] 236 (0, 0))
def Seg (w : World) : Option Addr → List (Nat × Int) → Option Addr → Prop
 | p, [], q => p = q
 | p, (b, x) :: r, q => p = some ⟨b, 0, none⟩ ∧ ∃ m, Nd w b x m ∧ Seg w m r q
def blks (ns : List (Nat × Int)) : List Nat := ns.map (·.1)
def vals (ns : List (Nat × Int)) : List Int := ns.map (·.2)
def Cha (w : World) (B : Nat) (p : Option Addr) (l : List Int) : Prop := ∃ ns, Seg w p ns none ∧ (blks ns).Nodup ∧ (∀ k ∈ blks ns, B ≤ k) ∧ vals ns = l
theorem Nd.lt {w : World} {b : Nat} {x : Int} {p : Option Addr} (h : Nd w b x p) : b < w.heap.size := (Array.getElem?_eq_some_iff.1 h).1
theorem Nd.uniq {w : World} {b : Nat} {x y : Int} {p q : Option Addr} (h : Nd w b x p) (h' : Nd w b y q) : x = y ∧ p = q := by
 unfold Nd at h h'
 rw [h] at h'
 simp at h'
 exact h'
theorem Nd.cell0 {w : World} {b : Nat} {x : Int} {p : Option Addr} (h : Nd w b x p) : w.cell? ⟨b, 0, none⟩ = some (.int .i64 x) := cell_of_row w b 0 _ _ _ h
theorem Nd.cell1 {w : World} {b : Nat} {x : Int} {p : Option Addr} (h : Nd w b x p) : w.cell? ⟨b, 1, none⟩ = some (.pointer p) := cell_of_row w b 1 _ _ _ h
theorem Nd.keep {w w' : World} {b : Nat} {x : Int} {p : Option Addr} (h : Nd w b x p) (hk : w'.heap[b]? = w.heap[b]?) : Nd w' b x p := hk.trans h
theorem nd_new (w : World) (x : Int) (p : Option Addr) : Nd (w.alloc (.cells #[.int .i64 x, .pointer p] 236)) w.heap.size x p := heap_alloc_new w _
theorem seg_uniq {w : World} : ∀ (ns ms : List (Nat × Int)) (p : Option Addr), Seg w p ns none → Seg w p ms none → ns = ms := by
 intro ns
 induction ns with
 | nil =>
  intro ms p h h'
  cases ms with
  | nil => rfl
  | cons z r => obtain ⟨b, x⟩ := z; obtain rfl : p = none := h; cases h'.1
 | cons z r ih =>
  obtain ⟨b, x⟩ := z
  intro ms p h h'
  obtain ⟨rfl, m, hn, hs⟩ := h
  cases ms with
  | nil => cases h'
  | cons z' r' =>
   obtain ⟨b', x'⟩ := z'
   obtain ⟨e, m', hn', hs'⟩ := h'
   obtain rfl : b = b' := by simpa using e
   obtain ⟨rfl, rfl⟩ := hn.uniq hn'
   rw [ih r' m hs hs']
theorem Seg.keep {w w' : World} {q : Option Addr} : ∀ (ns : List (Nat × Int)) (p : Option Addr), Seg w p ns q → (∀ k ∈ blks ns, k < w.heap.size → w'.heap[k]? = w.heap[k]?) → Seg w' p ns q := by
 intro ns
 induction ns with
 | nil => intro p h _; exact h
 | cons z r ih =>
  obtain ⟨b, x⟩ := z
  rintro p ⟨rfl, m, hn, h⟩ hk
  exact ⟨rfl, m, hn.keep (hk b (by simp [blks]) hn.lt), ih m h fun k hm => hk k (by simp only [blks, List.map_cons, List.mem_cons]; exact .inr hm)⟩
theorem Seg.alloc {w : World} {p q : Option Addr} {ns : List (Nat × Int)} (h : Seg w p ns q) (o : Obj) : Seg (w.alloc o) p ns q := h.keep ns p fun k _ hk => Below.heap_alloc w o k hk
theorem Seg.drewN {w : World} {p q : Option Addr} {ns : List (Nat × Int)} (h : Seg w p ns q) (n : Nat) : Seg (w.drewN n) p ns q := h.keep ns p fun _ _ _ => rfl
theorem Seg.lt {w : World} {q : Option Addr} : ∀ (ns : List (Nat × Int)) (p : Option Addr), Seg w p ns q → ∀ k ∈ blks ns, k < w.heap.size := by
 intro ns
 induction ns with
 | nil => intro p _ k hk; simp [blks] at hk
 | cons z r ih =>
  obtain ⟨b, x⟩ := z
  rintro p ⟨rfl, m, hn, h⟩ k hk
  simp only [blks, List.map_cons, List.mem_cons] at hk
  rcases hk with rfl | hk
  ·exact hn.lt
  ·exact ih m h k hk
theorem Cha.drewN {w : World} {B : Nat} {p : Option Addr} {l : List Int} (h : Cha w B p l) (n : Nat) : Cha (w.drewN n) B p l := by
 obtain ⟨ns, h1, h2, h3, h4⟩ := h
 exact ⟨ns, h1.drewN n, h2, h3, h4⟩
theorem Cha.nil (w : World) (B : Nat) : Cha w B none [] := ⟨[], rfl, by simp [blks], by simp [blks], rfl⟩
theorem Cha.cons {w : World} {B : Nat} {p : Option Addr} {l : List Int} (h : Cha w B p l) (x : Int) (hB : B ≤ w.heap.size) : Cha (w.alloc (.cells #[.int .i64 x, .pointer p] 236)) B (some ⟨w.heap.size, 0, none⟩) (x :: l) := by
 obtain ⟨ns, h1, h2, h3, h4⟩ := h
 refine ⟨(w.heap.size, x) :: ns, ⟨rfl, p, nd_new w x p, h1.alloc _⟩, ?_, ?_, by simp [vals] at h4 ⊢; exact h4⟩
 ·simp only [blks, List.map_cons, List.nodup_cons]
  exact ⟨fun hm => by have := h1.lt ns p _ hm; omega, h2⟩
 ·intro k hk
  simp only [blks, List.map_cons, List.mem_cons] at hk
  rcases hk with rfl | hk
  ·exact hB
  ·exact h3 k hk
theorem Cha.head {w : World} {B : Nat} {p : Option Addr} {x : Int} {l : List Int} (h : Cha w B p (x :: l)) : ∃ b, p = some ⟨b, 0, none⟩ ∧ w.cell? ⟨b, 0, none⟩ = some (.int .i64 x) := by
 obtain ⟨ns, h1, h2, h3, h4⟩ := h
 cases ns with
 | nil => simp [vals] at h4
 | cons z r =>
  obtain ⟨b, y⟩ := z
  obtain ⟨rfl, m, hn, hs⟩ := h1
  simp [vals] at h4
  exact ⟨b, rfl, by rw [← h4.1]; exact hn.cell0⟩
theorem Cha.isNil {w : World} {B : Nat} {p : Option Addr} (h : Cha w B p []) : p = none := by
 obtain ⟨ns, h1, h2, h3, h4⟩ := h
 have : ns = [] := by simpa [vals] using h4
 subst this
 exact h1
open Classical in
noncomputable def lenOf (w : World) (p : Option Addr) : Nat := if h : ∃ ns, Seg w p ns none then (Classical.choose h).length else 0
theorem lenOf_is {w : World} {p : Option Addr} {ns : List (Nat × Int)} (h : Seg w p ns none) : lenOf w p = ns.length := by
 have hx : ∃ ns, Seg w p ns none := ⟨ns, h⟩
 unfold lenOf
 rw [dif_pos hx, seg_uniq _ _ _ (Classical.choose_spec hx) h]
def ptrOf : Value → Option Addr
 | .pointer p => p
 | _ => none
def ltH (x : Int) : List Int → Bool
 | [] => true
 | y :: _ => decide (x < y)
def bac : List Int → Bool
 | [] => true
 | x :: xs => decide (2 ≤ x) && decide (x ≤ 1000000000) && ltH x xs && bac xs
theorem bac_asc (l : List Int) : bac l = Un.asc 1 l := by
 induction l with
 | nil => rfl
 | cons x xs ih =>
  rw [bac, ih, Un.asc]
  cases xs with
  | nil =>
   by_cases h1 : 1 < x
   ·have h3 : 2 ≤ x := by omega
    simp [Un.asc, ltH, h1, h3]
   ·have h3 : ¬ 2 ≤ x := by omega
    simp [Un.asc, ltH, h1, h3]
  | cons y ys =>
   simp only [Un.asc, ltH]
   by_cases h1 : 1 < x <;> by_cases h2 : x < y
   ·have h3 : 2 ≤ x := by omega
    have h4 : 1 < y := by omega
    simp [h1, h2, h3, h4]
   ·simp [h2]
   ·have h3 : ¬ 2 ≤ x := by omega
    simp [h1, h3]
   ·simp [h2]
theorem okU_bac (l : List Int) : Un.okU l = (decide (l.length ≤ 8) && bac l) := by rw [Un.okU, bac_asc]
theorem bac_drop {l : List Int} (h : bac l = true) : ∀ j, bac (l.drop j) = true := by
 intro j
 induction j with
 | zero => simpa using h
 | succ j ih =>
  by_cases hj : j < l.length
  ·rw [List.drop_eq_getElem_cons hj, bac] at ih
   simp only [Bool.and_eq_true] at ih
   exact ih.2
  ·rw [List.drop_of_length_le (by omega)]; rfl
def okH (x : Int) (xs : List Int) : Prop := 2 ≤ x ∧ x ≤ 1000000000 ∧ ∀ y ys, xs = y :: ys → x < y
theorem bac_next {l : List Int} {i : Nat} {u : Int} (hu : l[i]? = some u) (hb : bac (l.drop (i + 1)) = true) (h : okH u (l.drop (i + 1))) : bac (l.drop i) = true ∧ l.drop i = u :: l.drop (i + 1) := by
 have hi := (List.getElem?_eq_some_iff.1 hu).1
 have e : l[i] = u := (List.getElem?_eq_some_iff.1 hu).2
 have e2 : l.drop i = u :: l.drop (i + 1) := by rw [List.drop_eq_getElem_cons hi, e]
 refine ⟨?_, e2⟩
 rw [e2, bac, hb]
 obtain ⟨h1, h2, h3⟩ := h
 cases hd : l.drop (i + 1) with
 | nil => simp [h1, h2, ltH]
 | cons y ys => simp [h1, h2, ltH, h3 y ys hd]
theorem bac_no {l : List Int} {i : Nat} {u : Int} (hu : l[i]? = some u) (h : ¬ okH u (l.drop (i + 1))) : Un.okU l = false := by
 rw [okU_bac]
 cases hb : bac l with
 | false => simp
 | true =>
  exfalso
  have hi := (List.getElem?_eq_some_iff.1 hu).1
  have e : l[i] = u := (List.getElem?_eq_some_iff.1 hu).2
  have := bac_drop hb i
  rw [List.drop_eq_getElem_cons hi, e, bac] at this
  simp only [Bool.and_eq_true, decide_eq_true_eq] at this
  refine h ⟨this.1.1.1, this.1.1.2, fun y ys hy => ?_⟩
  have h2 := this.1.2
  rw [hy, ltH] at h2
  simpa using h2
def UOf (w : World) (xs : List Int) (e : Ending) (w' : World) : Prop :=
 (∃ p, e = .returned (.tuple #[.pointer p, .bool (Un.okU xs)]) ∧ (Un.okU xs = true → Cha w' w.heap.size p xs)) ∧ Below w.heap.size w w'
theorem unitsOf_any (A : Option Addr) (n c : Nat) (xs : List Int) (w : World) (hx : Ints w w.heap.size A n xs) :
  Calls Tryz.prog 225 #[.slice A n c] w (UOf w xs) := by
 have hl := hx.len
 have hbd := hx.bound
 by_cases hn : 8 < n
 ·have HF : Hid (Un.okU xs = false) := Hd (by simp [Un.okU]; omega)
  clear hx hl
  go_enter Tryz.func225, Tryz.ntmps225
  go_wp2_with fail
  go_ret2
  exact ⟨⟨none, by rw [HF.out]; rfl, fun h => by rw [HF.out] at h; cases h⟩, Below.refl _ _⟩
 ·have HX := Hd hx
  have HL := Hd hl
  have HC0 : Hid (Cha w w.heap.size none (xs.drop n)) := Hd (by rw [List.drop_of_length_le (by omega)]; exact Cha.nil _ _)
  have HB0 : Hid (bac (xs.drop n) = true) := Hd (by rw [List.drop_of_length_le (by omega)]; rfl)
  clear hx hl
  go_enter Tryz.func225, Tryz.ntmps225
  go_wp2_with fail
  go_loopw [4, 5] (fun hv iv wr => ∃ (j : Nat) (p : Option Addr), j ≤ n ∧ hv = .pointer p ∧ iv = .int .i64 ((j : Int) - 1) ∧ Cha wr w.heap.size p (xs.drop j) ∧ bac (xs.drop j) = true ∧ Below w.heap.size w wr) (fun _ iv _ => (intOf iv + 1).toNat)
  case atStart => exact ⟨n, none, by omega, rfl, by go_num, HC0.out, HB0.out, Below.refl _ _⟩
  case round =>
   clear HC0 HB0
   obtain ⟨j, p, hj, rfl, rfl, hch, hbc, hbel⟩ := hrel
   have hsz := hbel.size
   have HCH := Hd hch
   have HBC := Hd hbc
   have HB := Hd hbel
   clear hch hbc hbel
   cases j with
   | zero =>
    have HF : Hid (Un.okU xs = true) := Hd (by have := HBC.out; have := HL.out; rw [okU_bac]; simp at *; exact ⟨by omega, by assumption⟩)
    rw [List.drop_zero] at HCH
    go_wp2_with fail
    go_ret2
    exact ⟨⟨_, by rw [HF.out]; rfl, fun _ => HCH.out⟩, HB.out⟩
   | succ i =>
    obtain ⟨b2, off, u, rfl, hub, hu, hcu⟩ := (HX.out.below HB.out).at_ (show i < n by omega)
    have hi1 : ((i + 1 : Nat) : Int) - 1 = (i : Int) := by omega
    rw [hi1]
    clear hi1
    by_cases hok : okH u (xs.drop (i + 1))
    ·obtain ⟨h1, h2⟩ := bac_next hu HBC.out hok
     obtain ⟨u2, u9, hy⟩ := hok
     have HC1 : Hid (∀ k, Cha ((wr.drewN k).alloc (.cells #[.int .i64 u, .pointer p] 236)) w.heap.size (some ⟨wr.heap.size, 0, none⟩) (xs.drop i)) := Hd fun k => by rw [h2]; exact (HCH.out.drewN k).cons u hsz
     have HB1 := Hd h1
     have HB2 : Hid (∀ k, Below w.heap.size w ((wr.drewN k).alloc (.cells #[.int .i64 u, .pointer p] 236))) := Hd fun k => (below_drewN HB.out k).alloc hsz _
     have t1 : decide (u < 2) = false := by simp; omega
     have t2 : decide (1000000000 < u) = false := by simp; omega
     cases hd : xs.drop (i + 1) with
     | nil =>
      rw [hd] at HCH
      obtain rfl := HCH.out.isNil
      clear hu h1 h2 hy hd HCH HBC
      go_wp2_with fail
      go_quiet (fail)
      go_wp2_with fail
      go_roundw
      case rel => exact ⟨i, _, by omega, rfl, by go_num, HC1.out _, HB1.out, HB2.out _⟩
      case measure => simp [intOf]
     | cons y ys =>
      have hlt := hy y ys hd
      rw [hd] at HCH
      obtain ⟨b, rfl, hcb⟩ := HCH.out.head
      have t3 : decide (y ≤ u) = false := by simp; omega
      clear hu h1 h2 hy hd HCH HBC
      go_wp2_with fail
      go_quiet (fail)
      go_wp2_with fail
      go_roundw
      case rel => exact ⟨i, _, by omega, rfl, by go_num, HC1.out _, HB1.out, HB2.out _⟩
      case measure => simp [intOf]
    ·have HF := Hd (bac_no hu hok)
     by_cases h1 : u < 2
     ·have t1 : decide (u < 2) = true := by simp; omega
      clear hu hok HCH HBC
      go_wp2_with fail
      go_quiet (fail)
      go_wp2_with fail
      go_ret2
      exact ⟨⟨none, by rw [HF.out]; rfl, fun h => by rw [HF.out] at h; cases h⟩, below_drewN HB.out _⟩
     ·have t1 : decide (u < 2) = false := by simp; omega
      by_cases h2 : 1000000000 < u
      ·have t2 : decide (1000000000 < u) = true := by simp; omega
       clear hu hok HCH HBC
       go_wp2_with fail
       go_quiet (fail)
       go_wp2_with fail
       go_ret2
       exact ⟨⟨none, by rw [HF.out]; rfl, fun h => by rw [HF.out] at h; cases h⟩, below_drewN HB.out _⟩
      ·have t2 : decide (1000000000 < u) = false := by simp; omega
       cases hd : xs.drop (i + 1) with
       | nil => exact absurd ⟨by omega, by omega, fun y ys e => by rw [hd] at e; cases e⟩ hok
       | cons y ys =>
        have hge : y ≤ u := by
         rcases Int.lt_or_le u y with hlt | hle
         ·exact absurd ⟨by omega, by omega, fun y' ys' e => by rw [hd] at e; injection e with e1; omega⟩ hok
         ·exact hle
        rw [hd] at HCH
        obtain ⟨b, rfl, hcb⟩ := HCH.out.head
        have t3 : decide (y ≤ u) = true := by simp; omega
        clear hu hok hd HCH HBC
        go_wp2_with fail
        go_quiet (fail)
        go_wp2_with fail
        go_ret2
        exact ⟨⟨none, by rw [HF.out]; rfl, fun h => by rw [HF.out] at h; cases h⟩, below_drewN HB.out _⟩
theorem unitsOf_yes {A : Option Addr} {n c : Nat} {xs : List Int} {w : World} (hx : Ints w w.heap.size A n xs) (h : Un.okU xs = true) :
  Calls Tryz.prog 225 #[.slice A n c] w fun e w' => (∃ p, e = .returned (.tuple #[.pointer p, .bool true]) ∧ Cha w' w.heap.size p xs) ∧ Below w.heap.size w w' :=
 (unitsOf_any A n c xs w hx).mono fun _ _ ⟨⟨p, h1, h2⟩, h3⟩ => ⟨⟨p, by rw [h1, h], h2 h⟩, h3⟩
theorem UnitsValid_any (A : Option Addr) (n c : Nat) (xs : List Int) (w : World) (hx : Ints w w.heap.size A n xs) :
  Calls Tryz.prog 224 #[.slice A n c] w fun e w' => e = .returned (.bool (Un.okU xs)) ∧ Below w.heap.size w w' := by
 have HX := Hd hx
 clear hx
 go_enter Tryz.func224, Tryz.ntmps224
 go_wp2_with fail
 refine (unitsOf_any _ _ _ _ _ HX.out).mono ?_
 rintro e w1 ⟨⟨p, rfl, -⟩, hb⟩
 have HB := Hd hb
 clear hb
 obtain ⟨ok, hok⟩ : ∃ ok, Un.okU xs = ok := ⟨_, rfl⟩
 rw [hok]
 have HOK := Hd hok
 clear hok
 go_wp2
 go_ret
 exact ⟨ret_bool HOK.out.symm, HB.out⟩
theorem UnitsValid_is {A : Option Addr} {n c : Nat} {xs : List Int} {r : Bool} {w : World} (hx : Ints w w.heap.size A n xs) (h : Un.okU xs = r) :
  Calls Tryz.prog 224 #[.slice A n c] w fun e w' => e = .returned (.bool r) ∧ Below w.heap.size w w' := by
 rw [← h]; exact UnitsValid_any A n c xs w hx
theorem vals_cons (b : Nat) (x : Int) (r : List (Nat × Int)) : vals ((b, x) :: r) = x :: vals r := rfl
theorem asc_fail {a u : Int} {l : List Int} (h : ¬ (a + 1 ≤ u ∧ u ≤ 1000000000)) : Un.asc a (u :: l) = false := by
 simp only [Un.asc]
 by_cases h1 : a < u
 ·have h2 : ¬ u ≤ 1000000000 := fun h2 => h ⟨by omega, h2⟩
  simp [h2]
 ·simp [h1]
theorem asc_pass {a u : Int} {l : List Int} (h1 : a + 1 ≤ u) (h2 : u ≤ 1000000000) : Un.asc a (u :: l) = Un.asc u l := by
 have h3 : a < u := by omega
 simp [Un.asc, h2, h3]
theorem drop_at {xs : List Int} {k : Nat} {u : Int} (h : xs[k]? = some u) : xs.drop k = u :: xs.drop (k + 1) := by
 have hi := (List.getElem?_eq_some_iff.1 h).1
 rw [List.drop_eq_getElem_cons hi, (List.getElem?_eq_some_iff.1 h).2]
theorem specUnitsValid_any (A : Option Addr) (n c : Nat) (xs : List Int) (w : World) (B : Nat) (hx : Ints w B A n xs) :
  Calls Tryz.prog 216 #[.slice A n c] w fun e w' => e = .returned (.bool (Un.okU xs)) ∧ w = w' := by
 have hbd := hx.bound
 have HX := Hd hx
 clear hx
 go_enter Tryz.func216, Tryz.ntmps216
 go_wp2_with fail
 go_loop [3, 4] (fun av iv => ∃ (k : Nat) (a : Int), k ≤ n ∧ av = .int .i64 a ∧ iv = .int .i64 (k : Int) ∧ 1 ≤ a ∧ a ≤ 1000000000 ∧ Un.asc 1 xs = Un.asc a (xs.drop k)) (fun _ iv => n - (intOf iv).toNat)
 case atStart => exact ⟨0, 1, by omega, rfl, rfl, by omega, by omega, by rw [List.drop_zero]⟩
 case round =>
  obtain ⟨k, a, hk, rfl, rfl, a1, a9, hq⟩ := hrel
  have HQ := Hd hq
  clear hq
  by_cases hlt : k < n
  ·obtain ⟨b, off, u, rfl, hub, hu, hcu⟩ := HX.out.at_ hlt
   have HD := Hd (drop_at hu)
   clear hu
   rw [HD.out] at HQ
   by_cases hok : a + 1 ≤ u ∧ u ≤ 1000000000
   ·obtain ⟨u1, u9⟩ := hok
    rw [asc_pass u1 u9] at HQ
    go_wp2_with fail
    refine (l6In_yes u1 u9 _).mono ?_
    rintro e w' ⟨rfl, rfl⟩
    go_wp2_with fail
    go_round
    case rel => exact ⟨k + 1, u, by omega, rfl, by go_num, by omega, u9, HQ.out⟩
    case measure => simp [intOf]; omega
   ·rw [asc_fail hok] at HQ
    have hok' : u < a + 1 ∨ 1000000000 < u := by omega
    have HOK := Hd hok'
    clear hok hok'
    go_wp2_with fail
    refine (l6In_no HOK.out _).mono ?_
    rintro e w' ⟨rfl, rfl⟩
    go_wp2
    go_ret
    exact ⟨ret_bool (by rw [Un.okU, HQ.out, Bool.and_false]), rfl⟩
  ·obtain rfl : k = n := by omega
   have HQ2 : Hid (Un.asc 1 xs = true) := Hd (by rw [HQ.out, List.drop_of_length_le (by have := HX.out.len; omega)]; rfl)
   have HL := Hd HX.out.len
   clear HQ
   go_wp2
   go_ret
   exact ⟨ret_bool (by rw [Un.okU, HQ2.out, Bool.and_true, HL.out]; simp; try omega), rfl⟩
theorem specUnitsValid_is {A : Option Addr} {n c : Nat} {xs : List Int} {r : Bool} {w : World} {B : Nat} (hx : Ints w B A n xs) (h : Un.okU xs = r) :
  Calls Tryz.prog 216 #[.slice A n c] w fun e w' => e = .returned (.bool r) ∧ w = w' := by
 rw [← h]; exact specUnitsValid_any A n c xs w B hx
theorem l1Group_any (k : Nat) (hk : k ≤ 1000) (w : World) : Calls Tryz.prog 134 #[.int .i64 (k : Int)] w fun e w' => e = .returned (.int .i64 (Bd.grp k)) ∧ w = w' := by
 rcases Nat.mod_two_eq_zero_or_one k with h | h
 ·have h1 : ((k : Int) % 2 == 0) = true := by simp; omega
  go_enter Tryz.func134, Tryz.ntmps134
  go_wp2
  go_ret
  exact ⟨ret_int (by simp [Bd.grp, h]), rfl⟩
 ·have h1 : ((k : Int) % 2 == 0) = false := by simp; omega
  go_enter Tryz.func134, Tryz.ntmps134
  go_wp2
  go_ret
  exact ⟨ret_int (by simp [Bd.grp, h]), rfl⟩
theorem l1Worth_any (k : Nat) (hk : k ≤ 10) (w : World) : Calls Tryz.prog 142 #[.int .i64 (k : Int)] w fun e w' => e = .returned (.int .i64 (Bd.worth k)) ∧ w = w' := by
 go_enter Tryz.func142, Tryz.ntmps142
 go_wp2
 go_loop [3, 4] (fun t i => ∃ p : Nat, p ≤ k ∧ i = .int .i64 p ∧ t = .int .i64 (Bd.worth p)) (fun _ i => k - (intOf i).toNat)
 case atStart => exact ⟨0, by omega, rfl, rfl⟩
 case round =>
  obtain ⟨p, hp, rfl, rfl⟩ := hrel
  by_cases hlt : p < k
  ·obtain ⟨w0, w1⟩ := Bd.worth_range p (by omega)
   have hs := Bd.worth_succ p
   have HS := Hd hs
   clear hs
   rcases Nat.mod_two_eq_zero_or_one p with h | h
   ·have h1 : ((p : Int) % 2 == 0) = true := by simp; omega
    have hg : Bd.grp p = 5 := by simp [Bd.grp, h]
    have HG := Hd hg
    clear hg h
    go_wp2
    go_round
    case rel => exact ⟨p + 1, by omega, by go_num, by rw [HS.out, HG.out, Int.mul_comm]⟩
    case measure => simp [intOf]; omega
   ·have h1 : ((p : Int) % 2 == 0) = false := by simp; omega
    have hg : Bd.grp p = 2 := by simp [Bd.grp, h]
    have HG := Hd hg
    clear hg h
    go_wp2
    go_round
    case rel => exact ⟨p + 1, by omega, by go_num, by rw [HS.out, HG.out, Int.mul_comm]⟩
    case measure => simp [intOf]; omega
  ·go_wp2
   go_ret
   obtain rfl : p = k := by omega
   exact ⟨rfl, rfl⟩
theorem okB_out {xs : List Int} {k : Nat} {u : Int} (h : xs[k]? = some u) (hu : u < 0 ∨ 20 < u) : Bd.okB xs = false := by
 cases hb : Bd.okB xs with
 | false => rfl
 | true => have := ((Bd.okB_iff xs).1 hb).2 u (List.mem_of_getElem? h); omega
theorem okB_len {xs : List Int} (h : xs.length ≠ 10) : Bd.okB xs = false := by
 cases hb : Bd.okB xs with
 | false => rfl
 | true => exact absurd ((Bd.okB_iff xs).1 hb).1 h
theorem specBoardValid_any (A : Option Addr) (n c : Nat) (xs : List Int) (w : World) (B : Nat) (hx : Ints w B A n xs) :
  Calls Tryz.prog 104 #[.slice A n c] w fun e w' => e = .returned (.bool (Bd.okB xs)) ∧ w = w' := by
 have hb := hx.bound
 have HX := Hd hx.len
 rcases h10 : ((n : Int) == 10) with _ | _
 all_goals
  go_enter Tryz.func104, Tryz.ntmps104
  go_wp2
  go_loop [3] (fun i => ∃ k : Nat, k ≤ n ∧ i = .int .i64 k ∧ ∀ x ∈ xs.take k, 0 ≤ x ∧ x ≤ 20) (fun i => n - (intOf i).toNat)
  case atStart => exact ⟨0, by omega, rfl, by simp⟩
  case round =>
   obtain ⟨k, hk, rfl, hin⟩ := hrel
   have HIN := Hd hin
   clear hin
   by_cases hlt : k < n
   ·obtain ⟨b, off, u, rfl, hlb, hu, hcell⟩ := hx.at_ hlt
    have HU := Hd hu
    clear hu
    by_cases hr : u < 0 ∨ 20 < u
    ·have HR := Hd hr
     clear hr
     go_wp2_with (go_at_call 67; refine (l6In_no HR.out _).mono ?_; rintro e w' ⟨rfl, rfl⟩)
     go_ret
     exact ⟨ret_bool (okB_out HU.out HR.out).symm, rfl⟩
    ·have r0 : 0 ≤ u := by omega
     have r1 : u ≤ 20 := by omega
     clear hr
     go_wp2_with (go_at_call 67; refine (l6In_yes (by omega) (by omega) _).mono ?_; rintro e w' ⟨rfl, rfl⟩)
     go_round
     case rel => exact ⟨k + 1, by omega, by go_num, by rw [take_next HU.out]; intro x hx; rcases List.mem_append.1 hx with h | h; exact HIN.out x h; simp at h; omega⟩
     case measure => simp [intOf]; omega
   ·go_wp2
    go_ret
    obtain rfl : k = n := by omega
    refine ⟨ret_bool ?_, rfl⟩
    have hin := HIN.out
    rw [List.take_of_length_le (by have := HX.out; omega)] at hin
    first
     | (symm; exact okB_len (by have := HX.out; simp at h10; omega))
     | (symm; exact (Bd.okB_iff xs).2 ⟨by have := HX.out; simp at h10; omega, hin⟩)
theorem l1Value_any (A : Option Addr) (n c : Nat) (xs : List Int) (w : World) (B : Nat) (hx : Ints w B A n xs) (hok : Bd.okB xs = true) :
  Calls Tryz.prog 105 #[.slice A n c] w fun e w' => e = .returned (.int .i64 (Bd.V true xs)) ∧ ∃ q, w' = w.drewN q := by
 have hl := (Bd.okB_iff xs).1 hok
 have hn : n = 10 := by have := hx.len; omega
 subst hn
 have HL := Hd hl
 clear hl hok
 go_enter Tryz.func105, Tryz.ntmps105
 go_wp2
 go_loopw [3, 4] (fun s i wr => ∃ k q : Nat, k ≤ 10 ∧ i = .int .i64 k ∧ s = .int .i64 (Bd.V true (xs.take k)) ∧ wr = w.drewN q) (fun _ i _ => 10 - (intOf i).toNat)
 case atStart => exact ⟨0, 0, by omega, rfl, rfl, rfl⟩
 case round =>
  obtain ⟨k, q, hk, rfl, rfl, hwr⟩ := hrel
  have hxr : Ints wr B A 10 xs := by rw [hwr]; exact hx.drewN q
  have HWR := Hd hwr
  clear hwr
  by_cases hlt : k < 10
  ·obtain ⟨b, off, u, rfl, hlb, hu, hcell⟩ := hxr.at_ hlt
   obtain ⟨m0, m1⟩ := HL.out.2 u (List.mem_of_getElem? hu)
   have HV := Hd (Bd.V_take hu)
   obtain ⟨t0, t1⟩ := Bd.term_range m0 m1 hk
   obtain ⟨v0, v1⟩ := Bd.V_take_range HL.out.2 k hk (by have := HL.out.1; omega)
   clear hu
   generalize Bd.V true (xs.take k) = v at *
   have s1 : IntKind.i64.wrap (u * Bd.worth k) = u * Bd.worth k := IntWalk.i64_in _ (by omega)
   have s2 : IntKind.i64.wrap (v + u * Bd.worth k) = v + u * Bd.worth k := IntWalk.i64_in _ (by omega)
   go_wp2_with fail
   go_quiet ((go_at_call 142; exact quiet_same (l1Worth_any _ (by omega) _)))
   clear s1 s2
   go_wp2
   go_roundw
   case rel => exact ⟨k + 1, _, by omega, by go_num, by rw [HV.out], by rw [HWR.out, World.drewN_drewN]⟩
   case measure => simp [intOf]; omega
  ·go_wp2
   go_ret
   obtain rfl : k = 10 := by omega
   exact ⟨ret_int (by rw [List.take_of_length_le (by have := HL.out.1; omega)]), _, HWR.out⟩
theorem specBoardValue_any (A : Option Addr) (n c : Nat) (xs : List Int) (w : World) (B : Nat) (hx : Ints w B A n xs) :
  Calls Tryz.prog 54 #[.slice A n c] w fun e w' => e = .returned (.int .i64 (bVal xs)) ∧ Below w.heap.size w w' := by
 have hx' := Hd hx
 rcases hok : Bd.okB xs with _ | _
 ·have HOK := Hd hok
  have HV := Hd (show bVal xs = -1 by simp [bVal, hok])
  clear hx hok
  go_enter Tryz.func54, Tryz.ntmps54
  go_wp2_with (go_at_call 104; refine (specBoardValid_any _ _ _ xs _ B hx'.out).mono ?_; rintro e w' ⟨rfl, rfl⟩; rw [HOK.out])
  go_ret
  exact ⟨ret_int HV.out.symm, Below.refl _ _⟩
 ·have HOK := Hd hok
  have HV := Hd (show bVal xs = Bd.V true xs by simp [bVal, hok])
  clear hx hok
  go_enter Tryz.func54, Tryz.ntmps54
  go_wp2_with (first
   | (go_at_call 104; refine (specBoardValid_any _ _ _ xs _ B hx'.out).mono ?_; rintro e w' ⟨rfl, rfl⟩; rw [HOK.out])
   | (go_at_call 105; refine (l1Value_any _ _ _ xs _ B hx'.out HOK.out).mono ?_; rintro e w' ⟨rfl, q, rfl⟩))
  go_ret
  exact ⟨ret_int HV.out.symm, below_drewN (Below.refl _ _) _⟩
theorem specBoardOf_any (v : Int) (w : World) : Calls Tryz.prog 26 #[.int .i64 v] w (BoardPost w (okV v) (Bd.D true 10 v)) := by
 by_cases hr : v < 0 ∨ 99999 < v
 ·have hok : okV v = false := by simp [okV]; omega
  rw [hok]
  have HR := Hd hr
  clear hr hok
  go_enter Tryz.func26, Tryz.ntmps26
  go_wp2_with (go_at_call 67; refine (l6In_no HR.out _).mono ?_; rintro e w' ⟨rfl, rfl⟩)
  go_ret2
  exact ⟨⟨_, _, _, rfl, own_lit w [] w.heap.size 0 rfl (by omega) (Nat.le_refl _)⟩, (Below.refl _ _).alloc (Nat.le_refl _) _⟩
 ·have hok : okV v = true := by simp [okV]; omega
  rw [hok]
  have r0 : 0 ≤ v := by omega
  have r1 : v ≤ 99999 := by omega
  have hown0 := own_lit w [] w.heap.size 0 rfl (by omega) (Nat.le_refl _)
  have HO := Hd hown0
  clear hr hok hown0
  go_enter Tryz.func26, Tryz.ntmps26
  go_wp2_with (go_at_call 67; refine (l6In_yes (by omega) (by omega) _).mono ?_; rintro e w' ⟨rfl, rfl⟩)
  go_loopw [0, 4, 5] (fun val out i wr => ∃ (j : Nat) (A : Option Addr) (c : Nat) (pre : List Int) (z : Int), j ≤ 5 ∧ i = .int .i64 (2 * j : Nat) ∧ val = .int .i64 z ∧ 0 ≤ z ∧ z ≤ 99999 ∧ out = .slice A (2 * j) c ∧ Own wr w.heap.size A (2 * j) c pre ∧ pre ++ Bd.D true (10 - 2 * j) z = Bd.D true 10 v ∧ Below w.heap.size w wr) (fun _ _ i _ => 10 - (intOf i).toNat)
  case atStart => exact ⟨0, _, _, [], v, by omega, rfl, rfl, r0, r1, rfl, HO.out, rfl, (Below.refl _ _).alloc (Nat.le_refl _) _⟩
  case round =>
   obtain ⟨j, A, c, pre, z, hj, rfl, rfl, z0, z1, rfl, hown, heq, hbel⟩ := hrel
   have HEQ := Hd heq
   clear heq r0 r1
   by_cases hlt : j < 5
   ·have e2 : Bd.D true (10 - 2 * j) z = z % 5 :: (z / 5 % 2) :: Bd.D true (10 - 2 * (j + 1)) (z / 10) := by
     rw [show 10 - 2 * j = (10 - 2 * (j + 1)) + 2 from by omega]
     simp only [Bd.D, Bd.full]
     simp
     rw [Int.ediv_ediv_of_nonneg (by omega)]
     rfl
    have HE2 := Hd e2
    have hB := hbel.size
    clear e2
    go_wp2_with (at_builtin; refine wpList_app rfl _ _ rfl rfl hown [z % 5, z / 5 % 2] 2 rfl _ rfl _ rfl (by omega) hB ?_; intro A1 c1 w2 hown2 hg2)
    have hbel2 := below_step hbel hg2 hown hB
    go_roundw
    case rel =>
     refine ⟨j + 1, A1, c1, pre ++ [z % 5, z / 5 % 2], z / 10, by omega, by go_num, rfl, by omega, by omega, by rw [show 2 * (j + 1) = 2 * j + 2 from by omega], by rw [show 2 * (j + 1) = 2 * j + 2 from by omega]; exact hown2, ?_, hbel2⟩
     have := HEQ.out
     rw [HE2.out] at this
     rw [← this]
     simp
    case measure => simp [intOf]; omega
   ·go_wp2
    go_ret2
    obtain rfl : j = 5 := by omega
    refine ⟨⟨_, _, _, rfl, ?_⟩, hbel⟩
    have := HEQ.out
    simp only [Nat.reduceMul, Nat.sub_self, Bd.D, List.append_nil] at this
    rw [if_pos rfl, ← show pre = Bd.D true 10 v from by simpa [Bd.D] using this]
    exact hown
def ApartV (v v' : Value) : Prop := ∀ j, v.ownBlock = some j → v'.ownBlock ≠ some j
theorem wpList_app_loc {ops : Array Oper} {rest : List Oper} {o : Oper} {a : Act} {w : World} {Q : Exit → Act → World → Prop} (hgd : o.guard = none) (s x : Operand)
  (ho : o.op = .call { callee := .builtin .append, args := #[s, x], argTypes := #[28, 28] })
  {B : Nat} {A : Option Addr} {n c : Nat} {xs : List Int} (hs : a.eval s = .slice A n c) (hown : Own w B A n c xs) (us : List Int) (m : Nat) (hm : us.length = m) (c0 : Nat)
  (hx : a.eval x = .slice (some ⟨w.heap.size, 0, none⟩) m c0) (cs : Array Value) (hcs : cs = (IV us).toArray) (hn : n + m ≤ 1099511627776) (hB : B ≤ w.heap.size)
  (h : ∀ A' c' w', Own w' B A' (n + m) c' (xs ++ us) → w.grownBy w' (Value.slice A n c).ownBlock → (∀ j, (Value.slice A' (n + m) c').ownBlock = some j → (Value.slice A n c).ownBlock = some j ∨ w.heap.size ≤ j) → wpList Tryz.prog ops Q rest (a.put o.dst (.slice A' (n + m) c')) w') :
  wpList Tryz.prog ops Q (o :: rest) a (w.alloc (.cells cs 3)) := by
 obtain ⟨i0, hi, hz0, hz1, hz2⟩ := info_parts own_int_info
 subst hcs
 subst hm
 refine wpList_append_own_at _ hgd s x 28 ho B 3 i0 (.int .i64 0) 1 8 Tryz.underlying28 hi hz0 hz1 hz2 rfl (by decide) _ n (IV xs) hs (hown.1.alloc _)
  ⟨w.heap.size, 0, none⟩ us.length c0 (IV us) hx (by simp [IV]) ?_ (IV_one us) (by unfold maxLen; omega) (by omega) (by simp; omega) ?_
 ·intro j u hj
  rw [add_row, cell_of_row _ w.heap.size j _ _ _ (heap_alloc_new w _)]
  simpa using hj
 ·intro v' w' hown' hg _ hat
  obtain ⟨A', c', rfl, h'⟩ := Own.of_app us rfl hown' hn
  refine h A' c' w' h' ⟨hg.os, hg.tape, hg.output, by have := hg.size; simp at this; omega, fun k hk hne => (hg.block k (by simp; omega) hne).trans (Below.heap_alloc w _ k hk)⟩ fun j hj => ?_
  rcases hat with e | e
  ·exact .inl (e.symm.trans hj)
  ·rw [e] at hj
   injection hj with hj
   simp at hj
   exact .inr (by omega)
def lefts (rs : List (Nat × Nat × Nat)) : List Int := rs.map fun x => (x.2.1 : Int)
def rights (rs : List (Nat × Nat × Nat)) : List Int := rs.map fun x => (x.2.2 : Int)
def odds (rs : List (Nat × Nat × Nat)) : List (Nat × Nat × Nat) := rs.filter fun x => x.2.1 % 2 == 1
def kepts (rs : List (Nat × Nat × Nat)) : List Int := (odds rs).map fun x => (x.1 : Int)
theorem lefts_snoc (rs : List (Nat × Nat × Nat)) (k l r : Nat) : lefts (rs ++ [(k, l, r)]) = lefts rs ++ [(l : Int)] := by simp [lefts]
theorem rights_snoc (rs : List (Nat × Nat × Nat)) (k l r : Nat) : rights (rs ++ [(k, l, r)]) = rights rs ++ [(r : Int)] := by simp [rights]
theorem rowsL_length : ∀ f i l r, (rowsL f i l r).length ≤ f
 | 0, _, _, _ => by simp [rowsL]
 | f + 1, i, l, r => by
  unfold rowsL
  split
  ·simp
  ·have := rowsL_length f (i + 1) (l / 2) (r * 2)
   simp; omega
theorem rowsL_get : ∀ (f i l r k : Nat) (x : Nat × Nat × Nat), (rowsL f i l r)[k]? = some x → x.1 = i + k
 | 0, _, _, _, _, _, h => by simp [rowsL] at h
 | f + 1, i, l, r, k, x, h => by
  unfold rowsL at h
  split at h
  ·simp at h
  ·cases k with
   | zero => simp at h; subst h; simp
   | succ k =>
    have := rowsL_get f (i + 1) (l / 2) (r * 2) k x (by simpa using h)
    omega
theorem rowsL_mem {f l r : Nat} {x : Nat × Nat × Nat} (h : x ∈ rowsL f 0 l r) : (rowsL f 0 l r)[x.1]? = some x := by
 obtain ⟨k, hk, e⟩ := List.mem_iff_getElem.1 h
 have e2 : (rowsL f 0 l r)[k]? = some x := by rw [List.getElem?_eq_getElem hk, e]
 have := rowsL_get f 0 l r k x e2
 rw [this, Nat.zero_add]
 exact e2
theorem kepts_snoc (rs : List (Nat × Nat × Nat)) (x : Nat × Nat × Nat) : kepts (rs ++ [x]) = if x.2.1 % 2 = 1 then kepts rs ++ [(x.1 : Int)] else kepts rs := by
 by_cases h : x.2.1 % 2 = 1 <;> simp [kepts, odds, h]
def sumR (rs : List (Nat × Nat × Nat)) : Nat := (rs.map fun x => x.2.2).sum
theorem sumR_odds : ∀ rs : List (Nat × Nat × Nat), sumR (odds rs) = keepS rs
 | [] => rfl
 | x :: rs => by
  have ih := sumR_odds rs
  by_cases h : x.2.1 % 2 = 1 <;> simp [odds, sumR, keepS, h] at ih ⊢ <;> exact ih
theorem sumR_take (rs : List (Nat × Nat × Nat)) (k : Nat) : sumR (rs.take k) ≤ sumR rs := by
 have e : sumR rs = sumR (rs.take k) + sumR (rs.drop k) := by
  show (rs.map fun x => x.2.2).sum = ((rs.take k).map fun x => x.2.2).sum + ((rs.drop k).map fun x => x.2.2).sum
  first
   | rw [← List.sum_append, ← List.map_append, List.take_append_drop]
   | rw [← List.sum_append_nat, ← List.map_append, List.take_append_drop]
 omega
theorem sumR_next {rs : List (Nat × Nat × Nat)} {k : Nat} {x : Nat × Nat × Nat} (h : rs[k]? = some x) : sumR (rs.take (k + 1)) = sumR (rs.take k) + x.2.2 := by
 rw [List.take_add_one, h]
 simp [sumR]
theorem l2Factors_yes (a b : Nat) (w : World) (ha1 : 1 ≤ a) (ha2 : a ≤ 100000) (hb1 : 1 ≤ b) (hb2 : b ≤ 100000) :
  Calls Tryz.prog 112 #[.int .i64 (a : Int), .int .i64 (b : Int)] w fun e w' => e = .returned (.bool true) ∧ w = w' := by
 go_enter Tryz.func112, Tryz.ntmps112
 go_wp2_with fail
 refine (l6In_yes (by omega) (by omega) _).mono ?_
 rintro e w' ⟨rfl, rfl⟩
 go_wp2_with fail
 refine (l6In_yes (by omega) (by omega) _).mono ?_
 rintro e w' ⟨rfl, rfl⟩
 go_wp2_with fail
 go_ret
 exact ⟨rfl, rfl⟩
theorem l2Factors_no (a b : Int) (w : World) (h : ¬ ((1 ≤ a ∧ a ≤ 100000) ∧ 1 ≤ b ∧ b ≤ 100000)) :
  Calls Tryz.prog 112 #[.int .i64 a, .int .i64 b] w fun e w' => e = .returned (.bool false) ∧ w = w' := by
 by_cases ha : 1 ≤ a ∧ a ≤ 100000
 ·have hb : b < 1 ∨ 100000 < b := by omega
  go_enter Tryz.func112, Tryz.ntmps112
  go_wp2_with fail
  refine (l6In_yes ha.1 ha.2 _).mono ?_
  rintro e w' ⟨rfl, rfl⟩
  go_wp2_with fail
  refine (l6In_no hb _).mono ?_
  rintro e w' ⟨rfl, rfl⟩
  go_wp2_with fail
  go_ret
  exact ⟨rfl, rfl⟩
 ·go_enter Tryz.func112, Tryz.ntmps112
  go_wp2_with fail
  have ha' : a < 1 ∨ 100000 < a := by omega
  clear ha h
  refine (l6In_no ha' _).mono ?_
  rintro e w' ⟨rfl, rfl⟩
  go_wp2_with fail
  go_ret
  exact ⟨rfl, rfl⟩
def RowsPost (rs : List (Nat × Nat × Nat)) (w : World) (e : Ending) (w' : World) : Prop :=
 ∃ A n c A' n' c', e = .returned (.tuple #[.slice A n c, .slice A' n' c', .bool true]) ∧ Own w' w.heap.size A n c (lefts rs) ∧ Own w' w.heap.size A' n' c' (rights rs) ∧ Below w.heap.size w w'
theorem specDupRows_yes (a b : Nat) (w : World) (ha1 : 1 ≤ a) (ha2 : a ≤ 100000) (hb1 : 1 ≤ b) (hb2 : b ≤ 100000) :
    Calls Tryz.prog 77 #[.int .i64 (a : Int), .int .i64 (b : Int)] w (RowsPost (rowsL 17 0 a b) w) := by
  go_enter Tryz.func77, Tryz.ntmps77
  go_wp2_with fail
  refine (l2Factors_yes a b _ ha1 ha2 hb1 hb2).mono ?_
  rintro e w' ⟨rfl, rfl⟩
  have HL := Hd ((lit_nil w).alloc (.cells #[] 3))
  have HR := Hd ((lit_nil (w.alloc (.cells #[] 3))).mono (B' := w.heap.size) (by simp))
  have HB := Hd (((Below.refl w.heap.size w).alloc (Nat.le_refl _) (.cells #[] 3)).alloc (by simp) (.cells #[] 3))
  go_wp2_with fail
  go_loopw [0, 1, 7, 8] (fun av bv lv rv wr => ∃ (pre : List (Nat × Nat × Nat)) (k c lf rt : Nat) (AL AR : Option Addr) (cL cR : Nat), av = .int .i64 (lf : Int) ∧ bv = .int .i64 (rt : Int) ∧ lv = .slice AL k cL ∧ rv = .slice AR k cR ∧ k + c = 17 ∧ lf < 2 ^ c ∧ rt ≤ 100000 * 2 ^ k ∧ pre.length = k ∧ pre ++ rowsL c k lf rt = rowsL 17 0 a b ∧ Own wr w.heap.size AL k cL (lefts pre) ∧ Own wr w.heap.size AR k cR (rights pre) ∧ ApartV (.slice AL k cL) (.slice AR k cR) ∧ Below w.heap.size w wr) (fun av _ _ _ _ => (intOf av).toNat)
  case atStart =>
    refine ⟨[], 0, 17, a, b, _, _, _, _, rfl, rfl, rfl, rfl, rfl, by omega, by omega, rfl, rfl, HL.out, ?_, ?_, HB.out⟩
    · simpa [rights] using HR.out
    · intro j hj e
      simp [Value.ownBlock] at hj e
      omega
  case round =>
    clear HL HR HB
    obtain ⟨pre, k, c, lf, rt, AL, AR, cL, cR, rfl, rfl, rfl, rfl, hkc, hlf, hrt, hpre, hrows, hL, hR, hap, hb⟩ := hrel
    have HL := Hd hL
    have HR := Hd hR
    have HAP := Hd hap
    have HB := Hd hb
    have hsz := hb.size
    clear hL hR hap hb
    by_cases hl0 : lf = 0
    · subst hl0
      go_wp2_with fail
      refine bodyPost_ret (results_tmp3 rfl _ _ _) rfl ?_
      have e : pre = rowsL 17 0 a b := by cases c <;> simpa [rowsL] using hrows
      rw [← e]
      exact ⟨_, _, _, _, _, _, rfl, HL.out, HR.out, HB.out⟩
    · obtain ⟨c, rfl⟩ : ∃ c', c = c' + 1 := by
        cases c with
        | zero => simp at hlf; omega
        | succ c => exact ⟨c, rfl⟩
      have hp : (2 : Nat) ^ k ≤ 2 ^ 16 := Nat.pow_le_pow_right (by omega) (by omega)
      have hr2 : (rt : Int) ≤ 6553600000 := by omega
      have hr0 : (0 : Int) ≤ (rt : Int) := by omega
      have hl1 : (0 : Int) < (lf : Int) := by omega
      have hlf2 : (lf : Int) ≤ 131072 := by
        have : (2 : Nat) ^ (c + 1) ≤ 2 ^ 17 := Nat.pow_le_pow_right (by omega) (by omega)
        omega
      go_wp2_with (first
        | (at_builtin; refine wpList_app_loc rfl _ _ rfl rfl HL.out [(lf : Int)] 1 rfl _ rfl _ rfl (by omega) (by omega) ?_; intro A1 c1 w1 own1 hg1 hat1
           have HR1 := Hd (HR.out.kept hg1 fun j hj e => HAP.out j e hj)
           have HB1 := Hd (HB.out.grown hg1 hsz fun j hj => (HL.out.blk j hj).1)
           have hsz1 := HB1.out.size
           have HL1 := Hd own1
           have HAP1 := Hd (show ApartV (.slice A1 (k + 1) c1) (.slice AR k cR) from fun j hj e => by
             rcases hat1 j hj with h | h
             · exact HAP.out j h e
             · have := (HR.out.blk j e).2; omega)
           clear own1 hat1 hg1 HL HR HB HAP)
        | (at_builtin; refine wpList_app_loc rfl _ _ rfl rfl HR1.out [(rt : Int)] 1 rfl _ rfl _ rfl (by omega) (by omega) ?_; intro A2 c2 w2 own2 hg2 hat2))
      go_roundw
      case rel =>
        refine ⟨pre ++ [(k, lf, rt)], k + 1, c, lf / 2, rt * 2, _, _, _, _, ?_, ?_, rfl, rfl, by omega, ?_, ?_, by simp [hpre], ?_, ?_, ?_, ?_, ?_⟩
        · congr 1
        · congr 1; omega
        · rw [Nat.pow_succ] at hlf; omega
        · rw [Nat.pow_succ]; omega
        · rw [← hrows, rowsL, if_neg hl0]; simp
        · rw [lefts_snoc]; exact HL1.out.kept hg2 fun j hj e => HAP1.out j hj e
        · rw [rights_snoc]; exact own2
        · intro j hj e
          rcases hat2 j e with h | h
          · exact HAP1.out j hj h
          · have := (HL1.out.blk j hj).2; omega
        · exact HB1.out.grown hg2 hsz1 fun j hj => (HR1.out.blk j hj).1
      case measure => simp [intOf]; omega
theorem lefts_get {rs : List (Nat × Nat × Nat)} {k : Nat} {u : Int} (h : (lefts rs)[k]? = some u) : ∃ x, rs[k]? = some x ∧ u = (x.2.1 : Int) := by
 unfold lefts at h
 rw [List.getElem?_map] at h
 cases hx : rs[k]? with
 | none => rw [hx] at h; cases h
 | some x => rw [hx] at h; injection h with h; exact ⟨x, rfl, h.symm⟩
theorem kepts_get {rs : List (Nat × Nat × Nat)} {k : Nat} {u : Int} (h : (kepts rs)[k]? = some u) : ∃ x, (odds rs)[k]? = some x ∧ u = (x.1 : Int) := by
 unfold kepts at h
 rw [List.getElem?_map] at h
 cases hx : (odds rs)[k]? with
 | none => rw [hx] at h; cases h
 | some x => rw [hx] at h; injection h with h; exact ⟨x, rfl, h.symm⟩
theorem specDupKept_yes (a b : Nat) (w : World) (ha1 : 1 ≤ a) (ha2 : a ≤ 100000) (hb1 : 1 ≤ b) (hb2 : b ≤ 100000) :
  Calls Tryz.prog 78 #[.int .i64 (a : Int), .int .i64 (b : Int)] w fun e w' => ∃ A n c, e = .returned (.slice A n c) ∧ Ints w' w'.heap.size A n (kepts (rowsL 17 0 a b)) ∧ Below w.heap.size w w' := by
 have hrl := rowsL_length 17 0 a b
 go_enter Tryz.func78, Tryz.ntmps78
 go_wp2_with fail
 have HK := Hd (lit_nil w)
 refine (specDupRows_yes a b _ ha1 ha2 hb1 hb2).mono ?_
 rintro e w1 ⟨A, n, c, A', n', c', rfl, hl, -, hb1⟩
 have HAP := Hd (show ApartV (.slice (some ⟨w.heap.size, 0, none⟩) 0 0) (.slice A n c) from fun j hj e => by
  have h1 := (hl.blk j e).1
  simp [Value.ownBlock] at hj h1
  omega)
 replace HK := Hd (HK.out.next hb1)
 have HB := Hd (((Below.refl w.heap.size w).alloc (Nat.le_refl _) (.cells #[] 3)).trans (hb1.mono (by simp)))
 have HX := Hd (hl.mono (B' := w.heap.size) (by simp))
 have hn : n = (rowsL 17 0 a b).length := by have := hl.len; simpa [lefts] using this.symm
 have hn17 : (n : Int) ≤ 17 := by omega
 clear hb1 hl
 go_wp2_with fail
 go_loopw [5, 9] (fun ov iv wr => ∃ (k m : Nat) (Ao : Option Addr) (co : Nat), iv = .int .i64 (k : Int) ∧ k ≤ n ∧ m ≤ k ∧ ov = .slice Ao m co ∧ Own wr w.heap.size Ao m co (kepts ((rowsL 17 0 a b).take k)) ∧ Own wr w.heap.size A n c (lefts (rowsL 17 0 a b)) ∧ ApartV (.slice Ao m co) (.slice A n c) ∧ Below w.heap.size w wr) (fun _ iv _ => n - (intOf iv).toNat)
 case atStart => exact ⟨0, 0, _, _, rfl, by omega, by omega, rfl, HK.out, HX.out, HAP.out, HB.out⟩
 case round =>
  clear HK HX HB HAP
  obtain ⟨k, m, Ao, co, rfl, hk, hm, rfl, hL, hR, hap, hb⟩ := hrel
  have HL := Hd hL
  have HR := Hd hR
  have HAP := Hd hap
  have HB := Hd hb
  have hsz := hb.size
  have hi := hR.ints
  clear hL hR hap hb
  by_cases hlt : k < n
  ·obtain ⟨bl, off, u, rfl, hlb, hu, hcell⟩ := hi.at_ hlt
   obtain ⟨x, hx, rfl⟩ := lefts_get hu
   have hxk := rowsL_get 17 0 a b k x hx
   have hx0 : (0 : Int) ≤ (x.2.1 : Int) := by omega
   have HN := Hd (kepts_snoc ((rowsL 17 0 a b).take k) x)
   rw [← take_next hx] at HN
   have HXK := Hd hxk
   clear hu hx hxk hi
   by_cases hodd : x.2.1 % 2 = 1
   ·have hkI : (x.2.1 : Int) % 2 = 1 := by omega
    rw [if_pos hodd] at HN
    clear hodd
    go_wp2_with (at_builtin; refine wpList_app_loc rfl _ _ rfl rfl HL.out [(k : Int)] 1 rfl _ rfl _ rfl (by omega) (by omega) ?_; intro A1 c1 w1 own1 hg1 hat1)
    go_roundw
    case rel =>
     refine ⟨k + 1, m + 1, _, _, by go_num, by omega, by omega, rfl, ?_, HR.out.kept hg1 fun j hj e => HAP.out j e hj, ?_, HB.out.grown hg1 hsz fun j hj => (HL.out.blk j hj).1⟩
     ·rw [HN.out, HXK.out, Nat.zero_add]; exact own1
     ·intro j hj e
      rcases hat1 j hj with h | h
      ·exact HAP.out j h e
      ·have := (HR.out.blk j e).2; omega
    case measure => simp [intOf]; omega
   ·have hkI : (x.2.1 : Int) % 2 ≠ 1 := by omega
    rw [if_neg hodd] at HN
    clear hodd
    go_wp2_with fail
    go_roundw
    case rel => exact ⟨k + 1, m, _, _, by go_num, by omega, by omega, rfl, by rw [HN.out]; exact HL.out, HR.out, HAP.out, HB.out⟩
    case measure => simp [intOf]; omega
  ·obtain rfl : k = n := by omega
   clear hi
   go_wp2_with fail
   go_ret
   have h := HL.out.ints
   rw [List.take_of_length_le (by omega)] at h
   exact ⟨_, _, _, rfl, h, HB.out⟩
theorem specDupTimes_yes (a b : Nat) (w : World) (ha1 : 1 ≤ a) (ha2 : a ≤ 100000) (hb1 : 1 ≤ b) (hb2 : b ≤ 100000) :
  Calls Tryz.prog 34 #[.int .i64 (a : Int), .int .i64 (b : Int)] w fun e w' => e = .returned (.int .i64 ((a * b : Nat) : Int)) ∧ Below w.heap.size w w' := by
 have htot : sumR (odds (rowsL 17 0 a b)) = a * b := by rw [sumR_odds, keepS_rows 17 0 a b (by omega)]
 have hmax : a * b ≤ 100000 * 100000 := Nat.mul_le_mul ha2 hb2
 go_enter Tryz.func34, Tryz.ntmps34
 go_wp2_with fail
 refine (specDupRows_yes a b _ ha1 ha2 hb1 hb2).mono ?_
 rintro e w1 ⟨A, n, c, A', n', c', rfl, -, hr, hb1'⟩
 have HB1 := Hd hb1'
 have HR1 := Hd hr.ints
 clear hb1' hr
 go_wp2_with fail
 refine (specDupKept_yes a b _ ha1 ha2 hb1 hb2).mono ?_
 rintro e w2 ⟨K, m, ck, rfl, hk, hb2'⟩
 have hr2 := HR1.out.next hb2'
 have HB := Hd (below_chain HB1.out hb2')
 have hm : m = (odds (rowsL 17 0 a b)).length := by have := hk.len; simpa [kepts] using this.symm
 have hn : n' = (rowsL 17 0 a b).length := by have := hr2.len; simpa [rights] using this.symm
 have hm17 : (m : Int) ≤ 17 := by
  have h1 := rowsL_length 17 0 a b
  have h2 : (odds (rowsL 17 0 a b)).length ≤ (rowsL 17 0 a b).length := List.length_filter_le _ _
  omega
 clear HB1 HR1 hb2'
 go_wp2_with fail
 go_loopw [9, 10] (fun nv iv wr => ∃ (k s : Nat), wr = w2 ∧ iv = .int .i64 (k : Int) ∧ nv = .int .i64 (s : Int) ∧ k ≤ m ∧ s = sumR ((odds (rowsL 17 0 a b)).take k)) (fun _ iv _ => m - (intOf iv).toNat)
 case atStart => exact ⟨0, 0, rfl, rfl, rfl, by omega, rfl⟩
 case round =>
  obtain ⟨k, s, hwr, rfl, rfl, hkm, hs⟩ := hrel
  subst hwr
  by_cases hlt : k < m
  ·obtain ⟨bl, off, u, rfl, hlb, hu, hcell⟩ := hk.at_ hlt
   obtain ⟨x, hx, rfl⟩ := kepts_get hu
   have hxm : x ∈ rowsL 17 0 a b := (List.mem_filter.1 (List.mem_of_getElem? hx)).1
   have hxr := rowsL_mem hxm
   have hxn : x.1 < n' := by have := (List.getElem?_eq_some_iff.1 hxr).1; omega
   obtain ⟨bl2, off2, u2, rfl, hlb2, hu2, hcell2⟩ := hr2.at_ hxn
   have e2 : u2 = (x.2.2 : Int) := by
    have : (rights (rowsL 17 0 a b))[x.1]? = some (x.2.2 : Int) := by simp [rights, hxr]
    rw [this] at hu2
    injection hu2 with hu2
    exact hu2.symm
   subst e2
   have hnx := sumR_next hx
   have hle := sumR_take (odds (rowsL 17 0 a b)) (k + 1)
   have hsI : (s : Int) + (x.2.2 : Int) ≤ 10000000000 := by omega
   have hs0 : (0 : Int) ≤ (s : Int) := by omega
   have hx0 : (0 : Int) ≤ (x.2.2 : Int) := by omega
   have hx1n : (x.1 : Int) < (n' : Int) := by omega
   have hx10 : (0 : Int) ≤ (x.1 : Int) := by omega
   have HS := Hd hs
   have HNX := Hd hnx
   clear hu hu2 hx hxm hxr hnx hle hs htot
   go_wp2_with fail
   go_roundw
   case rel => exact ⟨k + 1, s + x.2.2, trivial, by go_num, by go_num, by omega, by rw [HNX.out, HS.out]⟩
   case measure => simp [intOf]; omega
  ·obtain rfl : k = m := by omega
   go_wp2_with fail
   go_ret
   have e : s = a * b := by rw [hs, List.take_of_length_le (by omega), htot]
   subst e
   exact ⟨rfl, HB.out⟩
theorem valid_yes {A : Option Addr} {n c : Nat} {xs : List Int} {w : World} {B : Nat} (hx : Ints w B A n xs) (h : Bd.okB xs = true) :
  Calls Tryz.prog 104 #[.slice A n c] w fun e w' => e = .returned (.bool true) ∧ w = w' := by
 have := specBoardValid_any A n c xs w B hx
 rwa [h] at this
theorem valid_no {A : Option Addr} {n c : Nat} {xs : List Int} {w : World} {B : Nat} (hx : Ints w B A n xs) (h : Bd.okB xs = false) :
  Calls Tryz.prog 104 #[.slice A n c] w fun e w' => e = .returned (.bool false) ∧ w = w' := by
 have := specBoardValid_any A n c xs w B hx
 rwa [h] at this
def shiftL (xs : List Int) (p : Nat) (t : Int) (q : Nat) (s : Int) : List Int := (xs.set p (xs.getD p 0 - t)).set q ((xs.set p (xs.getD p 0 - t)).getD q 0 + s)
theorem l1Shift_no (A : Option Addr) (n c : Nat) (xs : List Int) (p t q s : Int) (w : World) (B : Nat) (hx : Ints w B A n xs) (h : Bd.okB xs = false ∨ p < 0 ∨ 9 < p ∨ q < 0 ∨ 9 < q) :
  Calls Tryz.prog 133 #[.slice A n c, .int .i64 p, .int .i64 t, .int .i64 q, .int .i64 s] w (BoardPost w false []) := by
 have hx' := Hd hx
 rcases hok : Bd.okB xs with _ | _
 ·have HOK := Hd hok
  clear hx hok h
  go_enter Tryz.func133, Tryz.ntmps133
  go_wp2_with (go_at_call 104; refine (valid_no hx'.out HOK.out).mono ?_; rintro e w' ⟨rfl, rfl⟩)
  go_ret2
  exact ⟨⟨_, _, _, rfl, lit_nil w⟩, (Below.refl _ _).alloc (Nat.le_refl _) _⟩
 ·have HOK := Hd hok
  rw [hok] at h
  clear hx hok
  by_cases hp : p < 0 ∨ 9 < p
  ·have HP := Hd hp
   clear hp h
   go_enter Tryz.func133, Tryz.ntmps133
   go_wp2_with (first
    | (go_at_call 104; refine (valid_yes hx'.out HOK.out).mono ?_; rintro e w' ⟨rfl, rfl⟩)
    | (go_at_call 67; refine (l6In_no HP.out _).mono ?_; rintro e w' ⟨rfl, rfl⟩))
   go_ret2
   exact ⟨⟨_, _, _, rfl, lit_nil w⟩, (Below.refl _ _).alloc (Nat.le_refl _) _⟩
  ·have hq : q < 0 ∨ 9 < q := by simp at h; omega
   have p0 : 0 ≤ p := by omega
   have p1 : p ≤ 9 := by omega
   have HQ := Hd hq
   clear hp h hq
   go_enter Tryz.func133, Tryz.ntmps133
   go_wp2_with fail
   refine (valid_yes hx'.out HOK.out).mono ?_
   rintro e w' ⟨rfl, rfl⟩
   go_wp2_with fail
   refine (l6In_yes p0 p1 _).mono ?_
   rintro e w' ⟨rfl, rfl⟩
   go_wp2_with fail
   refine (l6In_no HQ.out _).mono ?_
   rintro e w' ⟨rfl, rfl⟩
   go_wp2
   go_ret2
   exact ⟨⟨_, _, _, rfl, lit_nil w⟩, (Below.refl _ _).alloc (Nat.le_refl _) _⟩
theorem l1Shift_yes (A : Option Addr) (n c : Nat) (xs : List Int) (p q : Nat) (t s : Int) (w : World) (hx : Ints w w.heap.size A n xs) (hok : Bd.okB xs = true) (hp : p < 10) (hq : q < 10) (hpq : p ≠ q)
  (t0 : 0 ≤ t) (t1 : t ≤ 10) (s0 : 0 ≤ s) (s1 : s ≤ 10) :
  Calls Tryz.prog 133 #[.slice A n c, .int .i64 (p : Int), .int .i64 t, .int .i64 (q : Int), .int .i64 s] w (BoardPost w (Bd.okB (shiftL xs p t q s)) (shiftL xs p t q s)) := by
 have hl := (Bd.okB_iff xs).1 hok
 have hn : n = 10 := by have := hx.len; omega
 subst hn
 have hx' := Hd hx
 have HOK := Hd hok
 obtain ⟨u, hu⟩ : ∃ u, xs[p]? = some u := ⟨_, List.getElem?_eq_getElem (by omega)⟩
 obtain ⟨v, hv⟩ : ∃ v, xs[q]? = some v := ⟨_, List.getElem?_eq_getElem (by omega)⟩
 obtain ⟨u0, u1⟩ := hl.2 u (List.mem_of_getElem? hu)
 obtain ⟨v0, v1⟩ := hl.2 v (List.mem_of_getElem? hv)
 have he : shiftL xs p t q s = (xs.set p (u - t)).set q (v + s) := by
  unfold shiftL
  have e1 : xs.getD p 0 = u := by rw [List.getD_eq_getElem?_getD, hu]; rfl
  have e2 : (xs.set p (u - t)).getD q 0 = v := by rw [List.getD_eq_getElem?_getD, List.getElem?_set_ne hpq, hv]; rfl
  rw [e1, e2]
 rw [he]
 have hq2 : (xs.set p (u - t))[q]? = some v := by rw [List.getElem?_set_ne hpq, hv]
 have HU := Hd hu
 have HQ2 := Hd hq2
 have hln : Own (w.alloc (.cells #[] 3)) w.heap.size (some ⟨w.heap.size, 0, none⟩) 0 0 [] := lit_nil w
 have HLN := Hd hln
 have i0 : (0 : Int) ≤ (p : Int) := by omega
 have i1 : (p : Int) ≤ 9 := by omega
 have i2 : (0 : Int) ≤ (q : Int) := by omega
 have i3 : (q : Int) ≤ 9 := by omega
 clear hx hok hl hu hv he hq2 hln
 rcases hres : Bd.okB ((xs.set p (u - t)).set q (v + s)) with _ | _
 all_goals
  have HRES := Hd hres
  clear hres
  go_enter Tryz.func133, Tryz.ntmps133
  go_wp2_with fail
  refine (valid_yes hx'.out HOK.out).mono ?_
  rintro e w' ⟨rfl, rfl⟩
  go_wp2_with fail
  refine (l6In_yes i0 i1 _).mono ?_
  rintro e w' ⟨rfl, rfl⟩
  go_wp2_with fail
  refine (l6In_yes i2 i3 _).mono ?_
  rintro e w' ⟨rfl, rfl⟩
  go_wp2_with (first
   | (at_builtin; refine wpList_app_ints rfl _ _ rfl rfl HLN.out rfl (hx'.out.alloc (Nat.le_refl _) _) (by omega) (by simp) ?_; intro A1 c1 w1 hown1 hg1; simp only [Nat.zero_add, List.nil_append] at hown1; obtain ⟨g, rfl, hgB, hgl, hcells, hfr⟩ := hown1.at_ (by omega); have cu := hcells p u HU.out; have fu := hfr p; have fq := hfr q; have hs1 := hown1.store p (u - t); obtain ⟨g2, hg2e, _, _, hcells2, _⟩ := hs1.1.at_ (by omega); obtain rfl : g = g2 := (by simpa using hg2e); have cq := hcells2 q v HQ2.out; have HS2 := Hd (hs1.1.store q (v + s)); have HS1 := Hd hs1; have HG1 := Hd hg1; clear hcells hfr hs1 hg1 hcells2 hg2e)
   | (go_at_call 104; refine (specBoardValid_any _ _ _ ((xs.set p (u - t)).set q (v + s)) _ _ HS2.out.1.ints).mono ?_; rintro e w' ⟨rfl, rfl⟩; rw [HRES.out]))
  go_ret2
  have hB1 : Below w.heap.size w w1 := ((Below.refl _ _).alloc (Nat.le_refl _) _).grown HG1.out (by simp) (by intro k hk; simp [Value.ownBlock] at hk; omega)
  have hB2 := (hB1.setCell (p := ⟨g, p, none⟩) hgB (.int .i64 (u - t))).setCell (p := ⟨g, q, none⟩) hgB (.int .i64 (v + s))
  have hln := Own.mono (lit_nil ((w1.setCell ⟨g, p, none⟩ (.int .i64 (u - t))).setCell ⟨g, q, none⟩ (.int .i64 (v + s)))) hB2.size
  simp only [World.size_setCell] at hln
  first
   | exact ⟨⟨_, _, _, rfl, HS2.out.1⟩, hB2⟩
   | exact ⟨⟨_, _, _, rfl, hln⟩, hB2.alloc hB2.size _⟩
theorem specBoardReduce_any (A : Option Addr) (n c : Nat) (xs : List Int) (w : World) (hx : Ints w w.heap.size A n xs) :
  Calls Tryz.prog 99 #[.slice A n c] w (BoardPost w (redOK xs) (redL xs)) := by
 have hx' := Hd hx
 rcases hok : Bd.okB xs with _ | _
 ·have HOK := Hd hok
  rw [show redOK xs = false by simp [redOK, hok]]
  clear hx hok
  go_enter Tryz.func99, Tryz.ntmps99
  go_wp2_with (go_at_call 104; refine (valid_no hx'.out HOK.out).mono ?_; rintro e w' ⟨rfl, rfl⟩)
  go_ret2
  exact ⟨⟨_, _, _, rfl, lit_nil w⟩, (Below.refl _ _).alloc (Nat.le_refl _) _⟩
 ·have HOK := Hd hok
  rw [show redOK xs = okV (Bd.V true xs) by simp [redOK, hok]]
  clear hx hok
  go_enter Tryz.func99, Tryz.ntmps99
  go_wp2_with (first
   | (go_at_call 104; refine (valid_yes hx'.out HOK.out).mono ?_; rintro e w' ⟨rfl, rfl⟩)
   | (go_at_call 105; refine (l1Value_any _ _ _ xs _ _ hx'.out HOK.out).mono ?_; rintro e w' ⟨rfl, q, rfl⟩)
   | (go_at_call 26; refine (specBoardOf_any _ _).mono ?_; rintro e w2 ⟨⟨A2, n2, c2, rfl, hown⟩, hb2⟩))
  go_ret2
  exact ⟨⟨_, _, _, rfl, hown⟩, (below_drewN (Below.refl _ _) q).trans hb2⟩
theorem shift_raise {xs : List Int} (p : Nat) : shiftL xs p (Bd.grp p) (p + 1) 1 = Bd.raiseL xs p := by
 unfold shiftL Bd.raiseL Bd.move
 rw [show xs.getD p 0 + (0 - Bd.grp p) = xs.getD p 0 - Bd.grp p from by omega]
theorem okB_fit {xs : List Int} (h : xs.length = 10) : Bd.okB xs = fitB xs := by simp [Bd.okB, Bd.allIn, fitB, h]
theorem specBoardRaise_any (A : Option Addr) (n c : Nat) (xs : List Int) (q : Int) (w : World) (hx : Ints w w.heap.size A n xs) :
  Calls Tryz.prog 100 #[.slice A n c, .int .i64 q] w (BoardPost w (raiseOK xs q) (Bd.raiseL xs q.toNat)) := by
 have hx' := Hd hx
 by_cases hq : q < 0 ∨ 9 < q
 ·have HQ := Hd hq
  rw [show raiseOK xs q = false by simp [raiseOK]; omega]
  clear hx hq
  go_enter Tryz.func100, Tryz.ntmps100
  go_wp2_with (go_at_call 67; refine (l6In_no HQ.out _).mono ?_; rintro e w' ⟨rfl, rfl⟩)
  go_ret2
  exact ⟨⟨_, _, _, rfl, lit_nil w⟩, (Below.refl _ _).alloc (Nat.le_refl _) _⟩
 ·obtain ⟨p, rfl⟩ := Int.eq_ofNat_of_zero_le (by omega : 0 ≤ q)
  have i0 : (0 : Int) ≤ (p : Int) := by omega
  have i1 : (p : Int) ≤ 9 := by omega
  have hg := Bd.grp_cases p
  have g2 : 2 ≤ Bd.grp p ∧ Bd.grp p ≤ 5 := by rcases hg with h | h <;> omega
  obtain ⟨g2, g5⟩ := g2
  clear hq hg
  by_cases hno : Bd.okB xs = false ∨ p = 9
  ·rw [show raiseOK xs (p : Int) = false by rcases hno with h | h <;> simp [raiseOK, h]]
   have HNO := Hd (show Bd.okB xs = false ∨ (p : Int) < 0 ∨ 9 < (p : Int) ∨ (p : Int) + 1 < 0 ∨ 9 < (p : Int) + 1 by rcases hno with h | h; exact .inl h; exact .inr (by omega))
   clear hx hno
   go_enter Tryz.func100, Tryz.ntmps100
   go_wp2_with (first
    | (go_at_call 67; refine (l6In_yes i0 i1 _).mono ?_; rintro e w' ⟨rfl, rfl⟩)
    | (go_at_call 134; refine (l1Group_any _ (by omega) _).mono ?_; rintro e w' ⟨rfl, rfl⟩)
    | (go_at_call 133; refine (l1Shift_no _ _ _ xs _ _ _ _ _ _ hx'.out HNO.out).mono ?_; rintro e w2 ⟨⟨A2, n2, c2, rfl, hown⟩, hb2⟩))
   go_ret2
   exact ⟨⟨_, _, _, rfl, hown⟩, hb2⟩
  ·have hok : Bd.okB xs = true := by
    cases h : Bd.okB xs with
    | false => exact absurd (.inl h) hno
    | true => rfl
   have hp9 : p < 9 := by omega
   have hl := ((Bd.okB_iff xs).1 hok).1
   rw [show raiseOK xs (p : Int) = Bd.okB (Bd.raiseL xs p) by rw [okB_fit ((Bd.raiseL_length xs p).trans hl)]; simp [raiseOK, hok]; omega, Int.toNat_natCast, ← shift_raise]
   have HOK := Hd hok
   have e1 : ((p + 1 : Nat) : Int) = (p : Int) + 1 := by omega
   have hsh := l1Shift_yes A n c xs p (p + 1) (Bd.grp p) 1 w hx hok (by omega) (by omega) (by omega) (by omega) (by omega) (by omega) (by omega)
   rw [e1] at hsh
   have HSH := Hd hsh
   clear hx hno hok hsh e1 hl
   go_enter Tryz.func100, Tryz.ntmps100
   go_wp2_with (first
    | (go_at_call 67; refine (l6In_yes i0 i1 _).mono ?_; rintro e w' ⟨rfl, rfl⟩)
    | (go_at_call 134; refine (l1Group_any _ (by omega) _).mono ?_; rintro e w' ⟨rfl, rfl⟩)
    | (go_at_call 133; refine HSH.out.mono ?_; rintro e w2 ⟨⟨A2, n2, c2, rfl, hown⟩, hb2⟩))
   go_ret2
   exact ⟨⟨_, _, _, rfl, hown⟩, hb2⟩
end Go.Proofs.YthdoofmfigemoaaGreatDoor
