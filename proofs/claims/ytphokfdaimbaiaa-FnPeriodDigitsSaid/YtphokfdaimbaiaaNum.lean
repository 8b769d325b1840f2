/-
  Numerals: lists of digits, as texts and as values, in the program and in the reference.
-/
import Derived.Test.YtphokfdaimbaiaaKit
import Derived.Test.YtphokfdaimbaiaaGlPlain2
import Derived.Laws.IdiomStrings
namespace Go.Proofs.Ytphokfdaimbaiaa
open Go.RowKit

def isD (d : Int) : Bool := decide (0 ≤ d) && decide (d ≤ 9)
theorem isD_iff (d : Int) : isD d = true ↔ 0 ≤ d ∧ d ≤ 9 := by simp [isD]
theorem isD_no (d : Int) : isD d = false ↔ d < 0 ∨ 9 < d := by
  rw [Bool.eq_false_iff, ne_eq, isD_iff]; omega
def okN (xs : List Int) : Bool := decide (1 ≤ xs.length) && decide (xs.length ≤ 6) && xs.all isD
theorem okN_iff (xs : List Int) : okN xs = true ↔ 1 ≤ xs.length ∧ xs.length ≤ 6 ∧ ∀ d ∈ xs, 0 ≤ d ∧ d ≤ 9 := by
  simp [okN, isD, and_assoc]
theorem okN_out {xs : List Int} {k : Nat} {u : Int} (h : xs[k]? = some u) (hu : u < 0 ∨ 9 < u) : okN xs = false := by
  cases hb : okN xs with
  | false => rfl
  | true => have := ((okN_iff xs).1 hb).2.2 u (List.mem_of_getElem? h); omega
theorem okN_len {xs : List Int} (h : xs.length < 1 ∨ 6 < xs.length) : okN xs = false := by
  cases hb : okN xs with
  | false => rfl
  | true => have := (okN_iff xs).1 hb; omega
theorem digs_next {xs : List Int} {k : Nat} {u : Int} (h : xs[k]? = some u) (ht : ∀ d ∈ xs.take k, 0 ≤ d ∧ d ≤ 9) (h0 : 0 ≤ u) (h9 : u ≤ 9) : ∀ d ∈ xs.take (k + 1), 0 ≤ d ∧ d ≤ 9 := by
  rw [take_next h]
  intro d hd
  rcases List.mem_append.1 hd with hd | hd
  · exact ht d hd
  · simp at hd; omega
theorem okN_all {xs : List Int} {n : Nat} (hl : xs.length = n) (ht : ∀ d ∈ xs.take n, 0 ≤ d ∧ d ≤ 9) : okN xs = (decide ((1 : Int) ≤ (n : Int)) && decide ((n : Int) ≤ 6)) := by
  rw [List.take_of_length_le (by omega)] at ht
  rw [Bool.eq_iff_iff, okN_iff]
  simp
  constructor
  · rintro ⟨a, b, -⟩; omega
  · rintro ⟨a, b⟩; exact ⟨by omega, by omega, ht⟩

set_option maxHeartbeats 400000 in
theorem isFactor_any (n : Int) (w : World) : Calls Try.prog 61 #[.int .i64 n] w fun e w' => e = .returned (.bool (decide (1 ≤ n) && decide (n ≤ 100000))) ∧ w = w' := by
  by_cases h1 : 1 ≤ n <;> by_cases h2 : n ≤ 100000
  all_goals
    go_enter Try.func61, Try.ntmps61
    go_wp2
    go_ret
    exact ⟨ret_bool (by simp [h1, h2]), rfl⟩
theorem isFactor_is {n : Int} {r : Bool} (h : (decide (1 ≤ n) && decide (n ≤ 100000)) = r) (w : World) : Calls Try.prog 61 #[.int .i64 n] w fun e w' => e = .returned (.bool r) ∧ w = w' := by
  rw [← h]; exact isFactor_any n w
set_option maxHeartbeats 400000 in
theorem isDigit_any (n : Int) (w : World) : Calls Try.prog 79 #[.int .i64 n] w fun e w' => e = .returned (.bool (isD n)) ∧ w = w' := by
  by_cases h1 : 0 ≤ n <;> by_cases h2 : n ≤ 9
  all_goals
    go_enter Try.func79, Try.ntmps79
    go_wp2
    go_ret
    exact ⟨ret_bool (by simp [isD, h1, h2]), rfl⟩
theorem isDigit_is {n : Int} {r : Bool} (h : isD n = r) (w : World) : Calls Try.prog 79 #[.int .i64 n] w fun e w' => e = .returned (.bool r) ∧ w = w' := by
  rw [← h]; exact isDigit_any n w
theorem l3Digit_any (n : Int) (w : World) : Calls Try.prog 78 #[.int .i64 n] w fun e w' => e = .returned (.bool (isD n)) ∧ w = w' := by
  go_enter Try.func78, Try.ntmps78
  go_wp2_with fail
  refine (l6In_any _ _ _ _).mono ?_
  rintro e w' ⟨rfl, rfl⟩
  go_wp2
  go_ret
  exact ⟨rfl, rfl⟩
theorem l3Digit_is {n : Int} {r : Bool} (h : isD n = r) (w : World) : Calls Try.prog 78 #[.int .i64 n] w fun e w' => e = .returned (.bool r) ∧ w = w' := by
  rw [← h]; exact l3Digit_any n w

set_option maxHeartbeats 400000 in
theorem specNumeralValid_any (A : Option Addr) (n c : Nat) (xs : List Int) (w : World) (B : Nat) (hx : Ints w B A n xs) :
    Calls Try.prog 63 #[.slice A n c] w fun e w' => e = .returned (.bool (okN xs)) ∧ w = w' := by
  have hb := hx.bound
  have HX := Lib.hid hx
  clear hx
  go_enter Try.func63, Try.ntmps63
  go_wp2_with fail
  go_loop [3] (fun i => ∃ k : Nat, k ≤ n ∧ i = .int .i64 (k : Int) ∧ ∀ d ∈ xs.take k, 0 ≤ d ∧ d ≤ 9) (fun i => n - (intOf i).toNat)
  case atStart => exact ⟨0, by omega, rfl, by simp⟩
  case round =>
    obtain ⟨k, hk, rfl, hds⟩ := hrel
    have HDS := Lib.hid hds
    clear hds
    by_cases hlt : k < n
    · obtain ⟨b, off, u, rfl, hub, hu, hcu⟩ := HX.out.at_ hlt
      have HU := Lib.hid hu
      clear hu
      rcases hd : isD u with _ | _
      · have HD := Lib.hid hd
        clear hd
        go_wp2_with fail
        refine (l3Digit_is HD.out _).mono ?_
        rintro e w' ⟨rfl, rfl⟩
        go_wp2
        go_ret
        exact ⟨ret_bool (okN_out HU.out ((isD_no u).1 HD.out)).symm, rfl⟩
      · have HD := Lib.hid hd
        clear hd
        go_wp2_with fail
        refine (l3Digit_is HD.out _).mono ?_
        rintro e w' ⟨rfl, rfl⟩
        go_wp2
        go_round
        case rel => exact ⟨k + 1, by omega, by go_num, digs_next HU.out HDS.out ((isD_iff u).1 HD.out).1 ((isD_iff u).1 HD.out).2⟩
        case measure => simp [intOf]; omega
    · obtain rfl : k = n := by omega
      go_wp2_with fail
      refine (l6In_is (okN_all HX.out.len HDS.out).symm _).mono ?_
      rintro e w' ⟨rfl, rfl⟩
      go_wp2
      go_ret
      exact ⟨rfl, rfl⟩
theorem specNumeralValid_is {A : Option Addr} {n c : Nat} {xs : List Int} {w : World} {B : Nat} {r : Bool} (hx : Ints w B A n xs) (h : okN xs = r) :
    Calls Try.prog 63 #[.slice A n c] w fun e w' => e = .returned (.bool r) ∧ w = w' := by
  rw [← h]; exact specNumeralValid_any A n c xs w B hx

/-! digits as a text -/
def dbyte (d : Int) : UInt8 := UInt8.ofNat (48 + d.toNat)
def dstr (xs : List Int) : ByteArray := ⟨(xs.map dbyte).toArray⟩
theorem dbyte_nat {d : Int} (h0 : 0 ≤ d) (h9 : d ≤ 9) : ((dbyte d).toNat : Int) = 48 + d := by
  unfold dbyte
  rw [UInt8.toNat_ofNat']
  omega
/-- a slice of bytes of the call's own -/
def OwnB (w : World) (B : Nat) (A : Option Addr) (n c : Nat) (us : List Int) : Prop := w.ownsRow B 5 1 (.slice A n c) n (us.map (Value.int .u8)) ∧ n ≤ 1000
theorem byte_info : (Try.prog.info? 5).map (fun i => (i.zero, i.size, i.bytes)) = some (some (.int .u8 0), 1, 1) := by kernel_rfl
theorem OwnB.len {w : World} {B n c : Nat} {A : Option Addr} {us : List Int} (h : OwnB w B A n c us) : us.length = n := by have := h.1.1; simpa using this
theorem OwnB.blk {w : World} {B n c : Nat} {A : Option Addr} {us : List Int} (h : OwnB w B A n c us) : ∀ k, (Value.slice A n c).ownBlock = some k → B ≤ k ∧ k < w.heap.size := h.1.lt
theorem wpList_makeB {ops : Array Oper} {rest : List Oper} {o : Oper} {a : Act} {w : World} {Q : Exit → Act → World → Prop} (hgd : o.guard = none) (l c : Operand)
    (ho : o.op = .makeSlice 22 l c) {B n : Nat} (hl : a.eval l = .int .i64 0) (hc : a.eval c = .int .i64 (n : Int)) (hn : n ≤ 1000) (hB : B ≤ w.heap.size)
    (h : ∀ w', OwnB w' B (some ⟨w.heap.size, 0, none⟩) 0 n [] → w.grownBy w' none → wpList Try.prog ops Q rest (a.put o.dst (.slice (some ⟨w.heap.size, 0, none⟩) 0 n)) w') :
    wpList Try.prog ops Q (o :: rest) a w := by
  obtain ⟨i0, hi, hz0, hz1, hz2⟩ := info_parts byte_info
  refine wpList_make_own w hgd l c 22 ho B 5 i0 (.int .u8 0) 1 Try.underlying22 hi hz0 hz1 .i64 .i64 n n hl hc rfl (by rw [hz2]; omega) (by unfold maxLen; omega) hB ?_
  intro w' hown hg
  exact h w' ⟨hown, by omega⟩ hg
theorem wpList_appB {ops : Array Oper} {rest : List Oper} {o : Oper} {a : Act} {w : World} {Q : Exit → Act → World → Prop} (hgd : o.guard = none) (s x : Operand)
    (ho : o.op = .call { callee := .builtin .append, args := #[s, x], argTypes := #[22, 22] })
    {B : Nat} {A : Option Addr} {n c : Nat} {us : List Int} (hs : a.eval s = .slice A n c) (hown : OwnB w B A n c us) (u : Int) (c0 : Nat)
    (hx : a.eval x = .slice (some ⟨w.heap.size, 0, none⟩) 1 c0) (v : Value) (hv : v = .int .u8 u) (hn : n + 1 ≤ 1000) (hB : B ≤ w.heap.size)
    (h : ∀ A' c' w', OwnB w' B A' (n + 1) c' (us ++ [u]) → w.grownBy w' (Value.slice A n c).ownBlock → wpList Try.prog ops Q rest (a.put o.dst (.slice A' (n + 1) c')) w') :
    wpList Try.prog ops Q (o :: rest) a (w.alloc (.cells #[v] 5)) := by
  obtain ⟨i0, hi, hz0, hz1, hz2⟩ := info_parts byte_info
  subst hv
  refine wpList_append_own _ hgd s x 22 ho B 5 i0 (.int .u8 0) 1 1 Try.underlying22 hi hz0 hz1 hz2 rfl (by decide) _ n _ hs (hown.1.alloc _)
    ⟨w.heap.size, 0, none⟩ 1 c0 [.int .u8 u] hx rfl (news_one w _ _) (by intro x hx; simp at hx; subst hx; rfl) (by unfold maxLen; omega) (by omega) (by simp; omega) ?_
  intro v' w' hown' hg _
  have hg1 : w.grownBy w' (Value.slice A n c).ownBlock := ⟨hg.os, hg.tape, hg.output, by have := hg.size; simp at this; omega, fun k hk hne => (hg.block k (by simp; omega) hne).trans (Below.heap_alloc w _ k hk)⟩
  rw [show us.map (Value.int .u8) ++ [.int .u8 u] = (us ++ [u]).map (Value.int .u8) from by simp] at hown'
  rcases hown'.2 with ⟨rfl, h0⟩ | ⟨g, cap, cur, rfl, _⟩
  · omega
  · exact h _ _ w' ⟨hown', hn⟩ hg1

def cbytes (xs : List Int) : List Int := xs.map fun d => 48 + d
theorem cbytes_next {xs : List Int} {k : Nat} {u : Int} (h : xs[k]? = some u) : cbytes (xs.take (k + 1)) = cbytes (xs.take k) ++ [48 + u] := by rw [take_next h]; simp [cbytes]
theorem cbytes_all {xs : List Int} {n : Nat} (h : xs.length = n) : cbytes (xs.take n) = cbytes xs := by rw [List.take_of_length_le (by omega)]
/-- string(text) of such bytes -/
theorem run_dstr {w : World} {B n c : Nat} {A : Option Addr} {xs : List Int} (h : OwnB w B A n c (cbytes xs)) (hn : 1 ≤ n) (hd : ∀ d ∈ xs, 0 ≤ d ∧ d ≤ 9) :
    (convert 22 9 (.slice A n c)).run Try.prog w = .ok (.string (dstr xs)) w := by
  obtain ⟨g, cap, hv, _, hlt⟩ := h.1.form hn
  have hA : A = some ⟨g, 0, none⟩ := by injection hv
  subst hA
  have hl := h.len
  have e : n = (xs.map dbyte).length := by simpa [cbytes] using hl.symm
  subst e
  refine run_convert_bytes_back w _ _ 5 ⟨g, 0, none⟩ c (xs.map dbyte) Try.underlying22 Try.underlying5 Try.underlying9 ?_
  intro j hj
  have hj' : j < xs.length := by simpa using hj
  have hc := h.1.cells (g := g) rfl j (.int .u8 (48 + xs[j])) (by simp [cbytes, hj'])
  have hdj := hd _ (List.getElem_mem hj')
  rw [hc]
  simp only [List.getElem_map]
  rw [dbyte_nat hdj.1 hdj.2]

set_option maxHeartbeats 1000000 in
theorem digitsOf_yes (A : Option Addr) (n c : Nat) (xs : List Int) (w : World) (hx : Ints w w.heap.size A n xs) (hok : okN xs = true) :
    Calls Try.prog 71 #[.slice A n c] w fun e w' => e = .returned (.tuple #[.string (dstr xs), .bool true]) ∧ Below w.heap.size w w' := by
  obtain ⟨hn1, hn6, hd⟩ := (okN_iff xs).1 hok
  rw [hx.len] at hn1 hn6
  have HX := Lib.hid hx
  have HD := Lib.hid hd
  clear hx hok hd
  go_enter Try.func71, Try.ntmps71
  go_wp2_with (at_make; refine wpList_makeB (B := w.heap.size) rfl _ _ rfl (n := 6) rfl rfl (by omega) (Nat.le_refl _) ?_; intro w1 hown1 hg1)
  have HO1 := Lib.hid hown1
  have HB1 := Lib.hid (grown_below hg1 (Nat.le_refl _) (by simp))
  clear hown1 hg1
  go_loopw [4, 18] (fun v i wr => ∃ (k : Nat) (T : Option Addr) (c : Nat), k ≤ n ∧ i = .int .i64 (k : Int) ∧ v = .slice T k c ∧ OwnB wr w.heap.size T k c (cbytes (xs.take k)) ∧ Below w.heap.size w wr) (fun _ i _ => n - (intOf i).toNat)
  case atStart => exact ⟨0, _, _, by omega, by go_num, rfl, HO1.out, HB1.out⟩
  case round =>
    clear HO1 HB1
    obtain ⟨k, T, c2, hk, rfl, rfl, hown, hbel⟩ := hrel
    have hsz := hbel.size
    have HO := Lib.hid hown
    have HB := Lib.hid hbel
    clear hown hbel
    by_cases hlt : k < n
    · obtain ⟨b, off, u, rfl, hub, hu, hcu⟩ := (HX.out.below HB.out).at_ hlt
      obtain ⟨u0, u9⟩ := HD.out u (List.mem_of_getElem? hu)
      have HU := Lib.hid hu
      clear hu
      go_wp2_with fail
      refine (isDigit_is ((isD_iff u).2 ⟨u0, u9⟩) _).mono ?_
      rintro e w' ⟨rfl, rfl⟩
      go_wp2_with (at_builtin; refine wpList_appB rfl _ _ rfl rfl HO.out (48 + u) _ rfl _ rfl (by omega) hsz ?_; intro A' c' w3 hown3 hg3)
      have HB3 := Lib.hid (HB.out.grown hg3 hsz fun k hk => (HO.out.blk k hk).1)
      go_roundw
      case rel => exact ⟨k + 1, _, _, by omega, by go_num, rfl, by rw [cbytes_next HU.out]; exact hown3, HB3.out⟩
      case measure => simp [intOf]; omega
    · obtain rfl : k = n := by omega
      have hrun := run_dstr (by rw [← cbytes_all HX.out.len]; exact HO.out) hn1 HD.out
      go_wp2
      go_ret2
      exact ⟨rfl, HB.out⟩
set_option maxHeartbeats 1000000 in
theorem digitsOf_no (A : Option Addr) (n c : Nat) (xs : List Int) (w : World) (hx : Ints w w.heap.size A n xs) (hok : okN xs = false) :
    Calls Try.prog 71 #[.slice A n c] w fun e w' => e = .returned (.tuple #[.string ByteArray.empty, .bool false]) ∧ Below w.heap.size w w' := by
  have hb := hx.bound
  have HX := Lib.hid hx
  have HOK := Lib.hid hok
  clear hx hok
  by_cases hlen : n < 1 ∨ 6 < n
  · by_cases h1 : n < 1
    all_goals
      go_enter Try.func71, Try.ntmps71
      go_wp2
      go_ret2
      exact ⟨rfl, Below.refl _ _⟩
  · have hn1 : 1 ≤ n := by omega
    have hn6 : n ≤ 6 := by omega
    clear hlen
    go_enter Try.func71, Try.ntmps71
    go_wp2_with (at_make; refine wpList_makeB (B := w.heap.size) rfl _ _ rfl (n := 6) rfl rfl (by omega) (Nat.le_refl _) ?_; intro w1 hown1 hg1)
    have HO1 := Lib.hid hown1
    have HB1 := Lib.hid (grown_below hg1 (Nat.le_refl _) (by simp))
    clear hown1 hg1
    go_loopw [4, 18] (fun v i wr => ∃ (k : Nat) (T : Option Addr) (c : Nat), k ≤ n ∧ i = .int .i64 (k : Int) ∧ v = .slice T k c ∧ OwnB wr w.heap.size T k c (cbytes (xs.take k)) ∧ (∀ d ∈ xs.take k, 0 ≤ d ∧ d ≤ 9) ∧ Below w.heap.size w wr) (fun _ i _ => n - (intOf i).toNat)
    case atStart => exact ⟨0, _, _, by omega, by go_num, rfl, HO1.out, by simp, HB1.out⟩
    case round =>
      clear HO1 HB1
      obtain ⟨k, T, c2, hk, rfl, rfl, hown, hds, hbel⟩ := hrel
      have hsz := hbel.size
      have HO := Lib.hid hown
      have HDS := Lib.hid hds
      have HB := Lib.hid hbel
      clear hown hds hbel
      by_cases hlt : k < n
      · obtain ⟨b, off, u, rfl, hub, hu, hcu⟩ := (HX.out.below HB.out).at_ hlt
        have HU := Lib.hid hu
        clear hu
        rcases hd : isD u with _ | _
        · have HD := Lib.hid hd
          clear hd
          go_wp2_with fail
          refine (isDigit_is HD.out _).mono ?_
          rintro e w' ⟨rfl, rfl⟩
          go_wp2
          go_ret2
          exact ⟨rfl, HB.out⟩
        · obtain ⟨u0, u9⟩ := (isD_iff u).1 hd
          have HD := Lib.hid hd
          clear hd
          go_wp2_with fail
          refine (isDigit_is HD.out _).mono ?_
          rintro e w' ⟨rfl, rfl⟩
          go_wp2_with (at_builtin; refine wpList_appB rfl _ _ rfl rfl HO.out (48 + u) _ rfl _ rfl (by omega) hsz ?_; intro A' c' w3 hown3 hg3)
          have HB3 := Lib.hid (HB.out.grown hg3 hsz fun k hk => (HO.out.blk k hk).1)
          go_roundw
          case rel => exact ⟨k + 1, _, _, by omega, by go_num, rfl, by rw [cbytes_next HU.out]; exact hown3, digs_next HU.out HDS.out u0 u9, HB3.out⟩
          case measure => simp [intOf]; omega
      · obtain rfl : k = n := by omega
        have := okN_all HX.out.len HDS.out
        rw [HOK.out] at this
        simp at this
        omega

theorem NumeralValid_is {A : Option Addr} {n c : Nat} {xs : List Int} {w : World} {r : Bool} (hx : Ints w w.heap.size A n xs) (h : okN xs = r) :
    Calls Try.prog 60 #[.slice A n c] w fun e w' => e = .returned (.bool r) ∧ Below w.heap.size w w' := by
  have HX := Lib.hid hx
  have H := Lib.hid h
  clear hx h
  cases r
  · go_enter Try.func60, Try.ntmps60
    go_wp2_with fail
    refine (digitsOf_no _ _ _ _ _ HX.out H.out).mono ?_
    rintro e w' ⟨rfl, hb⟩
    have HB := Lib.hid hb
    clear hb
    go_wp2
    go_ret
    exact ⟨rfl, HB.out⟩
  · go_enter Try.func60, Try.ntmps60
    go_wp2_with fail
    refine (digitsOf_yes _ _ _ _ _ HX.out H.out).mono ?_
    rintro e w' ⟨rfl, hb⟩
    have HB := Lib.hid hb
    clear hb
    go_wp2
    go_ret
    exact ⟨rfl, HB.out⟩

/-! the value of a text of digits -/
theorem dstr_size (xs : List Int) : (dstr xs).size = xs.length := by simp [dstr, ByteArray.size]
theorem dstr_at {xs : List Int} {k : Nat} {u : Int} (h : xs[k]? = some u) (hk : k < (dstr xs).size) : (dstr xs)[k] = dbyte u := by
  obtain ⟨hlt, he⟩ := List.getElem?_eq_some_iff.1 h
  show (dstr xs).data[k]'hk = _
  simp [dstr, he]
set_option maxHeartbeats 400000 in
theorem digitAt_any (xs : List Int) (k : Nat) (u : Int) (w : World) (hu : xs[k]? = some u) (h0 : 0 ≤ u) (h9 : u ≤ 9) (hl : xs.length ≤ 6) :
    Calls Try.prog 80 #[.string (dstr xs), .int .i64 (k : Int)] w fun e w' => e = .returned (.int .i64 u) ∧ w = w' := by
  have hk : k < xs.length := (List.getElem?_eq_some_iff.1 hu).1
  have hs : (dstr xs).size ≤ 6 := by rw [dstr_size]; exact hl
  have hlt : k < (dstr xs).size := by rw [dstr_size]; exact hk
  have hat := dstr_at hu hlt
  have hb := dbyte_nat h0 h9
  rw [← hat] at hb
  have HB := Lib.hid hb
  have hb1 : 48 ≤ ((dstr xs)[k].toNat : Int) := by omega
  have hb2 : ((dstr xs)[k].toNat : Int) ≤ 57 := by omega
  clear hat hb hu
  generalize dstr xs = s at *
  go_enter Try.func80, Try.ntmps80
  go_wp2
  go_ret
  exact ⟨ret_int (by have := HB.out; omega), rfl⟩
set_option maxHeartbeats 400000 in
theorem digitsValue_any (xs : List Int) (w : World) (hok : okN xs = true) :
    Calls Try.prog 72 #[.string (dstr xs)] w fun e w' => e = .returned (.int .i64 (Gl.horner 0 xs)) ∧ w = w' := by
  obtain ⟨hn1, hn6, hd⟩ := (okN_iff xs).1 hok
  have hs := dstr_size xs
  have hcall := fun (k : Nat) (u : Int) (w : World) (hu : xs[k]? = some u) => digitAt_any xs k u w hu (hd u (List.mem_of_getElem? hu)).1 (hd u (List.mem_of_getElem? hu)).2 hn6
  have hall := Gl.horner_all (ds := xs) rfl
  have HC := Lib.hid hcall
  have HD := Lib.hid hd
  have HA := Lib.hid hall
  clear hok hd hcall hall
  generalize dstr xs = s at *
  generalize hL : xs.length = L at *
  have HL := Lib.hid hL
  have HS := Lib.hid hs
  have hs1 : s.size ≤ L := by omega
  have hs2 : L ≤ s.size := by omega
  clear hL hs
  go_enter Try.func72, Try.ntmps72
  go_wp2
  go_loop [3, 4] (fun v i => ∃ k : Nat, k ≤ L ∧ i = .int .i64 (k : Int) ∧ v = .int .i64 (Gl.horner 0 (xs.take k))) (fun _ i => L - (intOf i).toNat)
  case atStart => exact ⟨0, by omega, rfl, rfl⟩
  case round =>
    obtain ⟨k, hk, rfl, rfl⟩ := hrel
    obtain ⟨h0, h1⟩ := Gl.horner_take HD.out (by rw [HL.out]; exact hn6) k
    by_cases hlt : k < L
    · obtain ⟨u, hu⟩ : ∃ u, xs[k]? = some u := ⟨_, List.getElem?_eq_getElem (by have := HL.out; omega)⟩
      obtain ⟨u0, u1⟩ := HD.out u (List.mem_of_getElem? hu)
      have HN := Lib.hid (Gl.horner_next hu)
      have HU := Lib.hid hu
      clear hu
      generalize Gl.horner 0 (xs.take k) = r at *
      go_wp2_with fail
      refine (HC.out k u _ HU.out).mono ?_
      rintro e w' ⟨rfl, rfl⟩
      go_wp2
      go_round
      case rel => exact ⟨k + 1, by omega, by go_num, by rw [HN.out]; congr 1; omega⟩
      case measure => simp [intOf]; omega
    · obtain rfl : k = L := by omega
      rw [HA.out] at h0 h1 ⊢
      go_wp2
      go_ret
      exact ⟨rfl, rfl⟩
/-- the value of a numeral, or -1 -/
def valN (xs : List Int) : Int := if okN xs then Gl.horner 0 xs else -1
set_option maxHeartbeats 400000 in
theorem NumeralValue_any (A : Option Addr) (n c : Nat) (xs : List Int) (w : World) (hx : Ints w w.heap.size A n xs) :
    Calls Try.prog 49 #[.slice A n c] w fun e w' => e = .returned (.int .i64 (valN xs)) ∧ Below w.heap.size w w' := by
  have HX := Lib.hid hx
  clear hx
  rcases hok : okN xs with _ | _
  · have HOK := Lib.hid hok
    have HV : Hid (valN xs = -1) := Lib.hid (by simp [valN, hok])
    clear hok
    go_enter Try.func49, Try.ntmps49
    go_wp2_with fail
    refine (digitsOf_no _ _ _ _ _ HX.out HOK.out).mono ?_
    rintro e w' ⟨rfl, hb⟩
    have HB := Lib.hid hb
    clear hb
    go_wp2
    go_ret
    exact ⟨ret_int HV.out.symm, HB.out⟩
  · have HOK := Lib.hid hok
    have HV : Hid (valN xs = Gl.horner 0 xs) := Lib.hid (by simp [valN, hok])
    clear hok
    go_enter Try.func49, Try.ntmps49
    go_wp2_with fail
    refine (digitsOf_yes _ _ _ _ _ HX.out HOK.out).mono ?_
    rintro e w' ⟨rfl, hb⟩
    have HB := Lib.hid hb
    clear hb
    go_wp2_with fail
    refine (digitsValue_any _ _ HOK.out).mono ?_
    rintro e w' ⟨rfl, rfl⟩
    go_wp2
    go_ret
    exact ⟨ret_int HV.out.symm, HB.out⟩
end Go.Proofs.Ytphokfdaimbaiaa
