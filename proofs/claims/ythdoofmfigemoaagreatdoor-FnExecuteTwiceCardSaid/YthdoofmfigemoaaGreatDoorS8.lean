/-
  Joined texts.
-/
import Derived.Test.YthdoofmfigemoaaGreatDoorS5
import Derived.Test.YthdoofmfigemoaaGreatDoorS6
import Derived.Test.YthdoofmfigemoaaGreatDoorS7
set_option linter.unusedSimpArgs false
set_option linter.unusedVariables false
set_option maxRecDepth 100000
set_option maxHeartbeats 4000000
namespace Go.Proofs.YthdoofmfigemoaaGreatDoor
open Go.RowKit
theorem digit_nat (d : Nat) (h : d < 10) : (UInt8.ofNat (48 + d)).toNat = 48 + d := by
 rw [UInt8.toNat_ofNat']
 omega
theorem horner_rev : ∀ l : List Int, Gl.horner 0 l.reverse = Fr.val l
 | [] => rfl
 | d :: l => by
  have ih := horner_rev l
  unfold Gl.horner at ih ⊢
  rw [List.reverse_cons, List.foldl_append, ih]
  simp only [List.foldl_cons, List.foldl_nil, Fr.val]
  omega
theorem set_mid (m : Nat) (t : List Int) (d : Int) : (List.replicate (m + 1) 0 ++ t).set m d = List.replicate m 0 ++ d :: t := by
 rw [List.replicate_succ', List.append_assoc, List.set_append_right _ _ (by simp)]
 simp
def LowD (L : List Int) (k : Nat) (v : Int) : Prop := L.length = k ∧ Fr.Digs L ∧ Fr.val L = v
theorem LowD.next {L : List Int} {k v : Nat} (h : LowD L k ((v % 10 ^ k : Nat) : Int)) : LowD (L ++ [((v / 10 ^ k % 10 : Nat) : Int)]) (k + 1) ((v % 10 ^ (k + 1) : Nat) : Int) := by
 obtain ⟨h1, h2, h3⟩ := h
 refine ⟨by simp [h1], fun d hd => ?_, ?_⟩
 ·rcases List.mem_append.1 hd with hd | hd
  ·exact h2 d hd
  ·have := List.mem_singleton.1 hd
   subst this
   omega
 ·rw [val_append, h3, h1]
  have e : v % 10 ^ (k + 1) = v % 10 ^ k + 10 ^ k * (v / 10 ^ k % 10) := by rw [Nat.pow_succ, Nat.mod_mul]
  rw [e]
  simp only [Fr.val, Fr.ten, Int.mul_zero, Int.add_zero]
  push_cast
  rfl
def Numl (ds : List Int) (v : Int) : Prop := okN ds = true ∧ Fr.val ds.reverse = v
def NumPost (w : World) (v : Int) (e : Ending) (w' : World) : Prop := ∃ A n c ds, e = .returned (.tuple #[.slice A n c, .bool true]) ∧ Numl ds v ∧ Own w' w.heap.size A n c ds ∧ Below w.heap.size w w'
theorem NumeralOf_yes (v : Nat) (hv : v < 1000000) (w : World) : Calls Tryz.prog 199 #[.int .i64 (v : Int)] w (NumPost w v) := by
 have hlt0 : ¬ (v : Int) < 0 := by omega
 have hge0 : ¬ (v : Int) ≥ 1000000 := by omega
 have hq0 : Int.tdiv (v : Int) 10 = ((v / 10 : Nat) : Int) := rfl
 have hw0 : IntKind.i64.wrap ((v / 10 : Nat) : Int) = ((v / 10 : Nat) : Int) := IntWalk.i64_in _ (by omega)
 go_enter Tryz.func199, Tryz.ntmps199
 go_wp2_with fail
 go_loopw [4, 5] (fun sv nv wr => ∃ (s N : Nat), 1 ≤ s ∧ s ≤ 6 ∧ sv = .int .i64 (s : Int) ∧ nv = .int .i64 (N : Int) ∧ N = v / 10 ^ s ∧ w = wr) (fun _ nv _ => (intOf nv).toNat)
 case atStart => exact ⟨1, v / 10, by omega, by omega, rfl, rfl, rfl, rfl⟩
 case round =>
  obtain ⟨s, N, hs1, hs6, rfl, rfl, hN, rfl⟩ := hrel
  have hNb : N < 1000000 := by rw [hN]; exact Nat.lt_of_le_of_lt (Nat.div_le_self _ _) hv
  by_cases h0 : 0 < N
  ·have hs5 : s ≤ 5 := by
    rcases Nat.lt_or_ge s 6 with h | h
    ·omega
    ·exfalso
     obtain rfl : s = 6 := by omega
     rw [hN, Nat.div_eq_of_lt hv] at h0
     omega
   have hq : Int.tdiv (N : Int) 10 = ((N / 10 : Nat) : Int) := rfl
   have hw1 : IntKind.i64.wrap ((N / 10 : Nat) : Int) = ((N / 10 : Nat) : Int) := IntWalk.i64_in _ (by omega)
   have hpos : (N : Int) > 0 := by omega
   have HN := Hd hN
   clear hN
   go_wp2_with fail
   exact ⟨⟨s + 1, N / 10, by omega, by omega, by go_num, rfl, by rw [HN.out, Nat.div_div_eq_div_mul, Nat.pow_succ], trivial⟩, by simp [intOf]; omega⟩
  ·obtain rfl : N = 0 := by omega
   have hvs : v < 10 ^ s := by
    rcases Nat.lt_or_ge v (10 ^ s) with h | h
    ·exact h
    ·have := Nat.div_pos h (Nat.pow_pos (by omega))
     omega
   have HV := Hd hvs
   have hsI : (s : Int) ≤ 6 := by omega
   have hsJ : (1 : Int) ≤ (s : Int) := by omega
   clear hN hvs hNb
   go_wp2_with (first
    | (refine wpList_make_ints rfl _ _ rfl (B := w.heap.size) (n := s) rfl rfl (by omega) (Nat.le_refl _) ?_; intro w2 hown hg))
   have hbl := Below.grown (Below.refl w.heap.size w) hg (Nat.le_refl _) (by simp)
   have HO := Hd (And.intro hown hbl)
   clear hown hg hbl
   go_loopw [0, 7] (fun vv iv wr => ∃ (j k V : Nat) (L : List Int), j + k = s ∧ iv = .int .i64 ((j : Int) - 1) ∧ vv = .int .i64 (V : Int) ∧ V = v / 10 ^ k ∧ LowD L k ((v % 10 ^ k : Nat) : Int) ∧ Own wr w.heap.size (some ⟨w.heap.size, 0, none⟩) s s (List.replicate j 0 ++ L.reverse) ∧ Below w.heap.size w wr) (fun _ iv _ => ((intOf iv) + 1).toNat)
   case atStart =>
    refine ⟨s, 0, v, [], by omega, ?_, rfl, by simp, ⟨rfl, (fun d h => (by cases h)), (by simp [Fr.val, Nat.mod_one])⟩, by simpa using HO.out.1, HO.out.2⟩
    first | rfl | go_num
   case round =>
    obtain ⟨j, k, V, L, hjk, rfl, rfl, hV, hL, ho, hb⟩ := hrel
    have hVb : V < 1000000 := by rw [hV]; exact Nat.lt_of_le_of_lt (Nat.div_le_self _ _) hv
    rcases j with _ | m
    ·have hpv : ((0 : Nat) : Int) - 1 = -1 := by omega
     rw [hpv]
     obtain rfl : k = s := by omega
     rw [Nat.mod_eq_of_lt HV.out] at hL
     rw [List.replicate_zero, List.nil_append] at ho
     have HR := Hd (And.intro hL (And.intro ho hb))
     clear hL ho hb hV
     go_wp2_with fail
     go_ret2
     refine ⟨_, _, _, L.reverse, rfl, ⟨(okN_iff _).2 ⟨by rw [List.length_reverse, HR.out.1.1]; omega, by rw [List.length_reverse, HR.out.1.1]; omega, fun d hd => HR.out.1.2.1 d (List.mem_reverse.1 hd)⟩, by rw [List.reverse_reverse]; exact HR.out.1.2.2⟩, HR.out.2.1, HR.out.2.2⟩
    ·have hpv : ((m + 1 : Nat) : Int) - 1 = (m : Int) := by omega
     rw [hpv]
     have hm0 : (0 : Int) ≤ (m : Int) := by omega
     have hms : (m : Int) < (s : Int) := by omega
     have hq : Int.tdiv (V : Int) 10 = ((V / 10 : Nat) : Int) := rfl
     have hr : Int.tmod (V : Int) 10 = ((V % 10 : Nat) : Int) := rfl
     have hw1 : IntKind.i64.wrap ((V / 10 : Nat) : Int) = ((V / 10 : Nat) : Int) := IntWalk.i64_in _ (by omega)
     have hw2 : IntKind.i64.wrap ((V % 10 : Nat) : Int) = ((V % 10 : Nat) : Int) := IntWalk.i64_in _ (by omega)
     obtain ⟨hst, hgr⟩ := ho.store m ((V % 10 : Nat) : Int)
     have hcm : wr.cell? ⟨w.heap.size, m, none⟩ = some (.int .i64 0) := by
      obtain ⟨g, e, _, _, hc, _⟩ := ho.at_ (by omega)
      obtain rfl : w.heap.size = g := by simpa using e
      exact hc m 0 (by rw [List.getElem?_append_left (by simp)]; simp)
     have hfm : wr.frozen? ⟨w.heap.size, m, none⟩ = false := by
      obtain ⟨g, e, _, _, _, hf⟩ := ho.at_ (by omega)
      obtain rfl : w.heap.size = g := by simpa using e
      exact hf m
     rw [set_mid] at hst
     have HR := Hd (And.intro hL (And.intro hst (hb.setCell (p := ⟨w.heap.size, m, none⟩) (Nat.le_refl _) (.int .i64 ((V % 10 : Nat) : Int)))))
     have HVV := Hd hV
     clear hL ho hb hV hst hgr
     go_wp2_with fail
     refine ⟨⟨m, k + 1, V / 10, L ++ [((v / 10 ^ k % 10 : Nat) : Int)], by omega, by go_num, rfl, by rw [HVV.out, Nat.div_div_eq_div_mul, Nat.pow_succ], HR.out.1.next, ?_, HR.out.2.2⟩, by simp [intOf]⟩
     rw [List.reverse_append, ← HVV.out]
     exact HR.out.2.1
theorem val_set : ∀ (S : List Int) (k : Nat) (u d : Int), S[k]? = some u → Fr.val (S.set k (u + d)) = Fr.val S + d * Fr.ten k
 | [], k, u, d, h => by simp at h
 | x :: S, 0, u, d, h => by
  have : x = u := by simpa using h
  subst this
  simp only [List.set_cons_zero, Fr.val, Fr.ten, Int.pow_zero, Int.mul_one]
  omega
 | x :: S, k + 1, u, d, h => by
  have ih := val_set S k u d (by simpa using h)
  simp only [List.set_cons_succ, Fr.val, ih, Fr.ten_succ]
  rw [Int.mul_add, Int.add_assoc, Int.mul_left_comm 10 d]
def av (xs : List Int) (i : Nat) : Int := Fr.ten (xs.length - i) * Fr.val (xs.take i).reverse
theorem av_zero (xs : List Int) : av xs 0 = 0 := by simp [av, Fr.val]
theorem av_all {xs : List Int} {n : Nat} (h : xs.length = n) : av xs n = Fr.val xs.reverse := by
 subst h
 simp [av, Fr.ten]
theorem av_next {xs : List Int} {i : Nat} {x : Int} (h : xs[i]? = some x) : av xs (i + 1) = av xs i + x * Fr.ten (xs.length - 1 - i) := by
 have hlt := (List.getElem?_eq_some_iff.1 h).1
 unfold av
 rw [take_next h, List.reverse_append, List.reverse_singleton, List.singleton_append, Fr.val]
 have e1 : xs.length - (i + 1) = xs.length - 1 - i := by omega
 have e2 : xs.length - i = (xs.length - 1 - i) + 1 := by omega
 rw [e1, e2, Fr.ten_succ, Int.mul_add, Int.mul_comm (Fr.ten (xs.length - 1 - i)) x, Int.add_comm, ← Int.mul_assoc, Int.mul_comm (Fr.ten (xs.length - 1 - i)) 10]
structure Diag (xs ys S : List Int) (i j : Nat) (x : Int) : Prop where
 len : S.length = xs.length + ys.length
 bd : ∀ u ∈ S, 0 ≤ u ∧ u ≤ 9 * ((i * 6 + j : Nat) : Int)
 val : Fr.val S = av xs i * Fr.val ys.reverse + x * Fr.ten (xs.length - 1 - i) * av ys j
theorem Diag.step {xs ys S : List Int} {i j k : Nat} {x y u u' : Int} (h : Diag xs ys S i j x) (hk : k = xs.length - 1 - i + (ys.length - 1 - j)) (hy : ys[j]? = some y) (x0 : 0 ≤ x) (x9 : x ≤ 9) (y0 : 0 ≤ y) (y9 : y ≤ 9)
  (hu : S[k]? = some u) (hu' : (S.set k (u + x * y % 10))[k + 1]? = some u') : Diag xs ys ((S.set k (u + x * y % 10)).set (k + 1) (u' + x * y / 10)) i (j + 1) x := by
 have hj := (List.getElem?_eq_some_iff.1 hy).1
 have hxy : 0 ≤ x * y ∧ x * y ≤ 81 := ⟨Int.mul_nonneg x0 y0, by have := Int.mul_le_mul x9 y9 y0 (by omega); omega⟩
 have hb := h.bd u (List.mem_of_getElem? hu)
 have hb1 : ∀ z ∈ S.set k (u + x * y % 10), 0 ≤ z ∧ z ≤ 9 * ((i * 6 + (j + 1) : Nat) : Int) := fun z hz => by
  rcases List.mem_or_eq_of_mem_set hz with hz | rfl
  ·have := h.bd z hz; omega
  ·omega
 have hu2 : 0 ≤ u' ∧ u' ≤ 9 * ((i * 6 + j : Nat) : Int) := by
  rw [List.getElem?_set_ne (by omega)] at hu'
  exact h.bd u' (List.mem_of_getElem? hu')
 refine ⟨by simp [h.len], fun z hz => ?_, ?_⟩
 ·rcases List.mem_or_eq_of_mem_set hz with hz | rfl
  ·exact hb1 z hz
  ·omega
 ·rw [val_set _ _ _ _ hu', val_set _ _ _ _ hu, h.val, av_next hy, hk, Fr.ten_succ]
  have e : Fr.ten (xs.length - 1 - i + (ys.length - 1 - j)) = Fr.ten (xs.length - 1 - i) * Fr.ten (ys.length - 1 - j) := by unfold Fr.ten; rw [Int.pow_add]
  rw [e]
  generalize Fr.ten (xs.length - 1 - i) = p
  generalize Fr.ten (ys.length - 1 - j) = q
  generalize av ys j = r
  have hd : x * y = 10 * (x * y / 10) + x * y % 10 := by omega
  have e2 : x * p * (r + y * q) = x * p * r + x * y * (p * q) := by
   rw [Int.mul_add]
   congr 1
   rw [Int.mul_assoc x p, Int.mul_assoc x y, ← Int.mul_assoc p y, Int.mul_comm p y, Int.mul_assoc y p]
  rw [e2]
  have e3 : x * y * (p * q) = 10 * (x * y / 10) * (p * q) + x * y % 10 * (p * q) := by rw [← Int.add_mul, ← hd]
  rw [e3]
  have e4 : x * y / 10 * (10 * (p * q)) = 10 * (x * y / 10) * (p * q) := by rw [← Int.mul_assoc, Int.mul_comm (x * y / 10) 10]
  rw [e4]
  omega
theorem Diag.row {xs ys S : List Int} {i : Nat} {x : Int} (h : Diag xs ys S i ys.length x) (hx : xs[i]? = some x) (hl : ys.length ≤ 6) (x' : Int) : Diag xs ys S (i + 1) 0 x' := by
 refine ⟨h.len, fun u hu => by have := h.bd u hu; omega, ?_⟩
 rw [h.val, av_all rfl, av_next hx, av_zero, Int.mul_zero, Int.add_zero, Int.add_mul]
theorem diagonals_any (xs ys : List Int) (hx : okN xs = true) (hy : okN ys = true) (w : World) :
  Calls Tryz.prog 237 #[.string (dstr xs), .string (dstr ys)] w fun e w' => ∃ A c S, e = .returned (.slice A (xs.length + ys.length) c) ∧ Own w' w.heap.size A (xs.length + ys.length) c S ∧ (∀ u ∈ S, 0 ≤ u ∧ u ≤ 9 * (36 : Int)) ∧ Fr.val S = Fr.val xs.reverse * Fr.val ys.reverse ∧ Below w.heap.size w w' := by
 obtain ⟨x1, x6, xd⟩ := (okN_iff xs).1 hx
 obtain ⟨y1, y6, yd⟩ := (okN_iff ys).1 hy
 obtain ⟨la, hla⟩ : ∃ n, xs.length = n := ⟨_, rfl⟩
 obtain ⟨lb, hlb⟩ : ∃ n, ys.length = n := ⟨_, rfl⟩
 have sx : (dstr xs).size = la := by rw [dstr_size, hla]
 have sy : (dstr ys).size = lb := by rw [dstr_size, hlb]
 have HDX := Hd (show ∀ (k : Nat) (u : Int) (w : World), xs[k]? = some u → Calls Tryz.prog 239 #[.string (dstr xs), .int .i64 (k : Int)] w fun e w' => e = .returned (.int .i64 u) ∧ w = w' from fun k u w hu => digitAt_any xs k u w hu (xd u (List.mem_of_getElem? hu)).1 (xd u (List.mem_of_getElem? hu)).2 x6)
 have HDY := Hd (show ∀ (k : Nat) (u : Int) (w : World), ys[k]? = some u → Calls Tryz.prog 239 #[.string (dstr ys), .int .i64 (k : Int)] w fun e w' => e = .returned (.int .i64 u) ∧ w = w' from fun k u w hu => digitAt_any ys k u w hu (yd u (List.mem_of_getElem? hu)).1 (yd u (List.mem_of_getElem? hu)).2 y6)
 rw [hla] at x1 x6 ⊢
 rw [hlb] at y1 y6 ⊢
 have HXD := Hd (And.intro xd (And.intro yd (And.intro hla hlb)))
 generalize dstr xs = s at *
 generalize dstr ys = t at *
 have a1 : (1 : Int) ≤ (la : Int) := by omega
 have a6 : (la : Int) ≤ 6 := by omega
 have b1 : (1 : Int) ≤ (lb : Int) := by omega
 have b6 : (lb : Int) ≤ 6 := by omega
 have hsum : IntKind.i64.wrap ((la : Int) + (lb : Int)) = ((la + lb : Nat) : Int) := by rw [IntWalk.i64_in _ (by omega)]; push_cast; rfl
 clear hx hy xd yd hla hlb
 go_enter Tryz.func237, Tryz.ntmps237
 go_wp2_with (first
  | (refine wpList_make_ints rfl _ _ rfl (B := w.heap.size) (n := la + lb) rfl rfl (by omega) (Nat.le_refl _) ?_; intro w2 hown hg))
 have hbl := Below.grown (Below.refl w.heap.size w) hg (Nat.le_refl _) (by simp)
 have HO := Hd (And.intro hown hbl)
 clear hown hg hbl
 go_loopw [6] (fun iv wr => ∃ (i : Nat) (S : List Int), i ≤ la ∧ iv = .int .i64 (i : Int) ∧ Diag xs ys S i 0 0 ∧ Own wr w.heap.size (some ⟨w.heap.size, 0, none⟩) (la + lb) (la + lb) S ∧ Below w.heap.size w wr) (fun iv _ => la - (intOf iv).toNat)
 case atStart =>
  refine ⟨0, List.replicate (la + lb) 0, by omega, rfl, ⟨by simp [HXD.out.2.2.1, HXD.out.2.2.2], fun u hu => ?_, ?_⟩, HO.out.1, HO.out.2⟩
  ·have := List.eq_of_mem_replicate hu; omega
  ·rw [av_zero, av_zero]
   have : ∀ n : Nat, Fr.val (List.replicate n 0) = 0 := fun n => by
    induction n with
    | zero => rfl
    | succ n ih => rw [List.replicate_succ, Fr.val, ih]; rfl
   rw [this]
   omega
 case round =>
  obtain ⟨i, S, hi, rfl, hd, ho, hb⟩ := hrel
  by_cases hlt : i < la
  ·obtain ⟨x, hx⟩ : ∃ x, xs[i]? = some x := ⟨_, List.getElem?_eq_getElem (by rw [HXD.out.2.2.1]; exact hlt)⟩
   have hxb := HXD.out.1 x (List.mem_of_getElem? hx)
   have HX := Hd hx
   have i0 : (0 : Int) ≤ (i : Int) := by omega
   have i1 : (i : Int) < (la : Int) := by omega
   have hd0 : Diag xs ys S i 0 x := ⟨hd.len, hd.bd, by rw [hd.val, av_zero]; omega⟩
   have HS := Hd (And.intro hd0 (And.intro ho hb))
   clear hd hd0 ho hb hx
   go_wp2_with fail
   obtain ⟨wq, rfl⟩ : ∃ V, V = wr := ⟨_, rfl⟩
   go_loopw [7] (fun jv wr => ∃ (j : Nat) (S : List Int), j ≤ lb ∧ jv = .int .i64 (j : Int) ∧ Diag xs ys S i j x ∧ Own wr w.heap.size (some ⟨w.heap.size, 0, none⟩) (la + lb) (la + lb) S ∧ Below w.heap.size w wr) (fun jv _ => lb - (intOf jv).toNat)
   case atStart => exact ⟨0, S, by omega, rfl, HS.out.1, HS.out.2.1, HS.out.2.2⟩
   case round =>
    obtain ⟨j, S, hj, rfl, hd, ho, hb⟩ := hrel
    by_cases hjt : j < lb
    ·obtain ⟨y, hy⟩ : ∃ y, ys[j]? = some y := ⟨_, List.getElem?_eq_getElem (by rw [HXD.out.2.2.2]; exact hjt)⟩
     have hyb := HXD.out.2.1 y (List.mem_of_getElem? hy)
     have hxy : 0 ≤ x * y ∧ x * y ≤ 81 := ⟨Int.mul_nonneg hxb.1 hyb.1, by have := Int.mul_le_mul hxb.2 hyb.2 hyb.1 (by omega); omega⟩
     obtain ⟨k, hk⟩ : ∃ k, k = la - 1 - i + (lb - 1 - j) := ⟨_, rfl⟩
     have hkI : (la : Int) - 1 - (i : Int) + (lb : Int) - 1 - (j : Int) = (k : Int) := by omega
     have hSl : S.length = la + lb := by rw [hd.len, HXD.out.2.2.1, HXD.out.2.2.2]
     obtain ⟨u, hu⟩ : ∃ u, S[k]? = some u := ⟨_, List.getElem?_eq_getElem (by omega)⟩
     obtain ⟨u', hu'⟩ : ∃ u', (S.set k (u + x * y % 10))[k + 1]? = some u' := ⟨_, List.getElem?_eq_getElem (by simp; omega)⟩
     have hub := hd.bd u (List.mem_of_getElem? hu)
     have hub' : 0 ≤ u' ∧ u' ≤ 9 * ((i * 6 + j : Nat) : Int) := by
      have h2 := hu'
      rw [List.getElem?_set_ne (by omega)] at h2
      exact hd.bd u' (List.mem_of_getElem? h2)
     have j0 : (0 : Int) ≤ (j : Int) := by omega
     have j1 : (j : Int) < (lb : Int) := by omega
     have hkl : k + 1 < la + lb := by omega
     have hklI : (k : Int) + 1 < ((la + lb : Nat) : Int) := by omega
     obtain ⟨ck, ck1, fk, fk1⟩ : wr.cell? ⟨w.heap.size, k, none⟩ = some (.int .i64 u) ∧ wr.cell? ⟨w.heap.size, k + 1, none⟩ = some (.int .i64 u') ∧ wr.frozen? ⟨w.heap.size, k, none⟩ = false ∧ wr.frozen? ⟨w.heap.size, k + 1, none⟩ = false := by
      obtain ⟨g, e, _, _, hc, hf⟩ := ho.at_ (by omega)
      obtain rfl : w.heap.size = g := by simpa using e
      have h2 := hu'
      rw [List.getElem?_set_ne (by omega)] at h2
      exact ⟨hc k u hu, hc (k + 1) u' h2, hf k, hf (k + 1)⟩
     obtain ⟨hs1, _⟩ := ho.store k (u + x * y % 10)
     obtain ⟨hs2, _⟩ := hs1.store (k + 1) (u' + x * y / 10)
     have hbf := (hb.setCell (p := ⟨w.heap.size, k, none⟩) (Nat.le_refl _) (.int .i64 (u + x * y % 10))).setCell (p := ⟨w.heap.size, k + 1, none⟩) (Nat.le_refl _) (.int .i64 (u' + x * y / 10))
     have hdn := hd.step (by rw [HXD.out.2.2.1, HXD.out.2.2.2]; exact hk) hy hxb.1 hxb.2 hyb.1 hyb.2 hu hu'
     have hr : Int.tmod (x * y) 10 = x * y % 10 := Int.tmod_eq_emod_of_nonneg hxy.1
     have hq : Int.tdiv (x * y) 10 = x * y / 10 := Int.tdiv_eq_ediv_of_nonneg hxy.1
     have r0 : 0 ≤ x * y % 10 ∧ x * y % 10 ≤ 9 := by omega
     have q0 : 0 ≤ x * y / 10 ∧ x * y / 10 ≤ 9 := by omega
     generalize x * y % 10 = r at *
     generalize x * y / 10 = q at *
     obtain ⟨c, hxyc⟩ : ∃ c, x * y = c := ⟨_, rfl⟩
     rw [hxyc] at hr hq hxy
     obtain ⟨c0, c9⟩ := hxy
     obtain ⟨r0, r9⟩ := r0
     obtain ⟨q0, q9⟩ := q0
     have v1 : IntKind.i64.wrap r = r := IntWalk.i64_in _ (by omega)
     have v2 : IntKind.i64.wrap q = q := IntWalk.i64_in _ (by omega)
     have v3 : IntKind.i64.wrap (u + r) = u + r := IntWalk.i64_in _ (by omega)
     have v4 : IntKind.i64.wrap (u' + q) = u' + q := IntWalk.i64_in _ (by omega)
     have v5 : IntKind.i64.wrap c = c := IntWalk.i64_in _ (by omega)
     have HY := Hd hy
     have HFIN := Hd (And.intro hdn (And.intro hs2 hbf))
     clear hd ho hb hy hu hu' hSl hk hs1 hs2 hbf hdn
     go_wp2_with (first
      | (go_at_call 239; refine (HDX.out i x _ HX.out).mono ?_; rintro e w5 ⟨rfl, rfl⟩)
      | (go_at_call 239; refine (HDY.out j y _ HY.out).mono ?_; rintro e w6 ⟨rfl, rfl⟩))
     exact ⟨⟨j + 1, _, by omega, by go_num, HFIN.out.1, HFIN.out.2.1, HFIN.out.2.2⟩, by simp [intOf]; omega⟩
    ·obtain rfl : j = lb := by omega
     have HS2 := Hd (And.intro hd (And.intro ho hb))
     clear hd ho hb
     go_wp2_with fail
     refine ⟨⟨i + 1, S, by omega, by go_num, ?_, HS2.out.2.1, HS2.out.2.2⟩, by simp [intOf]; omega⟩
     have h1 := HS2.out.1
     rw [← HXD.out.2.2.2] at h1
     exact h1.row HX.out (by rw [HXD.out.2.2.2]; exact y6) 0
  ·obtain rfl : i = la := by omega
   have hval := hd.val
   rw [av_zero, av_all HXD.out.2.2.1, Int.mul_zero, Int.add_zero] at hval
   have hbd : ∀ u ∈ S, 0 ≤ u ∧ u ≤ 9 * (36 : Int) := fun u hu => by have := hd.bd u hu; omega
   have HR := Hd (And.intro hbd (And.intro hval (And.intro ho hb)))
   clear hd ho hb hval hbd
   go_wp2_with fail
   go_ret
   exact ⟨_, _, S, rfl, HR.out.2.2.1, HR.out.1, HR.out.2.1, HR.out.2.2.2⟩
theorem val_snoc (L : List Int) (d : Int) : Fr.val (L ++ [d]) = Fr.val L + Fr.ten L.length * d := by
 rw [val_append]
 simp [Fr.val]
theorem carried_any (A : Option Addr) (n c : Nat) (S : List Int) (w : World) (hx : Ints w w.heap.size A n S) (h0 : ∀ u ∈ S, 0 ≤ u ∧ u ≤ 9 * (36 : Int)) (hn : n ≤ 12) (hv : Fr.val S < Fr.ten n) :
  Calls Tryz.prog 232 #[.slice A n c] w fun e w' => ∃ A' c' L, e = .returned (.slice A' n c') ∧ Own w' w.heap.size A' n c' L.reverse ∧ Fr.Digs L ∧ L.length = n ∧ Fr.val L = Fr.val S ∧ Below w.heap.size w w' := by
 have hl := hx.len
 have HX := Hd hx
 have HS := Hd (And.intro h0 (And.intro hl hv))
 have hnI : (n : Int) ≤ 12 := by omega
 have hn0 : (0 : Int) ≤ (n : Int) := by omega
 clear hx h0 hl hv
 go_enter Tryz.func232, Tryz.ntmps232
 go_wp2_with (first
  | (refine wpList_make_ints rfl _ _ rfl (B := w.heap.size) (n := n) rfl rfl (by omega) (Nat.le_refl _) ?_; intro w2 hown hg))
 have hbl := Below.grown (Below.refl w.heap.size w) hg (Nat.le_refl _) (by simp)
 have HO := Hd (And.intro hown hbl)
 clear hown hg hbl
 go_loopw [4, 5, 6, 12] (fun cv _ _ kv wr => ∃ (k m : Nat) (r : Int) (L : List Int), k + m = n ∧ kv = .int .i64 (k : Int) ∧ cv = .int .i64 r ∧ 0 ≤ r ∧ r ≤ 1000 ∧ L.length = k ∧ Fr.Digs L ∧ Fr.val L + Fr.ten k * r = Fr.val (S.take k) ∧ Own wr w.heap.size (some ⟨w.heap.size, 0, none⟩) n n (List.replicate m 0 ++ L.reverse) ∧ Below w.heap.size w wr) (fun _ _ _ kv _ => n - (intOf kv).toNat)
 case atStart => exact ⟨0, n, 0, [], by omega, rfl, rfl, by omega, by omega, rfl, (fun d h => (by cases h)), (by simp [Fr.val, Fr.ten]), by simpa using HO.out.1, HO.out.2⟩
 case round =>
  obtain ⟨k, m, r, L, hkm, rfl, rfl, r0, r9, hL, hd, hval, ho, hb⟩ := hrel
  by_cases hlt : k < n
  ·obtain ⟨m, rfl⟩ : ∃ q, m = q + 1 := ⟨m - 1, by omega⟩
   obtain ⟨b, off, u, rfl, hbk, hu, hcell⟩ := HX.out.at_ hlt
   have hub := HS.out.1 u (List.mem_of_getElem? hu)
   have c0 := (hb.cell (p := ⟨b, off + k, none⟩) hbk).trans hcell
   have k0 : (0 : Int) ≤ (k : Int) := by omega
   have k1 : (k : Int) < (n : Int) := by omega
   have hm : (n : Int) - 1 - (k : Int) = (m : Int) := by omega
   have m0 : (0 : Int) ≤ (m : Int) := by omega
   have m1 : (m : Int) < (n : Int) := by omega
   obtain ⟨t, ht⟩ : ∃ t, u + r = t := ⟨_, rfl⟩
   have t0 : 0 ≤ t := by omega
   have t9 : t ≤ 1324 := by omega
   have hr1 : Int.tmod t 10 = t % 10 := Int.tmod_eq_emod_of_nonneg t0
   have hq1 : Int.tdiv t 10 = t / 10 := Int.tdiv_eq_ediv_of_nonneg t0
   have p0 : 0 ≤ t % 10 := by omega
   have p9 : t % 10 ≤ 9 := by omega
   have q0 : 0 ≤ t / 10 := by omega
   have q9 : t / 10 ≤ 1000 := by omega
   obtain ⟨hs1, _⟩ := ho.store m (t % 10)
   rw [set_mid] at hs1
   obtain ⟨cm, fm⟩ : wr.cell? ⟨w.heap.size, m, none⟩ = some (.int .i64 0) ∧ wr.frozen? ⟨w.heap.size, m, none⟩ = false := by
    obtain ⟨g, e, _, _, hc, hf⟩ := ho.at_ (by omega)
    obtain rfl : w.heap.size = g := by simpa using e
    exact ⟨hc m 0 (by rw [List.getElem?_append_left (by simp)]; simp), hf m⟩
   have hbf := hb.setCell (p := ⟨w.heap.size, m, none⟩) (Nat.le_refl _) (.int .i64 (t % 10))
   have hvn : Fr.val (L ++ [t % 10]) + Fr.ten (k + 1) * (t / 10) = Fr.val (S.take (k + 1)) := by
    rw [val_snoc, take_next hu, val_snoc, List.length_take, hL, Fr.ten_succ, show min k S.length = k by rw [HS.out.2.1]; omega, ← hval]
    have e : t = t % 10 + 10 * (t / 10) := by omega
    have e2 : Fr.ten k * u = Fr.ten k * (t % 10) + 10 * Fr.ten k * (t / 10) - Fr.ten k * r := by
     rw [show u = t % 10 + 10 * (t / 10) - r by omega, Int.mul_sub, Int.mul_add, ← Int.mul_assoc, Int.mul_comm (Fr.ten k) 10]
    rw [e2]
    omega
   have hdn : Fr.Digs (L ++ [t % 10]) := fun d hd' => by
    rcases List.mem_append.1 hd' with hd' | hd'
    ·exact hd d hd'
    ·have := List.mem_singleton.1 hd'
     omega
   generalize t % 10 = p at *
   generalize t / 10 = q at *
   have v1 : IntKind.i64.wrap p = p := IntWalk.i64_in _ (by omega)
   have v2 : IntKind.i64.wrap q = q := IntWalk.i64_in _ (by omega)
   have v3 : IntKind.i64.wrap (u + r) = t := by rw [ht]; exact IntWalk.i64_in _ (by omega)
   have HFIN := Hd (And.intro hs1 (And.intro hbf (And.intro hvn (And.intro hdn hL))))
   have HKM := Hd hkm
   clear hkm hL hd hval ho hb hu hcell hs1 hbf hvn hdn
   go_wp2_with fail
   exact ⟨⟨k + 1, m, q, L ++ [p], by have := HKM.out; omega, by go_num, rfl, by omega, by omega, by simp [HFIN.out.2.2.2.2], HFIN.out.2.2.2.1, HFIN.out.2.2.1, by rw [List.reverse_append]; exact HFIN.out.1, HFIN.out.2.1⟩, by simp [intOf]; omega⟩
  ·obtain rfl : k = n := by omega
   obtain rfl : m = 0 := by omega
   rw [List.take_of_length_le (by rw [HS.out.2.1]; omega)] at hval
   have hr : r = 0 := by
    have h1 := HS.out.2.2
    have h2 := (Fr.val_range L hd).1
    have h3 := Fr.ten_pos k
    rcases Int.lt_or_le r 1 with h | h
    ·omega
    ·have := Int.mul_le_mul_of_nonneg_left h (by omega : 0 ≤ Fr.ten k)
     omega
   subst hr
   rw [Int.mul_zero, Int.add_zero] at hval
   rw [List.replicate_zero, List.nil_append] at ho
   have HR := Hd (And.intro hL (And.intro hd (And.intro hval (And.intro ho hb))))
   clear hL hd hval ho hb
   go_wp2_with fail
   go_ret
   exact ⟨_, _, L, rfl, HR.out.2.2.2.1, HR.out.2.1, HR.out.1, HR.out.2.2.1, HR.out.2.2.2.2⟩
theorem val_lt {xs : List Int} (h : okN xs = true) : 0 ≤ Fr.val xs.reverse ∧ Fr.val xs.reverse < Fr.ten xs.length := by
 have hd := ((okN_iff xs).1 h).2.2
 have := Fr.val_range xs.reverse (fun d hd' => hd d (List.mem_reverse.1 hd'))
 rwa [List.length_reverse] at this
theorem prod_lt {a b p q : Int} (a0 : 0 ≤ a) (ap : a < p) (b0 : 0 ≤ b) (bq : b < q) : a * b < p * q := by
 have h1 : a * b ≤ a * (q - 1) := Int.mul_le_mul_of_nonneg_left (by omega) a0
 have h2 : a * (q - 1) ≤ (p - 1) * (q - 1) := Int.mul_le_mul_of_nonneg_right (by omega) (by omega)
 have h3 : (p - 1) * (q - 1) = p * q - p - q + 1 := by
  rw [Int.sub_mul, Int.mul_sub, Int.one_mul, Int.mul_one]
  omega
 omega
theorem LatticeSums_yes (A A' : Option Addr) (n c n' c' : Nat) (xs ys : List Int) (w : World) (hx : Ints w w.heap.size A n xs) (hy : Ints w w.heap.size A' n' ys) (h1 : okN xs = true) (h2 : okN ys = true) :
  Calls Tryz.prog 231 #[.slice A n c, .slice A' n' c'] w fun e w' => ∃ B cc S, e = .returned (.tuple #[.slice B (xs.length + ys.length) cc, .bool true]) ∧ Own w' w.heap.size B (xs.length + ys.length) cc S ∧ (∀ u ∈ S, 0 ≤ u ∧ u ≤ 9 * (36 : Int)) ∧ Fr.val S = Fr.val xs.reverse * Fr.val ys.reverse ∧ Below w.heap.size w w' := by
 have HX := Hd (And.intro hx (And.intro hy (And.intro h1 h2)))
 clear hx hy h1 h2
 go_enter Tryz.func231, Tryz.ntmps231
 go_wp2_with fail
 refine (digitsOf_yes A n c xs w HX.out.1 HX.out.2.2.1).mono ?_
 rintro e w1 ⟨rfl, hb1⟩
 have HB1 := Hd hb1
 clear hb1
 go_wp2_with fail
 refine (digitsOf_yes A' n' c' ys w1 (HX.out.2.1.next HB1.out) HX.out.2.2.2).mono ?_
 rintro e w2 ⟨rfl, hb2⟩
 have HB2 := Hd (HB1.out.trans (hb2.mono HB1.out.size))
 clear hb2
 go_wp2_with fail
 refine (diagonals_any xs ys HX.out.2.2.1 HX.out.2.2.2 w2).mono ?_
 rintro e w3 ⟨B, cc, S, rfl, ho, hbd, hval, hb3⟩
 have HR := Hd (And.intro (ho.mono HB2.out.size) (And.intro hbd (And.intro hval (HB2.out.trans (hb3.mono HB2.out.size)))))
 clear ho hbd hval hb3
 go_wp2_with fail
 go_ret2
 exact ⟨_, _, S, rfl, HR.out.1, HR.out.2.1, HR.out.2.2.1, HR.out.2.2.2⟩
theorem LatticeDigits_yes (A A' : Option Addr) (n c n' c' : Nat) (xs ys : List Int) (w : World) (hx : Ints w w.heap.size A n xs) (hy : Ints w w.heap.size A' n' ys) (h1 : okN xs = true) (h2 : okN ys = true) :
  Calls Tryz.prog 222 #[.slice A n c, .slice A' n' c'] w fun e w' => ∃ B cc L, e = .returned (.tuple #[.slice B (xs.length + ys.length) cc, .bool true]) ∧ Own w' w.heap.size B (xs.length + ys.length) cc L.reverse ∧ Fr.Digs L ∧ L.length = xs.length + ys.length ∧ Fr.val L = Fr.val xs.reverse * Fr.val ys.reverse ∧ Below w.heap.size w w' := by
 have hl1 := (okN_iff xs).1 h1
 have hl2 := (okN_iff ys).1 h2
 have hlt : Fr.val xs.reverse * Fr.val ys.reverse < Fr.ten (xs.length + ys.length) := by
  have e : Fr.ten (xs.length + ys.length) = Fr.ten xs.length * Fr.ten ys.length := by unfold Fr.ten; rw [Int.pow_add]
  rw [e]
  exact prod_lt (val_lt h1).1 (val_lt h1).2 (val_lt h2).1 (val_lt h2).2
 have HX := Hd (And.intro hx (And.intro hy (And.intro h1 h2)))
 have HLT := Hd (And.intro hlt (And.intro hl1 hl2))
 clear hx hy h1 h2 hlt hl1 hl2
 go_enter Tryz.func222, Tryz.ntmps222
 go_wp2_with fail
 refine (LatticeSums_yes A A' n c n' c' xs ys w HX.out.1 HX.out.2.1 HX.out.2.2.1 HX.out.2.2.2).mono ?_
 rintro e w1 ⟨B, cc, S, rfl, ho, hbd, hval, hb1⟩
 have HI := Hd ho.ints
 have HV := Hd (And.intro hbd hval)
 have HB1 := Hd hb1
 clear ho hbd hval hb1
 go_wp2_with fail
 refine (carried_any B (xs.length + ys.length) cc S w1 HI.out HV.out.1 (by have := HLT.out.2; omega) (by rw [HV.out.2]; exact HLT.out.1)).mono ?_
 rintro e w2 ⟨B2, c2, L, rfl, ho, hd, hl, hval, hb2⟩
 have HR := Hd (And.intro (ho.mono HB1.out.size) (And.intro hd (And.intro hl (And.intro (hval.trans HV.out.2) (HB1.out.trans (hb2.mono HB1.out.size))))))
 clear ho hd hl hval hb2
 go_wp2_with fail
 go_ret2
 exact ⟨_, _, L, rfl, HR.out.1, HR.out.2.1, HR.out.2.2.1, HR.out.2.2.2.1, HR.out.2.2.2.2⟩
theorem horner_snoc (l : List Int) (d : Int) : Gl.horner 0 (l ++ [d]) = 10 * Gl.horner 0 l + d := by simp [Gl.horner, List.foldl_append]
theorem horner_bd : ∀ (l : List Int), (∀ d ∈ l, 0 ≤ d ∧ d ≤ 9) → 0 ≤ Gl.horner 0 l ∧ Gl.horner 0 l < Fr.ten l.length := fun l h => by
 have e := horner_rev l.reverse
 rw [List.reverse_reverse] at e
 rw [e]
 have := Fr.val_range l.reverse (fun d hd => h d (List.mem_reverse.1 hd))
 rwa [List.length_reverse] at this
theorem ten_mono {a b : Nat} (h : a ≤ b) : Fr.ten a ≤ Fr.ten b := by
 obtain ⟨k, rfl⟩ := Nat.exists_eq_add_of_le h
 have e : Fr.ten (a + k) = Fr.ten a * Fr.ten k := by unfold Fr.ten; rw [Int.pow_add]
 have h1 := Fr.ten_pos a
 have h2 := Fr.ten_pos k
 have := Int.mul_le_mul_of_nonneg_left (show (1 : Int) ≤ Fr.ten k by omega) (show 0 ≤ Fr.ten a by omega)
 omega
theorem LatticeTimes_yes (A A' : Option Addr) (n c n' c' : Nat) (xs ys : List Int) (w : World) (hx : Ints w w.heap.size A n xs) (hy : Ints w w.heap.size A' n' ys) (h1 : okN xs = true) (h2 : okN ys = true) :
  Calls Tryz.prog 200 #[.slice A n c, .slice A' n' c'] w fun e w' => e = .returned (.int .i64 (Fr.val xs.reverse * Fr.val ys.reverse)) ∧ Below w.heap.size w w' := by
 have hl1 := (okN_iff xs).1 h1
 have hl2 := (okN_iff ys).1 h2
 have HX := Hd (And.intro hx (And.intro hy (And.intro h1 h2)))
 have hn12 : xs.length + ys.length ≤ 12 := by omega
 clear hx hy h1 h2 hl1 hl2
 go_enter Tryz.func200, Tryz.ntmps200
 go_wp2_with fail
 refine (LatticeDigits_yes A A' n c n' c' xs ys w HX.out.1 HX.out.2.1 HX.out.2.2.1 HX.out.2.2.2).mono ?_
 rintro e w1 ⟨B, cc, L, rfl, ho, hd, hl, hval, hb1⟩
 obtain ⟨q, hq⟩ : ∃ q, xs.length + ys.length = q := ⟨_, rfl⟩
 rw [hq] at ho hl hn12 ⊢
 have HI := Hd ho.ints
 have HB1 := Hd hb1
 have HV := Hd (And.intro hd (And.intro hl hval))
 clear ho hd hl hval hb1 hq
 have q12 : (q : Int) ≤ 12 := by omega
 have q0 : (0 : Int) ≤ (q : Int) := by omega
 go_wp2_with fail
 go_loopw [7, 9, 20] (fun vv _ kv wr => ∃ (k : Nat), k ≤ q ∧ kv = .int .i64 (k : Int) ∧ vv = .int .i64 (Gl.horner 0 (L.reverse.take k)) ∧ w1 = wr) (fun _ _ kv _ => q - (intOf kv).toNat)
 case atStart => exact ⟨0, by omega, rfl, rfl, rfl⟩
 case round =>
  obtain ⟨k, hk, rfl, rfl, rfl⟩ := hrel
  have hdr : ∀ d ∈ L.reverse, 0 ≤ d ∧ d ≤ 9 := fun d h => HV.out.1 d (List.mem_reverse.1 h)
  by_cases hlt : k < q
  ·obtain ⟨b, off, u, rfl, hbk, hu, c0⟩ := HI.out.at_ hlt
   have hub := hdr u (List.mem_of_getElem? hu)
   have hh := horner_bd (L.reverse.take k) (fun d h => hdr d (List.mem_of_mem_take h))
   have ht := ten_mono (show (L.reverse.take k).length ≤ 12 by rw [List.length_take]; omega)
   have e12 : Fr.ten 12 = 1000000000000 := by decide
   rw [e12] at ht
   have k0 : (0 : Int) ≤ (k : Int) := by omega
   have k1 : (k : Int) < (q : Int) := by omega
   have hn := horner_snoc (L.reverse.take k) u
   rw [← take_next hu] at hn
   obtain ⟨H, hH⟩ : ∃ H, Gl.horner 0 (L.reverse.take k) = H := ⟨_, rfl⟩
   rw [hH] at hh hn ⊢
   have H0 : 0 ≤ H := hh.1
   have H9 : H ≤ 1000000000000 := by omega
   have v1 : IntKind.i64.wrap (H * 10) = H * 10 := IntWalk.i64_in _ (by omega)
   have v2 : IntKind.i64.wrap (H * 10 + u) = H * 10 + u := IntWalk.i64_in _ (by omega)
   have HN := Hd hn
   clear hh ht hn hH hdr hu
   go_wp2_with fail
   exact ⟨⟨k + 1, by omega, by go_num, by rw [HN.out]; congr 1; omega, trivial⟩, by simp [intOf]; omega⟩
  ·obtain rfl : k = q := by omega
   have e : Gl.horner 0 (L.reverse.take k) = Fr.val xs.reverse * Fr.val ys.reverse := by
    rw [List.take_of_length_le (by rw [List.length_reverse, HV.out.2.1]; omega), horner_rev, HV.out.2.2]
   rw [e]
   clear e hdr
   go_wp2_with fail
   go_ret
   exact ⟨rfl, HB1.out⟩
theorem five_set (b : List Int) (j : Nat) (u : Int) : (five b).setIfInBounds j (.int .i64 u) = five (b.set j u) := by simp [five, IV, List.map_set]
theorem five_get {b : List Int} {j : Nat} {u : Int} (h : b[j]? = some u) : (five b)[j]? = some (.int .i64 u) := by simp [five, IV, h]
theorem Blk.set5 {w : World} {b : Nat} {ty : TypeId} {a0 a1 a2 a3 a4 : Value} (h : Blk w b #[a0, a1, a2, a3, a4] ty) (x0 x1 x2 x3 x4 : Value) :
  Blk (((((w.setCell ⟨b, 0, none⟩ x0).setCell ⟨b, 1, none⟩ x1).setCell ⟨b, 2, none⟩ x2).setCell ⟨b, 3, none⟩ x3).setCell ⟨b, 4, none⟩ x4) b #[x0, x1, x2, x3, x4] ty := by
 have := ((((h.set 0 x0).set 1 x1).set 2 x2).set 3 x3).set 4 x4
 simpa using this
theorem below_set5 {w0 w : World} {b B : Nat} (h : Below B w0 w) (hb : B ≤ b) (x0 x1 x2 x3 x4 : Value) : Below B w0 (((((w.setCell ⟨b, 0, none⟩ x0).setCell ⟨b, 1, none⟩ x1).setCell ⟨b, 2, none⟩ x2).setCell ⟨b, 3, none⟩ x3).setCell ⟨b, 4, none⟩ x4) :=
 ((((h.setCell (p := ⟨b, 0, none⟩) hb x0).setCell (p := ⟨b, 1, none⟩) hb x1).setCell (p := ⟨b, 2, none⟩) hb x2).setCell (p := ⟨b, 3, none⟩) hb x3).setCell (p := ⟨b, 4, none⟩) hb x4
theorem bal_next {ds : List Db} {k : Nat} {d : Db} (h : ds[k]? = some d) : bal (ds.take (k + 1)) = upd (bal (ds.take k)) d := by
 rw [take_next h, bal, bal, List.foldl_append]; rfl
def Within (m : Int) (b : List Int) : Prop := b.length = 5 ∧ ∀ (i : Nat) (u : Int), b[i]? = some u → -m ≤ u ∧ u ≤ m
theorem Within.upd {m : Int} {b : List Int} (h : Within m b) {d : Db} (h0 : 0 ≤ d.v) (h1 : d.v ≤ 36000) (ht : Two d.a d.c) : Within (m + 36000) (upd b d) := by
 obtain ⟨hl, hb⟩ := h
 obtain ⟨t0, t1, t2, t3, t4⟩ := ht
 have gd : ∀ j, j < 5 → -m ≤ b.getD j 0 ∧ b.getD j 0 ≤ m := fun j hj => by
  have e : b[j]? = some (b.getD j 0) := by rw [List.getD_eq_getElem?_getD, List.getElem?_eq_getElem (by omega)]; rfl
  exact hb j _ e
 refine ⟨by rw [upd_length, hl], fun i u hu => ?_⟩
 have hi : i < 5 := by have := (List.getElem?_eq_some_iff.1 hu).1; rw [upd_length, hl] at this; exact this
 have e : u = (Go.Proofs.YthdoofmfigemoaaGreatDoor.upd b d).getD i 0 := by rw [List.getD_eq_getElem?_getD, hu]; rfl
 have ga := gd d.a.toNat (by omega)
 have gi := gd i hi
 have gc := gd d.c.toNat (by omega)
 have hne : ¬ d.c.toNat = d.a.toNat := by omega
 rw [e, Go.Proofs.YthdoofmfigemoaaGreatDoor.upd, Ta.getD_set _ _ _ _ (by rw [List.length_set, hl]; omega), Ta.getD_set _ _ _ _ (by omega), Ta.getD_set _ _ _ _ (by omega), if_neg hne]
 split
 ·omega
 ·split <;> omega
theorem balances_any (A : Option Addr) (n c : Nat) (ds : List Db) (w : World) (hr : Dbs w w.heap.size A n ds) (hf : Fair ds) : Calls Tryz.prog 81 #[.slice A n c] w fun e w' => e = .returned (.agg (five (bal ds))) ∧ Below w.heap.size w w' := by
 have hl := hr.len
 have h12 : n ≤ 12 := by have := hf.1; omega
 have HL := Hd hl
 have HR := Hd hr
 have HF := Hd hf
 clear hl hr hf
 go_enter Tryz.func81, Tryz.ntmps81
 go_wp2_with fail
 go_loopw [8] (fun iv wr => ∃ (k : Nat), k ≤ n ∧ iv = .int .i64 (k : Int) ∧ Blk wr w.heap.size (five [0, 0, 0, 0, 0]) 117 ∧ Blk wr (w.heap.size + 1) (five (bal (ds.take k))) 117 ∧ Within (36000 * (k : Int)) (bal (ds.take k)) ∧ Below w.heap.size w wr) (fun iv _ => n - (intOf iv).toNat)
 case atStart =>
  refine ⟨0, by omega, rfl, (Blk.new w _ _).alloc _, ?_, ⟨rfl, fun i u hu => ?_⟩, ((Below.refl _ _).alloc (Nat.le_refl _) _).alloc (by simp) _⟩
  ·have := Blk.new (w.alloc (.cells (five [0, 0, 0, 0, 0]) 117)) (five [0, 0, 0, 0, 0]) 117
   rw [World.size_alloc] at this
   exact this
  ·have h5 : ([0, 0, 0, 0, 0] : List Int)[i]? = some u := hu
   have := List.mem_of_getElem? h5
   simp at this
   omega
 case round =>
  obtain ⟨k, hk, rfl, hz, hb, hw, hbl⟩ := hrel
  have HZ := Hd hz
  have HB := Hd hb
  have HW := Hd hw
  have HBL := Hd hbl
  clear hz hb hw hbl
  by_cases hlt : k < n
  ·obtain ⟨b, off, d, rfl, hlb, ht, k0, k1, k2⟩ := Dbs.at_ (show Dbs wr w.heap.size A n ds from HR.out.below HBL.out) hlt
   obtain ⟨⟨t0, t1, t2, t3, t4⟩, v0, v1⟩ := HF.out.2 d (List.mem_of_getElem? ht)
   have HT := Hd ht
   obtain ⟨a, cc, v⟩ := d
   obtain ⟨p, rfl⟩ := Int.eq_ofNat_of_zero_le t0
   obtain ⟨q, rfl⟩ := Int.eq_ofNat_of_zero_le t2
   simp only at k0 k1 k2 t0 t1 t2 t3 t4 v0 v1
   clear ht
   obtain ⟨W, hW⟩ : ∃ W, wr.alloc (.cells #[.int .i64 (p : Int), .int .i64 (q : Int), .int .i64 v] 123) = W := ⟨_, rfl⟩
   have hd : Blk W wr.heap.size #[.int .i64 (p : Int), .int .i64 (q : Int), .int .i64 v] 123 := by rw [← hW]; exact Blk.new _ _ _
   have hB : Blk W (w.heap.size + 1) (five (bal (ds.take k))) 117 := by rw [← hW]; exact HB.out.alloc _
   have hbL := HW.out.1
   obtain ⟨u, hu⟩ : ∃ u, (bal (ds.take k))[p]? = some u := ⟨_, List.getElem?_eq_getElem (by omega)⟩
   have hub := HW.out.2 p u hu
   have m0 : W.cell? ⟨wr.heap.size, 0, none⟩ = some (.int .i64 (p : Int)) := hd.cell rfl
   have m2 : W.cell? ⟨wr.heap.size, 2, none⟩ = some (.int .i64 v) := hd.cell rfl
   have a0 : W.cell? ⟨w.heap.size + 1, p, none⟩ = some (.int .i64 u) := hB.cell (five_get hu)
   have fa := hB.free p
   have hp5 : p < 5 := by omega
   have hq5 : q < 5 := by omega
   have hs1 : w.heap.size + 1 < wr.heap.size := HB.out.lt
   have HWW := Hd hW
   have HD := Hd hd
   have HBB := Hd hB
   have HU := Hd hu
   clear hW hd hB hu
   have w1 : IntKind.i64.wrap (u - v) = u - v := IntWalk.i64_in _ (by omega)
   go_wp2_with fail
   rw [HWW.out]
   obtain ⟨b1, hb1⟩ : ∃ b1, (bal (ds.take k)).set p (u - v) = b1 := ⟨_, rfl⟩
   have hb1l : b1.length = 5 := by rw [← hb1, List.length_set, hbL]
   obtain ⟨u2, hu2⟩ : ∃ u2, b1[q]? = some u2 := ⟨_, List.getElem?_eq_getElem (by omega)⟩
   have hu2b : -(36000 * (k : Int)) ≤ u2 ∧ u2 ≤ 36000 * (k : Int) := by
    rw [← hb1, List.getElem?_set_ne (by omega)] at hu2
    exact HW.out.2 q u2 hu2
   obtain ⟨W2, hW2⟩ : ∃ W2, (W.setCell ⟨w.heap.size + 1, p, none⟩ (.int .i64 (u - v))).drew = W2 := ⟨_, rfl⟩
   have hB2 : Blk W2 (w.heap.size + 1) (five b1) 117 := by
    rw [← hW2, ← hb1, ← five_set]
    exact (HBB.out.set p _).drew
   have hD2 : Blk W2 wr.heap.size #[.int .i64 (p : Int), .int .i64 (q : Int), .int .i64 v] 123 := by
    rw [← hW2]
    exact (HD.out.other (p := ⟨w.heap.size + 1, p, none⟩) (by show ¬ wr.heap.size = w.heap.size + 1; omega) _).drew
   have a2 : W2.cell? ⟨w.heap.size + 1, q, none⟩ = some (.int .i64 u2) := hB2.cell (five_get hu2)
   have fa2 := hB2.free q
   have n1 : W2.cell? ⟨wr.heap.size, 1, none⟩ = some (.int .i64 (q : Int)) := hD2.cell rfl
   have n2 : W2.cell? ⟨wr.heap.size, 2, none⟩ = some (.int .i64 v) := hD2.cell rfl
   have w2 : IntKind.i64.wrap (u2 + v) = u2 + v := IntWalk.i64_in _ (by omega)
   have hZ3 : Blk (W2.setCell ⟨w.heap.size + 1, q, none⟩ (.int .i64 (u2 + v))).drew w.heap.size (five [0, 0, 0, 0, 0]) 117 := by
    have hZ1 : Blk W w.heap.size (five [0, 0, 0, 0, 0]) 117 := by rw [← HWW.out]; exact HZ.out.alloc _
    have hZ2 : Blk W2 w.heap.size (five [0, 0, 0, 0, 0]) 117 := by rw [← hW2]; exact (hZ1.other (p := ⟨w.heap.size + 1, p, none⟩) (by show ¬ w.heap.size = w.heap.size + 1; omega) _).drew
    exact (hZ2.other (p := ⟨w.heap.size + 1, q, none⟩) (by show ¬ w.heap.size = w.heap.size + 1; omega) _).drew
   have hbn : bal (ds.take (k + 1)) = b1.set q (u2 + v) := by
    rw [bal_next HT.out]
    have e1 : (bal (ds.take k)).getD p 0 = u := by rw [List.getD_eq_getElem?_getD, HU.out]; rfl
    have e2 : b1.getD q 0 = u2 := by rw [List.getD_eq_getElem?_getD, hu2]; rfl
    simp only [upd, Int.toNat_natCast]
    rw [e1, hb1, e2]
   have hB3 : Blk (W2.setCell ⟨w.heap.size + 1, q, none⟩ (.int .i64 (u2 + v))).drew (w.heap.size + 1) (five (bal (ds.take (k + 1)))) 117 := by
    rw [hbn, ← five_set]
    exact (hB2.set q _).drew
   have hW3 : Within (36000 * ((k + 1 : Nat) : Int)) (bal (ds.take (k + 1))) := by
    rw [bal_next HT.out]
    have := Within.upd HW.out (d := ⟨(p : Int), (q : Int), v⟩) v0 v1 ⟨t0, t1, t2, t3, t4⟩
    rwa [show 36000 * (k : Int) + 36000 = 36000 * ((k + 1 : Nat) : Int) from by omega] at this
   have hBL3 : Below w.heap.size w (W2.setCell ⟨w.heap.size + 1, q, none⟩ (.int .i64 (u2 + v))).drew := by
    have h1 : Below w.heap.size w W := by rw [← HWW.out]; exact HBL.out.alloc HBL.out.size _
    have h2 : Below w.heap.size w W2 := by rw [← hW2]; exact (h1.setCell (p := ⟨w.heap.size + 1, p, none⟩) (Nat.le_succ _) _).drew
    exact (h2.setCell (p := ⟨w.heap.size + 1, q, none⟩) (Nat.le_succ _) _).drew
   have HREL := Hd (And.intro hZ3 (And.intro hB3 (And.intro hW3 hBL3)))
   clear hZ3 hbn hB3 hW3 hBL3
   have HW2 := Hd hW2
   have HB2 := Hd hB2
   have HB1 := Hd hb1
   have HU2 := Hd hu2
   clear hW2 hB2 hD2 hb1 hu2
   go_region_with (fail)
   all_goals rw [HW2.out]
   all_goals clear m0 m2 a0 fa w1
   all_goals go_wp2_with fail
   all_goals go_region_with (fail)
   all_goals go_wp2_with fail
   all_goals exact ⟨⟨k + 1, by omega, by go_num, HREL.out.1, HREL.out.2.1, HREL.out.2.2.1, HREL.out.2.2.2⟩, by simp [intOf]; omega⟩
  ·obtain rfl : k = n := by omega
   have hT : ds.take k = ds := List.take_of_length_le (by have := HL.out; omega)
   have hB := HB.out
   rw [hT] at hB
   obtain ⟨b0, b1, b2, b3, b4, hbe⟩ := Ta.five (bal_length ds)
   have HBE := Hd hbe
   have hz := HZ.out
   rw [hbe] at hB
   have c0 : wr.cell? ⟨w.heap.size + 1, 0, none⟩ = some (.int .i64 b0) := hB.cell (j := 0) rfl
   have c1 : wr.cell? ⟨w.heap.size + 1, 1, none⟩ = some (.int .i64 b1) := hB.cell (j := 1) rfl
   have c2 : wr.cell? ⟨w.heap.size + 1, 2, none⟩ = some (.int .i64 b2) := hB.cell (j := 2) rfl
   have c3 : wr.cell? ⟨w.heap.size + 1, 3, none⟩ = some (.int .i64 b3) := hB.cell (j := 3) rfl
   have c4 : wr.cell? ⟨w.heap.size + 1, 4, none⟩ = some (.int .i64 b4) := hB.cell (j := 4) rfl
   have z0 : wr.cell? ⟨w.heap.size, 0, none⟩ = some (.int .i64 0) := hz.cell (j := 0) rfl
   have z1 : wr.cell? ⟨w.heap.size, 1, none⟩ = some (.int .i64 0) := hz.cell (j := 1) rfl
   have z2 : wr.cell? ⟨w.heap.size, 2, none⟩ = some (.int .i64 0) := hz.cell (j := 2) rfl
   have z3 : wr.cell? ⟨w.heap.size, 3, none⟩ = some (.int .i64 0) := hz.cell (j := 3) rfl
   have z4 : wr.cell? ⟨w.heap.size, 4, none⟩ = some (.int .i64 0) := hz.cell (j := 4) rfl
   have f0 := hz.free 0
   have f1 := hz.free 1
   have f2 := hz.free 2
   have f3 := hz.free 3
   have f4 := hz.free 4
   clear hB hz hbe hT
   go_wp2_with fail
   have hf := Blk.set5 (a0 := .int .i64 0) (a1 := .int .i64 0) (a2 := .int .i64 0) (a3 := .int .i64 0) (a4 := .int .i64 0) HZ.out (.int .i64 b0) (.int .i64 b1) (.int .i64 b2) (.int .i64 b3) (.int .i64 b4)
   have g0 := hf.cell (j := 0) rfl
   have g1 := hf.cell (j := 1) rfl
   have g2 := hf.cell (j := 2) rfl
   have g3 := hf.cell (j := 3) rfl
   have g4 := hf.cell (j := 4) rfl
   exact bodyPost_ret (v := .agg #[.int .i64 b0, .int .i64 b1, .int .i64 b2, .int .i64 b3, .int .i64 b4]) (by simp [results, Tryz.results81, go_sem, g0, g1, g2, g3, g4]) rfl ⟨by rw [HBE.out]; rfl, below_set5 HBL.out (Nat.le_refl _) _ _ _ _ _⟩
theorem worthB_bd (s : ByteArray) : -1 ≤ worthB s ∧ worthB s ≤ 36000 := by
 unfold worthB
 cases h : Ta.worth s.data.toList with
 | none => simp
 | some v => have := Ta.worth_bd h; simp; omega
theorem fair_of {ts : List Tl} (h : okL ts = true) : Fair (ts.map debtOf) := by
 simp only [okL, Bool.and_eq_true, decide_eq_true_eq, List.all_eq_true] at h
 refine ⟨by rw [List.length_map]; exact h.1, fun d hd => ?_⟩
 obtain ⟨t, ht, rfl⟩ := List.mem_map.1 hd
 have := h.2 t ht
 simp only [okB, matchB, twoB, Bool.and_eq_true, decide_eq_true_eq] at this
 have hb := worthB_bd t.s
 exact ⟨this.1.1, by show 0 ≤ worthB t.s; omega, hb.2⟩
def total (ds : List Db) : Int := ds.foldl (fun a d => a + d.v) 0
theorem run_index_five (b : List Int) (k : Nat) (u : Int) (hl : b.length = 5) (h : b[k]? = some u) (w : World) :
  (Instr.index 117 (.agg (five b)) (.int .i64 (k : Int))).run Tryz.prog w = .ok (.int .i64 u) w := by
 have hk : k < 5 := by have := (List.getElem?_eq_some_iff.1 h).1; omega
 obtain ⟨i0, hi, hz0, hz1, hz2⟩ := info_parts own_int_info
 have hk' : 0 ≤ (k : Int) ∧ (k : Int) < ((5 : Nat) : Int) := by omega
 have hg := five_get h
 simp [Instr.index, run_underlying Tryz.underlying117, asIntOf, go_sem, part, sizeOf, typeInfo, hi, hz1, hg]
 omega
end Go.Proofs.YthdoofmfigemoaaGreatDoor
section
namespace Go.Proofs.YthdoofmfigemoaaGreatDoor
open Go.RowKit
set_option linter.unusedSimpArgs false
theorem sum_upd {b : List Int} {d : Db} (hl : b.length = 5) (ht : Two d.a d.c) : Ta.sum (upd b d) = Ta.sum b := by
 obtain ⟨t0, t1, t2, t3, t4⟩ := ht
 unfold Ta.sum upd
 rw [Ta.tot_set _ _ _ _ (by rw [List.length_set, hl]; omega), Ta.tot_set _ _ _ _ (by omega)]
 simp only [id]
 omega
theorem bal_ok {ds : List Db} (h : Fair ds) : Ta.Bal (bal ds) ∧ Ta.Bd 432000 (bal ds) := by
 suffices H : ∀ (ds : List Db) (b : List Int) (m : Int), Within m b → Ta.sum b = 0 → (∀ d ∈ ds, Two d.a d.c ∧ 0 ≤ d.v ∧ d.v ≤ 36000) → Within (m + 36000 * (ds.length : Int)) (ds.foldl upd b) ∧ Ta.sum (ds.foldl upd b) = 0 by
  have h0 : Within 0 [0, 0, 0, 0, 0] := ⟨rfl, fun i u hu => by have := List.mem_of_getElem? hu; simp at this; omega⟩
  obtain ⟨⟨a1, a2⟩, a3⟩ := H ds _ 0 h0 rfl h.2
  refine ⟨⟨a1, a3⟩, fun i => ?_⟩
  have h12 := h.1
  by_cases hi : i < 5
  ·have e : (bal ds)[i]? = some ((bal ds).getD i 0) := by rw [List.getD_eq_getElem?_getD, List.getElem?_eq_getElem (by rw [bal_length]; exact hi)]; rfl
   have := a2 i _ e
   omega
  ·rw [List.getD_eq_getElem?_getD, List.getElem?_eq_none (by rw [bal_length]; omega)]
   simp
 intro ds
 induction ds with
 | nil => intro b m h1 h2 _; exact ⟨by simpa using h1, h2⟩
 | cons d ds ih =>
  intro b m h1 h2 h3
  obtain ⟨q1, q2, q3⟩ := h3 d List.mem_cons_self
  have := ih (upd b d) (m + 36000) (h1.upd q2 q3 q1) ((sum_upd h1.1 q1).trans h2) (fun x hx => h3 x (List.mem_cons_of_mem _ hx))
  rw [List.foldl_cons]
  rwa [show m + 36000 + 36000 * (ds.length : Int) = m + 36000 * ((d :: ds).length : Int) from by simp; omega] at this
theorem wpList_app_t_at {ops : Array Oper} {rest : List Oper} {o : Oper} {a : Act} {w : World} {Q : Exit → Act → World → Prop} (hgd : o.guard = none) (s x : Operand)
  (ho : o.op = .call { callee := .builtin .append, args := #[s, x], argTypes := #[46, 46] })
  {B : Nat} {A : Option Addr} {n c : Nat} {ts : List Tl} (hs : a.eval s = .slice A n c) (hown : OwnT w B A n c ts) (t : Tl) (c0 nb : Nat)
  (hx : a.eval x = .slice (some ⟨nb, 0, none⟩) 1 c0) (hnb : nb = w.heap.size) (cs : Array Value) (hcs : cs = t.cells.toArray) (hn : n + 1 ≤ 1000000) (hB : B ≤ w.heap.size)
  (h : ∀ A' c' w', OwnT w' B A' (n + 1) c' (ts ++ [t]) → w.grownBy w' (Value.slice A n c).ownBlock → (∀ k, (Value.slice A' (n + 1) c').ownBlock = some k → (Value.slice A n c).ownBlock = some k ∨ w.heap.size ≤ k) →
   wpList Tryz.prog ops Q rest (a.put o.dst (.slice A' (n + 1) c')) w') :
  wpList Tryz.prog ops Q (o :: rest) a (w.alloc (.cells cs 52)) := by
 obtain ⟨i0, hi, hz0, hz1, hz2⟩ := info_parts tally_info
 subst hcs
 subst hnb
 refine wpList_append_own_at _ hgd s x 46 ho B 52 i0 _ 4 48 Tryz.underlying46 hi hz0 hz1 hz2 rfl (by decide) _ n (TV ts) hs (hown.1.alloc _)
  ⟨w.heap.size, 0, none⟩ 1 c0 t.cells hx (by simp [Tl.cells]) ?_ (by rw [← TV_one]; exact TV_oneCell _) (by unfold maxLen; omega) (by omega) (by simp; omega) ?_
 ·intro j u hj
  rw [add_row, cell_of_row _ w.heap.size j _ _ _ (heap_alloc_new w _)]
  simpa using hj
 ·intro v' w' hown' hg _ hat
  rw [← TV_one, ← TV_append] at hown'
  obtain ⟨A', c', rfl, h'⟩ := shape_own hown' (by omega)
  refine h A' c' w' h' ⟨hg.os, hg.tape, hg.output, by have := hg.size; simp at this; omega, fun k hk hne => (hg.block k (by simp; omega) hne).trans (Below.heap_alloc w _ k hk)⟩ (fun k hk => ?_)
  rcases hat with hat | hat
  ·exact .inl (hat ▸ hk)
  ·rw [hat] at hk
   injection hk with hk
   exact .inr (by rw [← hk]; simp)
structure Lay (w : World) (B g h : Nat) (A : Option Addr) (n c : Nat) (xs : List (Nat × Int)) (A2 : Option Addr) (n2 c2 : Nat) (ys : List (Nat × Int)) : Prop where
 one : Hp w B g A n c xs
 two : Hp w B h A2 n2 c2 ys
 bg : B ≤ g
 bh : B ≤ h
 gh : g ≠ h
 oh : ∀ k, (Value.slice A n c).ownBlock = some k → k ≠ h
 tg : ∀ k, (Value.slice A2 n2 c2).ownBlock = some k → k ≠ g
 ot : ∀ k, (Value.slice A n c).ownBlock = some k → (Value.slice A2 n2 c2).ownBlock ≠ some k
def Sep (g h : Nat) (A : Option Addr) (n c : Nat) (A2 : Option Addr) (n2 c2 : Nat) (T : Value) : Prop :=
 ∀ k, T.ownBlock = some k → k ≠ g ∧ k ≠ h ∧ (Value.slice A n c).ownBlock ≠ some k ∧ (Value.slice A2 n2 c2).ownBlock ≠ some k
section
variable {w w' : World} {B g h n c n2 c2 : Nat} {A A2 : Option Addr} {xs ys : List (Nat × Int)} {T : Value}
theorem Lay.symm (L : Lay w B g h A n c xs A2 n2 c2 ys) : Lay w B h g A2 n2 c2 ys A n c xs :=
 ⟨L.two, L.one, L.bh, L.bg, L.gh.symm, L.tg, L.oh, fun k h1 h2 => L.ot k h2 h1⟩
theorem Sep.symm (S : Sep g h A n c A2 n2 c2 T) : Sep h g A2 n2 c2 A n c T := fun k hk => by
 obtain ⟨h1, h2, h3, h4⟩ := S k hk
 exact ⟨h2, h1, h4, h3⟩
theorem Lay.next (L : Lay w B g h A n c xs A2 n2 c2 ys) (hb : Below w.heap.size w w') : Lay w' B g h A n c xs A2 n2 c2 ys :=
 ⟨L.one.next hb, L.two.next hb, L.bg, L.bh, L.gh, L.oh, L.tg, L.ot⟩
theorem Lay.change {A' : Option Addr} {n' c' : Nat} {xs' : List (Nat × Int)} (L : Lay w B g h A n c xs A2 n2 c2 ys) (h1 : Hp w' B g A' n' c' xs') (h2 : Kept w w' (Mine g A n c))
  (h3 : ∀ k, (Value.slice A' n' c').ownBlock = some k → (Value.slice A n c).ownBlock = some k ∨ w.heap.size ≤ k) :
  Lay w' B g h A' n' c' xs' A2 n2 c2 ys ∧ Below B w w' ∧ ∀ T, Sep g h A n c A2 n2 c2 T → (∀ k, T.ownBlock = some k → k < w.heap.size) → Sep g h A' n' c' A2 n2 c2 T := by
 have hh := L.two.blk.lt
 have no : ∀ k, (Value.slice A2 n2 c2).ownBlock = some k → k < w.heap.size := fun k hk => (L.two.own.blk k hk).2
 refine ⟨⟨h1, L.two.kept h2 ?_ ?_, L.bg, L.bh, L.gh, ?_, L.tg, ?_⟩, h2.below ?_ ?_, fun T S hT k hk => ?_⟩
 ·rintro (e | e)
  ·exact L.gh e.symm
  ·exact L.oh _ e rfl
 ·rintro k hk (e | e)
  ·exact L.tg k hk e
  ·exact L.ot k e hk
 ·intro k hk
  rcases h3 k hk with e | e
  ·exact L.oh k e
  ·omega
 ·intro k hk hk2
  rcases h3 k hk with e | e
  ·exact L.ot k e hk2
  ·have := no k hk2; omega
 ·have := L.bg; have := L.one.blk.lt; omega
 ·rintro k (e | e)
  ·have := L.bg; omega
  ·exact (L.one.own.blk k e).1
 ·obtain ⟨s1, s2, s3, s4⟩ := S k hk
  refine ⟨s1, s2, fun e => ?_, s4⟩
  rcases h3 k e with e | e
  ·exact s3 e
  ·have := hT k hk; omega
theorem Lay.put1 {x : Nat × Int} (L : Lay w B g h A n c xs A2 n2 c2 ys) (hP : PutPost w B g A n c xs x w') :
  ∃ A' c', Lay w' B g h A' (Ta.putL xs x).length c' (Ta.putL xs x) A2 n2 c2 ys ∧ Below B w w' ∧ Kept w w' (Mine g A n c) ∧ ∀ T, Sep g h A n c A2 n2 c2 T → (∀ k, T.ownBlock = some k → k < w.heap.size) → Sep g h A' (Ta.putL xs x).length c' A2 n2 c2 T := by
 obtain ⟨A', c', h1, h2, h3⟩ := hP
 obtain ⟨r1, r2, r3⟩ := L.change h1 h2 h3
 exact ⟨A', c', r1, r2, h2, r3⟩
theorem Lay.put2 {y : Nat × Int} (L : Lay w B g h A n c xs A2 n2 c2 ys) (hP : PutPost w B h A2 n2 c2 ys y w') :
  ∃ A' c', Lay w' B g h A n c xs A' (Ta.putL ys y).length c' (Ta.putL ys y) ∧ Below B w w' ∧ Kept w w' (Mine h A2 n2 c2) ∧ ∀ T, Sep g h A n c A2 n2 c2 T → (∀ k, T.ownBlock = some k → k < w.heap.size) → Sep g h A n c A' (Ta.putL ys y).length c' T := by
 obtain ⟨A', c', r1, r2, r3, r4⟩ := L.symm.put1 hP
 exact ⟨A', c', r1.symm, r2, r3, fun T S hT => (r4 T S.symm hT).symm⟩
theorem Lay.take1 {r : Nat} {zs : List (Nat × Int)} (L : Lay w B g h (some ⟨r, 0, none⟩) (n + 1) c xs A2 n2 c2 ys) (hP : PopPost w B g r n c zs w') :
  Lay w' B g h (some ⟨r, 0, none⟩) n c zs A2 n2 c2 ys ∧ Below B w w' ∧ Kept w w' (Mine g (some ⟨r, 0, none⟩) (n + 1) c) ∧ ∀ T, Sep g h (some ⟨r, 0, none⟩) (n + 1) c A2 n2 c2 T → (∀ k, T.ownBlock = some k → k < w.heap.size) → Sep g h (some ⟨r, 0, none⟩) n c A2 n2 c2 T := by
 obtain ⟨h1, h2⟩ := hP
 have h2' : Kept w w' (Mine g (some ⟨r, 0, none⟩) (n + 1) c) := h2.mono fun k _ hk => by
  rcases hk with e | e
  ·exact .inl e
  ·exact .inr (by rw [e]; rfl)
 obtain ⟨r1, r2, r3⟩ := L.change h1 h2' (fun k hk => .inl hk)
 exact ⟨r1, r2, h2', r3⟩
theorem Lay.take2 {r : Nat} {zs : List (Nat × Int)} (L : Lay w B g h A n c xs (some ⟨r, 0, none⟩) (n2 + 1) c2 ys) (hP : PopPost w B h r n2 c2 zs w') :
  Lay w' B g h A n c xs (some ⟨r, 0, none⟩) n2 c2 zs ∧ Below B w w' ∧ Kept w w' (Mine h (some ⟨r, 0, none⟩) (n2 + 1) c2) ∧ ∀ T, Sep g h A n c (some ⟨r, 0, none⟩) (n2 + 1) c2 T → (∀ k, T.ownBlock = some k → k < w.heap.size) → Sep g h A n c (some ⟨r, 0, none⟩) n2 c2 T := by
 obtain ⟨r1, r2, r3, r4⟩ := L.symm.take1 hP
 exact ⟨r1.symm, r2, r3, fun T S hT => (r4 T S.symm hT).symm⟩
theorem OwnR.apart {e : TypeId} {k n' c' : Nat} {A' : Option Addr} {vs : List Value} (ho : OwnR w B e k A' n' c' vs) (hk : Kept w w' (Mine g A n c)) (hs : ∀ q, (Value.slice A' n' c').ownBlock = some q → q ≠ g ∧ (Value.slice A n c).ownBlock ≠ some q) : OwnR w' B e k A' n' c' vs := by
 refine ⟨⟨ho.1.1, ?_⟩, ho.2⟩
 rcases ho.1.2 with h0 | ⟨r, cap, cur, hv, hb, hg, rest⟩
 ·exact .inl h0
 ·refine .inr ⟨r, cap, cur, hv, hb, ?_, rest⟩
  have hq := hs r (by rw [hv]; rfl)
  rw [hk.block r (Array.getElem?_eq_some_iff.1 hg).1 (by rintro (e | e); exact hq.1 e; exact hq.2 e)]
  exact hg
theorem Lay.grown {T' : Value} (L : Lay w B g h A n c xs A2 n2 c2 ys) (S : Sep g h A n c A2 n2 c2 T) (hg : w.grownBy w' T.ownBlock) (hat : ∀ k, T'.ownBlock = some k → T.ownBlock = some k ∨ w.heap.size ≤ k) :
  Lay w' B g h A n c xs A2 n2 c2 ys ∧ Sep g h A n c A2 n2 c2 T' := by
 have hk := Kept.of_grown hg
 refine ⟨⟨L.one.kept hk (fun e => (S _ e).1 rfl) (fun k h1 h2 => (S k h2).2.2.1 h1), L.two.kept hk (fun e => (S _ e).2.1 rfl) (fun k h1 h2 => (S k h2).2.2.2 h1), L.bg, L.bh, L.gh, L.oh, L.tg, L.ot⟩, fun k hk => ?_⟩
 rcases hat k hk with e | e
 ·exact S k e
 ·refine ⟨by have := L.one.blk.lt; omega, by have := L.two.blk.lt; omega, fun h1 => by have := (L.one.own.blk k h1).2; omega, fun h1 => by have := (L.two.own.blk k h1).2; omega⟩
theorem Lay.aside {w0 : World} {z : Nat} (L : Lay w B g h A n c xs A2 n2 c2 ys) (L0 : Lay w0 B g h A n c xs A2 n2 c2 ys) (hz : w0.heap.size ≤ z) (j : Nat) (v : Value) : Lay (w.setCell ⟨z, j, none⟩ v) B g h A n c xs A2 n2 c2 ys := by
 have hg : w.grownBy (w.setCell ⟨z, j, none⟩ v) (Value.slice (some ⟨z, 0, none⟩) 0 0).ownBlock := ⟨rfl, rfl, rfl, by simp [World.setCell], fun k _ hne => heap_setCell_other w _ k _ (fun e => hne (by rw [e]; rfl))⟩
 refine (L.grown (T := .slice (some ⟨z, 0, none⟩) 0 0) (T' := .slice (some ⟨z, 0, none⟩) 0 0) (fun k hk => ?_) hg (fun k hk => .inl hk)).1
 have hk : z = k := by injection hk
 refine ⟨by have := L0.one.blk.lt; omega, by have := L0.two.blk.lt; omega, fun h1 => by have := (L0.one.own.blk k h1).2; omega, fun h1 => by have := (L0.two.own.blk k h1).2; omega⟩
theorem OwnR.aside {e : TypeId} {k n' c' z : Nat} {A' : Option Addr} {vs : List Value} (ho : OwnR w B e k A' n' c' vs) (hz : ∀ q, (Value.slice A' n' c').ownBlock = some q → q ≠ z) (j : Nat) (v : Value) : OwnR (w.setCell ⟨z, j, none⟩ v) B e k A' n' c' vs := by
 have hg : w.grownBy (w.setCell ⟨z, j, none⟩ v) (some z) := ⟨rfl, rfl, rfl, by simp [World.setCell], fun k _ hne => heap_setCell_other w _ k _ (fun e => hne (by rw [e]))⟩
 exact ho.kept hg (fun q hq e => by injection e with e; exact hz q hq e.symm)
end
theorem lit_nil_t (w : World) (B : Nat) (hB : B ≤ w.heap.size) : OwnT (w.alloc (.cells #[] 52)) B (some ⟨w.heap.size, 0, none⟩) 0 0 [] := by
 refine ⟨⟨rfl, .inr ⟨w.heap.size, 0, #[], rfl, hB, heap_alloc_new w _, ?_⟩⟩, by omega⟩
 simp [TV]
end Go.Proofs.YthdoofmfigemoaaGreatDoor
end
