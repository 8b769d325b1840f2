/-
  The reference's units: UnitsValid, l2Put; append of a list at a step of a region that draws.
-/
import Derived.Test.YtnljemgglmokjaaUnFns
import Derived.Deep.RegionLaw
namespace Go.Proofs.Ytnljemgglmokjaa
open Go.RowKit

theorem asc_fail {a u : Int} {l : List Int} (h : ¬ (a + 1 ≤ u ∧ u ≤ 1000000000)) : Un.asc a (u :: l) = false := by
  simp only [Un.asc]
  by_cases h1 : a < u
  · have h2 : ¬ u ≤ 1000000000 := fun h2 => h ⟨by omega, h2⟩
    simp [h2]
  · simp [h1]
theorem asc_pass {a u : Int} {l : List Int} (h1 : a + 1 ≤ u) (h2 : u ≤ 1000000000) : Un.asc a (u :: l) = Un.asc u l := by
  have h3 : a < u := by omega
  simp [Un.asc, h2, h3]
theorem drop_at {xs : List Int} {k : Nat} {u : Int} (h : xs[k]? = some u) : xs.drop k = u :: xs.drop (k + 1) := by
  have hi := (List.getElem?_eq_some_iff.1 h).1
  rw [List.drop_eq_getElem_cons hi, (List.getElem?_eq_some_iff.1 h).2]

set_option maxRecDepth 100000 in
set_option maxHeartbeats 1000000 in
theorem specUnitsValid_any (A : Option Addr) (n c : Nat) (xs : List Int) (w : World) (B : Nat) (hx : Ints w B A n xs) :
    Calls Try.prog 23 #[.slice A n c] w fun e w' => e = .returned (.bool (Un.okU xs)) ∧ w = w' := by
  have hbd := hx.bound
  have HX := Lib.hid hx
  clear hx
  go_enter Try.func23, Try.ntmps23
  go_wp2_with fail
  go_loop [3, 4] (fun av iv => ∃ (k : Nat) (a : Int), k ≤ n ∧ av = .int .i64 a ∧ iv = .int .i64 (k : Int) ∧ 1 ≤ a ∧ a ≤ 1000000000 ∧ Un.asc 1 xs = Un.asc a (xs.drop k)) (fun _ iv => n - (intOf iv).toNat)
  case atStart => exact ⟨0, 1, by omega, rfl, rfl, by omega, by omega, by rw [List.drop_zero]⟩
  case round =>
    obtain ⟨k, a, hk, rfl, rfl, a1, a9, hq⟩ := hrel
    have HQ := Lib.hid hq
    clear hq
    by_cases hlt : k < n
    · obtain ⟨b, off, u, rfl, hub, hu, hcu⟩ := HX.out.at_ hlt
      have HD := Lib.hid (drop_at hu)
      clear hu
      rw [HD.out] at HQ
      by_cases hok : a + 1 ≤ u ∧ u ≤ 1000000000
      · obtain ⟨u1, u9⟩ := hok
        rw [asc_pass u1 u9] at HQ
        go_wp2_with fail
        refine (l6In_yes u1 u9 _).mono ?_
        rintro e w' ⟨rfl, rfl⟩
        go_wp2_with fail
        go_round
        case rel => exact ⟨k + 1, u, by omega, rfl, by go_num, by omega, u9, HQ.out⟩
        case measure => simp [intOf]; omega
      · rw [asc_fail hok] at HQ
        have hok' : u < a + 1 ∨ 1000000000 < u := by omega
        have HOK := Lib.hid hok'
        clear hok hok'
        go_wp2_with fail
        refine (l6In_no HOK.out _).mono ?_
        rintro e w' ⟨rfl, rfl⟩
        go_wp2
        go_ret
        exact ⟨ret_bool (by rw [Un.okU, HQ.out, Bool.and_false]), rfl⟩
    · obtain rfl : k = n := by omega
      have HQ2 : Hid (Un.asc 1 xs = true) := Lib.hid (by rw [HQ.out, List.drop_of_length_le (by have := HX.out.len; omega)]; rfl)
      have HL := Lib.hid HX.out.len
      clear HQ
      go_wp2
      go_ret
      exact ⟨ret_bool (by rw [Un.okU, HQ2.out, Bool.and_true, HL.out]; simp; try omega), rfl⟩
theorem specUnitsValid_is {A : Option Addr} {n c : Nat} {xs : List Int} {r : Bool} {w : World} {B : Nat} (hx : Ints w B A n xs) (h : Un.okU xs = r) :
    Calls Try.prog 23 #[.slice A n c] w fun e w' => e = .returned (.bool r) ∧ w = w' := by
  rw [← h]; exact specUnitsValid_any A n c xs w B hx

/-! put at its place, in the reference's words -/
def put (n : Int) : List Int → Option (List Int)
  | [] => some [n]
  | x :: xs => if x < n then (put n xs).map (x :: ·) else if x = n then none else some (n :: x :: xs)
theorem put_asc (n : Int) (l : List Int) : ∀ a, Un.asc a l = true → put n l = if n ∈ l then none else some (Un.ins n l) := by
  induction l with
  | nil => intro a _; simp [put, Un.ins]
  | cons x xs ih =>
    intro a h
    simp only [Un.asc, Bool.and_eq_true, decide_eq_true_eq] at h
    rw [put]
    split
    · next hx =>
      rw [ih x h.2]
      have hne : n ≠ x := by omega
      by_cases hm : n ∈ xs
      · simp [hm]
      · simp only [hm, List.mem_cons, hne, or_self, if_false, Option.map_some, Un.ins, if_pos (show x ≤ n by omega)]
    · next hx =>
      split
      · next he => subst he; simp
      · next hne =>
        have hm : n ∉ xs := fun hm => by have := Un.asc_mem xs x h.2 n hm; omega
        have hne' : n ≠ x := fun e => hne e.symm
        simp only [hm, List.mem_cons, hne', or_self, if_false, Un.ins, if_neg (show ¬ x ≤ n by omega)]
theorem put_step {n u : Int} {l : List Int} {k : Nat} (hu : l[k]? = some u) (h : u < n) (hq : put n l = (put n (l.drop k)).map (l.take k ++ ·)) : put n l = (put n (l.drop (k + 1))).map (l.take (k + 1) ++ ·) := by
  rw [hq, drop_at hu, put, if_pos h, take_next hu, Option.map_map]
  congr 1
  funext z
  simp
theorem put_end {n : Int} {l : List Int} {k : Nat} (hk : l.length ≤ k) (hq : put n l = (put n (l.drop k)).map (l.take k ++ ·)) : put n l = some (l.take k ++ [n] ++ l.drop k) := by
  rw [hq, List.drop_of_length_le hk]; simp [put]
theorem put_here {n u : Int} {l : List Int} {k : Nat} (hu : l[k]? = some u) (h : ¬ u < n) (hne : u ≠ n) (hq : put n l = (put n (l.drop k)).map (l.take k ++ ·)) : put n l = some (l.take k ++ [n] ++ l.drop k) := by
  rw [hq, drop_at hu, put, if_neg h, if_neg hne]; simp
theorem put_twice {n : Int} {l : List Int} {k : Nat} (hu : l[k]? = some n) (hq : put n l = (put n (l.drop k)).map (l.take k ++ ·)) : put n l = none := by
  rw [hq, drop_at hu, put, if_neg (by omega), if_pos rfl]; rfl

/-- the rest of a list from an index on -/
theorem Ints.drop {w : World} {B n c k : Nat} {A : Option Addr} {b off : Nat} {xs : List Int} (h : Ints w B A n xs) (hA : A = some ⟨b, off, none⟩) (hk : k ≤ n) (hc : n ≤ c) :
    Ints w B (if c = k then some ⟨b, off, none⟩ else some ⟨b, off + k, none⟩) (n - k) (xs.drop k) := by
  by_cases hck : c = k
  · rw [if_pos hck, show n - k = 0 from by omega, List.drop_of_length_le (by have := h.len; omega)]
    exact Ints.nil _ _ _
  · rw [if_neg hck]
    refine ⟨by rw [List.length_drop, h.len], by have := h.bound; omega, fun h0 => ?_⟩
    obtain ⟨b', off', e, hb, hcells⟩ := h.addr (by omega)
    rw [hA] at e
    injection e with e
    injection e with e1 e2
    subst e1; subst e2
    refine ⟨b, off + k, rfl, hb, fun j u hu => ?_⟩
    rw [List.getElem?_drop] at hu
    rw [Nat.add_assoc]
    exact hcells (k + j) u hu
theorem wp_app_ints {o : Oper} {a : Act} {w : World} {K : Act → World → Prop} {Q : Exit → Act → World → Prop} (s x : Operand)
    (ho : o.op = .call { callee := .builtin .append, args := #[s, x], argTypes := #[22, 22] })
    {B : Nat} {A : Option Addr} {n c : Nat} {xs : List Int} (hs : a.eval s = .slice A n c) (hown : Own w B A n c xs) {B2 m c0 : Nat} {A2 : Option Addr} {us : List Int}
    (hx : a.eval x = .slice A2 m c0) (hr : Ints w B2 A2 m us) (hn : n + m ≤ 1099511627776) (hB : B ≤ w.heap.size)
    (h : ∀ A' c' w', Own w' B A' (n + m) c' (xs ++ us) → w.grownBy w' (Value.slice A n c).ownBlock → K (a.put o.dst (.slice A' (n + m) c')) w') :
    Oper.wp Try.prog o a w K Q := by
  obtain ⟨i0, hi, hz0, hz1, hz2⟩ := info_parts own_int_info
  have hl := hr.len
  by_cases hm : 0 < m
  · obtain ⟨b, off, rfl, hb, hc⟩ := hr.addr hm
    refine wp_append_own _ s x 22 ho B 3 i0 (.int .i64 0) 1 8 Try.underlying22 hi hz0 hz1 hz2 rfl (by decide) _ n (IV xs) hs hown.1
      ⟨b, off, none⟩ m c0 (IV us) hx (by simp [IV, hl]) ?_ (IV_one us) (by unfold maxLen; omega) (by omega) hB ?_
    · intro j u hj
      have hj' : (us.map (Value.int .i64))[j]? = some u := hj
      rw [List.getElem?_map] at hj'
      obtain ⟨z, hz, rfl⟩ := Option.map_eq_some_iff.1 hj'
      have e : (⟨b, off, none⟩ : Addr).add j = ⟨b, off + j, none⟩ := by unfold Addr.add; split <;> simp_all
      rw [e]
      exact hc j z hz
    · intro v' w' hown' hg _
      obtain ⟨A', c', rfl, h'⟩ := Own.of_app us rfl hown' hn
      exact h A' c' w' h' hg
  · obtain rfl : m = 0 := by omega
    obtain rfl := List.eq_nil_of_length_eq_zero hl
    have hown0 : Own w B A (n + 0) c (xs ++ []) := by simpa using hown
    have hh := h A c w hown0 (World.grownBy.refl w _)
    rcases A2 with _ | ad
    · unfold Oper.wp execOp
      have hrun : (Builtin.append_ #[22, 22] o.type #[.slice A n c, .slice none 0 c0]).run Try.prog w = .ok (.slice A n c) w := by
        rcases hown.1.2 with ⟨h1, rfl⟩ | ⟨g, cap, cur, h1, _, _, hnc, _⟩
        · rw [h1]; simp [Builtin.append_, run_underlying Try.underlying22, sizeOf, typeInfo, hi, Builtin.lenOf, Builtin.firstCells]
        · rw [h1]; simp [Builtin.append_, run_underlying Try.underlying22, sizeOf, typeInfo, hi, Builtin.lenOf, Builtin.firstCells, hnc, storeCells]
      simp only [ho, resolve, invoke, builtin, Sem.run_bind, Sem.run_pure, Result.andThen_ok, List.map_toArray, List.map_cons, List.map_nil, hs, hx, hrun]
      exact hh
    · refine wp_append_own _ s x 22 ho B 3 i0 (.int .i64 0) 1 8 Try.underlying22 hi hz0 hz1 hz2 rfl (by decide) _ n (IV xs) hs hown.1
        ad 0 c0 [] hx rfl (by intro j u hj; simp at hj) (by simp) (by unfold maxLen; omega) (by omega) hB ?_
      intro v' w' hown' hg _
      obtain ⟨A', c', rfl, h'⟩ := Own.of_app [] rfl hown' hn
      exact h A' c' w' h' hg
theorem step_app_ints {ops : Array Oper} {o : Oper} {a : Act} {w : World} {K : Act → World → Prop} {Q : Exit → Act → World → Prop} {E : Prop} (hgd : o.guard = none) (s x : Operand)
    (ho : o.op = .call { callee := .builtin .append, args := #[s, x], argTypes := #[22, 22] })
    {B : Nat} {A : Option Addr} {n c : Nat} {xs : List Int} (hs : a.eval s = .slice A n c) (hown : Own w B A n c xs) {B2 m c0 : Nat} {A2 : Option Addr} {us : List Int}
    (hx : a.eval x = .slice A2 m c0) (hr : Ints w B2 A2 m us) (hn : n + m ≤ 1099511627776) (hB : B ≤ w.heap.size)
    (h : ∀ A' c' w', Own w' B A' (n + m) c' (xs ++ us) → w.grownBy w' (Value.slice A n c).ownBlock → K (a.put o.dst (.slice A' (n + m) c')) w') :
    if Region.wanted o (yielded ops a.tmps) = true then Oper.wp Try.prog o a w K Q else E := by
  rw [if_pos (by simp [Region.wanted, hgd])]
  exact wp_app_ints s x ho hs hown hx hr hn hB h
end Go.Proofs.Ytnljemgglmokjaa
