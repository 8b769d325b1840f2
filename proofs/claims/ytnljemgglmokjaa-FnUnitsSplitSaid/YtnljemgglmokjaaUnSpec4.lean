/-
  The reference's UnitsJoin.
-/
import Derived.Test.YtnljemgglmokjaaUnSpec3
namespace Go.Proofs.Ytnljemgglmokjaa
open Go.RowKit

theorem join_dup {xs ys : List Int} {k : Nat} {u : Int} (hu : ys[k]? = some u) (h : u ∈ Un.insAll xs (ys.take k)) : okJ xs ys = false := by
  have e : Un.insAll xs ys = Un.insAll (Un.ins u (Un.insAll xs (ys.take k))) (ys.drop (k + 1)) := by
    rw [← insAll_next hu, Un.insAll, Un.insAll, Un.insAll, ← List.foldl_append, List.take_append_drop]
  have : Un.okU (Un.insAll xs ys) = false := by rw [e]; exact okU_asc (Un.dup_not_asc _ u _ h 1)
  rw [okJ, this, Bool.and_false]

set_option maxRecDepth 100000 in
set_option maxHeartbeats 2000000 in
theorem specUnitsJoin_any (A : Option Addr) (n c : Nat) (B : Option Addr) (m d : Nat) (xs ys : List Int) (w : World) (hx : Ints w w.heap.size A n xs) (hy : Ints w w.heap.size B m ys) :
    Calls Try.prog 8 #[.slice A n c, .slice B m d] w (PairPost w (okJ xs ys) (Un.insAll xs ys)) := by
  have hbd := hy.bound
  have HX := Lib.hid hx
  have HY := Lib.hid hy
  have HX1 := Lib.hid (hx.alloc (Nat.le_refl _) (.cells #[] 3))
  have HLN := Lib.hid (lit_nil w)
  have HBN := Lib.hid ((Below.refl w.heap.size w).alloc (Nat.le_refl _) (.cells #[] 3))
  clear hx hy
  rcases hokx : Un.okU xs with _ | _
  · have e : okJ xs ys = false := by simp [okJ, hokx]
    rw [e]
    have HOKX := Lib.hid hokx
    clear hokx e
    go_enter Try.func8, Try.ntmps8
    go_wp2_with fail
    refine (specUnitsValid_is HX.out HOKX.out).mono ?_
    rintro e w' ⟨rfl, rfl⟩
    go_wp2
    go_ret2
    exact ⟨⟨_, _, _, rfl, HLN.out⟩, HBN.out⟩
  · have HOKX := Lib.hid hokx
    rcases hoky : Un.okU ys with _ | _
    · have e : okJ xs ys = false := by simp [okJ, hoky]
      rw [e]
      have HOKY := Lib.hid hoky
      clear hokx hoky e
      go_enter Try.func8, Try.ntmps8
      go_wp2_with fail
      refine (specUnitsValid_is HX.out HOKX.out).mono ?_
      rintro e w' ⟨rfl, rfl⟩
      go_wp2_with fail
      refine (specUnitsValid_is HY.out HOKY.out).mono ?_
      rintro e w' ⟨rfl, rfl⟩
      go_wp2
      go_ret2
      exact ⟨⟨_, _, _, rfl, HLN.out⟩, HBN.out⟩
    · have ej : okJ xs ys = Un.okU (Un.insAll xs ys) := by simp [okJ, hokx, hoky]
      have hlx := Un.okU_length hokx
      have hly := Un.okU_length hoky
      rw [HX.out.len] at hlx
      rw [HY.out.len] at hly
      have hall : ∀ u ∈ ys, 2 ≤ u ∧ u ≤ 1000000000 := Un.okU_mem hoky
      have hasc0 : Un.asc 1 xs = true := by simp only [Un.okU, Bool.and_eq_true] at hokx; exact hokx.2
      have HALL := Lib.hid hall
      have HASC0 := Lib.hid hasc0
      have HEJ := Lib.hid ej
      have HOKY := Lib.hid hoky
      clear hokx hoky ej hall hasc0
      go_enter Try.func8, Try.ntmps8
      go_wp2_with fail
      refine (specUnitsValid_is HX.out HOKX.out).mono ?_
      rintro e w' ⟨rfl, rfl⟩
      go_wp2_with fail
      refine (specUnitsValid_is HY.out HOKY.out).mono ?_
      rintro e w' ⟨rfl, rfl⟩
      go_wp2_with (at_builtin; refine wpList_app_ints rfl _ _ rfl rfl HLN.out rfl HX1.out (by omega) (by simp) ?_; intro A1 c1 w1 hown1 hg1; rw [Nat.zero_add, List.nil_append] at hown1; have HO1 := Lib.hid hown1; have HB1 := Lib.hid (HBN.out.grown hg1 (by simp) (fun j hj => (HLN.out.blk j hj).1)); clear hown1 hg1)
      go_loopw [6, 7] (fun ov iv wr => ∃ (k : Nat) (A : Option Addr) (j c : Nat), k ≤ m ∧ ov = .slice A j c ∧ iv = .int .i64 (k : Int) ∧ j ≤ 8 + k ∧ Own wr w.heap.size A j c (Un.insAll xs (ys.take k)) ∧ Un.asc 1 (Un.insAll xs (ys.take k)) = true ∧ Below w.heap.size w wr) (fun _ iv _ => m - (intOf iv).toNat)
      case atStart => exact ⟨0, _, _, _, by omega, rfl, by go_num, by omega, by simpa [Un.insAll] using HO1.out, by simpa [Un.insAll] using HASC0.out, HB1.out⟩
      case round =>
        clear HO1 HB1
        obtain ⟨k, A2, j2, c2, hk, rfl, rfl, hj2, hown, hasc, hbel⟩ := hrel
        have HO := Lib.hid hown
        have HASC := Lib.hid hasc
        have HB := Lib.hid hbel
        clear hown hasc hbel
        by_cases hlt : k < m
        · obtain ⟨b, off, u, rfl, hub, hu, hcu⟩ := (HY.out.below HB.out).at_ hlt
          have hpa := put_asc u _ 1 HASC.out
          by_cases hmem : u ∈ Un.insAll xs (ys.take k)
          · rw [if_pos hmem] at hpa
            have HPA := Lib.hid hpa
            have HF := Lib.hid (join_dup hu hmem)
            clear hu hpa hmem
            go_wp2_with fail
            refine (l2Put_any _ _ _ _ _ u _ HO.out (by omega)).mono ?_
            rintro e w3 ⟨⟨A3, n3, c3, rfl, -⟩, hb3⟩
            rw [HPA.out]
            have HB3 := Lib.hid (below_chain HB.out hb3)
            have HB3L := Lib.hid (HB3.out.alloc HB3.out.size (.cells #[] 3))
            have HL3 := Lib.hid (own_lit w3 [] w.heap.size 0 rfl (by omega) HB3.out.size)
            clear hb3
            simp only [Option.isSome_none]
            go_wp2
            go_ret2
            exact ⟨⟨_, _, _, by rw [HF.out]; rfl, by rw [HF.out]; exact HL3.out⟩, HB3L.out⟩
          · rw [if_neg hmem, ← insAll_next hu] at hpa
            obtain ⟨u2, u9⟩ := HALL.out u (List.mem_of_getElem? hu)
            have HN := Lib.hid (Un.asc_ins u u9 _ 1 (by omega) HASC.out hmem)
            rw [← insAll_next hu] at HN
            have HPA := Lib.hid hpa
            have hnl := insAll_next (xs := xs) hu
            have hnl2 : (Un.insAll xs (ys.take (k + 1))).length = j2 + 1 := by rw [hnl, Un.ins_length, HO.out.len]
            have HNL := Lib.hid hnl2
            clear hu hpa hmem hnl hnl2
            go_wp2_with fail
            refine (l2Put_any _ _ _ _ _ u _ HO.out (by omega)).mono ?_
            rintro e w3 ⟨⟨A3, n3, c3, rfl, ho3⟩, hb3⟩
            rw [HPA.out] at ho3 ⊢
            simp only [Option.isSome_some, if_true, Option.getD_some] at ho3 ⊢
            obtain rfl : n3 = j2 + 1 := by have := ho3.len; have := HNL.out; omega
            have HO3 := Lib.hid (ho3.mono HB.out.size)
            have HB3 := Lib.hid (below_chain HB.out hb3)
            clear hb3 ho3
            go_wp2_with fail
            go_roundw
            case rel => exact ⟨k + 1, A3, j2 + 1, c3, by omega, rfl, by go_num, by omega, HO3.out, HN.out, HB3.out⟩
            case measure => simp [intOf]; omega
        · obtain rfl : k = m := by omega
          have hall2 : ys.take k = ys := List.take_of_length_le (by have := HY.out.len; omega)
          rw [hall2] at HO
          clear hall2
          have HBL := Lib.hid (HB.out.alloc HB.out.size (.cells #[] 3))
          have HLL := Lib.hid (own_lit wr [] w.heap.size 0 rfl (by omega) HB.out.size)
          rcases hfin : Un.okU (Un.insAll xs ys) with _ | _
          · have HFIN := Lib.hid hfin
            clear hfin
            go_wp2_with fail
            refine (specUnitsValid_is HO.out.ints HFIN.out).mono ?_
            rintro e w' ⟨rfl, rfl⟩
            go_wp2
            go_ret2
            exact ⟨⟨_, _, _, by rw [HEJ.out, HFIN.out]; rfl, by rw [HEJ.out, HFIN.out]; exact HLL.out⟩, HBL.out⟩
          · have HFIN := Lib.hid hfin
            clear hfin
            go_wp2_with fail
            refine (specUnitsValid_is HO.out.ints HFIN.out).mono ?_
            rintro e w' ⟨rfl, rfl⟩
            go_wp2
            go_ret2
            exact ⟨⟨_, _, _, by rw [HEJ.out, HFIN.out]; rfl, by rw [HEJ.out, HFIN.out]; exact HO.out⟩, HB.out⟩
/-! in the order of arguments that the exact walk hands them in -/
theorem specUnitsJoin_x (A B : Option Addr) (n c m d : Nat) (xs ys : List Int) (w : World) (hx : Ints w w.heap.size A n xs) (hy : Ints w w.heap.size B m ys) :
    Calls Try.prog 8 #[.slice A n c, .slice B m d] w (PairPost w (okJ xs ys) (Un.insAll xs ys)) := specUnitsJoin_any A n c B m d xs ys w hx hy
theorem UnitsJoin_x (A B : Option Addr) (n c m d : Nat) (xs ys : List Int) (w : World) (hx : Ints w w.heap.size A n xs) (hy : Ints w w.heap.size B m ys) :
    Calls Try.prog 10 #[.slice A n c, .slice B m d] w (PairPost w (okJ xs ys) (Un.insAll xs ys)) := UnitsJoin_any A n c B m d xs ys w hx hy
end Go.Proofs.Ytnljemgglmokjaa
