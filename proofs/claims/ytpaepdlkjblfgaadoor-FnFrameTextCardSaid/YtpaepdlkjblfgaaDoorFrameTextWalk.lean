/-
  FnFrameText returns true for every code: different frames have different texts.
-/
import Derived.Test.YtpaepdlkjblfgaaDoorFrText
import Derived.Test.YtpaepdlkjblfgaaDoorFrDraw7
namespace Go.Proofs.YtpaepdlkjblfgaaDoor.fnFrameText
open Go.RowKit

set_option linter.unusedSimpArgs false

set_option maxRecDepth 100000 in
set_option maxHeartbeats 4000000 in
theorem walk (a0 : Option Addr) (len0 cap0 : Nat) (z0 : List Int) (a1 : Option Addr) (len1 cap1 : Nat) (z1 : List Int) (w : World) (w0 : IsRow .u8 w a0 len0 cap0 z0) (_w1 : IsRow .u8 w a1 len1 cap1 z1) :
    Calls Tryd.prog 3 #[.slice a0 len0 cap0, .slice a1 len1 cap1] w fun e w' => e = .returned (.bool true) ∧ Below w.heap.size w w' := by
  by_cases hbig : 1048576 < len0 ∨ 1048576 < len1
  · clear w0 _w1
    by_cases hb0 : 1048576 < len0
    · go_enter Tryd.func3, Tryd.ntmps3
      go_wp2
      go_ret
      exact ⟨rfl, Below.refl _ _⟩
    · have hb1 : 1048576 < len1 := by omega
      go_enter Tryd.func3, Tryd.ntmps3
      go_wp2
      go_ret
      exact ⟨rfl, Below.refl _ _⟩
  · have HC := Lib.hid (Bytes.of_row w0)
    have hs0 : len0 ≤ 1048576 := by omega
    have hs1 : len1 ≤ 1048576 := by omega
    clear w0 _w1 hbig
    go_enter Tryd.func3, Tryd.ntmps3
    go_wp2_with fail
    refine (DrawFrameText_any _ _ _ _ HC.out (by omega)).mono ?_
    rintro e w1 ⟨v1, rfl, Af, n, cf, Bf, m, df, hs, ls, rfl, hxf, hyf, hn6, hn1, hm6, hb1⟩
    have HVf : Hid (FrV w1 (.agg #[.slice Af n cf, .slice Bf m df]) hs ls) := Lib.hid ⟨Af, n, cf, Bf, m, df, rfl, hxf, hyf⟩
    clear hxf hyf
    have s1 := hb1.size
    have HB1 := Lib.hid hb1
    clear hb1
    obtain ⟨hn1a, hcf, hdf⟩ := hn1
    by_cases hok : FrOk hs ls
    · obtain ⟨ds, hd, rfl, rfl, hl1, hl6⟩ := hok
      have hdl := digText_length ds
      have hszt := txt_size (digText ds)
      obtain ⟨t, ht⟩ : ∃ t, txt (digText ds) = t := ⟨_, rfl⟩
      rw [ht, hdl] at hszt
      obtain ⟨rfl, hlen, hg⟩ := HVf.out.good hd hl1 hl6
      have HLEN := Lib.hid hlen
      have HD := Lib.hid hd
      have Ff := Lib.hid hg
      clear HVf hlen hg hd hl1 hl6
      rw [HLEN.out] at hszt
      have hte : ¬ t = ⟨#[]⟩ := by rintro rfl; have : (0 : Nat) = n := hszt; omega
      have hte2 : ¬ t.data = #[] := fun e => hte (by cases t; simp_all)
      have hte3 : ¬ t.data.toList = [] := fun e => hte2 (by simpa using e)
      have hte4 : t.toList.isEmpty = false := by rw [ByteArray.toList_eq]; cases hl : t.data.toList with | nil => exact absurd hl hte3 | cons _ _ => rfl
      have K_ht := Lib.hid ht
      clear ht hdl
      obtain ⟨I, hI⟩ : ∃ I, ((len1 : Int)).tmod (n : Int) = I := ⟨_, rfl⟩
      have hI0 : 0 ≤ I := by rw [← hI]; exact Int.tmod_nonneg _ (by omega)
      have hI1 : I < n := by rw [← hI]; exact Int.tmod_lt_of_pos _ (by omega)
      have hnz : ¬ (n : Int) = 0 := by omega
      have hnz2 : ((n : Int) == 0) = false := by simp; omega
      have hnz3 : ¬ n = 0 := by omega
      obtain ⟨w2, hV2⟩ : ∃ V, w1.alloc (.cells #[.slice Af n cf, .slice Bf n df] 25) = V := ⟨_, rfl⟩
      have hb2 : Below w1.heap.size w1 w2 := by rw [← hV2]; exact (Below.refl _ _).alloc (Nat.le_refl _) _
      have HXf' : Hid (Box w2 w1.heap.size (.slice Af n cf) (.slice Bf n df)) := Lib.hid (by rw [← hV2]; exact Box.new w1 _ _)
      have zf : w1.heap.size < w2.heap.size := HXf'.out.lt
      have HV2 := Lib.hid hV2
      have s2 := hb2.size
      have HB2 := Lib.hid (below_chain HB1.out hb2)
      replace Ff := Lib.hid (Ff.out.next hb2)
      clear hb2 hV2
      have HXf := HXf'
      clear HXf'
      go_wp2_with fail
      rw [HV2.out]
      have lf_2 := HXf.out.lt
      have xf0_2 := HXf.out.fst
      have xf1_2 := HXf.out.snd
      refine (text_g Ff.out K_ht.out).mono ?_
      rintro e w3 ⟨rfl, hb3⟩
      have s3 := hb3.size
      have HB3 := Lib.hid (below_chain HB2.out hb3)
      replace Ff := Lib.hid (Ff.out.next hb3)
      replace HXf := Lib.hid (HXf.out.next hb3)
      clear hb3
      clear lf_2 xf0_2 xf1_2
      have lf_3 := HXf.out.lt
      have xf0_3 := HXf.out.fst
      have xf1_3 := HXf.out.snd
      go_wp2_with fail
      refine (spectext_g Ff.out K_ht.out).mono ?_
      rintro e w4 ⟨rfl, hb4⟩
      have s4 := hb4.size
      have HB4 := Lib.hid (below_chain HB3.out hb4)
      replace Ff := Lib.hid (Ff.out.next hb4)
      replace HXf := Lib.hid (HXf.out.next hb4)
      clear hb4
      clear lf_3 xf0_3 xf1_3
      have lf_4 := HXf.out.lt
      have xf0_4 := HXf.out.fst
      have xf1_4 := HXf.out.snd
      go_wp2_with fail
      rcases hR : frAt 1 ds I 1 with _ | ⟨r, p⟩
      · have K_hR := Lib.hid hR
        clear hR
        refine wp_region_held_drew (S := (fun w' => w'.cell? ⟨w1.heap.size, 0, none⟩ = some (.slice Af n cf) ∧ w'.cell? ⟨w1.heap.size, 1, none⟩ = some (.slice Bf n df))) (by kernel_rfl) ?_ (fun hHeld => ?_)
        · (try dsimp only)
          all_goals (first | (constructor <;> go_simp) | go_keep)
        refine wpAnyH_take (i := 0) (oi := { dst := some 36, op := _, type := _, pos := _, after := _, guard := _ }) (v := ?v1001) rfl (by kernel_rfl) (by kernel_rfl) (by kernel_rfl) (fun _ _ _ h => h) (Or.inl ⟨by rfl, ?hy1001⟩) (by first | assumption | exact hHeld) ?rest1001
        case hy1001 => ((intro w0 hSw; (try dsimp only at hSw); go_simp) <;> with_reducible rfl)
        (try simp only [Act.put, List.setIfInBounds_toArray, List.set_cons_zero, List.set_cons_succ])
        refine wpAnyH_take (i := 1) (oi := { dst := some 37, op := _, type := _, pos := _, after := _, guard := _ }) (v := ?v1002) rfl (by kernel_rfl) (by kernel_rfl) (by kernel_rfl) (fun _ _ _ h => h) (Or.inl ⟨by rfl, ?hy1002⟩) (by first | assumption | exact hHeld) ?rest1002
        case hy1002 => ((intro w0 hSw; (try dsimp only at hSw); go_simp) <;> with_reducible rfl)
        (try simp only [Act.put, List.setIfInBounds_toArray, List.set_cons_zero, List.set_cons_succ])
        refine wpAnyH_take (i := 2) (oi := { dst := some 38, op := _, type := _, pos := _, after := _, guard := _ }) (v := ?v1003) rfl (by kernel_rfl) (by kernel_rfl) (by kernel_rfl) (fun _ _ _ h => h) (Or.inl ⟨by rfl, ?hy1003⟩) (by first | assumption | exact hHeld) ?rest1003
        case hy1003 => ((intro w0 hSw; (try dsimp only at hSw); go_simp) <;> with_reducible rfl)
        (try simp only [Act.put, List.setIfInBounds_toArray, List.set_cons_zero, List.set_cons_succ])
        refine wpAnyH_take (i := 3) (oi := { dst := some 39, op := _, type := _, pos := _, after := _, guard := _ }) (v := ?v1004) rfl (by kernel_rfl) (by kernel_rfl) (by kernel_rfl) (fun _ _ _ h => h) (Or.inl ⟨by rfl, ?hy1004⟩) (by first | assumption | exact hHeld) ?rest1004
        case hy1004 => ((intro w0 hSw; (try dsimp only at hSw); go_simp) <;> with_reducible rfl)
        (try simp only [Act.put, List.setIfInBounds_toArray, List.set_cons_zero, List.set_cons_succ])
        refine wpAnyH_take (i := 4) (oi := { dst := some 40, op := _, type := _, pos := _, after := _, guard := _ }) (v := ?v1005) rfl (by kernel_rfl) (by kernel_rfl) (by kernel_rfl) (fun _ _ _ h => h) (Or.inl ⟨by rfl, ?hy1005⟩) (by first | assumption | exact hHeld) ?rest1005
        case hy1005 => ((intro w0 hSw; (try dsimp only at hSw); go_simp) <;> with_reducible rfl)
        (try simp only [Act.put, List.setIfInBounds_toArray, List.set_cons_zero, List.set_cons_succ])
        refine wpAnyH_take (i := 5) (oi := { dst := some 41, op := _, type := _, pos := _, after := _, guard := _ }) (v := ?v1006) rfl (by kernel_rfl) (by kernel_rfl) (by kernel_rfl) (fun _ _ _ h => h) (Or.inl ⟨by rfl, ?hy1006⟩) (by first | assumption | exact hHeld) ?rest1006
        case hy1006 => ((intro w0 hSw; (try dsimp only at hSw); go_simp) <;> with_reducible rfl)
        (try simp only [Act.put, List.setIfInBounds_toArray, List.set_cons_zero, List.set_cons_succ])
        refine wpAnyH_take (i := 6) (oi := { dst := some 42, op := _, type := _, pos := _, after := _, guard := _ }) (v := ?v1007) rfl (by kernel_rfl) (by kernel_rfl) (by kernel_rfl) (fun _ _ _ h => h) (Or.inl ⟨by rfl, ?hy1007⟩) (by first | assumption | exact hHeld) ?rest1007
        case hy1007 => ((intro w0 hSw; (try dsimp only at hSw); go_simp) <;> with_reducible rfl)
        (try simp only [Act.put, List.setIfInBounds_toArray, List.set_cons_zero, List.set_cons_succ])
        refine wpAnyH_ready (rs := [7, 12]) (by kernel_rfl) (by simp) ?_
        refine AllReadyH.cons (o := { dst := some 43, op := _, type := _, pos := _, after := _, guard := _ }) rfl (fun K hK => ?_) ?_
        · go_simp
          have hE : Below w4.heap.size w4 (w4) := Below.refl _ _
          have hF := (Ff.out.next hE.drew)
          refine ((FrameAdd_any _ _ n n cf df _ _ I 1 _ _ hF.1.rows.1 hF.1.rows.2 (hF.ok (fun ds => frAt 1 ds I 1))).mono fun _ _ q => FrRes.not_ (K_hR.out ▸ q)).mono ?_
          rintro e wy ⟨Ay, cy, By, dy, rfl, hvy, hby'⟩
          have hby : Below w4.heap.size w4 wy := hE.drew.trans (hby'.mono hE.size)
          have hxf := HXf.out.next hby
          have xy0 := hxf.fst
          have xy1 := hxf.snd
          have xyl := hxf.lt
          have HXy := Lib.hid hxf
          have HVy := Lib.hid hvy
          have HBy := Lib.hid hby
          clear hE hby hby' hvy hxf
          (try go_wp2_with fail)
          refine hK.out _ _ ?_ (fun hHeld1008 => ?_)
          · (try dsimp only)
            all_goals (first | (constructor <;> go_simp) | go_keep)
          clear hK K
          (try clear hHeld)
          (try simp only [Act.put, List.setIfInBounds_toArray, List.set_cons_zero, List.set_cons_succ])
          refine wpAnyH_take (i := 8) (oi := { dst := some 35, op := _, type := _, pos := _, after := _, guard := _ }) (v := ?v1009) rfl (by kernel_rfl) (by kernel_rfl) (by kernel_rfl) (fun _ _ _ h => h) (Or.inl ⟨by rfl, ?hy1009⟩) (by first | assumption | exact hHeld1008) ?rest1009
          case hy1009 => ((intro w0 hSw; (try dsimp only at hSw); go_simp) <;> with_reducible rfl)
          (try simp only [Act.put, List.setIfInBounds_toArray, List.set_cons_zero, List.set_cons_succ])
          refine wpAnyH_take (i := 9) (oi := { dst := some 44, op := _, type := _, pos := _, after := _, guard := _ }) (v := ?v1010) rfl (by kernel_rfl) (by kernel_rfl) (by kernel_rfl) (fun _ _ _ h => h) (Or.inl ⟨by rfl, ?hy1010⟩) (by first | assumption | exact hHeld1008) ?rest1010
          case hy1010 => ((intro w0 hSw; (try dsimp only at hSw); go_simp) <;> with_reducible rfl)
          (try simp only [Act.put, List.setIfInBounds_toArray, List.set_cons_zero, List.set_cons_succ])
          refine wpAnyH_take (i := 10) (oi := { dst := some 45, op := _, type := _, pos := _, after := _, guard := _ }) (v := ?v1011) rfl (by kernel_rfl) (by kernel_rfl) (by kernel_rfl) (fun _ _ _ h => h) (Or.inl ⟨by rfl, ?hy1011⟩) (by first | assumption | exact hHeld1008) ?rest1011
          case hy1011 => ((intro w0 hSw; (try dsimp only at hSw); go_simp) <;> with_reducible rfl)
          (try simp only [Act.put, List.setIfInBounds_toArray, List.set_cons_zero, List.set_cons_succ])
          refine wpAnyH_take (i := 11) (oi := { dst := some 46, op := _, type := _, pos := _, after := _, guard := _ }) (v := ?v1012) rfl (by kernel_rfl) (by kernel_rfl) (by kernel_rfl) (fun _ _ _ h => h) (Or.inl ⟨by rfl, ?hy1012⟩) (by first | assumption | exact hHeld1008) ?rest1012
          case hy1012 => ((intro w0 hSw; (try dsimp only at hSw); go_simp) <;> with_reducible rfl)
          (try simp only [Act.put, List.setIfInBounds_toArray, List.set_cons_zero, List.set_cons_succ])
          refine wpAnyH_ready (rs := [12]) (by kernel_rfl) (by simp) ?_
          refine AllReadyH.cons (o := { dst := some 8, op := _, type := _, pos := _, after := _, guard := _ }) rfl (fun K hK => ?_) ?_
          · go_simp
            refine hK.out _ _ ?_ (fun hHeld1013 => ?_)
            · (try dsimp only)
              all_goals (first | (constructor <;> go_simp) | go_keep)
            clear hK K
            (try clear hHeld1008)
            (try simp only [Act.put, List.setIfInBounds_toArray, List.set_cons_zero, List.set_cons_succ])
            refine wpAnyH_ready (rs := [13]) (by kernel_rfl) (by simp) ?_
            refine AllReadyH.cons (o := { dst := none, op := _, type := _, pos := _, after := _, guard := _ }) rfl (fun K hK => ?_) ?_
            · go_simp
              refine hK.out _ _ ?_ (fun hHeld1014 => ?_)
              · (try dsimp only)
                all_goals (first | (constructor <;> go_simp) | go_keep)
              clear hK K
              (try clear hHeld1013)
              (try simp only [Act.put, List.setIfInBounds_toArray, List.set_cons_zero, List.set_cons_succ])
              refine wpAnyH_take (i := 14) (oi := { dst := some 9, op := _, type := _, pos := _, after := _, guard := _ }) (v := ?v1015) rfl (by kernel_rfl) (by kernel_rfl) (by kernel_rfl) (fun _ _ _ h => h) (Or.inl ⟨by rfl, ?hy1015⟩) (by first | assumption | exact hHeld1014) ?rest1015
              case hy1015 => ((intro w0 hSw; (try dsimp only at hSw); go_simp) <;> with_reducible rfl)
              (try simp only [Act.put, List.setIfInBounds_toArray, List.set_cons_zero, List.set_cons_succ])
              refine wpAnyH_take (i := 15) (oi := { dst := some 10, op := _, type := _, pos := _, after := _, guard := _ }) (v := ?v1016) rfl (by kernel_rfl) (by kernel_rfl) (by kernel_rfl) (fun _ _ _ h => h) (Or.inl ⟨by rfl, ?hy1016⟩) (by first | assumption | exact hHeld1014) ?rest1016
              case hy1016 => ((intro w0 hSw; (try dsimp only at hSw); go_simp) <;> with_reducible rfl)
              (try simp only [Act.put, List.setIfInBounds_toArray, List.set_cons_zero, List.set_cons_succ])
              refine wpAnyH_done (by kernel_rfl) ?_ _
              obtain ⟨w9, hw9⟩ : ∃ V, wy.alloc (.cells #[.slice Ay 0 cy, .slice By 0 dy] 25) = V := ⟨_, rfl⟩
              have hbx9 : Box w9 wy.heap.size (.slice Ay 0 cy) (.slice By 0 dy) := by rw [← hw9]; exact Box.new wy (.slice Ay 0 cy) (.slice By 0 dy)
              have hbf9 : Box w9 w1.heap.size (.slice Af n cf) (.slice Bf n df) := by rw [← hw9]; exact HXy.out.alloc _
              have HB9 : Hid (Below w.heap.size w w9) := Lib.hid (by rw [← hw9]; exact (below_chain HB4.out HBy.out).alloc (by have := HB4.out.size; have := HBy.out.size; omega) _)
              have b90 := hbx9.fst
              have b91 := hbx9.snd
              have b9l := hbx9.lt
              have f90 := hbf9.fst
              have f91 := hbf9.snd
              have f9l := hbf9.lt
              clear xy0 xy1 xyl
              rw [hw9]
              clear hw9 hbx9 hbf9
              go_wp2_with fail
              go_ret
              exact ⟨rfl, HB9.out⟩
            exact AllReadyH.nil
          exact AllReadyH.nil
        refine AllReadyH.cons (o := { dst := some 8, op := _, type := _, pos := _, after := _, guard := _ }) rfl (fun K hK => ?_) ?_
        · go_simp
          refine hK.out _ _ ?_ (fun hHeld1017 => ?_)
          · (try dsimp only)
            all_goals (first | (constructor <;> go_simp) | go_keep)
          clear hK K
          (try clear hHeld)
          (try simp only [Act.put, List.setIfInBounds_toArray, List.set_cons_zero, List.set_cons_succ])
          refine wpAnyH_ready (rs := [7]) (by kernel_rfl) (by simp) ?_
          refine AllReadyH.cons (o := { dst := some 43, op := _, type := _, pos := _, after := _, guard := _ }) rfl (fun K hK => ?_) ?_
          · go_simp
            have hE : Below w4.heap.size w4 (w4.alloc (.cells #[.slice none 0 0, .slice none 0 0] 25)) := (Below.refl _ _).alloc (Nat.le_refl _) _
            have hF := (Ff.out.next hE.drew)
            refine ((FrameAdd_any _ _ n n cf df _ _ I 1 _ _ hF.1.rows.1 hF.1.rows.2 (hF.ok (fun ds => frAt 1 ds I 1))).mono fun _ _ q => FrRes.not_ (K_hR.out ▸ q)).mono ?_
            rintro e wy ⟨Ay, cy, By, dy, rfl, hvy, hby'⟩
            have hby : Below w4.heap.size w4 wy := hE.drew.trans (hby'.mono hE.size)
            have hxf := HXf.out.next hby
            have xy0 := hxf.fst
            have xy1 := hxf.snd
            have xyl := hxf.lt
            have HXy := Lib.hid hxf
            have hzy := Box.next (Box.new w4 (.slice none 0 0) (.slice none 0 0)) (Below.drew_ hby')
            have zy0 := hzy.fst
            have zy1 := hzy.snd
            have zyf0 := hzy.free 0
            have zyf1 := hzy.free 1
            have zyl := hzy.lt
            have zne : ¬ w1.heap.size = w4.heap.size := by omega
            have zne' : ¬ w4.heap.size = w1.heap.size := by omega
            have HZy := Lib.hid hzy
            clear hzy
            have HVy := Lib.hid hvy
            have HBy := Lib.hid hby
            clear hE hby hby' hvy hxf
            (try go_wp2_with fail)
            refine hK.out _ _ ?_ (fun hHeld1018 => ?_)
            · (try dsimp only)
              all_goals (first | (constructor <;> go_simp) | go_keep)
            clear hK K
            (try clear hHeld1017)
            (try simp only [Act.put, List.setIfInBounds_toArray, List.set_cons_zero, List.set_cons_succ])
            refine wpAnyH_take (i := 8) (oi := { dst := some 35, op := _, type := _, pos := _, after := _, guard := _ }) (v := ?v1019) rfl (by kernel_rfl) (by kernel_rfl) (by kernel_rfl) (fun _ _ _ h => h) (Or.inl ⟨by rfl, ?hy1019⟩) (by first | assumption | exact hHeld1018) ?rest1019
            case hy1019 => ((intro w0 hSw; (try dsimp only at hSw); go_simp) <;> with_reducible rfl)
            (try simp only [Act.put, List.setIfInBounds_toArray, List.set_cons_zero, List.set_cons_succ])
            refine wpAnyH_take (i := 9) (oi := { dst := some 44, op := _, type := _, pos := _, after := _, guard := _ }) (v := ?v1020) rfl (by kernel_rfl) (by kernel_rfl) (by kernel_rfl) (fun _ _ _ h => h) (Or.inl ⟨by rfl, ?hy1020⟩) (by first | assumption | exact hHeld1018) ?rest1020
            case hy1020 => ((intro w0 hSw; (try dsimp only at hSw); go_simp) <;> with_reducible rfl)
            (try simp only [Act.put, List.setIfInBounds_toArray, List.set_cons_zero, List.set_cons_succ])
            refine wpAnyH_take (i := 10) (oi := { dst := some 45, op := _, type := _, pos := _, after := _, guard := _ }) (v := ?v1021) rfl (by kernel_rfl) (by kernel_rfl) (by kernel_rfl) (fun _ _ _ h => h) (Or.inl ⟨by rfl, ?hy1021⟩) (by first | assumption | exact hHeld1018) ?rest1021
            case hy1021 => ((intro w0 hSw; (try dsimp only at hSw); go_simp) <;> with_reducible rfl)
            (try simp only [Act.put, List.setIfInBounds_toArray, List.set_cons_zero, List.set_cons_succ])
            refine wpAnyH_take (i := 11) (oi := { dst := some 46, op := _, type := _, pos := _, after := _, guard := _ }) (v := ?v1022) rfl (by kernel_rfl) (by kernel_rfl) (by kernel_rfl) (fun _ _ _ h => h) (Or.inl ⟨by rfl, ?hy1022⟩) (by first | assumption | exact hHeld1018) ?rest1022
            case hy1022 => ((intro w0 hSw; (try dsimp only at hSw); go_simp) <;> with_reducible rfl)
            (try simp only [Act.put, List.setIfInBounds_toArray, List.set_cons_zero, List.set_cons_succ])
            refine wpAnyH_ready (rs := [13]) (by kernel_rfl) (by simp) ?_
            refine AllReadyH.cons (o := { dst := none, op := _, type := _, pos := _, after := _, guard := _ }) rfl (fun K hK => ?_) ?_
            · go_simp
              refine hK.out _ _ ?_ (fun hHeld1023 => ?_)
              · (try dsimp only)
                all_goals (first | (constructor <;> go_simp) | go_keep)
              clear hK K
              (try clear hHeld1018)
              (try simp only [Act.put, List.setIfInBounds_toArray, List.set_cons_zero, List.set_cons_succ])
              refine wpAnyH_take (i := 14) (oi := { dst := some 9, op := _, type := _, pos := _, after := _, guard := _ }) (v := ?v1024) rfl (by kernel_rfl) (by kernel_rfl) (by kernel_rfl) (fun _ _ _ h => h) (Or.inl ⟨by rfl, ?hy1024⟩) (by first | assumption | exact hHeld1023) ?rest1024
              case hy1024 => ((intro w0 hSw; (try dsimp only at hSw); go_simp) <;> with_reducible rfl)
              (try simp only [Act.put, List.setIfInBounds_toArray, List.set_cons_zero, List.set_cons_succ])
              refine wpAnyH_take (i := 15) (oi := { dst := some 10, op := _, type := _, pos := _, after := _, guard := _ }) (v := ?v1025) rfl (by kernel_rfl) (by kernel_rfl) (by kernel_rfl) (fun _ _ _ h => h) (Or.inl ⟨by rfl, ?hy1025⟩) (by first | assumption | exact hHeld1023) ?rest1025
              case hy1025 => ((intro w0 hSw; (try dsimp only at hSw); go_simp) <;> with_reducible rfl)
              (try simp only [Act.put, List.setIfInBounds_toArray, List.set_cons_zero, List.set_cons_succ])
              refine wpAnyH_done (by kernel_rfl) ?_ _
              obtain ⟨w9, hw9⟩ : ∃ V, (wy.setCell ⟨w4.heap.size, 0, none⟩ (.slice Ay 0 cy)).setCell ⟨w4.heap.size, 1, none⟩ (.slice By 0 dy) = V := ⟨_, rfl⟩
              have hbx9 : Box w9 w4.heap.size (.slice Ay 0 cy) (.slice By 0 dy) := by rw [← hw9]; exact HZy.out.over (.slice Ay 0 cy) (.slice By 0 dy)
              have hbf9 : Box w9 w1.heap.size (.slice Af n cf) (.slice Bf n df) := by rw [← hw9]; exact HXy.out.set2 (p := ⟨w4.heap.size, 0, none⟩) (q := ⟨w4.heap.size, 1, none⟩) zne zne (.slice Ay 0 cy) (.slice By 0 dy)
              have HB9 : Hid (Below w.heap.size w w9) := Lib.hid (by rw [← hw9]; exact below_over (below_chain HB4.out HBy.out) (by have := HB4.out.size; omega) _ _)
              have b90 := hbx9.fst
              have b91 := hbx9.snd
              have b9l := hbx9.lt
              have f90 := hbf9.fst
              have f91 := hbf9.snd
              have f9l := hbf9.lt
              clear xy0 xy1 xyl zy0 zy1 zyf0 zyf1 zyl
              rw [hw9]
              clear hw9 hbx9 hbf9
              go_wp2_with fail
              go_ret
              exact ⟨rfl, HB9.out⟩
            exact AllReadyH.nil
          exact AllReadyH.nil
        exact AllReadyH.nil
      · have K_hR := Lib.hid hR
        clear hR
        obtain ⟨r1, r2, r3, -⟩ := frAt_some (.inl rfl) HD.out K_hR.out
        have hrds : r ≠ ds := by rintro rfl; have := Fr.ten_pos I.toNat; omega
        obtain ⟨tx, htx⟩ : ∃ tx, txt (digText r) = tx := ⟨_, rfl⟩
        have htn : ¬ tx = t := by rintro rfl; exact hrds (digText_inj _ _ r1 HD.out (txt_inj (htx.trans K_ht.out.symm)))
        have htn0 : ¬ tx.toList = t.toList := fun e => htn (by rw [ByteArray.toList_eq, ByteArray.toList_eq] at e; cases tx; cases t; simp_all)
        have htn1 : (tx.toList == t.toList) = false := by simpa using htn0
        have htn2 : ¬ t.toList = tx.toList := fun e => htn0 e.symm
        have htn3 : ¬ t = tx := fun e => htn e.symm
        have K_htx := Lib.hid htx
        clear htx r1 r2 r3 hrds
        refine wp_region_held_drew (S := (fun w' => w'.cell? ⟨w1.heap.size, 0, none⟩ = some (.slice Af n cf) ∧ w'.cell? ⟨w1.heap.size, 1, none⟩ = some (.slice Bf n df))) (by kernel_rfl) ?_ (fun hHeld => ?_)
        · (try dsimp only)
          all_goals (first | (constructor <;> go_simp) | go_keep)
        refine wpAnyH_take (i := 0) (oi := { dst := some 36, op := _, type := _, pos := _, after := _, guard := _ }) (v := ?v2001) rfl (by kernel_rfl) (by kernel_rfl) (by kernel_rfl) (fun _ _ _ h => h) (Or.inl ⟨by rfl, ?hy2001⟩) (by first | assumption | exact hHeld) ?rest2001
        case hy2001 => ((intro w0 hSw; (try dsimp only at hSw); go_simp) <;> with_reducible rfl)
        (try simp only [Act.put, List.setIfInBounds_toArray, List.set_cons_zero, List.set_cons_succ])
        refine wpAnyH_take (i := 1) (oi := { dst := some 37, op := _, type := _, pos := _, after := _, guard := _ }) (v := ?v2002) rfl (by kernel_rfl) (by kernel_rfl) (by kernel_rfl) (fun _ _ _ h => h) (Or.inl ⟨by rfl, ?hy2002⟩) (by first | assumption | exact hHeld) ?rest2002
        case hy2002 => ((intro w0 hSw; (try dsimp only at hSw); go_simp) <;> with_reducible rfl)
        (try simp only [Act.put, List.setIfInBounds_toArray, List.set_cons_zero, List.set_cons_succ])
        refine wpAnyH_take (i := 2) (oi := { dst := some 38, op := _, type := _, pos := _, after := _, guard := _ }) (v := ?v2003) rfl (by kernel_rfl) (by kernel_rfl) (by kernel_rfl) (fun _ _ _ h => h) (Or.inl ⟨by rfl, ?hy2003⟩) (by first | assumption | exact hHeld) ?rest2003
        case hy2003 => ((intro w0 hSw; (try dsimp only at hSw); go_simp) <;> with_reducible rfl)
        (try simp only [Act.put, List.setIfInBounds_toArray, List.set_cons_zero, List.set_cons_succ])
        refine wpAnyH_take (i := 3) (oi := { dst := some 39, op := _, type := _, pos := _, after := _, guard := _ }) (v := ?v2004) rfl (by kernel_rfl) (by kernel_rfl) (by kernel_rfl) (fun _ _ _ h => h) (Or.inl ⟨by rfl, ?hy2004⟩) (by first | assumption | exact hHeld) ?rest2004
        case hy2004 => ((intro w0 hSw; (try dsimp only at hSw); go_simp) <;> with_reducible rfl)
        (try simp only [Act.put, List.setIfInBounds_toArray, List.set_cons_zero, List.set_cons_succ])
        refine wpAnyH_take (i := 4) (oi := { dst := some 40, op := _, type := _, pos := _, after := _, guard := _ }) (v := ?v2005) rfl (by kernel_rfl) (by kernel_rfl) (by kernel_rfl) (fun _ _ _ h => h) (Or.inl ⟨by rfl, ?hy2005⟩) (by first | assumption | exact hHeld) ?rest2005
        case hy2005 => ((intro w0 hSw; (try dsimp only at hSw); go_simp) <;> with_reducible rfl)
        (try simp only [Act.put, List.setIfInBounds_toArray, List.set_cons_zero, List.set_cons_succ])
        refine wpAnyH_take (i := 5) (oi := { dst := some 41, op := _, type := _, pos := _, after := _, guard := _ }) (v := ?v2006) rfl (by kernel_rfl) (by kernel_rfl) (by kernel_rfl) (fun _ _ _ h => h) (Or.inl ⟨by rfl, ?hy2006⟩) (by first | assumption | exact hHeld) ?rest2006
        case hy2006 => ((intro w0 hSw; (try dsimp only at hSw); go_simp) <;> with_reducible rfl)
        (try simp only [Act.put, List.setIfInBounds_toArray, List.set_cons_zero, List.set_cons_succ])
        refine wpAnyH_take (i := 6) (oi := { dst := some 42, op := _, type := _, pos := _, after := _, guard := _ }) (v := ?v2007) rfl (by kernel_rfl) (by kernel_rfl) (by kernel_rfl) (fun _ _ _ h => h) (Or.inl ⟨by rfl, ?hy2007⟩) (by first | assumption | exact hHeld) ?rest2007
        case hy2007 => ((intro w0 hSw; (try dsimp only at hSw); go_simp) <;> with_reducible rfl)
        (try simp only [Act.put, List.setIfInBounds_toArray, List.set_cons_zero, List.set_cons_succ])
        refine wpAnyH_ready (rs := [7, 12]) (by kernel_rfl) (by simp) ?_
        refine AllReadyH.cons (o := { dst := some 43, op := _, type := _, pos := _, after := _, guard := _ }) rfl (fun K hK => ?_) ?_
        · go_simp
          have hE : Below w4.heap.size w4 (w4) := Below.refl _ _
          refine (add_g (Ff.out.next hE.drew) K_hR.out).mono ?_
          rintro e wy ⟨Ay, cy, By, dy, rfl, hvy, hby'⟩
          have hby : Below w4.heap.size w4 wy := hE.drew.trans (hby'.mono hE.size)
          have hxf := HXf.out.next hby
          have xy0 := hxf.fst
          have xy1 := hxf.snd
          have xyl := hxf.lt
          have HXy := Lib.hid hxf
          have HVy := Lib.hid hvy
          have HBy := Lib.hid hby
          clear hE hby hby' hvy hxf
          (try go_wp2_with fail)
          refine hK.out _ _ ?_ (fun hHeld2008 => ?_)
          · (try dsimp only)
            all_goals (first | (constructor <;> go_simp) | go_keep)
          clear hK K
          (try clear hHeld)
          (try simp only [Act.put, List.setIfInBounds_toArray, List.set_cons_zero, List.set_cons_succ])
          refine wpAnyH_take (i := 8) (oi := { dst := some 35, op := _, type := _, pos := _, after := _, guard := _ }) (v := ?v2009) rfl (by kernel_rfl) (by kernel_rfl) (by kernel_rfl) (fun _ _ _ h => h) (Or.inl ⟨by rfl, ?hy2009⟩) (by first | assumption | exact hHeld2008) ?rest2009
          case hy2009 => ((intro w0 hSw; (try dsimp only at hSw); go_simp) <;> with_reducible rfl)
          (try simp only [Act.put, List.setIfInBounds_toArray, List.set_cons_zero, List.set_cons_succ])
          refine wpAnyH_take (i := 9) (oi := { dst := some 44, op := _, type := _, pos := _, after := _, guard := _ }) (v := ?v2010) rfl (by kernel_rfl) (by kernel_rfl) (by kernel_rfl) (fun _ _ _ h => h) (Or.inl ⟨by rfl, ?hy2010⟩) (by first | assumption | exact hHeld2008) ?rest2010
          case hy2010 => ((intro w0 hSw; (try dsimp only at hSw); go_simp) <;> with_reducible rfl)
          (try simp only [Act.put, List.setIfInBounds_toArray, List.set_cons_zero, List.set_cons_succ])
          refine wpAnyH_take (i := 10) (oi := { dst := some 45, op := _, type := _, pos := _, after := _, guard := _ }) (v := ?v2011) rfl (by kernel_rfl) (by kernel_rfl) (by kernel_rfl) (fun _ _ _ h => h) (Or.inl ⟨by rfl, ?hy2011⟩) (by first | assumption | exact hHeld2008) ?rest2011
          case hy2011 => ((intro w0 hSw; (try dsimp only at hSw); go_simp) <;> with_reducible rfl)
          (try simp only [Act.put, List.setIfInBounds_toArray, List.set_cons_zero, List.set_cons_succ])
          refine wpAnyH_take (i := 11) (oi := { dst := some 46, op := _, type := _, pos := _, after := _, guard := _ }) (v := ?v2012) rfl (by kernel_rfl) (by kernel_rfl) (by kernel_rfl) (fun _ _ _ h => h) (Or.inl ⟨by rfl, ?hy2012⟩) (by first | assumption | exact hHeld2008) ?rest2012
          case hy2012 => ((intro w0 hSw; (try dsimp only at hSw); go_simp) <;> with_reducible rfl)
          (try simp only [Act.put, List.setIfInBounds_toArray, List.set_cons_zero, List.set_cons_succ])
          refine wpAnyH_ready (rs := [12]) (by kernel_rfl) (by simp) ?_
          refine AllReadyH.cons (o := { dst := some 8, op := _, type := _, pos := _, after := _, guard := _ }) rfl (fun K hK => ?_) ?_
          · go_simp
            refine hK.out _ _ ?_ (fun hHeld2013 => ?_)
            · (try dsimp only)
              all_goals (first | (constructor <;> go_simp) | go_keep)
            clear hK K
            (try clear hHeld2008)
            (try simp only [Act.put, List.setIfInBounds_toArray, List.set_cons_zero, List.set_cons_succ])
            refine wpAnyH_ready (rs := [13]) (by kernel_rfl) (by simp) ?_
            refine AllReadyH.cons (o := { dst := none, op := _, type := _, pos := _, after := _, guard := _ }) rfl (fun K hK => ?_) ?_
            · go_simp
              refine hK.out _ _ ?_ (fun hHeld2014 => ?_)
              · (try dsimp only)
                all_goals (first | (constructor <;> go_simp) | go_keep)
              clear hK K
              (try clear hHeld2013)
              (try simp only [Act.put, List.setIfInBounds_toArray, List.set_cons_zero, List.set_cons_succ])
              refine wpAnyH_take (i := 14) (oi := { dst := some 9, op := _, type := _, pos := _, after := _, guard := _ }) (v := ?v2015) rfl (by kernel_rfl) (by kernel_rfl) (by kernel_rfl) (fun _ _ _ h => h) (Or.inl ⟨by rfl, ?hy2015⟩) (by first | assumption | exact hHeld2014) ?rest2015
              case hy2015 => ((intro w0 hSw; (try dsimp only at hSw); go_simp) <;> with_reducible rfl)
              (try simp only [Act.put, List.setIfInBounds_toArray, List.set_cons_zero, List.set_cons_succ])
              refine wpAnyH_take (i := 15) (oi := { dst := some 10, op := _, type := _, pos := _, after := _, guard := _ }) (v := ?v2016) rfl (by kernel_rfl) (by kernel_rfl) (by kernel_rfl) (fun _ _ _ h => h) (Or.inl ⟨by rfl, ?hy2016⟩) (by first | assumption | exact hHeld2014) ?rest2016
              case hy2016 => ((intro w0 hSw; (try dsimp only at hSw); go_simp) <;> with_reducible rfl)
              (try simp only [Act.put, List.setIfInBounds_toArray, List.set_cons_zero, List.set_cons_succ])
              refine wpAnyH_done (by kernel_rfl) ?_ _
              obtain ⟨w9, hw9⟩ : ∃ V, wy.alloc (.cells #[.slice Ay n cy, .slice By n dy] 25) = V := ⟨_, rfl⟩
              have hbx9 : Box w9 wy.heap.size (.slice Ay n cy) (.slice By n dy) := by rw [← hw9]; exact Box.new wy (.slice Ay n cy) (.slice By n dy)
              have hbf9 : Box w9 w1.heap.size (.slice Af n cf) (.slice Bf n df) := by rw [← hw9]; exact HXy.out.alloc _
              have HB9 : Hid (Below w.heap.size w w9) := Lib.hid (by rw [← hw9]; exact (below_chain HB4.out HBy.out).alloc (by have := HB4.out.size; have := HBy.out.size; omega) _)
              have HV9 : Hid (FrG w9 (.agg #[.slice Ay n cy, .slice By n dy]) n r) := Lib.hid (by rw [← hw9]; exact HVy.out.next ((Below.refl _ _).alloc (Nat.le_refl _) _))
              have b90 := hbx9.fst
              have b91 := hbx9.snd
              have b9l := hbx9.lt
              have f90 := hbf9.fst
              have f91 := hbf9.snd
              have f9l := hbf9.lt
              clear xy0 xy1 xyl
              rw [hw9]
              clear hw9 hbx9 hbf9
              go_wp2_with fail
              refine (text_g HV9.out K_htx.out).mono ?_
              rintro e w10 ⟨rfl, hb10⟩
              have HB10 := Lib.hid (below_chain HB9.out hb10)
              clear hb10
              go_wp2
              go_ret
              exact ⟨rfl, HB10.out⟩
            exact AllReadyH.nil
          exact AllReadyH.nil
        refine AllReadyH.cons (o := { dst := some 8, op := _, type := _, pos := _, after := _, guard := _ }) rfl (fun K hK => ?_) ?_
        · go_simp
          refine hK.out _ _ ?_ (fun hHeld2017 => ?_)
          · (try dsimp only)
            all_goals (first | (constructor <;> go_simp) | go_keep)
          clear hK K
          (try clear hHeld)
          (try simp only [Act.put, List.setIfInBounds_toArray, List.set_cons_zero, List.set_cons_succ])
          refine wpAnyH_ready (rs := [7]) (by kernel_rfl) (by simp) ?_
          refine AllReadyH.cons (o := { dst := some 43, op := _, type := _, pos := _, after := _, guard := _ }) rfl (fun K hK => ?_) ?_
          · go_simp
            have hE : Below w4.heap.size w4 (w4.alloc (.cells #[.slice none 0 0, .slice none 0 0] 25)) := (Below.refl _ _).alloc (Nat.le_refl _) _
            refine (add_g (Ff.out.next hE.drew) K_hR.out).mono ?_
            rintro e wy ⟨Ay, cy, By, dy, rfl, hvy, hby'⟩
            have hby : Below w4.heap.size w4 wy := hE.drew.trans (hby'.mono hE.size)
            have hxf := HXf.out.next hby
            have xy0 := hxf.fst
            have xy1 := hxf.snd
            have xyl := hxf.lt
            have HXy := Lib.hid hxf
            have hzy := Box.next (Box.new w4 (.slice none 0 0) (.slice none 0 0)) (Below.drew_ hby')
            have zy0 := hzy.fst
            have zy1 := hzy.snd
            have zyf0 := hzy.free 0
            have zyf1 := hzy.free 1
            have zyl := hzy.lt
            have zne : ¬ w1.heap.size = w4.heap.size := by omega
            have zne' : ¬ w4.heap.size = w1.heap.size := by omega
            have HZy := Lib.hid hzy
            clear hzy
            have HVy := Lib.hid hvy
            have HBy := Lib.hid hby
            clear hE hby hby' hvy hxf
            (try go_wp2_with fail)
            refine hK.out _ _ ?_ (fun hHeld2018 => ?_)
            · (try dsimp only)
              all_goals (first | (constructor <;> go_simp) | go_keep)
            clear hK K
            (try clear hHeld2017)
            (try simp only [Act.put, List.setIfInBounds_toArray, List.set_cons_zero, List.set_cons_succ])
            refine wpAnyH_take (i := 8) (oi := { dst := some 35, op := _, type := _, pos := _, after := _, guard := _ }) (v := ?v2019) rfl (by kernel_rfl) (by kernel_rfl) (by kernel_rfl) (fun _ _ _ h => h) (Or.inl ⟨by rfl, ?hy2019⟩) (by first | assumption | exact hHeld2018) ?rest2019
            case hy2019 => ((intro w0 hSw; (try dsimp only at hSw); go_simp) <;> with_reducible rfl)
            (try simp only [Act.put, List.setIfInBounds_toArray, List.set_cons_zero, List.set_cons_succ])
            refine wpAnyH_take (i := 9) (oi := { dst := some 44, op := _, type := _, pos := _, after := _, guard := _ }) (v := ?v2020) rfl (by kernel_rfl) (by kernel_rfl) (by kernel_rfl) (fun _ _ _ h => h) (Or.inl ⟨by rfl, ?hy2020⟩) (by first | assumption | exact hHeld2018) ?rest2020
            case hy2020 => ((intro w0 hSw; (try dsimp only at hSw); go_simp) <;> with_reducible rfl)
            (try simp only [Act.put, List.setIfInBounds_toArray, List.set_cons_zero, List.set_cons_succ])
            refine wpAnyH_take (i := 10) (oi := { dst := some 45, op := _, type := _, pos := _, after := _, guard := _ }) (v := ?v2021) rfl (by kernel_rfl) (by kernel_rfl) (by kernel_rfl) (fun _ _ _ h => h) (Or.inl ⟨by rfl, ?hy2021⟩) (by first | assumption | exact hHeld2018) ?rest2021
            case hy2021 => ((intro w0 hSw; (try dsimp only at hSw); go_simp) <;> with_reducible rfl)
            (try simp only [Act.put, List.setIfInBounds_toArray, List.set_cons_zero, List.set_cons_succ])
            refine wpAnyH_take (i := 11) (oi := { dst := some 46, op := _, type := _, pos := _, after := _, guard := _ }) (v := ?v2022) rfl (by kernel_rfl) (by kernel_rfl) (by kernel_rfl) (fun _ _ _ h => h) (Or.inl ⟨by rfl, ?hy2022⟩) (by first | assumption | exact hHeld2018) ?rest2022
            case hy2022 => ((intro w0 hSw; (try dsimp only at hSw); go_simp) <;> with_reducible rfl)
            (try simp only [Act.put, List.setIfInBounds_toArray, List.set_cons_zero, List.set_cons_succ])
            refine wpAnyH_ready (rs := [13]) (by kernel_rfl) (by simp) ?_
            refine AllReadyH.cons (o := { dst := none, op := _, type := _, pos := _, after := _, guard := _ }) rfl (fun K hK => ?_) ?_
            · go_simp
              refine hK.out _ _ ?_ (fun hHeld2023 => ?_)
              · (try dsimp only)
                all_goals (first | (constructor <;> go_simp) | go_keep)
              clear hK K
              (try clear hHeld2018)
              (try simp only [Act.put, List.setIfInBounds_toArray, List.set_cons_zero, List.set_cons_succ])
              refine wpAnyH_take (i := 14) (oi := { dst := some 9, op := _, type := _, pos := _, after := _, guard := _ }) (v := ?v2024) rfl (by kernel_rfl) (by kernel_rfl) (by kernel_rfl) (fun _ _ _ h => h) (Or.inl ⟨by rfl, ?hy2024⟩) (by first | assumption | exact hHeld2023) ?rest2024
              case hy2024 => ((intro w0 hSw; (try dsimp only at hSw); go_simp) <;> with_reducible rfl)
              (try simp only [Act.put, List.setIfInBounds_toArray, List.set_cons_zero, List.set_cons_succ])
              refine wpAnyH_take (i := 15) (oi := { dst := some 10, op := _, type := _, pos := _, after := _, guard := _ }) (v := ?v2025) rfl (by kernel_rfl) (by kernel_rfl) (by kernel_rfl) (fun _ _ _ h => h) (Or.inl ⟨by rfl, ?hy2025⟩) (by first | assumption | exact hHeld2023) ?rest2025
              case hy2025 => ((intro w0 hSw; (try dsimp only at hSw); go_simp) <;> with_reducible rfl)
              (try simp only [Act.put, List.setIfInBounds_toArray, List.set_cons_zero, List.set_cons_succ])
              refine wpAnyH_done (by kernel_rfl) ?_ _
              obtain ⟨w9, hw9⟩ : ∃ V, (wy.setCell ⟨w4.heap.size, 0, none⟩ (.slice Ay n cy)).setCell ⟨w4.heap.size, 1, none⟩ (.slice By n dy) = V := ⟨_, rfl⟩
              have hbx9 : Box w9 w4.heap.size (.slice Ay n cy) (.slice By n dy) := by rw [← hw9]; exact HZy.out.over (.slice Ay n cy) (.slice By n dy)
              have hbf9 : Box w9 w1.heap.size (.slice Af n cf) (.slice Bf n df) := by rw [← hw9]; exact HXy.out.set2 (p := ⟨w4.heap.size, 0, none⟩) (q := ⟨w4.heap.size, 1, none⟩) zne zne (.slice Ay n cy) (.slice By n dy)
              have HB9 : Hid (Below w.heap.size w w9) := Lib.hid (by rw [← hw9]; exact below_over (below_chain HB4.out HBy.out) (by have := HB4.out.size; omega) _ _)
              have HV9 : Hid (FrG w9 (.agg #[.slice Ay n cy, .slice By n dy]) n r) := Lib.hid (by rw [← hw9]; exact HVy.out.over HZy.out)
              have b90 := hbx9.fst
              have b91 := hbx9.snd
              have b9l := hbx9.lt
              have f90 := hbf9.fst
              have f91 := hbf9.snd
              have f9l := hbf9.lt
              clear xy0 xy1 xyl zy0 zy1 zyf0 zyf1 zyl
              rw [hw9]
              clear hw9 hbx9 hbf9
              go_wp2_with fail
              refine (text_g HV9.out K_htx.out).mono ?_
              rintro e w10 ⟨rfl, hb10⟩
              have HB10 := Lib.hid (below_chain HB9.out hb10)
              clear hb10
              go_wp2
              go_ret
              exact ⟨rfl, HB10.out⟩
            exact AllReadyH.nil
          exact AllReadyH.nil
        exact AllReadyH.nil
    · have HNO := Lib.hid hok
      clear hok
      have Ff := HVf
      clear HVf
      obtain ⟨w2, hV2⟩ : ∃ V, w1.alloc (.cells #[.slice Af n cf, .slice Bf m df] 25) = V := ⟨_, rfl⟩
      have hb2 : Below w1.heap.size w1 w2 := by rw [← hV2]; exact (Below.refl _ _).alloc (Nat.le_refl _) _
      have HXf' : Hid (Box w2 w1.heap.size (.slice Af n cf) (.slice Bf m df)) := Lib.hid (by rw [← hV2]; exact Box.new w1 _ _)
      have zf : w1.heap.size < w2.heap.size := HXf'.out.lt
      have HV2 := Lib.hid hV2
      have s2 := hb2.size
      have HB2 := Lib.hid (below_chain HB1.out hb2)
      replace Ff := Lib.hid (Ff.out.next hb2)
      clear hb2 hV2
      have HXf := HXf'
      clear HXf'
      go_wp2_with fail
      rw [HV2.out]
      have lf_2 := HXf.out.lt
      have xf0_2 := HXf.out.fst
      have xf1_2 := HXf.out.snd
      refine (FrameText_no _ _ _ _ _ _ hs ls _ Ff.out.rows.1 Ff.out.rows.2 HNO.out).mono ?_
      rintro e w3 ⟨rfl, hb3⟩
      have s3 := hb3.size
      have HB3 := Lib.hid (below_chain HB2.out hb3)
      replace Ff := Lib.hid (Ff.out.next hb3)
      replace HXf := Lib.hid (HXf.out.next hb3)
      clear hb3
      clear lf_2 xf0_2 xf1_2
      have lf_3 := HXf.out.lt
      have xf0_3 := HXf.out.fst
      have xf1_3 := HXf.out.snd
      go_wp2_with fail
      refine (specFrameText_no _ _ _ _ _ _ hs ls _ Ff.out.rows.1 Ff.out.rows.2 HNO.out hn1a (by omega)).mono ?_
      rintro e w4 ⟨rfl, hb4⟩
      have s4 := hb4.size
      have HB4 := Lib.hid (below_chain HB3.out hb4)
      replace Ff := Lib.hid (Ff.out.next hb4)
      replace HXf := Lib.hid (HXf.out.next hb4)
      clear hb4
      clear lf_3 xf0_3 xf1_3
      have lf_4 := HXf.out.lt
      have xf0_4 := HXf.out.fst
      have xf1_4 := HXf.out.snd
      go_wp2
      go_ret
      exact ⟨rfl, HB4.out⟩
end Go.Proofs.YtpaepdlkjblfgaaDoor.fnFrameText
