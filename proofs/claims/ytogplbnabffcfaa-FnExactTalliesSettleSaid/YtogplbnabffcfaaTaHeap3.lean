/-
  The heap of debts: what goes down.
-/
import Derived.Test.YtogplbnabffcfaaTaHeap2
namespace Go.Proofs.Ytogplbnabffcfaa
open Go.RowKit
set_option linter.unusedSimpArgs false

theorem pow_step {i f N : Nat} (h : N < (i + 1) * 2 ^ (f + 1)) : N < (2 * i + 2) * 2 ^ f := by
  have e : (i + 1) * 2 ^ (f + 1) = (2 * i + 2) * 2 ^ f := by
    rw [Nat.pow_succ, Nat.mul_comm (2 ^ f) 2, ← Nat.mul_assoc]
    congr 1
    omega
  rwa [e] at h
set_option maxRecDepth 100000 in
set_option maxHeartbeats 1000000 in
theorem down_any (w : World) (B g n c : Nat) (r : Nat) (xs : List (Nat × Int)) (N f : Nat) (h : Hp w B g (some ⟨r, 0, none⟩) n c xs) (hN : N < n) (hn : n ≤ 1000) (hf : N < 2 ^ f) :
    Calls Try.prog 49 #[.iface 71 (.pointer (some ⟨g, 0, none⟩)), .int .i64 0, .int .i64 (N : Int)] w fun e w' => (∃ v, e = .returned v) ∧ Hp w' B g (some ⟨r, 0, none⟩) n c (Ta.downL f xs 0 N) ∧ w.grownBy w' (some r) := by
  have ml := method_less g n c (some ⟨r, 0, none⟩)
  have ms := method_swap g n c (some ⟨r, 0, none⟩)
  obtain ⟨R, hR⟩ : ∃ R, Ta.downL f xs 0 N = R := ⟨_, rfl⟩
  rw [hR]
  have H0 := Lib.hid h
  have HR := Lib.hid hR
  have HF := Lib.hid hf
  clear h hR hf
  go_enter Try.func49, Try.ntmps49
  go_wp2_with fail
  go_loopw [7] (fun iv wr => ∃ (i f : Nat) (ys : List (Nat × Int)), iv = .int .i64 (i : Int) ∧ i ≤ N ∧ N < (i + 1) * 2 ^ f ∧ Ta.downL f ys i N = R ∧ Hp wr B g (some ⟨r, 0, none⟩) n c ys ∧ w.grownBy wr (some r)) (fun iv _ => N - (intOf iv).toNat)
  case atStart => exact ⟨0, f, xs, rfl, by omega, by simpa using HF.out, HR.out, H0.out, World.grownBy.refl w _⟩
  case round =>
    clear HR HF H0
    obtain ⟨i, f, ys, rfl, hiN, hf, hR, hH, hG⟩ := hrel
    have hcell := hH.cell
    have HH := Lib.hid hH
    have HG := Lib.hid hG
    have HR := Lib.hid hR
    have HF := Lib.hid hf
    clear hH hG hR hf
    have hly := HH.out.len
    by_cases h1 : N ≤ 2 * i + 1
    · have hh : Ta.downL f ys i N = ys := by cases f with | zero => rfl | succ f => simp only [Ta.downL]; rw [if_pos h1]
      have HS := Lib.hid (hh.symm.trans HR.out)
      have g1 : 2 * (i : Int) + 1 ≥ (N : Int) := by omega
      clear hh hly
      go_wp2
      go_ret
      exact ⟨⟨_, rfl⟩, by rw [← HS.out]; exact HH.out, HG.out⟩
    · obtain ⟨f, rfl⟩ : ∃ k, f = k + 1 := ⟨f - 1, by have := HF.out; cases f with | zero => simp at this; omega | succ k => simp⟩
      have hpow := pow_step HF.out
      have HPW := Lib.hid hpow
      clear hpow
      obtain ⟨x, hx⟩ : ∃ x, ys[i]? = some x := ⟨_, List.getElem?_eq_getElem (by omega)⟩
      obtain ⟨y, hy⟩ : ∃ y, ys[2 * i + 1]? = some y := ⟨_, List.getElem?_eq_getElem (by omega)⟩
      have dx : ys.getD i Ta.d0 = x := by rw [List.getD_eq_getElem?_getD, hx]; rfl
      have dy : ys.getD (2 * i + 1) Ta.d0 = y := by rw [List.getD_eq_getElem?_getD, hy]; rfl
      have HX := Lib.hid hx
      have HY := Lib.hid hy
      have DX := Lib.hid dx
      have DY := Lib.hid dy
      clear hx hy dx dy
      have g1 : ¬ (2 * (i : Int) + 1 ≥ (N : Int)) := by omega
      obtain ⟨a, ha⟩ : ∃ a : Nat, a = 2 * i + 1 := ⟨_, rfl⟩
      have HA2 := Lib.hid (show 2 * (i : Int) + 1 = (a : Int) by omega)
      obtain ⟨b, hb⟩ : ∃ b : Nat, b = 2 * i + 2 := ⟨_, rfl⟩
      have HB2 := Lib.hid (show 2 * (i : Int) + 1 + 1 = (b : Int) by omega)
      have HB3 := Lib.hid (show 2 * (i : Int) + 2 = (b : Int) by omega)
      by_cases h2 : 2 * i + 2 < N
      · obtain ⟨z, hz⟩ : ∃ z, ys[2 * i + 2]? = some z := ⟨_, List.getElem?_eq_getElem (by omega)⟩
        have dz : ys.getD (2 * i + 2) Ta.d0 = z := by rw [List.getD_eq_getElem?_getD, hz]; rfl
        have HZ := Lib.hid hz
        have DZ := Lib.hid dz
        clear hz dz hly
        have g2 : 2 * (i : Int) + 1 + 1 < (N : Int) := by omega
        go_wp2_with fail
        (try rw [HB2.out])
        (try rw [HB3.out])
        (try rw [HA2.out])
        refine (Less_any _ n c ys b a z y wr HH.out.own.dbs (hb ▸ HZ.out) (ha ▸ HY.out)).mono ?_
        rintro e w0 ⟨rfl, q0, rfl⟩
        rcases hlz : Ta.less z y with _ | _
        · have HLZ := Lib.hid hlz
          clear hlz
          have hch : Ta.child ys i N = a := by rw [Ta.child, if_neg (by rw [DZ.out, DY.out, HLZ.out]; simp), ha]
          have hdn : Ta.downL (f + 1) ys i N = if Ta.less y x = false then ys else Ta.downL f (Ta.swapL ys i a) a N := by
            simp only [Ta.downL, hch]
            rw [if_neg h1, show ys.getD a Ta.d0 = y from by rw [ha]; exact DY.out]
            rw [DX.out]
          have HDN := Lib.hid hdn
          clear hch hdn
          go_wp2_with fail
          (try rw [HB2.out])
          (try rw [HB3.out])
          (try rw [HA2.out])
          refine (Less_any _ n c ys a i y x (wr.drewN q0) (HH.out.drewN q0).own.dbs (ha ▸ HY.out) HX.out).mono ?_
          rintro e w1 ⟨rfl, q1, rfl⟩
          rcases hls : Ta.less y x with _ | _
          · have HL := Lib.hid hls
            clear hls
            go_wp2
            go_ret
            refine ⟨⟨_, rfl⟩, ?_, ⟨HG.out.os, HG.out.tape, HG.out.output, HG.out.size, HG.out.block⟩⟩
            rw [← HR.out, HDN.out, if_pos HL.out]
            exact (HH.out.drewN (q0 + q1))
          · have HL := Lib.hid hls
            clear hls
            go_wp2_with fail
            (try rw [HB2.out])
            (try rw [HB3.out])
            (try rw [HA2.out])
            refine (Swap_any r n c B ys i a x y (wr.drewN (q0 + q1)) (HH.out.drewN (q0 + q1)).own HX.out (ha ▸ HY.out)).mono ?_
            rintro e w2 ⟨⟨v2, rfl⟩, hO, hG2⟩
            have HH2 := Lib.hid (show Hp w2 B g (some ⟨r, 0, none⟩) n c (Ta.swapL ys i a) from ⟨(HH.out.drewN (q0 + q1)).blk.grown hG2 (by intro e; injection e with e; exact HH.out.ne r rfl e.symm), hO, HH.out.ne⟩)
            have HG2 := Lib.hid ((⟨HG.out.os, HG.out.tape, HG.out.output, HG.out.size, HG.out.block⟩ : w.grownBy (wr.drewN (q0 + q1)) (some r)).then_ hG2 (fun k hk => .inr hk))
            clear hO hG2
            go_wp2
            refine ⟨⟨a, f, _, congrArg (Value.int .i64) (by omega), by omega, ?_, by rw [← HR.out, HDN.out, if_neg (by rw [HL.out]; simp)], HH2.out, HG2.out⟩, ?_⟩
            · have := HPW.out
              refine Nat.lt_of_lt_of_le this (Nat.mul_le_mul_right _ (by omega))
            · simp [intOf]
              omega
        · have HLZ := Lib.hid hlz
          clear hlz
          have hch : Ta.child ys i N = b := by rw [Ta.child, if_pos ⟨h2, by rw [DZ.out, DY.out, HLZ.out]⟩, hb]
          have hdn : Ta.downL (f + 1) ys i N = if Ta.less z x = false then ys else Ta.downL f (Ta.swapL ys i b) b N := by
            simp only [Ta.downL, hch]
            rw [if_neg h1, show ys.getD b Ta.d0 = z from by rw [hb]; exact DZ.out]
            rw [DX.out]
          have HDN := Lib.hid hdn
          clear hch hdn
          go_wp2_with fail
          (try rw [HB2.out])
          (try rw [HB3.out])
          (try rw [HA2.out])
          refine (Less_any _ n c ys b i z x (wr.drewN q0) (HH.out.drewN q0).own.dbs (hb ▸ HZ.out) HX.out).mono ?_
          rintro e w1 ⟨rfl, q1, rfl⟩
          rcases hls : Ta.less z x with _ | _
          · have HL := Lib.hid hls
            clear hls
            go_wp2
            go_ret
            refine ⟨⟨_, rfl⟩, ?_, ⟨HG.out.os, HG.out.tape, HG.out.output, HG.out.size, HG.out.block⟩⟩
            rw [← HR.out, HDN.out, if_pos HL.out]
            exact (HH.out.drewN (q0 + q1))
          · have HL := Lib.hid hls
            clear hls
            go_wp2_with fail
            (try rw [HB2.out])
            (try rw [HB3.out])
            (try rw [HA2.out])
            refine (Swap_any r n c B ys i b x z (wr.drewN (q0 + q1)) (HH.out.drewN (q0 + q1)).own HX.out (hb ▸ HZ.out)).mono ?_
            rintro e w2 ⟨⟨v2, rfl⟩, hO, hG2⟩
            have HH2 := Lib.hid (show Hp w2 B g (some ⟨r, 0, none⟩) n c (Ta.swapL ys i b) from ⟨(HH.out.drewN (q0 + q1)).blk.grown hG2 (by intro e; injection e with e; exact HH.out.ne r rfl e.symm), hO, HH.out.ne⟩)
            have HG2 := Lib.hid ((⟨HG.out.os, HG.out.tape, HG.out.output, HG.out.size, HG.out.block⟩ : w.grownBy (wr.drewN (q0 + q1)) (some r)).then_ hG2 (fun k hk => .inr hk))
            clear hO hG2
            go_wp2
            refine ⟨⟨b, f, _, congrArg (Value.int .i64) (by omega), by omega, ?_, by rw [← HR.out, HDN.out, if_neg (by rw [HL.out]; simp)], HH2.out, HG2.out⟩, ?_⟩
            · have := HPW.out
              refine Nat.lt_of_lt_of_le this (Nat.mul_le_mul_right _ (by omega))
            · simp [intOf]
              omega
      · have g2 : ¬ 2 * (i : Int) + 1 + 1 < (N : Int) := by omega
        clear hly
        have hch : Ta.child ys i N = a := by rw [Ta.child, if_neg (fun h => h2 h.1), ha]
        have hdn : Ta.downL (f + 1) ys i N = if Ta.less y x = false then ys else Ta.downL f (Ta.swapL ys i a) a N := by
          simp only [Ta.downL, hch]
          rw [if_neg h1, show ys.getD a Ta.d0 = y from by rw [ha]; exact DY.out]
          rw [DX.out]
        have HDN := Lib.hid hdn
        clear hch hdn
        go_wp2_with fail
        (try rw [HB2.out])
        (try rw [HB3.out])
        (try rw [HA2.out])
        refine (Less_any _ n c ys a i y x wr HH.out.own.dbs (ha ▸ HY.out) HX.out).mono ?_
        rintro e w1 ⟨rfl, q0, rfl⟩
        rcases hls : Ta.less y x with _ | _
        · have HL := Lib.hid hls
          clear hls
          go_wp2
          go_ret
          refine ⟨⟨_, rfl⟩, ?_, ⟨HG.out.os, HG.out.tape, HG.out.output, HG.out.size, HG.out.block⟩⟩
          rw [← HR.out, HDN.out, if_pos HL.out]
          exact (HH.out.drewN q0)
        · have HL := Lib.hid hls
          clear hls
          go_wp2_with fail
          (try rw [HB2.out])
          (try rw [HB3.out])
          (try rw [HA2.out])
          refine (Swap_any r n c B ys i a x y (wr.drewN q0) (HH.out.drewN q0).own HX.out (ha ▸ HY.out)).mono ?_
          rintro e w2 ⟨⟨v2, rfl⟩, hO, hG2⟩
          have HH2 := Lib.hid (show Hp w2 B g (some ⟨r, 0, none⟩) n c (Ta.swapL ys i a) from ⟨(HH.out.drewN q0).blk.grown hG2 (by intro e; injection e with e; exact HH.out.ne r rfl e.symm), hO, HH.out.ne⟩)
          have HG2 := Lib.hid ((⟨HG.out.os, HG.out.tape, HG.out.output, HG.out.size, HG.out.block⟩ : w.grownBy (wr.drewN q0) (some r)).then_ hG2 (fun k hk => .inr hk))
          clear hO hG2
          go_wp2
          refine ⟨⟨a, f, _, congrArg (Value.int .i64) (by omega), by omega, ?_, by rw [← HR.out, HDN.out, if_neg (by rw [HL.out]; simp)], HH2.out, HG2.out⟩, ?_⟩
          · have := HPW.out
            refine Nat.lt_of_lt_of_le this (Nat.mul_le_mul_right _ (by omega))
          · simp [intOf]
            omega
end Go.Proofs.Ytogplbnabffcfaa
