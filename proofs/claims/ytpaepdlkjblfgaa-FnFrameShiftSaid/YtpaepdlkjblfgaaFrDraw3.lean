/-
  The draws of frames: the laws' draws of a frame with a rod and a digit, with a number.
-/
import Derived.Test.YtpaepdlkjblfgaaFrDraw2
namespace Go.Proofs.Ytpaepdlkjblfgaa
open Go.RowKit

set_option maxRecDepth 100000 in
set_option maxHeartbeats 1000000 in
theorem DrawFrameAdd_any (A : Option Addr) (n c : Nat) (w : World) (h : Bytes w w.heap.size A n c) (hn : n ≤ 1048576) :
    Calls Try.prog 41 #[.slice A n c] w (fun e w' => ∃ v k t, e = .returned (.tuple #[v, .int .i64 k, .int .i64 t]) ∧ -1 ≤ k ∧ k ≤ 100 ∧ -1 ≤ t ∧ t ≤ 10 ∧ DrewF w v w') := by
  have H := Lib.hid (h.next (below_al1 w (.cells #[.slice none 0 0, .slice none 0 0] 25)))
  have HZ := Lib.hid (Box.new w (.slice none 0 0) (.slice none 0 0))
  clear h
  go_enter Try.func41, Try.ntmps41
  go_wp2_with fail
  refine (l6Open_any _ _ _ _ H.out hn).mono ?_
  rintro e w0 ⟨rfl, hrd, hb⟩
  simp only [World.size_alloc] at hrd
  have hlt := hrd.lt
  have hsz0 := hb.size
  simp only [World.size_alloc] at hsz0
  have HB := Lib.hid ((below_al1 w (.cells #[.slice none 0 0, .slice none 0 0] 25)).trans (hb.mono (by simp)))
  replace HZ := Lib.hid (HZ.out.next hb)
  have HR := Lib.hid hrd
  clear hrd hb
  go_wp2_with fail
  refine (l92Change_any _ _ _ _ HR.out (by omega)).mono ?_
  rintro e w2 ⟨A, n, c, A', m, c', hs, ls, k, t, rfl, hx2, hn, hn1, hm, hk1, hk2, ht1, ht2, hg2⟩
  have hz2 := HZ.out.grown hg2 (by intro e; injection e; omega)
  have hc0 := hz2.fst
  have hc1 := hz2.snd
  have hf0 := hz2.free 0
  have hf1 := hz2.free 1
  have hzl := hz2.lt
  have hb3 := hz2.over (.slice A n c) (.slice A' m c')
  have hfin := drewF_of (w := w) (c := c) (c' := c') hx2 hz2 hn hn1 hm (HB.out.trans (base_in hg2 (by omega) (by omega))) (Nat.le_refl _)
  have HF := Lib.hid hfin
  have HC3 := Lib.hid hb3.fst
  have HD3 := Lib.hid hb3.snd
  clear hfin hx2 hg2 hz2 hb3
  go_wp2
  exact bodyPost_ret (v := .tuple #[.agg #[.slice A n c, .slice A' m c'], .int .i64 k, .int .i64 t]) (by simp [results, Try.results41, go_sem, HC3.out, HD3.out]) rfl ⟨_, _, _, rfl, hk1, hk2, ht1, ht2, HF.out⟩

set_option maxRecDepth 100000 in
set_option maxHeartbeats 1000000 in
theorem DrawFrameTake_any (A : Option Addr) (n c : Nat) (w : World) (h : Bytes w w.heap.size A n c) (hn : n ≤ 1048576) :
    Calls Try.prog 39 #[.slice A n c] w (fun e w' => ∃ v k t, e = .returned (.tuple #[v, .int .i64 k, .int .i64 t]) ∧ -1 ≤ k ∧ k ≤ 100 ∧ -1 ≤ t ∧ t ≤ 10 ∧ DrewF w v w') := by
  have H := Lib.hid (h.next (below_al1 w (.cells #[.slice none 0 0, .slice none 0 0] 25)))
  have HZ := Lib.hid (Box.new w (.slice none 0 0) (.slice none 0 0))
  clear h
  go_enter Try.func39, Try.ntmps39
  go_wp2_with fail
  refine (l6Open_any _ _ _ _ H.out hn).mono ?_
  rintro e w0 ⟨rfl, hrd, hb⟩
  simp only [World.size_alloc] at hrd
  have hlt := hrd.lt
  have hsz0 := hb.size
  simp only [World.size_alloc] at hsz0
  have HB := Lib.hid ((below_al1 w (.cells #[.slice none 0 0, .slice none 0 0] 25)).trans (hb.mono (by simp)))
  replace HZ := Lib.hid (HZ.out.next hb)
  have HR := Lib.hid hrd
  clear hrd hb
  go_wp2_with fail
  refine (l92Change_any _ _ _ _ HR.out (by omega)).mono ?_
  rintro e w2 ⟨A, n, c, A', m, c', hs, ls, k, t, rfl, hx2, hn, hn1, hm, hk1, hk2, ht1, ht2, hg2⟩
  have hz2 := HZ.out.grown hg2 (by intro e; injection e; omega)
  have hc0 := hz2.fst
  have hc1 := hz2.snd
  have hf0 := hz2.free 0
  have hf1 := hz2.free 1
  have hzl := hz2.lt
  have hb3 := hz2.over (.slice A n c) (.slice A' m c')
  have hfin := drewF_of (w := w) (c := c) (c' := c') hx2 hz2 hn hn1 hm (HB.out.trans (base_in hg2 (by omega) (by omega))) (Nat.le_refl _)
  have HF := Lib.hid hfin
  have HC3 := Lib.hid hb3.fst
  have HD3 := Lib.hid hb3.snd
  clear hfin hx2 hg2 hz2 hb3
  go_wp2
  exact bodyPost_ret (v := .tuple #[.agg #[.slice A n c, .slice A' m c'], .int .i64 k, .int .i64 t]) (by simp [results, Try.results39, go_sem, HC3.out, HD3.out]) rfl ⟨_, _, _, rfl, hk1, hk2, ht1, ht2, HF.out⟩
end Go.Proofs.Ytpaepdlkjblfgaa
