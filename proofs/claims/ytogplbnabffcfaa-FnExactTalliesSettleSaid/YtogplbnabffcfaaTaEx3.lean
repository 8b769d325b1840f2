/-
  The exact laws' markTallyS, heldTallyS.
-/
import Derived.Test.YtogplbnabffcfaaTaEx2
namespace Go.Proofs.Ytogplbnabffcfaa
open Go.RowKit
set_option linter.unusedSimpArgs false

theorem markText_is (M : Nat) (N : Int) (hN : N = (M : Int)) (h1 : 1 ≤ M) (h2 : M ≤ 100000000) (w : World) : Calls Try.prog 31 #[.int .i64 N] w fun e w' => e = .returned (.string (mt M)) ∧ Below w.heap.size w w' := by
  subst hN; exact markText_any M h1 h2 w
def mkT (k : Nat) : Tl := ⟨(k : Int), (k : Int) + 1, mt (k + 2), mt (k + 3)⟩
def mkTs (k n : Nat) : List Tl := (List.range n).map fun i => mkT (k + 4 * i)
theorem mkTs_length (k n : Nat) : (mkTs k n).length = n := by simp [mkTs]
theorem mkTs_next (k n : Nat) : mkTs k (n + 1) = mkTs k n ++ [mkT (k + 4 * n)] := by simp [mkTs, List.range_succ]
theorem mkTs_at {k n i : Nat} (h : i < n) : (mkTs k n)[i]? = some (mkT (k + 4 * i)) := by simp [mkTs, h]
theorem mark_set {ts : List Tl} {k i : Nat} (h : i < ts.length) : (mkTs k i ++ ts.drop i).set i (mkT (k + 4 * i)) = mkTs k (i + 1) ++ ts.drop (i + 1) := by
  have hx : ts.drop i = ts[i] :: ts.drop (i + 1) := List.drop_eq_getElem_cons h
  rw [List.set_append_right _ _ (by rw [mkTs_length]; omega), mkTs_length, Nat.sub_self, hx, List.set_cons_zero, mkTs_next, List.append_assoc]
  rfl
theorem OwnR.celled {w : World} {B k n c g : Nat} {e : TypeId} {vs : List Value} (h : OwnR w B e k (some ⟨g, 0, none⟩) n c vs) {j : Nat} {u : Value} (hu : vs[j]? = some u) : w.cell? ⟨g, j, none⟩ = some u := by
  have := h.1.cells (g := g) rfl j u hu
  rwa [add_row] at this
theorem OwnR.thawed {w : World} {B k n c g : Nat} {e : TypeId} {vs : List Value} (h : OwnR w B e k (some ⟨g, 0, none⟩) n c vs) (j : Nat) : w.frozen? ⟨g, j, none⟩ = false := by
  rcases h.1.2 with ⟨h1, _⟩ | ⟨g', cap, cur, hv, hb', hg', hr'⟩
  · cases h1
  · injection hv with e1 e2 e3
    injection e1 with e1
    injection e1 with e1
    subst e1
    exact Blk.free (ty := e) hg' j
theorem OwnR.some_ {w : World} {B k n c : Nat} {A : Option Addr} {e : TypeId} {vs : List Value} (h : OwnR w B e k A n c vs) (hn : 0 < n) : ∃ g, A = some ⟨g, 0, none⟩ := by
  rcases h.1.2 with ⟨_, h0⟩ | ⟨g, cap, cur, hv, _⟩
  · omega
  · injection hv with e1 e2 e3
    exact ⟨g, e1⟩
def MarkPost (w : World) (B : Nat) (A : Option Addr) (n c k : Nat) (e : Ending) (w' : World) : Prop := e = .returned (.int .i64 ((k + 4 * n : Nat) : Int)) ∧ OwnT w' B A n c (mkTs k n) ∧ w.grownBy w' (Value.slice A n c).ownBlock
set_option maxRecDepth 100000 in
set_option maxHeartbeats 2000000 in
theorem markTallyS_any (A : Option Addr) (n c k B : Nat) (ts : List Tl) (w : World) (h : OwnT w B A n c ts) (hn : n ≤ 1048576) (hk1 : 1 ≤ k) (hk2 : k ≤ 1000) : Calls Try.prog 17 #[.slice A n c, .int .i64 (k : Int)] w (MarkPost w B A n c k) := by
  by_cases hz : n = 0
  · subst hz
    have hts : ts = [] := List.eq_nil_of_length_eq_zero h.tals.len
    have HH := Lib.hid (show MarkPost w B A 0 c k (.returned (.int .i64 (k : Int))) w from ⟨rfl, by subst hts; exact h, World.grownBy.refl w _⟩)
    clear h hts
    go_enter Try.func17, Try.ntmps17
    go_wp2_with fail
    refine wp_loop_rounds 1 ?_
    rw [rounds_succ]
    go_wp2
    go_ret
    exact HH.out
  obtain ⟨g, rfl⟩ := OwnR.some_ h (by omega)
  have HL := Lib.hid h.tals.len
  have H0 := Lib.hid h
  clear h
  go_enter Try.func17, Try.ntmps17
  go_wp2_with fail
  go_loopw [1, 5] (fun kv iv wr => ∃ (i K : Nat), i ≤ n ∧ K = k + 4 * i ∧ iv = .int .i64 (i : Int) ∧ kv = .int .i64 (K : Int) ∧ OwnT wr B (some ⟨g, 0, none⟩) n c (mkTs k i ++ ts.drop i) ∧ w.grownBy wr (some g)) (fun _ iv _ => n - (intOf iv).toNat)
  case atStart => exact ⟨0, k, by omega, by omega, rfl, rfl, by simpa [mkTs] using H0.out, World.grownBy.refl w _⟩
  case round =>
    obtain ⟨i, K, hi, hK, rfl, rfl, ho, hg⟩ := hrel
    have HO := Lib.hid ho
    have HG := Lib.hid hg
    have hKb : K ≤ 10000000 := by omega
    have hK1 : 1 ≤ K := by omega
    have HK := Lib.hid hK
    clear ho hg hK
    by_cases hlt : i < n
    · obtain ⟨L, hL⟩ : ∃ L, mkTs k i ++ ts.drop i = L := ⟨_, rfl⟩
      have ho := HO.out
      rw [hL] at ho
      have hLl : L.length = n := ho.tals.len
      obtain ⟨x, hx⟩ : ∃ x, L[i]? = some x := ⟨_, List.getElem?_eq_getElem (by omega)⟩
      obtain ⟨m0, m1, m2, m3, _⟩ := OwnT.at4 ho hx
      have gt := flat_get (f := Tl.cells) (k := 4) (fun _ => rfl) _ i x hx
      have g2 : (TV L)[i * 4 + 2]? = some (.string x.s) := gt 2 (by omega)
      have g3 : (TV L)[i * 4 + 3]? = some (.string x.f) := gt 3 (by omega)
      have f0 := OwnR.thawed ho (i * 4)
      have f1 := OwnR.thawed ho (i * 4 + 1)
      have ho1 := (OwnR.put ho (i * 4) (.int .i64 (K : Int))).put (i * 4 + 1) (.int .i64 ((K : Int) + 1))
      obtain ⟨W1, hW1⟩ : ∃ W1, (wr.setCell ⟨g, i * 4, none⟩ (.int .i64 (K : Int))).setCell ⟨g, i * 4 + 1, none⟩ (.int .i64 ((K : Int) + 1)) = W1 := ⟨_, rfl⟩
      rw [hW1] at ho1
      have hg1 : w.grownBy W1 (some g) := by
        rw [← hW1]
        exact HG.out.then_ (⟨rfl, rfl, rfl, by simp [World.setCell], fun q _ hne => (heap_setCell_other _ _ q _ (fun e => hne (by rw [e]))).trans (heap_setCell_other _ _ q _ (fun e => hne (by rw [e])))⟩) (fun j hj => .inr hj)
      have HO1 := Lib.hid ho1
      have HG1 := Lib.hid hg1
      have HW1 := Lib.hid hW1
      have HG23 := Lib.hid (And.intro g2 g3)
      have HLL := Lib.hid (And.intro hL hLl)
      clear ho hL hLl hx gt g2 g3 ho1 hW1 hg1
      go_wp2_with fail
      rw [HW1.out]
      refine (markText_is (K + 2) _ (by omega) (by omega) (by omega) W1).mono ?_
      rintro e w2 ⟨rfl, hb2⟩
      have ho2 := HO1.out.next hb2
      have m2' : w2.cell? ⟨g, i * 4 + 2, none⟩ = some (.string x.s) := OwnR.celled ho2 (by rw [List.getElem?_set_ne (by omega), List.getElem?_set_ne (by omega)]; exact HG23.out.1)
      have f2' := OwnR.thawed ho2 (i * 4 + 2)
      obtain ⟨s, hs⟩ : ∃ s, mt (K + 2) = s := ⟨_, rfl⟩
      rw [hs]
      have ho3 := OwnR.put ho2 (i * 4 + 2) (.string s)
      obtain ⟨W3, hW3⟩ : ∃ W3, w2.setCell ⟨g, i * 4 + 2, none⟩ (.string s) = W3 := ⟨_, rfl⟩
      rw [hW3] at ho3
      have hg3 : w.grownBy W3 (some g) := by
        rw [← hW3]
        exact (HG1.out.trans (grown_of_below hb2 _)).then_ (⟨rfl, rfl, rfl, by simp [World.setCell], fun q _ hne => heap_setCell_other _ _ q _ (fun e => hne (by rw [e]))⟩) (fun j hj => .inr hj)
      have HO3 := Lib.hid ho3
      have HG3 := Lib.hid hg3
      have HW3 := Lib.hid hW3
      have HS := Lib.hid hs
      clear ho2 hb2 hs ho3 hW3 hg3 m0 m1 m2 m3 f0 f1
      go_wp2_with fail
      rw [HW3.out]
      refine (markText_is (K + 3) _ (by omega) (by omega) (by omega) W3).mono ?_
      rintro e w4 ⟨rfl, hb4⟩
      have ho4 := HO3.out.next hb4
      have m3' : w4.cell? ⟨g, i * 4 + 3, none⟩ = some (.string x.f) := OwnR.celled ho4 (by rw [List.getElem?_set_ne (by omega), List.getElem?_set_ne (by omega), List.getElem?_set_ne (by omega)]; exact HG23.out.2)
      have f3' := OwnR.thawed ho4 (i * 4 + 3)
      obtain ⟨f, hf⟩ : ∃ f, mt (K + 3) = f := ⟨_, rfl⟩
      rw [hf]
      have ho5 := OwnR.put ho4 (i * 4 + 3) (.string f)
      have hg5 : w.grownBy (w4.setCell ⟨g, i * 4 + 3, none⟩ (.string f)) (some g) :=
        (HG3.out.trans (grown_of_below hb4 _)).then_ (⟨rfl, rfl, rfl, by simp [World.setCell], fun q _ hne => heap_setCell_other _ _ q _ (fun e => hne (by rw [e]))⟩) (fun j hj => .inr hj)
      have hmk : mkT (k + 4 * i) = ⟨(K : Int), (K : Int) + 1, s, f⟩ := by rw [← HK.out, ← HS.out, ← hf]; rfl
      have htv := TV_set L i ⟨(K : Int), (K : Int) + 1, s, f⟩ (by have := HLL.out.2; omega)
      simp only at htv
      rw [htv, ← hmk, ← HLL.out.1, mark_set (by have := HL.out; omega)] at ho5
      have HF := Lib.hid (And.intro ho5 hg5)
      clear ho4 hb4 hf ho5 hg5 hmk htv m2' f2'
      go_wp2_with fail
      exact ⟨⟨i + 1, K + 4, by omega, by have := HK.out; omega, by go_num, by go_num, HF.out.1, HF.out.2⟩, by simp [intOf]; omega⟩
    · have hie : i = n := by omega
      have ho := HO.out
      rw [hie, List.drop_eq_nil_of_le (by have := HL.out; omega), List.append_nil] at ho
      have HF := Lib.hid (show MarkPost w B (some ⟨g, 0, none⟩) n c k (.returned (.int .i64 (K : Int))) wr from ⟨by rw [HK.out, hie], ho, HG.out⟩)
      clear ho
      go_wp2
      go_ret
      exact HF.out
end Go.Proofs.Ytogplbnabffcfaa
