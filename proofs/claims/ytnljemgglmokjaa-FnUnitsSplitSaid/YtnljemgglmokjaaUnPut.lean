/-
  A unit put into a chain at its place, and one left out.
-/
import Derived.Test.YtnljemgglmokjaaUnOf
namespace Go.Proofs.Ytnljemgglmokjaa
open Go.RowKit

theorem ins_split (x : Int) (r : List Int) : ∀ d : List Int, (∀ z ∈ d, z ≤ x) → (∀ y ys, r = y :: ys → x < y) → Un.ins x (d ++ r) = d ++ x :: r := by
  intro d
  induction d with
  | nil =>
    intro _ h
    cases r with
    | nil => rfl
    | cons y ys => simp only [List.nil_append, Un.ins]; rw [if_neg (by have := h y ys rfl; omega)]
  | cons z d ih =>
    intro hd h
    simp only [List.cons_append, Un.ins]
    rw [if_pos (hd z (by simp)), ih (fun y hy => hd y (by simp [hy])) h]
/-- where a walk along the chain behind a front node stands -/
structure At (w : World) (f : Nat) (ns d : List (Nat × Int)) (b : Nat) (x : Int) (r : List (Nat × Int)) (m : Option Addr) : Prop where
  eq : (f, 0) :: ns = d ++ (b, x) :: r
  ahead : Seg w (some ⟨f, 0, none⟩) d (some ⟨b, 0, none⟩)
  here : Nd w b x m
  behind : Seg w m r none
theorem At.start {w : World} {f : Nat} {ns : List (Nat × Int)} {m : Option Addr} (h1 : Nd w f 0 m) (h2 : Seg w m ns none) : At w f ns [] f 0 ns m := ⟨rfl, rfl, h1, h2⟩
theorem At.next {w : World} {f b c : Nat} {ns d r : List (Nat × Int)} {x y : Int} {m : Option Addr} (h : At w f ns d b x ((c, y) :: r) m) : ∃ m', m = some ⟨c, 0, none⟩ ∧ At w f ns (d ++ [(b, x)]) c y r m' := by
  obtain ⟨rfl, m', hn, hs⟩ := h.behind
  refine ⟨m', rfl, ?_, ?_, hn, hs⟩
  · rw [h.eq]; simp
  · exact (seg_app d _ _).2 ⟨_, h.ahead, rfl, _, h.here, rfl⟩
theorem At.alloc {w : World} {f b : Nat} {ns d r : List (Nat × Int)} {x : Int} {m : Option Addr} (h : At w f ns d b x r m) (n : Nat) : At (w.drewN n) f ns d b x r m := ⟨h.eq, h.ahead.drewN n, h.here, h.behind.drewN n⟩
/-- what is behind the front node -/
theorem front_is {w : World} {f : Nat} {ns : List (Nat × Int)} (h : Seg w (some ⟨f, 0, none⟩) ((f, 0) :: ns) none) : ∃ p, w.cell? ⟨f, 1, none⟩ = some (.pointer p) ∧ Seg w p ns none := by
  obtain ⟨-, m, hn, hs⟩ := h
  exact ⟨m, hn.cell1, hs⟩
/-- the chain with a number put in behind the node at hand -/
theorem At.put {w : World} {B f b : Nat} {ns d r : List (Nat × Int)} {x : Int} {m : Option Addr} (h : At w f ns d b x r m) (hnd : (blks ((f, 0) :: ns)).Nodup) (hB : ∀ k ∈ blks ns, B ≤ k) (v : Int)
    (hle : ∀ z ∈ (d ++ [(b, x)]).drop 1, z.2 ≤ v) (hgt : ∀ y ys, vals r = y :: ys → v < y) (hBw : B ≤ w.heap.size) :
    ∃ p, (((w.setCell ⟨b, 1, none⟩ (.pointer (some ⟨w.heap.size, 0, none⟩))).alloc (.cells #[.int .i64 v, .pointer m] 50)).cell? ⟨f, 1, none⟩ = some (.pointer p)) ∧
      Cha ((w.setCell ⟨b, 1, none⟩ (.pointer (some ⟨w.heap.size, 0, none⟩))).alloc (.cells #[.int .i64 v, .pointer m] 50)) B p (Un.ins v (vals ns)) := by
  have hbl := h.here.lt
  have hsz0 : (w.setCell ⟨b, 1, none⟩ (.pointer (some ⟨w.heap.size, 0, none⟩))).heap.size = w.heap.size := by simp [World.setCell]
  have hs := seg_insert (w' := (w.setCell ⟨b, 1, none⟩ (.pointer (some ⟨w.heap.size, 0, none⟩))).alloc (.cells #[.int .i64 v, .pointer m] 50)) (nb := w.heap.size) (v := v) h.ahead h.behind
    (by rw [← h.eq]; exact hnd) (fun k hne hlt => (Below.heap_alloc _ _ k (by rw [hsz0]; exact hlt)).trans (heap_setCell_other w _ k _ hne)) ((h.here.set _).keep (Below.heap_alloc _ _ b (by rw [hsz0]; exact hbl))) (by have := nd_new (w.setCell ⟨b, 1, none⟩ (.pointer (some ⟨w.heap.size, 0, none⟩))) v m; rwa [hsz0] at this)
  have hlt : ∀ k ∈ blks ((f, 0) :: ns), k < w.heap.size := by
    rw [h.eq]
    exact Seg.lt _ _ ((seg_app d ((b, x) :: r) (some ⟨f, 0, none⟩)).2 ⟨_, h.ahead, rfl, _, h.here, h.behind⟩)
  have key : ∃ ns', d ++ (b, x) :: (w.heap.size, v) :: r = (f, 0) :: ns' ∧ vals ns' = Un.ins v (vals ns) := by
    have he := h.eq
    cases d with
    | nil =>
      simp only [List.nil_append, List.cons.injEq] at he
      obtain ⟨h1, rfl⟩ := he
      refine ⟨(w.heap.size, v) :: ns, by rw [List.nil_append, h1], ?_⟩
      rw [vals_cons]
      exact (ins_split v (vals ns) [] (by simp) hgt).symm
    | cons z d =>
      simp only [List.cons_append, List.cons.injEq] at he
      obtain ⟨rfl, rfl⟩ := he
      refine ⟨d ++ (b, x) :: (w.heap.size, v) :: r, by simp, ?_⟩
      have := ins_split v (vals r) (vals (d ++ [(b, x)])) (fun z hz => by
        obtain ⟨z', hz', rfl⟩ := List.mem_map.1 hz
        exact hle z' (by simpa using hz')) hgt
      simp only [vals, List.map_append, List.map_cons, List.map_nil, List.append_assoc, List.singleton_append] at this ⊢
      rw [this]
  obtain ⟨ns', e1, e2⟩ := key
  have hf : (blks (d ++ (b, x) :: (w.heap.size, v) :: r)).Nodup := by
    have h0 : (blks (d ++ (b, x) :: r)).Nodup := by rw [← h.eq]; exact hnd
    have h9 : ∀ k ∈ blks (d ++ (b, x) :: r), k < w.heap.size := by rw [← h.eq]; exact hlt
    simp only [blks, List.map_append, List.map_cons, List.nodup_append, List.nodup_cons, List.mem_cons, List.mem_append] at h0 h9 ⊢
    refine ⟨h0.1, ⟨?_, ?_, h0.2.1.2⟩, ?_⟩
    · rintro (e | hm)
      · have := h9 b (.inr (.inl rfl)); omega
      · exact h0.2.1.1 hm
    · intro hm; have := h9 _ (.inr (.inr hm)); omega
    · rintro k hk b' (rfl | rfl | hb')
      · exact h0.2.2 k hk _ (.inl rfl)
      · have := h9 k (.inl hk); omega
      · exact h0.2.2 k hk b' (.inr hb')
  rw [e1] at hf
  simp only [blks, List.map_cons, List.nodup_cons] at hf
  have hsub : ∀ k, k ∈ blks ns' → k = w.heap.size ∨ k ∈ blks ns := by
    intro k hk
    have h1 : k ∈ blks (d ++ (b, x) :: (w.heap.size, v) :: r) := by rw [e1]; simp only [blks, List.map_cons, List.mem_cons]; exact .inr hk
    have h2 : k ∈ blks ((f, 0) :: ns) ∨ k = w.heap.size := by
      rw [h.eq]
      simp only [blks, List.map_append, List.map_cons, List.mem_append, List.mem_cons] at h1 ⊢
      rcases h1 with h1 | h1 | h1 | h1
      · exact .inl (.inl h1)
      · exact .inl (.inr (.inl h1))
      · exact .inr h1
      · exact .inl (.inr (.inr h1))
    rcases h2 with h2 | h2
    · simp only [blks, List.map_cons, List.mem_cons] at h2
      rcases h2 with rfl | h2
      · exact absurd hk hf.1
      · exact .inr h2
    · exact .inl h2
  rw [e1] at hs
  obtain ⟨p, hc, hsg⟩ := front_is hs
  refine ⟨p, hc, ns', hsg, ?_, fun k hk => ?_, e2⟩
  · exact hf.2
  · rcases hsub k hk with rfl | h2
    · exact hBw
    · exact hB k h2
/-- the chain with the node behind the one at hand left out -/
theorem At.cut {w : World} {B f b c : Nat} {ns d r : List (Nat × Int)} {x y : Int} {m m' : Option Addr} (h : At w f ns d b x ((c, y) :: r) m) (_hm : Nd w c y m') (hs : Seg w m' r none) (hnd : (blks ((f, 0) :: ns)).Nodup) (hB : ∀ k ∈ blks ns, B ≤ k) :
    ∃ p, ((w.setCell ⟨b, 1, none⟩ (.pointer m')).cell? ⟨f, 1, none⟩ = some (.pointer p)) ∧ Cha (w.setCell ⟨b, 1, none⟩ (.pointer m')) B p ((vals ns).eraseIdx d.length) := by
  have hs2 := seg_without (w' := w.setCell ⟨b, 1, none⟩ (.pointer m')) h.ahead hs (by rw [← h.eq]; exact hnd) (fun k hne hlt => heap_setCell_other _ _ k _ hne) (h.here.set m')
  have key : ∃ ns', d ++ (b, x) :: r = (f, 0) :: ns' ∧ vals ns' = (vals ns).eraseIdx d.length ∧ (∀ k ∈ blks ns', k ∈ blks ns) ∧ ((blks ns).Nodup → (blks ns').Nodup) := by
    have he := h.eq
    cases d with
    | nil =>
      simp only [List.nil_append, List.cons.injEq] at he
      obtain ⟨h1, rfl⟩ := he
      refine ⟨r, by rw [List.nil_append, h1], rfl, fun k hk => ?_, fun hn => ?_⟩
      · simp only [blks, List.map_cons, List.mem_cons] at hk ⊢; exact .inr hk
      · simp only [blks, List.map_cons, List.nodup_cons] at hn; exact hn.2
    | cons z d =>
      simp only [List.cons_append, List.cons.injEq] at he
      obtain ⟨rfl, rfl⟩ := he
      refine ⟨d ++ (b, x) :: r, by simp, ?_, fun k hk => ?_, fun hn => ?_⟩
      · have e1 : vals (d ++ (b, x) :: (c, y) :: r) = vals (d ++ [(b, x)]) ++ y :: vals r := by simp [vals]
        have e2 : vals (d ++ (b, x) :: r) = vals (d ++ [(b, x)]) ++ vals r := by simp [vals]
        have e3 : (vals (d ++ [(b, x)])).length = d.length + 1 := by simp [vals]
        rw [e1, e2, List.length_cons, List.eraseIdx_append_of_length_le (by omega), e3, Nat.sub_self]
        rfl
      · simp only [blks, List.map_append, List.map_cons, List.mem_append, List.mem_cons] at hk ⊢
        rcases hk with h1 | h1 | h1
        · exact .inl h1
        · exact .inr (.inl h1)
        · exact .inr (.inr (.inr h1))
      · simp only [blks, List.map_append, List.map_cons, List.nodup_append, List.nodup_cons, List.mem_cons] at hn ⊢
        refine ⟨hn.1, ⟨fun hm => hn.2.1.1 (.inr hm), hn.2.1.2.2⟩, fun k hk b' hb' => hn.2.2 k hk b' ?_⟩
        rcases hb' with h1 | h1
        · exact .inl h1
        · exact .inr (.inr h1)
  obtain ⟨ns', e1, e2, e3, e4⟩ := key
  rw [e1] at hs2
  obtain ⟨p, hc, hsg⟩ := front_is hs2
  simp only [blks, List.map_cons, List.nodup_cons] at hnd
  exact ⟨p, hc, ns', hsg, e4 hnd.2, fun k hk => hB k (e3 k hk), e2⟩

set_option maxRecDepth 100000 in
set_option maxHeartbeats 2000000 in
theorem with_any (B : Nat) (p : Option Addr) (l : List Int) (v : Int) (w : World) (hc : Cha w B p l) (hB : B ≤ w.heap.size) :
    Calls Try.prog 26 #[.pointer p, .int .i64 v] w fun e w' => (∃ q, e = .returned (.pointer q) ∧ Cha w' B q (Un.ins v l)) ∧ Below B w w' := by
  obtain ⟨ns, hs, hnd, hbs, rfl⟩ := hc
  have hnd0 : (blks ((w.heap.size, 0) :: ns)).Nodup := by
    simp only [blks, List.map_cons, List.nodup_cons]
    exact ⟨fun hm => by have := hs.lt ns p _ hm; omega, hnd⟩
  have HND := Lib.hid hnd0
  have HBS := Lib.hid hbs
  have HST := Lib.hid (At.start (nd_new w 0 p) (hs.alloc (.cells #[.int .i64 0, .pointer p] 50)))
  have HB0 := Lib.hid ((Below.refl B w).alloc hB (.cells #[.int .i64 0, .pointer p] 50))
  clear hs hnd hbs hnd0
  go_enter Try.func26, Try.ntmps26
  go_wp2_with fail
  go_loopw [6] (fun av wr => ∃ (d : List (Nat × Int)) (b : Nat) (x : Int) (r : List (Nat × Int)) (m : Option Addr), av = .pointer (some ⟨b, 0, none⟩) ∧ At wr w.heap.size ns d b x r m ∧ (∀ z ∈ (d ++ [(b, x)]).drop 1, z.2 ≤ v) ∧ Below B w wr) (fun av wr => lenOf wr (ptrOf av))
  case atStart => exact ⟨[], w.heap.size, 0, ns, p, rfl, HST.out, by simp, HB0.out⟩
  case round =>
    clear HST HB0
    obtain ⟨d, b, x, r, m, rfl, hat, hle, hbel⟩ := hrel
    have hsz := hbel.size
    have hlt := hat.here.lt
    have c1 := hat.here.cell1
    have hm1 : lenOf wr (some ⟨b, 0, none⟩) = r.length + 1 := lenOf_is (ns := (b, x) :: r) ⟨rfl, m, hat.here, hat.behind⟩
    have hbB : B ≤ b := by
      have hmem : b ∈ blks ((w.heap.size, 0) :: ns) := by rw [hat.eq]; simp [blks]
      simp only [blks, List.map_cons, List.mem_cons] at hmem
      rcases hmem with rfl | hm
      · exact hB
      · exact HBS.out b hm
    have hend : (∀ y ys, vals r = y :: ys → v < y) → ∃ q, (((wr.setCell ⟨b, 1, none⟩ (.pointer (some ⟨wr.heap.size, 0, none⟩))).alloc (.cells #[.int .i64 v, .pointer m] 50)).cell? ⟨w.heap.size, 1, none⟩ = some (.pointer q)) ∧
        Cha ((wr.setCell ⟨b, 1, none⟩ (.pointer (some ⟨wr.heap.size, 0, none⟩))).alloc (.cells #[.int .i64 v, .pointer m] 50)) B q (Un.ins v (vals ns)) :=
      fun hgt => hat.put HND.out HBS.out v hle hgt (Nat.le_trans hB hsz)
    have hfz := hat.here.frozen
    have HB9 := Lib.hid ((hbel.setCell (p := ⟨b, 1, none⟩) hbB (.pointer (some ⟨wr.heap.size, 0, none⟩))).alloc (by simp [World.setCell]; omega) (.cells #[.int .i64 v, .pointer m] 50))
    have HB := Lib.hid hbel
    clear hbel
    cases r with
    | nil =>
      obtain rfl : m = none := hat.behind
      obtain ⟨q, hcf, hch⟩ := hend (by intro y ys e; simp [vals] at e)
      have HCH := Lib.hid hch
      clear hend hch hat hle hm1
      go_wp2
      go_ret
      exact ⟨⟨_, rfl, HCH.out⟩, HB9.out⟩
    | cons z r =>
      obtain ⟨c, y⟩ := z
      obtain ⟨m', rfl, hat2⟩ := hat.next
      have cy := hat2.here.cell0
      by_cases hy : y ≤ v
      · have hm2 : lenOf wr (some ⟨c, 0, none⟩) = r.length + 1 := lenOf_is (ns := (c, y) :: r) ⟨rfl, m', hat2.here, hat2.behind⟩
        have HAT2 := Lib.hid hat2
        have HLE2 : Hid (∀ z ∈ (d ++ [(b, x)] ++ [(c, y)]).drop 1, z.2 ≤ v) := Lib.hid (by
          intro z hz
          rw [List.drop_append_of_le_length (by simp)] at hz
          rcases List.mem_append.1 hz with hz | hz
          · exact hle z hz
          · simp at hz; rw [hz]; exact hy)
        clear hend hat hle hat2 hfz
        go_wp2_with fail
        go_roundw
        case rel => exact ⟨_, c, y, r, m', rfl, HAT2.out, HLE2.out, HB.out⟩
        case measure => simp only [ptrOf]; rw [hm1, hm2]; simp
      · obtain ⟨q, hcf, hch⟩ := hend (by intro y' ys e; rw [vals_cons] at e; injection e with e1; omega)
        have HCH := Lib.hid hch
        clear hend hch hat hle hm1 hat2
        go_wp2
        go_ret
        exact ⟨⟨_, rfl, HCH.out⟩, HB9.out⟩

set_option maxRecDepth 100000 in
set_option maxHeartbeats 2000000 in
theorem without_any (B : Nat) (p : Option Addr) (l : List Int) (k : Nat) (w : World) (hc : Cha w B p l) (hB : B ≤ w.heap.size) (hk : k < l.length) (hk2 : k ≤ 1000) :
    Calls Try.prog 28 #[.pointer p, .int .i64 (k : Int)] w fun e w' => (∃ q, e = .returned (.pointer q) ∧ Cha w' B q (l.eraseIdx k)) ∧ Below B w w' := by
  obtain ⟨ns, hs, hnd, hbs, rfl⟩ := hc
  have hnd0 : (blks ((w.heap.size, 0) :: ns)).Nodup := by
    simp only [blks, List.map_cons, List.nodup_cons]
    exact ⟨fun hm => by have := hs.lt ns p _ hm; omega, hnd⟩
  have hkl : k < ns.length := by simpa [vals] using hk
  have HND := Lib.hid hnd0
  have HBS := Lib.hid hbs
  have HST := Lib.hid (At.start (nd_new w 0 p) (hs.alloc (.cells #[.int .i64 0, .pointer p] 50)))
  have HB0 := Lib.hid ((Below.refl B w).alloc hB (.cells #[.int .i64 0, .pointer p] 50))
  clear hs hnd hbs hnd0 hk
  go_enter Try.func28, Try.ntmps28
  go_wp2_with fail
  go_loopw [1, 6] (fun iv av wr => ∃ (j : Nat) (d : List (Nat × Int)) (b : Nat) (x : Int) (r : List (Nat × Int)) (m : Option Addr), iv = .int .i64 (j : Int) ∧ av = .pointer (some ⟨b, 0, none⟩) ∧ d.length + j = k ∧ At wr w.heap.size ns d b x r m ∧ Below B w wr) (fun iv _ _ => (intOf iv).toNat)
  case atStart => exact ⟨k, [], w.heap.size, 0, ns, p, rfl, rfl, by simp, HST.out, HB0.out⟩
  case round =>
    clear HST HB0
    obtain ⟨j, d, b, x, r, m, rfl, rfl, hj, hat, hbel⟩ := hrel
    have hsz := hbel.size
    have c1 := hat.here.cell1
    have hfz := hat.here.frozen
    have hlen : r.length + d.length = ns.length := by have := congrArg List.length hat.eq; simp at this; omega
    have hbB : B ≤ b := by
      have hmem : b ∈ blks ((w.heap.size, 0) :: ns) := by rw [hat.eq]; simp [blks]
      simp only [blks, List.map_cons, List.mem_cons] at hmem
      rcases hmem with rfl | hm
      · exact hB
      · exact HBS.out b hm
    cases r with
    | nil => simp at hlen; omega
    | cons z r =>
      obtain ⟨c, y⟩ := z
      obtain ⟨m', rfl, hat2⟩ := hat.next
      have cy := hat2.here.cell1
      cases j with
      | zero =>
        obtain rfl : d.length = k := by omega
        obtain ⟨q, hcf, hch⟩ := hat.cut hat2.here hat2.behind HND.out HBS.out
        have HCH := Lib.hid hch
        have HB9 := Lib.hid (hbel.setCell (p := ⟨b, 1, none⟩) hbB (.pointer m'))
        clear hch hat hat2 hbel hlen
        go_wp2
        go_ret
        exact ⟨⟨_, rfl, HCH.out⟩, HB9.out⟩
      | succ j =>
        have HAT2 := Lib.hid hat2
        have HB := Lib.hid hbel
        clear hat hat2 hbel hfz
        go_wp2_with fail
        go_roundw
        case rel => exact ⟨j, _, c, y, r, m', by go_num, rfl, by simp; omega, HAT2.out, HB.out⟩
        case measure => simp [intOf]
end Go.Proofs.Ytnljemgglmokjaa
