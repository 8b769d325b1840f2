/-
  Pushes between frames, and the nines of a frame.
-/
import Derived.Test.YtpaepdlkjblfgaaFrFns
import Derived.Deep.RegionHeld3
namespace Go.Proofs.Ytpaepdlkjblfgaa
open Go.RowKit

/-- a frame and whether there is one -/
def FrPair (w : World) (ok : Bool) (ds : List Int) (e : Ending) (w' : World) : Prop :=
  (∃ v, e = .returned (.tuple #[v, .bool ok]) ∧ FrOwn w' w.heap.size v (if ok then ds else [])) ∧ Below w.heap.size w w'
theorem FrPair.no {w w' : World} {ds : List Int} (hb : Below w.heap.size w w') : FrPair w false ds (.returned (.tuple #[.agg #[.slice none 0 0, .slice none 0 0], .bool false])) w' := ⟨⟨_, rfl, FrOwn.nil _ _⟩, hb⟩
theorem nines_next {ds : List Int} {k : Nat} {d : Int} (h : ds[k]? = some d) : ((Fr.nines ds).take k ++ ds.drop k).set k (9 - d) = (Fr.nines ds).take (k + 1) ++ ds.drop (k + 1) := by
  have hl := (List.getElem?_eq_some_iff.1 h).1
  have hn : (Fr.nines ds).length = ds.length := by simp [Fr.nines]
  have h2 : (Fr.nines ds)[k]? = some (9 - d) := by simp [Fr.nines, h]
  rw [take_next h2, drop_cons h, List.set_append_right _ _ (by rw [List.length_take]; omega), List.length_take, show k - min k (Fr.nines ds).length = 0 from by omega, List.set_cons_zero, List.append_assoc]
  rfl

set_option maxRecDepth 100000 in
set_option maxHeartbeats 2000000 in
theorem FrameNines_yes (A A' : Option Addr) (n c c' : Nat) (ds : List Int) (w : World) (hx : Ints w w.heap.size A n (HiL ds)) (hy : Ints w w.heap.size A' n (LoL ds)) (hds : Fr.Digs ds) (h1 : 1 ≤ n) (h6 : n ≤ 6) :
    Calls Try.prog 40 #[.agg #[.slice A n c, .slice A' n c']] w (FrPair w true (Fr.nines ds)) := by
  have hl : ds.length = n := by have := hx.len; rwa [HiL_length] at this
  have HL := Lib.hid hl
  have HX := Lib.hid hx
  have HY := Lib.hid hy
  have HD := Lib.hid hds
  clear hx hy hds hl
  go_enter Try.func40, Try.ntmps40
  go_wp2_with fail
  refine (rodsOf_yes A A' n c c' ds _ ((HX.out.al _).al _) ((HY.out.al _).al _) HD.out h1 h6).mono ?_
  rintro e w1 ⟨⟨g, h, rfl, hr⟩, hb1⟩
  have hz := ((Box.new (w.alloc (.cells #[.slice A n c, .slice A' n c'] 25)) (.slice none 0 0) (.slice none 0 0)).next hb1)
  have hsl := hr.slice
  rw [HL.out] at hsl
  simp only [World.size_alloc] at hz
  have HZ := Lib.hid hz
  have HB := Lib.hid ((below_two w _ _).trans (hb1.mono (by simp; omega)))
  have HR := Lib.hid hr
  clear hz hb1 hr
  have hhl := HR.out.hl
  have hgb := HR.out.2.2.2.1
  simp only [World.size_alloc] at hgb
  go_wp2
  have HG := Lib.hid (World.grownBy.refl w1 (some h))
  go_loopw [20] (fun kv wr => ∃ (k : Nat), kv = .int .i64 (k : Int) ∧ k ≤ n ∧ Rods wr (w.heap.size + 1 + 1) g h ((Fr.nines ds).take k ++ ds.drop k) ∧ w1.grownBy wr (some h)) (fun kv _ => n - (intOf kv).toNat)
  case atStart => exact ⟨0, rfl, by omega, by have := HR.out; simpa using this, HG.out⟩
  case round =>
    clear HR HG hsl
    obtain ⟨k, rfl, hk, hr, hg⟩ := hrel
    have hln : ((Fr.nines ds).take k ++ ds.drop k).length = n := by have := HL.out; simp [Fr.nines]; omega
    have hsl := hr.slice
    rw [hln] at hsl
    have HR := Lib.hid hr
    have HG := Lib.hid hg
    have HLN := Lib.hid hln
    have HZ2 := Lib.hid (HZ.out.grown hg (by intro e; injection e with e; omega))
    have HB2 := Lib.hid (HB.out.grown hg HB.out.size (by rintro q ⟨⟩; omega))
    have hws := HB2.out.size
    clear hr hg hln
    by_cases hlt : k < n
    · obtain ⟨d, hd⟩ : ∃ d, ds[k]? = some d := ⟨_, List.getElem?_eq_getElem (by have := HL.out; omega)⟩
      obtain ⟨d0, d9⟩ := HD.out d (List.mem_of_getElem? hd)
      have hd2 : ((Fr.nines ds).take k ++ ds.drop k)[k]? = some d := by
        have hn : (Fr.nines ds).length = ds.length := by simp [Fr.nines]
        have := HL.out
        rw [List.getElem?_append_right (by rw [List.length_take]; omega), List.length_take, show k - min k (Fr.nines ds).length = 0 from by omega, drop_cons hd]; rfl
      have HDD := Lib.hid hd2
      have HND := Lib.hid (nines_next hd)
      clear hd hd2
      have k0 : (0 : Int) ≤ (k : Int) := by omega
      have k1 : (k : Int) < (n : Int) := by omega
      go_wp2_with fail
      refine (rod_digit HR.out HDD.out d0 d9).mono ?_
      rintro e w2 ⟨rfl, q2, rfl⟩
      go_wp2_with fail
      refine (show_any _ _ g h _ k d (9 - d) (HR.out.drewN _) HDD.out (by omega) (by omega)).mono ?_
      rintro e w3 ⟨rfl, hr3, hg3⟩
      rw [HND.out] at hr3
      have HR3 := Lib.hid hr3
      have HG3 := Lib.hid (HG.out.trans (grown_undrewN hg3))
      clear hr3 hg3
      go_wp2
      go_roundw
      case rel => exact ⟨k + 1, by go_num, by omega, HR3.out, HG3.out⟩
      case measure => simp [intOf]; omega
    · obtain rfl : k = n := by omega
      have hr := HR.out
      rw [List.take_of_length_le (by have := HL.out; simp [Fr.nines]; omega), List.drop_of_length_le (by have := HL.out; omega), List.append_nil] at hr
      have HR2 := Lib.hid hr
      clear hr
      go_wp2_with fail
      refine (frame_any wr _ g h _ k HR2.out (by have := HL.out; simp [Fr.nines]; omega) (Fr.digs_nines ds HD.out) h6).mono ?_
      rintro e w3 ⟨⟨v, rfl, ho⟩, hb3⟩
      have hos := ho.mono (show w.heap.size + 2 ≤ wr.heap.size by have := HR2.out.hl; omega)
      obtain ⟨A2, c2, A3, c3, rfl, -⟩ := ho
      have HO := Lib.hid hos
      have HZ3 := Lib.hid (HZ2.out.next hb3)
      have z30 := HZ3.out.fst
      have z31 := HZ3.out.snd
      have f30 := HZ3.out.free 0
      have f31 := HZ3.out.free 1
      have HB3 := Lib.hid (below_chain HB2.out hb3)
      clear hb3 hos
      go_wp2
      refine bodyPost_ret (v := .tuple #[.agg #[.slice A2 (Fr.nines ds).length c2, .slice A3 (Fr.nines ds).length c3], .bool true]) (by simp [results, Try.results40, go_sem, over_fst HZ3.out, over_snd HZ3.out]) rfl ⟨⟨_, rfl, ?_⟩, below_over HB3.out (by omega) _ _⟩
      exact (HO.out.over (by omega) _ _).mono (by omega)

theorem dist_next {l bs : List Int} : ∀ {k : Nat} {a b : Int}, l[k]? = some a → bs[k]? = some b → Fr.dist (l.take (k + 1)) (bs.take (k + 1)) = Fr.dist (l.take k) (bs.take k) + Fr.cost a b := by
  induction l generalizing bs with
  | nil => intro k a b h _; simp at h
  | cons x xs ih =>
    intro k a b ha hb
    cases bs with
    | nil => simp at hb
    | cons y ys =>
      cases k with
      | zero => simp at ha hb; subst ha; subst hb; simp [Fr.dist]
      | succ k =>
        have := ih (k := k) (by simpa using ha) (by simpa using hb)
        rw [List.take_succ_cons, List.take_succ_cons, List.take_succ_cons, List.take_succ_cons, Fr.dist, Fr.dist, this]
        omega
theorem dist_bd (l : List Int) : ∀ bs, 0 ≤ Fr.dist l bs ∧ Fr.dist l bs ≤ 2 * l.length := by
  induction l with
  | nil => intro bs; simp [Fr.dist]
  | cons a l ih =>
    intro bs
    cases bs with
    | nil => simp [Fr.dist]; omega
    | cons b bs =>
      have := ih bs
      have := cost_le a b
      simp [Fr.dist]
      omega

set_option maxRecDepth 100000 in
set_option maxHeartbeats 2000000 in
theorem FramePushes_yes (A A' B B' : Option Addr) (n c c' d d' : Nat) (ds es : List Int) (w : World) (hx : Ints w w.heap.size A n (HiL ds)) (hy : Ints w w.heap.size A' n (LoL ds)) (hx2 : Ints w w.heap.size B n (HiL es)) (hy2 : Ints w w.heap.size B' n (LoL es)) (hds : Fr.Digs ds) (hes : Fr.Digs es) (h1 : 1 ≤ n) (h6 : n ≤ 6) :
    Calls Try.prog 42 #[.agg #[.slice A n c, .slice A' n c'], .agg #[.slice B n d, .slice B' n d']] w fun e w' => e = .returned (.int .i64 (Fr.dist ds es)) ∧ Below w.heap.size w w' := by
  have hl : ds.length = n := by have := hx.len; rwa [HiL_length] at this
  have hl2 : es.length = n := by have := hx2.len; rwa [HiL_length] at this
  have HL := Lib.hid hl
  have HL2 := Lib.hid hl2
  have HX := Lib.hid hx
  have HY := Lib.hid hy
  have HX2 := Lib.hid hx2
  have HY2 := Lib.hid hy2
  have HD := Lib.hid hds
  have HD2 := Lib.hid hes
  clear hx hy hx2 hy2 hds hes hl hl2
  go_enter Try.func42, Try.ntmps42
  go_wp2_with fail
  refine (rodsOf_yes A A' n c c' ds _ ((HX.out.al _).al _) ((HY.out.al _).al _) HD.out h1 h6).mono ?_
  rintro e w1 ⟨⟨g, h, rfl, hr⟩, hb1⟩
  have hbx := hb1.block (w.heap.size + 1) (by simp)
  have hb0 : w1.heap[w.heap.size + 1]? = some (.cells #[.slice B n d, .slice B' n d'] 25 (0, 0)) := by
    rw [hbx]
    have := heap_alloc_new (w.alloc (.cells #[.slice A n c, .slice A' n c'] 25)) (.cells #[.slice B n d, .slice B' n d'] 25)
    simpa using this
  have hbx0 := Box.fst hb0
  have hbx1 := Box.snd hb0
  have HX3 := Lib.hid (((HX2.out.al (.cells #[.slice A n c, .slice A' n c'] 25)).al (.cells #[.slice B n d, .slice B' n d'] 25)).next hb1)
  have HY3 := Lib.hid (((HY2.out.al (.cells #[.slice A n c, .slice A' n c'] 25)).al (.cells #[.slice B n d, .slice B' n d'] 25)).next hb1)
  have HB := Lib.hid ((below_two w _ _).trans (hb1.mono (by simp; omega)))
  have HR := Lib.hid hr
  clear hb1 hr hbx hb0
  go_wp2_with fail
  refine (rodsOf_yes B B' n d d' es _ HX3.out HY3.out HD2.out h1 h6).mono ?_
  rintro e w2 ⟨⟨g2, h2, rfl, hr2⟩, hb2⟩
  have HR1 := Lib.hid (HR.out.next hb2)
  have HR2 := Lib.hid hr2
  have HB2 := Lib.hid (below_chain HB.out hb2)
  have hsl := HR1.out.slice
  rw [HL.out] at hsl
  have hsl2 := HR2.out.slice
  rw [HL2.out] at hsl2
  clear hbx0 hbx1 hr2 hb2
  go_wp2_with fail
  go_quiet (fail)
  go_wp2
  go_loopw [9, 43] (fun pv kv wr => ∃ (k : Nat) (p : Int), pv = .int .i64 p ∧ kv = .int .i64 (k : Int) ∧ k ≤ n ∧ p = Fr.dist (ds.take k) (es.take k) ∧ Below w2.heap.size w2 wr) (fun _ kv _ => n - (intOf kv).toNat)
  case atStart => exact ⟨0, 0, rfl, rfl, by omega, rfl, below_drewN (Below.refl _ _) _⟩
  case round =>
    obtain ⟨k, p, rfl, rfl, hk, hp, hb⟩ := hrel
    have hbd := dist_bd (ds.take k) (es.take k)
    rw [← hp] at hbd
    have hbd2 : 0 ≤ p ∧ p ≤ 20 := by have := HL.out; rw [List.length_take] at hbd; omega
    obtain ⟨p0, p1⟩ := hbd2
    have HP := Lib.hid hp
    have HBR := Lib.hid hb
    have hr1 := HR1.out.next hb
    have hr2 := HR2.out.next hb
    have hs1 := hr1.slice
    have hs2 := hr2.slice
    rw [HL.out] at hs1
    rw [HL2.out] at hs2
    have HQ1 := Lib.hid hr1
    have HQ2 := Lib.hid hr2
    clear hsl hsl2 hbd hp hb hr1 hr2
    by_cases hlt : k < n
    · obtain ⟨u, hu⟩ : ∃ d, ds[k]? = some d := ⟨_, List.getElem?_eq_getElem (by have := HL.out; omega)⟩
      obtain ⟨v, hv⟩ : ∃ d, es[k]? = some d := ⟨_, List.getElem?_eq_getElem (by have := HL2.out; omega)⟩
      have hch := HQ1.out.hi hu
      have hcl := HQ1.out.lo hu
      have hch2 := HQ2.out.hi hv
      have hcl2 := HQ2.out.lo hv
      have hgl := HQ1.out.gl
      have hhl := HQ1.out.hl
      have HN := Lib.hid (dist_next hu hv)
      obtain ⟨t0, t1⟩ := cost_le u v
      have HU := Lib.hid hu
      clear hu hv
      have k0 : (0 : Int) ≤ (k : Int) := by omega
      have k1 : (k : Int) < (n : Int) := by omega
      go_wp2_with fail
      have hb9 := HBR.out.alloc HBR.out.size (.cells #[.int .i64 (v / 5), .int .i64 (v % 5)] 61)
      have w0 : (wr.alloc (.cells #[.int .i64 (v / 5), .int .i64 (v % 5)] 61)).cell? ⟨wr.heap.size, 0, none⟩ = some (.int .i64 (v / 5)) := by
        rw [cell_of_row _ wr.heap.size 0 _ _ _ (heap_alloc_new wr _)]; rfl
      have w1' : (wr.alloc (.cells #[.int .i64 (v / 5), .int .i64 (v % 5)] 61)).cell? ⟨wr.heap.size, 1, none⟩ = some (.int .i64 (v % 5)) := by
        rw [cell_of_row _ wr.heap.size 1 _ _ _ (heap_alloc_new wr _)]; rfl
      have hsz9 : wr.heap.size < (wr.alloc (.cells #[.int .i64 (v / 5), .int .i64 (v % 5)] 61)).heap.size := by simp
      have hq := HQ1.out.alloc (.cells #[.int .i64 (v / 5), .int .i64 (v % 5)] 61)
      generalize wr.alloc (.cells #[.int .i64 (v / 5), .int .i64 (v % 5)] 61) = W at *
      have hs9 := hq.slice
      rw [HL.out] at hs9
      have hc9 := hq.hi HU.out
      have hc8 := hq.lo HU.out
      have hh9 := hq.hl
      have hg9 := hq.gl
      have HB9 := Lib.hid hb9
      clear hq hb9
      have s1 : IntKind.i64.wrap (p + Fr.cost u v) = p + Fr.cost u v := IntWalk.i64_in _ (by omega)
      go_region_held3 (fun w' => w'.cell? ⟨g, 0, none⟩ = some (.slice (some ⟨h, 0, none⟩) n n) ∧ w'.cell? ⟨wr.heap.size, 0, none⟩ = some (.int .i64 (v / 5)) ∧ w'.cell? ⟨wr.heap.size, 1, none⟩ = some (.int .i64 (v % 5))) (go_keep)
        (first
          | (go_at_call 70; refine (show Calls Try.prog 70 #[.pointer (some ⟨h, k * 2, none⟩), .agg #[.int .i64 (v / 5), .int .i64 (v % 5)]] W.drew (fun e w' => e = .returned (.int .i64 (Fr.cost u v)) ∧ Below W.heap.size W.drew w') from pushesTo_any _ _ _ _ _ _ _ hc9 hc8 hh9).mono ?_; rintro e w3 ⟨rfl, hb3⟩; have y1 : w3.cell? ⟨g, 0, none⟩ = some (.slice (some ⟨h, 0, none⟩) n n) := (hb3.cell (p := ⟨g, 0, none⟩) hg9).trans hs9; have y2 : w3.cell? ⟨wr.heap.size, 0, none⟩ = some (.int .i64 (v / 5)) := (hb3.cell (p := ⟨wr.heap.size, 0, none⟩) hsz9).trans w0; have y3 : w3.cell? ⟨wr.heap.size, 1, none⟩ = some (.int .i64 (v % 5)) := (hb3.cell (p := ⟨wr.heap.size, 1, none⟩) hsz9).trans w1'))
      have HB3 := Lib.hid ((below_drewN HB9.out 1).trans (hb3.mono HB9.out.size))
      clear hb3
      go_wp2
      go_roundw
      case rel => exact ⟨k + 1, p + Fr.cost u v, by go_num, by go_num, by omega, by rw [HN.out, HP.out], HB3.out⟩
      case measure => simp [intOf]; omega
    · go_wp2
      go_ret
      obtain rfl : k = n := by omega
      exact ⟨ret_int (by rw [HP.out, List.take_of_length_le (by have := HL.out; omega), List.take_of_length_le (by have := HL2.out; omega)]), below_chain HB2.out HBR.out⟩
end Go.Proofs.Ytpaepdlkjblfgaa
