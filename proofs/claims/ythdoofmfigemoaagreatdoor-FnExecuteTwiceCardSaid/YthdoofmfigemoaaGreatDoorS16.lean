/-
  Joined texts.
-/
import Derived.Test.YthdoofmfigemoaaGreatDoorS14
import Derived.Test.YthdoofmfigemoaaGreatDoorS15
set_option linter.unusedSimpArgs false
set_option linter.unusedVariables false
set_option maxRecDepth 100000
set_option maxHeartbeats 4000000
namespace Go.Proofs.YthdoofmfigemoaaGreatDoor
open Go.RowKit
def SVal (w : World) (s : St) (v : Value) : Prop :=
 ∃ Ab nb cb A c A' c' At nt ct, v = .agg #[.slice Ab nb cb, .slice A 4 c, .slice A' 4 c', .slice At nt ct] ∧ Ints w w.heap.size Ab nb s.bs ∧ Ints w w.heap.size A 4 (HiL s.ds) ∧ Ints w w.heap.size A' 4 (LoL s.ds) ∧ Tals w w.heap.size At nt s.ts
theorem SVal.next {w w' : World} {s : St} {v : Value} (h : SVal w s v) (hb : Below w.heap.size w w') : SVal w' s v := by
 obtain ⟨Ab, nb, cb, A, c, A', c', At, nt, ct, h0, h1, h2, h3, h4⟩ := h
 exact ⟨Ab, nb, cb, A, c, A', c', At, nt, ct, h0, h1.next hb, h2.next hb, h3.next hb, h4.next hb⟩
theorem cells4 {w : World} {b : Nat} {x0 x1 x2 x3 : Value} {ty : TypeId} (h : Blk w b #[x0, x1, x2, x3] ty) :
  (w.cell? ⟨b, 0, none⟩ = some x0 ∧ w.cell? ⟨b, 1, none⟩ = some x1 ∧ w.cell? ⟨b, 2, none⟩ = some x2 ∧ w.cell? ⟨b, 3, none⟩ = some x3) ∧
  (w.frozen? ⟨b, 0, none⟩ = false ∧ w.frozen? ⟨b, 1, none⟩ = false ∧ w.frozen? ⟨b, 2, none⟩ = false ∧ w.frozen? ⟨b, 3, none⟩ = false) ∧ b < w.heap.size :=
 ⟨⟨h.cell (j := 0) rfl, h.cell (j := 1) rfl, h.cell (j := 2) rfl, h.cell (j := 3) rfl⟩, ⟨h.free 0, h.free 1, h.free 2, h.free 3⟩, h.lt⟩
def FramePost (w : World) (R : Option (List Int × Int)) (Ab At : Option Addr) (nb cb nt ct : Nat) (e : Ending) (w' : World) : Prop :=
 ∃ (A A' : Option Addr) (n c c' : Nat) (t : ByteArray), e = .returned (.tuple #[.agg #[.slice Ab nb cb, .slice A n c, .slice A' n c', .slice At nt ct], .string t, .bool R.isSome]) ∧
  (∀ es p, R = some (es, p) → t = dec p ++ ⟨#[10]⟩ ∧ n = 4 ∧ Own w' w.heap.size A 4 c (HiL es) ∧ Own w' w.heap.size A' 4 c' (LoL es)) ∧ Below w.heap.size w w'
theorem resN_bd {s : St} (hs : InvB s) {sg : Int} (hg : Fr.Sgn sg) (x : Int) : 0 ≤ resN (frBy sg s.ds x) ∧ resN (frBy sg s.ds x) ≤ 1000 ∧ ∀ es p, frBy sg s.ds x = some (es, p) → es.length = 4 := by
 cases hr : frBy sg s.ds x with
 | none => exact ⟨by simp [resN], by simp [resN], fun es p h => by cases h⟩
 | some q =>
  obtain ⟨es, p⟩ := q
  obtain ⟨-, h2, h3, h4⟩ := fr_post hg hs.dg hs.four es p hr
  exact ⟨h3, h4, fun es' p' h => by injection h with h; injection h with h; subst h; exact h2⟩
abbrev T75 : TypeId := 75
theorem Own.box4 {w : World} {b B n c : Nat} {A : Option Addr} {xs : List Int} {y0 y1 y2 y3 : Value} (hz : Blk w b #[y0, y1, y2, y3] T75) (o1 : Own w B A n c xs) (x0 x1 x2 x3 : Value) :
  Own ((((w.setCell ⟨b, 0, none⟩ x0).setCell ⟨b, 1, none⟩ x1).setCell ⟨b, 2, none⟩ x2).setCell ⟨b, 3, none⟩ x3) B A n c xs := by
 have z1 := hz.set 0 x0
 have z2 := z1.set 1 x1
 have z3 := z2.set 2 x2
 exact ((((o1.r.far hz (by decide) 0 x0).far z1 (by decide) 1 x1).far z2 (by decide) 2 x2).far z3 (by decide) 3 x3)
theorem l9Frame_add (s : St) (hs : InvB s) (x : Int) (Ab A A' At : Option Addr) (nb cb c c' nt ct : Nat) (w : World) (h1 : Ints w w.heap.size Ab nb s.bs) (h2 : Ints w w.heap.size A 4 (HiL s.ds)) (h3 : Ints w w.heap.size A' 4 (LoL s.ds)) (h4 : Tals w w.heap.size At nt s.ts) :
  Calls Tryz.prog 101 #[.agg #[.slice Ab nb cb, .slice A 4 c, .slice A' 4 c', .slice At nt ct], .string ⟨#[97, 100, 100]⟩, .int .i64 x] w (FramePost w (frBy 1 s.ds x) Ab At nb cb nt ct) := by
 obtain ⟨n0, n1, n4⟩ := resN_bd hs (.inl rfl) x
 have hF : frOf (HiL s.ds) (LoL s.ds) (fun ds => frBy 1 ds x) (frBy 1 s.ds x) := .inr ⟨s.ds, hs.dg, rfl, rfl, by rw [hs.four]; omega, by rw [hs.four]; omega, rfl⟩
 obtain ⟨R, hR⟩ : ∃ R, frBy 1 s.ds x = R := ⟨_, rfl⟩
 rw [hR] at n0 n1 n4 hF ⊢
 have HI := Hd (And.intro h1 (And.intro h2 (And.intro h3 h4)))
 have HF := Hd hF
 have HN4 := Hd n4
 clear h1 h2 h3 h4 hF n4 hR
 go_enter Tryz.func101, Tryz.ntmps101
 go_wp2_with fail
 refine (specFrameSum_any A A' 4 4 c c' _ _ x R _ ((HI.out.2.1.al _).al _) ((HI.out.2.2.1.al _).al _) HF.out).mono ?_
 rintro e w1 ⟨⟨v, rfl, ho⟩, hb1⟩
 have t3 := ((Blk.new w #[.slice Ab nb cb, .slice A 4 c, .slice A' 4 c', .slice At nt ct] T75).alloc (.cells #[.slice none 0 0, .slice none 0 0, .slice none 0 0, .slice none 0 0] T75)).next hb1
 have t6 := (Blk.new (w.alloc (.cells #[.slice Ab nb cb, .slice A 4 c, .slice A' 4 c', .slice At nt ct] T75)) #[.slice none 0 0, .slice none 0 0, .slice none 0 0, .slice none 0 0] T75).next hb1
 have hb1w : Below w.heap.size w w1 := (((Below.refl _ _).alloc (Nat.le_refl _) _).alloc (by simp) _).trans (hb1.mono (by simp; omega))
 simp only [World.size_alloc] at t6 ho
 obtain ⟨⟨a0, a1, a2, a3⟩, ⟨f0, f1, f2, f3⟩, lt3⟩ := cells4 t3
 obtain ⟨⟨b0, b1, b2, b3⟩, ⟨g0, g1, g2, g3⟩, lt6⟩ := cells4 t6
 obtain ⟨A2, c2, A3, c3, rfl, o1, o2, -, -⟩ := ho
 obtain ⟨m, hm⟩ : ∃ m, (resL R).length = m := ⟨_, rfl⟩
 rw [hm] at o1 o2 ⊢
 have HO := Hd (And.intro o1 (And.intro o2 hm))
 have HT3 := Hd t3
 have HT6 := Hd t6
 have HB1 := Hd hb1w
 clear o1 o2 hm t3 t6 hb1 hb1w
 go_wp2_with fail
 obtain ⟨W, hW⟩ : ∃ V, (((w1.setCell ⟨w.heap.size, 1, none⟩ (.slice A2 m c2)).setCell ⟨w.heap.size, 2, none⟩ (.slice A3 m c3)).alloc (.cells #[.slice A2 m c2, .slice A3 m c3] 30)) = V := ⟨_, rfl⟩
 have x3 : Blk W w.heap.size #[.slice Ab nb cb, .slice A2 m c2, .slice A3 m c3, .slice At nt ct] T75 := by rw [← hW]; exact ((HT3.out.set 1 (.slice A2 m c2)).set 2 (.slice A3 m c3)).alloc _
 have x6 : Blk W (w.heap.size + 1) #[.slice none 0 0, .slice none 0 0, .slice none 0 0, .slice none 0 0] T75 := by rw [← hW]; exact ((HT6.out.other (by simp) _).other (by simp) _).alloc _
 have xb : Below w.heap.size w W := by rw [← hW]; exact ((HB1.out.setCell (p := ⟨w.heap.size, 1, none⟩) (Nat.le_refl _) _).setCell (p := ⟨w.heap.size, 2, none⟩) (Nat.le_refl _) _).alloc (by simp [World.setCell]; exact HB1.out.size) _
 have xo1 : Own W (w.heap.size + 1 + 1) A2 m c2 (HiL (resL R)) := by
  rw [← hW]; exact ((HO.out.1.r.far HT3.out (by decide) 1 _).far (HT3.out.set 1 _) (by decide) 2 _).alloc _
 have xo2 : Own W (w.heap.size + 1 + 1) A3 m c3 (LoL (resL R)) := by
  rw [← hW]; exact ((HO.out.2.1.r.far HT3.out (by decide) 1 _).far (HT3.out.set 1 _) (by decide) 2 _).alloc _
 rw [hW]
 obtain ⟨⟨p0, p1, p2, p3⟩, -, ltp⟩ := cells4 x3
 obtain ⟨⟨q0, q1, q2, q3⟩, ⟨r0, r1, r2, r3⟩, ltq⟩ := cells4 x6
 have hds := dec_size (resN R) (by omega) (by omega)
 have hl1 := no_long (n := (dec (resN R)).size) (by omega) 1 (by omega)
 have HD := Hd (l6Dec_int (resN R) n0 (by omega) W.drew)
 have HX := Hd (And.intro x3 (And.intro x6 (And.intro xb (And.intro xo1 xo2))))
 have HM := Hd HO.out.2.2
 clear hW HO HT3 HT6 HB1 a0 a1 a2 a3 f0 f1 f2 f3 b0 b1 b2 b3 g0 g1 g2 g3 lt3 lt6 x3 x6 xb xo1 xo2 n0 n1
 go_region_with (go_at_call 53; refine HD.out.mono ?_; rintro e w5 ⟨rfl, hb5'⟩; have hb5 := (Below.refl W.heap.size W).drew.trans hb5'; have HB5 := Hd hb5; obtain ⟨⟨u0, u1, u2, u3⟩, -, ltu⟩ := cells4 (HX.out.1.next hb5); obtain ⟨⟨v0, v1, v2, v3⟩, ⟨y0, y1, y2, y3⟩, ltv⟩ := cells4 (HX.out.2.1.next hb5); clear hb5 hb5')
 all_goals
  go_wp2_with fail
  have hz := (HX.out.2.1.next HB5.out).set4 (.slice Ab nb cb) (.slice A2 m c2) (.slice A3 m c3) (.slice At nt ct)
  obtain ⟨⟨z0, z1, z2, z3⟩, -, -⟩ := cells4 hz
  refine bodyPost_ret (v := .tuple #[.agg #[.slice Ab nb cb, .slice A2 m c2, .slice A3 m c3, .slice At nt ct], .string (dec (resN R) ++ ⟨#[10]⟩), .bool R.isSome]) (by simp [results, Tryz.results101, go_sem, z0, z1, z2, z3]) rfl ?_
  have hbw : Below w.heap.size w w5 := HX.out.2.2.1.trans (HB5.out.mono HX.out.2.2.1.size)
  refine ⟨A2, A3, m, c2, c3, _, rfl, ?_, below_set4 hbw (by omega) _ _ _ _⟩
  intro es p hR
  have hO1 := HX.out.2.2.2.1.next HB5.out
  have hO2 := HX.out.2.2.2.2.next HB5.out
  have e0 := HM.out
  rw [hR] at hO1 hO2 e0
  obtain rfl : m = 4 := by rw [← e0]; exact HN4.out es p hR
  exact ⟨by rw [hR]; rfl, rfl, (Own.box4 (HX.out.2.1.next HB5.out) hO1 _ _ _ _).mono (by omega), (Own.box4 (HX.out.2.1.next HB5.out) hO2 _ _ _ _).mono (by omega)⟩
theorem l9Frame_take (s : St) (hs : InvB s) (x : Int) (Ab A A' At : Option Addr) (nb cb c c' nt ct : Nat) (w : World) (h1 : Ints w w.heap.size Ab nb s.bs) (h2 : Ints w w.heap.size A 4 (HiL s.ds)) (h3 : Ints w w.heap.size A' 4 (LoL s.ds)) (h4 : Tals w w.heap.size At nt s.ts) :
  Calls Tryz.prog 101 #[.agg #[.slice Ab nb cb, .slice A 4 c, .slice A' 4 c', .slice At nt ct], .string ⟨#[116, 97, 107, 101]⟩, .int .i64 x] w (FramePost w (frBy (-1) s.ds x) Ab At nb cb nt ct) := by
 obtain ⟨n0, n1, n4⟩ := resN_bd hs (.inr rfl) x
 have hF : frOf (HiL s.ds) (LoL s.ds) (fun ds => frBy (-1) ds x) (frBy (-1) s.ds x) := .inr ⟨s.ds, hs.dg, rfl, rfl, by rw [hs.four]; omega, by rw [hs.four]; omega, rfl⟩
 obtain ⟨R, hR⟩ : ∃ R, frBy (-1) s.ds x = R := ⟨_, rfl⟩
 rw [hR] at n0 n1 n4 hF ⊢
 have HF1 := Hd (show frOf (HiL s.ds) (LoL s.ds) (fun ds => frBy 1 ds x) (frBy 1 s.ds x) from .inr ⟨s.ds, hs.dg, rfl, rfl, by rw [hs.four]; omega, by rw [hs.four]; omega, rfl⟩)
 obtain ⟨R1, hR1⟩ : ∃ R1, frBy 1 s.ds x = R1 := ⟨_, rfl⟩
 rw [hR1] at HF1
 clear hR1
 have HI := Hd (And.intro h1 (And.intro h2 (And.intro h3 h4)))
 have HF := Hd hF
 have HN4 := Hd n4
 clear h1 h2 h3 h4 hF n4 hR
 go_enter Tryz.func101, Tryz.ntmps101
 go_wp2_with fail
 refine (specFrameSum_any A A' 4 4 c c' _ _ x R1 _ ((HI.out.2.1.al _).al _) ((HI.out.2.2.1.al _).al _) HF1.out).mono ?_
 rintro e w0 ⟨⟨v0, rfl, ho0⟩, hb0⟩
 have t3 := ((Blk.new w #[.slice Ab nb cb, .slice A 4 c, .slice A' 4 c', .slice At nt ct] T75).alloc (.cells #[.slice none 0 0, .slice none 0 0, .slice none 0 0, .slice none 0 0] T75)).next hb0
 have t6 := (Blk.new (w.alloc (.cells #[.slice Ab nb cb, .slice A 4 c, .slice A' 4 c', .slice At nt ct] T75)) #[.slice none 0 0, .slice none 0 0, .slice none 0 0, .slice none 0 0] T75).next hb0
 have hb0w : Below w.heap.size w w0 := (((Below.refl _ _).alloc (Nat.le_refl _) _).alloc (by simp) _).trans (hb0.mono (by simp; omega))
 simp only [World.size_alloc] at t6
 obtain ⟨⟨a0, a1, a2, a3⟩, -, lt3⟩ := cells4 t3
 obtain ⟨B2, d2, B3, d3, rfl, -⟩ := ho0
 obtain ⟨m0, hm0⟩ : ∃ m0, (resL R1).length = m0 := ⟨_, rfl⟩
 rw [hm0]
 have HT30 := Hd t3
 have HT60 := Hd t6
 have HB0 := Hd hb0w
 clear t3 t6 hb0 hb0w hm0
 go_wp2_with fail
 have ix := HI.out.2.1.next HB0.out
 have iy := HI.out.2.2.1.next HB0.out
 refine (specFrameLess_any A A' 4 4 c c' _ _ x R _ (ix.al _) (iy.al _) HF.out).mono ?_
 rintro e w1 ⟨⟨v, rfl, ho⟩, hb1⟩
 have t3 := (HT30.out.alloc (.cells #[.slice B2 m0 d2, .slice B3 m0 d3] 30)).next hb1
 have t6 := (HT60.out.alloc (.cells #[.slice B2 m0 d2, .slice B3 m0 d3] 30)).next hb1
 have t9 := (Blk.new w0 #[.slice B2 m0 d2, .slice B3 m0 d3] 30).next hb1
 have hb1w : Below w.heap.size w w1 := (HB0.out.alloc HB0.out.size _).trans (hb1.mono (by have := HB0.out.size; simp; omega))
 simp only [World.size_alloc] at ho
 have lt30 := lt3
 have lt60 := HT60.out.lt
 clear a0 a1 a2 a3 lt3
 obtain ⟨⟨a0, a1, a2, a3⟩, ⟨f0, f1, f2, f3⟩, lt3⟩ := cells4 t3
 obtain ⟨⟨b0, b1, b2, b3⟩, ⟨g0, g1, g2, g3⟩, lt6⟩ := cells4 t6
 have k0 := t9.cell (j := 0) (v := .slice B2 m0 d2) rfl
 have k1 := t9.cell (j := 1) (v := .slice B3 m0 d3) rfl
 have k2 := t9.free 0
 have k3 := t9.free 1
 have k4 := t9.lt
 obtain ⟨A2, c2, A3, c3, rfl, o1, o2, -, -⟩ := ho
 obtain ⟨m, hm⟩ : ∃ m, (resL R).length = m := ⟨_, rfl⟩
 rw [hm] at o1 o2 ⊢
 have HO := Hd (And.intro o1 (And.intro o2 hm))
 have HT3 := Hd t3
 have HT6 := Hd t6
 have HT9 := Hd t9
 have HB1 := Hd hb1w
 clear o1 o2 hm t3 t6 t9 hb1 hb1w ix iy HT30 HT60
 go_wp2_with fail
 obtain ⟨W, hW⟩ : ∃ V, ((((w1.setCell ⟨w0.heap.size, 0, none⟩ (.slice A2 m c2)).setCell ⟨w0.heap.size, 1, none⟩ (.slice A3 m c3)).setCell ⟨w.heap.size, 1, none⟩ (.slice A2 m c2)).setCell ⟨w.heap.size, 2, none⟩ (.slice A3 m c3)) = V := ⟨_, rfl⟩
 have z31 := HT3.out.other (p := ⟨w0.heap.size, 0, none⟩) (by show w.heap.size ≠ w0.heap.size; omega) (.slice A2 m c2)
 have z32 := z31.other (p := ⟨w0.heap.size, 1, none⟩) (by show w.heap.size ≠ w0.heap.size; omega) (.slice A3 m c3)
 have x3 : Blk W w.heap.size #[.slice Ab nb cb, .slice A2 m c2, .slice A3 m c3, .slice At nt ct] T75 := by rw [← hW]; exact (z32.set 1 (.slice A2 m c2)).set 2 (.slice A3 m c3)
 have x6 : Blk W (w.heap.size + 1) #[.slice none 0 0, .slice none 0 0, .slice none 0 0, .slice none 0 0] T75 := by
  rw [← hW]
  exact (((HT6.out.other (p := ⟨w0.heap.size, 0, none⟩) (by show w.heap.size + 1 ≠ w0.heap.size; omega) _).other (p := ⟨w0.heap.size, 1, none⟩) (by show w.heap.size + 1 ≠ w0.heap.size; omega) _).other (by simp) _).other (by simp) _
 have xb : Below w.heap.size w W := by rw [← hW]; exact ((((HB1.out.setCell (p := ⟨w0.heap.size, 0, none⟩) HB0.out.size _).setCell (p := ⟨w0.heap.size, 1, none⟩) HB0.out.size _).setCell (p := ⟨w.heap.size, 1, none⟩) (Nat.le_refl _) _).setCell (p := ⟨w.heap.size, 2, none⟩) (Nat.le_refl _) _)
 have xo1 : Own W (w0.heap.size + 1) A2 m c2 (HiL (resL R)) := by
  rw [← hW]; exact ((((HO.out.1.r.far HT9.out (by decide) 0 _).far (HT9.out.set 0 _) (by decide) 1 _).far z32 (by decide) 1 _).far (z32.set 1 _) (by decide) 2 _)
 have xo2 : Own W (w0.heap.size + 1) A3 m c3 (LoL (resL R)) := by
  rw [← hW]; exact ((((HO.out.2.1.r.far HT9.out (by decide) 0 _).far (HT9.out.set 0 _) (by decide) 1 _).far z32 (by decide) 1 _).far (z32.set 1 _) (by decide) 2 _)
 clear z31 z32
 rw [hW]
 obtain ⟨⟨p0, p1, p2, p3⟩, -, ltp⟩ := cells4 x3
 obtain ⟨⟨q0, q1, q2, q3⟩, ⟨r0, r1, r2, r3⟩, ltq⟩ := cells4 x6
 have hds := dec_size (resN R) (by omega) (by omega)
 have hl1 := no_long (n := (dec (resN R)).size) (by omega) 1 (by omega)
 have HD := Hd (l6Dec_int (resN R) n0 (by omega) W.drew)
 have HX := Hd (And.intro x3 (And.intro x6 (And.intro xb (And.intro xo1 xo2))))
 have HM := Hd HO.out.2.2
 clear hW HO HT3 HT6 HT9 HB1 HB0 k0 k1 k2 k3 k4 a0 a1 a2 a3 f0 f1 f2 f3 b0 b1 b2 b3 g0 g1 g2 g3 lt3 lt6 x3 x6 xb xo1 xo2 n0 n1
 go_region_with (go_at_call 53; refine HD.out.mono ?_; rintro e w5 ⟨rfl, hb5'⟩; have hb5 := (Below.refl W.heap.size W).drew.trans hb5'; have HB5 := Hd hb5; obtain ⟨⟨u0, u1, u2, u3⟩, -, ltu⟩ := cells4 (HX.out.1.next hb5); obtain ⟨⟨v0, v1, v2, v3⟩, ⟨y0, y1, y2, y3⟩, ltv⟩ := cells4 (HX.out.2.1.next hb5); clear hb5 hb5')
 all_goals
  go_wp2_with fail
  have hz := (HX.out.2.1.next HB5.out).set4 (.slice Ab nb cb) (.slice A2 m c2) (.slice A3 m c3) (.slice At nt ct)
  obtain ⟨⟨z0, z1, z2, z3⟩, -, -⟩ := cells4 hz
  refine bodyPost_ret (v := .tuple #[.agg #[.slice Ab nb cb, .slice A2 m c2, .slice A3 m c3, .slice At nt ct], .string (dec (resN R) ++ ⟨#[10]⟩), .bool R.isSome]) (by simp [results, Tryz.results101, go_sem, z0, z1, z2, z3]) rfl ?_
  have hbw : Below w.heap.size w w5 := HX.out.2.2.1.trans (HB5.out.mono HX.out.2.2.1.size)
  refine ⟨A2, A3, m, c2, c3, _, rfl, ?_, below_set4 hbw (by omega) _ _ _ _⟩
  intro es p hR
  have hO1 := HX.out.2.2.2.1.next HB5.out
  have hO2 := HX.out.2.2.2.2.next HB5.out
  have e0 := HM.out
  rw [hR] at hO1 hO2 e0
  obtain rfl : m = 4 := by rw [← e0]; exact HN4.out es p hR
  exact ⟨by rw [hR]; rfl, rfl, (Own.box4 (HX.out.2.1.next HB5.out) hO1 _ _ _ _).mono (by omega), (Own.box4 (HX.out.2.1.next HB5.out) hO2 _ _ _ _).mono (by omega)⟩
structure InvS (s : St) : Prop where
 b : InvB s
 t : okL s.ts = true
def wRaise : List UInt8 := [114, 97, 105, 115, 101]
def wValue : List UInt8 := [118, 97, 108, 117, 101]
def wUnits : List UInt8 := [117, 110, 105, 116, 115]
def oweTo (s : St) (a c v : Int) : St := { s with ts := if oweOk s.ts a c v then s.ts ++ [tallyOf a c v] else s.ts }
def setTo (s : St) : St := { s with ts := (settleOf s.ts).getD s.ts }
def step0 (s : St) (k : List UInt8) : ByteArray × St :=
 if k = wReduce then (if redOK s.bs then okT else noT, redTo s)
 else if k = wBoard then (bs (bdText s.bs) ++ ⟨#[10]⟩, s)
 else if k = wValue then (dec (bVal s.bs) ++ ⟨#[10]⟩, s)
 else if k = wFrame then (txt (digText s.ds) ++ ⟨#[10]⟩, s)
 else if k = wSettle then (if (settleOf s.ts).isSome then okT else noT, setTo s)
 else if k = wTallies then (bs (tlText s.ts), s)
 else (whatT, s)
def step1 (s : St) (k : List UInt8) (a : Int) : ByteArray × St :=
 if k = wLay then (if layOk s a then okT else noT, layTo s a)
 else if k = wRaise then (if raiseOK s.bs a then okT else noT, raiseTo s a)
 else if k = wAdd then (frSays (frBy 1 s.ds a), frTo 1 s a)
 else if k = wTake then (frSays (frBy (-1) s.ds a), frTo (-1) s a)
 else if k = wRoot then (bs (rootT a.toNat) ++ ⟨#[10]⟩, s)
 else (whatT, s)
def step2 (s : St) (k : List UInt8) (a b : Int) : ByteArray × St :=
 if k = wTimes then (timesT a.toNat b.toNat, s)
 else if k = wDouble then (doubleT a.toNat b.toNat, s)
 else if k = wUnits then (unitsT (unitsR a.toNat b.toNat), s)
 else (whatT, s)
def step3 (s : St) (k : List UInt8) (a b c : Int) : ByteArray × St :=
 if k = wOwe then (if oweOk s.ts a b c then okT else noT, oweTo s a b c) else (whatT, s)
def stepW (s : St) (k : List UInt8) : List Int → ByteArray × St
 | [] => step0 s k
 | [a] => step1 s k a
 | [a, b] => step2 s k a b
 | [a, b, c] => step3 s k a b c
 | _ => (whatT, s)
def stepL (s : St) (line : List UInt8) : ByteArray × St :=
 match cut 32 line with
 | [] => (whatT, s)
 | k :: ws => stepW s k (ws.map wnum)
theorem wnum_bd (l : List UInt8) : 0 ≤ wnum l ∧ wnum l ≤ 9999999 := by
 unfold wnum
 split
 ·omega
 ·rename_i h
  cases hf : wfold l 0 with
  | none => simp
  | some v =>
   have h1 := wfold_bd l 0 v 0 (by omega) (by omega) hf
   have h2 : (10 : Int) ^ l.length ≤ 10 ^ 6 := by
    have : (10 : Nat) ^ l.length ≤ 10 ^ 6 := Nat.pow_le_pow_right (by omega) (by omega)
    exact_mod_cast this
   have h3 : (10 : Int) ^ 6 = 1000000 := by decide
   simp
   omega
theorem wnum_nat (l : List UInt8) : ∃ n : Nat, wnum l = (n : Int) ∧ n ≤ 9999999 := by
 have := wnum_bd l
 exact ⟨(wnum l).toNat, by omega, by omega⟩
theorem okL_told {ts : List Tl} (h : okL ts = true) : ts.length ≤ 12 ∧ (∀ t ∈ ts, Told t) ∧ Small ts := by
 simp only [okL, Bool.and_eq_true, decide_eq_true_eq, List.all_eq_true] at h
 refine ⟨h.1, fun t ht => ok_told (h.2 t ht), fun t ht => ?_⟩
 have h1 := ok_told (h.2 t ht)
 have h2 := h.2 t ht
 simp only [okB, matchB, Bool.and_eq_true, decide_eq_true_eq] at h2
 obtain ⟨-, -, -, -, h5⟩ := h1
 have h6 : t.f.size ≤ 36 := by rw [← h2.1.2.2]; exact h5
 omega
theorem InvS.start : InvS St.start := ⟨InvB.start, rfl⟩
theorem okL_owe {s : St} (h : okL s.ts = true) (a c v : Int) : okL (oweTo s a c v).ts = true := by
 show okL (if oweOk s.ts a c v then s.ts ++ [tallyOf a c v] else s.ts) = true
 split
 ·rename_i ho
  simp only [oweOk, Bool.and_eq_true, decide_eq_true_eq] at ho
  simp only [okL, Bool.and_eq_true, decide_eq_true_eq, List.all_eq_true] at h ⊢
  refine ⟨by simp; omega, fun t ht => ?_⟩
  rcases List.mem_append.1 ht with ht | ht
  ·exact h.2 t ht
  ·simp only [List.mem_singleton] at ht
   subst ht
   exact (tallyOf_ok ho.1).1
 ·exact h
theorem okL_set {s : St} (h : okL s.ts = true) : okL (setTo s).ts = true := by
 show okL ((settleOf s.ts).getD s.ts) = true
 cases hs : Ta.settle 5 (bal (s.ts.map debtOf)) with
 | none => rw [settleOf_no (.inr hs)]; exact h
 | some out => rw [settleOf_yes h hs]; exact (settled h hs).ok
theorem InvS.of_b {s s' : St} (h : InvS s) (hb : InvB s') (ht : s'.ts = s.ts) : InvS s' := ⟨hb, by rw [ht]; exact h.t⟩
theorem InvS.step0 {s : St} (h : InvS s) (k : List UInt8) : InvS (step0 s k).2 := by
 unfold Go.Proofs.YthdoofmfigemoaaGreatDoor.step0
 split
 ·exact h.of_b h.b.red rfl
 split
 ·exact h
 split
 ·exact h
 split
 ·exact h
 split
 ·exact ⟨⟨h.b.ok, h.b.dg, h.b.four⟩, okL_set h.t⟩
 split <;> exact h
theorem InvS.step1 {s : St} (h : InvS s) (k : List UInt8) (a : Int) : InvS (step1 s k a).2 := by
 unfold Go.Proofs.YthdoofmfigemoaaGreatDoor.step1
 split
 ·exact h.of_b (h.b.lay a) rfl
 split
 ·exact h.of_b (h.b.raise a) rfl
 split
 ·exact h.of_b (h.b.fr (.inl rfl) a) rfl
 split
 ·exact h.of_b (h.b.fr (.inr rfl) a) rfl
 split <;> exact h
theorem InvS.step2 {s : St} (h : InvS s) (k : List UInt8) (a b : Int) : InvS (step2 s k a b).2 := by
 unfold Go.Proofs.YthdoofmfigemoaaGreatDoor.step2
 split
 ·exact h
 split
 ·exact h
 split <;> exact h
theorem InvS.step3 {s : St} (h : InvS s) (k : List UInt8) (a b c : Int) : InvS (step3 s k a b c).2 := by
 unfold Go.Proofs.YthdoofmfigemoaaGreatDoor.step3
 split
 ·exact ⟨⟨h.b.ok, h.b.dg, h.b.four⟩, okL_owe h.t a b c⟩
 ·exact h
theorem InvS.stepW {s : St} (h : InvS s) (k : List UInt8) (ns : List Int) : InvS (stepW s k ns).2 := by
 match ns with
 | [] => exact h.step0 k
 | [a] => exact h.step1 k a
 | [a, b] => exact h.step2 k a b
 | [a, b, c] => exact h.step3 k a b c
 | _ :: _ :: _ :: _ :: _ => exact h
theorem InvS.stepL {s : St} (h : InvS s) (line : List UInt8) : InvS (stepL s line).2 := by
 unfold Go.Proofs.YthdoofmfigemoaaGreatDoor.stepL
 split
 ·exact h
 ·exact h.stepW _ _
theorem line_word {line k : List UInt8} {ws : List (List UInt8)} {n f : Nat} (hl : line.length ≤ 1000) (hc : cut 32 line = k :: ws) (hk : cmdOf (bs k) = some (n, f)) (hn : n ≤ 3) {s : St} {r : ByteArray × St}
  (hy : ws.length = n → CmdDoes f (ws.map wnum) s r.1 r.2) (hno : ws.length ≠ n → r = (whatT, s)) : LineDoes line s r.1 r.2 := by
 by_cases h : ws.length = n
 ·exact line_does hl ⟨k, ws, hc, hk, h, rfl⟩ hn (hy h)
 ·rw [hno h]
  exact line_bad hl ⟨k, ws, hc, .inr ⟨(n, f), hk, hn, h⟩⟩ s
theorem step_none {s : St} {k : List UInt8} (ns : List Int) (hk : cmdOf (bs k) = none) : stepW s k ns = (whatT, s) := by
 have hne : ∀ w, (cmdOf (bs w)).isSome → k ≠ w := fun w hw e => by subst e; rw [hk] at hw; cases hw
 match ns with
 | [] =>
  show step0 s k = _
  unfold step0
  rw [if_neg (hne _ rfl), if_neg (hne _ rfl), if_neg (hne _ rfl), if_neg (hne _ rfl), if_neg (hne _ rfl), if_neg (hne _ rfl)]
 | [a] =>
  show step1 s k a = _
  unfold step1
  rw [if_neg (hne _ rfl), if_neg (hne _ rfl), if_neg (hne _ rfl), if_neg (hne _ rfl), if_neg (hne _ rfl)]
 | [a, b] =>
  show step2 s k a b = _
  unfold step2
  rw [if_neg (hne _ rfl), if_neg (hne _ rfl), if_neg (hne _ rfl)]
 | [a, b, c] =>
  show step3 s k a b c = _
  unfold step3
  rw [if_neg (hne _ rfl)]
 | _ :: _ :: _ :: _ :: _ => rfl
theorem cmdOf_words {k : List UInt8} (h : cmdOf (bs k) ≠ none) : k = wLay ∨ k = wReduce ∨ k = wRaise ∨ k = wBoard ∨ k = wValue ∨ k = wAdd ∨ k = wTake ∨ k = wFrame ∨ k = wTimes ∨ k = wDouble ∨ k = wUnits ∨ k = wOwe ∨ k = wSettle ∨ k = wTallies ∨ k = wRoot := by
 have hb : (bs k).data.toList = k := bs_list k
 unfold cmdOf at h
 rw [hb] at h
 have hs : (cmds.find? fun x => decide (k = x.1)) ≠ none := fun e => h (by rw [e]; rfl)
 obtain ⟨x, hx⟩ := Option.ne_none_iff_exists'.1 hs
 have h1 := List.mem_of_find?_eq_some hx
 have h2 := List.find?_some hx
 have h3 : k = x.1 := of_decide_eq_true h2
 rw [h3]
 simp only [cmds, List.mem_cons, List.not_mem_nil, or_false] at h1
 rcases h1 with rfl | rfl | rfl | rfl | rfl | rfl | rfl | rfl | rfl | rfl | rfl | rfl | rfl | rfl | rfl <;> simp [wLay, wReduce, wRaise, wBoard, wValue, wAdd, wTake, wFrame, wTimes, wDouble, wUnits, wOwe, wSettle, wTallies, wRoot]
theorem len0 {ws : List (List UInt8)} (h : ws.length = 0) : ws = [] := List.eq_nil_of_length_eq_zero h
theorem len1 {ws : List (List UInt8)} (h : ws.length = 1) : ∃ x, ws = [x] := List.length_eq_one_iff.1 h
theorem len2 {ws : List (List UInt8)} (h : ws.length = 2) : ∃ x y, ws = [x, y] := by
 match ws, h with
 | [x, y], _ => exact ⟨x, y, rfl⟩
theorem len3 {ws : List (List UInt8)} (h : ws.length = 3) : ∃ x y z, ws = [x, y, z] := by
 match ws, h with
 | [x, y, z], _ => exact ⟨x, y, z, rfl⟩
theorem bad0 {s : St} {k : List UInt8} (h1 : ∀ a, step1 s k a = (whatT, s)) (h2 : ∀ a b, step2 s k a b = (whatT, s)) (h3 : ∀ a b c, step3 s k a b c = (whatT, s)) (ns : List Int) (h : ns.length ≠ 0) : stepW s k ns = (whatT, s) := by
 match ns with
 | [] => exact absurd rfl h
 | [a] => exact h1 a
 | [a, b] => exact h2 a b
 | [a, b, c] => exact h3 a b c
 | _ :: _ :: _ :: _ :: _ => rfl
theorem bad1 {s : St} {k : List UInt8} (h0 : step0 s k = (whatT, s)) (h2 : ∀ a b, step2 s k a b = (whatT, s)) (h3 : ∀ a b c, step3 s k a b c = (whatT, s)) (ns : List Int) (h : ns.length ≠ 1) : stepW s k ns = (whatT, s) := by
 match ns with
 | [] => exact h0
 | [a] => exact absurd rfl h
 | [a, b] => exact h2 a b
 | [a, b, c] => exact h3 a b c
 | _ :: _ :: _ :: _ :: _ => rfl
theorem bad2 {s : St} {k : List UInt8} (h0 : step0 s k = (whatT, s)) (h1 : ∀ a, step1 s k a = (whatT, s)) (h3 : ∀ a b c, step3 s k a b c = (whatT, s)) (ns : List Int) (h : ns.length ≠ 2) : stepW s k ns = (whatT, s) := by
 match ns with
 | [] => exact h0
 | [a] => exact h1 a
 | [a, b] => exact absurd rfl h
 | [a, b, c] => exact h3 a b c
 | _ :: _ :: _ :: _ :: _ => rfl
theorem bad3 {s : St} {k : List UInt8} (h0 : step0 s k = (whatT, s)) (h1 : ∀ a, step1 s k a = (whatT, s)) (h2 : ∀ a b, step2 s k a b = (whatT, s)) (ns : List Int) (h : ns.length ≠ 3) : stepW s k ns = (whatT, s) := by
 match ns with
 | [] => exact h0
 | [a] => exact h1 a
 | [a, b] => exact h2 a b
 | [a, b, c] => exact absurd rfl h
 | _ :: _ :: _ :: _ :: _ => rfl
theorem lenM {ws : List (List UInt8)} {n : Nat} (h : ws.length ≠ n) : (ws.map wnum).length ≠ n := by rwa [List.length_map]
theorem line_any {line : List UInt8} (hl : line.length ≤ 1000) {s : St} (hs : InvS s) : LineDoes line s (stepL s line).1 (stepL s line).2 := by
 unfold stepL
 cases hc : cut 32 line with
 | nil => have := cut_ne 32 line; exact absurd hc this
 | cons k ws =>
  show LineDoes line s (stepW s k (ws.map wnum)).1 (stepW s k (ws.map wnum)).2
  by_cases hk : cmdOf (bs k) = none
  ·rw [step_none _ hk]
   exact line_bad hl ⟨k, ws, hc, .inl hk⟩ s
  obtain ⟨t1, t2, t3⟩ := okL_told hs.t
  rcases cmdOf_words hk with rfl | rfl | rfl | rfl | rfl | rfl | rfl | rfl | rfl | rfl | rfl | rfl | rfl | rfl | rfl
  ·exact line_word hl hc rfl (by omega) (fun h => by obtain ⟨x, rfl⟩ := len1 h; exact does_lay s (wnum x)) fun h => bad1 rfl (fun _ _ => rfl) (fun _ _ _ => rfl) _ (lenM h)
  ·exact line_word hl hc rfl (by omega) (fun h => by obtain rfl := len0 h; exact does_reduce s) fun h => bad0 (fun _ => rfl) (fun _ _ => rfl) (fun _ _ _ => rfl) _ (lenM h)
  ·exact line_word hl hc rfl (by omega) (fun h => by obtain ⟨x, rfl⟩ := len1 h; exact does_raise s (wnum x)) fun h => bad1 rfl (fun _ _ => rfl) (fun _ _ _ => rfl) _ (lenM h)
  ·exact line_word hl hc rfl (by omega) (fun h => by obtain rfl := len0 h; exact hs.b.board) fun h => bad0 (fun _ => rfl) (fun _ _ => rfl) (fun _ _ _ => rfl) _ (lenM h)
  ·exact line_word hl hc rfl (by omega) (fun h => by obtain rfl := len0 h; exact hs.b.value) fun h => bad0 (fun _ => rfl) (fun _ _ => rfl) (fun _ _ _ => rfl) _ (lenM h)
  ·exact line_word hl hc rfl (by omega) (fun h => by obtain ⟨x, rfl⟩ := len1 h; exact hs.b.add (wnum x)) fun h => bad1 rfl (fun _ _ => rfl) (fun _ _ _ => rfl) _ (lenM h)
  ·exact line_word hl hc rfl (by omega) (fun h => by obtain ⟨x, rfl⟩ := len1 h; exact hs.b.take (wnum x)) fun h => bad1 rfl (fun _ _ => rfl) (fun _ _ _ => rfl) _ (lenM h)
  ·exact line_word hl hc rfl (by omega) (fun h => by obtain rfl := len0 h; exact hs.b.frame) fun h => bad0 (fun _ => rfl) (fun _ _ => rfl) (fun _ _ _ => rfl) _ (lenM h)
  ·refine line_word hl hc rfl (by omega) (fun h => ?_) fun h => bad2 rfl (fun _ => rfl) (fun _ _ _ => rfl) _ (lenM h)
   obtain ⟨x, y, rfl⟩ := len2 h
   obtain ⟨a, ha, -⟩ := wnum_nat x
   obtain ⟨b, hb, -⟩ := wnum_nat y
   simp only [List.map_cons, List.map_nil, ha, hb]
   exact does_times2 s a b
  ·refine line_word hl hc rfl (by omega) (fun h => ?_) fun h => bad2 rfl (fun _ => rfl) (fun _ _ _ => rfl) _ (lenM h)
   obtain ⟨x, y, rfl⟩ := len2 h
   obtain ⟨a, ha, -⟩ := wnum_nat x
   obtain ⟨b, hb, -⟩ := wnum_nat y
   simp only [List.map_cons, List.map_nil, ha, hb]
   exact does_double2 s a b
  ·refine line_word hl hc rfl (by omega) (fun h => ?_) fun h => bad2 rfl (fun _ => rfl) (fun _ _ _ => rfl) _ (lenM h)
   obtain ⟨x, y, rfl⟩ := len2 h
   obtain ⟨a, ha, -⟩ := wnum_nat x
   obtain ⟨b, hb, -⟩ := wnum_nat y
   simp only [List.map_cons, List.map_nil, ha, hb]
   exact does_units s a b
  ·exact line_word hl hc rfl (by omega) (fun h => by obtain ⟨x, y, z, rfl⟩ := len3 h; exact does_owe s (wnum x) (wnum y) (wnum z)) fun h => bad3 rfl (fun _ => rfl) (fun _ _ => rfl) _ (lenM h)
  ·exact line_word hl hc rfl (by omega) (fun h => by obtain rfl := len0 h; exact does_settle s t3) fun h => bad0 (fun _ => rfl) (fun _ _ => rfl) (fun _ _ _ => rfl) _ (lenM h)
  ·exact line_word hl hc rfl (by omega) (fun h => by obtain rfl := len0 h; exact does_tallies s t1 t2) fun h => bad0 (fun _ => rfl) (fun _ _ => rfl) (fun _ _ _ => rfl) _ (lenM h)
  ·refine line_word hl hc rfl (by omega) (fun h => ?_) fun h => bad1 rfl (fun _ _ => rfl) (fun _ _ _ => rfl) _ (lenM h)
   obtain ⟨x, rfl⟩ := len1 h
   obtain ⟨a, ha, ha2⟩ := wnum_nat x
   simp only [List.map_cons, List.map_nil, ha]
   exact does_root s a (by omega)
theorem bs_toList (k : List UInt8) : (bs k).toList = k := by rw [ByteArray.toList_eq]; exact bs_list k
theorem wd_yes {k l : List UInt8} {t : ByteArray} (ht : bs k = t) (h : k = l) : (t.toList == l) = true := by rw [← ht, bs_toList, h]; simp
theorem wd_no {k l : List UInt8} {t : ByteArray} (ht : bs k = t) (h : ¬ k = l) : (t.toList == l) = false := by rw [← ht, bs_toList]; simpa using h
def ask0 (s : St) (k : List UInt8) : ByteArray :=
 if k = wBoard then bs (bdText s.bs) ++ ⟨#[10]⟩
 else if k = wValue then dec (bVal s.bs) ++ ⟨#[10]⟩
 else if k = wFrame then txt (digText s.ds) ++ ⟨#[10]⟩
 else if k = wTallies then bs (tlText s.ts)
 else whatT
theorem l9One_any (s : St) (hs : InvS s) (k : List UInt8) (v : Value) (w : World) (hv : SVal w s v) :
  Calls Tryz.prog 137 #[v, .string (bs k)] w fun e w' => e = .returned (.string (ask0 s k)) ∧ Below w.heap.size w w' := by
 obtain ⟨Ab, nb, cb, A, c, A', c', At, nt, ct, rfl, h1, h2, h3, h4⟩ := hv
 obtain ⟨W, hW⟩ : ∃ V, w.alloc (.cells #[.slice Ab nb cb, .slice A 4 c, .slice A' 4 c', .slice At nt ct] T75) = V := ⟨_, rfl⟩
 have hbl : Below w.heap.size w W := by rw [← hW]; exact (Below.refl _ _).alloc (Nat.le_refl _) _
 obtain ⟨⟨c0, c1, c2, c3⟩, -, hlt⟩ := cells4 (show Blk W w.heap.size #[.slice Ab nb cb, .slice A 4 c, .slice A' 4 c', .slice At nt ct] T75 by rw [← hW]; exact Blk.new _ _ _)
 have HI := Hd (And.intro (h1.next hbl) (And.intro (h2.next hbl) (And.intro (h3.next hbl) (h4.next hbl))))
 have HB := Hd hbl
 have HW := Hd hW
 obtain ⟨t, ht⟩ : ∃ t, bs k = t := ⟨_, rfl⟩
 rw [ht]
 unfold ask0
 clear h1 h2 h3 h4 hbl hW
 have hsb := hs.b.bval
 by_cases k1 : k = wBoard
 ·have f1 := wd_yes ht k1
  rw [if_pos k1]
  have hl := (Bd.okB_iff _).1 hs.b.ok
  have hlen := bdText_len hl.1 hl.2
  have hsz : (bs (bdText s.bs)).size = (bdText s.bs).length := by show (bdText s.bs).toArray.size = _; simp
  have hno := no_long (n := (bs (bdText s.bs)).size) (by omega) 1 (by omega)
  have HC := Hd (specBoardText_yes Ab nb cb s.bs W HI.out.1 hs.b.ok)
  clear k1 ht hl hlen hsz hsb
  unfold wBoard at f1
  go_enter Tryz.func137, Tryz.ntmps137
  go_wp2_with fail
  rw [HW.out]
  refine HC.out.mono ?_
  rintro e w1 ⟨rfl, hb1⟩
  have HB1 := Hd (below_chain HB.out hb1)
  clear hb1
  go_wp2_with fail
  go_ret
  exact ⟨rfl, HB1.out⟩
 rw [if_neg k1]
 have f1 := wd_no ht k1
 by_cases k2 : k = wValue
 ·have f2 := wd_yes ht k2
  rw [if_pos k2]
  have HC := Hd (specBoardValue_any Ab nb cb s.bs W _ HI.out.1)
  have HD := Hd (fun w => l6Dec_int (bVal s.bs) (by omega) (by omega) w)
  have hds := dec_size (bVal s.bs) (by omega) (by omega)
  have hno := no_long (n := (dec (bVal s.bs)).size) (by omega) 1 (by omega)
  clear k1 k2 ht hsb hds
  unfold wBoard at f1
  unfold wValue at f2
  go_enter Tryz.func137, Tryz.ntmps137
  go_wp2_with fail
  rw [HW.out]
  refine HC.out.mono ?_
  rintro e w1 ⟨rfl, hb1⟩
  have HB1 := Hd (below_chain HB.out hb1)
  clear hb1
  go_wp2_with fail
  refine (HD.out _).mono ?_
  rintro e w2 ⟨rfl, hb2⟩
  have HB2 := Hd (below_chain HB1.out hb2)
  clear hb2
  go_wp2_with fail
  go_ret
  exact ⟨rfl, HB2.out⟩
 rw [if_neg k2]
 have f2 := wd_no ht k2
 by_cases k3 : k = wFrame
 ·have f3 := wd_yes ht k3
  rw [if_pos k3]
  have HC := Hd (specFrameText_yes A A' 4 c c' s.ds W HI.out.2.1 HI.out.2.2.1 hs.b.dg (by omega) (by omega))
  have hno := no_long (n := (txt (digText s.ds)).size) (by rw [txt_size, digText_length, hs.b.four]; omega) 1 (by omega)
  clear k1 k2 k3 ht hsb
  unfold wBoard at f1
  unfold wValue at f2
  unfold wFrame at f3
  go_enter Tryz.func137, Tryz.ntmps137
  go_wp2_with fail
  rw [HW.out]
  refine HC.out.mono ?_
  rintro e w1 ⟨rfl, hb1⟩
  have HB1 := Hd (below_chain HB.out hb1)
  clear hb1
  go_wp2_with fail
  go_ret
  exact ⟨rfl, HB1.out⟩
 rw [if_neg k3]
 have f3 := wd_no ht k3
 by_cases k4 : k = wTallies
 ·have f4 := wd_yes ht k4
  rw [if_pos k4]
  obtain ⟨t1, t2, -⟩ := okL_told hs.t
  have HC := Hd (l9Tallies_any At nt ct s.ts W HI.out.2.2.2 t1 t2)
  clear k1 k2 k3 k4 ht hsb
  unfold wBoard at f1
  unfold wValue at f2
  unfold wFrame at f3
  unfold wTallies at f4
  go_enter Tryz.func137, Tryz.ntmps137
  go_wp2_with fail
  rw [HW.out]
  refine HC.out.mono ?_
  rintro e w1 ⟨rfl, hb1⟩
  have HB1 := Hd (below_chain HB.out hb1)
  clear hb1
  go_wp2_with fail
  go_ret
  exact ⟨rfl, HB1.out⟩
 ·rw [if_neg k4]
  have f4 := wd_no ht k4
  clear k1 k2 k3 k4 ht hsb
  unfold wBoard at f1
  unfold wValue at f2
  unfold wFrame at f3
  unfold wTallies at f4
  go_enter Tryz.func137, Tryz.ntmps137
  go_wp2_with fail
  rw [HW.out]
  go_ret
  exact ⟨rfl, HB.out⟩
def ask (s : St) (k : List UInt8) : List Int → ByteArray
 | [] => ask0 s k
 | [a] => if k = wRoot then bs (rootT a.toNat) ++ ⟨#[10]⟩ else whatT
 | [a, b] => if k = wTimes then timesT a.toNat b.toNat else if k = wDouble then doubleT a.toNat b.toNat else if k = wUnits then unitsT (unitsR a.toNat b.toNat) else whatT
 | _ => whatT
theorem wd_of {k l : List UInt8} {t : ByteArray} (ht : bs k = t) : (t.toList == l) = decide (k = l) := by
 by_cases h : k = l
 ·rw [wd_yes ht h, decide_eq_true h]
 ·rw [wd_no ht h, decide_eq_false h]
structure AskIn (w : World) (s : St) (k : List UInt8) (ws : List (List UInt8)) (v : Value) (Aw : Option Addr) (nw cw : Nat) : Prop where
 hv : SVal w s v
 hw : Wds w 0 Aw nw cw (k :: ws)
 hs : ∀ x ∈ ws, x.length ≤ 1000
 hn : ws.length ≤ 1000
theorem l9Ask_zero (s : St) (hs : InvS s) (k : List UInt8) (v : Value) (Aw : Option Addr) (nw cw : Nat) (w : World) (h : AskIn w s k [] v Aw nw cw) :
  Calls Tryz.prog 103 #[v, .slice Aw nw cw] w fun e w' => e = .returned (.string (ask0 s k)) ∧ Below w.heap.size w w' := by
 obtain ⟨hv, hw, h1, h2⟩ := h
 have HO := Hd (fun w (hv : SVal w s v) => l9One_any s hs k v w hv)
 have HV := Hd hv
 obtain ⟨Ab, nb, cb, A, c, A', c', At, nt, ct, rfl, -⟩ := hv
 have hlen : nw = 1 := by simpa using hw.len.symm
 subst hlen
 obtain ⟨g, rfl⟩ := OwnR.some2 hw (by omega)
 have d0 := OwnR.cell2 hw (j := 0) rfl
 have HW := Hd hw
 obtain ⟨t, ht⟩ : ∃ t, bs k = t := ⟨_, rfl⟩
 rw [ht] at d0 HO
 have hg : g < w.heap.size := World.block_lt_of_cell? w _ d0
 obtain ⟨W, hWW⟩ : ∃ V, w.alloc (.cells #[.slice Ab nb cb, .slice A 4 c, .slice A' 4 c', .slice At nt ct] T75) = V := ⟨_, rfl⟩
 have hbl : Below w.heap.size w W := by rw [← hWW]; exact (Below.refl _ _).alloc (Nat.le_refl _) _
 have hblk : Blk W w.heap.size #[.slice Ab nb cb, .slice A 4 c, .slice A' 4 c', .slice At nt ct] T75 := by rw [← hWW]; exact Blk.new _ _ _
 have HN := Hd (l9Numbers_any (some ⟨g, 0, none⟩) 0 1 cw k [] W (by rw [← hWW]; exact HW.out.alloc _) h1 h2)
 have HB := Hd (And.intro hbl hblk)
 have HWW := Hd hWW
 clear hw h1 h2 hbl hblk hWW
 go_enter Tryz.func103, Tryz.ntmps103
 go_wp2_with fail
 rw [HWW.out]
 refine HN.out.mono ?_
 rintro e w1 ⟨A5, c5, rfl, ho5, hb5⟩
 obtain ⟨⟨c0, c1, c2, c3⟩, -, hlt⟩ := cells4 (HB.out.2.next hb5)
 have HB5 := Hd (below_chain HB.out.1 hb5)
 have e0 := (HB5.out.cell (p := ⟨g, 0, none⟩) hg).trans d0
 clear ho5 hb5 d0
 go_wp2_with fail
 go_region_with (go_at_call 137; refine (HO.out _ (HV.out.next (show Below w.heap.size w w1.drew from HB5.out.drew))).mono ?_; rintro e w6 ⟨rfl, hb6⟩; have HB6 := Hd (HB5.out.trans (((Below.refl w1.heap.size w1).drew.trans hb6).mono HB5.out.size)))
 all_goals
  go_wp2_with fail
  go_ret
  exact ⟨rfl, HB6.out⟩
theorem l9Ask_times (s : St) (k : List UInt8) (hk : k = wTimes) (x y : List UInt8) (v : Value) (Aw : Option Addr) (nw cw : Nat) (w : World) (h : AskIn w s k [x, y] v Aw nw cw) :
  Calls Tryz.prog 103 #[v, .slice Aw nw cw] w fun e w' => e = .returned (.string (timesT (wnum x).toNat (wnum y).toNat)) ∧ Below w.heap.size w w' := by
 obtain ⟨hv, hw, h1, h2⟩ := h
 obtain ⟨Ab, nb, cb, A, c, A', c', At, nt, ct, rfl, -⟩ := hv
 have hlen := hw.len
 simp only [List.length_cons, List.length_nil] at hlen
 subst hlen
 obtain ⟨g, rfl⟩ := OwnR.some2 hw (by omega)
 have d0 := OwnR.cell2 hw (j := 0) rfl
 have HW := Hd hw
 obtain ⟨t, ht⟩ : ∃ t, bs k = t := ⟨_, rfl⟩
 rw [ht] at d0
 have hg : g < w.heap.size := World.block_lt_of_cell? w _ d0
 obtain ⟨W, hWW⟩ : ∃ V, w.alloc (.cells #[.slice Ab nb cb, .slice A 4 c, .slice A' 4 c', .slice At nt ct] T75) = V := ⟨_, rfl⟩
 have hbl : Below w.heap.size w W := by rw [← hWW]; exact (Below.refl _ _).alloc (Nat.le_refl _) _
 have HN := Hd (l9Numbers_any (some ⟨g, 0, none⟩) 0 (0 + 1 + 1 + 1) cw k [x, y] W (by rw [← hWW]; exact HW.out.alloc _) h1 h2)
 have HB := Hd hbl
 have HWW := Hd hWW
 have HT := Hd ht
 subst hk
 have f0 : (t.toList == [116, 105, 109, 101, 115]) = true := (wd_of ht).trans (by decide)
 have f1 : (t.toList == [100, 111, 117, 98, 108, 101]) = false := (wd_of ht).trans (by decide)
 have f2 : (t.toList == [117, 110, 105, 116, 115]) = false := (wd_of ht).trans (by decide)
 have f3 : (t.toList == [114, 111, 111, 116]) = false := (wd_of ht).trans (by decide)
 obtain ⟨a, ha, ha9⟩ := wnum_nat x
 obtain ⟨b, hb, hb9⟩ := wnum_nat y
 rw [ha, hb]
 simp only [Int.toNat_natCast]
 clear hw h1 h2 hbl hWW ht
 go_enter Tryz.func103, Tryz.ntmps103
 go_wp2_with fail
 rw [HWW.out]
 refine HN.out.mono ?_
 rintro e w1 ⟨A5, c5, rfl, ho5, hb5⟩
 have HB5 := Hd (below_chain HB.out hb5)
 have e0 := (HB5.out.cell (p := ⟨g, 0, none⟩) hg).trans d0
 have HO5 := Hd ho5
 clear ho5 hb5 d0
 obtain ⟨g5, rfl, -, hg5, hc5, -⟩ := HO5.out.at_ (by simp)
 have n0 := hc5 0 (a : Int) (by simp [ha])
 have n1 := hc5 1 (b : Int) (by simp [hb])
 clear hc5
 clear ha hb
 simp only [List.length_cons, List.length_nil] at HO5 ⊢
 go_wp2_with fail
 go_region_with (go_at_call 138; refine (l9Times_any a b _).mono ?_; rintro e w6 ⟨rfl, hb6⟩; have HB6 := Hd (HB5.out.trans (((Below.refl w1.heap.size w1).drew.trans hb6).mono HB5.out.size)))
 all_goals
  go_wp2_with fail
  go_ret
  exact ⟨rfl, HB6.out⟩
theorem l9Ask_units (s : St) (k : List UInt8) (hk : k = wUnits) (x y : List UInt8) (v : Value) (Aw : Option Addr) (nw cw : Nat) (w : World) (h : AskIn w s k [x, y] v Aw nw cw) :
  Calls Tryz.prog 103 #[v, .slice Aw nw cw] w fun e w' => e = .returned (.string (unitsT (unitsR (wnum x).toNat (wnum y).toNat))) ∧ Below w.heap.size w w' := by
 obtain ⟨hv, hw, h1, h2⟩ := h
 obtain ⟨Ab, nb, cb, A, c, A', c', At, nt, ct, rfl, -⟩ := hv
 have hlen := hw.len
 simp only [List.length_cons, List.length_nil] at hlen
 subst hlen
 obtain ⟨g, rfl⟩ := OwnR.some2 hw (by omega)
 have d0 := OwnR.cell2 hw (j := 0) rfl
 have HW := Hd hw
 obtain ⟨t, ht⟩ : ∃ t, bs k = t := ⟨_, rfl⟩
 rw [ht] at d0
 have hg : g < w.heap.size := World.block_lt_of_cell? w _ d0
 obtain ⟨W, hWW⟩ : ∃ V, w.alloc (.cells #[.slice Ab nb cb, .slice A 4 c, .slice A' 4 c', .slice At nt ct] T75) = V := ⟨_, rfl⟩
 have hbl : Below w.heap.size w W := by rw [← hWW]; exact (Below.refl _ _).alloc (Nat.le_refl _) _
 have HN := Hd (l9Numbers_any (some ⟨g, 0, none⟩) 0 (0 + 1 + 1 + 1) cw k [x, y] W (by rw [← hWW]; exact HW.out.alloc _) h1 h2)
 have HB := Hd hbl
 have HWW := Hd hWW
 have HT := Hd ht
 subst hk
 have f0 : (t.toList == [116, 105, 109, 101, 115]) = false := (wd_of ht).trans (by decide)
 have f1 : (t.toList == [100, 111, 117, 98, 108, 101]) = false := (wd_of ht).trans (by decide)
 have f2 : (t.toList == [117, 110, 105, 116, 115]) = true := (wd_of ht).trans (by decide)
 have f3 : (t.toList == [114, 111, 111, 116]) = false := (wd_of ht).trans (by decide)
 obtain ⟨a, ha, ha9⟩ := wnum_nat x
 obtain ⟨b, hb, hb9⟩ := wnum_nat y
 rw [ha, hb]
 simp only [Int.toNat_natCast]
 clear hw h1 h2 hbl hWW ht
 go_enter Tryz.func103, Tryz.ntmps103
 go_wp2_with fail
 rw [HWW.out]
 refine HN.out.mono ?_
 rintro e w1 ⟨A5, c5, rfl, ho5, hb5⟩
 have HB5 := Hd (below_chain HB.out hb5)
 have e0 := (HB5.out.cell (p := ⟨g, 0, none⟩) hg).trans d0
 have HO5 := Hd ho5
 clear ho5 hb5 d0
 obtain ⟨g5, rfl, -, hg5, hc5, -⟩ := HO5.out.at_ (by simp)
 have n0 := hc5 0 (a : Int) (by simp [ha])
 have n1 := hc5 1 (b : Int) (by simp [hb])
 clear hc5
 clear ha hb
 simp only [List.length_cons, List.length_nil] at HO5 ⊢
 go_wp2_with fail
 go_region_with (go_at_call 140; refine (l9Units_any a b (by omega) _).mono ?_; rintro e w6 ⟨rfl, hb6⟩; have HB6 := Hd (HB5.out.trans (((Below.refl w1.heap.size w1).drew.trans hb6).mono HB5.out.size)))
 all_goals
  go_wp2_with fail
  go_ret
  exact ⟨rfl, HB6.out⟩
theorem l9Ask_root (s : St) (k : List UInt8) (hk : k = wRoot) (x : List UInt8) (v : Value) (Aw : Option Addr) (nw cw : Nat) (w : World) (h : AskIn w s k [x] v Aw nw cw) :
  Calls Tryz.prog 103 #[v, .slice Aw nw cw] w fun e w' => e = .returned (.string (bs (rootT (wnum x).toNat) ++ ⟨#[10]⟩)) ∧ Below w.heap.size w w' := by
 obtain ⟨hv, hw, h1, h2⟩ := h
 obtain ⟨Ab, nb, cb, A, c, A', c', At, nt, ct, rfl, -⟩ := hv
 have hlen := hw.len
 simp only [List.length_cons, List.length_nil] at hlen
 subst hlen
 obtain ⟨g, rfl⟩ := OwnR.some2 hw (by omega)
 have d0 := OwnR.cell2 hw (j := 0) rfl
 have HW := Hd hw
 obtain ⟨t, ht⟩ : ∃ t, bs k = t := ⟨_, rfl⟩
 rw [ht] at d0
 have hg : g < w.heap.size := World.block_lt_of_cell? w _ d0
 obtain ⟨W, hWW⟩ : ∃ V, w.alloc (.cells #[.slice Ab nb cb, .slice A 4 c, .slice A' 4 c', .slice At nt ct] T75) = V := ⟨_, rfl⟩
 have hbl : Below w.heap.size w W := by rw [← hWW]; exact (Below.refl _ _).alloc (Nat.le_refl _) _
 have HN := Hd (l9Numbers_any (some ⟨g, 0, none⟩) 0 (0 + 1 + 1) cw k [x] W (by rw [← hWW]; exact HW.out.alloc _) h1 h2)
 have HB := Hd hbl
 have HWW := Hd hWW
 have HT := Hd ht
 subst hk
 have f0 : (t.toList == [116, 105, 109, 101, 115]) = false := (wd_of ht).trans (by decide)
 have f1 : (t.toList == [100, 111, 117, 98, 108, 101]) = false := (wd_of ht).trans (by decide)
 have f2 : (t.toList == [117, 110, 105, 116, 115]) = false := (wd_of ht).trans (by decide)
 have f3 : (t.toList == [114, 111, 111, 116]) = true := (wd_of ht).trans (by decide)
 obtain ⟨a, ha, ha9⟩ := wnum_nat x
 rw [ha]
 simp only [Int.toNat_natCast]
 clear hw h1 h2 hbl hWW ht
 go_enter Tryz.func103, Tryz.ntmps103
 go_wp2_with fail
 rw [HWW.out]
 refine HN.out.mono ?_
 rintro e w1 ⟨A5, c5, rfl, ho5, hb5⟩
 have HB5 := Hd (below_chain HB.out hb5)
 have e0 := (HB5.out.cell (p := ⟨g, 0, none⟩) hg).trans d0
 have HO5 := Hd ho5
 clear ho5 hb5 d0
 obtain ⟨g5, rfl, -, hg5, hc5, -⟩ := HO5.out.at_ (by simp)
 have n0 := hc5 0 (a : Int) (by simp [ha])
 clear hc5
 clear ha
 simp only [List.length_cons, List.length_nil] at HO5 ⊢
 go_wp2_with fail
 refine (l9Root_any a (by omega) _).mono ?_
 rintro e w6 ⟨rfl, hb6⟩
 have HB6 := Hd (below_chain HB5.out hb6)
 clear hb6
 go_wp2_with fail
 go_ret
 exact ⟨rfl, HB6.out⟩
theorem l9Ask_what (s : St) (k : List UInt8) (ws : List (List UInt8)) (hm1 : 1 ≤ ws.length) (hc2 : ws.length = 2 → k ≠ wTimes ∧ k ≠ wDouble ∧ k ≠ wUnits) (hc1 : ws.length = 1 → k ≠ wRoot) (v : Value) (Aw : Option Addr) (nw cw : Nat) (w : World) (h : AskIn w s k ws v Aw nw cw) :
  Calls Tryz.prog 103 #[v, .slice Aw nw cw] w fun e w' => e = .returned (.string whatT) ∧ Below w.heap.size w w' := by
 obtain ⟨hv, hw, h1, h2⟩ := h
 obtain ⟨Ab, nb, cb, A, c, A', c', At, nt, ct, rfl, -⟩ := hv
 have hlen := hw.len
 simp only [List.length_cons, List.length_nil] at hlen
 subst hlen
 obtain ⟨g, rfl⟩ := OwnR.some2 hw (by omega)
 have d0 := OwnR.cell2 hw (j := 0) rfl
 have HW := Hd hw
 obtain ⟨t, ht⟩ : ∃ t, bs k = t := ⟨_, rfl⟩
 rw [ht] at d0
 have hg : g < w.heap.size := World.block_lt_of_cell? w _ d0
 obtain ⟨W, hWW⟩ : ∃ V, w.alloc (.cells #[.slice Ab nb cb, .slice A 4 c, .slice A' 4 c', .slice At nt ct] T75) = V := ⟨_, rfl⟩
 have hbl : Below w.heap.size w W := by rw [← hWW]; exact (Below.refl _ _).alloc (Nat.le_refl _) _
 have HN := Hd (l9Numbers_any (some ⟨g, 0, none⟩) 0 (ws.length + 1) cw k ws W (by rw [← hWW]; exact HW.out.alloc _) h1 h2)
 have HB := Hd hbl
 have HWW := Hd hWW
 have HT := Hd ht
 have hpos : ∀ w, (k = w → False) → (t.toList == w) = false := fun w h => wd_no ht h
 have hyes : ∀ w, k = w → (t.toList == w) = true := fun w h => wd_yes ht h
 have HD := Hd (And.intro hpos hyes)
 have HC := Hd (And.intro hm1 (And.intro hc2 hc1))
 clear hpos hyes hm1 hc2 hc1
 clear hw h1 h2 hbl hWW ht
 go_enter Tryz.func103, Tryz.ntmps103
 go_wp2_with fail
 rw [HWW.out]
 refine HN.out.mono ?_
 rintro e w1 ⟨A5, c5, rfl, ho5, hb5⟩
 have HB5 := Hd (below_chain HB.out hb5)
 have e0 := (HB5.out.cell (p := ⟨g, 0, none⟩) hg).trans d0
 have HO5 := Hd ho5
 clear ho5 hb5 d0
 obtain ⟨m, hm⟩ : ∃ m, ws.length = m := ⟨_, rfl⟩
 rw [hm] at HC HO5 ⊢
 clear hm HO5
 by_cases h2 : m = 2
 ·subst h2
  obtain ⟨k1, k2, k3⟩ := HC.out.2.1 rfl
  have f0 := HD.out.1 _ k1
  have f1 := HD.out.1 _ k2
  have f2 := HD.out.1 _ k3
  unfold wTimes at f0
  unfold wDouble at f1
  unfold wUnits at f2
  by_cases k4 : k = wRoot
  ·have f3 := HD.out.2 _ k4
   unfold wRoot at f3
   clear k1 k2 k3 k4
   go_wp2_with fail
   go_ret
   exact ⟨rfl, HB5.out⟩
  ·have f3 := HD.out.1 _ k4
   unfold wRoot at f3
   clear k1 k2 k3 k4
   go_wp2_with fail
   go_ret
   exact ⟨rfl, HB5.out⟩
 by_cases h1 : m = 1
 ·subst h1
  have k4 := HC.out.2.2 rfl
  have f3 := HD.out.1 _ k4
  unfold wRoot at f3
  by_cases k1 : k = wTimes
  ·have f0 := HD.out.2 _ k1
   have f1 := HD.out.1 wDouble (by rw [k1]; decide)
   have f2 := HD.out.1 wUnits (by rw [k1]; decide)
   unfold wTimes at f0
   unfold wDouble at f1
   unfold wUnits at f2
   clear k1 k4
   go_wp2_with fail
   go_ret
   exact ⟨rfl, HB5.out⟩
  by_cases k2 : k = wDouble
  ·have f0 := HD.out.1 _ k1
   have f1 := HD.out.2 _ k2
   have f2 := HD.out.1 wUnits (by rw [k2]; decide)
   unfold wTimes at f0
   unfold wDouble at f1
   unfold wUnits at f2
   clear k1 k2 k4
   go_wp2_with fail
   go_ret
   exact ⟨rfl, HB5.out⟩
  by_cases k3 : k = wUnits
  ·have f0 := HD.out.1 _ k1
   have f1 := HD.out.1 _ k2
   have f2 := HD.out.2 _ k3
   unfold wTimes at f0
   unfold wDouble at f1
   unfold wUnits at f2
   clear k1 k2 k3 k4
   go_wp2_with fail
   go_ret
   exact ⟨rfl, HB5.out⟩
  ·have f0 := HD.out.1 _ k1
   have f1 := HD.out.1 _ k2
   have f2 := HD.out.1 _ k3
   unfold wTimes at f0
   unfold wDouble at f1
   unfold wUnits at f2
   clear k1 k2 k3 k4
   go_wp2_with fail
   go_ret
   exact ⟨rfl, HB5.out⟩
 have hm0 := HC.out.1
 have i0 : ¬ (m : Int) = 0 := by omega
 have i1 : ¬ (m : Int) = 1 := by omega
 have i2 : ¬ (m : Int) = 2 := by omega
 have j0 : ((m : Int) == 0) = false := by simpa using i0
 have j1 : ((m : Int) == 1) = false := by simpa using i1
 have j2 : ((m : Int) == 2) = false := by simpa using i2
 clear h1 h2 hm0
 by_cases k0 : k = wTimes
 ·have f0 := HD.out.2 _ k0
  have f1 := HD.out.1 wDouble (by rw [k0]; decide)
  have f2 := HD.out.1 wUnits (by rw [k0]; decide)
  have f3 := HD.out.1 wRoot (by rw [k0]; decide)
  unfold wTimes at f0
  unfold wDouble at f1
  unfold wUnits at f2
  unfold wRoot at f3
  clear k0
  go_wp2_with fail
  go_ret
  exact ⟨rfl, HB5.out⟩
 by_cases k1 : k = wDouble
 ·have f0 := HD.out.1 _ k0
  have f1 := HD.out.2 _ k1
  have f2 := HD.out.1 wUnits (by rw [k1]; decide)
  have f3 := HD.out.1 wRoot (by rw [k1]; decide)
  unfold wTimes at f0
  unfold wDouble at f1
  unfold wUnits at f2
  unfold wRoot at f3
  clear k0 k1
  go_wp2_with fail
  go_ret
  exact ⟨rfl, HB5.out⟩
 by_cases k2 : k = wUnits
 ·have f0 := HD.out.1 _ k0
  have f1 := HD.out.1 _ k1
  have f2 := HD.out.2 _ k2
  have f3 := HD.out.1 wRoot (by rw [k2]; decide)
  unfold wTimes at f0
  unfold wDouble at f1
  unfold wUnits at f2
  unfold wRoot at f3
  clear k0 k1 k2
  go_wp2_with fail
  go_ret
  exact ⟨rfl, HB5.out⟩
 by_cases k3 : k = wRoot
 ·have f0 := HD.out.1 _ k0
  have f1 := HD.out.1 _ k1
  have f2 := HD.out.1 _ k2
  have f3 := HD.out.2 _ k3
  unfold wTimes at f0
  unfold wDouble at f1
  unfold wUnits at f2
  unfold wRoot at f3
  clear k0 k1 k2 k3
  go_wp2_with fail
  go_ret
  exact ⟨rfl, HB5.out⟩
 have f0 := HD.out.1 _ k0
 have f1 := HD.out.1 _ k1
 have f2 := HD.out.1 _ k2
 have f3 := HD.out.1 _ k3
 unfold wTimes at f0
 unfold wDouble at f1
 unfold wUnits at f2
 unfold wRoot at f3
 clear k0 k1 k2 k3
 go_wp2_with fail
 go_ret
 exact ⟨rfl, HB5.out⟩
theorem l9Ask_double_yes (s : St) (k : List UInt8) (hk : k = wDouble) (x y : List UInt8) (hf : facs (wnum x).toNat (wnum y).toNat = true) (v : Value) (Aw : Option Addr) (nw cw : Nat) (w : World) (h : AskIn w s k [x, y] v Aw nw cw) :
  Calls Tryz.prog 103 #[v, .slice Aw nw cw] w fun e w' => e = .returned (.string (doubleT (wnum x).toNat (wnum y).toNat)) ∧ Below w.heap.size w w' := by
 obtain ⟨hv, hw, h1, h2⟩ := h
 obtain ⟨Ab, nb, cb, A, c, A', c', At, nt, ct, rfl, -⟩ := hv
 have hlen := hw.len
 simp only [List.length_cons, List.length_nil] at hlen
 subst hlen
 obtain ⟨g, rfl⟩ := OwnR.some2 hw (by omega)
 have d0 := OwnR.cell2 hw (j := 0) rfl
 have HW := Hd hw
 obtain ⟨t, ht⟩ : ∃ t, bs k = t := ⟨_, rfl⟩
 rw [ht] at d0
 have hg : g < w.heap.size := World.block_lt_of_cell? w _ d0
 obtain ⟨W, hWW⟩ : ∃ V, w.alloc (.cells #[.slice Ab nb cb, .slice A 4 c, .slice A' 4 c', .slice At nt ct] T75) = V := ⟨_, rfl⟩
 have hbl : Below w.heap.size w W := by rw [← hWW]; exact (Below.refl _ _).alloc (Nat.le_refl _) _
 have HN := Hd (l9Numbers_any (some ⟨g, 0, none⟩) 0 (0 + 1 + 1 + 1) cw k [x, y] W (by rw [← hWW]; exact HW.out.alloc _) h1 h2)
 have HB := Hd hbl
 have HWW := Hd hWW
 have HT := Hd ht
 subst hk
 have f0 : (t.toList == [116, 105, 109, 101, 115]) = false := (wd_of ht).trans (by decide)
 have f1 : (t.toList == [100, 111, 117, 98, 108, 101]) = true := (wd_of ht).trans (by decide)
 have f2 : (t.toList == [117, 110, 105, 116, 115]) = false := (wd_of ht).trans (by decide)
 have f3 : (t.toList == [114, 111, 111, 116]) = false := (wd_of ht).trans (by decide)
 obtain ⟨a, ha, ha9⟩ := wnum_nat x
 obtain ⟨b, hb, hb9⟩ := wnum_nat y
 rw [ha, hb] at hf ⊢
 simp only [Int.toNat_natCast] at hf ⊢
 have HDT := Hd (fun w => specDupTimes_all a b w)
 have hv : dupV a b = ((a * b : Nat) : Int) := by rw [dupV, if_pos hf]
 have hdt : doubleT a b = dec ((a * b : Nat) : Int) ++ ⟨#[10]⟩ := by rw [doubleT, if_pos hf]; rfl
 have hab : a * b ≤ 9999999 * 9999999 := Nat.mul_le_mul ha9 hb9
 have hsz := dec_size ((a * b : Nat) : Int) (by omega) (by omega)
 rw [hv] at HDT
 rw [hdt]
 obtain ⟨M, hM⟩ : ∃ M, a * b = M := ⟨_, rfl⟩
 rw [hM] at hab hsz HDT ⊢
 have hM0 : (0 : Int) ≤ (M : Int) := by omega
 have HD := Hd (fun w => l6Dec_any M (by omega) w)
 have HS := Hd (fun w => l9Said_yes (dec (M : Int)) w (by omega))
 clear hv hdt hM hf
 clear hw h1 h2 hbl hWW ht
 go_enter Tryz.func103, Tryz.ntmps103
 go_wp2_with fail
 rw [HWW.out]
 refine HN.out.mono ?_
 rintro e w1 ⟨A5, c5, rfl, ho5, hb5⟩
 have HB5 := Hd (below_chain HB.out hb5)
 have e0 := (HB5.out.cell (p := ⟨g, 0, none⟩) hg).trans d0
 have HO5 := Hd ho5
 clear ho5 hb5 d0
 obtain ⟨g5, rfl, -, hg5, hc5, -⟩ := HO5.out.at_ (by simp)
 have n0 := hc5 0 (a : Int) (by simp [ha])
 have n1 := hc5 1 (b : Int) (by simp [hb])
 clear hc5 ha hb
 have hg6 := HO5.out
 have HN0 := Hd (show ∀ w', Below w1.heap.size w1 w' → w'.cell? ⟨g5, 0, none⟩ = some (.int .i64 (a : Int)) ∧ w'.cell? ⟨g5, 1, none⟩ = some (.int .i64 (b : Int)) from fun w' hb => ⟨(hb.cell (p := ⟨g5, 0, none⟩) hg5).trans n0, (hb.cell (p := ⟨g5, 1, none⟩) hg5).trans n1⟩)
 have HQ := Hd ((Below.refl w1.heap.size w1).drew)
 clear hg6
 simp only [List.length_cons, List.length_nil] at HO5 ⊢
 go_wp2_with fail
 refine wp_region_held_drew (S := (fun w' => w'.cell? ⟨g5, 0, none⟩ = some (.int .i64 (a : Int)) ∧ w'.cell? ⟨g5, 1, none⟩ = some (.int .i64 (b : Int)))) (by kernel_rfl) ?_ (fun hHeld => ?_)
 ·(try dsimp only)
  all_goals (first | (refine ⟨?_, ?_⟩ <;> go_simp) | go_keep)
 refine Tk 0 (some 44) (v := ?v1) rfl (Or.inl ⟨by rfl, ?hy1⟩) (by first | assumption | exact hHeld) ?rest1
 case hy1 => ((intro w0 hSw; (try dsimp only at hSw); go_simp) <;> with_reducible rfl)
 (try simp only [Tp0, Tp1, Tp2, Tp3, Tp4])
 refine Tk 1 (some 45) (v := ?v2) rfl (Or.inl ⟨by rfl, ?hy2⟩) (by first | assumption | exact hHeld) ?rest2
 case hy2 => ((intro w0 hSw; (try dsimp only at hSw); go_simp) <;> with_reducible rfl)
 (try simp only [Tp0, Tp1, Tp2, Tp3, Tp4])
 refine Tk 2 (some 46) (v := ?v3) rfl (Or.inl ⟨by rfl, ?hy3⟩) (by first | assumption | exact hHeld) ?rest3
 case hy3 => ((intro w0 hSw; (try dsimp only at hSw); go_simp) <;> with_reducible rfl)
 (try simp only [Tp0, Tp1, Tp2, Tp3, Tp4])
 refine Tk 3 (some 47) (v := ?v4) rfl (Or.inl ⟨by rfl, ?hy4⟩) (by first | assumption | exact hHeld) ?rest4
 case hy4 => ((intro w0 hSw; (try dsimp only at hSw); go_simp) <;> with_reducible rfl)
 (try simp only [Tp0, Tp1, Tp2, Tp3, Tp4])
 refine Tk 4 (some 48) (v := ?v5) rfl (Or.inl ⟨by rfl, ?hy5⟩) (by first | assumption | exact hHeld) ?rest5
 case hy5 => ((intro w0 hSw; (try dsimp only at hSw); go_simp) <;> with_reducible rfl)
 (try simp only [Tp0, Tp1, Tp2, Tp3, Tp4])
 refine Tk 5 (some 49) (v := ?v6) rfl (Or.inl ⟨by rfl, ?hy6⟩) (by first | assumption | exact hHeld) ?rest6
 case hy6 => ((intro w0 hSw; (try dsimp only at hSw); go_simp) <;> with_reducible rfl)
 (try simp only [Tp0, Tp1, Tp2, Tp3, Tp4])
 refine Tk 8 (some 52) (v := ?v7) rfl (Or.inl ⟨by rfl, ?hy7⟩) (by first | assumption | exact hHeld) ?rest7
 case hy7 => ((intro w0 hSw; (try dsimp only at hSw); go_simp) <;> with_reducible rfl)
 (try simp only [Tp0, Tp1, Tp2, Tp3, Tp4])
 refine Tk 9 (some 53) (v := ?v8) rfl (Or.inl ⟨by rfl, ?hy8⟩) (by first | assumption | exact hHeld) ?rest8
 case hy8 => ((intro w0 hSw; (try dsimp only at hSw); go_simp) <;> with_reducible rfl)
 (try simp only [Tp0, Tp1, Tp2, Tp3, Tp4])
 refine Tk 10 (some 54) (v := ?v9) rfl (Or.inl ⟨by rfl, ?hy9⟩) (by first | assumption | exact hHeld) ?rest9
 case hy9 => ((intro w0 hSw; (try dsimp only at hSw); go_simp) <;> with_reducible rfl)
 (try simp only [Tp0, Tp1, Tp2, Tp3, Tp4])
 refine Tk 11 (some 55) (v := ?v10) rfl (Or.inl ⟨by rfl, ?hy10⟩) (by first | assumption | exact hHeld) ?rest10
 case hy10 => ((intro w0 hSw; (try dsimp only at hSw); go_simp) <;> with_reducible rfl)
 (try simp only [Tp0, Tp1, Tp2, Tp3, Tp4])
 refine Tk 12 (some 56) (v := ?v11) rfl (Or.inl ⟨by rfl, ?hy11⟩) (by first | assumption | exact hHeld) ?rest11
 case hy11 => ((intro w0 hSw; (try dsimp only at hSw); go_simp) <;> with_reducible rfl)
 (try simp only [Tp0, Tp1, Tp2, Tp3, Tp4])
 refine Tk 13 (some 57) (v := ?v12) rfl (Or.inl ⟨by rfl, ?hy12⟩) (by first | assumption | exact hHeld) ?rest12
 case hy12 => ((intro w0 hSw; (try dsimp only at hSw); go_simp) <;> with_reducible rfl)
 (try simp only [Tp0, Tp1, Tp2, Tp3, Tp4])
 refine wpAnyH_ready (rs := [6]) (by kernel_rfl) (by simp) ?_
 refine AllReadyH.cons (o := ⟨some 50, _, _, _, _, _⟩) rfl (fun K hK => ?_) ?_
 ·go_simp
  refine (HDT.out _).mono ?_
  rintro e w6 ⟨rfl, hb6⟩
  have hq6 := HQ.out.trans (hb6.mono HQ.out.size)
  obtain ⟨n0_6, n1_6⟩ := HN0.out _ hq6
  have HQ6 := Hd hq6
  clear hb6 hq6
  (try go_wp2_with fail)
  refine hK.out _ _ ?_ (fun hHeld13 => ?_)
  ·(try dsimp only)
   all_goals (first | (refine ⟨?_, ?_⟩ <;> go_simp) | go_keep)
  clear hK K
  (try clear hHeld)
  (try simp only [Tp0, Tp1, Tp2, Tp3, Tp4])
  refine wpAnyH_ready (rs := [7]) (by kernel_rfl) (by simp) ?_
  refine AllReadyH.cons (o := ⟨some 51, _, _, _, _, _⟩) rfl (fun K hK => ?_) ?_
  ·go_simp
   refine (HD.out _).mono ?_
   rintro e w7 ⟨rfl, hb7⟩
   have hq7 := HQ6.out.trans (hb7.mono HQ6.out.size)
   obtain ⟨n0_7, n1_7⟩ := HN0.out _ hq7
   have HQ7 := Hd hq7
   clear hb7 hq7
   (try go_wp2_with fail)
   refine hK.out _ _ ?_ (fun hHeld14 => ?_)
   ·(try dsimp only)
    all_goals (first | (refine ⟨?_, ?_⟩ <;> go_simp) | go_keep)
   clear hK K
   (try clear hHeld13)
   (try simp only [Tp0, Tp1, Tp2, Tp3, Tp4])
   refine wpAnyH_ready (rs := [14]) (by kernel_rfl) (by simp) ?_
   refine AllReadyH.cons (o := ⟨some 58, _, _, _, _, _⟩) rfl (fun K hK => ?_) ?_
   ·go_simp
    refine (HDT.out _).mono ?_
    rintro e w8 ⟨rfl, hb8⟩
    have hq8 := HQ7.out.trans (hb8.mono HQ7.out.size)
    obtain ⟨n0_8, n1_8⟩ := HN0.out _ hq8
    have HQ8 := Hd hq8
    clear hb8 hq8
    (try go_wp2_with fail)
    refine hK.out _ _ ?_ (fun hHeld15 => ?_)
    ·(try dsimp only)
     all_goals (first | (refine ⟨?_, ?_⟩ <;> go_simp) | go_keep)
    clear hK K
    (try clear hHeld14)
    (try simp only [Tp0, Tp1, Tp2, Tp3, Tp4])
    refine Tk 15 (some 59) (v := ?v16) rfl (Or.inl ⟨by rfl, ?hy16⟩) (by first | assumption | exact hHeld15) ?rest16
    case hy16 => ((intro w0 hSw; (try dsimp only at hSw); go_simp) <;> with_reducible rfl)
    (try simp only [Tp0, Tp1, Tp2, Tp3, Tp4])
    refine wpAnyH_ready (rs := [16]) (by kernel_rfl) (by simp) ?_
    refine AllReadyH.cons (o := ⟨some 60, _, _, _, _, _⟩) rfl (fun K hK => ?_) ?_
    ·go_simp
     refine (HS.out _).mono ?_
     rintro e w9 ⟨rfl, rfl⟩
     (try go_wp2_with fail)
     refine hK.out _ _ ?_ (fun hHeld17 => ?_)
     ·(try dsimp only)
      all_goals (first | (refine ⟨?_, ?_⟩ <;> go_simp) | go_keep)
     clear hK K
     (try clear hHeld15)
     (try simp only [Tp0, Tp1, Tp2, Tp3, Tp4])
     refine Tk 17 (some 4) (v := ?v18) rfl (Or.inl ⟨by rfl, ?hy18⟩) (by first | assumption | exact hHeld17) ?rest18
     case hy18 => ((intro w0 hSw; (try dsimp only at hSw); go_simp) <;> with_reducible rfl)
     (try simp only [Tp0, Tp1, Tp2, Tp3, Tp4])
     refine wpAnyH_done (by kernel_rfl) ?_ _
     go_wp2_with fail
     go_ret
     exact ⟨rfl, HB5.out.trans (HQ8.out.mono HB5.out.size)⟩
    exact AllReadyH.nil
   exact AllReadyH.nil
  exact AllReadyH.nil
 exact AllReadyH.nil
theorem l9Ask_double_no (s : St) (k : List UInt8) (hk : k = wDouble) (x y : List UInt8) (hf : facs (wnum x).toNat (wnum y).toNat = false) (v : Value) (Aw : Option Addr) (nw cw : Nat) (w : World) (h : AskIn w s k [x, y] v Aw nw cw) :
  Calls Tryz.prog 103 #[v, .slice Aw nw cw] w fun e w' => e = .returned (.string (doubleT (wnum x).toNat (wnum y).toNat)) ∧ Below w.heap.size w w' := by
 obtain ⟨hv, hw, h1, h2⟩ := h
 obtain ⟨Ab, nb, cb, A, c, A', c', At, nt, ct, rfl, -⟩ := hv
 have hlen := hw.len
 simp only [List.length_cons, List.length_nil] at hlen
 subst hlen
 obtain ⟨g, rfl⟩ := OwnR.some2 hw (by omega)
 have d0 := OwnR.cell2 hw (j := 0) rfl
 have HW := Hd hw
 obtain ⟨t, ht⟩ : ∃ t, bs k = t := ⟨_, rfl⟩
 rw [ht] at d0
 have hg : g < w.heap.size := World.block_lt_of_cell? w _ d0
 obtain ⟨W, hWW⟩ : ∃ V, w.alloc (.cells #[.slice Ab nb cb, .slice A 4 c, .slice A' 4 c', .slice At nt ct] T75) = V := ⟨_, rfl⟩
 have hbl : Below w.heap.size w W := by rw [← hWW]; exact (Below.refl _ _).alloc (Nat.le_refl _) _
 have HN := Hd (l9Numbers_any (some ⟨g, 0, none⟩) 0 (0 + 1 + 1 + 1) cw k [x, y] W (by rw [← hWW]; exact HW.out.alloc _) h1 h2)
 have HB := Hd hbl
 have HWW := Hd hWW
 have HT := Hd ht
 subst hk
 have f0 : (t.toList == [116, 105, 109, 101, 115]) = false := (wd_of ht).trans (by decide)
 have f1 : (t.toList == [100, 111, 117, 98, 108, 101]) = true := (wd_of ht).trans (by decide)
 have f2 : (t.toList == [117, 110, 105, 116, 115]) = false := (wd_of ht).trans (by decide)
 have f3 : (t.toList == [114, 111, 111, 116]) = false := (wd_of ht).trans (by decide)
 obtain ⟨a, ha, ha9⟩ := wnum_nat x
 obtain ⟨b, hb, hb9⟩ := wnum_nat y
 rw [ha, hb] at hf ⊢
 simp only [Int.toNat_natCast] at hf ⊢
 have HDT := Hd (fun w => specDupTimes_all a b w)
 have hv : dupV a b = -1 := by rw [dupV, if_neg (by rw [hf]; decide)]
 have hdt : doubleT a b = noT := by rw [doubleT, if_neg (by rw [hf]; decide)]
 rw [hv] at HDT
 rw [hdt]
 clear hv hdt hf
 clear hw h1 h2 hbl hWW ht
 go_enter Tryz.func103, Tryz.ntmps103
 go_wp2_with fail
 rw [HWW.out]
 refine HN.out.mono ?_
 rintro e w1 ⟨A5, c5, rfl, ho5, hb5⟩
 have HB5 := Hd (below_chain HB.out hb5)
 have e0 := (HB5.out.cell (p := ⟨g, 0, none⟩) hg).trans d0
 have HO5 := Hd ho5
 clear ho5 hb5 d0
 obtain ⟨g5, rfl, -, hg5, hc5, -⟩ := HO5.out.at_ (by simp)
 have n0 := hc5 0 (a : Int) (by simp [ha])
 have n1 := hc5 1 (b : Int) (by simp [hb])
 clear hc5 ha hb
 have hg6 := HO5.out
 have HN0 := Hd (show ∀ w', Below w1.heap.size w1 w' → w'.cell? ⟨g5, 0, none⟩ = some (.int .i64 (a : Int)) ∧ w'.cell? ⟨g5, 1, none⟩ = some (.int .i64 (b : Int)) from fun w' hb => ⟨(hb.cell (p := ⟨g5, 0, none⟩) hg5).trans n0, (hb.cell (p := ⟨g5, 1, none⟩) hg5).trans n1⟩)
 have HQ := Hd ((Below.refl w1.heap.size w1).drew)
 clear hg6
 simp only [List.length_cons, List.length_nil] at HO5 ⊢
 go_wp2_with fail
 refine wp_region_held_drew (S := (fun w' => w'.cell? ⟨g5, 0, none⟩ = some (.int .i64 (a : Int)) ∧ w'.cell? ⟨g5, 1, none⟩ = some (.int .i64 (b : Int)))) (by kernel_rfl) ?_ (fun hHeld => ?_)
 ·(try dsimp only)
  all_goals (first | (refine ⟨?_, ?_⟩ <;> go_simp) | go_keep)
 refine Tk 0 (some 44) (v := ?v1) rfl (Or.inl ⟨by rfl, ?hy1⟩) (by first | assumption | exact hHeld) ?rest1
 case hy1 => ((intro w0 hSw; (try dsimp only at hSw); go_simp) <;> with_reducible rfl)
 (try simp only [Tp0, Tp1, Tp2, Tp3, Tp4])
 refine Tk 1 (some 45) (v := ?v2) rfl (Or.inl ⟨by rfl, ?hy2⟩) (by first | assumption | exact hHeld) ?rest2
 case hy2 => ((intro w0 hSw; (try dsimp only at hSw); go_simp) <;> with_reducible rfl)
 (try simp only [Tp0, Tp1, Tp2, Tp3, Tp4])
 refine Tk 2 (some 46) (v := ?v3) rfl (Or.inl ⟨by rfl, ?hy3⟩) (by first | assumption | exact hHeld) ?rest3
 case hy3 => ((intro w0 hSw; (try dsimp only at hSw); go_simp) <;> with_reducible rfl)
 (try simp only [Tp0, Tp1, Tp2, Tp3, Tp4])
 refine Tk 3 (some 47) (v := ?v4) rfl (Or.inl ⟨by rfl, ?hy4⟩) (by first | assumption | exact hHeld) ?rest4
 case hy4 => ((intro w0 hSw; (try dsimp only at hSw); go_simp) <;> with_reducible rfl)
 (try simp only [Tp0, Tp1, Tp2, Tp3, Tp4])
 refine Tk 4 (some 48) (v := ?v5) rfl (Or.inl ⟨by rfl, ?hy5⟩) (by first | assumption | exact hHeld) ?rest5
 case hy5 => ((intro w0 hSw; (try dsimp only at hSw); go_simp) <;> with_reducible rfl)
 (try simp only [Tp0, Tp1, Tp2, Tp3, Tp4])
 refine Tk 5 (some 49) (v := ?v6) rfl (Or.inl ⟨by rfl, ?hy6⟩) (by first | assumption | exact hHeld) ?rest6
 case hy6 => ((intro w0 hSw; (try dsimp only at hSw); go_simp) <;> with_reducible rfl)
 (try simp only [Tp0, Tp1, Tp2, Tp3, Tp4])
 refine Tk 8 (some 52) (v := ?v7) rfl (Or.inl ⟨by rfl, ?hy7⟩) (by first | assumption | exact hHeld) ?rest7
 case hy7 => ((intro w0 hSw; (try dsimp only at hSw); go_simp) <;> with_reducible rfl)
 (try simp only [Tp0, Tp1, Tp2, Tp3, Tp4])
 refine Tk 9 (some 53) (v := ?v8) rfl (Or.inl ⟨by rfl, ?hy8⟩) (by first | assumption | exact hHeld) ?rest8
 case hy8 => ((intro w0 hSw; (try dsimp only at hSw); go_simp) <;> with_reducible rfl)
 (try simp only [Tp0, Tp1, Tp2, Tp3, Tp4])
 refine Tk 10 (some 54) (v := ?v9) rfl (Or.inl ⟨by rfl, ?hy9⟩) (by first | assumption | exact hHeld) ?rest9
 case hy9 => ((intro w0 hSw; (try dsimp only at hSw); go_simp) <;> with_reducible rfl)
 (try simp only [Tp0, Tp1, Tp2, Tp3, Tp4])
 refine Tk 11 (some 55) (v := ?v10) rfl (Or.inl ⟨by rfl, ?hy10⟩) (by first | assumption | exact hHeld) ?rest10
 case hy10 => ((intro w0 hSw; (try dsimp only at hSw); go_simp) <;> with_reducible rfl)
 (try simp only [Tp0, Tp1, Tp2, Tp3, Tp4])
 refine Tk 12 (some 56) (v := ?v11) rfl (Or.inl ⟨by rfl, ?hy11⟩) (by first | assumption | exact hHeld) ?rest11
 case hy11 => ((intro w0 hSw; (try dsimp only at hSw); go_simp) <;> with_reducible rfl)
 (try simp only [Tp0, Tp1, Tp2, Tp3, Tp4])
 refine Tk 13 (some 57) (v := ?v12) rfl (Or.inl ⟨by rfl, ?hy12⟩) (by first | assumption | exact hHeld) ?rest12
 case hy12 => ((intro w0 hSw; (try dsimp only at hSw); go_simp) <;> with_reducible rfl)
 (try simp only [Tp0, Tp1, Tp2, Tp3, Tp4])
 refine wpAnyH_ready (rs := [6]) (by kernel_rfl) (by simp) ?_
 refine AllReadyH.cons (o := ⟨some 50, _, _, _, _, _⟩) rfl (fun K hK => ?_) ?_
 ·go_simp
  refine (HDT.out _).mono ?_
  rintro e w6 ⟨rfl, hb6⟩
  have hq6 := HQ.out.trans (hb6.mono HQ.out.size)
  obtain ⟨n0_6, n1_6⟩ := HN0.out _ hq6
  have HQ6 := Hd hq6
  clear hb6 hq6
  (try go_wp2_with fail)
  refine hK.out _ _ ?_ (fun hHeld13 => ?_)
  ·(try dsimp only)
   all_goals (first | (refine ⟨?_, ?_⟩ <;> go_simp) | go_keep)
  clear hK K
  (try clear hHeld)
  (try simp only [Tp0, Tp1, Tp2, Tp3, Tp4])
  refine wpAnyH_ready (rs := [7]) (by kernel_rfl) (by simp) ?_
  refine AllReadyH.cons (o := ⟨some 51, _, _, _, _, _⟩) rfl (fun K hK => ?_) ?_
  ·go_simp
   refine (l6Dec_m1 _).mono ?_
   rintro e w7 ⟨u, rfl, hu, hb7⟩
   have hq7 := HQ6.out.trans (hb7.mono HQ6.out.size)
   obtain ⟨n0_7, n1_7⟩ := HN0.out _ hq7
   have HQ7 := Hd hq7
   clear hb7 hq7
   (try go_wp2_with fail)
   refine hK.out _ _ ?_ (fun hHeld14 => ?_)
   ·(try dsimp only)
    all_goals (first | (refine ⟨?_, ?_⟩ <;> go_simp) | go_keep)
   clear hK K
   (try clear hHeld13)
   (try simp only [Tp0, Tp1, Tp2, Tp3, Tp4])
   refine wpAnyH_ready (rs := [14]) (by kernel_rfl) (by simp) ?_
   refine AllReadyH.cons (o := ⟨some 58, _, _, _, _, _⟩) rfl (fun K hK => ?_) ?_
   ·go_simp
    refine (HDT.out _).mono ?_
    rintro e w8 ⟨rfl, hb8⟩
    have hq8 := HQ7.out.trans (hb8.mono HQ7.out.size)
    obtain ⟨n0_8, n1_8⟩ := HN0.out _ hq8
    have HQ8 := Hd hq8
    clear hb8 hq8
    (try go_wp2_with fail)
    refine hK.out _ _ ?_ (fun hHeld15 => ?_)
    ·(try dsimp only)
     all_goals (first | (refine ⟨?_, ?_⟩ <;> go_simp) | go_keep)
    clear hK K
    (try clear hHeld14)
    (try simp only [Tp0, Tp1, Tp2, Tp3, Tp4])
    refine Tk 15 (some 59) (v := ?v16) rfl (Or.inl ⟨by rfl, ?hy16⟩) (by first | assumption | exact hHeld15) ?rest16
    case hy16 => ((intro w0 hSw; (try dsimp only at hSw); go_simp) <;> with_reducible rfl)
    (try simp only [Tp0, Tp1, Tp2, Tp3, Tp4])
    refine wpAnyH_ready (rs := [16]) (by kernel_rfl) (by simp) ?_
    refine AllReadyH.cons (o := ⟨some 60, _, _, _, _, _⟩) rfl (fun K hK => ?_) ?_
    ·go_simp
     refine (l9Said_no _ _).mono ?_
     rintro e w9 ⟨rfl, rfl⟩
     (try go_wp2_with fail)
     refine hK.out _ _ ?_ (fun hHeld17 => ?_)
     ·(try dsimp only)
      all_goals (first | (refine ⟨?_, ?_⟩ <;> go_simp) | go_keep)
     clear hK K
     (try clear hHeld15)
     (try simp only [Tp0, Tp1, Tp2, Tp3, Tp4])
     refine Tk 17 (some 4) (v := ?v18) rfl (Or.inl ⟨by rfl, ?hy18⟩) (by first | assumption | exact hHeld17) ?rest18
     case hy18 => ((intro w0 hSw; (try dsimp only at hSw); go_simp) <;> with_reducible rfl)
     (try simp only [Tp0, Tp1, Tp2, Tp3, Tp4])
     refine wpAnyH_done (by kernel_rfl) ?_ _
     go_wp2_with fail
     go_ret
     exact ⟨rfl, HB5.out.trans (HQ8.out.mono HB5.out.size)⟩
    exact AllReadyH.nil
   exact AllReadyH.nil
  exact AllReadyH.nil
 exact AllReadyH.nil
theorem bs_size (l : List UInt8) : (bs l).size = l.length := by show l.toArray.size = _; simp
theorem ba_size (b : ByteArray) : b.data.toList.length = b.size := by show _ = b.data.size; simp
theorem ba_app (a b : ByteArray) : (a ++ b).size = a.size + b.size := ByteArray.size_append
theorem line_size (l : List UInt8) : (bs l ++ ⟨#[10]⟩).size = l.length + 1 := by rw [ba_app, bs_size]; rfl
theorem itoa_le (v : Int) (h0 : -9223372036854775808 ≤ v) (h1 : v ≤ 9223372036854775807) : (Lib.itoa v).length ≤ 20 := by
 have := dec_size v h0 h1
 have e : (dec v).size = (Lib.itoa v).length := by show (Lib.itoa v).toArray.size = _; simp
 omega
theorem ok_size (c : Bool) : (if c = true then okT else noT).size ≤ 3 := by
 have h1 : okT.size = 3 := rfl
 have h2 : noT.size = 3 := rfl
 cases c
 ·rw [if_neg (by decide)]; omega
 ·rw [if_pos rfl]; omega
theorem fr_size {s : St} (hs : InvB s) {sg : Int} (hg : Fr.Sgn sg) (a : Int) : (frSays (frBy sg s.ds a)).size ≤ 21 := by
 cases hr : frBy sg s.ds a with
 | none => exact (by decide : noT.size ≤ 21)
 | some p =>
  obtain ⟨es, p⟩ := p
  obtain ⟨-, -, h3, h4⟩ := fr_post hg hs.dg hs.four es p hr
  have := dec_size p (by omega) (by omega)
  show (dec p ++ ⟨#[10]⟩ : ByteArray).size ≤ 21
  rw [ba_app]
  have : (⟨#[10]⟩ : ByteArray).size = 1 := rfl
  omega
theorem itoa_mul {a b : Nat} (ha : a ≤ 9999999) (hb : b ≤ 9999999) : (Lib.itoa ((a * b : Nat) : Int)).length ≤ 20 := by
 have : a * b ≤ 9999999 * 9999999 := Nat.mul_le_mul ha hb
 exact itoa_le _ (by omega) (by omega)
theorem step0_size {s : St} (h : InvS s) (k : List UInt8) : (step0 s k).1.size ≤ 240 * (k.length + 1) := by
 unfold step0
 split
 ·have := ok_size (redOK s.bs); show (if redOK s.bs = true then okT else noT).size ≤ _; omega
 split
 ·rename_i _ hk
  subst hk
  have hl := Bd.okB_iff _ |>.1 h.b.ok
  have := bdText_len hl.1 hl.2
  show (bs (bdText s.bs) ++ ⟨#[10]⟩).size ≤ _
  rw [line_size]
  have : wBoard.length = 5 := rfl
  omega
 split
 ·show (bs (Lib.itoa (bVal s.bs)) ++ ⟨#[10]⟩).size ≤ _
  rw [line_size]
  have h1 := h.b.bval
  have := itoa_le (bVal s.bs) (by omega) (by omega)
  omega
 split
 ·show (bs (digText s.ds) ++ ⟨#[10]⟩).size ≤ _
  rw [line_size, digText_length, h.b.four]
  omega
 split
 ·have := ok_size (settleOf s.ts).isSome; show (if (settleOf s.ts).isSome = true then okT else noT).size ≤ _; omega
 split
 ·rename_i hk
  subst hk
  obtain ⟨t1, t2, -⟩ := okL_told h.t
  have := tlText_len t2
  show (bs (tlText s.ts)).size ≤ _
  rw [bs_size]
  have : wTallies.length = 7 := rfl
  omega
 ·have : whatT.size = 5 := rfl
  show whatT.size ≤ _
  omega
theorem step1_size {s : St} (h : InvS s) (k : List UInt8) {a : Int} (ha : 0 ≤ a ∧ a ≤ 9999999) : (step1 s k a).1.size ≤ 240 * (k.length + 1) := by
 unfold step1
 split
 ·have := ok_size (layOk s a); show (if layOk s a = true then okT else noT).size ≤ _; omega
 split
 ·have := ok_size (raiseOK s.bs a); show (if raiseOK s.bs a = true then okT else noT).size ≤ _; omega
 split
 ·have := fr_size h.b (.inl rfl) a; show (frSays (frBy 1 s.ds a)).size ≤ _; omega
 split
 ·have := fr_size h.b (.inr rfl) a; show (frSays (frBy (-1) s.ds a)).size ≤ _; omega
 split
 ·show (bs (rootT a.toNat) ++ ⟨#[10]⟩).size ≤ _
  rw [line_size]
  obtain ⟨r0, r1, s0, s1⟩ := root_bd (n := a.toNat) (by omega)
  have h1 := itoa_le (Gl.rtR a.toNat) (by omega) (by omega)
  have h2 := itoa_le (Gl.rtS a.toNat) (by omega) (by omega)
  simp only [rootT, List.length_append, List.length_cons]
  omega
 ·have : whatT.size = 5 := rfl
  show whatT.size ≤ _
  omega
theorem step2_size {s : St} (k : List UInt8) {a b : Int} (ha : 0 ≤ a ∧ a ≤ 9999999) (hb : 0 ≤ b ∧ b ≤ 9999999) : (step2 s k a b).1.size ≤ 240 * (k.length + 1) := by
 have hm := itoa_mul (a := a.toNat) (b := b.toNat) (by omega) (by omega)
 have hno : noT.size = 3 := rfl
 unfold step2
 split
 ·show (timesT a.toNat b.toNat).size ≤ _
  unfold timesT
  split
  ·rw [line_size]; omega
  ·omega
 split
 ·show (doubleT a.toNat b.toNat).size ≤ _
  unfold doubleT
  split
  ·rw [line_size]; omega
  ·omega
 split
 ·rename_i hk
  subst hk
  show (unitsT (unitsR a.toNat b.toNat)).size ≤ _
  have : wUnits.length = 5 := rfl
  cases hr : unitsR a.toNat b.toNat with
  | none => show noT.size ≤ _; omega
  | some l =>
   obtain ⟨-, -, -, g4⟩ := unitsR_good hr
   show (bs (uText l) ++ ⟨#[10]⟩).size ≤ _
   rw [line_size]
   omega
 ·have : whatT.size = 5 := rfl
  show whatT.size ≤ _
  omega
theorem step3_size {s : St} (k : List UInt8) (a b c : Int) : (step3 s k a b c).1.size ≤ 240 * (k.length + 1) := by
 unfold step3
 split
 ·have := ok_size (oweOk s.ts a b c); show (if oweOk s.ts a b c = true then okT else noT).size ≤ _; omega
 ·have : whatT.size = 5 := rfl
  show whatT.size ≤ _
  omega
theorem stepL_size {s : St} (h : InvS s) (line : List UInt8) : (stepL s line).1.size ≤ 240 * (line.length + 1) := by
 have hw : whatT.size = 5 := rfl
 unfold stepL
 cases hc : cut 32 line with
 | nil => show whatT.size ≤ _; omega
 | cons k ws =>
  have hk : k.length ≤ line.length := cut_len 32 line k (by rw [hc]; exact List.mem_cons_self)
  show (stepW s k (ws.map wnum)).1.size ≤ _
  have key : (stepW s k (ws.map wnum)).1.size ≤ 240 * (k.length + 1) := by
   match ws with
   | [] => exact step0_size h k
   | [a] => exact step1_size h k (wnum_bd a)
   | [a, b] => exact step2_size k (wnum_bd a) (wnum_bd b)
   | [a, b, c] => exact step3_size k _ _ _
   | _ :: _ :: _ :: _ :: _ => show whatT.size ≤ _; omega
  omega
def runL (s : St) : List (List UInt8) → List UInt8 × St
 | [] => ([], s)
 | l :: ls => ((stepL s l).1.data.toList ++ (runL (stepL s l).2 ls).1, (runL (stepL s l).2 ls).2)
theorem runs_any : ∀ (ls : List (List UInt8)) (s : St), InvS s → (∀ l ∈ ls, l.length ≤ 1000) → Runs ls s (runL s ls).1 (runL s ls).2
 | [], _, _, _ => Runs.nil _
 | l :: ls, _, h, hl => Runs.cons (line_any (hl l List.mem_cons_self) h) (runs_any ls _ (h.stepL l) fun x hx => hl x (List.mem_cons_of_mem _ hx))
theorem InvS.runL : ∀ (ls : List (List UInt8)) (s : St), InvS s → InvS (runL s ls).2
 | [], _, h => h
 | l :: ls, _, h => InvS.runL ls _ (h.stepL l)
def span : List (List UInt8) → Nat
 | [] => 0
 | l :: ls => l.length + 1 + span ls
theorem runL_size : ∀ (ls : List (List UInt8)) (s : St), InvS s → (runL s ls).1.length ≤ 240 * span ls
 | [], _, _ => by simp [runL, span]
 | l :: ls, s, h => by
  have h1 := stepL_size h l
  have h2 := runL_size ls _ (h.stepL l)
  show ((stepL s l).1.data.toList ++ _).length ≤ 240 * (l.length + 1 + span ls)
  rw [List.length_append, ba_size]
  omega
theorem span_app : ∀ (a b : List (List UInt8)), span (a ++ b) = span a + span b
 | [], b => by simp [span]
 | x :: a, b => by
  have := span_app a b
  simp only [List.cons_append, span]
  omega
theorem cut_span (c : UInt8) : ∀ l : List UInt8, span (cut c l) = l.length + 1
 | [] => rfl
 | b :: l => by
  have ih := cut_span c l
  unfold cut
  split
  ·simp only [span, List.length_nil, List.length_cons]; omega
  ·cases hc : cut c l with
   | nil => exact absurd hc (cut_ne c l)
   | cons x xs =>
    rw [hc] at ih
    simp only [span, List.length_cons] at ih ⊢
    omega
def longT : List UInt8 := [116, 111, 111, 32, 108, 111, 110, 103, 10]
def execT (text : List UInt8) : List UInt8 :=
 if 400 < text.length then longT else (runL St.start (cut 10 text).dropLast).1 ++ endL (bVal (runL St.start (cut 10 text).dropLast).2.bs) ((runL St.start (cut 10 text).dropLast).2.ts.length : Int)
theorem Execute_all (text : ByteArray) (w : World) (hm : Max w) (hp : Pow w.heap.size w) :
  Calls Tryz.prog 13 #[.string text] w fun e w' => e = .returned (.string (bs (execT text.data.toList))) ∧ Below w.heap.size w w' := by
 have hsz := ba_size text
 unfold execT
 by_cases h : 400 < text.size
 ·rw [if_pos (by omega)]
  refine (Execute_long text w h).mono ?_
  rintro e w' ⟨rfl, rfl⟩
  exact ⟨rfl, Below.refl _ _⟩
 ·rw [if_neg (by omega)]
  have hc : cut 10 text.data.toList = (cut 10 text.data.toList).dropLast ++ [(cut 10 text.data.toList).getLast (cut_ne _ _)] := (List.dropLast_concat_getLast (cut_ne _ _)).symm
  have hspan := cut_span 10 text.data.toList
  have hlen : ∀ l ∈ (cut 10 text.data.toList).dropLast, l.length ≤ 1000 := fun l hl => by
   have := cut_len 10 _ l (List.dropLast_subset _ hl)
   omega
  obtain ⟨ls, hls⟩ : ∃ ls, (cut 10 text.data.toList).dropLast = ls := ⟨_, rfl⟩
  obtain ⟨lst, hlst⟩ : ∃ lst, (cut 10 text.data.toList).getLast (cut_ne _ _) = lst := ⟨_, rfl⟩
  rw [hls, hlst] at hc
  rw [hls] at hlen ⊢
  rw [hc, span_app] at hspan
  have hr := runs_any ls St.start InvS.start hlen
  have hi := InvS.runL ls St.start InvS.start
  have hz := runL_size ls St.start InvS.start
  have hv := hi.b.bval
  exact Execute_any2 text ls lst _ _ w (by omega) hc hr hm hp (by omega) (by omega)
def lines (t : List UInt8) : List (List UInt8) := (cut 10 t).dropLast
def preOf (t : List UInt8) : List UInt8 := (runL St.start (lines t)).1
def finOf (t : List UInt8) : St := (runL St.start (lines t)).2
def endS (s : St) : List UInt8 := endL (bVal s.bs) (s.ts.length : Int)
theorem execT_short {t : List UInt8} (h : t.length ≤ 400) : execT t = preOf t ++ endS (finOf t) := if_neg (by omega)
theorem execT_long {t : List UInt8} (h : 400 < t.length) : execT t = longT := if_pos h
theorem pre_size (t : List UInt8) (h : t.length ≤ 400) : (preOf t).length ≤ 96240 := by
 have h1 := runL_size (lines t) St.start InvS.start
 have h2 := cut_span 10 t
 have h3 : cut 10 t = (cut 10 t).dropLast ++ [(cut 10 t).getLast (cut_ne _ _)] := (List.dropLast_concat_getLast (cut_ne _ _)).symm
 rw [h3, span_app] at h2
 have h4 : span (lines t) ≤ 401 := by unfold lines; omega
 unfold preOf
 omega
end Go.Proofs.YthdoofmfigemoaaGreatDoor
