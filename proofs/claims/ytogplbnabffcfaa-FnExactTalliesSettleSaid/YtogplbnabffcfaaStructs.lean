/-
  A slice of tallies that came in, opened.
-/
import Derived.Test.YtogplbnabffcfaaTaMem
import Derived.Deep.Slices
namespace Go.Proofs.Ytogplbnabffcfaa
open Go.RowKit Go.ChangeShapes Go.WideShapes Go.Deep

/-- what a law's walk is told of a slice of tallies that came in -/
def RawT (w : World) (A : Option Addr) (n : Nat) (ts : List Tl) : Prop :=
  ts.length = n ∧ n ≤ maxLen ∧ (∀ t ∈ ts, t.s.size ≤ maxLen ∧ t.f.size ≤ maxLen) ∧ (0 < n → ∃ b off, A = some ⟨b, off, none⟩ ∧ b < w.heap.size ∧ ∀ j u, (TV ts)[j]? = some u → w.cell? ⟨b, off + j, none⟩ = some u)
theorem RawT.tals {w : World} {A : Option Addr} {n : Nat} {ts : List Tl} (h : RawT w A n ts) (hn : n ≤ 1099511627776) : Tals w w.heap.size A n ts := ⟨by rw [TV_length, h.1], hn, h.2.2.2⟩
theorem cells4 : Try.prog.cellsOf 61 = 4 := by kernel_rfl
theorem one_int : Try.prog.cellsOf 3 = 1 := by kernel_rfl
theorem one_str : Try.prog.cellsOf 9 = 1 := by kernel_rfl
theorem add_at (b off j : Nat) : (⟨b, off, none⟩ : Addr).add j = ⟨b, off + j, none⟩ := by unfold Addr.add; split <;> simp_all
theorem four_of {α : Type} {l : List α} (h : l.length = 4) : ∃ a b c d, l = [a, b, c, d] := by
  match l, h with
  | [a, b, c, d], _ => exact ⟨a, b, c, d, rfl⟩
theorem isTallies {H : Type} {enc : TypeId × Value → H} {W : World} {base : Nat} {spare : Nat → Bool} {held : Bool} {a : Option Addr} {len cap : Nat} {d : DataW H} {ps : List MemPlace}
    (h : DataW.Trod enc Try.prog W base spare held 36 (.slice a len cap) d ps) : ∃ ts, RawT W a len ts := by
  obtain ⟨fuel, hf⟩ := h
  rcases open_slice Try.underlying36 hf with ⟨hcs, _⟩ | ⟨x, l, c, m, n, D, Pl, hcs, _, hl, hm, hmm, _, hx⟩
  · simp [Value.cells] at hcs
    obtain ⟨rfl, rfl, rfl⟩ := hcs
    exact ⟨[], rfl, by unfold maxLen; omega, fun t ht => by simp at ht, fun h => absurd h (by omega)⟩
  · simp [Value.cells] at hcs
    obtain ⟨rfl, rfl, rfl⟩ := hcs
    have hlm : len ≤ m := by rw [hmm]; split <;> omega
    have each : ∀ i, i < len → ∃ t : Tl, (∀ j u, t.cells[j]? = some u → W.cell? (x.add (i * 4 + j)) = some u) ∧ t.s.size ≤ maxLen ∧ t.f.size ≤ maxLen := by
      intro i hi
      obtain ⟨cs', h1, h2⟩ := hx i (by omega)
      rw [cells4] at h1
      obtain ⟨_, hlen, hcell⟩ := World.cells?_some h1
      obtain ⟨xs, k, hk, hxy, _, hxl, hfs⟩ := DataW.trod_struct Try.underlying61 h2
      obtain ⟨y0, y1, y2, y3, rfl⟩ := four_of (l := xs) (hxl.trans (by rfl))
      obtain ⟨v0, v1, v2, v3, rfl⟩ := four_of hlen
      clear hxl hlen
      have g0 := hfs 0 _ rfl
      have g1 := hfs 1 _ rfl
      have g2 := hfs 2 _ rfl
      have g3 := hfs 3 _ rfl
      simp [one_int, one_str] at g0 g1 g2 g3
      obtain ⟨n0, e0, _, _⟩ := DataW.trod_int Try.underlying3 g0
      obtain ⟨n1, e1, _, _⟩ := DataW.trod_int Try.underlying3 g1
      obtain ⟨s2, e2, _, z2⟩ := DataW.trod_string Try.underlying9 g2
      obtain ⟨s3, e3, _, z3⟩ := DataW.trod_string Try.underlying9 g3
      injection e0 with e0; subst e0
      injection e1 with e1; subst e1
      injection e2 with e2; subst e2
      injection e3 with e3; subst e3
      have c0 := hcell 0 (by omega)
      have c1 := hcell 1 (by omega)
      have c2 := hcell 2 (by omega)
      have c3 := hcell 3 (by omega)
      rw [add_add] at c0 c1 c2 c3
      refine ⟨⟨n0, n1, s2, s3⟩, fun j u hj => ?_, z2, z3⟩
      match j, hj with
      | 0, hj => rw [c0]; exact hj
      | 1, hj => rw [c1]; exact hj
      | 2, hj => rw [c2]; exact hj
      | 3, hj => rw [c3]; exact hj
      | j + 4, hj => simp [Tl.cells] at hj
    have : Inhabited Tl := ⟨⟨0, 0, ⟨#[]⟩, ⟨#[]⟩⟩⟩
    obtain ⟨T, hT⟩ := choose_lt each
    refine ⟨(List.range len).map T, by simp, by omega, fun t ht => ?_, fun hn => ?_⟩
    · obtain ⟨i, hi, rfl⟩ := List.mem_map.1 ht
      exact (hT i (List.mem_range.1 hi)).2
    · obtain ⟨b, off, spot⟩ := x
      have h0 := (hT 0 hn).1 0 _ rfl
      have hs : spot = none := by simpa [Addr.add] using World.cell?_spot h0
      subst hs
      refine ⟨b, off, rfl, by simpa [Addr.add] using World.block_lt_of_cell? W _ h0, fun j u hj => ?_⟩
      have hjl : j < len * 4 := by have := (List.getElem?_eq_some_iff.1 hj).1; rw [TV_length] at this; simpa using this
      have hq : j = j / 4 * 4 + j % 4 := by omega
      have hg := flat_get (f := Tl.cells) (k := 4) (fun _ => rfl) ((List.range len).map T) (j / 4) (T (j / 4)) (by rw [List.getElem?_map, List.getElem?_range (by omega)]; rfl) (j % 4) (by omega)
      rw [← hq] at hg
      have := (hT (j / 4) (by omega)).1 (j % 4) u (by rw [← hg]; exact hj)
      rw [← hq, add_at] at this
      exact this
end Go.Proofs.Ytogplbnabffcfaa
