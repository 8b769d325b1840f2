/-
  The laws' markText.
-/
import Derived.Test.YtogplbnabffcfaaTaRef2
namespace Go.Proofs.Ytogplbnabffcfaa
open Go.RowKit
set_option linter.unusedSimpArgs false

/-- the digits of k ahead of a text -/
def mrun : Nat → Nat → ByteArray → ByteArray
  | 0, _, out => out
  | f + 1, k, out => if k = 0 then out else mrun f (k / 10) (txt [(48 + k % 10).toUInt8] ++ out)
def mt (k : Nat) : ByteArray := txt [109] ++ mrun 20 k (txt [])
theorem conv_digit (w : World) (q : Nat) : (convert 22 9 (.slice (some ⟨w.heap.size, 0, none⟩) 1 1)).run Try.prog (w.alloc (.cells #[.int .u8 (48 + (q : Int) % 10)] 5)) = .ok (.string (txt [(48 + q % 10).toUInt8])) (w.alloc (.cells #[.int .u8 (48 + (q : Int) % 10)] 5)) := by
  refine run_convert_bytes_back _ 22 9 5 ⟨w.heap.size, 0, none⟩ 1 [(48 + q % 10).toUInt8] Try.underlying22 Try.underlying5 Try.underlying9 (fun j hj => ?_)
  have hj0 : j = 0 := by simp at hj; omega
  subst hj0
  rw [add_row, cell_of_row _ w.heap.size 0 _ _ _ (heap_alloc_new w _)]
  have e : ((48 + q % 10).toUInt8.toNat : Int) = 48 + (q : Int) % 10 := by
    have : (48 + q % 10).toUInt8.toNat = 48 + q % 10 := by
      show (UInt8.ofNat (48 + q % 10)).toNat = _
      rw [UInt8.toNat_ofNat']
      omega
    omega
  simp only [List.getElem_cons_zero]
  rw [e]
  rfl
set_option maxRecDepth 100000 in
set_option maxHeartbeats 1000000 in
theorem markText_any (k : Nat) (h1 : 1 ≤ k) (h2 : k ≤ 100000000) (w : World) : Calls Try.prog 31 #[.int .i64 (k : Int)] w fun e w' => e = .returned (.string (mt k)) ∧ Below w.heap.size w w' := by
  obtain ⟨R, hR⟩ : ∃ R, mrun 20 k (txt []) = R := ⟨_, rfl⟩
  have HR := Lib.hid hR
  have HM := Lib.hid (show mt k = txt [109] ++ R by unfold mt; rw [hR])
  rw [HM.out]
  clear hR
  go_enter Try.func31, Try.ntmps31
  go_wp2_with fail
  go_loopw [0, 3] (fun kv ov wr => ∃ (q f : Nat) (o : ByteArray), q ≤ 100000000 ∧ q < 10 ^ f ∧ f ≤ 20 ∧ o.size ≤ 20 - f ∧ kv = .int .i64 (q : Int) ∧ ov = .string o ∧ mrun f q o = R ∧ Below w.heap.size w wr) (fun kv _ _ => (intOf kv).toNat)
  case atStart => exact ⟨k, 20, txt [], h2, by omega, by omega, by simp [txt_size], rfl, rfl, HR.out, Below.refl _ _⟩
  case round =>
    obtain ⟨q, f, o, hq, hqf, hf, ho, rfl, rfl, hrun, hb⟩ := hrel
    have HRUN := Lib.hid hrun
    have HB := Lib.hid hb
    have HQF := Lib.hid hqf
    clear hrun hb hqf
    by_cases hz : q = 0
    · subst hz
      have hor : o = R := by rw [← HRUN.out]; cases f with | zero => rfl | succ f => simp [mrun]
      have HOR := Lib.hid hor
      have hso : o.size ≤ 20 := by omega
      clear hor
      go_wp2
      go_ret
      exact ⟨ret_str (by rw [HOR.out]; rfl), HB.out⟩
    · obtain ⟨f, rfl⟩ : ∃ g, f = g + 1 := ⟨f - 1, by cases f with | zero => have := HQF.out; simp at this; omega | succ f => simp⟩
      have hq0 : (q : Int) > 0 := by omega
      have hdiv : ((q : Int)).tdiv 10 = ((q / 10 : Nat) : Int) := rfl
      have hmod : ((q : Int)).tmod 10 = ((q % 10 : Nat) : Int) := rfl
      have w1 : IntKind.i64.wrap ((q / 10 : Nat) : Int) = ((q / 10 : Nat) : Int) := IntWalk.i64_in _ (by omega)
      have w2 : IntKind.i64.wrap ((q % 10 : Nat) : Int) = ((q % 10 : Nat) : Int) := IntWalk.i64_in _ (by omega)
      have w3 : IntKind.u8.wrap (48 + ((q % 10 : Nat) : Int)) = 48 + ((q % 10 : Nat) : Int) := IntWalk.u8_in _ (by omega)
      obtain ⟨D, hD⟩ : ∃ D, txt [(48 + q % 10).toUInt8] = D := ⟨_, rfl⟩
      have sD : D.size = 1 := by rw [← hD, txt_size]; rfl
      have hcv := conv_digit wr q
      rw [hD] at hcv
      have HN := Lib.hid (show mrun f (q / 10) (D ++ o) = R by have := HRUN.out; simp only [mrun] at this; rw [if_neg hz, hD] at this; exact this)
      have hsz : (D ++ o).size ≤ 20 - f := by rw [ByteArray.size_append, sD]; omega
      clear hD
      go_wp2_with fail
      refine ⟨⟨q / 10, f, D ++ o, by omega, ?_, by omega, hsz, rfl, rfl, HN.out, HB.out.alloc HB.out.size _⟩, by simp [intOf]; omega⟩
      have := HQF.out
      rw [Nat.pow_succ] at this
      omega
end Go.Proofs.Ytogplbnabffcfaa
