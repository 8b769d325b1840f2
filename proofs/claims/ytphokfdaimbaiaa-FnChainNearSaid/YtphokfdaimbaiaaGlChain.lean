/-
  Chains of quotients in the program: links behind an interface, told one by one; two integers from a list of quotients.
-/
import Derived.Test.YtphokfdaimbaiaaGlRoot2
import Derived.Laws.EntriesVeiled
namespace Go.Proofs.Ytphokfdaimbaiaa
open Go.RowKit

/-- a chain as a value -/
def chV : List Int → Int → Value
  | [], g => .iface 88 (.agg #[.int .i64 g])
  | q :: qs, g => .iface 86 (.agg #[.int .i64 q, chV qs g])
theorem chV_iface (l : List Int) (g : Int) : ∃ T v, chV l g = .iface T v := by cases l <;> exact ⟨_, _, rfl⟩
theorem quiet_of_drew {P : Program} {f : FuncId} {args : Array Value} {w : World} {n : Nat} {v : Value}
    (h : Calls P f args (w.drewN n) fun e w' => e = .returned v ∧ ∃ m, w' = (w.drewN n).drewN m) : Calls P f args (w.drewN n) fun e w'' => e = .returned v ∧ ∃ m, w'' = w.drewN m :=
  h.mono fun _ _ ⟨he, m, hm⟩ => ⟨he, n + m, by rw [hm, World.drewN_drewN]⟩
theorem ch_len {a b : Int} (hb : 0 ≤ b) (hb1 : b ≤ 1000000000) : (Gl.ch a b).length ≤ 61 := by
  by_cases h0 : b = 0
  · subst h0; rw [Gl.ch_zero]; simp
  · rw [Gl.ch_step a b hb h0]
    have hm := Gl.mod_small a b hb h0
    have := Gl.ch_length 30 b (a % b) hm.1 hm.2 (by have : (2 : Int) ^ 30 = 1073741824 := by decide
                                                    omega)
    simp only [List.length_cons]
    omega

set_option maxRecDepth 100000 in
set_option maxHeartbeats 1000000 in
theorem chainFrom_any (n : Nat) : ∀ (a b : Int) (w : World), 0 ≤ a → a ≤ 1000000000 → 0 ≤ b → b ≤ 1000000000 → b.toNat < n →
    Calls Try.prog 67 #[.int .i64 a, .int .i64 b] w fun e w' => e = .returned (chV (Gl.ch a b) (Gl.com a b)) ∧ ∃ m, w' = w.drewN m := by
  induction n with
  | zero => intro a b w _ _ _ _ h; omega
  | succ n ih =>
    intro a b w a0 a1 b0 b1 hn
    by_cases hz : b = 0
    · subst hz
      rw [Gl.ch_zero, Gl.com_zero]
      go_enter Try.func67, Try.ntmps67
      go_wp2_with fail
      go_ret
      exact ⟨rfl, 0, rfl⟩
    · have hm := Gl.mod_small a b b0 hz
      rw [Gl.ch_step a b b0 hz, Gl.com_step a b b0 hz]
      have hc := fun w => ih b (a % b) w b0 b1 hm.1 (by omega) (by omega)
      obtain ⟨T, v, hv⟩ := chV_iface (Gl.ch b (a % b)) (Gl.com b (a % b))
      have HC := Lib.hid hc
      have HV := Lib.hid hv
      have hne : (b == 0) = false := by simpa using hz
      have m1 : a.tmod b = a % b := Int.tmod_eq_emod_of_nonneg a0
      have m2 : a.tdiv b = a / b := Int.tdiv_eq_ediv_of_nonneg a0
      have s1 : IntKind.i64.wrap (a % b) = a % b := IntWalk.i64_in _ (by omega)
      have q0 : 0 ≤ a / b := Int.ediv_nonneg a0 b0
      have q1 : a / b ≤ a := Int.ediv_le_self _ a0
      have s2 : IntKind.i64.wrap (a / b) = a / b := IntWalk.i64_in _ (by omega)
      clear hc hv ih hz
      have hc2 : ∀ k, Calls Try.prog 67 #[.int .i64 b, .int .i64 (a % b)] (w.drewN k) fun e w'' => e = .returned (.iface T v) ∧ ∃ m, w'' = w.drewN m := fun k => by
        rw [← HV.out]; exact quiet_of_drew (HC.out _)
      have HC2 := Lib.hid hc2
      clear hc2
      go_enter Try.func67, Try.ntmps67
      go_wp2_with fail
      go_quiet ((go_at_call 67; exact HC2.out _))
      go_wp2_with fail
      go_ret
      exact ⟨by rw [chV, HV.out]; rfl, _, rfl⟩

theorem run_assert_link (v : Value) (w : World) : (Instr.typeAssert (.iface 86 v) 72 86 true).run Try.prog w = .ok (.tuple #[v, .bool true]) w := by kernel_rfl
theorem run_assert_nolink (v : Value) (w : World) : (Instr.typeAssert (.iface 88 v) 72 86 true).run Try.prog w = .ok (.tuple #[.agg #[.int .i64 0, .nilIface], .bool false]) w := by kernel_rfl
theorem run_assert_end (v : Value) (w : World) : (Instr.typeAssert (.iface 88 v) 72 88 true).run Try.prog w = .ok (.tuple #[v, .bool true]) w := by kernel_rfl

set_option maxRecDepth 100000 in
set_option maxHeartbeats 1000000 in
theorem told_any (l : List Int) (g : Int) (w : World) (hl : l.length ≤ 1000) :
    Calls Try.prog 66 #[chV l g] w fun e w' => (∃ A c, e = .returned (.tuple #[.slice A l.length c, .int .i64 g]) ∧ Own w' w.heap.size A l.length c l) ∧ Below w.heap.size w w' := by
  have t1 := run_assert_link
  have t2 := run_assert_nolink
  have t3 := run_assert_end
  have HLN := Lib.hid (lit_nil w)
  obtain ⟨T0, v0, hv0⟩ := chV_iface l g
  have HV0 := Lib.hid hv0
  rw [hv0]
  clear hv0
  go_enter Try.func66, Try.ntmps66
  go_wp2_with fail
  go_loopw [0, 4] (fun cv v wr => ∃ (A : Option Addr) (c : Nat) (dn rest : List Int), cv = chV rest g ∧ v = .slice A dn.length c ∧ Own wr w.heap.size A dn.length c dn ∧ dn ++ rest = l ∧ Below w.heap.size w wr) (fun _ v _ => match v with | .slice _ n _ => l.length - n | _ => 0)
  case atStart => exact ⟨_, _, [], l, HV0.out.symm, rfl, HLN.out, rfl, (Below.refl _ _).alloc (Nat.le_refl _) _⟩
  case round =>
    obtain ⟨A, c, dn, rest, hcv, rfl, hown, heq, hb⟩ := hrel
    have hsz := hb.size
    have hlen : dn.length + rest.length = l.length := by rw [← heq, List.length_append]
    have HO := Lib.hid hown
    have HEQ := Lib.hid heq
    have HB := Lib.hid hb
    clear hown heq hb HLN HV0
    cases rest with
    | nil =>
      obtain rfl : u0 = .iface 88 (.agg #[.int .i64 g]) := hcv
      obtain rfl : dn = l := by have := HEQ.out; simpa using this
      go_wp2_with fail
      have hc0 : (wr.alloc (.cells #[.int .i64 g] 88)).cell? ⟨wr.heap.size, 0, none⟩ = some (.int .i64 g) := cell_of_row _ _ _ _ _ _ (heap_alloc_new wr _)
      go_quiet (fail)
      go_wp2
      go_ret2
      exact ⟨⟨_, _, rfl, (HO.out.alloc _).drewN _⟩, below_drewN (HB.out.alloc hsz _) _⟩
    | cons q qs =>
      obtain ⟨T, v, hv⟩ := chV_iface qs g
      obtain rfl : u0 = .iface 86 (.agg #[.int .i64 q, .iface T v]) := by rw [hcv, chV, hv]
      have HV := Lib.hid hv
      clear hcv hv
      simp only [List.length_cons] at hlen
      go_wp2_with (at_builtin; refine wpList_app_at rfl _ _ rfl rfl (HO.out.alloc _) [q] 1 rfl _ _ rfl (by simp) _ rfl (by omega) (by simp; omega) ?_; intro A' c' w3 hown3 hg3; have hc1 : w3.cell? ⟨wr.heap.size, 1, none⟩ = some (.iface T v) := (World.cell?_of_block (hg3.block wr.heap.size (by simp) (fun e => by have := (HO.out.blk _ e.symm).2; omega))).trans (cell_of_row _ _ _ _ _ _ (heap_alloc_new wr _)))
      have HB3 := Lib.hid ((HB.out.alloc hsz _).grown hg3 (by simp; omega) fun k hk => (HO.out.blk k hk).1)
      have HQ : Hid ((dn ++ [q]) ++ qs = l) := Lib.hid (by have := HEQ.out; simpa using this)
      have hdl : (dn ++ [q]).length = dn.length + 1 := by simp
      have HDL := Lib.hid hdl
      clear hdl
      go_roundw
      case rel => exact ⟨A', c', dn ++ [q], qs, HV.out.symm, by rw [HDL.out], by rw [HDL.out]; exact hown3, HQ.out, HB3.out⟩
      case measure => simp; omega
end Go.Proofs.Ytphokfdaimbaiaa
