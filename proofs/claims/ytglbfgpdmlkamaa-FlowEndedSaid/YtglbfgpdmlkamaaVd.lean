/-
  The walk of named's iterator.
-/
import Derived.Test.YtglbfgpdmlkamaaWd
namespace Go.Proofs.Ytglbfgpdmlkamaa
open Go.RowKit Go.Flw Go.Shelf
attribute [local go_sem] Oper.semAt_some
attribute [local simp] wide_fn

set_option maxHeartbeats 400000 in
theorem named_calls (w : World) (m : ByteArray) : Calls Try.prog 63 #[.string m] w fun r w' => r = .returned (.func (.func 68) #[] #[.pointer (some ⟨w.heap.size, 0, none⟩)]) ∧ w' = w.alloc (.cells #[.string m] 9) := by
  go_enter Try.func63, Try.ntmps63
  go_wp2
  go_ret
  exact ⟨rfl, rfl⟩

set_option maxHeartbeats 800000 in
set_option maxRecDepth 100000 in
theorem named1_in (n l bx : Nat) (m : ByteArray) (J : World → Prop) (w : World) (hm : m.size ≤ 4)
    (hbx : ∀ W, J W → W.cell? ⟨bx, 0, none⟩ = some (.string m))
    (hyield : ∀ (i : Nat) W, i < 32 → J W → YieldAt Fence.wide (n - 1) Try.prog l #[vi ((i : Int) + 2)] W fun e W' => e = .returned (.bool true) ∧ J W')
    (h0 : J w) :
    CallsIn Fence.wide n Try.prog 68 #[.func (.yield l) #[] #[], .pointer (some ⟨bx, 0, none⟩)] w fun e W' => (∃ v, e = .returned v) ∧ J W' := by
  have hb0 := hbx w h0
  gi_enter Try.func68, Try.ntmps68
  gi_wp2
  gi_loopw [7] (fun i wr => ∃ k : Nat, k ≤ 8 * m.size ∧ i = .int .i64 k ∧ J wr) (fun i _ => 8 * m.size - (intOf i).toNat)
  case atStart => exact ⟨0, Nat.zero_le _, rfl, h0⟩
  case round =>
    obtain ⟨k, hk, rfl, hJ⟩ := hrel
    have hb := hbx wr hJ
    by_cases hlt : k < 8 * m.size
    · have hy := hyield k wr (by omega) hJ
      obtain ⟨fn, tmps, assign, body, hy, hR⟩ := hy
      clear hbx hyield
      gi_wp2_with (fail)
      case isTrue =>
        refine ⟨wide_deep _, hR.mono ?_⟩
        rintro r W' ⟨rfl, hJ'⟩
        gi_wp2
        refine ⟨⟨k + 1, by omega, by simp, hJ'⟩, ?_⟩
        simp [intOf]; omega
      case roundEnd =>
        refine ⟨⟨k + 1, by omega, by simp, hJ⟩, ?_⟩
        simp [intOf]; omega
    · obtain rfl : k = 8 * m.size := by omega
      gi_wp2
      exact bodyPost_end (results_none rfl _ _ _) rfl ⟨⟨_, rfl⟩, hJ⟩
end Go.Proofs.Ytglbfgpdmlkamaa
