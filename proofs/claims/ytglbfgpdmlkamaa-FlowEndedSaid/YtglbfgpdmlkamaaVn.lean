/-
  The walks of right, Before and the small checks of the law.
-/
import Derived.Test.YtglbfgpdmlkamaaVa
namespace Go.Proofs.Ytglbfgpdmlkamaa
open Go.RowKit Go.Flw

theorem within_true (a b c : Int) (w : World) (h1 : b ≤ a) (h2 : a ≤ c) : Calls Try.prog 12 #[vi a, vi b, vi c] w fun e w' => e = .returned (.bool true) ∧ w = w' :=
  (within_calls a b c w).mono fun e w' ⟨h, h3⟩ => ⟨by rw [h, inB_true h1 h2], h3⟩

set_option maxHeartbeats 1600000 in
set_option maxRecDepth 100000 in
theorem right_calls (s : Seg) (w : World) (h : SegOk s) : Calls Try.prog 23 #[s.enc] w fun e w' => e = .returned (.bool true) ∧ Below w.heap.size w w' := by
  obtain ⟨k1, k5, a0, a1, b0, b1, d0, d1, e0, e1, m, t0, t1, l0, l1, hd, ho⟩ := h
  have t2 : s.time ≤ 4294967295 := by omega
  have l2 : s.late ≤ 4294967295 := by omega
  simp only [Seg.enc]
  by_cases hk : s.kind = 2
  · obtain ⟨hd1, hd2⟩ := hd hk
    clear ho hd
    rw [hk]
    have hne : s.body.toList.isEmpty = false := by
      cases hb : s.body.toList with
      | nil =>
        have : s.body.toList.length = 0 := by rw [hb]; rfl
        rw [Go.ByteArray.toList_eq, Array.length_toList] at this
        have h2 : s.body.size = s.body.data.size := rfl
        omega
      | cons a l => rfl
    go_enter Try.func23, Try.ntmps23
    go_wp2_with (go_at_call 12; refine (within_true _ _ _ _ (by first | assumption | decide) (by first | assumption | decide)).mono ?_; rintro r w' ⟨rfl, rfl⟩)
    go_ret
    exact ⟨rfl, (Below.refl _ w).alloc (Nat.le_refl _) _⟩
  · have hb0 := ho hk
    have gk : (s.kind == 2) = false := by simp [hk]
    clear ho hd hk
    rw [hb0]
    go_enter Try.func23, Try.ntmps23
    go_wp2_with (go_at_call 12; refine (within_true _ _ _ _ (by first | assumption | decide) (by first | assumption | decide)).mono ?_; rintro r w' ⟨rfl, rfl⟩)
    go_ret
    exact ⟨rfl, (Below.refl _ w).alloc (Nat.le_refl _) _⟩
end Go.Proofs.Ytglbfgpdmlkamaa
