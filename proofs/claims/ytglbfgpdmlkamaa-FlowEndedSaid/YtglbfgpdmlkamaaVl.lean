/-
  The walks of Read and New.
-/
import Derived.Test.YtglbfgpdmlkamaaSnd
import Derived.Test.YtglbfgpdmlkamaaWc
namespace Go.Proofs.Ytglbfgpdmlkamaa
open Go.RowKit Go.Flw

variable {b : Nat} {e : E} {ws fs : List Pk} {ks : List Ke} {clk : Nat}

/-- What Read gives. -/
def ReadP (e : E) (s : ByteArray) (c : Int) (e' : E) : Prop :=
  (c = 8 ∧ s = ByteArray.empty ∧ e' = e) ∨ (c = 0 ∧ ∃ rest, e' = { e with ready := rest } ∧ s.data.toList ++ rest.data.toList = e.ready.data.toList)

def ReadR (b : Nat) (e : E) (ws fs : List Pk) (ks : List Ke) (clk : Nat) (w : World) (r : Ending) (w' : World) : Prop :=
  ∃ s c e', r = .returned (.tuple #[.string s, vi c]) ∧ ReadP e s c e' ∧ Went w b e ws fs w' e' ws fs ks clk

set_option maxHeartbeats 1600000 in
set_option maxRecDepth 100000 in
theorem Read_calls (w : World) (most : Int) (h : EndIs w b e ws fs ks clk) (h0 : 0 ≤ most) (hr : e.ready.size ≤ 1000000) : Calls Try.prog 26 #[.pointer (some ⟨b, 0, none⟩), vi most] w (ReadR b e ws fs ks clk w) := by
  have c1 := ce_ready h.blk
  have c2 := ce_ended h.blk
  have c3 := ce_state h.blk
  have f1 := h.blk.frozen 15
  have hgo : ∀ t rest : ByteArray, t.data.toList ++ rest.data.toList = e.ready.data.toList → ReadR b e ws fs ks clk w (.returned (.tuple #[.string t, vi 0])) (w.setCell ⟨b, 15, none⟩ (.string rest)) := fun t rest ht =>
    ⟨_, 0, _, rfl, .inr ⟨rfl, _, rfl, ht⟩, h.went1 (e' := { e with ready := rest }) ((Chg.refl (· = b) w).setCell (p := ⟨b, 15, none⟩) (.inl rfl) _) (h.blk.set 15 _) rfl rfl rfl⟩
  by_cases hz : e.ready.toList.isEmpty = true
  · cases he : e.ended <;> rw [he] at c2
    · by_cases h5 : e.state = 5
      · rw [h5] at c3
        go_enter Try.func26, Try.ntmps26
        go_wp2_with (fail)
        go_ret2
        exact ⟨_, _, e, rfl, .inl ⟨rfl, rfl, rfl⟩, h.refl⟩
      · have g5 : (e.state == 5) = false := by simp [h5]
        go_enter Try.func26, Try.ntmps26
        go_wp2_with (fail)
        all_goals go_ret2
        all_goals first | exact hgo e.ready ByteArray.empty (by simp) | exact hgo _ _ (cut_cat e.ready _)
    · go_enter Try.func26, Try.ntmps26
      go_wp2_with (fail)
      go_ret2
      exact ⟨_, _, e, rfl, .inl ⟨rfl, rfl, rfl⟩, h.refl⟩
  · go_enter Try.func26, Try.ntmps26
    go_wp2_with (fail)
    all_goals go_ret2
    all_goals first | exact hgo e.ready ByteArray.empty (by simp) | exact hgo _ _ (cut_cat e.ready _)
end Go.Proofs.Ytglbfgpdmlkamaa
