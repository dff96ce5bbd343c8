/-
  The walks of the small functions.
-/
import Derived.Test.YtglbfgpdmlkamaaRows
import Derived.Test.YtglbfgpdmlkamaaEnd
import Derived.WalkLawsBesides
import Derived.RegionTactic
import Derived.ChangeAlike
namespace Go.Proofs.Ytglbfgpdmlkamaa
open Go.RowKit Go.Flw

def inB (a b c : Int) : Bool := decide (b ≤ a) && decide (a ≤ c)
theorem inB_true {a b c : Int} (h1 : b ≤ a) (h2 : a ≤ c) : inB a b c = true := by simp [inB, h1, h2]

set_option maxHeartbeats 400000 in
theorem within_calls (a b c : Int) (w : World) : Calls Try.prog 12 #[vi a, vi b, vi c] w fun e w' => e = .returned (.bool (inB a b c)) ∧ w = w' := by
  by_cases h1 : b ≤ a <;> by_cases h2 : a ≤ c <;> (go_enter Try.func12, Try.ntmps12; go_wp2; go_ret; exact ⟨by simp [inB, h1, h2], rfl⟩)

set_option maxHeartbeats 400000 in
theorem round_calls (a : Int) (w : World) : Calls Try.prog 28 #[vi a] w fun e w' => e = .returned (.bool (inB a 0 65535)) ∧ w = w' := by
  by_cases h1 : 0 ≤ a <;> by_cases h2 : a < 65536 <;> (go_enter Try.func28, Try.ntmps28; go_wp2; go_ret; exact ⟨by simp only [inB]; congr 1; simp; omega, rfl⟩)

theorem ahead_eq (a b : Int) : (wrap64 ((b - a).tmod 65536 + 65536)).tmod 65536 = (b - a) % 65536 := by
  have h1 := Int.tmod_lt_of_pos (b - a) (b := 65536) (by decide)
  have h2 := Int.lt_tmod_of_pos (b - a) (b := 65536) (by decide)
  rw [show wrap64 ((b - a).tmod 65536 + 65536) = (b - a).tmod 65536 + 65536 from by unfold wrap64; omega, Int.tmod_eq_emod_of_nonneg (by omega)]
  have h3 := Int.mul_tdiv_add_tmod (b - a) 65536
  omega

set_option maxHeartbeats 400000 in
theorem ahead_calls (a b : Int) (w : World) (ha : -1 ≤ a) (ha' : a ≤ 1000000) (hb : -1 ≤ b) (hb' : b ≤ 1000000) :
    Calls Try.prog 30 #[vi a, vi b] w fun e w' => e = .returned (vi ((b - a) % 65536)) ∧ w = w' := by
  go_enter Try.func30, Try.ntmps30
  go_wp2
  go_ret
  exact ⟨by show Ending.returned (vi _) = _; rw [ahead_eq], rfl⟩

variable {b : Nat} {e : E} {ws fs : List Pk} {ks : List Ke} {clk : Nat}

set_option maxHeartbeats 400000 in
/-- 'at' at a time that is right. -/
theorem at_calls (w : World) (now : Int) (h : Blk w b e.enc 61) (h1 : e.now ≤ now) (h2 : now ≤ 1000000000) :
    Calls Try.prog 20 #[.pointer (some ⟨b, 0, none⟩), vi now] w fun r w' => r = .returned (vi 0) ∧ w = w' := by
  have c := ce_now h
  go_enter Try.func20, Try.ntmps20
  go_wp2
  go_ret
  exact ⟨rfl, rfl⟩

set_option maxHeartbeats 400000 in
theorem tell_calls (w : World) (now : Int) (h : Blk w b e.enc 61) (h1 : e.now ≤ now) (h2 : now ≤ 1000000000) :
    Calls Try.prog 36 #[.pointer (some ⟨b, 0, none⟩), vi now] w fun r w' => r = .returned (vi 0) ∧ Blk w' b { e with now := now }.enc 61 ∧ Chg (· = b) w w' := by
  have c := ce_now h
  have f := h.frozen 24
  go_enter Try.func36, Try.ntmps36
  go_wp2_with (go_at_call 20; refine (at_calls _ _ h h1 h2).mono ?_; rintro r w' ⟨rfl, rfl⟩)
  go_ret
  exact ⟨rfl, h.set 24 _, (Chg.refl (· = b) w).setCell (p := ⟨b, _, none⟩) (.inl rfl) _⟩

set_option maxHeartbeats 400000 in
theorem Ended_calls (w : World) (h : Blk w b e.enc 61) :
    Calls Try.prog 8 #[.pointer (some ⟨b, 0, none⟩)] w fun r w' => r = .returned (.bool e.ended) ∧ w = w' := by
  have c := ce_ended h
  go_enter Try.func8, Try.ntmps8
  go_wp2
  go_ret
  exact ⟨rfl, rfl⟩

set_option maxHeartbeats 400000 in
theorem limitF_calls (w : World) : Calls Try.prog 33 #[.pointer (some ⟨b, 0, none⟩)] w fun r w' => r = .returned (.pointer (some ⟨b, 5, none⟩)) ∧ w = w' := by
  go_enter Try.func33, Try.ntmps33
  go_wp2
  go_ret
  exact ⟨rfl, rfl⟩

set_option maxHeartbeats 400000 in
theorem bodyF_calls (w : World) : Calls Try.prog 34 #[.pointer (some ⟨b, 0, none⟩)] w fun r w' => r = .returned (.pointer (some ⟨b, 6, none⟩)) ∧ w = w' := by
  go_enter Try.func34, Try.ntmps34
  go_wp2
  go_ret
  exact ⟨rfl, rfl⟩

set_option maxHeartbeats 400000 in
theorem Limit_calls (w : World) (n : Int) (h : Blk w b e.enc 61) (h1 : 1 ≤ n) (h2 : n ≤ 1000000) :
    Calls Try.prog 16 #[.pointer (some ⟨b, 0, none⟩), vi n] w fun r w' => r = .returned (vi 0) ∧ Blk w' b { e with limit := n }.enc 61 ∧ Chg (· = b) w w' := by
  have c := ce_limit h
  have f := h.frozen 5
  go_enter Try.func16, Try.ntmps16
  go_wp2_with (first | (go_at_call 33; refine (limitF_calls _).mono ?_; rintro r w' ⟨rfl, rfl⟩) | go_in)
  go_ret
  exact ⟨rfl, h.set 5 _, (Chg.refl (· = b) w).setCell (p := ⟨b, _, none⟩) (.inl rfl) _⟩

set_option maxHeartbeats 400000 in
theorem Body_calls (w : World) (n : Int) (h : Blk w b e.enc 61) (h1 : 1 ≤ n) (h2 : n ≤ 1400) :
    Calls Try.prog 17 #[.pointer (some ⟨b, 0, none⟩), vi n] w fun r w' => r = .returned (vi 0) ∧ Blk w' b { e with body := n }.enc 61 ∧ Chg (· = b) w w' := by
  have c := ce_body h
  have f := h.frozen 6
  go_enter Try.func17, Try.ntmps17
  go_wp2_with (first | (go_at_call 34; refine (bodyF_calls _).mono ?_; rintro r w' ⟨rfl, rfl⟩) | go_in)
  go_ret
  exact ⟨rfl, h.set 6 _, (Chg.refl (· = b) w).setCell (p := ⟨b, _, none⟩) (.inl rfl) _⟩

end Go.Proofs.Ytglbfgpdmlkamaa
