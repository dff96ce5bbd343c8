/-
  The walks of fits and may.
-/
import Derived.Test.YtglbfgpdmlkamaaWf
namespace Go.Proofs.Ytglbfgpdmlkamaa
open Go.RowKit Go.Flw Go.Shelf

variable {b : Nat} {e : E} {ws fs : List Pk} {ks : List Ke} {clk : Nat}

/-- Whether a packet may go beside what is under way. -/
def fitsV (e : E) (fs : List Pk) (p : Pk) : Bool := flyN fs == 0 || decide ((flyB fs : Int) + p.sz ≤ min e.window e.limit)
/-- Whether a new packet may go in this state. -/
def mayV (e : E) (p : Pk) : Bool := if p.kind = 1 then e.state == 1 else (e.state == 2 || e.state == 3) && (e.opener || e.heard)

set_option maxHeartbeats 800000 in
theorem fits_calls (w : World) (h : EndIs w b e ws fs ks clk) (hl : fs.length ≤ 100000) (hs : ∀ p ∈ fs, p.body.size ≤ 1400) (p : Pk) (hp : Blk w p.blk p.enc 64) (hps : p.body.size ≤ 1400) :
    Calls Try.prog 50 #[.pointer (some ⟨b, 0, none⟩), .pointer (some ⟨p.blk, 0, none⟩)] w fun r w' => r = .returned (.bool (fitsV e fs p)) ∧ Below w.heap.size w w' := by
  have hB := flyB_le fs 1400 (fun p hp => by have := hs p hp; simp only [Pk.sz]; omega)
  have hz : p.sz ≤ 1400 := by simp only [Pk.sz]; omega
  have hz1 : 1 ≤ p.sz := by simp only [Pk.sz]; omega
  by_cases h0 : flyN fs = 0
  · have HV : Hid (fitsV e fs p = true) := by simp [Hid, fitsV, h0]
    go_enter Try.func50, Try.ntmps50
    go_wp2_with (go_at_call 40; refine (flying_calls _ h hl hs).mono ?_; rintro r w1 ⟨rfl, hb⟩; rw [h0])
    go_quiet (fail)
    go_wp2
    go_ret
    exact ⟨by rw [HV.out]; rfl, belowDrewN hb _⟩
  · have HV : Hid (fitsV e fs p = decide ((flyB fs : Int) + p.sz ≤ min e.window e.limit)) := by simp [Hid, fitsV, h0]
    have g0 : ((flyN fs : Int) == 0) = false := by simp; omega
    have gv : ∀ x : Bool, decide ((flyB fs : Int) + p.sz ≤ min e.window e.limit) = x → fitsV e fs p = x := fun x hx => by rw [HV.out]; exact hx
    clear HV
    have hsum : IntKind.i64.wrap ((flyB fs : Int) + p.sz) = (flyB fs : Int) + p.sz := IntWalk.i64_in _ (by omega)
    by_cases hm : e.limit < e.window
    · have gm : min e.window e.limit = e.limit := by omega
      rw [gm] at gv
      clear gm
      go_enter Try.func50, Try.ntmps50
      go_wp2_with (go_at_call 40; refine (flying_calls _ h hl hs).mono ?_; rintro r w1 ⟨rfl, hb⟩)
      have h1 := h.blk.below hb h.blk.lt
      have c1 := ce_window h1
      have c2 := ce_limit h1
      have hp1 := hp.below hb hp.lt
      go_quiet ((go_at_call 52; exact Calls.quiet_of_same ((size_calls _ _ (by exact hp1) (by omega)).mono fun _ _ ⟨x, y⟩ => ⟨x, y.symm⟩)))
      go_wp2
      go_ret
      exact ⟨by rw [gv _ rfl]; rfl, belowDrewN hb _⟩
    · have gm : min e.window e.limit = e.window := by omega
      rw [gm] at gv
      clear gm
      go_enter Try.func50, Try.ntmps50
      go_wp2_with (go_at_call 40; refine (flying_calls _ h hl hs).mono ?_; rintro r w1 ⟨rfl, hb⟩)
      have h1 := h.blk.below hb h.blk.lt
      have c1 := ce_window h1
      have c2 := ce_limit h1
      have hp1 := hp.below hb hp.lt
      go_quiet ((go_at_call 52; exact Calls.quiet_of_same ((size_calls _ _ (by exact hp1) (by omega)).mono fun _ _ ⟨x, y⟩ => ⟨x, y.symm⟩)))
      go_wp2
      go_ret
      exact ⟨by rw [gv _ rfl]; rfl, belowDrewN hb _⟩

set_option maxHeartbeats 400000 in
theorem may_calls (w : World) (h : Blk w b e.enc 61) (p : Pk) (hp : Blk w p.blk p.enc 64) :
    Calls Try.prog 51 #[.pointer (some ⟨b, 0, none⟩), .pointer (some ⟨p.blk, 0, none⟩)] w fun r w' => r = .returned (.bool (mayV e p)) ∧ w' = w := by
  have c1 := cp_kind hp
  have c2 := ce_state h
  have c3 := ce_opener h
  have c4 := ce_heard h
  by_cases hk : p.kind = 1
  · have HV : Hid (mayV e p = (e.state == 1)) := by simp [Hid, mayV, hk]
    rw [hk] at c1
    go_enter Try.func51, Try.ntmps51
    go_wp2
    go_ret
    exact ⟨by rw [HV.out]; rfl, rfl⟩
  · have gk : (p.kind == 1) = false := by simp [hk]
    have HV : Hid (mayV e p = ((e.state == 2 || e.state == 3) && (e.opener || e.heard))) := by simp [Hid, mayV, hk]
    clear hk
    by_cases h2 : e.state = 2
    · rw [h2] at c2 HV
      cases ho : e.opener <;> rw [ho] at c3 HV
      all_goals
        clear ho
        go_enter Try.func51, Try.ntmps51
        go_wp2
        go_ret
        exact ⟨by rw [HV.out]; simp, rfl⟩
    · have g2 : (e.state == 2) = false := by simp [h2]
      clear h2
      by_cases h3 : e.state = 3
      · rw [h3] at c2 HV
        cases ho : e.opener <;> rw [ho] at c3 HV
        all_goals
          clear ho
          go_enter Try.func51, Try.ntmps51
          go_wp2
          go_ret
          exact ⟨by rw [HV.out]; simp, rfl⟩
      · have g3 : (e.state == 3) = false := by simp [h3]
        rw [g2, g3] at HV
        clear h3
        go_enter Try.func51, Try.ntmps51
        go_wp2
        go_ret
        exact ⟨by rw [HV.out]; simp, rfl⟩
end Go.Proofs.Ytglbfgpdmlkamaa
