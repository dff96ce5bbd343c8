/-
  The walk of overdue.
-/
import Derived.Test.YtglbfgpdmlkamaaWf
namespace Go.Proofs.Ytglbfgpdmlkamaa
open Go.RowKit Go.Flw Go.Shelf
attribute [local go_sem] Oper.semAt_some
attribute [local simp] wide_fn

variable {b : Nat} {e : E} {ws fs : List Pk} {ks : List Ke} {clk : Nat}

/-- What overdue does: nothing; a reset; or all under way are taken for lost. -/
def OverRel (e : E) (fs : List Pk) (e' : E) (fs' : List Pk) : Prop :=
  (e' = e ∧ fs' = fs) ∨
  (∃ t, e' = { e with to_ := t, outs := e.outs + 1, state := 5, replies := true } ∧ fs' = fs ∧ e.outs + 1 = 6) ∨
  (∃ t, e' = { e with to_ := t, outs := e.outs + 1 } ∧ fs' = fs.map Pk.lose ∧ e.outs + 1 < 6)

def Overdue (w : World) (b : Nat) (e : E) (ws fs : List Pk) (ks : List Ke) (clk : Nat) (r : Ending) (w' : World) : Prop :=
  r = .returned (.tuple #[]) ∧ ∃ e' fs', Went w b e ws fs w' e' ws fs' ks clk ∧ OverRel e fs e' fs'

set_option maxHeartbeats 800000 in
set_option maxRecDepth 100000 in
theorem overdue_calls (w : World) (h : EndIs w b e ws fs ks clk) (hl : fs.length ≤ 100000) (ho : e.out = 1000) (h0 : 0 ≤ e.outs) (h5 : e.outs ≤ 5) :
    Calls Try.prog 37 #[.pointer (some ⟨b, 0, none⟩)] w (Overdue w b e ws fs ks clk) := by
  refine (callsIn_wide (n := 9)).1 ?_
  refine callsIn_of_wp_marks Try.func37 rfl trivial ?_ rfl
  simp only [Try.ntmps37, List.size_toArray, List.length_cons, List.length_nil, Nat.reduceAdd, Nat.reduceSub, Array.replicate_succ, Array.replicate_zero, List.push_toArray, List.append_toArray, List.nil_append, List.cons_append]
  gi_wp2_with (gi_at_call 45; refine (callsIn_wide.2 (earliest_calls _ h hl)).mono ?_; rintro r w1 ⟨n, s, rfl, hb1⟩; gi_wp2_with (fail))
  have g1 : EndIs w1 b e ws fs ks clk := h.chg (Chg.of_below (S := fun _ => False) hb1) (fun _ _ hh => hh)
  have c1 := ce_now g1.blk
  have c2 := ce_to_ g1.blk
  have c3 := ce_outs g1.blk
  have c4 := ce_state g1.blk
  have c5 := ce_replies g1.blk
  have f2 := g1.blk.frozen 27
  have f3 := g1.blk.frozen 8
  have f4 := g1.blk.frozen 23
  have f5 := g1.blk.frozen 20
  cases s
  · gi_wp2
    refine wpIn_wide.2 ?_
    go_quiet (fail)
    gi_wp2
    exact ⟨_, results_none rfl _ _ _, rfl, e, fs, ⟨g1.drewN _, (Chg.of_below hb1).drewN _, fun x hx => .inl hx⟩, .inl ⟨rfl, rfl⟩⟩
  · by_cases h6 : e.outs = 5
    · rw [h6] at c3
      gi_wp2
      refine wpIn_wide.2 ?_
      go_quiet ((go_at_call 46; exact Calls.quiet_of (wait_calls _ (by exact g1.blk) ho h0 (by omega))))
      gi_wp2
      · exact ⟨_, results_none rfl _ _ _, rfl, e, fs, ⟨g1.drewN _, (Chg.of_below hb1).drewN _, fun x hx => .inl hx⟩, .inl ⟨rfl, rfl⟩⟩
      · have k := (g1.drewN nq).went1 (e' := { e with to_ := wrap64 (e.to_ + 1), outs := 6, state := 5, replies := true }) (((((Chg.refl (· = b) _).setCell (p := ⟨b, 27, none⟩) (.inl rfl) (vi (wrap64 (e.to_ + 1)))).setCell (p := ⟨b, 8, none⟩) (.inl rfl) (vi 6)).setCell (p := ⟨b, 23, none⟩) (.inl rfl) (vi 5)).setCell (p := ⟨b, 20, none⟩) (.inl rfl) (.bool true)) ((((Blk.set g1.blk 27 _).set 8 _).set 23 _).set 20 _) rfl rfl rfl
        have k0 : Went w b e ws fs (w1.drewN nq) e ws fs ks clk := ⟨g1.drewN _, (Chg.of_below hb1).drewN _, fun x hx => .inl hx⟩
        exact ⟨_, results_none rfl _ _ _, rfl, _, fs, k0.trans k, .inr (.inl ⟨_, by rw [h6]; rfl, rfl, by omega⟩)⟩
    · have h7 : (e.outs + 1 == 6) = false := by simp; omega
      gi_wp2
      refine wpIn_wide.2 ?_
      go_quiet ((go_at_call 46; exact Calls.quiet_of (wait_calls _ (by exact g1.blk) ho h0 (by omega))))
      gi_wp2
      · exact ⟨_, results_none rfl _ _ _, rfl, e, fs, ⟨g1.drewN _, (Chg.of_below hb1).drewN _, fun x hx => .inl hx⟩, .inl ⟨rfl, rfl⟩⟩
      · have k := (g1.drewN nq).went1 (e' := { e with to_ := wrap64 (e.to_ + 1), outs := e.outs + 1 }) (((Chg.refl (· = b) _).setCell (p := ⟨b, 27, none⟩) (.inl rfl) (vi (wrap64 (e.to_ + 1)))).setCell (p := ⟨b, 8, none⟩) (.inl rfl) (vi (e.outs + 1))) ((Blk.set g1.blk 27 _).set 8 _) rfl rfl rfl
        have k0 : Went w b e ws fs (w1.drewN nq) e ws fs ks clk := ⟨g1.drewN _, (Chg.of_below hb1).drewN _, fun x hx => .inl hx⟩
        have k1 := k0.trans k
        clear k k0
        have hs2 : (((w1.drewN nq).setCell ⟨b, 27, none⟩ (vi (wrap64 (e.to_ + 1)))).setCell ⟨b, 8, none⟩ (vi (e.outs + 1))).heap.size = w1.heap.size := by simp
        generalize ((w1.drewN nq).setCell ⟨b, 27, none⟩ (vi (wrap64 (e.to_ + 1)))).setCell ⟨b, 8, none⟩ (vi (e.outs + 1)) = W2 at k1 hs2 ⊢
        obtain ⟨e1, he1⟩ : ∃ e1, { e with to_ := wrap64 (e.to_ + 1), outs := e.outs + 1 } = e1 := ⟨_, rfl⟩
        have hfv : e1.fv = e.fv := by rw [← he1]
        rw [he1] at k1
        obtain ⟨a, cap, hv, hcap, hmax⟩ := Sl.form k1.is.fsl
        have hsz := k1.chg.size
        refine range_under (b := b) rfl a fs.length cap (fun k => (nth fs k).blk) (fun k => (nth fs k).lost) (fun k W => Went w b e ws fs W e1 ws (loseTo k fs) ks clk) ?abide ?abides ?hbx ?hfv (by omega) ?hread ?skip ?start ?fr ?assign ?body ?done
        case abide =>
          intro k W l o o' hB hh hl
          have h9 : W2.heap.size + 1 ≤ l := by simpa using hB
          exact hh.putLoop hl (by omega) _
        case abides => exact fun k W o hh => hh.alloc o
        case hbx => exact cell_last hs2
        case hfv => exact ce_fv' (k1.is.blk.alloc _) hv
        case hread =>
          intro k W hk hh
          have hk' : k < (loseTo k fs).length := by rw [loseTo_length]; exact hk
          obtain ⟨B, off, cap', hv', hc⟩ := pk_at hh.is.fsl k hk'
          rw [hv] at hv'
          injection hv' with ha _ _
          rw [loseTo_nth k fs hk] at hc
          have hp := hh.is.pks (nth fs k) (List.mem_append.2 (.inr (by rw [loseTo_cut k fs hk]; simp)))
          exact ⟨B, off, ha, hc, cp_lost hp⟩
        case skip =>
          intro k W hk hlost hh
          rw [loseTo_cut k fs hk] at hh
          rw [loseTo_next k fs hk, lose_same hlost]; exact hh
        case start => rw [loseTo_zero]; exact k1.alloc _
        case assign =>
          intro l k W K hK
          gi_wp2
          exact hK
        case body =>
          intro l k W hk hlost hh hl1 hl2
          rw [loseTo_cut k fs hk] at hh
          have Hn : Hid (loseTo (k + 1) fs = _) := loseTo_next k fs hk
          have hlw := (h.pks (nth fs k) (List.mem_append.2 (.inr (nth_mem fs k hk)))).lt
          obtain ⟨p, hpe⟩ : ∃ p, nth fs k = p := ⟨_, rfl⟩
          simp only [hpe] at hh Hn hlw ⊢
          clear hpe hlost
          have hp := hh.is.pks p (by simp)
          have d1 := cp_lost hp
          have d2 := hp.frozen 7
          have hl3 : W2.heap.size + 1 ≤ l := by simpa using hl1
          have hin : p.blk < W.heap.size := hp.lt
          gi_wp2
          refine ⟨rfl, ?_, ?_, ?_⟩
          · show Went w b e ws fs _ e1 ws (loseTo (k + 1) fs) ks clk
            rw [Hn.out]
            exact hh.trans (hh.is.setPk (p' := p.lose) rfl ((Chg.refl (· = p.blk) W).setCell (p := ⟨p.blk, 7, none⟩) (.inl rfl) _) (hp.set 7 _))
          · exact heap_set _ (by omega) _ _
          · exact heap_set _ (by rw [World.size_alloc]; omega) _ _
        case done =>
          intro W hh hd
          rw [loseTo_all] at hh
          gi_wp2
          exact ⟨by simp, .inl ⟨_, _, rfl, run_takeDeferred hd, ⟨_, results_none rfl _ _ _, rfl, e1, fs.map Pk.lose, hh.putOdd hd rfl rfl (by rw [World.size_alloc]; omega) _, .inr (.inr ⟨_, he1.symm, rfl, by omega⟩)⟩⟩⟩
end Go.Proofs.Ytglbfgpdmlkamaa
