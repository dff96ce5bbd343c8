/-
  The walks of earliest, wait and Under.
-/
import Derived.Test.YtglbfgpdmlkamaaWe
namespace Go.Proofs.Ytglbfgpdmlkamaa
open Go.RowKit Go.Flw Go.Shelf
attribute [local go_sem] Oper.semAt_some
attribute [local simp] wide_fn

variable {b : Nat} {e : E} {ws fs : List Pk} {ks : List Ke} {clk : Nat}

/-- How long the time out is. -/
def waitV (o : Int) : Int := if 60000 < wrap64 (1000 * 2 ^ o.toNat) then 60000 else wrap64 (1000 * 2 ^ o.toNat)
def Quietly (w : World) (v : Value) (r : Ending) (w' : World) : Prop := r = .returned v ∧ ∃ n, w' = w.drewN n

set_option maxHeartbeats 400000 in
theorem wait_calls (w : World) (h : Blk w b e.enc 61) (ho : e.out = 1000) (h0 : 0 ≤ e.outs) (h1 : e.outs ≤ 6) :
    Calls Try.prog 46 #[.pointer (some ⟨b, 0, none⟩)] w (Quietly w (vi (waitV e.outs))) := by
  have c1 := ce_out h
  have c2 := ce_outs h
  rw [ho] at c1
  by_cases hw : 60000 < wrap64 (1000 * 2 ^ e.outs.toNat)
  all_goals
    go_enter Try.func46, Try.ntmps46
    go_wp2
    go_quiet (fail)
    go_wp2
    go_ret
    exact ⟨by simp only [waitV]; first | (rw [if_pos hw]; rfl) | (rw [if_neg (by omega)]; rfl), _, rfl⟩

/-- A number and whether there is one; nothing that lay has turned. -/
def IntBool (w : World) (r : Ending) (w' : World) : Prop := ∃ (n : Int) (s : Bool), r = .returned (.tuple #[vi n, .bool s]) ∧ Below w.heap.size w w'

set_option maxHeartbeats 800000 in
set_option maxRecDepth 100000 in
theorem earliest_calls (w : World) (h : EndIs w b e ws fs ks clk) (hl : fs.length ≤ 100000) :
    Calls Try.prog 45 #[.pointer (some ⟨b, 0, none⟩)] w (IntBool w) := by
  obtain ⟨a, cap, hv, hcap, hmax⟩ := Sl.form h.fsl
  refine (callsIn_wide (n := 9)).1 ?_
  refine callsIn_of_wp_marks Try.func45 rfl trivial ?_ rfl
  simp only [Try.ntmps45, List.size_toArray, List.length_cons, List.length_nil, Nat.reduceAdd, Nat.reduceSub, Array.replicate_succ, Array.replicate_zero, List.push_toArray, List.append_toArray, List.nil_append, List.cons_append]
  gi_wp2_with (gi_at_call 47; refine (callsIn_wide.2 (under_calls _)).mono ?_; rintro e w' ⟨rfl, rfl⟩)
  have hfly := h.fsl
  refine range_under (b := b) rfl a fs.length cap (fun k => (nth fs k).blk) (fun k => (nth fs k).lost)
    (fun k W => ∃ (x : Int) (s : Bool), Blk W w.heap.size #[vi x] 3 ∧ Blk W (w.heap.size + 1) #[.bool s] 4 ∧ Below w.heap.size w W) ?abide ?abides ?hbx ?hfv (by omega) ?hread ?skip ?start ?fr ?assign ?body ?done
  case abide => exact fun k W l o o' hB ⟨x, s, h1, h2, h3⟩ hl => ⟨x, s, h1.putLoop hl _, h2.putLoop hl _, Below.putNew h3 (by simp at hB; omega) _⟩
  case abides => exact fun k W o ⟨x, s, h1, h2, h3⟩ => ⟨x, s, h1.alloc _, h2.alloc _, h3.alloc h3.size _⟩
  case hbx => exact cell_last (by simp)
  case hfv => exact ce_fv' (((h.blk.alloc _).alloc _).alloc _) hv
  case hread =>
    rintro k W hk ⟨x, s, h1, h2, h3⟩
    obtain ⟨B, off, cap', hv', hc⟩ := pk_at hfly k hk
    rw [hv] at hv'
    injection hv' with ha _ _
    have hp := h.pks _ (List.mem_append.2 (.inr (nth_mem fs k hk)))
    have hcb := Sl.lt hfly
    rw [hv, ha] at hcb
    exact ⟨B, off, ha, (h3.cell (hcb B (by simp [slB]))).trans hc, cp_lost (hp.below h3 hp.lt)⟩
  case skip => exact fun k W hk hlost hh => hh
  case start =>
    have hn := (Blk.new (w.alloc (.cells #[vi 0] 3)) #[.bool false] 4).alloc (.cells #[.pointer (some ⟨b, 0, none⟩)] 93)
    simp only [World.size_alloc] at hn
    exact ⟨0, false, ((Blk.new w #[vi 0] 3).alloc _).alloc _, hn, ((((Below.refl _ w).alloc (Nat.le_refl _) _).alloc (by simp) _).alloc (by simp; omega) _)⟩
  case assign =>
    intro l k W K hK
    gi_wp2
    exact hK
  case body =>
    rintro l k W hk hlost ⟨x, s, h1, h2, h3⟩ hl1 hl2
    have hm := nth_mem fs k hk
    obtain ⟨p, hpe⟩ : ∃ p, nth fs k = p := ⟨_, rfl⟩
    simp only [hpe] at hm hlost ⊢
    clear hpe
    have hp := (h.pks _ (List.mem_append.2 (.inr hm)))
    have hp' := hp.below h3 hp.lt
    have g1 := h1.cell 0 rfl
    have g2 := h2.cell 0 rfl
    have g3 := h1.frozen 0
    have g4 := h2.frozen 0
    have g5 := cp_sent hp'
    have hlt := hp.lt
    have hmix : Try.prog.follows .mixedOrders = true := by kernel_rfl
    clear hlost
    cases s
    · gi_wp2
      gi_region_with_o (fail)
      all_goals gi_wp2
      all_goals exact ⟨rfl, ⟨p.sent, true, (h1.set 0 _).other (c := w.heap.size + 1) (by omega) 0 _, (h2.other (c := w.heap.size) (by omega) 0 _).set 0 _, ((h3.setCell (p := ⟨w.heap.size, 0, none⟩) (Nat.le_refl _) _).setCell (p := ⟨w.heap.size + 1, 0, none⟩) (by simp) _).drew⟩,
        (heap_set _ (by simp at hl1; omega) 0 _).trans (heap_set _ (by simp at hl1; omega) 0 _), (heap_set _ (by simp; omega) 0 _).trans (heap_set _ (by simp; omega) 0 _)⟩
    · by_cases hlt' : p.sent < x
      · gi_wp2
        gi_region_with_o (fail)
        all_goals gi_wp2
        all_goals exact ⟨rfl, ⟨p.sent, true, (h1.set 0 _).other (c := w.heap.size + 1) (by omega) 0 _, (h2.other (c := w.heap.size) (by omega) 0 _).set 0 _, ((h3.setCell (p := ⟨w.heap.size, 0, none⟩) (Nat.le_refl _) _).setCell (p := ⟨w.heap.size + 1, 0, none⟩) (by simp) _).drew⟩,
          (heap_set _ (by simp at hl1; omega) 0 _).trans (heap_set _ (by simp at hl1; omega) 0 _), (heap_set _ (by simp; omega) 0 _).trans (heap_set _ (by simp; omega) 0 _)⟩
      · gi_wp2
        gi_region_with_o (fail)
        all_goals gi_wp2
        all_goals exact ⟨rfl, ⟨x, true, h1, h2, h3.drew⟩, rfl, rfl⟩
  case done =>
    intro W ⟨x, s, h1, h2, h3⟩ hd
    have g1 := h1.cell 0 rfl
    have g2 := h2.cell 0 rfl
    gi_wp2
    gi_region
    all_goals gi_wp2
    all_goals exact ⟨by simp, .inl ⟨_, _, rfl, run_takeDeferred hd, ⟨_, results_tmp2 rfl _ _ _, _, _, rfl, Below.putNew h3.drew (by simp; omega) _⟩⟩⟩

set_option maxHeartbeats 400000 in
theorem Under_calls (w : World) (h : EndIs w b e ws fs ks clk) (hl : fs.length ≤ 100000) (hs : ∀ p ∈ fs, p.body.size ≤ 1400) (hst : ¬ e.state = 5) :
    Calls Try.prog 22 #[.pointer (some ⟨b, 0, none⟩)] w fun r w' => r = .returned (.tuple #[vi (flyN fs), vi (flyB fs)]) ∧ Below w.heap.size w w' := by
  have c := ce_state h.blk
  have g1 : (e.state == 5) = false := by simp [hst]
  clear hst
  go_enter Try.func22, Try.ntmps22
  go_wp2_with (go_at_call 40; refine (flying_calls _ h hl hs).mono ?_; rintro r w' ⟨rfl, hb⟩)
  go_ret2
  exact ⟨rfl, hb⟩

set_option maxHeartbeats 400000 in
theorem Under_reset (w : World) (h : Blk w b e.enc 61) (hst : e.state = 5) :
    Calls Try.prog 22 #[.pointer (some ⟨b, 0, none⟩)] w fun r w' => r = .returned (.tuple #[vi 0, vi 0]) ∧ w = w' := by
  have c := ce_state h
  rw [hst] at c
  go_enter Try.func22, Try.ntmps22
  go_wp2
  go_ret2
  exact ⟨rfl, rfl⟩
end Go.Proofs.Ytglbfgpdmlkamaa
