/-
  The walks of flying, earliest, wait.
-/
import Derived.Test.YtglbfgpdmlkamaaWd
namespace Go.Proofs.Ytglbfgpdmlkamaa
open Go.RowKit Go.Flw Go.Shelf
attribute [local go_sem] Oper.semAt_some
attribute [local simp] wide_fn

variable {b : Nat} {e : E} {ws fs : List Pk} {ks : List Ke} {clk : Nat}

set_option maxHeartbeats 400000 in
theorem size_calls (w : World) (p : Pk) (h : Blk w p.blk p.enc 64) (hl : p.body.size ≤ 100000) :
    Calls Try.prog 52 #[.pointer (some ⟨p.blk, 0, none⟩)] w fun r w' => r = .returned (vi p.sz) ∧ w = w' := by
  have c := cp_body h
  by_cases h1 : 1 < p.body.size
  · go_enter Try.func52, Try.ntmps52
    go_wp2
    go_ret
    exact ⟨by simp only [Pk.sz]; rw [Nat.max_eq_right (by omega)]; rfl, rfl⟩
  · go_enter Try.func52, Try.ntmps52
    go_wp2
    all_goals
      go_ret
      exact ⟨by simp only [Pk.sz]; rw [Nat.max_eq_left (by omega)]; first | rfl | (show Ending.returned (vi _) = _; congr 2; omega), rfl⟩

theorem flying_results (W : World) (a c : Addr) (x y : Int) (k1 : W.cell? a = some (vi x)) (k2 : W.cell? c = some (vi y)) (tmps : Array Value) (h2 : tmps[2]?.getD undef = .pointer (some a)) (h3 : tmps[3]?.getD undef = .pointer (some c)) :
    (results Try.f40 tmps).run Try.prog W = .ok (.tuple #[vi x, vi y]) W := by
  simp only [results, Try.f40]
  simp [go_sem, h2, h3, k1, k2]

set_option maxHeartbeats 800000 in
set_option maxRecDepth 100000 in
theorem flying_calls (w : World) (h : EndIs w b e ws fs ks clk) (hl : fs.length ≤ 100000) (hs : ∀ p ∈ fs, p.body.size ≤ 1400) :
    Calls Try.prog 40 #[.pointer (some ⟨b, 0, none⟩)] w fun r w' => r = .returned (.tuple #[vi (flyN fs), vi (flyB fs)]) ∧ Below w.heap.size w w' := by
  have c1 := ce_fv h.blk
  obtain ⟨a, cap, hv, hcap, hmax⟩ := Sl.form h.fsl
  refine (callsIn_wide (n := 9)).1 ?_
  refine callsIn_of_wp_marks Try.func40 rfl trivial ?_ rfl
  simp only [Try.ntmps40, List.size_toArray, List.length_cons, List.length_nil, Nat.reduceAdd, Nat.reduceSub, Array.replicate_succ, Array.replicate_zero, List.push_toArray, List.append_toArray, List.nil_append, List.cons_append]
  gi_wp2_with (gi_at_call 47; refine (callsIn_wide.2 (under_calls _)).mono ?_; rintro e w' ⟨rfl, rfl⟩)
  have hfly := h.fsl
  rw [hv] at c1
  refine range_under (b := b) rfl a fs.length cap (fun k => (nth fs k).blk) (fun k => (nth fs k).lost)
    (fun k W => Blk W w.heap.size #[vi (flyN (fs.take k))] 3 ∧ Blk W (w.heap.size + 1) #[vi (flyB (fs.take k))] 3 ∧ Below w.heap.size w W) ?abide ?abides ?hbx ?hfv (by omega) ?hread ?skip ?start ?fr ?assign ?body ?done
  case abide => exact fun k W l o o' hB ⟨h1, h2, h3⟩ hl => ⟨h1.putLoop hl _, h2.putLoop hl _, Below.putNew h3 (by simp at hB; omega) _⟩
  case abides => exact fun k W o ⟨h1, h2, h3⟩ => ⟨h1.alloc _, h2.alloc _, h3.alloc h3.size _⟩
  case hbx => exact cell_last (by simp)
  case hfv => exact ce_fv' (((h.blk.alloc _).alloc _).alloc _) hv
  case hread =>
    rintro k W hk ⟨h1, h2, h3⟩
    obtain ⟨B, off, cap', hv', hc⟩ := pk_at hfly k hk
    rw [hv] at hv'
    injection hv' with ha _ _
    have hp := h.pks _ (List.mem_append.2 (.inr (nth_mem fs k hk)))
    have hcb := Sl.lt hfly
    rw [hv, ha] at hcb
    exact ⟨B, off, ha, (h3.cell (hcb B (by simp [slB]))).trans hc, cp_lost (hp.below h3 hp.lt)⟩
  case skip =>
    rintro k W hk hlost ⟨h1, h2, h3⟩
    rw [take_succ_nth fs k hk, flyN_snoc, flyB_snoc]
    simp only [hlost, if_true, Nat.add_zero]
    exact ⟨h1, h2, h3⟩
  case start =>
    have hn := (Blk.new (w.alloc (.cells #[vi 0] 3)) #[vi 0] 3).alloc (.cells #[.pointer (some ⟨b, 0, none⟩)] 93)
    simp only [World.size_alloc] at hn
    exact ⟨((Blk.new w #[vi 0] 3).alloc _).alloc _, hn, ((((Below.refl _ w).alloc (Nat.le_refl _) _).alloc (by simp) _).alloc (by simp; omega) _)⟩
  case assign =>
    intro l k W K hK
    gi_wp2
    exact hK
  case body =>
    rintro l k W hk hlost ⟨h1, h2, h3⟩ hl1 hl2
    have hm := nth_mem fs k hk
    have hts := take_succ_nth fs k hk
    obtain ⟨p, hpe⟩ : ∃ p, nth fs k = p := ⟨_, rfl⟩
    simp only [hpe] at hm hts hlost ⊢
    clear hpe
    have hp := (h.pks _ (List.mem_append.2 (.inr hm)))
    have hp' := hp.below h3 hp.lt
    have hsz := hs _ hm
    have hN := flyN_le (fs.take k)
    have hB := flyB_le (fs.take k) 1400 (fun p hp => by have := hs p (List.mem_of_mem_take hp); simp only [Pk.sz]; omega)
    have hN' := flyN_snoc (fs.take k) p
    have hB' := flyB_snoc (fs.take k) p
    rw [← hts] at hN' hB'
    simp only [hlost, Bool.false_eq_true, if_false] at hN' hB'
    simp only [List.length_take] at hN hB
    have g1 := h1.cell 0 rfl
    have g2 := h2.cell 0 rfl
    have g3 := h1.frozen 0
    have g4 := h2.frozen 0
    have hps : p.sz ≤ 1400 := by simp only [Pk.sz]; omega
    have hlt := hp.lt
    have hpk := fun v : Value => hp'.other (c := w.heap.size) (by omega) 0 v
    have hmix : Try.prog.follows .mixedOrders = true := by kernel_rfl
    generalize flyN (fs.take k) = n0 at *
    generalize flyB (fs.take k) = b0 at *
    have HN : Hid (flyN (fs.take (k + 1)) = n0 + 1) := hN'
    have HB : Hid (flyB (fs.take (k + 1)) = b0 + p.sz) := hB'
    clear hN' hB'
    clear hts hlost
    gi_wp2
    gi_region_with_o (gi_at_call 52; refine (CallsIn.inRound l (callsIn_wide.2 (size_calls _ _ (by exact hpk _) (by omega)))).mono ?_; rintro e w' ⟨rfl, rfl⟩)
    all_goals gi_wp2
    all_goals
      rw [IntWalk.i64_in _ (by omega)]
      simp at hl1 hl2
      refine ⟨rfl, ?_, (heap_set _ (by omega) 0 _).trans (heap_set _ (by omega) 0 _), (heap_set _ (by simp; omega) 0 _).trans (heap_set _ (by simp; omega) 0 _)⟩
      show Blk _ _ #[vi (flyN (fs.take (k + 1)))] 3 ∧ Blk _ _ #[vi (flyB (fs.take (k + 1)))] 3 ∧ _
      rw [HN.out, HB.out]
      exact ⟨(h1.set 0 _).other (c := w.heap.size + 1) (by omega) 0 _, (h2.other (c := w.heap.size) (by omega) 0 _).set 0 _, ((h3.setCell (p := ⟨w.heap.size, 0, none⟩) (Nat.le_refl _) _).setCell (p := ⟨w.heap.size + 1, 0, none⟩) (by simp) _).drew⟩
  case done =>
    intro W ⟨h1, h2, h3⟩ hd
    rw [List.take_length] at h1 h2
    have g1 := h1.cell 0 rfl
    have g2 := h2.cell 0 rfl
    have g3 := h1.frozen 0
    have g4 := h2.frozen 0
    gi_wp2
    gi_region
    all_goals gi_wp2
    all_goals
      refine ⟨by simp, .inl ⟨_, _, rfl, run_takeDeferred ((heap_set _ (by simp; omega) 0 _).trans ((heap_set _ (by simp; omega) 0 _).trans hd)), ?_⟩⟩
      have k1 := Blk.cell (v := vi (flyN fs)) (((h1.set 0 (vi (flyN fs))).other (c := w.heap.size + 1) (by omega) 0 (vi (flyB fs))).drew.put (l := w.heap.size + 1 + 1 + 1) (by omega) (.deferred none)) 0 rfl
      have k2 := Blk.cell (v := vi (flyB fs)) (((h2.other (c := w.heap.size) (by omega) 0 (vi (flyN fs))).set 0 (vi (flyB fs))).drew.put (l := w.heap.size + 1 + 1 + 1) (by omega) (.deferred none)) 0 rfl
      have k3 := Below.putNew (((h3.setCell (p := ⟨w.heap.size, 0, none⟩) (Nat.le_refl _) (vi (flyN fs))).setCell (p := ⟨w.heap.size + 1, 0, none⟩) (by simp) (vi (flyB fs))).drew) (l := w.heap.size + 1 + 1 + 1) (by omega) (.deferred none)
      simp only [World.size_alloc]
      refine ⟨.tuple #[vi (flyN fs), vi (flyB fs)], ?_, rfl, k3⟩
      exact flying_results _ _ _ _ _ k1 k2 _ rfl rfl
end Go.Proofs.Ytglbfgpdmlkamaa
