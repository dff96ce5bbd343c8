/-
  The walks of Open and Close: a packet is put behind what waits.
-/
import Derived.Test.YtglbfgpdmlkamaaWa
namespace Go.Proofs.Ytglbfgpdmlkamaa
open Go.RowKit Go.Flw

theorem Try.info62 : (Try.prog.info? 62).map (fun i => (i.zero, i.size, i.bytes)) = some (some (.pointer none), 1, 8) := by kernel_rfl

variable {b : Nat} {e : E} {ws fs : List Pk} {ks : List Ke} {clk : Nat}

/-- A fresh packet of a kind with a body, at a block. -/
def fresh (k kind : Nat) (body : ByteArray) : Pk := ⟨k, kind, 0, body, 0, 0, 0, false, false⟩

def OpenTo (w : World) (b : Nat) (e : E) (ws fs : List Pk) (ks : List Ke) (clk : Nat) (now : Int) (w' : World) : Prop :=
  ∃ q wv, Went w b e ws fs w' { e with now := now, state := 1, wv := wv } (ws ++ [fresh q 1 ByteArray.empty]) fs ks clk

set_option maxHeartbeats 400000 in
set_option maxRecDepth 100000 in
theorem Open_calls (w : World) (now : Int) (h : EndIs w b e ws fs ks clk) (h1 : e.now ≤ now) (h2 : now ≤ 1000000000) (ho : e.opener = true) (hs : e.state = 0) (hl : ws.length ≤ 100000) :
    Calls Try.prog 18 #[.pointer (some ⟨b, 0, none⟩), vi now] w fun r w' => r = .returned (vi 0) ∧ OpenTo w b e ws fs ks clk now w' := by
  have c1 := ce_now h.blk
  have c2 := ce_opener h.blk
  have c3 := ce_state h.blk
  have c4 := ce_wv h.blk
  have f1 := h.blk.frozen 24
  have f2 := h.blk.frozen 23
  rw [ho] at c2
  rw [hs] at c3
  obtain ⟨i0, hi, hz0, hz1, hz2⟩ := info_parts Try.info62
  have hB := h.blk
  go_enter Try.func18, Try.ntmps18
  go_wp2_with (first | (go_at_call 20; refine (at_calls _ _ hB h1 h2).mono ?_; rintro r w' ⟨rfl, rfl⟩) | (at_builtin; refine wpList_append_sl _ rfl _ _ 52 rfl 62 i0 (.pointer none) 1 8 Try.underlying52 hi hz0 hz1 hz2 rfl e.wv ws.length (ws.map Pk.ptr) rfl ?c1 ⟨w.heap.size + 1, 0, none⟩ 1 1 [.pointer (some ⟨w.heap.size, 0, none⟩)] rfl rfl ?c2 ?c3 (by decide) ?c4 ?c5 ?c6))
  case c1 => exact Sl.chg h.wsl (((((Chg.refl (· = b) w).setCell (p := ⟨b, 24, none⟩) (.inl rfl) _).setCell (p := ⟨b, 23, none⟩) (.inl rfl) _).alloc _).alloc _) (fun x hx hb => h.sep.bw (hb ▸ hx))
  case c2 => exact one_new (cell_last (by simp))
  case c3 => exact one_ptr _
  case c4 => simp [maxLen]; omega
  case c5 => omega
  case c6 =>
    intro v' w1 hs1 hc1 hb1
    have hB0 := ((hB.set 24 (vi now)).set 23 (vi 1))
    have hB1 := (((hB0.alloc (.cells (fresh w.heap.size 1 ByteArray.empty).enc 64)).alloc (.cells #[.pointer (some ⟨w.heap.size, 0, none⟩)] 62))).chg hc1 h.sep.bw
    have hq := ((Blk.new ((w.setCell ⟨b, 24, none⟩ (vi now)).setCell ⟨b, 23, none⟩ (vi 1)) (fresh w.heap.size 1 ByteArray.empty).enc 64).alloc (.cells #[.pointer (some ⟨w.heap.size, 0, none⟩)] 62)).chg hc1 (fun hx => by have := Sl.lt h.wsl _ hx; simp at this)
    simp only [World.size_setCell] at hq
    have hch := ((((((Chg.refl (fun x => x = b ∨ x ∈ slB e.wv) w).setCell (p := ⟨b, 24, none⟩) (.inl (.inl rfl)) (vi now)).setCell (p := ⟨b, 23, none⟩) (.inl (.inl rfl)) (vi 1)).alloc (.cells (fresh w.heap.size 1 ByteArray.empty).enc 64)).alloc (.cells #[.pointer (some ⟨w.heap.size, 0, none⟩)] 62))).comp (hc1.mono fun _ _ hx => .inr hx)
    obtain ⟨a', cap', rfl, _, _⟩ := hs1.form
    have c5 : w1.cell? ⟨b, 0, none⟩ = some e.wv := ce_wv (e := { e with now := now, state := 1 }) hB1
    have c6 := hB1.frozen 0
    clear c1 c2 c3 c4 f1 f2
    go_wp2
    go_ret
    refine ⟨rfl, w.heap.size, .slice a' (ws.length + 1) cap', h.pushed (hch.setCell (p := ⟨b, 0, none⟩) (.inl (.inl rfl)) _) (hB1.set 0 _) ?_ ?_ (Nat.le_refl _) ?_ rfl rfl⟩
    · refine PSl.snoc (q := fresh w.heap.size 1 ByteArray.empty) hs1 ((Chg.refl (· = b) w1).setCell (p := ⟨b, 0, none⟩) (.inl rfl) _) fun hx => ?_
      rcases hb1 _ hx with hx | hx
      · exact h.sep.bw hx
      · have := hB.lt; omega
    · exact hq.other (c := b) (by have := hB.lt; omega) 0 _
    · intro x hx
      rcases hb1 _ hx with hx | hx
      · exact .inl hx
      · exact .inr (by simp only [fresh]; omega)
def CloseTo (w : World) (b : Nat) (e : E) (ws fs : List Pk) (ks : List Ke) (clk : Nat) (now : Int) (w' : World) : Prop :=
  ∃ q wv, Went w b e ws fs w' { e with now := now, closing := true, wv := wv } (ws ++ [fresh q 4 ByteArray.empty]) fs ks clk

set_option maxHeartbeats 400000 in
set_option maxRecDepth 100000 in
theorem Close_calls (w : World) (now : Int) (h : EndIs w b e ws fs ks clk) (h1 : e.now ≤ now) (h2 : now ≤ 1000000000) (ho : e.closing = false) (hs : e.state = 1 ∨ e.state = 2) (hl : ws.length ≤ 100000) :
    Calls Try.prog 9 #[.pointer (some ⟨b, 0, none⟩), vi now] w fun r w' => r = .returned (vi 0) ∧ CloseTo w b e ws fs ks clk now w' := by
  have c1 := ce_now h.blk
  have c2 := ce_closing h.blk
  have c3 := ce_state h.blk
  have c4 := ce_wv h.blk
  have f1 := h.blk.frozen 24
  have f2 := h.blk.frozen 9
  rw [ho] at c2
  obtain ⟨i0, hi, hz0, hz1, hz2⟩ := info_parts Try.info62
  have hB := h.blk
  have g1 : e.state = 1 ∨ ¬ e.state = 1 := by omega
  rcases hs with hs | hs <;> rw [hs] at c3
  all_goals
    go_enter Try.func9, Try.ntmps9
    go_wp2_with (first | (go_at_call 20; refine (at_calls _ _ hB h1 h2).mono ?_; rintro r w' ⟨rfl, rfl⟩) | (at_builtin; refine wpList_append_sl _ rfl _ _ 52 rfl 62 i0 (.pointer none) 1 8 Try.underlying52 hi hz0 hz1 hz2 rfl e.wv ws.length (ws.map Pk.ptr) rfl (by exact Sl.chg h.wsl (((((Chg.refl (· = b) w).setCell (p := ⟨b, 24, none⟩) (.inl rfl) _).setCell (p := ⟨b, 9, none⟩) (.inl rfl) _).alloc _).alloc _) (fun x hx hb => h.sep.bw (hb ▸ hx))) ⟨w.heap.size + 1, 0, none⟩ 1 1 [.pointer (some ⟨w.heap.size, 0, none⟩)] rfl rfl (by exact one_new (cell_last (by simp))) (one_ptr _) (by decide) (by simp [maxLen]; omega) (by omega) ?_))
    intro v' w1 hs1 hc1 hb1
    have hB0 := ((hB.set 24 (vi now)).set 9 (.bool true))
    have hB1 := (((hB0.alloc (.cells (fresh w.heap.size 4 ByteArray.empty).enc 64)).alloc (.cells #[.pointer (some ⟨w.heap.size, 0, none⟩)] 62))).chg hc1 h.sep.bw
    have hq := ((Blk.new ((w.setCell ⟨b, 24, none⟩ (vi now)).setCell ⟨b, 9, none⟩ (.bool true)) (fresh w.heap.size 4 ByteArray.empty).enc 64).alloc (.cells #[.pointer (some ⟨w.heap.size, 0, none⟩)] 62)).chg hc1 (fun hx => by have := Sl.lt h.wsl _ hx; simp at this)
    simp only [World.size_setCell] at hq
    have hch := ((((((Chg.refl (fun x => x = b ∨ x ∈ slB e.wv) w).setCell (p := ⟨b, 24, none⟩) (.inl (.inl rfl)) (vi now)).setCell (p := ⟨b, 9, none⟩) (.inl (.inl rfl)) (.bool true)).alloc (.cells (fresh w.heap.size 4 ByteArray.empty).enc 64)).alloc (.cells #[.pointer (some ⟨w.heap.size, 0, none⟩)] 62))).comp (hc1.mono fun _ _ hx => .inr hx)
    obtain ⟨a', cap', rfl, _, _⟩ := hs1.form
    have c5 : w1.cell? ⟨b, 0, none⟩ = some e.wv := ce_wv (e := { e with now := now, closing := true }) hB1
    have c6 := hB1.frozen 0
    clear c1 c2 c3 c4 f1 f2
    go_wp2
    go_ret
    refine ⟨rfl, w.heap.size, .slice a' (ws.length + 1) cap', h.pushed (hch.setCell (p := ⟨b, 0, none⟩) (.inl (.inl rfl)) _) (hB1.set 0 _) ?_ ?_ (Nat.le_refl _) ?_ rfl rfl⟩
    · refine PSl.snoc (q := fresh w.heap.size 4 ByteArray.empty) hs1 ((Chg.refl (· = b) w1).setCell (p := ⟨b, 0, none⟩) (.inl rfl) _) fun hx => ?_
      rcases hb1 _ hx with hx | hx
      · exact h.sep.bw hx
      · have := hB.lt; omega
    · exact hq.other (c := b) (by have := hB.lt; omega) 0 _
    · intro x hx
      rcases hb1 _ hx with hx | hx
      · exact .inl hx
      · exact .inr (by simp only [fresh]; omega)

set_option maxHeartbeats 400000 in
/-- Close where it can't be done: nothing turns. -/
theorem Close_not (w : World) (now : Int) (h : Blk w b e.enc 61) (h1 : e.now ≤ now) (h2 : now ≤ 1000000000) (hs : e.closing = true ∨ ¬ (e.state = 1 ∨ e.state = 2)) :
    Calls Try.prog 9 #[.pointer (some ⟨b, 0, none⟩), vi now] w fun r w' => r = .returned (vi 9) ∧ w = w' := by
  have c1 := ce_now h
  have c2 := ce_closing h
  have c3 := ce_state h
  cases hc : e.closing <;> rw [hc] at c2
  · have hs' : ¬ e.state = 1 ∧ ¬ e.state = 2 := by rw [hc] at hs; simp at hs; exact hs
    have g1 : (e.state != 1) = true := by simp [hs'.1]
    have g2 : (e.state != 2) = true := by simp [hs'.2]
    clear hs hs'
    go_enter Try.func9, Try.ntmps9
    go_wp2_with (first | (go_at_call 20; refine (at_calls _ _ h h1 h2).mono ?_; rintro r w' ⟨rfl, rfl⟩))
    go_ret
    exact ⟨rfl, rfl⟩
  · clear hs
    go_enter Try.func9, Try.ntmps9
    go_wp2_with (first | (go_at_call 20; refine (at_calls _ _ h h1 h2).mono ?_; rintro r w' ⟨rfl, rfl⟩))
    go_ret
    exact ⟨rfl, rfl⟩
end Go.Proofs.Ytglbfgpdmlkamaa
