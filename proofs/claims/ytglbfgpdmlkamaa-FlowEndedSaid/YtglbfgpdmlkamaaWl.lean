/-
  The walk of Send.
-/
import Derived.Test.YtglbfgpdmlkamaaDue
import Derived.Test.YtglbfgpdmlkamaaSnd
import Derived.Test.YtglbfgpdmlkamaaRdu
import Derived.Test.YtglbfgpdmlkamaaWg
import Derived.Deep.DeepCutAuto
namespace Go.Proofs.Ytglbfgpdmlkamaa
open Go.RowKit Go.Flw Go.Shelf
attribute [local go_sem] Oper.semAt_some
attribute [local simp] wide_fn

theorem Try.info70 : (Try.prog.info? 70).map (fun i => (i.zero, i.size, i.bytes)) = some (some (.agg seg0), 9, 88) := by kernel_rfl

/-- Only what follows: no panic. -/
def OnlyN (Q : Exit → Act → World → Prop) (x : Exit) (a : Act) (w : World) : Prop := x = .normal ∧ Q x a w
theorem region_anyN {P : Program} {Q : Exit → Act → World → Prop} (good : Nat → Bool) (D : World → Prop) {id : Nat} {l : List Oper} {a : Act} {w : World} (hm : P.follows .mixedOrders = true)
    (h : anyL P .any l.toArray good D (OnlyN Q) l.length (Array.replicate l.length false) a w.drew) : (Code.region id l.toArray true).wp P Q a w :=
  wp_mono (region_anyL good D hm h) fun _ _ _ h => h.2
theorem region_anyN_in {P : Program} {Q : Exit → Act → World → Prop} (good : Nat → Bool) (D : World → Prop) {F : Fence} {n : Nat} (hF : F = Fence.wide ∨ ∃ l, F = Fence.wide.inRound l) {id : Nat} {l : List Oper} {a : Act} {w : World} (hm : P.follows .mixedOrders = true) (hd : noDefer l.toArray = true)
    (h : anyL P .any l.toArray good D (OnlyN Q) l.length (Array.replicate l.length false) a w.drew) : (Code.region id l.toArray true).wpIn F n P Q a w :=
  wpIn_mono (region_anyL_in good D hF hm hd h) fun _ _ _ h => h.2

variable {b : Nat} {e : E} {ws fs : List Pk} {ks : List Ke} {clk : Nat}

/-- What Send does, in plain words. -/
def SendP (e : E) (ws fs : List Pk) (now : Int) (e' : E) (ws' fs' : List Pk) (ss : List Seg) : Prop :=
  ∃ e2 fs2 e3 ss3, ((e.state = 5 ∧ e2 = { e with now := now } ∧ fs2 = fs) ∨ (e.state ≠ 5 ∧ OverRel { e with now := now } fs e2 fs2)) ∧
    ((e2.replies = false ∧ e3 = e2 ∧ ss3 = []) ∨ (e2.replies = true ∧ e3 = { e2 with replies := false } ∧ ∃ s, ss3 = [s] ∧ Made e3 5 e3.next ByteArray.empty s)) ∧
    (((e3.state = 5 ∨ e3.state = 0) ∧ e' = { e3 with answer := false } ∧ ws' = ws ∧ fs' = fs2 ∧ ss = ss3) ∨
     (e3.state ≠ 5 ∧ e3.state ≠ 0 ∧ ∃ e4 ss4 a, Due e3 ws fs2 ss3 e4 ws' fs' ss4 ∧ (ss = ss4 ∨ (ss4 = [] ∧ e4.answer = true ∧ ∃ s, ss = [s] ∧ Made e4 3 e4.next ByteArray.empty s)) ∧ e' = { e4 with answer := a } ∧ (a = false ∨ a = e4.answer)))

def SendR (b : Nat) (e : E) (ws fs : List Pk) (ks : List Ke) (clk : Nat) (now : Int) (w : World) (r : Ending) (w' : World) : Prop :=
  ∃ e' ws' fs' ss v, r = .returned (.tuple #[v, vi 0]) ∧ SendP e ws fs now e' ws' fs' ss ∧ Went w b e ws fs w' e' ws' fs' ks clk ∧ SSl w' v ss ∧ ∀ x ∈ slB v, w.heap.size ≤ x ∧ x ∉ foot b e' ws' fs'

theorem OverRel.good {e' : E} {fs' : List Pk} (h : OverRel e fs e' fs') (g : Good e ks ws fs) : Good e' ks ws fs' := by
  rcases h with ⟨rfl, rfl⟩ | ⟨t, rfl, rfl, _⟩ | ⟨t, rfl, rfl, _⟩
  · exact g
  · exact { g with }
  · refine { g with len := ?_, body := ?_, num := ?_ }
    · have := g.len; simpa using this
    · intro p hp
      rcases List.mem_append.1 hp with hp | hp
      · exact g.body p (List.mem_append.2 (.inl hp))
      · obtain ⟨q, hq, rfl⟩ := List.mem_map.1 hp
        exact g.body q (List.mem_append.2 (.inr hq))
    · intro p hp
      obtain ⟨q, hq, rfl⟩ := List.mem_map.1 hp
      exact g.num q hq

/-- Behind overdue. -/
def SendA (b : Nat) (e : E) (ws fs : List Pk) (ks : List Ke) (clk : Nat) (now : Int) (w : World) (W : World) : Prop :=
  ∃ e2 fs2, ((e.state = 5 ∧ e2 = { e with now := now } ∧ fs2 = fs) ∨ (e.state ≠ 5 ∧ OverRel { e with now := now } fs e2 fs2)) ∧ Went w b e ws fs W e2 ws fs2 ks clk ∧ Blk W w.heap.size #[.pointer (some ⟨b, 0, none⟩)] 31 ∧ w.heap.size ∉ foot b e2 ws fs2

/-- Behind the answer to what an end that is not open got. -/
def SendB (b : Nat) (e : E) (ws fs : List Pk) (ks : List Ke) (clk : Nat) (now : Int) (w : World) (ob : Nat) (W : World) : Prop :=
  ∃ e2 fs2 e3 ss3, ((e.state = 5 ∧ e2 = { e with now := now } ∧ fs2 = fs) ∨ (e.state ≠ 5 ∧ OverRel { e with now := now } fs e2 fs2)) ∧
    ((e2.replies = false ∧ e3 = e2 ∧ ss3 = []) ∨ (e2.replies = true ∧ e3 = { e2 with replies := false } ∧ ∃ s, ss3 = [s] ∧ Made e3 5 e3.next ByteArray.empty s)) ∧
    SI w b e ws fs [(w.heap.size, .cells #[.pointer (some ⟨b, 0, none⟩)] 31)] ob ks clk e3 ws fs2 ss3 W

theorem send_end {w W : World} {D ob : Nat} {o1 o' : Obj} {l : Nat} {aux : List (Nat × Obj)} {e' : E} {ws' fs' : List Pk} {ss' : List Seg} {v : Value} {now : Int} (hS : SI w b e ws fs ((l, o1) :: (D, .deferred (some [])) :: aux) ob ks clk e' ws' fs' ss' W)
    (hv : OutAt w.heap.size (foot b e' ws' fs') (((l, o1) :: (D, .deferred (some [])) :: aux).map (·.1)) ob W v ss') (hP : SendP e ws fs now e' ws' fs' ss') :
    SendR b e ws fs ks clk now w (.returned (.tuple #[v, vi 0])) (W.putObj D o') := by
  have hD := hS.side D _ (List.mem_cons_of_mem _ (List.mem_cons_self ..))
  refine ⟨e', ws', fs', ss', v, rfl, hP, hS.went.putOdd hD.1 rfl rfl hD.2.1 _, Sl.chg hv.sl ((Chg.refl (· = D) W).putObj (.inl rfl) _) (fun x hx hh => (hv.apart x (.inr hx)).2.2 (by simp [hh])), fun x hx => ?_⟩
  exact ⟨(hv.apart x (.inr hx)).1, (hv.apart x (.inr hx)).2.1⟩

set_option maxHeartbeats 8000000 in
set_option maxRecDepth 100000 in
theorem Send_calls (w : World) (now : Int) (h : EndIs w b e ws fs ks clk) (g : Good { e with now := now } ks ws fs) (h1 : e.now ≤ now) (h2 : now ≤ 1000000000) (ho : e.out = 1000) (h0 : 0 ≤ e.outs) (h5 : e.state = 5 ∨ e.outs ≤ 5) :
    Calls Try.prog 21 #[.pointer (some ⟨b, 0, none⟩), vi now] w (SendR b e ws fs ks clk now w) := by
  have hlen : fs.length ≤ 90000 := by have := g.len; omega
  have hbB := h.blk.lt
  have hlt := h.lt
  refine (callsIn_wide (n := 9)).1 ?_
  refine callsIn_of_wp_marks Try.func21 rfl trivial ?_ rfl
  simp only [Try.ntmps21, List.size_toArray, List.length_cons, List.length_nil, Nat.reduceAdd, Nat.reduceSub, Array.replicate_succ, Array.replicate_zero, List.push_toArray, List.append_toArray, List.nil_append, List.cons_append]
  have hblk := h.blk.alloc (.cells #[.pointer (some ⟨b, 0, none⟩)] 31)
  refine wpIn_wide.2 ?_
  go_upto_if 19 with (go_at_call 36; refine (tell_calls _ now hblk h1 h2).mono ?_; rintro r w1 ⟨rfl, hb1, hc1⟩; have hx1 : Blk w1 w.heap.size #[.pointer (some ⟨b, 0, none⟩)] 31 := (Blk.new w _ 31).chg hc1 (by omega); have cx := hx1.cell 0 rfl; have cs := ce_state hb1; simp only at cs)
  have hW1 : Went w b e ws fs w1 { e with now := now } ws fs ks clk := (h.refl.alloc _).trans ((h.alloc _).went1 hc1 hb1 rfl rfl rfl)
  have hxn : w.heap.size ∉ foot b { e with now := now } ws fs := fun hh => by have := hlt _ hh; omega
  clear hc1 hblk
  let Q0 := fun R => bodyPost Try.prog Try.f21 R
  go_cut [] (SendA b e ws fs ks clk now w)
  case first =>
    by_cases h5' : e.state = 5
    · rw [h5'] at cs
      go_wp2_with (fail)
      go_meet
      case rel => exact ⟨_, _, .inl ⟨h5', rfl, rfl⟩, hW1, hx1, hxn⟩
    · have gs : (e.state != 5) = true := by simp [h5']
      have hov := overdue_calls w1 hW1.is (by omega) ho h0 (by simp only; omega)
      have hsz := hx1.lt
      clear cs
      go_wp2_with (go_at_call 37; refine hov.mono ?_; rintro r w2 ⟨rfl, e2, fs2, hW2, hO⟩)
      go_meet
      case rel =>
        exact ⟨e2, fs2, .inr ⟨h5', hO⟩, hW1.trans hW2, hx1.chg hW2.chg hxn, fun hh => by
          rcases hW2.ft _ hh with hh | hh
          · exact hxn hh
          · omega⟩
  case rest =>
    obtain ⟨e2, fs2, hO, hW2, hx2, hxn2⟩ := hcut
    obtain ⟨w0c, rfl⟩ : ∃ x, x = wc := ⟨_, rfl⟩
    clear hx1 hb1 hW1 hxn cs cx
    have cx := (hx2.alloc (.cells #[.slice none 0 0] 33)).cell 0 rfl
    have hI0 : SI w b e ws fs [(w.heap.size, .cells #[.pointer (some ⟨b, 0, none⟩)] 31)] w0c.heap.size ks clk e2 ws fs2 [] (w0c.alloc (.cells #[.slice none 0 0] 33)) := by
      have hlt2 : ∀ x ∈ foot b e2 ws fs2, x < w0c.heap.size := hW2.is.lt
      have hx2l := hx2.lt
      refine ⟨hW2.alloc _, fun x o hx => ?_, _, ⟨Blk.new w0c _ 33, Sl.nil _ _ _, by simp [slB], fun x hx => ?_⟩⟩
      · simp at hx
        obtain ⟨rfl, rfl⟩ := hx
        exact ⟨hx2.alloc _, Nat.le_refl _, hxn2⟩
      · obtain rfl : x = w0c.heap.size := by simpa [slB] using hx
        exact ⟨hW2.chg.size, fun hh => by have := hlt2 _ hh; omega, by simp; omega⟩
    have cr := ce_replies (hI0.is.blk)
    have hG2 : Good e2 ks ws fs2 := by
      rcases hO with ⟨_, rfl, rfl⟩ | ⟨_, hO⟩
      · exact g
      · exact hO.good g
    go_upto_if 26 with (fail)
    go_cut [] (SendB b e ws fs ks clk now w w0c.heap.size)
    case first =>
      cases hrp : e2.replies <;> rw [hrp] at cr
      · go_wp2_with (fail)
        go_meet
        case rel => exact ⟨e2, fs2, e2, [], hO, .inl ⟨hrp, rfl, rfl⟩, hI0⟩
      · have hI1 := hI0.go (hI0.is.went1 (e' := { e2 with replies := false }) ((Chg.refl (· = b) _).setCell (p := ⟨b, 20, none⟩) (.inl rfl) (.bool false)) (hI0.is.blk.set 20 _) rfl rfl rfl)
        have cf := hI0.is.blk.frozen 20
        have cx1 := hx2.lt
        have gg : Good { e2 with replies := false } ks ws fs2 := { hG2 with }
        clear hI0
        go_upto_region 9 with (fail)
        clear cr cf
        generalize (w0c.alloc (.cells #[.slice none 0 0] 33)).setCell ⟨b, 20, none⟩ (.bool false) = W1 at hI1 ⊢
        have hI2 := hI1.drew
        obtain ⟨i0, hi, hz0, hz1, hz2⟩ := info_parts Try.info70
        obtain ⟨v, hv⟩ := hI2.out
        have hrd : ∀ W, Chg (· ∈ slB v) W1.drew W → W.cell? ⟨w0c.heap.size, 0, none⟩ = some v ∧ W.cell? ⟨w.heap.size, 0, none⟩ = some (.pointer (some ⟨b, 0, none⟩)) ∧ W.cell? ⟨b, 2, none⟩ = some (vi e2.next) := fun W hW => by
          obtain ⟨k1, k2, k3, _⟩ := hI2.read hv hW
          exact ⟨k1, (k2 _ _ _ (List.mem_singleton.2 rfl)).cell 0 rfl, ce_next (e := { e2 with replies := false }) k3⟩
        have hmix : Try.prog.follows .mixedOrders = true := by kernel_rfl
        have hC0 : Chg (· ∈ slB v) W1.drew W1.drew := Chg.refl _ _
        refine region_anyN (fun j => j != 10) (Chg (· ∈ slB v) W1.drew) hmix ?_
        refine anyL_take (i := 0) rfl hC0 (by kernel_rfl) (by kernel_rfl) (by kernel_rfl) (by kernel_rfl) (fun _ _ _ h => nomatch h.1) rfl (fun W hW => by obtain ⟨x1, x2, x3⟩ := hrd W hW; go_simp; with_reducible rfl) ?_
        go_simp
        refine anyL_take (i := 1) rfl hC0 (by kernel_rfl) (by kernel_rfl) (by kernel_rfl) (by kernel_rfl) (fun _ _ _ h => nomatch h.1) rfl (fun W hW => by obtain ⟨x1, x2, x3⟩ := hrd W hW; go_simp; with_reducible rfl) ?_
        go_simp
        refine anyL_take (i := 2) rfl hC0 (by kernel_rfl) (by kernel_rfl) (by kernel_rfl) (by kernel_rfl) (fun _ _ _ h => nomatch h.1) rfl (fun W hW => by obtain ⟨x1, x2, x3⟩ := hrd W hW; go_simp; with_reducible rfl) ?_
        go_simp
        refine anyL_take (i := 3) rfl hC0 (by kernel_rfl) (by kernel_rfl) (by kernel_rfl) (by kernel_rfl) (fun _ _ _ h => nomatch h.1) rfl (fun W hW => by obtain ⟨x1, x2, x3⟩ := hrd W hW; go_simp; with_reducible rfl) ?_
        go_simp
        refine anyL_take (i := 4) rfl hC0 (by kernel_rfl) (by kernel_rfl) (by kernel_rfl) (by kernel_rfl) (fun _ _ _ h => nomatch h.1) rfl (fun W hW => by obtain ⟨x1, x2, x3⟩ := hrd W hW; go_simp; with_reducible rfl) ?_
        go_simp
        refine anyL_take (i := 5) rfl hC0 (by kernel_rfl) (by kernel_rfl) (by kernel_rfl) (by kernel_rfl) (fun _ _ _ h => nomatch h.1) rfl (fun W hW => by obtain ⟨x1, x2, x3⟩ := hrd W hW; go_simp; with_reducible rfl) ?_
        go_simp
        refine anyL_take (i := 6) rfl hC0 (by kernel_rfl) (by kernel_rfl) (by kernel_rfl) (by kernel_rfl) (fun _ _ _ h => nomatch h.1) rfl (fun W hW => by obtain ⟨x1, x2, x3⟩ := hrd W hW; go_simp; with_reducible rfl) ?_
        go_simp
        refine anyL_one (i := 7) (by kernel_rfl) rfl rfl ?_
        go_simp
        refine (made_calls W1.drew 5 e2.next ByteArray.empty hI2.is gg.room0 gg.room1 gg.ready gg.kbody gg.klen gg.next0 gg.now0 gg.now1 gg.late0 gg.late1 gg.base0 gg.base1 gg.kkey).mono ?_
        rintro r w3 ⟨s, rfl, hm, hb3⟩
        refine ⟨Chg.of_below hb3, ?_⟩
        refine anyL_one (i := 8) (by kernel_rfl) rfl rfl ?_
        simp only [Seg.enc]
        go_simp
        refine ⟨(Chg.of_below hb3).alloc _, ?_⟩
        refine anyL_one (i := 9) (by kernel_rfl) rfl rfl ?_
        refine wp_append_sl _ (.tmp 31) (.tmp 39) 33 rfl 70 i0 (.agg seg0) 9 88 Try.underlying33 hi hz0 hz1 hz2 rfl v 0 [] (by simp [Act.eval]) (Sl.alloc (Sl.chg hv.sl (Chg.of_below (S := fun _ => False) hb3) (fun _ _ hh => hh)) _) ⟨w3.heap.size, 0, none⟩ 1 1 s.cells (by simp [Act.eval]) rfl (new_cells rfl) (seg_one s) (by decide) (by simp [maxLen]) (by omega) ?_
        intro v' w5 hs5 hc5 hb5
        obtain ⟨hc6, hI6⟩ := hI2.emitted hv hb3 hs5 hc5 hb5
        obtain ⟨a2, cap2, rfl, _, _⟩ := hs5.form
        refine ⟨fun _ => hc6, ?_⟩
        go_simp
        have q1 := (hrd w5 hc6).1
        have q2 := (hv.blk.chg hc6 hv.ne).frozen 0
        refine anyL_one (i := 10) (by kernel_rfl) rfl rfl ?_
        go_simp
        refine anyL_done (by kernel_rfl) ?_ _
        refine ⟨rfl, ?_⟩
        go_wp2_with (fail)
        go_meet
        case rel => exact ⟨e2, fs2, { e2 with replies := false }, [s], hO, .inr ⟨hrp, rfl, s, rfl, ⟨hm.kind_, hm.conn, hm.seq, hm.ack, hm.win0, hm.win1, hm.marks, hm.body_, hm.time0, hm.time1, hm.late0, hm.late1⟩⟩, hI6⟩
    case rest =>
      clear hI0 cx cr hx2 hW2 hO hG2
      obtain ⟨e2, fs2, e3, ss3, hO, hR, hI⟩ := hcut
      have hG3 : Good e3 ks ws fs2 := by
        have hG2 : Good e2 ks ws fs2 := by
          rcases hO with ⟨_, rfl, rfl⟩ | ⟨_, hO⟩
          · exact g
          · exact hO.good g
        rcases hR with ⟨_, rfl, _⟩ | ⟨_, rfl, _⟩
        · exact hG2
        · exact { hG2 with }
      have hss : ss3.length ≤ 1 := by
        rcases hR with ⟨_, _, rfl⟩ | ⟨_, _, s, rfl, _⟩ <;> simp
      obtain ⟨v, hv⟩ := hI.out
      obtain ⟨k1, k2, k3, _⟩ := hI.read hv (Chg.refl _ _)
      have cx := (k2 _ _ _ (List.mem_singleton.2 rfl)).cell 0 rfl
      have cs := ce_state k3
      have ca := k3.frozen 17
      have cb := ce_answer k3
      have hbo : b ≠ w0c.heap.size := fun hh => (hv.apart _ (.inl rfl)).2.1 (hh ▸ foot_iff.2 (.inl rfl))
      have hret : (e3.state = 5 ∨ e3.state = 0) → SendR b e ws fs ks clk now w (.returned (.tuple #[v, vi 0])) (wc.setCell ⟨b, 17, none⟩ (.bool false)) := fun hst => by
        have hc : Chg (· = b) wc (wc.setCell ⟨b, 17, none⟩ (.bool false)) := (Chg.refl (· = b) _).setCell (p := ⟨b, 17, none⟩) (.inl rfl) (.bool false)
        have hI' := hI.go (hI.is.went1 (e' := { e3 with answer := false }) hc (k3.set 17 _) rfl rfl rfl)
        exact ⟨{ e3 with answer := false }, ws, fs2, ss3, v, rfl, ⟨e2, fs2, e3, ss3, hO, hR, .inl ⟨hst, rfl, rfl, rfl, rfl⟩⟩, hI'.went, Sl.chg hv.sl hc (fun x hx hh => (hv.apart x (.inr hx)).2.1 (hh ▸ foot_iff.2 (.inl rfl))), fun x hx => ⟨(hv.apart x (.inr hx)).1, (hv.apart x (.inr hx)).2.1⟩⟩
      by_cases hs5 : e3.state = 5
      · rw [hs5] at cs
        go_wp2_with (fail)
        exact ⟨_, results_tmp2 rfl _ _ _, by exact hret (.inl hs5)⟩
      · by_cases hs0 : e3.state = 0
        · rw [hs0] at cs
          go_wp2_with (fail)
          exact ⟨_, results_tmp2 rfl _ _ _, by exact hret (.inr hs0)⟩
        · have gs5 : (e3.state == 5) = false := by simp [hs5]
          have gs0 : (e3.state == 0) = false := by simp [hs0]
          have hmix : Try.prog.follows .mixedOrders = true := by kernel_rfl
          obtain ⟨i0, hi, hz0, hz1, hz2⟩ := info_parts Try.info70
          clear hret hv k1 k3 ca cb v
          go_wp2_with (go_at_call 39; refine (due_calls _).mono ?_; rintro r w' ⟨rfl, rfl⟩)
          refine (wpIn_wide (n := 9)).1 ?_
          have hIp := hI.push (.cells #[.pointer (some ⟨b, 0, none⟩)] 31)
          have hwl : ws.length + fs2.length ≤ 90000 := hG3.len
          clear hI cx cs k2 gs5 gs0
          refine range_due (n := 9) (bx := wc.heap.size) rfl hIp (List.mem_cons_self ..) hG3 ?fr ?assign ?body ?done
          case assign =>
            intro l k W K hK
            gi_wp2
            exact hK
          case body =>
            intro l o e1 ws1 l1 p l2 ss1 W hS g1 hsl
            have hsl1 : ss1.length ≤ 300000 := by omega
            clear hIp hG3 hsl
            have hpk := hS.is.pks p (by simp)
            have cx := Blk.cell (hS.side _ _ (by simp : (w.heap.size, Obj.cells #[.pointer (some ⟨b, 0, none⟩)] 31 (0, 0)) ∈ _)).1 0 rfl
            have cn := ce_now hS.is.blk
            have d1 := cp_sent hpk
            have d2 := cp_times hpk
            have f1 := hpk.frozen 3
            have f2 := hpk.frozen 4
            have hpb : p.blk ≠ b := fun hh => hS.is.sep.bq (hh ▸ List.mem_map.2 ⟨p, by simp, rfl⟩)
            have hpx : p.blk ≠ w.heap.size := fun hh => (hS.side _ _ (by simp : (w.heap.size, Obj.cells #[.pointer (some ⟨b, 0, none⟩)] 31 (0, 0)) ∈ _)).2.2 (hh ▸ foot_iff.2 (.inr (.inr (.inr (.inr (List.mem_map.2 ⟨p, by simp, rfl⟩))))))
            gi_wp2_with (fail)
            have hS1 := hS.go (hS.is.setPk (p' := { p with sent := e1.now, times := wrap64 (p.times + 1) }) rfl (((Chg.refl (· = p.blk) W).setCell (p := ⟨p.blk, 3, none⟩) (.inl rfl) (vi e1.now)).setCell (p := ⟨p.blk, 4, none⟩) (.inl rfl) (vi (wrap64 (p.times + 1)))) ((hpk.set 3 _).set 4 _))
            clear hS hpk cx cn d1 d2 f1 f2
            generalize (W.setCell ⟨p.blk, 3, none⟩ (vi e1.now)).setCell ⟨p.blk, 4, none⟩ (vi (wrap64 (p.times + 1))) = W1 at hS1 ⊢
            have hS2 := hS1.drew
            obtain ⟨v, hv⟩ := hS2.out
            have hrd : ∀ W, Chg (· ∈ slB v) W1.drew W → W.cell? ⟨w0c.heap.size, 0, none⟩ = some v ∧ W.cell? ⟨w.heap.size, 0, none⟩ = some (.pointer (some ⟨b, 0, none⟩)) ∧ W.cell? ⟨p.blk, 0, none⟩ = some (vi p.kind) ∧ W.cell? ⟨p.blk, 1, none⟩ = some (vi p.number) ∧ W.cell? ⟨p.blk, 2, none⟩ = some (.string p.body) := fun W hW => by
              obtain ⟨k1, k2, _, k4⟩ := hS2.read hv hW
              have kp := k4 { p with sent := e1.now, times := wrap64 (p.times + 1) } (by simp)
              exact ⟨k1, (k2 _ _ _ (by simp : (w.heap.size, Obj.cells #[.pointer (some ⟨b, 0, none⟩)] 31 (0, 0)) ∈ _)).cell 0 rfl, cp_kind (p := { p with sent := e1.now, times := wrap64 (p.times + 1) }) kp, cp_number (p := { p with sent := e1.now, times := wrap64 (p.times + 1) }) kp, cp_body (p := { p with sent := e1.now, times := wrap64 (p.times + 1) }) kp⟩
            have hC0 : Chg (· ∈ slB v) W1.drew W1.drew := Chg.refl _ _
            refine region_anyN_in (fun j => j != 17) (Chg (· ∈ slB v) W1.drew) (.inr ⟨l, rfl⟩) hmix (by kernel_rfl) ?_
            refine anyL_take (i := 0) rfl hC0 (by kernel_rfl) (by kernel_rfl) (by kernel_rfl) (by kernel_rfl) (fun _ _ _ h => nomatch h.1) rfl (fun W hW => by obtain ⟨x0, x1, x2, x3, x4⟩ := hrd W hW; go_simp; with_reducible rfl) ?_
            go_simp
            refine anyL_take (i := 1) rfl hC0 (by kernel_rfl) (by kernel_rfl) (by kernel_rfl) (by kernel_rfl) (fun _ _ _ h => nomatch h.1) rfl (fun W hW => by obtain ⟨x0, x1, x2, x3, x4⟩ := hrd W hW; go_simp; with_reducible rfl) ?_
            go_simp
            refine anyL_take (i := 2) rfl hC0 (by kernel_rfl) (by kernel_rfl) (by kernel_rfl) (by kernel_rfl) (fun _ _ _ h => nomatch h.1) rfl (fun W hW => by obtain ⟨x0, x1, x2, x3, x4⟩ := hrd W hW; go_simp; with_reducible rfl) ?_
            go_simp
            refine anyL_take (i := 3) rfl hC0 (by kernel_rfl) (by kernel_rfl) (by kernel_rfl) (by kernel_rfl) (fun _ _ _ h => nomatch h.1) rfl (fun W hW => by obtain ⟨x0, x1, x2, x3, x4⟩ := hrd W hW; go_simp; with_reducible rfl) ?_
            go_simp
            refine anyL_take (i := 4) rfl hC0 (by kernel_rfl) (by kernel_rfl) (by kernel_rfl) (by kernel_rfl) (fun _ _ _ h => nomatch h.1) rfl (fun W hW => by obtain ⟨x0, x1, x2, x3, x4⟩ := hrd W hW; go_simp; with_reducible rfl) ?_
            go_simp
            refine anyL_take (i := 5) rfl hC0 (by kernel_rfl) (by kernel_rfl) (by kernel_rfl) (by kernel_rfl) (fun _ _ _ h => nomatch h.1) rfl (fun W hW => by obtain ⟨x0, x1, x2, x3, x4⟩ := hrd W hW; go_simp; with_reducible rfl) ?_
            go_simp
            refine anyL_take (i := 6) rfl hC0 (by kernel_rfl) (by kernel_rfl) (by kernel_rfl) (by kernel_rfl) (fun _ _ _ h => nomatch h.1) rfl (fun W hW => by obtain ⟨x0, x1, x2, x3, x4⟩ := hrd W hW; go_simp; with_reducible rfl) ?_
            go_simp
            refine anyL_take (i := 7) rfl hC0 (by kernel_rfl) (by kernel_rfl) (by kernel_rfl) (by kernel_rfl) (fun _ _ _ h => nomatch h.1) rfl (fun W hW => by obtain ⟨x0, x1, x2, x3, x4⟩ := hrd W hW; go_simp; with_reducible rfl) ?_
            go_simp
            refine anyL_take (i := 8) rfl hC0 (by kernel_rfl) (by kernel_rfl) (by kernel_rfl) (by kernel_rfl) (fun _ _ _ h => nomatch h.1) rfl (fun W hW => by obtain ⟨x0, x1, x2, x3, x4⟩ := hrd W hW; go_simp; with_reducible rfl) ?_
            go_simp
            refine anyL_take (i := 9) rfl hC0 (by kernel_rfl) (by kernel_rfl) (by kernel_rfl) (by kernel_rfl) (fun _ _ _ h => nomatch h.1) rfl (fun W hW => by obtain ⟨x0, x1, x2, x3, x4⟩ := hrd W hW; go_simp; with_reducible rfl) ?_
            go_simp
            refine anyL_take (i := 10) rfl hC0 (by kernel_rfl) (by kernel_rfl) (by kernel_rfl) (by kernel_rfl) (fun _ _ _ h => nomatch h.1) rfl (fun W hW => by obtain ⟨x0, x1, x2, x3, x4⟩ := hrd W hW; go_simp; with_reducible rfl) ?_
            go_simp
            refine anyL_take (i := 11) rfl hC0 (by kernel_rfl) (by kernel_rfl) (by kernel_rfl) (by kernel_rfl) (fun _ _ _ h => nomatch h.1) rfl (fun W hW => by obtain ⟨x0, x1, x2, x3, x4⟩ := hrd W hW; go_simp; with_reducible rfl) ?_
            go_simp
            refine anyL_take (i := 12) rfl hC0 (by kernel_rfl) (by kernel_rfl) (by kernel_rfl) (by kernel_rfl) (fun _ _ _ h => nomatch h.1) rfl (fun W hW => by obtain ⟨x0, x1, x2, x3, x4⟩ := hrd W hW; go_simp; with_reducible rfl) ?_
            go_simp
            refine anyL_take (i := 13) rfl hC0 (by kernel_rfl) (by kernel_rfl) (by kernel_rfl) (by kernel_rfl) (fun _ _ _ h => nomatch h.1) rfl (fun W hW => by obtain ⟨x0, x1, x2, x3, x4⟩ := hrd W hW; go_simp; with_reducible rfl) ?_
            go_simp
            refine anyL_one (i := 14) (by kernel_rfl) rfl rfl ?_
            go_simp
            refine (made_calls W1.drew p.kind p.number p.body hS2.is g1.room0 g1.room1 g1.ready g1.kbody g1.klen (g1.num p (by simp)) g1.now0 g1.now1 g1.late0 g1.late1 g1.base0 g1.base1 g1.kkey).mono ?_
            rintro r w3 ⟨s, rfl, hm, hb3⟩
            refine ⟨Chg.of_below hb3, ?_⟩
            refine anyL_one (i := 15) (by kernel_rfl) rfl rfl ?_
            simp only [Seg.enc]
            go_simp
            refine ⟨(Chg.of_below hb3).alloc _, ?_⟩
            refine anyL_one (i := 16) (by kernel_rfl) rfl rfl ?_
            refine wp_append_sl _ (.tmp 75) (.tmp 90) 33 rfl 70 i0 (.agg seg0) 9 88 Try.underlying33 hi hz0 hz1 hz2 rfl v ss1.length (segCells ss1) (by simp [Act.eval]) (Sl.alloc (Sl.chg hv.sl (Chg.of_below (S := fun _ => False) hb3) (fun _ _ hh => hh)) _) ⟨w3.heap.size, 0, none⟩ 1 1 s.cells (by simp [Act.eval]) rfl (new_cells rfl) (seg_one s) (by decide) (by simp only [maxLen]; omega) (by omega) ?_
            intro v' w5 hs5 hc5 hb5
            obtain ⟨hc6, hI6⟩ := hS2.emitted hv hb3 hs5 hc5 hb5
            obtain ⟨a2, cap2, rfl, _, _⟩ := hs5.form
            refine ⟨fun _ => hc6, ?_⟩
            go_simp
            have q1 := (hrd w5 hc6).1
            have q2 := (hv.blk.chg hc6 hv.ne).frozen 0
            refine anyL_one (i := 17) (by kernel_rfl) rfl rfl ?_
            go_simp
            refine anyL_done (by kernel_rfl) ?_ _
            refine ⟨rfl, ?_⟩
            clear hrd hv hS1 hS2 q1 q2 hs5 hc5 hb5 hb3 hC0
            gi_wp2_with (fail)
            rw [World.size_alloc] at hI6
            exact ⟨{ p with sent := e1.now, times := wrap64 (p.times + 1) }, ⟨rfl, rfl, rfl, rfl, rfl⟩, s, hm, hI6⟩
          case done =>
            intro l o W e' ws' fs' ss' hS hD
            rw [World.size_alloc] at hS
            have hDe := (hS.side _ _ (List.mem_cons_of_mem _ (List.mem_cons_self ..))).1
            obtain ⟨v, hv⟩ := hS.out
            have hgr := hD.good hG3
            have hdl := hD.len
            have hsl : ss'.length ≤ 300000 := by omega
            have hP : ∀ ss5 a, (ss5 = ss' ∨ (ss' = [] ∧ e'.answer = true ∧ ∃ s, ss5 = [s] ∧ Made e' 3 e'.next ByteArray.empty s)) → (a = false ∨ a = e'.answer) → SendP e ws fs now { e' with answer := a } ws' fs' ss5 := fun ss5 a h h' => ⟨e2, fs2, e3, ss3, hO, hR, .inr ⟨hs5, hs0, e', ss', a, hD, h, rfl, h'⟩⟩
            have hP0 : SendP e ws fs now e' ws' fs' ss' := ⟨e2, fs2, e3, ss3, hO, hR, .inr ⟨hs5, hs0, e', ss', e'.answer, hD, .inl rfl, rfl, .inr rfl⟩⟩
            clear hIp hO hR hs5 hs0 hD hdl hG3 hwl hss
            obtain ⟨k1, k2, k3, _⟩ := hS.read hv (Chg.refl _ _)
            have cx := (k2 w.heap.size #[.pointer (some ⟨b, 0, none⟩)] 31 (by simp)).cell 0 rfl
            have ca := ce_answer k3
            have cf := k3.frozen 17
            have hbo : b ≠ w0c.heap.size := fun hh => (hv.apart _ (.inl rfl)).2.1 (hh ▸ foot_iff.2 (.inl rfl))
            obtain ⟨a2, cap2, rfl, hc1, hc2⟩ := hv.sl.form
            have hcb : Chg (· = b) W (W.setCell ⟨b, 17, none⟩ (.bool false)) := (Chg.refl (· = b) _).setCell (p := ⟨b, 17, none⟩) (.inl rfl) (.bool false)
            by_cases hz : ss' = []
            · subst hz
              simp only [List.length_nil] at k1
              cases han : e'.answer <;> rw [han] at ca
              · go_wp2_with (fail)
                exact ⟨by simp, .inl ⟨_, _, rfl, run_takeDeferred hDe, ⟨_, results_tmp2 rfl _ _ _, by exact send_end hS hv hP0⟩⟩⟩
              · go_upto_region 19 with (fail)
                have hS2 := hS.drew
                obtain ⟨v, hv'⟩ := hS2.out
                have hv : OutAt w.heap.size (foot b e' ws' fs') (((l, o) :: (wc.heap.size + 1, .deferred (some [])) :: [(wc.heap.size, .cells #[.pointer (some ⟨b, 0, none⟩)] 31), (w.heap.size, .cells #[.pointer (some ⟨b, 0, none⟩)] 31)]).map (·.1)) w0c.heap.size W.drew v [] := hv'
                have hrd : ∀ W', Chg (· ∈ slB v) W.drew W' → W'.cell? ⟨w0c.heap.size, 0, none⟩ = some v ∧ W'.cell? ⟨w.heap.size, 0, none⟩ = some (.pointer (some ⟨b, 0, none⟩)) ∧ W'.cell? ⟨b, 2, none⟩ = some (vi e'.next) := fun W' hW => by
                  obtain ⟨k1, k2, k3, _⟩ := hS2.read hv hW
                  exact ⟨k1, (k2 w.heap.size #[.pointer (some ⟨b, 0, none⟩)] 31 (by simp)).cell 0 rfl, ce_next k3⟩
                have hC0 : Chg (· ∈ slB v) W.drew W.drew := Chg.refl _ _
                clear cx ca cf k1 k2 k3 hv'
                refine region_anyN (fun j => j != 10) (Chg (· ∈ slB v) W.drew) hmix ?_
                refine anyL_take (i := 0) rfl hC0 (by kernel_rfl) (by kernel_rfl) (by kernel_rfl) (by kernel_rfl) (fun _ _ _ h => nomatch h.1) rfl (fun W hW => by obtain ⟨x0, x1, x2⟩ := hrd W hW; go_simp; with_reducible rfl) ?_
                go_simp
                refine anyL_take (i := 1) rfl hC0 (by kernel_rfl) (by kernel_rfl) (by kernel_rfl) (by kernel_rfl) (fun _ _ _ h => nomatch h.1) rfl (fun W hW => by obtain ⟨x0, x1, x2⟩ := hrd W hW; go_simp; with_reducible rfl) ?_
                go_simp
                refine anyL_take (i := 2) rfl hC0 (by kernel_rfl) (by kernel_rfl) (by kernel_rfl) (by kernel_rfl) (fun _ _ _ h => nomatch h.1) rfl (fun W hW => by obtain ⟨x0, x1, x2⟩ := hrd W hW; go_simp; with_reducible rfl) ?_
                go_simp
                refine anyL_take (i := 3) rfl hC0 (by kernel_rfl) (by kernel_rfl) (by kernel_rfl) (by kernel_rfl) (fun _ _ _ h => nomatch h.1) rfl (fun W hW => by obtain ⟨x0, x1, x2⟩ := hrd W hW; go_simp; with_reducible rfl) ?_
                go_simp
                refine anyL_take (i := 4) rfl hC0 (by kernel_rfl) (by kernel_rfl) (by kernel_rfl) (by kernel_rfl) (fun _ _ _ h => nomatch h.1) rfl (fun W hW => by obtain ⟨x0, x1, x2⟩ := hrd W hW; go_simp; with_reducible rfl) ?_
                go_simp
                refine anyL_take (i := 5) rfl hC0 (by kernel_rfl) (by kernel_rfl) (by kernel_rfl) (by kernel_rfl) (fun _ _ _ h => nomatch h.1) rfl (fun W hW => by obtain ⟨x0, x1, x2⟩ := hrd W hW; go_simp; with_reducible rfl) ?_
                go_simp
                refine anyL_take (i := 6) rfl hC0 (by kernel_rfl) (by kernel_rfl) (by kernel_rfl) (by kernel_rfl) (fun _ _ _ h => nomatch h.1) rfl (fun W hW => by obtain ⟨x0, x1, x2⟩ := hrd W hW; go_simp; with_reducible rfl) ?_
                go_simp
                refine anyL_one (i := 7) (by kernel_rfl) rfl rfl ?_
                go_simp
                refine (made_calls W.drew 3 e'.next ByteArray.empty hS2.is hgr.room0 hgr.room1 hgr.ready hgr.kbody hgr.klen hgr.next0 hgr.now0 hgr.now1 hgr.late0 hgr.late1 hgr.base0 hgr.base1 hgr.kkey).mono ?_
                rintro r w3 ⟨s, rfl, hm, hb3⟩
                refine ⟨Chg.of_below hb3, ?_⟩
                refine anyL_one (i := 8) (by kernel_rfl) rfl rfl ?_
                simp only [Seg.enc]
                go_simp
                refine ⟨(Chg.of_below hb3).alloc _, ?_⟩
                refine anyL_one (i := 9) (by kernel_rfl) rfl rfl ?_
                refine wp_append_sl _ (.tmp 102) (.tmp 110) 33 rfl 70 i0 (.agg seg0) 9 88 Try.underlying33 hi hz0 hz1 hz2 rfl v 0 [] (by simp [Act.eval]) (Sl.alloc (Sl.chg hv.sl (Chg.of_below (S := fun _ => False) hb3) (fun _ _ hh => hh)) _) ⟨w3.heap.size, 0, none⟩ 1 1 s.cells (by simp [Act.eval]) rfl (new_cells rfl) (seg_one s) (by decide) (by simp [maxLen]) (by omega) ?_
                intro v' w5 hs5 hc5 hb5
                obtain ⟨hc6, hI6⟩ := hS2.emitted hv hb3 hs5 hc5 hb5
                obtain ⟨a3, cap3, rfl, _, _⟩ := hs5.form
                refine ⟨fun _ => hc6, ?_⟩
                go_simp
                have q1 := (hrd w5 hc6).1
                have q2 := (hv.blk.chg hc6 hv.ne).frozen 0
                refine anyL_one (i := 10) (by kernel_rfl) rfl rfl ?_
                go_simp
                refine anyL_done (by kernel_rfl) ?_ _
                refine ⟨rfl, ?_⟩
                have hbs := (hv.blk.chg hc6 hv.ne).set 0 (.slice a3 1 cap3)
                clear hrd hS2 q1 q2 hs5 hc5 hb5 hb3 hC0 hc6 hcb hDe hv
                generalize w5.setCell ⟨w0c.heap.size, 0, none⟩ (.slice a3 1 cap3) = W5 at hI6 hbs ⊢
                obtain ⟨v9, hv9⟩ := hI6.out
                have hv9 := hv9.val hbs
                obtain ⟨k1, k2, k3, _⟩ := hI6.read hv9 (Chg.refl _ _)
                have cx := (k2 w.heap.size #[.pointer (some ⟨b, 0, none⟩)] 31 (by simp)).cell 0 rfl
                have ca := ce_answer k3
                have cf := k3.frozen 17
                have hcb : Chg (· = b) W5 (W5.setCell ⟨b, 17, none⟩ (.bool false)) := (Chg.refl (· = b) _).setCell (p := ⟨b, 17, none⟩) (.inl rfl) (.bool false)
                go_wp2_with (fail)
                have hS3 := hI6.go (hI6.is.went1 (e' := { e' with answer := false }) hcb (k3.set 17 _) rfl rfl rfl)
                have hv3 := hv9.chg hcb fun x hx hh => (hv9.apart x hx).2.1 (hh ▸ foot_iff.2 (.inl rfl))
                have hDe3 := (hS3.side _ _ (List.mem_cons_of_mem _ (List.mem_cons_self ..))).1
                exact ⟨by simp, .inl ⟨_, _, rfl, run_takeDeferred hDe3, ⟨_, results_tmp2 rfl _ _ _, by exact send_end hS3 hv3 (hP _ _ (.inr ⟨by first | trivial | rfl, han, s, rfl, hm⟩) (.inl rfl))⟩⟩⟩
            · have hz1 : 0 < ss'.length := List.length_pos_iff.2 hz
              obtain ⟨m, hm0, hm1⟩ : ∃ m, 0 < m ∧ m = ss'.length := ⟨_, hz1, rfl⟩
              rw [← hm1] at k1
              have Hm : Hid (m = ss'.length) := hm1
              have hm2 : m ≤ 300000 := by omega
              clear hm1 hz1
              go_wp2_with (fail)
              have hS3 := hS.go (hS.is.went1 (e' := { e' with answer := false }) hcb (k3.set 17 _) rfl rfl rfl)
              have hv3 := hv.chg hcb fun x hx hh => (hv.apart x hx).2.1 (hh ▸ foot_iff.2 (.inl rfl))
              have hDe3 := (hS3.side _ _ (List.mem_cons_of_mem _ (List.mem_cons_self ..))).1
              rw [Hm.out]
              exact ⟨by simp, .inl ⟨_, _, rfl, run_takeDeferred hDe3, ⟨_, results_tmp2 rfl _ _ _, by exact send_end hS3 hv3 (hP _ _ (.inl rfl) (.inl rfl))⟩⟩⟩
end Go.Proofs.Ytglbfgpdmlkamaa
