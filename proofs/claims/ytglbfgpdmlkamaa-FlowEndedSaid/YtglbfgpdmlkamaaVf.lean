/-
  The walk of acknowledge.
-/
import Derived.Test.YtglbfgpdmlkamaaVe
import Derived.Test.YtglbfgpdmlkamaaWl
namespace Go.Proofs.Ytglbfgpdmlkamaa
open Go.RowKit Go.Flw Go.Shelf
attribute [local go_sem] Oper.semAt_some
attribute [local simp] wide_fn

variable {b : Nat} {e : E} {ws fs : List Pk} {ks : List Ke} {clk : Nat}

/-- What acknowledge turns in the own cells. -/
def AckF (e e1 : E) : Prop := ∃ e2 a, AckE e e2 ∧ e1 = { e2 with acked := a } ∧ e.acked ≤ a ∧ (a = e.acked ∨ a < e.next)

def AckR (b : Nat) (e : E) (ws fs : List Pk) (ks : List Ke) (clk : Nat) (w : World) (r : Ending) (w' : World) : Prop :=
  r = .returned (.tuple #[]) ∧ ∃ e1 fs1, Went w b e ws fs w' e1 ws fs1 ks clk ∧ AckF e e1 ∧ Fewer fs fs1

theorem AckF.refl (e : E) : AckF e e := ⟨e, e.acked, .refl e, rfl, Int.le_refl _, .inl rfl⟩
theorem AckF.step {e1 e2 : E} (h : AckF e e1) (k : AckE e1 e2) : AckF e e2 := by
  obtain ⟨e3, a, h3, rfl, h4, h5⟩ := h
  obtain ⟨fv, outs, done, tb, tl, tt, tn, ts, ho, rfl⟩ := k
  exact ⟨{ e3 with fv := fv, outs := outs, done := done, tb := tb, tl := tl, tt := tt, tn := tn, ts := ts }, a, h3.trans ⟨_, _, _, _, _, _, _, _, ho, rfl⟩, rfl, h4, h5⟩

def DistR (w1 : World) (v : Value) (W : World) : Prop := ∃ d : Int, v = vi d ∧ -32768 ≤ d ∧ d < 32768 ∧ W = w1

set_option maxHeartbeats 1600000 in
set_option maxRecDepth 100000 in
theorem acknowledge_calls (w : World) (ack : Int) (m : ByteArray) (h : EndIs w b e ws fs ks clk) (hl : fs.length ≤ 100000) (hs : ∀ p ∈ fs, p.body.size ≤ 1400) (hm : m.size ≤ 4) (ha : -1 ≤ e.acked) (ha' : e.acked ≤ 900000)
    (h0 : 0 ≤ ack) (h1 : ack ≤ 65535) (hn : e.next ≤ 900000) : Calls Try.prog 60 #[.pointer (some ⟨b, 0, none⟩), vi ack, .string m] w (AckR b e ws fs ks clk w) := by
  have hI0 := (EndIs.sd h).push (.cells #[.pointer (some ⟨b, 0, none⟩)] 31)
  have cx := (hI0.cell (List.mem_cons_self ..)).cell 0 rfl
  have c1 := ce_acked hI0.is.blk
  refine (callsIn_wide (n := 9)).1 ?_
  refine callsIn_of_wp_marks Try.func60 rfl trivial ?_ rfl
  simp only [Try.ntmps60, List.size_toArray, List.length_cons, List.length_nil, Nat.reduceAdd, Nat.reduceSub, Array.replicate_succ, Array.replicate_zero, List.push_toArray, List.append_toArray, List.nil_append, List.cons_append]
  refine wpIn_wide.2 ?_
  let Q0 := fun R => bodyPost Try.prog Try.f60 R
  go_upto_if 18 with (go_at_call 30; refine (ahead_calls _ _ _ ha (by omega) (by omega) (by omega)).mono ?_; rintro r w1 ⟨rfl, rfl⟩)
  go_cut [6] (DistR (w.alloc (.cells #[.pointer (some ⟨b, 0, none⟩)] 31)))
  case first =>
    have hd0 := Int.emod_nonneg (ack - e.acked) (b := 65536) (by decide)
    have hd1 := Int.emod_lt_of_pos (ack - e.acked) (b := 65536) (by decide)
    by_cases hd : 32768 ≤ (ack - e.acked) % 65536
    · go_wp2_with (fail)
      go_meet
      case rel => exact ⟨_, rfl, by omega, by omega, rfl⟩
    · go_wp2_with (fail)
      go_meet
      case rel => exact ⟨_, rfl, by omega, by omega, rfl⟩
  case rest =>
    obtain ⟨d, rfl, hd0, hd1, hwc⟩ := hcut
    rw [← hwc] at hI0
    clear hwc c1 cx Q0
    have hI1 := hI0.push (.cells #[vi (e.acked + d)] 3)
    have cx := (hI0.cell (List.mem_cons_self ..)).cell 0 rfl
    have c1 := ce_acked hI0.is.blk
    have hto : IntKind.i64.wrap (e.acked + d) = e.acked + d := IntWalk.i64_in _ (by omega)
    go_upto_region 5 with (fail)
    clear cx c1 hto
    generalize wc.alloc (.cells #[vi (e.acked + d)] 3) = W1 at hI1 ⊢
    have cx := (hI1.cell (List.mem_cons_of_mem _ (List.mem_cons_self ..))).cell 0 rfl
    have ct := (hI1.cell (List.mem_cons_self ..)).cell 0 rfl
    have cn := ce_next hI1.is.blk
    by_cases hlt : e.next ≤ e.acked + d
    · go_quiet (fail)
      go_wp2_with (fail)
      exact ⟨_, results_none rfl _ _ _, rfl, e, fs, (hI1.drewN _).went, .refl e, .refl fs⟩
    · have ca := ce_acked hI1.is.blk
      have hwr : IntKind.i64.wrap (e.acked + 1) = e.acked + 1 := IntWalk.i64_in _ (by omega)
      go_quiet (fail)
      go_wp2_with (fail)
      clear hI0
      obtain ⟨tq, hto⟩ : ∃ x, x = e.acked + d := ⟨_, rfl⟩
      rw [← hto] at hI1 ct hlt
      have Hto : Hid (tq = e.acked + d) := hto
      clear hto
      have hI1n := fun n => hI1.drewN n
      clear ct cn
      go_loopw [8] (fun v wr => ∃ (j : Nat) (e1 : E) (fs1 : List Pk), v = .int .i64 (e.acked + 1 + j) ∧ (j : Int) ≤ 40000 ∧ SD w b e ws fs [(wc.heap.size, .cells #[vi tq] 3), (w.heap.size, .cells #[.pointer (some ⟨b, 0, none⟩)] 31)] ks clk e1 ws fs1 wr ∧ AckE e e1 ∧ Fewer fs fs1) (fun v _ => (tq + 1 - intOf v).toNat)
      case atStart => exact ⟨0, e, fs, by simp, by omega, hI1n _, .refl e, .refl fs⟩
      case round =>
        obtain ⟨j, e1, fs1, rfl, hj, hI, hA, hF⟩ := hrel
        clear hI1 hI1n ca cx hwr
        have hto := Hto.out
        have cx := (hI.cell (List.mem_cons_of_mem _ (List.mem_cons_self ..))).cell 0 rfl
        have ct := (hI.cell (List.mem_cons_self ..)).cell 0 rfl
        have hf1 : fs1.length ≤ 100000 := by have := hF.len; omega
        have hf2 : ∀ p ∈ fs1, p.body.size ≤ 1400 := fun p hp => by
          obtain ⟨q, hq, _, _, hb⟩ := hF.dat p hp
          rw [hb]; exact hs q hq
        by_cases hle : e.acked + 1 + j ≤ tq
        · have hgo := gone_calls wr (e.acked + 1 + j) hI.is hf1 hf2
          have hj2 : (j : Int) + 1 ≤ 40000 := by omega
          obtain ⟨nv, hnv⟩ : ∃ x, x = e.acked + 1 + (j : Int) := ⟨_, rfl⟩
          rw [← hnv] at hle hgo ⊢
          have Hnv : Hid (nv = e.acked + 1 + (j : Int)) := hnv
          have hnv1 : -10 ≤ nv := by omega
          have hnv2 : nv ≤ 2000000 := by omega
          have hj3 : Hid ((j : Int) + 1 ≤ 40000) := hj2
          clear hto hnv hj2 hj
          go_wp2_with (go_at_call 62; refine hgo.mono ?_; rintro r w2 ⟨rfl, e2, fs2, hW2, hA2, hF2⟩)
          go_roundw
          case rel => exact ⟨j + 1, e2, fs2, by have := Hnv.out; simp; omega, by have := hj3.out; simpa using this, hI.go hW2, hA.trans hA2, hF.trans hF2⟩
          case measure => simp [intOf]; omega
        · have he1 : e1.acked = e.acked := by
            obtain ⟨_, _, _, _, _, _, _, _, _, rfl⟩ := hA
            rfl
          have hen : e1.next = e.next := by
            obtain ⟨_, _, _, _, _, _, _, _, _, rfl⟩ := hA
            rfl
          clear hto
          go_upto_region 10 with (fail)
          have hrd : ∀ W', W' = wr.drew → W'.cell? ⟨w.heap.size, 0, none⟩ = some (.pointer (some ⟨b, 0, none⟩)) ∧ W'.cell? ⟨wc.heap.size, 0, none⟩ = some (vi tq) ∧ W'.cell? ⟨b, 3, none⟩ = some (vi e1.acked) := fun W' hW' => by
            rw [hW']; exact ⟨cx, ct, ce_acked hI.is.blk⟩
          have hC0 : wr.drew = wr.drew := rfl
          have hmix : Try.prog.follows .mixedOrders = true := by kernel_rfl
          have f3 := hI.is.blk.frozen 3
          have c3 := ce_acked hI.is.blk
          refine region_anyN (fun j => j != 11) (fun W' => W' = wr.drew) hmix ?_
          refine anyL_take (i := 0) rfl hC0 (by kernel_rfl) (by kernel_rfl) (by kernel_rfl) (by kernel_rfl) (fun _ _ _ h => nomatch h.1) rfl (fun W' hW' => by obtain ⟨x1, x2, x3⟩ := hrd W' hW'; go_simp; with_reducible rfl) ?_
          go_simp
          refine anyL_take (i := 1) rfl hC0 (by kernel_rfl) (by kernel_rfl) (by kernel_rfl) (by kernel_rfl) (fun _ _ _ h => nomatch h.1) rfl (fun W' hW' => by obtain ⟨x1, x2, x3⟩ := hrd W' hW'; go_simp; with_reducible rfl) ?_
          go_simp
          refine anyL_take (i := 2) rfl hC0 (by kernel_rfl) (by kernel_rfl) (by kernel_rfl) (by kernel_rfl) (fun _ _ _ h => nomatch h.1) rfl (fun W' hW' => by obtain ⟨x1, x2, x3⟩ := hrd W' hW'; go_simp; with_reducible rfl) ?_
          go_simp
          refine anyL_take (i := 3) rfl hC0 (by kernel_rfl) (by kernel_rfl) (by kernel_rfl) (by kernel_rfl) (fun _ _ _ h => nomatch h.1) rfl (fun W' hW' => by obtain ⟨x1, x2, x3⟩ := hrd W' hW'; go_simp; with_reducible rfl) ?_
          go_simp
          refine anyL_take (i := 4) rfl hC0 (by kernel_rfl) (by kernel_rfl) (by kernel_rfl) (by kernel_rfl) (fun _ _ _ h => nomatch h.1) rfl (fun W' hW' => by obtain ⟨x1, x2, x3⟩ := hrd W' hW'; go_simp; with_reducible rfl) ?_
          go_simp
          refine anyL_take (i := 5) rfl hC0 (by kernel_rfl) (by kernel_rfl) (by kernel_rfl) (by kernel_rfl) (fun _ _ _ h => nomatch h.1) rfl (fun W' hW' => by obtain ⟨x1, x2, x3⟩ := hrd W' hW'; go_simp; with_reducible rfl) ?_
          go_simp
          refine anyL_take (i := 6) rfl hC0 (by kernel_rfl) (by kernel_rfl) (by kernel_rfl) (by kernel_rfl) (fun _ _ _ h => nomatch h.1) rfl (fun W' hW' => by obtain ⟨x1, x2, x3⟩ := hrd W' hW'; go_simp; with_reducible rfl) ?_
          go_simp
          refine anyL_one (i := 7) (by kernel_rfl) rfl rfl ?_
          go_simp
          try refine ⟨rfl, ?_⟩
          refine anyL_one (i := 8) (by kernel_rfl) rfl rfl ?_
          go_simp
          try refine ⟨rfl, ?_⟩
          refine anyL_one (i := 9) (by kernel_rfl) rfl rfl ?_
          go_simp
          try refine ⟨rfl, ?_⟩
          refine anyL_one (i := 10) (by kernel_rfl) rfl rfl ?_
          go_simp
          try refine ⟨rfl, ?_⟩
          refine anyL_one (i := 11) (by kernel_rfl) rfl rfl ?_
          go_simp
          refine anyL_done (by kernel_rfl) ?_ _
          refine ⟨rfl, ?_⟩
          have hI5 : SD w b e ws fs [(wc.heap.size, .cells #[vi tq] 3), (w.heap.size, .cells #[.pointer (some ⟨b, 0, none⟩)] 31)] ks clk { e1 with acked := if e.acked < tq then tq else e.acked } ws fs1 (wr.setCell ⟨b, 3, none⟩ (vi (if e.acked < tq then tq else e.acked))).drew :=
            (hI.go (hI.is.went1 (e' := { e1 with acked := if e.acked < tq then tq else e.acked }) ((Chg.refl (· = b) wr).setCell (p := ⟨b, 3, none⟩) (.inl rfl) (vi (if e.acked < tq then tq else e.acked))) (hI.is.blk.set 3 _) rfl rfl rfl)).drew
          obtain ⟨mx, hmx⟩ : ∃ x, x = (if e.acked < tq then tq else e.acked) := ⟨_, rfl⟩
          have hmx1 : Hid (e.acked ≤ mx ∧ (mx = e.acked ∨ mx < e.next)) := by
            show _ ∧ _
            rw [hmx]; split <;> omega
          rw [← hmx] at hI5 ⊢
          have hAF : AckF e { e1 with acked := mx } := ⟨e1, mx, hA, rfl, hmx1.out⟩
          clear hmx hI hrd cx ct f3 c3 hC0 he1 hA hj hle hlt
          generalize (wr.setCell ⟨b, 3, none⟩ (vi mx)).drew = W5 at hI5 ⊢
          go_wp2_with (go_at_call 63; refine (named_calls _ _).mono ?_; rintro r w' ⟨rfl, rfl⟩)
          refine (wpIn_wide (n := 9)).1 ?_
          refine range_named (n := 9) (bx := W5.heap.size) m (fun e2 fs2 => AckF e e2 ∧ Fewer fs fs2) rfl hm (hI5.push (.cells #[.string m] 9)) ⟨hAF, hF⟩ (List.mem_cons_self ..) ?fr ?assign ?body ?done
          case assign =>
            intro l i W K hK
            gi_wp2
            exact hK
          case body =>
            rintro l o i e2 fs2 W hi hI ⟨hA2, hF2⟩
            rw [World.size_alloc] at hI
            have cx := (hI.cell (x := w.heap.size) (cs := #[.pointer (some ⟨b, 0, none⟩)]) (T := 31) (by simp)).cell 0 rfl
            have ct := (hI.cell (x := wc.heap.size) (cs := #[vi tq]) (T := 3) (by simp)).cell 0 rfl
            have hg := fun n => gone_calls W n hI.is (by have := hF2.len; omega) (fun p hp => by
              obtain ⟨q, hq, _, _, hb⟩ := hF2.dat p hp
              rw [hb]; exact hs q hq)
            gi_wp2_with (fail)
            refine (CallsIn.inRound l (callsIn_wide.2 (hg _))).mono ?_
            rintro r w2 ⟨rfl, e3, fs3, hW3, hA3, hF3⟩
            clear cx ct hg
            gi_wp2_with (fail)
            exact ⟨e3, fs3, hI.go hW3, hA2.step hA3, hF2.trans hF3⟩
          case done =>
            rintro l o e2 fs2 W hI ⟨hA2, hF2⟩
            have hd := (hI.side _ _ (List.mem_cons_of_mem _ (List.mem_cons_self ..))).1
            go_wp2_with (fail)
            exact ⟨by simp, .inl ⟨_, _, rfl, run_takeDeferred hd, ⟨_, results_none rfl _ _ _, rfl, e2, fs2, hI.went.putOdd hd rfl rfl (hI.side _ _ (List.mem_cons_of_mem _ (List.mem_cons_self ..))).2.1 _, hA2, hF2⟩⟩⟩
end Go.Proofs.Ytglbfgpdmlkamaa
