/-
  The walk of Take.
-/
import Derived.Test.YtglbfgpdmlkamaaVj
import Derived.Laws.EntriesVeiled
namespace Go.Proofs.Ytglbfgpdmlkamaa
open Go.RowKit Go.Flw

variable {b : Nat} {e : E} {ws fs : List Pk} {ks : List Ke} {clk : Nat}

/-- A packet by its kind. -/
def TookK (e : E) (fs : List Pk) (ks : List Ke) (clk : Nat) (s : Seg) (e' : E) (fs' : List Pk) (ks' : List Ke) (clk' : Nat) : Prop :=
  (s.kind = 1 ∧ OpenP e s e' ∧ fs' = fs ∧ ks' = ks ∧ clk' = clk) ∨ ((s.kind = 2 ∨ s.kind = 4) ∧ CarryP e fs ks clk s e' fs' ks' clk') ∨
  (s.kind = 3 ∧ AloneP e fs s e' fs' ∧ ks' = ks ∧ clk' = clk) ∨ (s.kind = 5 ∧ DropP e e' ∧ fs' = fs ∧ ks' = ks ∧ clk' = clk)

/-- What a packet does that is taken. -/
def Took (e : E) (fs : List Pk) (ks : List Ke) (clk : Nat) (s : Seg) (e' : E) (fs' : List Pk) (ks' : List Ke) (clk' : Nat) : Prop :=
  (e' = e ∧ fs' = fs ∧ ks' = ks ∧ clk' = clk) ∨
  (s.conn = e.conn ∧ e.state ≠ 5 ∧ ∃ wn e2, TookK { e with late := s.time, some_ := true, window := wn } fs ks clk s e2 fs' ks' clk' ∧ (wn = s.window ∨ wn = e.window) ∧ (e' = e2 ∨ (e2.state = 3 ∧ e' = { e2 with state := 4 })))

def TakeR (b : Nat) (e : E) (ws fs : List Pk) (w : World) (I : E → List Pk → List Ke → Nat → Prop) (r : Ending) (w' : World) : Prop :=
  r = .returned (vi 0) ∧ ∃ e' fs' ks' clk', Went w b e ws fs w' e' ws fs' ks' clk' ∧ I e' fs' ks' clk'

set_option maxHeartbeats 400000 in
theorem takes_calls (w : World) : Calls Try.prog 44 #[] w fun r w' => r = .returned (.agg #[.func (.func 55) #[] #[], .func (.func 56) #[] #[], .func (.func 57) #[] #[], .func (.func 56) #[] #[], .func (.func 58) #[] #[]]) ∧ Below w.heap.size w w' := by
  go_enter Try.func44, Try.ntmps44
  go_wp2
  refine bodyPost_ret (v := .agg #[.func (.func 55) #[] #[], .func (.func 56) #[] #[], .func (.func 57) #[] #[], .func (.func 56) #[] #[], .func (.func 58) #[] #[]]) ?_ rfl ⟨rfl, (Below.refl _ w).alloc (Nat.le_refl _) _⟩
  simp only [results, Try.f44]
  simp [go_sem]

def TakeRel (w : World) (b : Nat) (e : E) (ws fs : List Pk) (n : Nat) (I : E → List Pk → List Ke → Nat → Prop) (i : Value) (wr : World) : Prop :=
  ∃ (k : Nat) (e1 : E) (fs1 : List Pk) (ks1 : List Ke) (clk1 : Nat), i = .int .i64 k ∧ k ≤ n ∧ Went w b e ws fs wr e1 ws fs1 ks1 clk1 ∧ I e1 fs1 ks1 clk1

/-- The packet lies beside; the time and the window are noted. -/
def TakeB (w : World) (b : Nat) (e : E) (ws fs : List Pk) (e1 : E) (fs1 : List Pk) (ks1 : List Ke) (clk1 : Nat) (s : Seg) (x : Nat) (W : World) : Prop :=
  ∃ wn, (wn = s.window ∨ wn = e1.window) ∧ Went w b e ws fs W { e1 with late := s.time, some_ := true, window := wn } ws fs1 ks1 clk1 ∧ Blk W x #[vi s.kind, vi s.conn, vi s.seq, vi s.ack, vi s.window, .string s.marks, .string s.body, vi s.time, vi s.late] 70

def TakeC (w : World) (b : Nat) (e : E) (ws fs : List Pk) (e1 : E) (fs1 : List Pk) (ks1 : List Ke) (clk1 : Nat) (s : Seg) (W : World) : Prop :=
  ∃ wn e2 fs2 ks2 clk2, (wn = s.window ∨ wn = e1.window) ∧ TookK { e1 with late := s.time, some_ := true, window := wn } fs1 ks1 clk1 s e2 fs2 ks2 clk2 ∧ Went w b e ws fs W e2 ws fs2 ks2 clk2

theorem TakeOk.noted (h : TakeOk e fs ks) (l : Int) (wn : Int) : TakeOk { e with late := l, some_ := true, window := wn } fs ks := ⟨h.base0, h.base1, h.ready, h.klen, h.kbody, h.room0, h.room1, h.flen, h.fbody, h.acked0, h.acked1, h.next1, h.num⟩

set_option maxHeartbeats 3200000 in
set_option maxRecDepth 100000 in
theorem Take_calls (w : World) (now : Int) (v : Value) (ss : List Seg) (I : E → List Pk → List Ke → Nat → Prop) (hI : ∀ e fs ks clk, I e fs ks clk → TakeOk e fs ks)
    (hstep : ∀ s ∈ ss, ∀ e fs ks clk e' fs' ks' clk', I e fs ks clk → Took e fs ks clk s e' fs' ks' clk' → I e' fs' ks' clk')
    (h : EndIs w b e ws fs ks clk) (h0 : I { e with now := now } fs ks clk) (h1 : e.now ≤ now) (h2 : now ≤ 1000000000) (hv : SSl w v ss) (hok : ∀ s ∈ ss, SegOk s) (hoff : ∀ x ∈ slB v, x ∉ foot b e ws fs) :
    Calls Try.prog 25 #[.pointer (some ⟨b, 0, none⟩), vi now, v] w (TakeR b e ws fs w I) := by
  have hmix : Try.prog.follows .mixedOrders = true := by kernel_rfl
  obtain ⟨va, vc, hvf, hvc, hvm⟩ := Sl.form hv
  unfold maxLen at hvm
  have hcc := contains_calls w v ss hv hok
  have hB := h.blk
  rw [hvf] at hcc hv hoff ⊢
  obtain ⟨len, hlen⟩ : ∃ n, Hid (ss.length = n) := ⟨_, rfl⟩
  rw [hlen.out] at hcc hv hoff hvc ⊢
  go_enter Try.func25, Try.ntmps25
  go_wp2_with (first | (go_at_call 41; refine hcc.mono ?_; rintro r w1 ⟨rfl, hb1⟩) | (go_at_call 36; refine (tell_calls _ now (hB.below hb1 hB.lt) h1 h2).mono ?_; rintro r w2 ⟨rfl, hb2, hc2⟩))
  have hW2 : Went w b e ws fs w2 { e with now := now } ws fs ks clk := (h.below hb1).trans ((h.below hb1).is.went1 hc2 hb2 rfl rfl rfl)
  go_loopw [24] (TakeRel w b e ws fs len I) (fun i _ => len - (intOf i).toNat)
  case atStart => exact ⟨0, _, _, _, _, rfl, Nat.zero_le _, hW2, h0⟩
  case round =>
    obtain ⟨k, e1, fs1, ks1, clk1, rfl, hk, hW, hI1⟩ := hrel
    clear hcc hb1 hb2 hc2 hW2 h0
    by_cases hlt : k < len
    · have hvr : SSl wr (.slice va len vc) ss := Sl.chg (hlen.out ▸ hv) hW.chg hoff
      obtain ⟨B, off, cap', hv', hc⟩ := seg_at hvr k (by rw [hlen.out]; exact hlt)
      injection hv' with ha hb hcc
      subst ha
      subst hcc
      have hmem := nthS_mem ss k (by rw [hlen.out]; exact hlt)
      have hst := hstep _ hmem
      have hok1 := hok _ hmem
      obtain ⟨s, hs⟩ : ∃ s, s = nthS ss k := ⟨_, rfl⟩
      rw [← hs] at hok1 hst hc
      have c0 := hc 0 _ rfl
      rw [Nat.add_zero] at c0
      have c1 := hc 1 _ rfl
      have c2 := hc 2 _ rfl
      have c3 := hc 3 _ rfl
      have c4 := hc 4 _ rfl
      have c5 := hc 5 _ rfl
      have c6 := hc 6 _ rfl
      have c7 := hc 7 _ rfl
      have c8 := hc 8 _ rfl
      have hT := hI _ _ _ _ hI1
      clear hs hc hvr hb hmem hv hstep hok
      go_upto_region 9 with (fail)
      have hlt1 := hW.is.lt
      have hxn : wr.heap.size ∉ foot b e1 ws fs1 := fun hh => by have := hlt1 _ hh; omega
      have hW1 := hW.alloc (.cells #[vi s.kind, vi s.conn, vi s.seq, vi s.ack, vi s.window, .string s.marks, .string s.body, vi s.time, vi s.late] 70)
      have hS1 := Blk.new wr #[vi s.kind, vi s.conn, vi s.seq, vi s.ack, vi s.window, .string s.marks, .string s.body, vi s.time, vi s.late] 70
      clear c0 c1 c2 c3 c4 c5 c6 c7 c8
      obtain ⟨x, hx⟩ : ∃ x, x = wr.heap.size := ⟨_, rfl⟩
      rw [← hx] at hxn hS1 ⊢
      generalize wr.alloc (.cells #[vi s.kind, vi s.conn, vi s.seq, vi s.ack, vi s.window, .string s.marks, .string s.body, vi s.time, vi s.late] 70) = W1 at hW1 hS1 ⊢
      clear hx hlt1 hW
      have d1 := ce_conn hW1.is.blk
      have d2 := ce_state hW1.is.blk
      have d3 := hS1.cell 1 rfl
      have hskip : ∀ n, TakeRel w b e ws fs len I (.int .i64 ((k : Int) + 1)) (W1.drewN n) := fun n => ⟨k + 1, e1, fs1, ks1, clk1, by simp, by omega, hW1.drewN n, hI1⟩
      by_cases hcn : s.conn = e1.conn
      · have gcn : (s.conn != e1.conn) = false := by simp [hcn]
        have Hcn : Hid (s.conn = e1.conn) := hcn
        clear hcn
        by_cases h5 : e1.state = 5
        · rw [h5] at d2
          go_quiet (fail)
          go_wp2_with (fail)
          go_roundw
          case rel => exact hskip _
          case measure => simp [intOf]; omega
        · have g5 : (e1.state == 5) = false := by simp [h5]
          clear hskip
          go_quiet (fail)
          have hW2 := hW1.drewN nq
          have hS2 : Blk (W1.drewN nq) x #[vi s.kind, vi s.conn, vi s.seq, vi s.ack, vi s.window, .string s.marks, .string s.body, vi s.time, vi s.late] 70 := hS1
          clear d1 d2 d3 hW1 hS1
          generalize W1.drewN nq = W2 at hW2 hS2 ⊢
          have d1 := ce_late hW2.is.blk
          have d2 := ce_some_ hW2.is.blk
          have d3 := hS2.cell 7 rfl
          have d4 := hS2.cell 0 rfl
          have f1 := hW2.is.blk.frozen 18
          have f2 := hW2.is.blk.frozen 19
          have hbx : b ≠ x := fun hh => hxn (hh ▸ foot_iff.2 (.inl rfl))
          have hxb : x ≠ b := fun hh => hbx hh.symm
          go_upto_if 54 with (fail)
          have hW3 := hW2.trans (hW2.is.went1 (e' := { e1 with late := s.time, some_ := true }) (((Chg.refl (· = b) W2).setCell (p := ⟨b, 18, none⟩) (.inl rfl) (vi s.time)).setCell (p := ⟨b, 19, none⟩) (.inl rfl) (.bool true)) ((hW2.is.blk.set 18 _).set 19 _) rfl rfl rfl)
          have hS3 := (hS2.other (c := b) hxb 18 (vi s.time)).other (c := b) hxb 19 (.bool true)
          clear d1 d2 d3 d4 f1 f2 hW2 hS2
          generalize (W2.setCell ⟨b, 18, none⟩ (vi s.time)).setCell ⟨b, 19, none⟩ (.bool true) = W3 at hW3 hS3 ⊢
          go_cut [] (TakeB w b e ws fs e1 fs1 ks1 clk1 s x)
          case first =>
            by_cases hk5 : s.kind = 5
            · have gk5 : (s.kind != 5) = false := by simp [hk5]
              go_wp2_with (fail)
              go_meet
              case rel => exact ⟨e1.window, .inr rfl, hW3, hS3⟩
            · have gk5 : (s.kind != 5) = true := by simp [hk5]
              have d5 := hS3.cell 4 rfl
              have d6 := ce_window hW3.is.blk
              have f3 := hW3.is.blk.frozen 4
              go_wp2_with (fail)
              go_meet
              case rel => exact ⟨s.window, .inl rfl, hW3.trans (hW3.is.went1 (e' := { e1 with late := s.time, some_ := true, window := s.window }) ((Chg.refl (· = b) W3).setCell (p := ⟨b, 4, none⟩) (.inl rfl) (vi s.window)) (hW3.is.blk.set 4 _) rfl rfl rfl), hS3.other (c := b) hxb 4 _⟩
          case rest =>
            clear hW3 hS3
            obtain ⟨wn, hwn, hW4, hS4⟩ := hcut
            obtain ⟨W4, rfl⟩ : ∃ x, x = wc := ⟨_, rfl⟩
            go_upto_region 13 with (fail)
            go_cut [] (TakeC w b e ws fs e1 fs1 ks1 clk1 s)
            case first =>
              have hT4 := hT.noted s.time wn
              have hkk : s.kind = 1 ∨ s.kind = 2 ∨ s.kind = 3 ∨ s.kind = 4 ∨ s.kind = 5 := by have := hok1.kind1; have := hok1.kind5; omega
              clear hst
              rcases hkk with hK | hK | hK | hK | hK
              · have hix : ∀ W, (Instr.index 87 (.agg #[.func (.func 55) #[] #[], .func (.func 56) #[] #[], .func (.func 57) #[] #[], .func (.func 56) #[] #[], .func (.func 58) #[] #[]]) (.int .i64 (IntKind.i64.wrap 0))).run Try.prog W = .ok (.func (.func 55) #[] #[]) W := fun _ => by kernel_rfl
                have hk0 : ∀ W', Blk W' x #[vi s.kind, vi s.conn, vi s.seq, vi s.ack, vi s.window, .string s.marks, .string s.body, vi s.time, vi s.late] 70 → W'.cell? ⟨x, 0, none⟩ = some (vi 1) := fun W' hW' => by rw [← hK]; exact hW'.cell 0 rfl
                have HK : Hid (s.kind = 1) := hK
                clear hK
                refine region_anyN (fun _ => true) (fun W' => Blk W' x #[vi s.kind, vi s.conn, vi s.seq, vi s.ack, vi s.window, .string s.marks, .string s.body, vi s.time, vi s.late] 70) hmix ?_
                refine anyL_take (i := 1) rfl hS4.drew (by kernel_rfl) (by kernel_rfl) (by kernel_rfl) (by kernel_rfl) (fun _ _ _ h => nomatch h.1) rfl (fun W' hW' => by go_simp; with_reducible rfl) ?_
                go_simp
                refine anyL_take (i := 2) rfl hS4.drew (by kernel_rfl) (by kernel_rfl) (by kernel_rfl) (by kernel_rfl) (fun _ _ _ h => nomatch h.1) rfl (fun W' hW' => by have x0 := hk0 W' hW'; go_simp; with_reducible rfl) ?_
                clear hk0
                go_simp
                refine anyL_take (i := 3) rfl hS4.drew (by kernel_rfl) (by kernel_rfl) (by kernel_rfl) (by kernel_rfl) (fun _ _ _ h => nomatch h.1) rfl (fun W' hW' => by go_simp; with_reducible rfl) ?_
                go_simp
                refine anyL_take (i := 5) rfl hS4.drew (by kernel_rfl) (by kernel_rfl) (by kernel_rfl) (by kernel_rfl) (fun _ _ _ h => nomatch h.1) rfl (fun W' hW' => by go_simp; with_reducible rfl) ?_
                go_simp
                refine anyL_take (i := 6) rfl hS4.drew (by kernel_rfl) (by kernel_rfl) (by kernel_rfl) (by kernel_rfl) (fun _ _ _ h => nomatch h.1) rfl (fun W' hW' => by have y0 := hW'.cell 0 rfl; have y1 := hW'.cell 1 rfl; have y2 := hW'.cell 2 rfl; have y3 := hW'.cell 3 rfl; have y4 := hW'.cell 4 rfl; have y5 := hW'.cell 5 rfl; have y6 := hW'.cell 6 rfl; have y7 := hW'.cell 7 rfl; have y8 := hW'.cell 8 rfl; go_simp; with_reducible rfl) ?_
                go_simp
                refine anyL_one (i := 0) (by kernel_rfl) rfl rfl ?_
                go_simp
                refine (takes_calls _).mono ?_
                rintro r w5 ⟨rfl, hb5⟩
                have hS5 := hS4.drew.below hb5 hS4.lt
                refine ⟨hS5, ?_⟩
                refine anyL_take (i := 4) rfl hS5 (by kernel_rfl) (by kernel_rfl) (by kernel_rfl) (by kernel_rfl) (fun _ _ _ h => nomatch h.1) rfl (fun W' hW' => by go_simp; with_reducible rfl) ?_
                go_simp
                have hW5 : Went w b e ws fs w5 { e1 with late := s.time, some_ := true, window := wn } ws fs1 ks1 clk1 := (hW4.drewN 1).trans ((hW4.drewN 1).is.below hb5)
                refine anyL_one (i := 7) (by kernel_rfl) rfl rfl ?_
                go_simp
                have hcl := open_calls w5 s hW5.is
                simp only [Seg.enc] at hcl
                refine hcl.mono ?_
                rintro r w6 ⟨rfl, e2, hW6, hP⟩
                refine ⟨hS5.chg hW6.chg hxn, ?_⟩
                refine anyL_done (by kernel_rfl) ?_ _
                refine ⟨rfl, ?_⟩
                go_wp2_with (fail)
                go_meet
                case rel => exact ⟨wn, e2, fs1, ks1, clk1, hwn, .inl ⟨HK.out, hP, rfl, rfl, rfl⟩, hW5.trans hW6⟩
              · have hix : ∀ W, (Instr.index 87 (.agg #[.func (.func 55) #[] #[], .func (.func 56) #[] #[], .func (.func 57) #[] #[], .func (.func 56) #[] #[], .func (.func 58) #[] #[]]) (.int .i64 (IntKind.i64.wrap 1))).run Try.prog W = .ok (.func (.func 56) #[] #[]) W := fun _ => by kernel_rfl
                have hk0 : ∀ W', Blk W' x #[vi s.kind, vi s.conn, vi s.seq, vi s.ack, vi s.window, .string s.marks, .string s.body, vi s.time, vi s.late] 70 → W'.cell? ⟨x, 0, none⟩ = some (vi 2) := fun W' hW' => by rw [← hK]; exact hW'.cell 0 rfl
                have HK : Hid (s.kind = 2) := hK
                clear hK
                refine region_anyN (fun _ => true) (fun W' => Blk W' x #[vi s.kind, vi s.conn, vi s.seq, vi s.ack, vi s.window, .string s.marks, .string s.body, vi s.time, vi s.late] 70) hmix ?_
                refine anyL_take (i := 1) rfl hS4.drew (by kernel_rfl) (by kernel_rfl) (by kernel_rfl) (by kernel_rfl) (fun _ _ _ h => nomatch h.1) rfl (fun W' hW' => by go_simp; with_reducible rfl) ?_
                go_simp
                refine anyL_take (i := 2) rfl hS4.drew (by kernel_rfl) (by kernel_rfl) (by kernel_rfl) (by kernel_rfl) (fun _ _ _ h => nomatch h.1) rfl (fun W' hW' => by have x0 := hk0 W' hW'; go_simp; with_reducible rfl) ?_
                clear hk0
                go_simp
                refine anyL_take (i := 3) rfl hS4.drew (by kernel_rfl) (by kernel_rfl) (by kernel_rfl) (by kernel_rfl) (fun _ _ _ h => nomatch h.1) rfl (fun W' hW' => by go_simp; with_reducible rfl) ?_
                go_simp
                refine anyL_take (i := 5) rfl hS4.drew (by kernel_rfl) (by kernel_rfl) (by kernel_rfl) (by kernel_rfl) (fun _ _ _ h => nomatch h.1) rfl (fun W' hW' => by go_simp; with_reducible rfl) ?_
                go_simp
                refine anyL_take (i := 6) rfl hS4.drew (by kernel_rfl) (by kernel_rfl) (by kernel_rfl) (by kernel_rfl) (fun _ _ _ h => nomatch h.1) rfl (fun W' hW' => by have y0 := hW'.cell 0 rfl; have y1 := hW'.cell 1 rfl; have y2 := hW'.cell 2 rfl; have y3 := hW'.cell 3 rfl; have y4 := hW'.cell 4 rfl; have y5 := hW'.cell 5 rfl; have y6 := hW'.cell 6 rfl; have y7 := hW'.cell 7 rfl; have y8 := hW'.cell 8 rfl; go_simp; with_reducible rfl) ?_
                go_simp
                refine anyL_one (i := 0) (by kernel_rfl) rfl rfl ?_
                go_simp
                refine (takes_calls _).mono ?_
                rintro r w5 ⟨rfl, hb5⟩
                have hS5 := hS4.drew.below hb5 hS4.lt
                refine ⟨hS5, ?_⟩
                refine anyL_take (i := 4) rfl hS5 (by kernel_rfl) (by kernel_rfl) (by kernel_rfl) (by kernel_rfl) (fun _ _ _ h => nomatch h.1) rfl (fun W' hW' => by go_simp; with_reducible rfl) ?_
                go_simp
                have hW5 : Went w b e ws fs w5 { e1 with late := s.time, some_ := true, window := wn } ws fs1 ks1 clk1 := (hW4.drewN 1).trans ((hW4.drewN 1).is.below hb5)
                refine anyL_one (i := 7) (by kernel_rfl) rfl rfl ?_
                go_simp
                have hcl := carry_calls w5 s hW5.is hT4 hok1
                simp only [Seg.enc] at hcl
                refine hcl.mono ?_
                rintro r w6 ⟨rfl, e2, fs2, ks2, clk2, hW6, hP⟩
                refine ⟨hS5.chg hW6.chg hxn, ?_⟩
                refine anyL_done (by kernel_rfl) ?_ _
                refine ⟨rfl, ?_⟩
                go_wp2_with (fail)
                go_meet
                case rel => exact ⟨wn, e2, fs2, ks2, clk2, hwn, .inr (.inl ⟨.inl HK.out, hP⟩), hW5.trans hW6⟩
              · have hix : ∀ W, (Instr.index 87 (.agg #[.func (.func 55) #[] #[], .func (.func 56) #[] #[], .func (.func 57) #[] #[], .func (.func 56) #[] #[], .func (.func 58) #[] #[]]) (.int .i64 (IntKind.i64.wrap 2))).run Try.prog W = .ok (.func (.func 57) #[] #[]) W := fun _ => by kernel_rfl
                have hk0 : ∀ W', Blk W' x #[vi s.kind, vi s.conn, vi s.seq, vi s.ack, vi s.window, .string s.marks, .string s.body, vi s.time, vi s.late] 70 → W'.cell? ⟨x, 0, none⟩ = some (vi 3) := fun W' hW' => by rw [← hK]; exact hW'.cell 0 rfl
                have HK : Hid (s.kind = 3) := hK
                clear hK
                refine region_anyN (fun _ => true) (fun W' => Blk W' x #[vi s.kind, vi s.conn, vi s.seq, vi s.ack, vi s.window, .string s.marks, .string s.body, vi s.time, vi s.late] 70) hmix ?_
                refine anyL_take (i := 1) rfl hS4.drew (by kernel_rfl) (by kernel_rfl) (by kernel_rfl) (by kernel_rfl) (fun _ _ _ h => nomatch h.1) rfl (fun W' hW' => by go_simp; with_reducible rfl) ?_
                go_simp
                refine anyL_take (i := 2) rfl hS4.drew (by kernel_rfl) (by kernel_rfl) (by kernel_rfl) (by kernel_rfl) (fun _ _ _ h => nomatch h.1) rfl (fun W' hW' => by have x0 := hk0 W' hW'; go_simp; with_reducible rfl) ?_
                clear hk0
                go_simp
                refine anyL_take (i := 3) rfl hS4.drew (by kernel_rfl) (by kernel_rfl) (by kernel_rfl) (by kernel_rfl) (fun _ _ _ h => nomatch h.1) rfl (fun W' hW' => by go_simp; with_reducible rfl) ?_
                go_simp
                refine anyL_take (i := 5) rfl hS4.drew (by kernel_rfl) (by kernel_rfl) (by kernel_rfl) (by kernel_rfl) (fun _ _ _ h => nomatch h.1) rfl (fun W' hW' => by go_simp; with_reducible rfl) ?_
                go_simp
                refine anyL_take (i := 6) rfl hS4.drew (by kernel_rfl) (by kernel_rfl) (by kernel_rfl) (by kernel_rfl) (fun _ _ _ h => nomatch h.1) rfl (fun W' hW' => by have y0 := hW'.cell 0 rfl; have y1 := hW'.cell 1 rfl; have y2 := hW'.cell 2 rfl; have y3 := hW'.cell 3 rfl; have y4 := hW'.cell 4 rfl; have y5 := hW'.cell 5 rfl; have y6 := hW'.cell 6 rfl; have y7 := hW'.cell 7 rfl; have y8 := hW'.cell 8 rfl; go_simp; with_reducible rfl) ?_
                go_simp
                refine anyL_one (i := 0) (by kernel_rfl) rfl rfl ?_
                go_simp
                refine (takes_calls _).mono ?_
                rintro r w5 ⟨rfl, hb5⟩
                have hS5 := hS4.drew.below hb5 hS4.lt
                refine ⟨hS5, ?_⟩
                refine anyL_take (i := 4) rfl hS5 (by kernel_rfl) (by kernel_rfl) (by kernel_rfl) (by kernel_rfl) (fun _ _ _ h => nomatch h.1) rfl (fun W' hW' => by go_simp; with_reducible rfl) ?_
                go_simp
                have hW5 : Went w b e ws fs w5 { e1 with late := s.time, some_ := true, window := wn } ws fs1 ks1 clk1 := (hW4.drewN 1).trans ((hW4.drewN 1).is.below hb5)
                refine anyL_one (i := 7) (by kernel_rfl) rfl rfl ?_
                go_simp
                have hcl := alone_calls w5 s hW5.is hT4 hok1
                simp only [Seg.enc] at hcl
                refine hcl.mono ?_
                rintro r w6 ⟨rfl, e2, fs2, hW6, hP⟩
                refine ⟨hS5.chg hW6.chg hxn, ?_⟩
                refine anyL_done (by kernel_rfl) ?_ _
                refine ⟨rfl, ?_⟩
                go_wp2_with (fail)
                go_meet
                case rel => exact ⟨wn, e2, fs2, ks1, clk1, hwn, .inr (.inr (.inl ⟨HK.out, hP, rfl, rfl⟩)), hW5.trans hW6⟩
              · have hix : ∀ W, (Instr.index 87 (.agg #[.func (.func 55) #[] #[], .func (.func 56) #[] #[], .func (.func 57) #[] #[], .func (.func 56) #[] #[], .func (.func 58) #[] #[]]) (.int .i64 (IntKind.i64.wrap 3))).run Try.prog W = .ok (.func (.func 56) #[] #[]) W := fun _ => by kernel_rfl
                have hk0 : ∀ W', Blk W' x #[vi s.kind, vi s.conn, vi s.seq, vi s.ack, vi s.window, .string s.marks, .string s.body, vi s.time, vi s.late] 70 → W'.cell? ⟨x, 0, none⟩ = some (vi 4) := fun W' hW' => by rw [← hK]; exact hW'.cell 0 rfl
                have HK : Hid (s.kind = 4) := hK
                clear hK
                refine region_anyN (fun _ => true) (fun W' => Blk W' x #[vi s.kind, vi s.conn, vi s.seq, vi s.ack, vi s.window, .string s.marks, .string s.body, vi s.time, vi s.late] 70) hmix ?_
                refine anyL_take (i := 1) rfl hS4.drew (by kernel_rfl) (by kernel_rfl) (by kernel_rfl) (by kernel_rfl) (fun _ _ _ h => nomatch h.1) rfl (fun W' hW' => by go_simp; with_reducible rfl) ?_
                go_simp
                refine anyL_take (i := 2) rfl hS4.drew (by kernel_rfl) (by kernel_rfl) (by kernel_rfl) (by kernel_rfl) (fun _ _ _ h => nomatch h.1) rfl (fun W' hW' => by have x0 := hk0 W' hW'; go_simp; with_reducible rfl) ?_
                clear hk0
                go_simp
                refine anyL_take (i := 3) rfl hS4.drew (by kernel_rfl) (by kernel_rfl) (by kernel_rfl) (by kernel_rfl) (fun _ _ _ h => nomatch h.1) rfl (fun W' hW' => by go_simp; with_reducible rfl) ?_
                go_simp
                refine anyL_take (i := 5) rfl hS4.drew (by kernel_rfl) (by kernel_rfl) (by kernel_rfl) (by kernel_rfl) (fun _ _ _ h => nomatch h.1) rfl (fun W' hW' => by go_simp; with_reducible rfl) ?_
                go_simp
                refine anyL_take (i := 6) rfl hS4.drew (by kernel_rfl) (by kernel_rfl) (by kernel_rfl) (by kernel_rfl) (fun _ _ _ h => nomatch h.1) rfl (fun W' hW' => by have y0 := hW'.cell 0 rfl; have y1 := hW'.cell 1 rfl; have y2 := hW'.cell 2 rfl; have y3 := hW'.cell 3 rfl; have y4 := hW'.cell 4 rfl; have y5 := hW'.cell 5 rfl; have y6 := hW'.cell 6 rfl; have y7 := hW'.cell 7 rfl; have y8 := hW'.cell 8 rfl; go_simp; with_reducible rfl) ?_
                go_simp
                refine anyL_one (i := 0) (by kernel_rfl) rfl rfl ?_
                go_simp
                refine (takes_calls _).mono ?_
                rintro r w5 ⟨rfl, hb5⟩
                have hS5 := hS4.drew.below hb5 hS4.lt
                refine ⟨hS5, ?_⟩
                refine anyL_take (i := 4) rfl hS5 (by kernel_rfl) (by kernel_rfl) (by kernel_rfl) (by kernel_rfl) (fun _ _ _ h => nomatch h.1) rfl (fun W' hW' => by go_simp; with_reducible rfl) ?_
                go_simp
                have hW5 : Went w b e ws fs w5 { e1 with late := s.time, some_ := true, window := wn } ws fs1 ks1 clk1 := (hW4.drewN 1).trans ((hW4.drewN 1).is.below hb5)
                refine anyL_one (i := 7) (by kernel_rfl) rfl rfl ?_
                go_simp
                have hcl := carry_calls w5 s hW5.is hT4 hok1
                simp only [Seg.enc] at hcl
                refine hcl.mono ?_
                rintro r w6 ⟨rfl, e2, fs2, ks2, clk2, hW6, hP⟩
                refine ⟨hS5.chg hW6.chg hxn, ?_⟩
                refine anyL_done (by kernel_rfl) ?_ _
                refine ⟨rfl, ?_⟩
                go_wp2_with (fail)
                go_meet
                case rel => exact ⟨wn, e2, fs2, ks2, clk2, hwn, .inr (.inl ⟨.inr HK.out, hP⟩), hW5.trans hW6⟩
              · have hix : ∀ W, (Instr.index 87 (.agg #[.func (.func 55) #[] #[], .func (.func 56) #[] #[], .func (.func 57) #[] #[], .func (.func 56) #[] #[], .func (.func 58) #[] #[]]) (.int .i64 (IntKind.i64.wrap 4))).run Try.prog W = .ok (.func (.func 58) #[] #[]) W := fun _ => by kernel_rfl
                have hk0 : ∀ W', Blk W' x #[vi s.kind, vi s.conn, vi s.seq, vi s.ack, vi s.window, .string s.marks, .string s.body, vi s.time, vi s.late] 70 → W'.cell? ⟨x, 0, none⟩ = some (vi 5) := fun W' hW' => by rw [← hK]; exact hW'.cell 0 rfl
                have HK : Hid (s.kind = 5) := hK
                clear hK
                refine region_anyN (fun _ => true) (fun W' => Blk W' x #[vi s.kind, vi s.conn, vi s.seq, vi s.ack, vi s.window, .string s.marks, .string s.body, vi s.time, vi s.late] 70) hmix ?_
                refine anyL_take (i := 1) rfl hS4.drew (by kernel_rfl) (by kernel_rfl) (by kernel_rfl) (by kernel_rfl) (fun _ _ _ h => nomatch h.1) rfl (fun W' hW' => by go_simp; with_reducible rfl) ?_
                go_simp
                refine anyL_take (i := 2) rfl hS4.drew (by kernel_rfl) (by kernel_rfl) (by kernel_rfl) (by kernel_rfl) (fun _ _ _ h => nomatch h.1) rfl (fun W' hW' => by have x0 := hk0 W' hW'; go_simp; with_reducible rfl) ?_
                clear hk0
                go_simp
                refine anyL_take (i := 3) rfl hS4.drew (by kernel_rfl) (by kernel_rfl) (by kernel_rfl) (by kernel_rfl) (fun _ _ _ h => nomatch h.1) rfl (fun W' hW' => by go_simp; with_reducible rfl) ?_
                go_simp
                refine anyL_take (i := 5) rfl hS4.drew (by kernel_rfl) (by kernel_rfl) (by kernel_rfl) (by kernel_rfl) (fun _ _ _ h => nomatch h.1) rfl (fun W' hW' => by go_simp; with_reducible rfl) ?_
                go_simp
                refine anyL_take (i := 6) rfl hS4.drew (by kernel_rfl) (by kernel_rfl) (by kernel_rfl) (by kernel_rfl) (fun _ _ _ h => nomatch h.1) rfl (fun W' hW' => by have y0 := hW'.cell 0 rfl; have y1 := hW'.cell 1 rfl; have y2 := hW'.cell 2 rfl; have y3 := hW'.cell 3 rfl; have y4 := hW'.cell 4 rfl; have y5 := hW'.cell 5 rfl; have y6 := hW'.cell 6 rfl; have y7 := hW'.cell 7 rfl; have y8 := hW'.cell 8 rfl; go_simp; with_reducible rfl) ?_
                go_simp
                refine anyL_one (i := 0) (by kernel_rfl) rfl rfl ?_
                go_simp
                refine (takes_calls _).mono ?_
                rintro r w5 ⟨rfl, hb5⟩
                have hS5 := hS4.drew.below hb5 hS4.lt
                refine ⟨hS5, ?_⟩
                refine anyL_take (i := 4) rfl hS5 (by kernel_rfl) (by kernel_rfl) (by kernel_rfl) (by kernel_rfl) (fun _ _ _ h => nomatch h.1) rfl (fun W' hW' => by go_simp; with_reducible rfl) ?_
                go_simp
                have hW5 : Went w b e ws fs w5 { e1 with late := s.time, some_ := true, window := wn } ws fs1 ks1 clk1 := (hW4.drewN 1).trans ((hW4.drewN 1).is.below hb5)
                refine anyL_one (i := 7) (by kernel_rfl) rfl rfl ?_
                go_simp
                have hcl := drop_calls w5 s hW5.is
                simp only [Seg.enc] at hcl
                refine hcl.mono ?_
                rintro r w6 ⟨rfl, e2, hW6, hP⟩
                refine ⟨hS5.chg hW6.chg hxn, ?_⟩
                refine anyL_done (by kernel_rfl) ?_ _
                refine ⟨rfl, ?_⟩
                go_wp2_with (fail)
                go_meet
                case rel => exact ⟨wn, e2, fs1, ks1, clk1, hwn, .inr (.inr (.inr ⟨HK.out, hP, rfl, rfl, rfl⟩)), hW5.trans hW6⟩
            case rest =>
              clear hW4 hS4 hwn
              obtain ⟨wn, e2, fs2, ks2, clk2, hwn, hP, hW5⟩ := hcut
              obtain ⟨W5, rfl⟩ : ∃ x, x = wc := ⟨_, rfl⟩
              have d1 := ce_state hW5.is.blk
              have d2 := ce_ended hW5.is.blk
              have d3 := ce_done hW5.is.blk
              have hend : TakeRel w b e ws fs len I (.int .i64 ((k : Int) + 1)) W5 := ⟨k + 1, e2, fs2, ks2, clk2, by simp, by omega, hW5, hst _ _ _ _ _ _ _ _ hI1 (.inr ⟨Hcn.out, h5, wn, e2, hP, hwn, .inl rfl⟩)⟩
              by_cases h3 : e2.state = 3
              · have hend3 : TakeRel w b e ws fs len I (.int .i64 ((k : Int) + 1)) (W5.setCell ⟨b, 23, none⟩ (vi 4)) := ⟨k + 1, { e2 with state := 4 }, fs2, ks2, clk2, by simp, by omega, hW5.trans (hW5.is.went1 ((Chg.refl (· = b) W5).setCell (p := ⟨b, 23, none⟩) (.inl rfl) (vi 4)) (hW5.is.blk.set 23 _) rfl rfl rfl), hst _ _ _ _ _ _ _ _ hI1 (.inr ⟨Hcn.out, h5, wn, e2, hP, hwn, .inr ⟨h3, rfl⟩⟩)⟩
                have f1 := hW5.is.blk.frozen 23
                rw [h3] at d1
                clear hW5 hst
                cases hen : e2.ended <;> rw [hen] at d2
                · go_wp2_with (fail)
                  go_roundw
                  case rel => exact hend
                  case measure => simp [intOf]; omega
                · cases hdo : e2.done <;> rw [hdo] at d3
                  · go_wp2_with (fail)
                    go_roundw
                    case rel => exact hend
                    case measure => simp [intOf]; omega
                  · go_wp2_with (fail)
                    go_roundw
                    case rel => exact hend3
                    case measure => simp [intOf]; omega
              · have g3 : (e2.state == 3) = false := by simp [h3]
                clear hW5 hst
                go_wp2_with (fail)
                go_roundw
                case rel => exact hend
                case measure => simp [intOf]; omega
      · have gcn : (s.conn != e1.conn) = true := by simp [hcn]
        go_quiet (fail)
        go_wp2_with (fail)
        go_roundw
        case rel => exact hskip _
        case measure => simp [intOf]; omega
    · go_wp2_with (fail)
      go_ret
      exact ⟨rfl, e1, fs1, ks1, clk1, hW, hI1⟩
end Go.Proofs.Ytglbfgpdmlkamaa
