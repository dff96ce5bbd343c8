/-
  The walks of open, carry, alone and drop.
-/
import Derived.Test.YtglbfgpdmlkamaaVi
import Derived.Test.YtglbfgpdmlkamaaVf
namespace Go.Proofs.Ytglbfgpdmlkamaa
open Go.RowKit Go.Flw

variable {b : Nat} {e : E} {ws fs : List Pk} {ks : List Ke} {clk : Nat}

/-- What an end must be to take a packet. -/
structure TakeOk (e : E) (fs : List Pk) (ks : List Ke) : Prop where
  base0 : 0 ≤ e.base
  base1 : e.base < 65536
  ready : e.ready.size ≤ 1000000
  klen : ks.length ≤ 99999
  kbody : ∀ k ∈ ks, k.seg.body.size ≤ 1400
  room0 : 0 ≤ e.room
  room1 : e.room ≤ 1000000
  flen : fs.length ≤ 100000
  fbody : ∀ p ∈ fs, p.body.size ≤ 1400
  acked0 : -1 ≤ e.acked
  acked1 : e.acked ≤ 900000
  next1 : e.next ≤ 900000
  num : ∀ p ∈ fs, 0 ≤ p.number ∧ p.number ≤ 1000000

def OpenP (e : E) (s : Seg) (e' : E) : Prop :=
  (e' = e ∧ (e.opener = true ∨ e.state = 1 ∨ e.state = 5)) ∨ (e.state = 0 ∧ e.opener = false ∧ e' = { e with state := 2, base := s.seq, answer := true }) ∨ (e.state ≠ 0 ∧ e.state ≠ 1 ∧ e' = { e with answer := true })

def OpenR (b : Nat) (e : E) (ws fs : List Pk) (ks : List Ke) (clk : Nat) (s : Seg) (w : World) (r : Ending) (w' : World) : Prop :=
  r = .returned (.tuple #[]) ∧ ∃ e', Went w b e ws fs w' e' ws fs ks clk ∧ OpenP e s e'

set_option maxHeartbeats 1600000 in
set_option maxRecDepth 100000 in
theorem open_calls (w : World) (s : Seg) (h : EndIs w b e ws fs ks clk) : Calls Try.prog 55 #[.pointer (some ⟨b, 0, none⟩), s.enc] w (OpenR b e ws fs ks clk s w) := by
  have hbB := h.blk.lt
  have c1 := ce_opener h.blk
  have c2 := ce_state h.blk
  have hW := h.refl.alloc (.cells #[vi s.kind, vi s.conn, vi s.seq, vi s.ack, vi s.window, .string s.marks, .string s.body, vi s.time, vi s.late] 70)
  simp only [Seg.enc]
  cases ho : e.opener <;> rw [ho] at c1
  · by_cases h1 : e.state = 1
    · rw [h1] at c2
      go_enter Try.func55, Try.ntmps55
      go_wp2_with (fail)
      exact bodyPost_end (results_none rfl _ _ _) rfl ⟨rfl, e, hW, .inl ⟨rfl, .inr (.inl h1)⟩⟩
    · by_cases h5 : e.state = 5
      · rw [h5] at c2
        go_enter Try.func55, Try.ntmps55
        go_wp2_with (fail)
        exact bodyPost_end (results_none rfl _ _ _) rfl ⟨rfl, e, hW, .inl ⟨rfl, .inr (.inr h5)⟩⟩
      · by_cases h0 : e.state = 0
        · rw [h0] at c2
          have f1 := h.blk.frozen 23
          have f2 := h.blk.frozen 12
          have f3 := h.blk.frozen 17
          have d2 := ce_base h.blk
          have d3 := ce_answer h.blk
          have hbx : b ≠ w.heap.size := by omega
          go_enter Try.func55, Try.ntmps55
          go_wp2_with (fail)
          go_region
          all_goals go_wp2_with (fail)
          all_goals
            refine bodyPost_end (results_none rfl _ _ _) rfl ⟨rfl, { e with state := 2, base := s.seq, answer := true }, ?_, .inr (.inl ⟨h0, ho, rfl⟩)⟩
            exact ((h.went1 (e' := { e with state := 2, base := s.seq, answer := true }) ((((Chg.refl (· = b) w).setCell (p := ⟨b, 23, none⟩) (.inl rfl) (vi 2)).setCell (p := ⟨b, 12, none⟩) (.inl rfl) (vi s.seq)).setCell (p := ⟨b, 17, none⟩) (.inl rfl) (.bool true)) (((h.blk.set 23 _).set 12 _).set 17 _) rfl rfl rfl).alloc _).drewN 1
        · have g1 : (e.state == 1) = false := by simp [h1]
          have g5 : (e.state == 5) = false := by simp [h5]
          have g0 : (e.state == 0) = false := by simp [h0]
          have f3 := h.blk.frozen 17
          have d3 := ce_answer h.blk
          go_enter Try.func55, Try.ntmps55
          go_wp2_with (fail)
          refine bodyPost_end (results_none rfl _ _ _) rfl ⟨rfl, { e with answer := true }, ?_, .inr (.inr ⟨h0, h1, rfl⟩)⟩
          exact (h.went1 (e' := { e with answer := true }) ((Chg.refl (· = b) w).setCell (p := ⟨b, 17, none⟩) (.inl rfl) (.bool true)) (h.blk.set 17 _) rfl rfl rfl).alloc _
  · go_enter Try.func55, Try.ntmps55
    go_wp2_with (fail)
    exact bodyPost_end (results_none rfl _ _ _) rfl ⟨rfl, e, hW, .inl ⟨rfl, .inl ho⟩⟩

def DropP (e e' : E) : Prop := (e' = e ∧ (e.state = 0 ∨ e.state = 4)) ∨ e' = { e with state := 5, replies := false }

def DropR (b : Nat) (e : E) (ws fs : List Pk) (ks : List Ke) (clk : Nat) (w : World) (r : Ending) (w' : World) : Prop :=
  r = .returned (.tuple #[]) ∧ ∃ e', Went w b e ws fs w' e' ws fs ks clk ∧ DropP e e'

set_option maxHeartbeats 1600000 in
set_option maxRecDepth 100000 in
theorem drop_calls (w : World) (s : Seg) (h : EndIs w b e ws fs ks clk) : Calls Try.prog 58 #[.pointer (some ⟨b, 0, none⟩), s.enc] w (DropR b e ws fs ks clk w) := by
  have hbB := h.blk.lt
  have c2 := ce_state h.blk
  have hW := h.refl.alloc (.cells #[vi s.kind, vi s.conn, vi s.seq, vi s.ack, vi s.window, .string s.marks, .string s.body, vi s.time, vi s.late] 70)
  simp only [Seg.enc]
  by_cases h0 : e.state = 0
  · rw [h0] at c2
    go_enter Try.func58, Try.ntmps58
    go_wp2_with (fail)
    exact bodyPost_end (results_none rfl _ _ _) rfl ⟨rfl, e, hW, .inl ⟨rfl, .inl h0⟩⟩
  · by_cases h4 : e.state = 4
    · rw [h4] at c2
      go_enter Try.func58, Try.ntmps58
      go_wp2_with (fail)
      exact bodyPost_end (results_none rfl _ _ _) rfl ⟨rfl, e, hW, .inl ⟨rfl, .inr h4⟩⟩
    · have g0 : (e.state != 0) = true := by simp [h0]
      have g4 : (e.state != 4) = true := by simp [h4]
      have f1 := h.blk.frozen 23
      have f2 := h.blk.frozen 20
      have d2 := ce_replies h.blk
      go_enter Try.func58, Try.ntmps58
      go_wp2_with (fail)
      refine bodyPost_end (results_none rfl _ _ _) rfl ⟨rfl, { e with state := 5, replies := false }, ?_, .inr rfl⟩
      exact (h.went1 (e' := { e with state := 5, replies := false }) (((Chg.refl (· = b) w).setCell (p := ⟨b, 23, none⟩) (.inl rfl) (vi 5)).setCell (p := ⟨b, 20, none⟩) (.inl rfl) (.bool false)) ((h.blk.set 23 _).set 20 _) rfl rfl rfl).alloc _

def CarryP (e : E) (fs : List Pk) (ks : List Ke) (clk : Nat) (s : Seg) (e' : E) (fs' : List Pk) (ks' : List Ke) (clk' : Nat) : Prop :=
  (e.state = 0 ∧ e' = { e with replies := true } ∧ fs' = fs ∧ ks' = ks ∧ clk' = clk) ∨
  ((e.state = 2 ∨ e.state = 3 ∨ e.state = 4) ∧ ∃ e2, AckF { e with heard := true } e2 ∧ Fewer fs fs' ∧ KeepP e2 ks clk s e' ks' clk') ∨
  (e.state ≠ 0 ∧ e' = e ∧ fs' = fs ∧ ks' = ks ∧ clk' = clk)

def CarryR (b : Nat) (e : E) (ws fs : List Pk) (ks : List Ke) (clk : Nat) (s : Seg) (w : World) (r : Ending) (w' : World) : Prop :=
  r = .returned (.tuple #[]) ∧ ∃ e' fs' ks' clk', Went w b e ws fs w' e' ws fs' ks' clk' ∧ CarryP e fs ks clk s e' fs' ks' clk'

theorem AckF.same {e1 : E} (h : AckF e e1) : e1.base = e.base ∧ e1.ready = e.ready ∧ e1.room = e.room ∧ e1.state = e.state ∧ e1.ended = e.ended := by
  obtain ⟨e2, a, ⟨_, _, _, _, _, _, _, _, _, rfl⟩, rfl, _⟩ := h
  exact ⟨rfl, rfl, rfl, rfl, rfl⟩

set_option maxHeartbeats 1600000 in
set_option maxRecDepth 100000 in
theorem carry_calls (w : World) (s : Seg) (h : EndIs w b e ws fs ks clk) (g : TakeOk e fs ks) (hs : SegOk s) : Calls Try.prog 56 #[.pointer (some ⟨b, 0, none⟩), s.enc] w (CarryR b e ws fs ks clk s w) := by
  have c2 := ce_state h.blk
  have hbB := h.blk.lt
  have hW := h.refl.alloc (.cells #[vi s.kind, vi s.conn, vi s.seq, vi s.ack, vi s.window, .string s.marks, .string s.body, vi s.time, vi s.late] 70)
  have f1 := h.blk.frozen 20
  have f2 := h.blk.frozen 13
  have d1 := ce_replies h.blk
  have d2 := ce_heard h.blk
  have hst : (e.state = 2 ∨ e.state = 3 ∨ e.state = 4) → ∃ n, e.state = n ∧ (n = 2 ∨ n = 3 ∨ n = 4) := fun h => ⟨_, rfl, h⟩
  simp only [Seg.enc]
  by_cases h0 : e.state = 0
  · rw [h0] at c2
    go_enter Try.func56, Try.ntmps56
    go_wp2_with (fail)
    refine bodyPost_end (results_none rfl _ _ _) rfl ⟨rfl, { e with replies := true }, fs, ks, clk, ?_, .inl ⟨h0, rfl, rfl, rfl, rfl⟩⟩
    exact (h.went1 (e' := { e with replies := true }) ((Chg.refl (· = b) w).setCell (p := ⟨b, 20, none⟩) (.inl rfl) (.bool true)) (h.blk.set 20 _) rfl rfl rfl).alloc _
  · have g0 : (e.state == 0) = false := by simp [h0]
    by_cases hd : e.state = 2 ∨ e.state = 3 ∨ e.state = 4
    · have hW1 := (h.went1 (e' := { e with heard := true }) ((Chg.refl (· = b) w).setCell (p := ⟨b, 13, none⟩) (.inl rfl) (.bool true)) (h.blk.set 13 _) rfl rfl rfl).alloc (.cells #[vi s.kind, vi s.conn, vi s.seq, vi s.ack, vi s.window, .string s.marks, .string s.body, vi s.time, vi s.late] 70)
      have hS1 := Blk.new (w.setCell ⟨b, 13, none⟩ (.bool true)) #[vi s.kind, vi s.conn, vi s.seq, vi s.ack, vi s.window, .string s.marks, .string s.body, vi s.time, vi s.late] 70
      rw [World.size_setCell] at hS1
      have hak := acknowledge_calls _ s.ack s.marks hW1.is g.flen g.fbody hs.marks g.acked0 g.acked1 hs.ack0 hs.ack1 g.next1
      have hkp : ∀ w2 e2 fs2, Went ((w.setCell ⟨b, 13, none⟩ (.bool true)).alloc (.cells #[vi s.kind, vi s.conn, vi s.seq, vi s.ack, vi s.window, .string s.marks, .string s.body, vi s.time, vi s.late] 70)) b { e with heard := true } ws fs w2 e2 ws fs2 ks clk → AckF { e with heard := true } e2 → Calls Try.prog 61 #[.pointer (some ⟨b, 0, none⟩), s.enc] w2 (KeepR b e2 ws fs2 ks clk s w2) := fun w2 e2 fs2 hw ha => by
        obtain ⟨a1, a2, a3, a4, a5⟩ := ha.same
        exact keep_calls w2 s hw.is (by rw [a1]; exact g.base0) (by rw [a1]; exact g.base1) (by rw [a2]; exact g.ready) g.klen g.kbody (by rw [a3]; exact g.room0) (by rw [a3]; exact g.room1) hs
      have hxn : w.heap.size ∉ foot b { e with heard := true } ws fs := fun hh => by have := h.lt _ hh; omega
      obtain ⟨st, hst1, hst2⟩ := hst hd
      rw [hst1] at c2
      simp only [Seg.enc] at hkp
      clear g0 hst hW
      rcases hst2 with rfl | rfl | rfl
      all_goals
        go_enter Try.func56, Try.ntmps56
        go_wp2_with (first | (go_at_call 60; refine hak.mono ?_; rintro r w2 ⟨rfl, e2, fs2, hW2, hA2, hF2⟩; have hS2 := hS1.chg hW2.chg hxn; have y0 := hS2.cell 0 rfl; have y1 := hS2.cell 1 rfl; have y2 := hS2.cell 2 rfl; have y3 := hS2.cell 3 rfl; have y4 := hS2.cell 4 rfl; have y5 := hS2.cell 5 rfl; have y6 := hS2.cell 6 rfl; have y7 := hS2.cell 7 rfl; have y8 := hS2.cell 8 rfl) | (go_at_call 61; refine (hkp _ _ _ hW2 hA2).mono ?_; rintro r w3 ⟨rfl, e3, ks3, clk3, hW3, hK3⟩))
        exact bodyPost_end (results_none rfl _ _ _) rfl ⟨rfl, e3, fs2, ks3, clk3, (hW1.trans hW2).trans hW3, .inr (.inl ⟨hd, e2, hA2, hF2, hK3⟩)⟩
    · have g2 : (e.state == 2) = false := by simp; omega
      have g3 : (e.state == 3) = false := by simp; omega
      have g4 : (e.state == 4) = false := by simp; omega
      go_enter Try.func56, Try.ntmps56
      go_wp2_with (fail)
      exact bodyPost_end (results_none rfl _ _ _) rfl ⟨rfl, e, fs, ks, clk, hW, .inr (.inr ⟨h0, rfl, rfl, rfl, rfl⟩)⟩
def AloneP (e : E) (fs : List Pk) (s : Seg) (e' : E) (fs' : List Pk) : Prop :=
  (e.state = 0 ∧ e' = { e with replies := true } ∧ fs' = fs) ∨
  (e.state = 1 ∧ ((e' = e ∧ fs' = fs) ∨ (fs.length = 1 ∧ s.ack = (nth fs 0).number % 65536 ∧ ∃ e2, AckF { e with state := 2, base := (s.seq - 1) % 65536 } e2 ∧ Fewer fs fs' ∧ e' = { e2 with answer := true }))) ∨
  ((e.state = 2 ∨ e.state = 3 ∨ e.state = 4) ∧ AckF { e with heard := true } e' ∧ Fewer fs fs') ∨
  (e.state ≠ 0 ∧ e.state ≠ 1 ∧ e' = e ∧ fs' = fs)

def AloneR (b : Nat) (e : E) (ws fs : List Pk) (ks : List Ke) (clk : Nat) (s : Seg) (w : World) (r : Ending) (w' : World) : Prop :=
  r = .returned (.tuple #[]) ∧ ∃ e' fs', Went w b e ws fs w' e' ws fs' ks clk ∧ AloneP e fs s e' fs'

set_option maxHeartbeats 1600000 in
set_option maxRecDepth 100000 in
theorem alone_calls (w : World) (s : Seg) (h : EndIs w b e ws fs ks clk) (g : TakeOk e fs ks) (hs : SegOk s) : Calls Try.prog 57 #[.pointer (some ⟨b, 0, none⟩), s.enc] w (AloneR b e ws fs ks clk s w) := by
  have c2 := ce_state h.blk
  have hbB := h.blk.lt
  have hW := h.refl.alloc (.cells #[vi s.kind, vi s.conn, vi s.seq, vi s.ack, vi s.window, .string s.marks, .string s.body, vi s.time, vi s.late] 70)
  have f1 := h.blk.frozen 20
  have f2 := h.blk.frozen 13
  have d1 := ce_replies h.blk
  have d2 := ce_heard h.blk
  have hxn : w.heap.size ∉ foot b e ws fs := fun hh => by have := h.lt _ hh; omega
  have hbx : b ≠ w.heap.size := by omega
  have hS := Blk.new w #[vi s.kind, vi s.conn, vi s.seq, vi s.ack, vi s.window, .string s.marks, .string s.body, vi s.time, vi s.late] 70
  simp only [Seg.enc]
  by_cases h0 : e.state = 0
  · rw [h0] at c2
    go_enter Try.func57, Try.ntmps57
    go_wp2_with (fail)
    refine bodyPost_end (results_none rfl _ _ _) rfl ⟨rfl, { e with replies := true }, fs, ?_, .inl ⟨h0, rfl, rfl⟩⟩
    exact (h.went1 (e' := { e with replies := true }) ((Chg.refl (· = b) w).setCell (p := ⟨b, 20, none⟩) (.inl rfl) (.bool true)) (h.blk.set 20 _) rfl rfl rfl).alloc _
  · have g0 : (e.state == 0) = false := by simp [h0]
    by_cases h1 : e.state = 1
    · rw [h1] at c2
      obtain ⟨fa, fc, hfv, hfc, hfm⟩ := Sl.form h.fsl
      have d3 := ce_fv' h.blk hfv
      unfold maxLen at hfm
      have hskip : ∀ n, AloneR b e ws fs ks clk s w (.returned (.tuple #[])) ((w.alloc (.cells #[vi s.kind, vi s.conn, vi s.seq, vi s.ack, vi s.window, .string s.marks, .string s.body, vi s.time, vi s.late] 70)).drewN n) := fun n => ⟨rfl, e, fs, hW.drewN n, .inr (.inl ⟨h1, .inl ⟨rfl, rfl⟩⟩)⟩
      by_cases hl : fs.length = 1
      · obtain ⟨p, rfl⟩ := List.length_eq_one_iff.1 hl
        obtain ⟨B, off, cap, hv1, hc1⟩ := pk_at h.fsl 0 (by simp)
        rw [hfv] at hv1
        injection hv1 with ha1 ha2 ha3
        subst ha1
        simp only [nth, List.getD_cons_zero, Nat.add_zero] at hc1
        have hpk := h.pks p (by simp)
        have c3 := cp_number hpk
        obtain ⟨hn0, hn1⟩ := g.num p (by simp)
        have hmod : p.number.tmod 65536 = p.number % 65536 := Int.tmod_eq_emod_of_nonneg hn0
        have hpB := hpk.lt
        have hBB := World.block_lt_of_cell? _ _ hc1
        simp only [List.length_singleton] at d3
        by_cases hak : s.ack = p.number % 65536
        · have hak' : (s.ack == p.number % 65536) = true := by simp [hak]
          have Hak : Hid (s.ack = p.number % 65536) := hak
          clear hak hskip
          go_enter Try.func57, Try.ntmps57
          go_upto_region 5 with (fail)
          go_quiet (fail)
          have hW1 := hW.drewN nq
          have hS1 : Blk ((w.alloc (.cells #[vi s.kind, vi s.conn, vi s.seq, vi s.ack, vi s.window, .string s.marks, .string s.body, vi s.time, vi s.late] 70)).drewN nq) w.heap.size #[vi s.kind, vi s.conn, vi s.seq, vi s.ack, vi s.window, .string s.marks, .string s.body, vi s.time, vi s.late] 70 := hS
          generalize (w.alloc (.cells #[vi s.kind, vi s.conn, vi s.seq, vi s.ack, vi s.window, .string s.marks, .string s.body, vi s.time, vi s.late] 70)).drewN nq = W1 at hW1 hS1 ⊢
          clear hW d1 d2 d3 c2 c3 hpk hc1 hpB hBB hmod f1 f2
          have k1 := hW1.is.blk.frozen 23
          have k2 := hW1.is.blk.frozen 12
          have k3 := ce_state hW1.is.blk
          have k4 := ce_base hW1.is.blk
          have k5 := hS1.cell 2 rfl
          have k6 := hS1.cell 3 rfl
          have k7 := hS1.cell 5 rfl
          have hs0 := hs.seq0
          have hs1 := hs.seq1
          have hW2 := hW1.trans (hW1.is.went1 (e' := { e with state := 2, base := (s.seq - 1) % 65536 }) (((Chg.refl (· = b) W1).setCell (p := ⟨b, 23, none⟩) (.inl rfl) (vi 2)).setCell (p := ⟨b, 12, none⟩) (.inl rfl) (vi ((s.seq - 1) % 65536))) ((hW1.is.blk.set 23 _).set 12 _) rfl rfl rfl)
          have hak2 := acknowledge_calls _ s.ack s.marks hW2.is g.flen g.fbody hs.marks g.acked0 g.acked1 hs.ack0 hs.ack1 g.next1
          go_wp2_with (first | (go_at_call 30; refine (ahead_calls _ _ _ (by omega) (by omega) (by omega) (by omega)).mono ?_; rintro r w' ⟨rfl, rfl⟩) | (go_at_call 60; refine hak2.mono ?_; rintro r w3 ⟨rfl, e2, fs2, hW3, hA3, hF3⟩; have k8 := hW3.is.blk.frozen 17; have k9 := ce_answer hW3.is.blk))
          refine bodyPost_end (results_none rfl _ _ _) rfl ⟨rfl, { e2 with answer := true }, fs2, ?_, .inr (.inl ⟨h1, .inr ⟨rfl, by simpa [nth] using Hak.out, e2, hA3, hF3, rfl⟩⟩)⟩
          exact (hW2.trans hW3).trans (hW3.is.went1 ((Chg.refl (· = b) w3).setCell (p := ⟨b, 17, none⟩) (.inl rfl) (.bool true)) (hW3.is.blk.set 17 _) rfl rfl rfl)
        · have hak' : (s.ack == p.number % 65536) = false := by simp [hak]
          go_enter Try.func57, Try.ntmps57
          go_upto_region 5 with (fail)
          go_quiet (fail)
          go_wp2_with (fail)
          exact bodyPost_end (results_none rfl _ _ _) rfl (hskip _)
      · have hl' : ((fs.length : Int) == 1) = false := by simp; omega
        go_enter Try.func57, Try.ntmps57
        go_upto_region 5 with (fail)
        go_quiet (fail)
        go_wp2_with (fail)
        exact bodyPost_end (results_none rfl _ _ _) rfl (hskip _)
    · have g1 : (e.state == 1) = false := by simp [h1]
      by_cases hd : e.state = 2 ∨ e.state = 3 ∨ e.state = 4
      · have hW1 := (h.went1 (e' := { e with heard := true }) ((Chg.refl (· = b) w).setCell (p := ⟨b, 13, none⟩) (.inl rfl) (.bool true)) (h.blk.set 13 _) rfl rfl rfl).alloc (.cells #[vi s.kind, vi s.conn, vi s.seq, vi s.ack, vi s.window, .string s.marks, .string s.body, vi s.time, vi s.late] 70)
        have hak := acknowledge_calls _ s.ack s.marks hW1.is g.flen g.fbody hs.marks g.acked0 g.acked1 hs.ack0 hs.ack1 g.next1
        obtain ⟨st, hst1, hst2⟩ : ∃ n, e.state = n ∧ (n = 2 ∨ n = 3 ∨ n = 4) := ⟨_, rfl, hd⟩
        rw [hst1] at c2
        clear g0 hW g1
        rcases hst2 with rfl | rfl | rfl
        all_goals
          go_enter Try.func57, Try.ntmps57
          go_wp2_with (go_at_call 60; refine hak.mono ?_; rintro r w2 ⟨rfl, e2, fs2, hW2, hA2, hF2⟩)
          exact bodyPost_end (results_none rfl _ _ _) rfl ⟨rfl, e2, fs2, hW1.trans hW2, .inr (.inr (.inl ⟨hd, hA2, hF2⟩))⟩
      · have g2 : (e.state == 2) = false := by simp; omega
        have g3 : (e.state == 3) = false := by simp; omega
        have g4 : (e.state == 4) = false := by simp; omega
        go_enter Try.func57, Try.ntmps57
        go_wp2_with (fail)
        exact bodyPost_end (results_none rfl _ _ _) rfl ⟨rfl, e, fs, hW, .inr (.inr (.inr ⟨h0, h1, rfl, rfl⟩))⟩
end Go.Proofs.Ytglbfgpdmlkamaa
