/-
  The walk of keep.
-/
import Derived.Test.YtglbfgpdmlkamaaVh
import Derived.Test.YtglbfgpdmlkamaaVa
namespace Go.Proofs.Ytglbfgpdmlkamaa
open Go.RowKit Go.Flw

theorem Below.undrew {w w' : World} (h : Below w.drew.heap.size w.drew w') : Below w.heap.size w w' := ⟨h.os, h.tape, h.output, h.size, h.block⟩

variable {b : Nat} {e : E} {ws fs : List Pk} {ks : List Ke} {clk : Nat}

def KeptD (b mb x : Nat) (cs : Array Value) (W : World) : Prop := W.cell? ⟨b, 14, none⟩ = some (.map (some mb)) ∧ Blk W x cs 70

/-- What keep does, in plain words. -/
def KeepP (e : E) (ks : List Ke) (clk : Nat) (s : Seg) (e1 : E) (ks1 : List Ke) (clk1 : Nat) : Prop :=
  (∃ n, e1 = { e with answer := true, doubles := n } ∧ ks1 = ks ∧ clk1 = clk) ∨
  (khas ks s.seq = false ∧ e.ended = false ∧ 1 ≤ (s.seq - e.base) % 65536 ∧ (s.seq - e.base) % 65536 ≤ 34 ∧ clk1 = clk + 1 ∧ Pass { e with answer := true } (ks ++ [Ke.mk s.seq s clk]) e1 ks1 ∧ (kidx ((e1.base + 1) % 65536) ks1 0 = none ∨ e1.ended = true))

def KeepR (b : Nat) (e : E) (ws fs : List Pk) (ks : List Ke) (clk : Nat) (s : Seg) (w : World) (r : Ending) (w' : World) : Prop :=
  r = .returned (.tuple #[]) ∧ ∃ e1 ks1 clk1, Went w b e ws fs w' e1 ws fs ks1 clk1 ∧ KeepP e ks clk s e1 ks1 clk1

def KeepAt (b : Nat) (e : E) (ws fs : List Pk) (ks : List Ke) (clk : Nat) (s : Seg) (w : World) (d t : Value) (W : World) : Prop :=
  d = vi ((s.seq - e.base) % 65536) ∧ t = .bool (khas ks s.seq) ∧ Went w b e ws fs W { e with answer := true } ws fs ks clk ∧ Blk W w.heap.size #[vi s.kind, vi s.conn, vi s.seq, vi s.ack, vi s.window, .string s.marks, .string s.body, vi s.time, vi s.late] 70

set_option maxHeartbeats 3200000 in
set_option maxRecDepth 100000 in
theorem keep_calls (w : World) (s : Seg) (h : EndIs w b e ws fs ks clk) (h0 : 0 ≤ e.base) (h1 : e.base < 65536) (hr : e.ready.size ≤ 1000000) (hkl : ks.length ≤ 99999) (hkb : ∀ k ∈ ks, k.seg.body.size ≤ 1400)
    (hr0 : 0 ≤ e.room) (hr1 : e.room ≤ 1000000) (hs : SegOk s) : Calls Try.prog 61 #[.pointer (some ⟨b, 0, none⟩), s.enc] w (KeepR b e ws fs ks clk s w) := by
  have hmix : Try.prog.follows .mixedOrders = true := by kernel_rfl
  have hbB := h.blk.lt
  have hsb : s.body.size ≤ 1400 := by
    by_cases hk : s.kind = 2
    · exact (hs.data hk).2
    · rw [hs.other hk]; simp
  have hs0 := hs.seq0
  have hs1 := hs.seq1
  have hS0 := (Blk.new w #[vi s.kind, vi s.conn, vi s.seq, vi s.ack, vi s.window, .string s.marks, .string s.body, vi s.time, vi s.late] 70)
  have f1 := (h.blk.alloc (.cells #[vi s.kind, vi s.conn, vi s.seq, vi s.ack, vi s.window, .string s.marks, .string s.body, vi s.time, vi s.late] 70)).frozen 17
  have a1 := ce_answer (h.blk.alloc (.cells #[vi s.kind, vi s.conn, vi s.seq, vi s.ack, vi s.window, .string s.marks, .string s.body, vi s.time, vi s.late] 70))
  have hbx : b ≠ w.heap.size := by omega
  simp only [Seg.enc]
  go_enter Try.func61, Try.ntmps61
  go_upto_region 2 with (fail)
  have hW1 := (h.went1 (e' := { e with answer := true }) ((Chg.refl (· = b) w).setCell (p := ⟨b, 17, none⟩) (.inl rfl) (.bool true)) (h.blk.set 17 _) rfl rfl rfl).alloc (.cells #[vi s.kind, vi s.conn, vi s.seq, vi s.ack, vi s.window, .string s.marks, .string s.body, vi s.time, vi s.late] 70)
  have hS1 := Blk.new (w.setCell ⟨b, 17, none⟩ (.bool true)) #[vi s.kind, vi s.conn, vi s.seq, vi s.ack, vi s.window, .string s.marks, .string s.body, vi s.time, vi s.late] 70
  rw [World.size_setCell] at hS1
  clear f1 a1 hS0
  generalize (w.setCell ⟨b, 17, none⟩ (.bool true)).alloc (.cells #[vi s.kind, vi s.conn, vi s.seq, vi s.ack, vi s.window, .string s.marks, .string s.body, vi s.time, vi s.late] 70) = W1 at hW1 hS1 ⊢
  have hrd : ∀ W', W' = W1.drew → W'.cell? ⟨b, 12, none⟩ = some (vi e.base) ∧ W'.cell? ⟨w.heap.size, 2, none⟩ = some (vi s.seq) := fun W' hW' => by
    rw [hW']; exact ⟨ce_base (e := { e with answer := true }) hW1.is.blk, hS1.cell 2 rfl⟩
  have hC0 : W1.drew = W1.drew := rfl
  refine region_anyN (fun _ => true) (fun W' => W' = W1.drew) hmix ?_
  refine anyL_take (i := 0) rfl hC0 (by kernel_rfl) (by kernel_rfl) (by kernel_rfl) (by kernel_rfl) (fun _ _ _ h => nomatch h.1) rfl (fun W' hW' => by obtain ⟨x0, x1⟩ := hrd W' hW'; go_simp; with_reducible rfl) ?_
  go_simp
  refine anyL_take (i := 1) rfl hC0 (by kernel_rfl) (by kernel_rfl) (by kernel_rfl) (by kernel_rfl) (fun _ _ _ h => nomatch h.1) rfl (fun W' hW' => by obtain ⟨x0, x1⟩ := hrd W' hW'; go_simp; with_reducible rfl) ?_
  go_simp
  refine anyL_take (i := 2) rfl hC0 (by kernel_rfl) (by kernel_rfl) (by kernel_rfl) (by kernel_rfl) (fun _ _ _ h => nomatch h.1) rfl (fun W' hW' => by obtain ⟨x0, x1⟩ := hrd W' hW'; go_simp; with_reducible rfl) ?_
  go_simp
  refine anyL_take (i := 3) rfl hC0 (by kernel_rfl) (by kernel_rfl) (by kernel_rfl) (by kernel_rfl) (fun _ _ _ h => nomatch h.1) rfl (fun W' hW' => by obtain ⟨x0, x1⟩ := hrd W' hW'; go_simp; with_reducible rfl) ?_
  go_simp
  refine anyL_take (i := 4) rfl hC0 (by kernel_rfl) (by kernel_rfl) (by kernel_rfl) (by kernel_rfl) (fun _ _ _ h => nomatch h.1) rfl (fun W' hW' => by obtain ⟨x0, x1⟩ := hrd W' hW'; go_simp; with_reducible rfl) ?_
  go_simp
  refine anyL_take (i := 5) rfl hC0 (by kernel_rfl) (by kernel_rfl) (by kernel_rfl) (by kernel_rfl) (fun _ _ _ h => nomatch h.1) rfl (fun W' hW' => by obtain ⟨x0, x1⟩ := hrd W' hW'; go_simp; with_reducible rfl) ?_
  go_simp
  refine anyL_take (i := 6) rfl hC0 (by kernel_rfl) (by kernel_rfl) (by kernel_rfl) (by kernel_rfl) (fun _ _ _ h => nomatch h.1) rfl (fun W' hW' => by obtain ⟨x0, x1⟩ := hrd W' hW'; go_simp; with_reducible rfl) ?_
  go_simp
  refine anyL_one (i := 7) (by kernel_rfl) rfl rfl ?_
  go_simp
  refine (ahead_calls _ _ _ (by omega) (by omega) (by omega) (by omega)).mono ?_
  rintro r w' ⟨rfl, rfl⟩
  refine ⟨rfl, ?_⟩
  refine anyL_one (i := 8) (by kernel_rfl) rfl rfl ?_
  go_simp
  first | (refine anyL_done (by kernel_rfl) ?_ _; refine ⟨rfl, ?_⟩) | (refine ⟨rfl, anyL_done (by kernel_rfl) ?_ _⟩; refine ⟨rfl, ?_⟩)
  have hd0 := Int.emod_nonneg (s.seq - e.base) (b := 65536) (by decide)
  have hd1 := Int.emod_lt_of_pos (s.seq - e.base) (b := 65536) (by decide)
  clear hC0 hrd
  have hW2 : Went w b e ws fs W1.drew { e with answer := true } ws fs ks clk := hW1.drewN 1
  have hS2 := hS1.drew
  have hlk := run_lookup_ke s.seq hW2.is.map
  obtain ⟨kv, hkv⟩ : ∃ v : Seg, kval ks s.seq = v.enc := by
    unfold kval
    split
    · exact ⟨_, rfl⟩
    · exact ⟨⟨0, 0, 0, 0, 0, ByteArray.empty, ByteArray.empty, 0, 0⟩, rfl⟩
  obtain ⟨th, hth⟩ : ∃ t, Hid (khas ks s.seq = t) := ⟨_, rfl⟩
  obtain ⟨d, hd⟩ : ∃ d, Hid ((s.seq - e.base) % 65536 = d) := ⟨_, rfl⟩
  rw [hd.out] at hd0 hd1 ⊢
  rw [hkv, hth.out] at hlk
  generalize W1.drew = W2 at hW2 hS2 hlk ⊢
  simp only [Seg.enc] at hlk
  go_upto_region 3 with (fail)
  have hrd : ∀ W', Below W2.drew.heap.size W2.drew W' → W'.cell? ⟨b, 14, none⟩ = some (.map (some e.mb)) ∧ W'.cell? ⟨w.heap.size, 2, none⟩ = some (vi s.seq) ∧ (Instr.lookup 55 (.map (some e.mb)) (vi s.seq) true).run Try.prog W' = .ok (.tuple #[.agg #[vi kv.kind, vi kv.conn, vi kv.seq, vi kv.ack, vi kv.window, .string kv.marks, .string kv.body, vi kv.time, vi kv.late], .bool th]) W' := fun W' hW' => by
    have hE := (hW2.is.below (Below.undrew hW')).is
    have hl := run_lookup_ke s.seq hE.map
    rw [hkv, hth.out] at hl
    exact ⟨ce_mb (e := { e with answer := true }) hE.blk, (hS2.below (Below.undrew hW') hS2.lt).cell 2 rfl, hl⟩
  have hC0 : Below W2.drew.heap.size W2.drew W2.drew := Below.refl _ _
  refine region_anyN (fun _ => true) (Below W2.drew.heap.size W2.drew) hmix ?_
  refine anyL_take (i := 0) rfl hC0 (by kernel_rfl) (by kernel_rfl) (by kernel_rfl) (by kernel_rfl) (fun _ _ _ h => nomatch h.1) rfl (fun W' hW' => by obtain ⟨x0, x1, x2⟩ := hrd W' hW'; go_simp; with_reducible rfl) ?_
  go_simp
  refine anyL_take (i := 1) rfl hC0 (by kernel_rfl) (by kernel_rfl) (by kernel_rfl) (by kernel_rfl) (fun _ _ _ h => nomatch h.1) rfl (fun W' hW' => by obtain ⟨x0, x1, x2⟩ := hrd W' hW'; go_simp; with_reducible rfl) ?_
  go_simp
  refine anyL_take (i := 2) rfl hC0 (by kernel_rfl) (by kernel_rfl) (by kernel_rfl) (by kernel_rfl) (fun _ _ _ h => nomatch h.1) rfl (fun W' hW' => by obtain ⟨x0, x1, x2⟩ := hrd W' hW'; go_simp; with_reducible rfl) ?_
  go_simp
  refine anyL_take (i := 3) rfl hC0 (by kernel_rfl) (by kernel_rfl) (by kernel_rfl) (by kernel_rfl) (fun _ _ _ h => nomatch h.1) rfl (fun W' hW' => by obtain ⟨x0, x1, x2⟩ := hrd W' hW'; go_simp; with_reducible rfl) ?_
  go_simp
  refine anyL_take (i := 4) rfl hC0 (by kernel_rfl) (by kernel_rfl) (by kernel_rfl) (by kernel_rfl) (fun _ _ _ h => nomatch h.1) rfl (fun W' hW' => by obtain ⟨x0, x1, x2⟩ := hrd W' hW'; go_simp; with_reducible rfl) ?_
  go_simp
  refine anyL_take (i := 5) rfl hC0 (by kernel_rfl) (by kernel_rfl) (by kernel_rfl) (by kernel_rfl) (fun _ _ _ h => nomatch h.1) rfl (fun W' hW' => by obtain ⟨x0, x1, x2⟩ := hrd W' hW'; go_simp; with_reducible rfl) ?_
  go_simp
  refine anyL_take (i := 6) rfl hC0 (by kernel_rfl) (by kernel_rfl) (by kernel_rfl) (by kernel_rfl) (fun _ _ _ h => nomatch h.1) rfl (fun W' hW' => by obtain ⟨x0, x1, x2⟩ := hrd W' hW'; go_simp; with_reducible rfl) ?_
  go_simp
  refine anyL_take (i := 7) rfl hC0 (by kernel_rfl) (by kernel_rfl) (by kernel_rfl) (by kernel_rfl) (fun _ _ _ h => nomatch h.1) rfl (fun W' hW' => by obtain ⟨x0, x1, x2⟩ := hrd W' hW'; go_simp; with_reducible rfl) ?_
  go_simp
  refine anyL_take (i := 8) rfl hC0 (by kernel_rfl) (by kernel_rfl) (by kernel_rfl) (by kernel_rfl) (fun _ _ _ h => nomatch h.1) rfl (fun W' hW' => by obtain ⟨x0, x1, x2⟩ := hrd W' hW'; go_simp; with_reducible rfl) ?_
  go_simp
  refine anyL_take (i := 9) rfl hC0 (by kernel_rfl) (by kernel_rfl) (by kernel_rfl) (by kernel_rfl) (fun _ _ _ h => nomatch h.1) rfl (fun W' hW' => by obtain ⟨x0, x1, x2⟩ := hrd W' hW'; go_simp; with_reducible rfl) ?_
  go_simp
  refine anyL_take (i := 10) rfl hC0 (by kernel_rfl) (by kernel_rfl) (by kernel_rfl) (by kernel_rfl) (fun _ _ _ h => nomatch h.1) rfl (fun W' hW' => by obtain ⟨x0, x1, x2⟩ := hrd W' hW'; go_simp; with_reducible rfl) ?_
  go_simp
  refine anyL_one (i := 11) (by kernel_rfl) rfl rfl ?_
  go_simp
  refine ⟨hC0.alloc (Nat.le_refl _) _, ?_⟩
  refine anyL_one (i := 12) (by kernel_rfl) rfl rfl ?_
  go_simp
  refine ⟨by first | exact hC0.alloc (Nat.le_refl _) _ | (refine Below.drew ?_; exact ((Below.refl _ W2).alloc (Nat.le_refl _) _)), ?_⟩
  refine anyL_one (i := 13) (by kernel_rfl) rfl rfl ?_
  go_simp
  first | (refine anyL_done (by kernel_rfl) ?_ _; refine ⟨rfl, ?_⟩) | (refine ⟨by first | exact hC0.alloc (Nat.le_refl _) _ | (refine Below.drew ?_; exact ((Below.refl _ W2).alloc (Nat.le_refl _) _)), anyL_done (by kernel_rfl) ?_ _⟩; refine ⟨rfl, ?_⟩)
  have hW3 : Went w b e ws fs (W2.alloc (.cells #[vi kv.kind, vi kv.conn, vi kv.seq, vi kv.ack, vi kv.window, .string kv.marks, .string kv.body, vi kv.time, vi kv.late] 70)).drew { e with answer := true } ws fs ks clk := (hW2.alloc _).drewN 1
  have hS3 := (hS2.alloc (.cells #[vi kv.kind, vi kv.conn, vi kv.seq, vi kv.ack, vi kv.window, .string kv.marks, .string kv.body, vi kv.time, vi kv.late] 70)).drew
  clear hrd hC0 hlk
  generalize (W2.alloc (.cells #[vi kv.kind, vi kv.conn, vi kv.seq, vi kv.ack, vi kv.window, .string kv.marks, .string kv.body, vi kv.time, vi kv.late] 70)).drew = W3 at hW3 hS3 ⊢
  clear hW2 hS2 hW1 hS1 hkv
  have cd := ce_doubles hW3.is.blk
  have fd := hW3.is.blk.frozen 33
  have hfin : ∀ n, KeepR b e ws fs ks clk s w (.returned (.tuple #[])) (W3.setCell ⟨b, 33, none⟩ (vi n)) := fun n =>
    ⟨rfl, { e with answer := true, doubles := n }, ks, clk, hW3.trans (hW3.is.went1 ((Chg.refl (· = b) W3).setCell (p := ⟨b, 33, none⟩) (.inl rfl) _) (hW3.is.blk.set 33 _) rfl rfl rfl), .inl ⟨n, rfl, rfl, rfl⟩⟩
  have hskip : ∀ W, Below W3.heap.size W3 W → KeepR b e ws fs ks clk s w (.returned (.tuple #[])) W := fun W hW =>
    ⟨rfl, { e with answer := true }, ks, clk, hW3.trans (hW3.is.below hW), .inl ⟨e.doubles, rfl, rfl, rfl⟩⟩
  by_cases hdz : d = 0
  · clear hskip
    go_wp2_with (fail)
    exact bodyPost_end (results_none rfl _ _ _) rfl (hfin _)
  · have gdz : (d == 0) = false := by simp [hdz]
    by_cases hdb : 32768 ≤ d
    · clear hskip
      go_wp2_with (fail)
      exact bodyPost_end (results_none rfl _ _ _) rfl (hfin _)
    · cases th
      case true =>
        clear hskip
        go_wp2_with (fail)
        exact bodyPost_end (results_none rfl _ _ _) rfl (hfin _)
      case false =>
        clear hfin cd fd
        have c1 := ce_state hW3.is.blk
        have c2 := ce_ended hW3.is.blk
        simp only at c1 c2
        by_cases hs4 : e.state = 4
        · rw [hs4] at c1
          go_upto_region 8 with (fail)
          go_quiet (fail)
          go_wp2_with (fail)
          exact bodyPost_end (results_none rfl _ _ _) rfl (hskip _ (belowDrewN (Below.refl _ _) _))
        · have gs4 : (e.state == 4) = false := by simp [hs4]
          cases he : e.ended <;> rw [he] at c2
          case true =>
            go_upto_region 8 with (fail)
            go_quiet (fail)
            go_wp2_with (fail)
            exact bodyPost_end (results_none rfl _ _ _) rfl (hskip _ (belowDrewN (Below.refl _ _) _))
          case false =>
            by_cases h34 : 34 < d
            · go_upto_region 8 with (fail)
              go_quiet (fail)
              go_wp2_with (fail)
              exact bodyPost_end (results_none rfl _ _ _) rfl (hskip _ (belowDrewN (Below.refl _ _) _))
            · go_upto_region 8 with (fail)
              have hrd : ∀ W', Below W3.drew.heap.size W3.drew W' → W'.cell? ⟨b, 23, none⟩ = some (vi e.state) ∧ W'.cell? ⟨b, 16, none⟩ = some (.bool false) ∧ W'.cell? ⟨w.heap.size, 6, none⟩ = some (.string s.body) := fun W' hW' => by
                have hE := (hW3.is.below (Below.undrew hW')).is
                exact ⟨ce_state (e := { e with answer := true }) hE.blk, (ce_ended (e := { e with answer := true }) hE.blk).trans (by simp [he]), (hS3.below (Below.undrew hW') hS3.lt).cell 6 rfl⟩
              have hC0 : Below W3.drew.heap.size W3.drew W3.drew := Below.refl _ _
              refine region_anyN (fun _ => true) (Below W3.drew.heap.size W3.drew) hmix ?_
              refine anyL_take (i := 0) rfl hC0 (by kernel_rfl) (by kernel_rfl) (by kernel_rfl) (by kernel_rfl) (fun _ _ _ h => nomatch h.1) rfl (fun W' hW' => by obtain ⟨x0, x1, x2⟩ := hrd W' hW'; go_simp; with_reducible rfl) ?_
              go_simp
              refine anyL_take (i := 1) rfl hC0 (by kernel_rfl) (by kernel_rfl) (by kernel_rfl) (by kernel_rfl) (fun _ _ _ h => nomatch h.1) rfl (fun W' hW' => by obtain ⟨x0, x1, x2⟩ := hrd W' hW'; go_simp; with_reducible rfl) ?_
              go_simp
              refine anyL_take (i := 2) rfl hC0 (by kernel_rfl) (by kernel_rfl) (by kernel_rfl) (by kernel_rfl) (fun _ _ _ h => nomatch h.1) rfl (fun W' hW' => by obtain ⟨x0, x1, x2⟩ := hrd W' hW'; go_simp; with_reducible rfl) ?_
              go_simp
              refine anyL_take (i := 3) rfl hC0 (by kernel_rfl) (by kernel_rfl) (by kernel_rfl) (by kernel_rfl) (fun _ _ _ h => nomatch h.1) rfl (fun W' hW' => by obtain ⟨x0, x1, x2⟩ := hrd W' hW'; go_simp; with_reducible rfl) ?_
              go_simp
              refine anyL_take (i := 4) rfl hC0 (by kernel_rfl) (by kernel_rfl) (by kernel_rfl) (by kernel_rfl) (fun _ _ _ h => nomatch h.1) rfl (fun W' hW' => by obtain ⟨x0, x1, x2⟩ := hrd W' hW'; go_simp; with_reducible rfl) ?_
              go_simp
              refine anyL_take (i := 5) rfl hC0 (by kernel_rfl) (by kernel_rfl) (by kernel_rfl) (by kernel_rfl) (fun _ _ _ h => nomatch h.1) rfl (fun W' hW' => by obtain ⟨x0, x1, x2⟩ := hrd W' hW'; go_simp; with_reducible rfl) ?_
              go_simp
              refine anyL_take (i := 6) rfl hC0 (by kernel_rfl) (by kernel_rfl) (by kernel_rfl) (by kernel_rfl) (fun _ _ _ h => nomatch h.1) rfl (fun W' hW' => by obtain ⟨x0, x1, x2⟩ := hrd W' hW'; go_simp; with_reducible rfl) ?_
              go_simp
              refine anyL_take (i := 7) rfl hC0 (by kernel_rfl) (by kernel_rfl) (by kernel_rfl) (by kernel_rfl) (fun _ _ _ h => nomatch h.1) rfl (fun W' hW' => by obtain ⟨x0, x1, x2⟩ := hrd W' hW'; go_simp; with_reducible rfl) ?_
              go_simp
              refine anyL_take (i := 8) rfl hC0 (by kernel_rfl) (by kernel_rfl) (by kernel_rfl) (by kernel_rfl) (fun _ _ _ h => nomatch h.1) rfl (fun W' hW' => by obtain ⟨x0, x1, x2⟩ := hrd W' hW'; go_simp; with_reducible rfl) ?_
              go_simp
              refine anyL_take (i := 9) rfl hC0 (by kernel_rfl) (by kernel_rfl) (by kernel_rfl) (by kernel_rfl) (fun _ _ _ h => nomatch h.1) rfl (fun W' hW' => by obtain ⟨x0, x1, x2⟩ := hrd W' hW'; go_simp; with_reducible rfl) ?_
              go_simp
              refine anyL_take (i := 10) rfl hC0 (by kernel_rfl) (by kernel_rfl) (by kernel_rfl) (by kernel_rfl) (fun _ _ _ h => nomatch h.1) rfl (fun W' hW' => by obtain ⟨x0, x1, x2⟩ := hrd W' hW'; go_simp; with_reducible rfl) ?_
              go_simp
              refine anyL_take (i := 11) rfl hC0 (by kernel_rfl) (by kernel_rfl) (by kernel_rfl) (by kernel_rfl) (fun _ _ _ h => nomatch h.1) rfl (fun W' hW' => by obtain ⟨x0, x1, x2⟩ := hrd W' hW'; go_simp; with_reducible rfl) ?_
              go_simp
              refine anyL_take (i := 12) rfl hC0 (by kernel_rfl) (by kernel_rfl) (by kernel_rfl) (by kernel_rfl) (fun _ _ _ h => nomatch h.1) rfl (fun W' hW' => by obtain ⟨x0, x1, x2⟩ := hrd W' hW'; go_simp; with_reducible rfl) ?_
              go_simp
              refine anyL_take (i := 13) rfl hC0 (by kernel_rfl) (by kernel_rfl) (by kernel_rfl) (by kernel_rfl) (fun _ _ _ h => nomatch h.1) rfl (fun W' hW' => by obtain ⟨x0, x1, x2⟩ := hrd W' hW'; go_simp; with_reducible rfl) ?_
              go_simp
              refine anyL_take (i := 14) rfl hC0 (by kernel_rfl) (by kernel_rfl) (by kernel_rfl) (by kernel_rfl) (fun _ _ _ h => nomatch h.1) rfl (fun W' hW' => by obtain ⟨x0, x1, x2⟩ := hrd W' hW'; go_simp; with_reducible rfl) ?_
              go_simp
              refine anyL_take (i := 15) rfl hC0 (by kernel_rfl) (by kernel_rfl) (by kernel_rfl) (by kernel_rfl) (fun _ _ _ h => nomatch h.1) rfl (fun W' hW' => by obtain ⟨x0, x1, x2⟩ := hrd W' hW'; go_simp; with_reducible rfl) ?_
              go_simp
              refine anyL_take (i := 16) rfl hC0 (by kernel_rfl) (by kernel_rfl) (by kernel_rfl) (by kernel_rfl) (fun _ _ _ h => nomatch h.1) rfl (fun W' hW' => by obtain ⟨x0, x1, x2⟩ := hrd W' hW'; go_simp; with_reducible rfl) ?_
              go_simp
              refine anyL_take (i := 17) rfl hC0 (by kernel_rfl) (by kernel_rfl) (by kernel_rfl) (by kernel_rfl) (fun _ _ _ h => nomatch h.1) rfl (fun W' hW' => by obtain ⟨x0, x1, x2⟩ := hrd W' hW'; go_simp; with_reducible rfl) ?_
              go_simp
              refine anyL_take (i := 18) rfl hC0 (by kernel_rfl) (by kernel_rfl) (by kernel_rfl) (by kernel_rfl) (fun _ _ _ h => nomatch h.1) rfl (fun W' hW' => by obtain ⟨x0, x1, x2⟩ := hrd W' hW'; go_simp; with_reducible rfl) ?_
              go_simp
              refine anyL_take (i := 19) rfl hC0 (by kernel_rfl) (by kernel_rfl) (by kernel_rfl) (by kernel_rfl) (fun _ _ _ h => nomatch h.1) rfl (fun W' hW' => by obtain ⟨x0, x1, x2⟩ := hrd W' hW'; go_simp; with_reducible rfl) ?_
              go_simp
              refine anyL_take (i := 20) rfl hC0 (by kernel_rfl) (by kernel_rfl) (by kernel_rfl) (by kernel_rfl) (fun _ _ _ h => nomatch h.1) rfl (fun W' hW' => by obtain ⟨x0, x1, x2⟩ := hrd W' hW'; go_simp; with_reducible rfl) ?_
              go_simp
              refine anyL_one (i := 21) (by kernel_rfl) rfl rfl ?_
              go_simp
              refine (space_calls W3.drew hW3.is.drew hr0 hr1 hr hkb (by omega)).mono ?_
              rintro r w4 ⟨n, rfl, hn0, hn1, hb4⟩
              refine ⟨hb4, ?_⟩
              refine anyL_take (i := 22) rfl hb4 (by kernel_rfl) (by kernel_rfl) (by kernel_rfl) (by kernel_rfl) (fun _ _ _ h => nomatch h.1) rfl (fun W' hW' => by go_simp; with_reducible rfl) ?_
              go_simp
              refine anyL_take (i := 23) rfl hb4 (by kernel_rfl) (by kernel_rfl) (by kernel_rfl) (by kernel_rfl) (fun _ _ _ h => nomatch h.1) rfl (fun W' hW' => by go_simp; with_reducible rfl) ?_
              go_simp
              refine anyL_one (i := 24) (by kernel_rfl) rfl rfl ?_
              go_simp
              first | (refine anyL_done (by kernel_rfl) ?_ _; refine ⟨rfl, ?_⟩) | (refine ⟨hb4, anyL_done (by kernel_rfl) ?_ _⟩; refine ⟨rfl, ?_⟩)
              have hW5 := hW3.trans (hW3.is.below (Below.undrew hb4))
              have hS5 := hS3.below (Below.undrew hb4) hS3.lt
              have hsk := hskip _ (Below.undrew hb4)
              clear hrd hC0 hskip hW3 hS3 c1 c2
              by_cases hsp : n < s.body.size
              · go_wp2_with (fail)
                exact bodyPost_end (results_none rfl _ _ _) rfl hsk
              · go_upto_region 4 with (fail)
                have hmp := hW5.is.map
                have hS6 : Blk w4.drew w.heap.size #[vi s.kind, vi s.conn, vi s.seq, vi s.ack, vi s.window, .string s.marks, .string s.body, vi s.time, vi s.late] 70 := hS5.drew
                have hup := run_update_ke (w := w4.drew) (m := e.mb) (clk := clk) (ks := ks) s.seq s hmp hth.out
                have hrd : ∀ W', KeptD b e.mb w.heap.size #[vi s.kind, vi s.conn, vi s.seq, vi s.ack, vi s.window, .string s.marks, .string s.body, vi s.time, vi s.late] W' → W'.cell? ⟨b, 14, none⟩ = some (.map (some e.mb)) ∧ Blk W' w.heap.size #[vi s.kind, vi s.conn, vi s.seq, vi s.ack, vi s.window, .string s.marks, .string s.body, vi s.time, vi s.late] 70 := fun W' hW' => hW'
                have hC0 : KeptD b e.mb w.heap.size #[vi s.kind, vi s.conn, vi s.seq, vi s.ack, vi s.window, .string s.marks, .string s.body, vi s.time, vi s.late] w4.drew := ⟨ce_mb (e := { e with answer := true }) hW5.is.blk, hS6⟩
                simp only [Seg.enc] at hup
                refine region_anyN (fun j => j != 8) (KeptD b e.mb w.heap.size #[vi s.kind, vi s.conn, vi s.seq, vi s.ack, vi s.window, .string s.marks, .string s.body, vi s.time, vi s.late]) hmix ?_
                refine anyL_take (i := 0) rfl hC0 (by kernel_rfl) (by kernel_rfl) (by kernel_rfl) (by kernel_rfl) (fun _ _ _ h => nomatch h.1) rfl (fun W' hW' => by obtain ⟨x0, x1⟩ := hrd W' hW'; have y0 := x1.cell 0 rfl; have y1 := x1.cell 1 rfl; have y2 := x1.cell 2 rfl; have y3 := x1.cell 3 rfl; have y4 := x1.cell 4 rfl; have y5 := x1.cell 5 rfl; have y6 := x1.cell 6 rfl; have y7 := x1.cell 7 rfl; have y8 := x1.cell 8 rfl; go_simp; with_reducible rfl) ?_
                go_simp
                refine anyL_take (i := 1) rfl hC0 (by kernel_rfl) (by kernel_rfl) (by kernel_rfl) (by kernel_rfl) (fun _ _ _ h => nomatch h.1) rfl (fun W' hW' => by obtain ⟨x0, x1⟩ := hrd W' hW'; have y0 := x1.cell 0 rfl; have y1 := x1.cell 1 rfl; have y2 := x1.cell 2 rfl; have y3 := x1.cell 3 rfl; have y4 := x1.cell 4 rfl; have y5 := x1.cell 5 rfl; have y6 := x1.cell 6 rfl; have y7 := x1.cell 7 rfl; have y8 := x1.cell 8 rfl; go_simp; with_reducible rfl) ?_
                go_simp
                refine anyL_take (i := 2) rfl hC0 (by kernel_rfl) (by kernel_rfl) (by kernel_rfl) (by kernel_rfl) (fun _ _ _ h => nomatch h.1) rfl (fun W' hW' => by obtain ⟨x0, x1⟩ := hrd W' hW'; have y0 := x1.cell 0 rfl; have y1 := x1.cell 1 rfl; have y2 := x1.cell 2 rfl; have y3 := x1.cell 3 rfl; have y4 := x1.cell 4 rfl; have y5 := x1.cell 5 rfl; have y6 := x1.cell 6 rfl; have y7 := x1.cell 7 rfl; have y8 := x1.cell 8 rfl; go_simp; with_reducible rfl) ?_
                go_simp
                refine anyL_take (i := 3) rfl hC0 (by kernel_rfl) (by kernel_rfl) (by kernel_rfl) (by kernel_rfl) (fun _ _ _ h => nomatch h.1) rfl (fun W' hW' => by obtain ⟨x0, x1⟩ := hrd W' hW'; have y0 := x1.cell 0 rfl; have y1 := x1.cell 1 rfl; have y2 := x1.cell 2 rfl; have y3 := x1.cell 3 rfl; have y4 := x1.cell 4 rfl; have y5 := x1.cell 5 rfl; have y6 := x1.cell 6 rfl; have y7 := x1.cell 7 rfl; have y8 := x1.cell 8 rfl; go_simp; with_reducible rfl) ?_
                go_simp
                refine anyL_take (i := 4) rfl hC0 (by kernel_rfl) (by kernel_rfl) (by kernel_rfl) (by kernel_rfl) (fun _ _ _ h => nomatch h.1) rfl (fun W' hW' => by obtain ⟨x0, x1⟩ := hrd W' hW'; have y0 := x1.cell 0 rfl; have y1 := x1.cell 1 rfl; have y2 := x1.cell 2 rfl; have y3 := x1.cell 3 rfl; have y4 := x1.cell 4 rfl; have y5 := x1.cell 5 rfl; have y6 := x1.cell 6 rfl; have y7 := x1.cell 7 rfl; have y8 := x1.cell 8 rfl; go_simp; with_reducible rfl) ?_
                go_simp
                refine anyL_take (i := 5) rfl hC0 (by kernel_rfl) (by kernel_rfl) (by kernel_rfl) (by kernel_rfl) (fun _ _ _ h => nomatch h.1) rfl (fun W' hW' => by obtain ⟨x0, x1⟩ := hrd W' hW'; have y0 := x1.cell 0 rfl; have y1 := x1.cell 1 rfl; have y2 := x1.cell 2 rfl; have y3 := x1.cell 3 rfl; have y4 := x1.cell 4 rfl; have y5 := x1.cell 5 rfl; have y6 := x1.cell 6 rfl; have y7 := x1.cell 7 rfl; have y8 := x1.cell 8 rfl; go_simp; with_reducible rfl) ?_
                go_simp
                refine anyL_take (i := 6) rfl hC0 (by kernel_rfl) (by kernel_rfl) (by kernel_rfl) (by kernel_rfl) (fun _ _ _ h => nomatch h.1) rfl (fun W' hW' => by obtain ⟨x0, x1⟩ := hrd W' hW'; have y0 := x1.cell 0 rfl; have y1 := x1.cell 1 rfl; have y2 := x1.cell 2 rfl; have y3 := x1.cell 3 rfl; have y4 := x1.cell 4 rfl; have y5 := x1.cell 5 rfl; have y6 := x1.cell 6 rfl; have y7 := x1.cell 7 rfl; have y8 := x1.cell 8 rfl; go_simp; with_reducible rfl) ?_
                go_simp
                refine anyL_take (i := 7) rfl hC0 (by kernel_rfl) (by kernel_rfl) (by kernel_rfl) (by kernel_rfl) (fun _ _ _ h => nomatch h.1) rfl (fun W' hW' => by obtain ⟨x0, x1⟩ := hrd W' hW'; have y0 := x1.cell 0 rfl; have y1 := x1.cell 1 rfl; have y2 := x1.cell 2 rfl; have y3 := x1.cell 3 rfl; have y4 := x1.cell 4 rfl; have y5 := x1.cell 5 rfl; have y6 := x1.cell 6 rfl; have y7 := x1.cell 7 rfl; have y8 := x1.cell 8 rfl; go_simp; with_reducible rfl) ?_
                go_simp
                refine anyL_one (i := 8) (by kernel_rfl) rfl rfl ?_
                go_simp
                refine anyL_done (by kernel_rfl) ?_ _
                refine ⟨rfl, ?_⟩
                have hW6 : Went w b e ws fs (w4.drew.putObj e.mb (.map (List.map Ke.enc ks ++ [(Ke.mk s.seq s clk).enc]).toArray (clk + 1))) { e with answer := true } ws fs (ks ++ [Ke.mk s.seq s clk]) (clk + 1) := by
                  rw [show List.map Ke.enc ks ++ [(Ke.mk s.seq s clk).enc] = List.map Ke.enc (ks ++ [Ke.mk s.seq s clk]) by simp]
                  exact (hW5.drewN 1).trans (EndIs.kept (hW5.drewN 1).is (ks ++ [Ke.mk s.seq s clk]) (clk + 1) (fun k hk => by
                  rcases List.mem_append.1 hk with hk | hk
                  · have := hW5.is.born k hk; omega
                  · simp at hk; subst hk; simp))
                generalize w4.drew.putObj e.mb (.map (List.map Ke.enc ks ++ [(Ke.mk s.seq s clk).enc]).toArray (clk + 1)) = W6 at hW6 ⊢
                have hps := pass_calls W6 hW6.is h0 h1 hr (by simp; omega) (fun k hk => by
                  rcases List.mem_append.1 hk with hk | hk
                  · exact hkb k hk
                  · simp at hk; subst hk; exact hsb)
                go_wp2_with (go_at_call 64; refine hps.mono ?_; rintro r w7 ⟨rfl, e1, ks1, hW7, hP7, hq7⟩)
                exact bodyPost_end (results_none rfl _ _ _) rfl ⟨rfl, e1, ks1, clk + 1, hW6.trans hW7, .inr ⟨hth.out, he, by have := hd.out; omega, by have := hd.out; omega, rfl, hP7, hq7⟩⟩
end Go.Proofs.Ytglbfgpdmlkamaa
