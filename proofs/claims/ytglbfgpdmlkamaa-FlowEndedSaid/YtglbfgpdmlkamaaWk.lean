/-
  The walk of made: a packet as it goes now.
-/
import Derived.Test.YtglbfgpdmlkamaaWi
import Derived.Test.YtglbfgpdmlkamaaWj
import Derived.Test.YtglbfgpdmlkamaaReg
import Derived.Deep.DeepCutAuto
namespace Go.Proofs.Ytglbfgpdmlkamaa
open Go.RowKit Go.Flw

variable {b : Nat} {e : E} {ws fs : List Pk} {ks : List Ke} {clk : Nat}

/-- A packet as an end makes it. -/
structure Made (e : E) (kind number : Int) (body : ByteArray) (s : Seg) : Prop where
  kind_ : s.kind = kind
  conn : s.conn = e.conn
  seq : s.seq = number % 65536
  ack : s.ack = e.base
  win0 : 0 ≤ s.window
  win1 : s.window ≤ e.room
  marks : s.marks.size ≤ 4
  body_ : s.body = body
  time0 : 0 ≤ s.time
  time1 : s.time < 4294967296
  late0 : 0 ≤ s.late
  late1 : s.late < 4294967296

def MadeP (e : E) (kind number : Int) (body : ByteArray) (w : World) (r : Ending) (w' : World) : Prop := ∃ s : Seg, r = .returned s.enc ∧ Made e kind number body s ∧ Below w.heap.size w w'

theorem bcell {W w1 : World} (hb : Below W.heap.size W w1) : (∀ b o, b < W.heap.size → w1.cell? ⟨b, o, none⟩ = W.cell? ⟨b, o, none⟩) ∧ (∀ b o, b < W.heap.size → w1.frozen? ⟨b, o, none⟩ = W.frozen? ⟨b, o, none⟩) :=
  ⟨fun b o h => hb.cell (p := ⟨b, o, none⟩) h, fun b o h => hb.frozen (p := ⟨b, o, none⟩) h⟩

def seg0 : Array Value := #[vi 0, vi 0, vi 0, vi 0, vi 0, .string { data := #[] }, .string { data := #[] }, vi 0, vi 0]
/-- The packet lies in a block of its own, its time and marks still to come. -/
def MadeAt (e : E) (kind number : Int) (body : ByteArray) (w : World) (v : Value) (W : World) : Prop :=
  ∃ (r : Nat) (n : Int), v = .pointer (some ⟨r, 0, none⟩) ∧ Blk W r #[vi kind, vi e.conn, vi (number % 65536), vi e.base, vi n, .string { data := #[] }, .string body, vi (e.now % 4294967296), vi 0] 70 ∧
    0 ≤ n ∧ n ≤ e.room ∧ Below w.heap.size w W ∧ w.heap.size < r ∧ Blk W w.heap.size seg0 70

theorem Try.info3 : (Try.prog.info? 3).map (fun i => (i.zero, i.size, i.bytes)) = some (some (.int .i64 0), 1, 8) := by kernel_rfl

theorem made_results (W : World) (r : Nat) {s : Seg} (h : Blk W r #[vi s.kind, vi s.conn, vi s.seq, vi s.ack, vi s.window, .string s.marks, .string s.body, vi s.time, vi s.late] 70) (tmps : Array Value)
    (h8 : tmps[8]?.getD undef = .pointer (some ⟨r, 0, none⟩)) : (results Try.f38 tmps).run Try.prog W = .ok s.enc W := by
  have z0 := h.cell 0 rfl
  have z1 := h.cell 1 rfl
  have z2 := h.cell 2 rfl
  have z3 := h.cell 3 rfl
  have z4 := h.cell 4 rfl
  have z5 := h.cell 5 rfl
  have z6 := h.cell 6 rfl
  have z7 := h.cell 7 rfl
  have z8 := h.cell 8 rfl
  simp only [results, Try.f38]
  simp [go_sem, h8, z0, z1, z2, z3, z4, z5, z6, z7, z8, Seg.enc]

/-- The round of the loop over what was kept: how far the numbers are that were met. -/
def FarAt (w : World) (it r2 : Nat) (e : E) (ks : List Ke) (clk : Nat) (cs : Array Value) (v : Value) (W : World) : Prop :=
  ∃ (l : List Int) (seen : Array Nat), Sl W v 3 1 l.length (l.map vi) ∧ (∀ x ∈ l, 0 ≤ x ∧ x ≤ 32) ∧ MapIt W it e.mb (ks.map Ke.enc).toArray clk seen ∧ Below w.heap.size w W ∧ Blk W r2 cs 70 ∧ Blk W w.heap.size seg0 70 ∧
    (∀ x ∈ slB v, it < x) ∧ l.length + mapLeft W it ≤ ks.length

/-- The packet lies in a block of its own, its marks still to come. -/
def MadeAt2 (e : E) (kind number : Int) (body : ByteArray) (w : World) (v : Value) (W : World) : Prop :=
  ∃ (r : Nat) (n t : Int), v = .pointer (some ⟨r, 0, none⟩) ∧ Blk W r #[vi kind, vi e.conn, vi (number % 65536), vi e.base, vi n, .string { data := #[] }, .string body, vi (e.now % 4294967296), vi t] 70 ∧
    0 ≤ n ∧ n ≤ e.room ∧ 0 ≤ t ∧ t < 4294967296 ∧ Below w.heap.size w W ∧ w.heap.size < r ∧ Blk W w.heap.size seg0 70

theorem late_in (x : Int) : 0 ≤ (wrap64 (x.tmod 4294967296 + 4294967296)).tmod 4294967296 ∧ (wrap64 (x.tmod 4294967296 + 4294967296)).tmod 4294967296 < 4294967296 := by
  have h1 := Int.tmod_lt_of_pos x (b := 4294967296) (by decide)
  have h2 := Int.lt_tmod_of_pos x (b := 4294967296) (by decide)
  rw [show wrap64 (x.tmod 4294967296 + 4294967296) = x.tmod 4294967296 + 4294967296 from by unfold wrap64; omega, Int.tmod_eq_emod_of_nonneg (by omega)]
  omega

theorem seq_eq {number : Int} (h0 : 0 ≤ number) : (IntKind.i64.wrap (number.tmod 65536 + 65536)).tmod 65536 = number % 65536 := by
  have h1 := Int.emod_lt_of_pos number (b := 65536) (by omega)
  have h2 := Int.emod_nonneg number (b := 65536) (by omega)
  rw [Int.tmod_eq_emod_of_nonneg h0, IntWalk.i64_in _ (by omega), Int.tmod_eq_emod_of_nonneg (by omega)]
  omega

set_option maxHeartbeats 1600000 in
set_option maxRecDepth 100000 in
theorem made_calls (w : World) (kind number : Int) (body : ByteArray) (h : EndIs w b e ws fs ks clk) (hr : 0 ≤ e.room) (hr' : e.room ≤ 1000000) (hd : e.ready.size ≤ 1000000) (hk : ∀ k ∈ ks, k.seg.body.size ≤ 1400) (hkl : ks.length ≤ 100000)
    (hn : 0 ≤ number) (hnow : 0 ≤ e.now) (hnow' : e.now ≤ 1000000000) (hlate : 0 ≤ e.late) (hlate' : e.late < 4294967296) (hb0 : 0 ≤ e.base) (hb1 : e.base < 65536)
    (hks : ∀ k ∈ ks, 0 ≤ k.key ∧ k.key < 65536 ∧ 2 ≤ (k.key - e.base) % 65536 ∧ (k.key - e.base) % 65536 ≤ 34) :
    Calls Try.prog 38 #[.pointer (some ⟨b, 0, none⟩), vi kind, vi number, .string body] w (MadeP e kind number body w) := by
  have c1 := ce_conn h.blk
  have c2 := ce_base h.blk
  have c3 := ce_now h.blk
  have hbl := h.blk.lt
  have hmix : Try.prog.follows .mixedOrders = true := by kernel_rfl
  go_enter Try.func38, Try.ntmps38
  go_wp2
  go_cut [9] (MadeAt e kind number body w)
  case rest =>
    obtain ⟨r, n, rfl, hZ, hw0, hw1, hbl2, hrl, hZ0⟩ := hcut
    have hE : EndIs wc b e ws fs ks clk := h.chg (Chg.of_below (S := fun _ => False) hbl2) (fun _ _ hh => hh)
    have c1 := ce_some_ hE.blk
    have c2 := ce_late hE.blk
    have c3 := ce_now hE.blk
    have zf := hZ.frozen
    have z8 := hZ.cell 8 rfl
    go_upto_if 39 with (fail)
    go_cut [9] (MadeAt2 e kind number body w)
    case first =>
      cases hs : e.some_ <;> rw [hs] at c1
      · go_wp2
        go_meet
        case rel => exact ⟨r, n, 0, rfl, hZ, hw0, hw1, by omega, by omega, hbl2, hrl, hZ0⟩
      · go_wp2
        go_region
        all_goals go_wp2
        all_goals go_meet
        all_goals
          obtain ⟨q0, q1⟩ := late_in (e.now - e.late)
          exact ⟨r, n, _, rfl, (hZ.set 8 _).drew, hw0, hw1, q0, q1, (hbl2.setCell (p := ⟨r, 8, none⟩) (by simp; omega) _).drew, hrl, (hZ0.other (c := r) (by omega) 8 _).drew⟩
    case rest =>
      clear hbl2 hrl hZ0 hE c1 c2 c3 zf z8 hZ hw0 hw1 n
      obtain ⟨r2, n, t, rfl, hZ, hw0, hw1, ht0, ht1, hbl2, hrl, hZ0⟩ := hcut
      have hE : EndIs wc b e ws fs ks clk := h.chg (Chg.of_below (S := fun _ => False) hbl2) (fun _ _ hh => hh)
      have c3 := ce_mb hE.blk
      have c2 := ce_base hE.blk
      have hrg := run_range_m (P := Try.prog) Try.underlying55 hE.map
      have hM0 : MapIt (wc.alloc (.mapIter (some e.mb) clk #[] clk)) wc.heap.size e.mb (ks.map Ke.enc).toArray clk #[] := MapIt.start hE.map (fun x hx => by obtain ⟨k, hk, rfl⟩ := ke_mem hx; exact h.born k hk)
      have hsz : ((ks.map Ke.enc).toArray).size = ks.length := by simp
      have hml0 := mapLeft_le hM0
      have hlt2 := hZ.lt
      have hszw := hbl2.size
      obtain ⟨i0, hi, hz0, hz1, hz2⟩ := info_parts Try.info3
      rw [hsz] at hml0
      go_wp2
      go_loopw [10] (fun v wr => FarAt w wc.heap.size r2 e ks clk #[vi kind, vi e.conn, vi (number % 65536), vi e.base, vi n, .string { data := #[] }, .string body, vi (e.now % 4294967296), vi t] v wr) (fun _ wr => mapLeft wr wc.heap.size)
      case atStart => exact ⟨[], _, Sl.nil _ _ _, (by simp), hM0, hbl2.alloc hszw _, hZ.alloc _, hZ0.alloc _, (by simp [slB]), by simpa using hml0⟩
      case round =>
        obtain ⟨l, seen, hS, hl, hM, hbl, hZr, hZ0r, hsl, hcnt⟩ := hrel
        have hEr : EndIs wr b e ws fs ks clk := h.chg (Chg.of_below (S := fun _ => False) hbl) (fun _ _ hh => hh)
        have c2 := ce_base hEr.blk
        obtain ⟨a, cap, rfl, hcap, hmax⟩ := hS.form
        go_wp2_with (at_next; refine wpList_next_map rfl _ rfl wc.heap.size e.mb _ clk _ rfl hM ?_ ?_)
        · intro h0
          have hmk := marked_calls wr (.slice a l.length cap) l hS (by omega) hl
          clear c2 hM hmk hks
          go_wp2_with (first | (go_at_call 31; refine (marked_calls wr (.slice a l.length cap) l hS (by omega) hl).mono ?_; rintro q w1 ⟨m, rfl, hm4, hbm⟩; have hZ3 := hZr.below hbm hZr.lt; have hZ4 := hZ0r.below hbm hZ0r.lt; have z0 := hZ3.cell 0 rfl; have z1 := hZ3.cell 1 rfl; have z2 := hZ3.cell 2 rfl; have z3 := hZ3.cell 3 rfl; have z4 := hZ3.cell 4 rfl; have z5 := hZ3.cell 5 rfl; have z6 := hZ3.cell 6 rfl; have z7 := hZ3.cell 7 rfl; have z8 := hZ3.cell 8 rfl; have zf := hZ3.frozen; have y0 := hZ4.cell 0 rfl; have y1 := hZ4.cell 1 rfl; have y2 := hZ4.cell 2 rfl; have y3 := hZ4.cell 3 rfl; have y4 := hZ4.cell 4 rfl; have y5 := hZ4.cell 5 rfl; have y6 := hZ4.cell 6 rfl; have y7 := hZ4.cell 7 rfl; have y8 := hZ4.cell 8 rfl; have yf := hZ4.frozen; have hB1 := hbl.trans (hbm.mono hbl.size)))
          have hne : w.heap.size ≠ r2 := by omega
          have k1 := ((((((((((hZ4.other hne 5 (.string m)).set 0 (vi kind)).set 1 (vi e.conn)).set 2 (vi (number % 65536))).set 3 (vi e.base)).set 4 (vi n)).set 5 (.string m)).set 6 (.string body)).set 7 (vi (e.now % 4294967296))).set 8 (vi t))
          simp only [seg0, List.setIfInBounds_toArray, List.set_cons_zero, List.set_cons_succ] at k1
          have k2 := ((((((((((hB1.setCell (p := ⟨r2, 5, none⟩) (Nat.le_of_lt hrl) (.string m)).setCell (p := ⟨w.heap.size, 0, none⟩) (Nat.le_refl _) (vi kind)).setCell (p := ⟨w.heap.size, 1, none⟩) (Nat.le_refl _) (vi e.conn)).setCell (p := ⟨w.heap.size, 2, none⟩) (Nat.le_refl _) (vi (number % 65536))).setCell (p := ⟨w.heap.size, 3, none⟩) (Nat.le_refl _) (vi e.base)).setCell (p := ⟨w.heap.size, 4, none⟩) (Nat.le_refl _) (vi n)).setCell (p := ⟨w.heap.size, 5, none⟩) (Nat.le_refl _) (.string m)).setCell (p := ⟨w.heap.size, 6, none⟩) (Nat.le_refl _) (.string body)).setCell (p := ⟨w.heap.size, 7, none⟩) (Nat.le_refl _) (vi (e.now % 4294967296))).setCell (p := ⟨w.heap.size, 8, none⟩) (Nat.le_refl _) (vi t))
          exact bodyPost_ret (made_results _ _ (s := ⟨kind, e.conn, number % 65536, e.base, n, m, body, e.now % 4294967296, t⟩) k1 _ rfl) rfl ⟨_, rfl, ⟨rfl, rfl, rfl, rfl, hw0, hw1, hm4, rfl, by simp only; omega, by simp only; omega, ht0, ht1⟩, k2⟩
        · intro k hkm k' hkm' seen' w1 hM1 hless hc1 hs1 hen
          obtain ⟨y0, y1, y2, y3⟩ := hks k' hkm'
          simp only [Ke.enc, Seg.enc] at hen ⊢
          have hbit : b ≠ wc.heap.size := by omega
          have d2 := ce_base (hEr.blk.chg hc1 hbit)
          have hS1 : Sl w1 (.slice a l.length cap) 3 1 l.length (l.map vi) := Sl.chg hS hc1 (fun x hx hh => by have := hsl x hx; omega)
          have hll : l.length ≤ 100000 := by omega
          have hs1' := Nat.le_of_eq hs1.symm
          have hs1'' := Nat.le_of_eq hs1
          clear c2 hs1
          go_wp2_with (first | (go_at_call 30; refine (ahead_calls _ _ _ (by omega) (by omega) (by omega) (by omega)).mono ?_; rintro r w' ⟨rfl, rfl⟩) | (at_builtin; refine wpList_append_sl _ rfl _ _ 36 rfl 3 i0 (.int .i64 0) 1 8 Try.underlying36 hi hz0 hz1 hz2 rfl (.slice a l.length cap) l.length (l.map vi) rfl (hS1.alloc _) ⟨w1.heap.size, 0, none⟩ 1 1 [vi ((k'.key - e.base) % 65536 - 2)] rfl rfl (by exact one_new (cell_last rfl)) (by intro u hu; simp at hu; subst hu; rfl) (by decide) (by simp [maxLen]; omega) (by omega) ?_))
          intro v' w2 hs2 hc2 hb2
          have hmb := hEr.lt e.mb (foot_iff.2 (.inr (.inl rfl)))
          have hmbw := h.lt e.mb (foot_iff.2 (.inr (.inl rfl)))
          have hin : ∀ x, x ≤ wc.heap.size → x ∉ slB (Value.slice a l.length cap) := fun x hx hh => by have := hsl x hh; omega
          have hc12 : Chg (· ∈ slB (Value.slice a l.length cap)) w1 w2 := ((Chg.refl _ _).alloc _).comp hc2
          have hM2 := hM1.chg hc12 (hin _ (Nat.le_refl _)) (hin _ (by omega))
          have hml2 := mapLeft_chg hM1 hc12 (hin _ (Nat.le_refl _)) (hin _ (by omega))
          have hbl3 : Below w.heap.size w w2 := by
            have q1 := Below.compChg hbl hc1 (by omega) hbl.size
            exact q1.trans (hc12.below q1.size (fun i hi => by have := hsl i hi; omega))
          have hZ2 := ((hZr.chg hc1 (by omega)).chg hc12 (hin _ (by omega)))
          have hZ02 := ((hZ0r.chg hc1 (by omega)).chg hc12 (hin _ (by omega)))
          have hw1s : wc.heap.size < w1.heap.size := (Array.getElem?_eq_some_iff.1 hM1.it).1
          obtain ⟨a2, cap2, rfl, _, _⟩ := hs2.form
          go_wp2
          go_roundw
          case rel =>
            refine ⟨l ++ [(k'.key - e.base) % 65536 - 2], seen', by simpa using hs2, ?_, hM2, hbl3, hZ2, hZ02, ?_, ?_⟩
            · intro x hx
              rcases List.mem_append.1 hx with hx | hx
              · exact hl x hx
              · simp at hx; omega
            · intro x hx
              rcases hb2 x hx with hx | hx
              · exact hsl x hx
              · omega
            · rw [hml2]; simp; omega
          case measure => rw [hml2]; exact hless
  case first =>
  refine region_anyC (C := fun W => Blk W b e.enc 61) hmix ?_
  have hC := fun o => (h.blk.alloc o).drew
  clear c1 c2 c3 hmix
  refine anyC_take (i := 0) rfl (hC _) (by kernel_rfl) (by kernel_rfl) (by kernel_rfl) (fun _ _ _ h => h) rfl (fun W hW => by have d1 := ce_conn hW; have d2 := ce_base hW; have d3 := ce_now hW; go_simp; with_reducible rfl) ?_
  go_simp
  refine anyC_take (i := 1) rfl (hC _) (by kernel_rfl) (by kernel_rfl) (by kernel_rfl) (fun _ _ _ h => h) rfl (fun W hW => by have d1 := ce_conn hW; have d2 := ce_base hW; have d3 := ce_now hW; go_simp; with_reducible rfl) ?_
  go_simp
  refine anyC_take (i := 2) rfl (hC _) (by kernel_rfl) (by kernel_rfl) (by kernel_rfl) (fun _ _ _ h => h) rfl (fun W hW => by have d1 := ce_conn hW; have d2 := ce_base hW; have d3 := ce_now hW; go_simp; with_reducible rfl) ?_
  go_simp
  refine anyC_take (i := 3) rfl (hC _) (by kernel_rfl) (by kernel_rfl) (by kernel_rfl) (fun _ _ _ h => h) rfl (fun W hW => by have d1 := ce_conn hW; have d2 := ce_base hW; have d3 := ce_now hW; go_simp; with_reducible rfl) ?_
  go_simp
  refine anyC_take (i := 4) rfl (hC _) (by kernel_rfl) (by kernel_rfl) (by kernel_rfl) (fun _ _ _ h => h) rfl (fun W hW => by have d1 := ce_conn hW; have d2 := ce_base hW; have d3 := ce_now hW; go_simp; with_reducible rfl) ?_
  go_simp
  refine anyC_take (i := 5) rfl (hC _) (by kernel_rfl) (by kernel_rfl) (by kernel_rfl) (fun _ _ _ h => h) rfl (fun W hW => by have d1 := ce_conn hW; have d2 := ce_base hW; have d3 := ce_now hW; go_simp; with_reducible rfl) ?_
  go_simp
  refine anyC_take (i := 6) rfl (hC _) (by kernel_rfl) (by kernel_rfl) (by kernel_rfl) (fun _ _ _ h => h) rfl (fun W hW => by have d1 := ce_conn hW; have d2 := ce_base hW; have d3 := ce_now hW; go_simp; with_reducible rfl) ?_
  go_simp
  refine anyC_take (i := 7) rfl (hC _) (by kernel_rfl) (by kernel_rfl) (by kernel_rfl) (fun _ _ _ h => h) rfl (fun W hW => by have d1 := ce_conn hW; have d2 := ce_base hW; have d3 := ce_now hW; go_simp; with_reducible rfl) ?_
  go_simp
  refine anyC_take (i := 8) rfl (hC _) (by kernel_rfl) (by kernel_rfl) (by kernel_rfl) (fun _ _ _ h => h) rfl (fun W hW => by have d1 := ce_conn hW; have d2 := ce_base hW; have d3 := ce_now hW; go_simp; with_reducible rfl) ?_
  go_simp
  refine anyC_take (i := 9) rfl (hC _) (by kernel_rfl) (by kernel_rfl) (by kernel_rfl) (fun _ _ _ h => h) rfl (fun W hW => by have d1 := ce_conn hW; have d2 := ce_base hW; have d3 := ce_now hW; go_simp; with_reducible rfl) ?_
  go_simp
  refine anyC_take (i := 10) rfl (hC _) (by kernel_rfl) (by kernel_rfl) (by kernel_rfl) (fun _ _ _ h => h) rfl (fun W hW => by have d1 := ce_conn hW; have d2 := ce_base hW; have d3 := ce_now hW; go_simp; with_reducible rfl) ?_
  go_simp
  refine anyC_take (i := 11) rfl (hC _) (by kernel_rfl) (by kernel_rfl) (by kernel_rfl) (fun _ _ _ h => h) rfl (fun W hW => by have d1 := ce_conn hW; have d2 := ce_base hW; have d3 := ce_now hW; go_simp; with_reducible rfl) ?_
  go_simp
  refine anyC_take (i := 12) rfl (hC _) (by kernel_rfl) (by kernel_rfl) (by kernel_rfl) (fun _ _ _ h => h) rfl (fun W hW => by have d1 := ce_conn hW; have d2 := ce_base hW; have d3 := ce_now hW; go_simp; with_reducible rfl) ?_
  go_simp
  refine anyC_take (i := 13) rfl (hC _) (by kernel_rfl) (by kernel_rfl) (by kernel_rfl) (fun _ _ _ h => h) rfl (fun W hW => by have d1 := ce_conn hW; have d2 := ce_base hW; have d3 := ce_now hW; go_simp; with_reducible rfl) ?_
  go_simp
  refine anyC_take (i := 14) rfl (hC _) (by kernel_rfl) (by kernel_rfl) (by kernel_rfl) (fun _ _ _ h => h) rfl (fun W hW => by have d1 := ce_conn hW; have d2 := ce_base hW; have d3 := ce_now hW; go_simp; with_reducible rfl) ?_
  go_simp
  refine anyC_take (i := 16) rfl (hC _) (by kernel_rfl) (by kernel_rfl) (by kernel_rfl) (fun _ _ _ h => h) rfl (fun W hW => by have d1 := ce_conn hW; have d2 := ce_base hW; have d3 := ce_now hW; go_simp; with_reducible rfl) ?_
  go_simp
  refine anyC_take (i := 17) rfl (hC _) (by kernel_rfl) (by kernel_rfl) (by kernel_rfl) (fun _ _ _ h => h) rfl (fun W hW => by have d1 := ce_conn hW; have d2 := ce_base hW; have d3 := ce_now hW; go_simp; with_reducible rfl) ?_
  go_simp
  refine anyC_take (i := 18) rfl (hC _) (by kernel_rfl) (by kernel_rfl) (by kernel_rfl) (fun _ _ _ h => h) rfl (fun W hW => by have d1 := ce_conn hW; have d2 := ce_base hW; have d3 := ce_now hW; go_simp; with_reducible rfl) ?_
  go_simp
  refine anyC_take (i := 19) rfl (hC _) (by kernel_rfl) (by kernel_rfl) (by kernel_rfl) (fun _ _ _ h => h) rfl (fun W hW => by have d1 := ce_conn hW; have d2 := ce_base hW; have d3 := ce_now hW; go_simp; with_reducible rfl) ?_
  go_simp
  refine anyC_take (i := 20) rfl (hC _) (by kernel_rfl) (by kernel_rfl) (by kernel_rfl) (fun _ _ _ h => h) rfl (fun W hW => by have d1 := ce_conn hW; have d2 := ce_base hW; have d3 := ce_now hW; go_simp; with_reducible rfl) ?_
  go_simp
  refine anyC_take (i := 21) rfl (hC _) (by kernel_rfl) (by kernel_rfl) (by kernel_rfl) (fun _ _ _ h => h) rfl (fun W hW => by have d1 := ce_conn hW; have d2 := ce_base hW; have d3 := ce_now hW; go_simp; with_reducible rfl) ?_
  go_simp
  refine anyC_all (rs := [15, 23]) (by kernel_rfl) (by decide) ?_
  intro i hi
  rcases List.mem_cons.1 hi with rfl | hi
  · clear hi
    refine opC rfl rfl ?_
    go_simp
    refine (space_calls _ ((h.alloc _).drew) hr hr' hd hk hkl).mono ?_
    rintro r w1 ⟨n, rfl, hw0, hw1, hbw⟩
    have hC1 : Blk w1 b e.enc 61 := (hC _).below hbw (hC _).lt
    refine ⟨hC1, ?_⟩
    go_simp
    refine anyC_take (i := 22) rfl hC1 (by kernel_rfl) (by kernel_rfl) (by kernel_rfl) (fun _ _ _ h => h) rfl (fun W hW => by go_simp; with_reducible rfl) ?_
    go_simp
    refine anyC_all (rs := [23]) (by kernel_rfl) (by decide) ?_
    intro i hi
    obtain rfl : i = 23 := by simpa using hi
    clear hi
    refine opC rfl rfl ?_
    go_simp
    refine ⟨hC1.alloc _, ?_⟩
    refine anyC_all (rs := [24]) (by kernel_rfl) (by decide) ?_
    intro i hi
    obtain rfl : i = 24 := by simpa using hi
    clear hi
    refine opC rfl rfl ?_
    go_simp
    refine ⟨hC1.alloc _, anyC_done (by kernel_rfl) ?_ _⟩
    go_wp2_with (fail)
    go_meet
    case rel =>
      have hs : (w.alloc (.cells seg0 70)).drew.heap.size = w.heap.size + 1 := by simp
      have hbw' : Below (w.heap.size + 1) (w.alloc (.cells seg0 70)).drew w1 := hs ▸ hbw
      have h0 : Blk w1 w.heap.size seg0 70 := Blk.below (w := (w.alloc (.cells seg0 70)).drew) (Blk.new w seg0 70).drew hbw' (by omega)
      have hb2 : Below w.heap.size w w1 := ((Below.refl _ w).alloc (Nat.le_refl _) (.cells seg0 70)).drew.trans (hbw'.mono (by omega))
      rw [seq_eq hn, Int.tmod_eq_emod_of_nonneg hnow]
      exact ⟨w1.heap.size, n, rfl, Blk.new w1 _ 70, hw0, hw1, hb2.alloc hb2.size _, h0.lt, h0.alloc _⟩
  · obtain rfl : i = 23 := by simpa using hi
    clear hi
    refine opC rfl rfl ?_
    go_simp
    refine ⟨(hC _).alloc _, ?_⟩
    refine anyC_all (rs := [15]) (by kernel_rfl) (by decide) ?_
    intro i hi
    obtain rfl : i = 15 := by simpa using hi
    clear hi
    refine opC rfl rfl ?_
    go_simp
    refine (space_calls _ (((h.alloc _).alloc _).drew) hr hr' hd hk hkl).mono ?_
    rintro r w1 ⟨n, rfl, hw0, hw1, hbw⟩
    have hC1 : Blk w1 b e.enc 61 := Blk.below (((h.blk.alloc _).alloc _).drew) hbw (((h.blk.alloc _).alloc _).drew).lt
    refine ⟨hC1, ?_⟩
    go_simp
    refine anyC_take (i := 22) rfl hC1 (by kernel_rfl) (by kernel_rfl) (by kernel_rfl) (fun _ _ _ h => h) rfl (fun W hW => by go_simp; with_reducible rfl) ?_
    go_simp
    have hz : Blk w1 (w.heap.size + 1) seg0 70 := Blk.below (by have := Blk.new (w.alloc (.cells seg0 70)) seg0 70; rw [World.size_alloc] at this; exact this.drew) hbw (by simp)
    have z0 := hz.cell 0 rfl
    have z1 := hz.cell 1 rfl
    have z2 := hz.cell 2 rfl
    have z3 := hz.cell 3 rfl
    have z4 := hz.cell 4 rfl
    have z5 := hz.cell 5 rfl
    have z6 := hz.cell 6 rfl
    have z7 := hz.cell 7 rfl
    have z8 := hz.cell 8 rfl
    have zf := hz.frozen
    refine anyC_all (rs := [24]) (by kernel_rfl) (by decide) ?_
    intro i hi
    obtain rfl : i = 24 := by simpa using hi
    clear hi
    refine opC rfl rfl ?_
    go_simp
    have hbn : b ≠ w.heap.size + 1 := by omega
    refine ⟨((((((((hC1.other hbn _ _).other hbn _ _).other hbn _ _).other hbn _ _).other hbn _ _).other hbn _ _).other hbn _ _).other hbn _ _).other hbn _ _, anyC_done (by kernel_rfl) ?_ _⟩
    go_wp2_with (fail)
    go_meet
    case rel =>
      have hs : ((w.alloc (.cells seg0 70)).alloc (.cells seg0 70)).drew.heap.size = w.heap.size + 1 + 1 := by simp
      have hbw' : Below (w.heap.size + 1 + 1) ((w.alloc (.cells seg0 70)).alloc (.cells seg0 70)).drew w1 := hs ▸ hbw
      have h0 : Blk w1 w.heap.size seg0 70 := Blk.below (w := ((w.alloc (.cells seg0 70)).alloc (.cells seg0 70)).drew) ((Blk.new w seg0 70).alloc (.cells seg0 70)).drew hbw' (by omega)
      have hb2 : Below w.heap.size w w1 := (((Below.refl _ w).alloc (Nat.le_refl _) (.cells seg0 70)).alloc (by simp) (.cells seg0 70)).drew.trans (hbw'.mono (by omega))
      rw [seq_eq hn, Int.tmod_eq_emod_of_nonneg hnow]
      have hn1 : w.heap.size ≠ w.heap.size + 1 := by omega
      have k1 := (((((((((hz.set 0 (vi kind)).set 1 (vi e.conn)).set 2 (vi (number % 65536))).set 3 (vi e.base)).set 4 (vi n)).set 5 (.string { data := #[] })).set 6 (.string body)).set 7 (vi (e.now % 4294967296))).set 8 (vi 0))
      simp only [seg0, List.setIfInBounds_toArray, List.set_cons_zero, List.set_cons_succ] at k1
      have k2 := (((((((((hb2.setCell (p := ⟨w.heap.size + 1, 0, none⟩) (by simp) (vi kind)).setCell (p := ⟨w.heap.size + 1, 1, none⟩) (by simp) (vi e.conn)).setCell (p := ⟨w.heap.size + 1, 2, none⟩) (by simp) (vi (number % 65536))).setCell (p := ⟨w.heap.size + 1, 3, none⟩) (by simp) (vi e.base)).setCell (p := ⟨w.heap.size + 1, 4, none⟩) (by simp) (vi n)).setCell (p := ⟨w.heap.size + 1, 5, none⟩) (by simp) (.string { data := #[] })).setCell (p := ⟨w.heap.size + 1, 6, none⟩) (by simp) (.string body)).setCell (p := ⟨w.heap.size + 1, 7, none⟩) (by simp) (vi (e.now % 4294967296))).setCell (p := ⟨w.heap.size + 1, 8, none⟩) (by simp) (vi 0))
      have k3 := (((((((((h0.other hn1 0 (vi kind)).other hn1 1 (vi e.conn)).other hn1 2 (vi (number % 65536))).other hn1 3 (vi e.base)).other hn1 4 (vi n)).other hn1 5 (.string { data := #[] })).other hn1 6 (.string body)).other hn1 7 (vi (e.now % 4294967296))).other hn1 8 (vi 0))
      exact ⟨w.heap.size + 1, n, rfl, k1, hw0, hw1, k2, Nat.lt_succ_self _, k3⟩
end Go.Proofs.Ytglbfgpdmlkamaa
