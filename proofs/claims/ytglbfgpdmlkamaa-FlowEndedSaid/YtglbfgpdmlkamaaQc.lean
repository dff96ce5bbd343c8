/-
  The walk of send.
-/
import Derived.Test.YtglbfgpdmlkamaaPair
import Derived.Test.YtglbfgpdmlkamaaRgp
namespace Go.Proofs.Ytglbfgpdmlkamaa
open Go.RowKit Go.Flw

variable {w0 : World} {pb bA bB : Nat} {vA vB : Value} {A B : Side} {now at_ : Int}

/-- What an end must be to send. -/
structure SendOk (e : E) (ws fs : List Pk) (ks : List Ke) (now limit : Int) : Prop where
  good : Good { e with now := now } ks ws fs
  le : e.now ≤ now
  n9 : now ≤ 1000000000
  out : e.out = 1000
  outs0 : 0 ≤ e.outs
  outs1 : e.state = 5 ∨ e.outs ≤ 5
  res : ∀ e' ws' fs' ss, SendP e ws fs now e' ws' fs' ss → (∀ s ∈ ss, SegOk s) ∧ (flyN fs' ≤ 1 ∨ (flyB fs' : Int) ≤ limit) ∧ fs'.length ≤ 100000 ∧ (∀ p ∈ fs', p.body.size ≤ 1400) ∧ ss.length ≤ 100000

def Sent0 (w0 : World) (pb bA bB : Nat) (vB : Value) (A B : Side) (now at_ : Int) (r : Ending) (w' : World) : Prop :=
  r = .returned (.bool true) ∧ ∃ e' ws' fs' ss v', SendP A.e A.ws A.fs now e' ws' fs' ss ∧ PairAt w0 w' pb bA bB v' vB { A with e := e', ws := ws', fs := fs', way := A.way ++ ss } B now (at_ + ss.length)

set_option maxHeartbeats 3200000 in
set_option maxRecDepth 100000 in
theorem send0_calls (w : World) (limit : Int) (p : PairAt w0 w pb bA bB vA vB A B now at_) (g : SendOk A.e A.ws A.fs A.ks now limit) (h0 : 0 ≤ at_) (h1 : at_ ≤ 100000000) (hwl : A.way.length ≤ 100000000) :
    Calls Try.prog 10 #[.pointer (some ⟨pb, 0, none⟩), vi 0, vi limit] w (Sent0 w0 pb bA bB vB A B now at_) := by
  have hmix : Try.prog.follows .mixedOrders = true := by kernel_rfl
  have hpf : pb ∉ A.foot bA := fun hh => (p.d1 _ hh).1 rfl
  go_enter Try.func10, Try.ntmps10
  go_upto_region 1 with (fail)
  have hrd : ∀ W', Blk W' pb (pairCells bA bB vA vB A B now at_) 38 → W'.cell? ⟨pb, 0, none⟩ = some (.pointer (some ⟨bA, 0, none⟩)) ∧ W'.cell? ⟨pb, 8, none⟩ = some (vi now) := fun W' h => ⟨h.cell 0 rfl, h.cell 8 rfl⟩
  have hC0 := p.blk.drew
  refine region_anyN (fun _ => true) (fun W' => Blk W' pb (pairCells bA bB vA vB A B now at_) 38) hmix ?_
  refine anyL_take (i := 0) rfl hC0 (by kernel_rfl) (by kernel_rfl) (by kernel_rfl) (by kernel_rfl) (fun _ _ _ h => nomatch h.1) rfl (fun W' hW' => by obtain ⟨x0, x1⟩ := hrd W' hW'; go_simp; with_reducible rfl) ?_
  go_simp
  refine anyL_take (i := 1) rfl hC0 (by kernel_rfl) (by kernel_rfl) (by kernel_rfl) (by kernel_rfl) (fun _ _ _ h => nomatch h.1) rfl (fun W' hW' => by obtain ⟨x0, x1⟩ := hrd W' hW'; go_simp; with_reducible rfl) ?_
  go_simp
  refine anyL_take (i := 2) rfl hC0 (by kernel_rfl) (by kernel_rfl) (by kernel_rfl) (by kernel_rfl) (fun _ _ _ h => nomatch h.1) rfl (fun W' hW' => by obtain ⟨x0, x1⟩ := hrd W' hW'; go_simp; with_reducible rfl) ?_
  go_simp
  refine anyL_take (i := 3) rfl hC0 (by kernel_rfl) (by kernel_rfl) (by kernel_rfl) (by kernel_rfl) (fun _ _ _ h => nomatch h.1) rfl (fun W' hW' => by obtain ⟨x0, x1⟩ := hrd W' hW'; go_simp; with_reducible rfl) ?_
  go_simp
  refine anyL_take (i := 4) rfl hC0 (by kernel_rfl) (by kernel_rfl) (by kernel_rfl) (by kernel_rfl) (fun _ _ _ h => nomatch h.1) rfl (fun W' hW' => by obtain ⟨x0, x1⟩ := hrd W' hW'; go_simp; with_reducible rfl) ?_
  go_simp
  refine anyL_take (i := 5) rfl hC0 (by kernel_rfl) (by kernel_rfl) (by kernel_rfl) (by kernel_rfl) (fun _ _ _ h => nomatch h.1) rfl (fun W' hW' => by obtain ⟨x0, x1⟩ := hrd W' hW'; go_simp; with_reducible rfl) ?_
  go_simp
  refine anyL_take (i := 6) rfl hC0 (by kernel_rfl) (by kernel_rfl) (by kernel_rfl) (by kernel_rfl) (fun _ _ _ h => nomatch h.1) rfl (fun W' hW' => by obtain ⟨x0, x1⟩ := hrd W' hW'; go_simp; with_reducible rfl) ?_
  go_simp
  refine anyL_take (i := 7) rfl hC0 (by kernel_rfl) (by kernel_rfl) (by kernel_rfl) (by kernel_rfl) (fun _ _ _ h => nomatch h.1) rfl (fun W' hW' => by obtain ⟨x0, x1⟩ := hrd W' hW'; go_simp; with_reducible rfl) ?_
  go_simp
  refine anyL_take (i := 8) rfl hC0 (by kernel_rfl) (by kernel_rfl) (by kernel_rfl) (by kernel_rfl) (fun _ _ _ h => nomatch h.1) rfl (fun W' hW' => by obtain ⟨x0, x1⟩ := hrd W' hW'; go_simp; with_reducible rfl) ?_
  go_simp
  refine anyL_take (i := 9) rfl hC0 (by kernel_rfl) (by kernel_rfl) (by kernel_rfl) (by kernel_rfl) (fun _ _ _ h => nomatch h.1) rfl (fun W' hW' => by obtain ⟨x0, x1⟩ := hrd W' hW'; go_simp; with_reducible rfl) ?_
  go_simp
  refine anyL_one (i := 10) (by kernel_rfl) rfl rfl ?_
  go_simp
  refine (Send_calls w.drew now p.ea.drew g.good g.le g.n9 g.out g.outs0 g.outs1).mono ?_
  rintro r w1 ⟨e', ws', fs', ss, v, rfl, hP, hW, hv, hvo⟩
  have hC1 : Blk w1 pb (pairCells bA bB vA vB A B now at_) 38 := hC0.chg hW.chg hpf
  refine ⟨hC1, ?_⟩
  refine anyL_take (i := 11) rfl hC1 (by kernel_rfl) (by kernel_rfl) (by kernel_rfl) (by kernel_rfl) (fun _ _ _ h => nomatch h.1) rfl (fun W' hW' => by obtain ⟨x0, x1⟩ := hrd W' hW'; go_simp; with_reducible rfl) ?_
  go_simp
  refine anyL_take (i := 12) rfl hC1 (by kernel_rfl) (by kernel_rfl) (by kernel_rfl) (by kernel_rfl) (fun _ _ _ h => nomatch h.1) rfl (fun W' hW' => by obtain ⟨x0, x1⟩ := hrd W' hW'; go_simp; with_reducible rfl) ?_
  go_simp
  refine anyL_take (i := 13) rfl hC1 (by kernel_rfl) (by kernel_rfl) (by kernel_rfl) (by kernel_rfl) (fun _ _ _ h => nomatch h.1) rfl (fun W' hW' => by obtain ⟨x0, x1⟩ := hrd W' hW'; go_simp; with_reducible rfl) ?_
  go_simp
  refine anyL_one (i := 14) (by kernel_rfl) rfl rfl ?_
  go_simp
  try refine ⟨hC1, ?_⟩
  refine anyL_one (i := 15) (by kernel_rfl) rfl rfl ?_
  go_simp
  first | (refine anyL_done (by kernel_rfl) ?_ _; refine ⟨rfl, ?_⟩) | (refine ⟨hC1, anyL_done (by kernel_rfl) ?_ _⟩; refine ⟨rfl, ?_⟩)
  have hp1 := (p.below (Below.refl _ w).drew).goA hW
  obtain ⟨hok, hfly, hfl, hfb, hsl⟩ := g.res e' ws' fs' ss hP
  have hvn : ∀ x ∈ slB v, w.heap.size ≤ x ∧ x ∉ Go.Flw.foot bA e' ws' fs' ∧ x < w1.heap.size := fun x hx => ⟨(hvo x hx).1, (hvo x hx).2, Sl.lt hv x hx⟩
  have hun : Calls Try.prog 22 #[.pointer (some ⟨bA, 0, none⟩)] w1 fun r w' => ∃ n b : Int, r = .returned (.tuple #[vi n, vi b]) ∧ (n ≤ 1 ∨ b ≤ limit) ∧ Below w1.heap.size w1 w' := by
    by_cases h5 : e'.state = 5
    · exact (Under_reset w1 hW.is.blk h5).mono fun r w' ⟨h, h2⟩ => ⟨0, 0, h, .inl (by decide), h2 ▸ Below.refl _ _⟩
    · exact (Under_calls w1 hW.is hfl hfb h5).mono fun r w' ⟨h, h2⟩ => ⟨_, _, h, by omega, h2⟩
  have c1 : w1.cell? ⟨pb, 0, none⟩ = some (.pointer (some ⟨bA, 0, none⟩)) := hC1.cell 0 rfl
  clear hC0 hrd hW hvo g
  go_upto_region 5 with (go_at_call 22; refine hun.mono ?_; rintro r w2 ⟨n, nb, rfl, hnb, hb2⟩)
  have hp2 := hp1.below hb2
  have hv2 : SSl w2 v ss := Sl.chg hv (Chg.of_below (S := fun _ => False) hb2) (fun _ _ hh => hh)
  have hsz2 := hb2.size
  clear hp1 hun c1 hC1 hv hb2
  obtain ⟨va, vc, hvf, hvc, hvm⟩ := Sl.form hv2
  unfold maxLen at hvm
  obtain ⟨len, hlen⟩ : ∃ n, Hid (ss.length = n) := ⟨_, rfl⟩
  have hsl2 : len ≤ 100000 := hlen.out ▸ hsl
  rw [hlen.out] at hvf hvc
  subst hvf
  go_cut [45] (fun t W => t = .bool false ∧ W = w2)
  case first =>
    by_cases hnl : limit < nb
    · have hn1 : ¬ 1 < n := by omega
      clear hnb
      go_wp2_with (fail)
      go_meet
      case rel => exact ⟨rfl, rfl⟩
    · clear hnb
      go_wp2_with (fail)
      go_meet
      case rel => exact ⟨rfl, rfl⟩
  case rest =>
    obtain ⟨rfl, rfl⟩ := hcut
    clear hnb
    go_wp2_with (fail)
    go_loopw [48] (fun i wr => ∃ (k : Nat) (v' : Value), i = .int .i64 k ∧ k ≤ len ∧ PairAt w0 wr pb bA bB v' vB { A with e := e', ws := ws', fs := fs', way := A.way ++ ss.take k } B now (at_ + k) ∧ SSl wr (.slice va len vc) ss ∧ (∀ x ∈ slB (.slice va len vc), x ∉ slB v' ∧ x ≠ pb)) (fun i _ => len - (intOf i).toNat)
    case atStart =>
      refine ⟨0, vA, rfl, Nat.zero_le _, by simpa using hp2, hv2, fun x hx => ?_⟩
      obtain ⟨k1, k2, k3⟩ := hvn x hx
      exact ⟨fun hh => by have := p.ltvA x hh; omega, fun hh => by have := p.blk.lt; omega⟩
    case round =>
      obtain ⟨k, v', rfl, hk, hp, hv, hvd⟩ := hrel
      clear hp2 hv2 hvn
      by_cases hlt : k < len
      · obtain ⟨B0, off, cap', hv', hc⟩ := seg_at hv k (by rw [hlen.out]; exact hlt)
        rw [hlen.out] at hv'
        injection hv' with ha hb hcc
        subst ha
        subst hcc
        have hmem := nthS_mem ss k (by rw [hlen.out]; exact hlt)
        have htk : ss.take (k + 1) = ss.take k ++ [nthS ss k] := by rw [nthS_eq ss k (by rw [hlen.out]; exact hlt)]; exact List.take_succ_eq_append_getElem _
        obtain ⟨s, hs⟩ : ∃ s, s = nthS ss k := ⟨_, rfl⟩
        rw [← hs] at hc hmem htk
        have hoks := hok s hmem
        have c0 := hc 0 _ rfl
        rw [Nat.add_zero] at c0
        have c1 := hc 1 _ rfl
        have c2 := hc 2 _ rfl
        have c3 := hc 3 _ rfl
        have c4 := hc 4 _ rfl
        have c5 := hc 5 _ rfl
        have c6 := hc 6 _ rfl
        have c7 := hc 7 _ rfl
        have c8 := hc 8 _ rfl
        clear hs hc hb hmem hok
        go_upto_region 10 with (fail)
        have hpS := hp.below ((Below.refl _ wr).alloc (Nat.le_refl _) (.cells #[vi s.kind, vi s.conn, vi s.seq, vi s.ack, vi s.window, .string s.marks, .string s.body, vi s.time, vi s.late] 70))
        have hS := Blk.new wr #[vi s.kind, vi s.conn, vi s.seq, vi s.ack, vi s.window, .string s.marks, .string s.body, vi s.time, vi s.late] 70
        have hpl := hp.blk.lt
        have hvS : SSl (wr.alloc (.cells #[vi s.kind, vi s.conn, vi s.seq, vi s.ack, vi s.window, .string s.marks, .string s.body, vi s.time, vi s.late] 70)) (.slice (some ⟨B0, off, none⟩) len vc) ss := Sl.alloc hv _
        have hxv : ∀ x ∈ slB v', x < wr.heap.size := hp.ltvA
        have hxs : ∀ x ∈ slB (.slice (some ⟨B0, off, none⟩) len vc), x < wr.heap.size := Sl.lt hv
        have hwl2 : (((A.way ++ ss.take k).length : Nat) : Int) ≤ 200000000 := by rw [List.length_append, List.length_take]; omega
        obtain ⟨x12, hx12⟩ : ∃ x, x = wr.heap.size := ⟨_, rfl⟩
        rw [← hx12] at hS hpl hxv hxs ⊢
        clear c0 c1 c2 c3 c4 c5 c6 c7 c8 hp hv
        generalize wr.alloc (.cells #[vi s.kind, vi s.conn, vi s.seq, vi s.ack, vi s.window, .string s.marks, .string s.body, vi s.time, vi s.late] 70) = W1 at hpS hS hvS ⊢
        clear hx12
        have hrc := fun W => right_calls s W hoks
        simp only [Seg.enc] at hrc
        have z0 := hS.cell 0 rfl
        have z1 := hS.cell 1 rfl
        have z2 := hS.cell 2 rfl
        have z3 := hS.cell 3 rfl
        have z4 := hS.cell 4 rfl
        have z5 := hS.cell 5 rfl
        have z6 := hS.cell 6 rfl
        have z7 := hS.cell 7 rfl
        have z8 := hS.cell 8 rfl
        have hat : 0 ≤ at_ + (k : Int) ∧ at_ + (k : Int) ≤ 1000000000 := by omega
        go_upto_region 13 with (first | (go_at_call 23; refine (hrc W1).mono ?_; rintro r W2 ⟨rfl, hbr⟩; have hp2 := hpS.below hbr) | (go_at_call 24; refine (fate_calls W2 hp2.blk hat.1 hat.2).mono ?_; rintro r W3 ⟨rfl, hbF, hcF⟩))
        have hp3 := hp2.own (w1 := A.wrote) (r1 := A.read) (w2 := B.wrote) (r2 := B.read) hcF hbF
        have hS3 : Blk W3 x12 #[vi s.kind, vi s.conn, vi s.seq, vi s.ack, vi s.window, .string s.marks, .string s.body, vi s.time, vi s.late] 70 := (hS.below hbr hS.lt).chg hcF (by omega)
        have hv3 : SSl W3 (.slice (some ⟨B0, off, none⟩) len vc) ss := Sl.chg (Sl.chg hvS (Chg.of_below (S := fun _ => False) hbr) (fun _ _ hh => hh)) hcF (fun x hx hh => (hvd x hx).2 hh)
        have hpn : pb ∉ slB v' := fun hh => (hp3.d3 _ hh).1 rfl
        have hxn : x12 ∉ slB v' := fun hh => by have := hxv _ hh; omega
        clear z0 z1 z2 z3 z4 z5 z6 z7 z8 hrc hbF hcF hp2 hbr hpS hS hvS
        obtain ⟨m, hm⟩ : ∃ m, Hid ((A.way ++ ss.take k).length = m) := ⟨_, rfl⟩
        have hwam : Sl W3 v' 70 9 m (segCells (A.way ++ ss.take k)) := hm.out ▸ hp3.wa
        rw [hm.out] at hwl2
        have hrd : ∀ W', Chg (· ∈ slB v') W3.drew W' → W'.cell? ⟨pb, 2, none⟩ = some v' ∧ Blk W' x12 #[vi s.kind, vi s.conn, vi s.seq, vi s.ack, vi s.window, .string s.marks, .string s.body, vi s.time, vi s.late] 70 := fun W' hW' => ⟨(hp3.blk.drew.chg hW' hpn).cell 2 rfl, hS3.drew.chg hW' hxn⟩
        have hC0 : Chg (· ∈ slB v') W3.drew W3.drew := Chg.refl _ _
        have hmix : Try.prog.follows .mixedOrders = true := by kernel_rfl
        obtain ⟨i0, hi, hz0, hz1, hz2⟩ := info_parts Try.info70
        refine region_anyN (fun j => j != 0 && j != 11 && j != 12 && j != 14) (Chg (· ∈ slB v') W3.drew) hmix ?_
        refine anyL_pure (i := 0) rfl rfl (by kernel_rfl) (by kernel_rfl) (by kernel_rfl) (fun _ _ _ h => nomatch h.1) rfl (fun W' => by go_simp; with_reducible rfl) ?_
        go_simp
        refine anyL_pure (i := 11) rfl rfl (by kernel_rfl) (by kernel_rfl) (by kernel_rfl) (fun _ _ _ h => nomatch h.1) rfl (fun W' => by go_simp; with_reducible rfl) ?_
        go_simp
        refine anyL_pure (i := 12) rfl rfl (by kernel_rfl) (by kernel_rfl) (by kernel_rfl) (fun _ _ _ h => nomatch h.1) rfl (fun W' => by go_simp; with_reducible rfl) ?_
        go_simp
        refine anyL_take (i := 1) rfl hC0 (by kernel_rfl) (by kernel_rfl) (by kernel_rfl) (by kernel_rfl) (fun _ _ _ h => nomatch h.1) rfl (fun W' hW' => by obtain ⟨x0, x1⟩ := hrd W' hW'; clear x1; go_simp; with_reducible rfl) ?_
        go_simp
        refine anyL_take (i := 2) rfl hC0 (by kernel_rfl) (by kernel_rfl) (by kernel_rfl) (by kernel_rfl) (fun _ _ _ h => nomatch h.1) rfl (fun W' hW' => by obtain ⟨x0, x1⟩ := hrd W' hW'; clear x1; go_simp; with_reducible rfl) ?_
        go_simp
        refine anyL_take (i := 3) rfl hC0 (by kernel_rfl) (by kernel_rfl) (by kernel_rfl) (by kernel_rfl) (fun _ _ _ h => nomatch h.1) rfl (fun W' hW' => by obtain ⟨x0, x1⟩ := hrd W' hW'; clear x1; go_simp; with_reducible rfl) ?_
        go_simp
        refine anyL_take (i := 4) rfl hC0 (by kernel_rfl) (by kernel_rfl) (by kernel_rfl) (by kernel_rfl) (fun _ _ _ h => nomatch h.1) rfl (fun W' hW' => by obtain ⟨x0, x1⟩ := hrd W' hW'; clear x1; go_simp; with_reducible rfl) ?_
        go_simp
        refine anyL_take (i := 5) rfl hC0 (by kernel_rfl) (by kernel_rfl) (by kernel_rfl) (by kernel_rfl) (fun _ _ _ h => nomatch h.1) rfl (fun W' hW' => by obtain ⟨x0, x1⟩ := hrd W' hW'; clear x1; go_simp; with_reducible rfl) ?_
        go_simp
        refine anyL_take (i := 6) rfl hC0 (by kernel_rfl) (by kernel_rfl) (by kernel_rfl) (by kernel_rfl) (fun _ _ _ h => nomatch h.1) rfl (fun W' hW' => by obtain ⟨x0, x1⟩ := hrd W' hW'; clear x1; go_simp; with_reducible rfl) ?_
        go_simp
        refine anyL_take (i := 7) rfl hC0 (by kernel_rfl) (by kernel_rfl) (by kernel_rfl) (by kernel_rfl) (fun _ _ _ h => nomatch h.1) rfl (fun W' hW' => by obtain ⟨x0, x1⟩ := hrd W' hW'; clear x1; go_simp; with_reducible rfl) ?_
        go_simp
        refine anyL_take (i := 8) rfl hC0 (by kernel_rfl) (by kernel_rfl) (by kernel_rfl) (by kernel_rfl) (fun _ _ _ h => nomatch h.1) rfl (fun W' hW' => by obtain ⟨x0, x1⟩ := hrd W' hW'; have y0 := x1.cell 0 rfl; have y1 := x1.cell 1 rfl; have y2 := x1.cell 2 rfl; have y3 := x1.cell 3 rfl; have y4 := x1.cell 4 rfl; have y5 := x1.cell 5 rfl; have y6 := x1.cell 6 rfl; have y7 := x1.cell 7 rfl; have y8 := x1.cell 8 rfl; go_simp; with_reducible rfl) ?_
        go_simp
        refine anyL_one (i := 9) (by kernel_rfl) rfl rfl ?_
        go_simp
        refine ⟨hC0.alloc _, ?_⟩
        refine anyL_one (i := 10) (by kernel_rfl) rfl rfl ?_
        refine wp_append_sl _ (.tmp 64) (.tmp 66) 33 rfl 70 i0 (.agg seg0) 9 88 Try.underlying33 hi hz0 hz1 hz2 rfl v' m (segCells (A.way ++ ss.take k)) (by simp [Act.eval]) (Sl.chg hwam (((Chg.refl (fun _ => False) W3).alloc (.cells #[vi s.kind, vi s.conn, vi s.seq, vi s.ack, vi s.window, .string s.marks, .string s.body, vi s.time, vi s.late] 70)).drew) (fun _ _ hh => hh)) ⟨W3.heap.size, 0, none⟩ 1 1 s.cells (by simp [Act.eval]) rfl (new_cells_d rfl) (seg_one s) (by decide) (by simp only [maxLen]; omega) (by omega) ?_
        intro v2 w5 hs5 hc5 hb5
        have hc6 : Chg (· ∈ slB v') W3.drew w5 := (hC0.alloc (.cells #[vi s.kind, vi s.conn, vi s.seq, vi s.ack, vi s.window, .string s.marks, .string s.body, vi s.time, vi s.late] 70)).comp hc5
        obtain ⟨a2, cap2, rfl, _, _⟩ := hs5.form
        refine ⟨fun _ => hc6, ?_⟩
        go_simp
        refine anyL_one (i := 13) (by kernel_rfl) rfl rfl ?_
        go_simp
        try refine ⟨hc6, ?_⟩
        have q1 := (hrd w5 hc6).1
        have q2 := (hp3.blk.drew.chg hc6 hpn).frozen 2
        refine anyL_one (i := 14) (by kernel_rfl) rfl rfl ?_
        go_simp
        first | (refine anyL_done (by kernel_rfl) ?_ _; refine ⟨rfl, ?_⟩) | (refine ⟨hc6, anyL_done (by kernel_rfl) ?_ _⟩; refine ⟨rfl, ?_⟩)
        have hp6 := (hp3.below (Below.refl _ W3).drew).wayA (l := (A.way ++ ss.take k) ++ [s]) ((hc6.mono fun _ _ hh => .inr hh).setCell (p := ⟨pb, 2, none⟩) (.inl (.inl rfl)) (.slice a2 (m + 1) cap2))
          (by
            have := Sl.chg hs5 ((Chg.refl (· = pb) w5).setCell (p := ⟨pb, 2, none⟩) (.inl rfl) (.slice a2 (m + 1) cap2)) (fun x hx hh => by
              rcases hb5 x hx with h | h
              · exact hpn (hh ▸ h)
              · have := hp3.blk.lt; simp at h; omega)
            have e1 : ((A.way ++ ss.take k) ++ [s]).length = m + 1 := by rw [List.length_append, hm.out]; rfl
            rw [SSl, segCells_snoc, e1]
            exact this)
          (fun x hx => by
            rcases hb5 x hx with h | h
            · exact .inl h
            · exact .inr (by simp at h ⊢; omega))
          ((hp3.blk.drew.chg hc6 hpn).set 2 _)
        have hvf : SSl (w5.setCell ⟨pb, 2, none⟩ (.slice a2 (m + 1) cap2)) (.slice (some ⟨B0, off, none⟩) len vc) ss :=
          Sl.chg (Sl.chg (show SSl W3.drew _ _ from Sl.chg hv3 ((Chg.refl (fun _ => False) W3).drew) (fun _ _ hh => hh)) hc6 (fun x hx hh => (hvd x hx).1 hh)) ((Chg.refl (· = pb) w5).setCell (p := ⟨pb, 2, none⟩) (.inl rfl) _) (fun x hx hh => (hvd x hx).2 hh)
        have hrel : ∃ (k' : Nat) (v' : Value), Value.int .i64 ((k : Int) + 1) = .int .i64 k' ∧ k' ≤ len ∧ PairAt w0 (w5.setCell ⟨pb, 2, none⟩ (.slice a2 (m + 1) cap2)) pb bA bB v' vB { A with e := e', ws := ws', fs := fs', way := A.way ++ ss.take k' } B now (at_ + k') ∧ SSl (w5.setCell ⟨pb, 2, none⟩ (.slice a2 (m + 1) cap2)) (.slice (some ⟨B0, off, none⟩) len vc) ss ∧ (∀ x ∈ slB (.slice (some ⟨B0, off, none⟩) len vc), x ∉ slB v' ∧ x ≠ pb) := by
          refine ⟨k + 1, .slice a2 (m + 1) cap2, by simp, by omega, ?_, hvf, fun x hx => ⟨fun hh => ?_, (hvd x hx).2⟩⟩
          · rw [htk, ← List.append_assoc]
            have e2 : at_ + ((k + 1 : Nat) : Int) = at_ + (k : Int) + 1 := by omega
            rw [e2]
            exact hp6
          · rcases hb5 x hh with h | h
            · exact (hvd x hx).1 h
            · have := hxs x hx; have := hpl; simp at h; have := hp3.blk.lt; have := hS3.lt; omega
        clear hp6 hvf hc6 hs5 hc5 hb5 hp3 hS3 hv3 hrd hC0 q1 q2 hwam
        go_wp2_with (fail)
        go_roundw
        case rel => exact hrel
        case measure => simp [intOf]; omega
      · obtain rfl : k = len := by omega
        go_wp2_with (fail)
        go_ret
        refine ⟨rfl, e', ws', fs', ss, v', hP, ?_⟩
        have e1 : ss.take k = ss := List.take_of_length_le (by rw [hlen.out]; exact Nat.le_refl _)
        rw [e1] at hp
        rw [hlen.out]
        exact hp

def Sent1 (w0 : World) (pb bA bB : Nat) (vA : Value) (A B : Side) (now at_ : Int) (r : Ending) (w' : World) : Prop :=
  r = .returned (.bool true) ∧ ∃ e' ws' fs' ss v', SendP B.e B.ws B.fs now e' ws' fs' ss ∧ PairAt w0 w' pb bA bB vA v' A { B with e := e', ws := ws', fs := fs', way := B.way ++ ss } now (at_ + ss.length)

set_option maxHeartbeats 3200000 in
set_option maxRecDepth 100000 in
theorem send1_calls (w : World) (limit : Int) (p : PairAt w0 w pb bA bB vA vB A B now at_) (g : SendOk B.e B.ws B.fs B.ks now limit) (h0 : 0 ≤ at_) (h1 : at_ ≤ 100000000) (hwl : B.way.length ≤ 100000000) :
    Calls Try.prog 10 #[.pointer (some ⟨pb, 0, none⟩), vi 1, vi limit] w (Sent1 w0 pb bA bB vA A B now at_) := by
  have hmix : Try.prog.follows .mixedOrders = true := by kernel_rfl
  have hpf : pb ∉ B.foot bB := fun hh => (p.d2 _ hh).1 rfl
  go_enter Try.func10, Try.ntmps10
  go_upto_region 1 with (fail)
  have hrd : ∀ W', Blk W' pb (pairCells bA bB vA vB A B now at_) 38 → W'.cell? ⟨pb, 1, none⟩ = some (.pointer (some ⟨bB, 0, none⟩)) ∧ W'.cell? ⟨pb, 8, none⟩ = some (vi now) := fun W' h => ⟨h.cell 1 rfl, h.cell 8 rfl⟩
  have hC0 := p.blk.drew
  refine region_anyN (fun _ => true) (fun W' => Blk W' pb (pairCells bA bB vA vB A B now at_) 38) hmix ?_
  refine anyL_take (i := 0) rfl hC0 (by kernel_rfl) (by kernel_rfl) (by kernel_rfl) (by kernel_rfl) (fun _ _ _ h => nomatch h.1) rfl (fun W' hW' => by obtain ⟨x0, x1⟩ := hrd W' hW'; go_simp; with_reducible rfl) ?_
  go_simp
  refine anyL_take (i := 1) rfl hC0 (by kernel_rfl) (by kernel_rfl) (by kernel_rfl) (by kernel_rfl) (fun _ _ _ h => nomatch h.1) rfl (fun W' hW' => by obtain ⟨x0, x1⟩ := hrd W' hW'; go_simp; with_reducible rfl) ?_
  go_simp
  refine anyL_take (i := 2) rfl hC0 (by kernel_rfl) (by kernel_rfl) (by kernel_rfl) (by kernel_rfl) (fun _ _ _ h => nomatch h.1) rfl (fun W' hW' => by obtain ⟨x0, x1⟩ := hrd W' hW'; go_simp; with_reducible rfl) ?_
  go_simp
  refine anyL_take (i := 3) rfl hC0 (by kernel_rfl) (by kernel_rfl) (by kernel_rfl) (by kernel_rfl) (fun _ _ _ h => nomatch h.1) rfl (fun W' hW' => by obtain ⟨x0, x1⟩ := hrd W' hW'; go_simp; with_reducible rfl) ?_
  go_simp
  refine anyL_take (i := 4) rfl hC0 (by kernel_rfl) (by kernel_rfl) (by kernel_rfl) (by kernel_rfl) (fun _ _ _ h => nomatch h.1) rfl (fun W' hW' => by obtain ⟨x0, x1⟩ := hrd W' hW'; go_simp; with_reducible rfl) ?_
  go_simp
  refine anyL_take (i := 5) rfl hC0 (by kernel_rfl) (by kernel_rfl) (by kernel_rfl) (by kernel_rfl) (fun _ _ _ h => nomatch h.1) rfl (fun W' hW' => by obtain ⟨x0, x1⟩ := hrd W' hW'; go_simp; with_reducible rfl) ?_
  go_simp
  refine anyL_take (i := 6) rfl hC0 (by kernel_rfl) (by kernel_rfl) (by kernel_rfl) (by kernel_rfl) (fun _ _ _ h => nomatch h.1) rfl (fun W' hW' => by obtain ⟨x0, x1⟩ := hrd W' hW'; go_simp; with_reducible rfl) ?_
  go_simp
  refine anyL_take (i := 7) rfl hC0 (by kernel_rfl) (by kernel_rfl) (by kernel_rfl) (by kernel_rfl) (fun _ _ _ h => nomatch h.1) rfl (fun W' hW' => by obtain ⟨x0, x1⟩ := hrd W' hW'; go_simp; with_reducible rfl) ?_
  go_simp
  refine anyL_take (i := 8) rfl hC0 (by kernel_rfl) (by kernel_rfl) (by kernel_rfl) (by kernel_rfl) (fun _ _ _ h => nomatch h.1) rfl (fun W' hW' => by obtain ⟨x0, x1⟩ := hrd W' hW'; go_simp; with_reducible rfl) ?_
  go_simp
  refine anyL_take (i := 9) rfl hC0 (by kernel_rfl) (by kernel_rfl) (by kernel_rfl) (by kernel_rfl) (fun _ _ _ h => nomatch h.1) rfl (fun W' hW' => by obtain ⟨x0, x1⟩ := hrd W' hW'; go_simp; with_reducible rfl) ?_
  go_simp
  refine anyL_one (i := 10) (by kernel_rfl) rfl rfl ?_
  go_simp
  refine (Send_calls w.drew now p.eb.drew g.good g.le g.n9 g.out g.outs0 g.outs1).mono ?_
  rintro r w1 ⟨e', ws', fs', ss, v, rfl, hP, hW, hv, hvo⟩
  have hC1 : Blk w1 pb (pairCells bA bB vA vB A B now at_) 38 := hC0.chg hW.chg hpf
  refine ⟨hC1, ?_⟩
  refine anyL_take (i := 11) rfl hC1 (by kernel_rfl) (by kernel_rfl) (by kernel_rfl) (by kernel_rfl) (fun _ _ _ h => nomatch h.1) rfl (fun W' hW' => by obtain ⟨x0, x1⟩ := hrd W' hW'; go_simp; with_reducible rfl) ?_
  go_simp
  refine anyL_take (i := 12) rfl hC1 (by kernel_rfl) (by kernel_rfl) (by kernel_rfl) (by kernel_rfl) (fun _ _ _ h => nomatch h.1) rfl (fun W' hW' => by obtain ⟨x0, x1⟩ := hrd W' hW'; go_simp; with_reducible rfl) ?_
  go_simp
  refine anyL_take (i := 13) rfl hC1 (by kernel_rfl) (by kernel_rfl) (by kernel_rfl) (by kernel_rfl) (fun _ _ _ h => nomatch h.1) rfl (fun W' hW' => by obtain ⟨x0, x1⟩ := hrd W' hW'; go_simp; with_reducible rfl) ?_
  go_simp
  refine anyL_one (i := 14) (by kernel_rfl) rfl rfl ?_
  go_simp
  try refine ⟨hC1, ?_⟩
  refine anyL_one (i := 15) (by kernel_rfl) rfl rfl ?_
  go_simp
  first | (refine anyL_done (by kernel_rfl) ?_ _; refine ⟨rfl, ?_⟩) | (refine ⟨hC1, anyL_done (by kernel_rfl) ?_ _⟩; refine ⟨rfl, ?_⟩)
  have hp1 := (p.below (Below.refl _ w).drew).goB hW
  obtain ⟨hok, hfly, hfl, hfb, hsl⟩ := g.res e' ws' fs' ss hP
  have hvn : ∀ x ∈ slB v, w.heap.size ≤ x ∧ x ∉ Go.Flw.foot bB e' ws' fs' ∧ x < w1.heap.size := fun x hx => ⟨(hvo x hx).1, (hvo x hx).2, Sl.lt hv x hx⟩
  have hun : Calls Try.prog 22 #[.pointer (some ⟨bB, 0, none⟩)] w1 fun r w' => ∃ n b : Int, r = .returned (.tuple #[vi n, vi b]) ∧ (n ≤ 1 ∨ b ≤ limit) ∧ Below w1.heap.size w1 w' := by
    by_cases h5 : e'.state = 5
    · exact (Under_reset w1 hW.is.blk h5).mono fun r w' ⟨h, h2⟩ => ⟨0, 0, h, .inl (by decide), h2 ▸ Below.refl _ _⟩
    · exact (Under_calls w1 hW.is hfl hfb h5).mono fun r w' ⟨h, h2⟩ => ⟨_, _, h, by omega, h2⟩
  have c1 : w1.cell? ⟨pb, 1, none⟩ = some (.pointer (some ⟨bB, 0, none⟩)) := hC1.cell 1 rfl
  clear hC0 hrd hW hvo g
  go_upto_region 5 with (go_at_call 22; refine hun.mono ?_; rintro r w2 ⟨n, nb, rfl, hnb, hb2⟩)
  have hp2 := hp1.below hb2
  have hv2 : SSl w2 v ss := Sl.chg hv (Chg.of_below (S := fun _ => False) hb2) (fun _ _ hh => hh)
  have hsz2 := hb2.size
  clear hp1 hun c1 hC1 hv hb2
  obtain ⟨va, vc, hvf, hvc, hvm⟩ := Sl.form hv2
  unfold maxLen at hvm
  obtain ⟨len, hlen⟩ : ∃ n, Hid (ss.length = n) := ⟨_, rfl⟩
  have hsl2 : len ≤ 100000 := hlen.out ▸ hsl
  rw [hlen.out] at hvf hvc
  subst hvf
  go_cut [45] (fun t W => t = .bool false ∧ W = w2)
  case first =>
    by_cases hnl : limit < nb
    · have hn1 : ¬ 1 < n := by omega
      clear hnb
      go_wp2_with (fail)
      go_meet
      case rel => exact ⟨rfl, rfl⟩
    · clear hnb
      go_wp2_with (fail)
      go_meet
      case rel => exact ⟨rfl, rfl⟩
  case rest =>
    obtain ⟨rfl, rfl⟩ := hcut
    clear hnb
    go_wp2_with (fail)
    go_loopw [48] (fun i wr => ∃ (k : Nat) (v' : Value), i = .int .i64 k ∧ k ≤ len ∧ PairAt w0 wr pb bA bB vA v' A { B with e := e', ws := ws', fs := fs', way := B.way ++ ss.take k } now (at_ + k) ∧ SSl wr (.slice va len vc) ss ∧ (∀ x ∈ slB (.slice va len vc), x ∉ slB v' ∧ x ≠ pb)) (fun i _ => len - (intOf i).toNat)
    case atStart =>
      refine ⟨0, vB, rfl, Nat.zero_le _, by simpa using hp2, hv2, fun x hx => ?_⟩
      obtain ⟨k1, k2, k3⟩ := hvn x hx
      exact ⟨fun hh => by have := p.ltvB x hh; omega, fun hh => by have := p.blk.lt; omega⟩
    case round =>
      obtain ⟨k, v', rfl, hk, hp, hv, hvd⟩ := hrel
      clear hp2 hv2 hvn
      by_cases hlt : k < len
      · obtain ⟨B0, off, cap', hv', hc⟩ := seg_at hv k (by rw [hlen.out]; exact hlt)
        rw [hlen.out] at hv'
        injection hv' with ha hb hcc
        subst ha
        subst hcc
        have hmem := nthS_mem ss k (by rw [hlen.out]; exact hlt)
        have htk : ss.take (k + 1) = ss.take k ++ [nthS ss k] := by rw [nthS_eq ss k (by rw [hlen.out]; exact hlt)]; exact List.take_succ_eq_append_getElem _
        obtain ⟨s, hs⟩ : ∃ s, s = nthS ss k := ⟨_, rfl⟩
        rw [← hs] at hc hmem htk
        have hoks := hok s hmem
        have c0 := hc 0 _ rfl
        rw [Nat.add_zero] at c0
        have c1 := hc 1 _ rfl
        have c2 := hc 2 _ rfl
        have c3 := hc 3 _ rfl
        have c4 := hc 4 _ rfl
        have c5 := hc 5 _ rfl
        have c6 := hc 6 _ rfl
        have c7 := hc 7 _ rfl
        have c8 := hc 8 _ rfl
        clear hs hc hb hmem hok
        go_upto_region 10 with (fail)
        have hpS := hp.below ((Below.refl _ wr).alloc (Nat.le_refl _) (.cells #[vi s.kind, vi s.conn, vi s.seq, vi s.ack, vi s.window, .string s.marks, .string s.body, vi s.time, vi s.late] 70))
        have hS := Blk.new wr #[vi s.kind, vi s.conn, vi s.seq, vi s.ack, vi s.window, .string s.marks, .string s.body, vi s.time, vi s.late] 70
        have hpl := hp.blk.lt
        have hvS : SSl (wr.alloc (.cells #[vi s.kind, vi s.conn, vi s.seq, vi s.ack, vi s.window, .string s.marks, .string s.body, vi s.time, vi s.late] 70)) (.slice (some ⟨B0, off, none⟩) len vc) ss := Sl.alloc hv _
        have hxv : ∀ x ∈ slB v', x < wr.heap.size := hp.ltvB
        have hxs : ∀ x ∈ slB (.slice (some ⟨B0, off, none⟩) len vc), x < wr.heap.size := Sl.lt hv
        have hwl2 : (((B.way ++ ss.take k).length : Nat) : Int) ≤ 200000000 := by rw [List.length_append, List.length_take]; omega
        obtain ⟨x12, hx12⟩ : ∃ x, x = wr.heap.size := ⟨_, rfl⟩
        rw [← hx12] at hS hpl hxv hxs ⊢
        clear c0 c1 c2 c3 c4 c5 c6 c7 c8 hp hv
        generalize wr.alloc (.cells #[vi s.kind, vi s.conn, vi s.seq, vi s.ack, vi s.window, .string s.marks, .string s.body, vi s.time, vi s.late] 70) = W1 at hpS hS hvS ⊢
        clear hx12
        have hrc := fun W => right_calls s W hoks
        simp only [Seg.enc] at hrc
        have z0 := hS.cell 0 rfl
        have z1 := hS.cell 1 rfl
        have z2 := hS.cell 2 rfl
        have z3 := hS.cell 3 rfl
        have z4 := hS.cell 4 rfl
        have z5 := hS.cell 5 rfl
        have z6 := hS.cell 6 rfl
        have z7 := hS.cell 7 rfl
        have z8 := hS.cell 8 rfl
        have hat : 0 ≤ at_ + (k : Int) ∧ at_ + (k : Int) ≤ 1000000000 := by omega
        go_upto_region 13 with (first | (go_at_call 23; refine (hrc W1).mono ?_; rintro r W2 ⟨rfl, hbr⟩; have hp2 := hpS.below hbr) | (go_at_call 24; refine (fate_calls W2 hp2.blk hat.1 hat.2).mono ?_; rintro r W3 ⟨rfl, hbF, hcF⟩))
        have hp3 := hp2.own (w1 := A.wrote) (r1 := A.read) (w2 := B.wrote) (r2 := B.read) hcF hbF
        have hS3 : Blk W3 x12 #[vi s.kind, vi s.conn, vi s.seq, vi s.ack, vi s.window, .string s.marks, .string s.body, vi s.time, vi s.late] 70 := (hS.below hbr hS.lt).chg hcF (by omega)
        have hv3 : SSl W3 (.slice (some ⟨B0, off, none⟩) len vc) ss := Sl.chg (Sl.chg hvS (Chg.of_below (S := fun _ => False) hbr) (fun _ _ hh => hh)) hcF (fun x hx hh => (hvd x hx).2 hh)
        have hpn : pb ∉ slB v' := fun hh => (hp3.d4 _ hh) rfl
        have hxn : x12 ∉ slB v' := fun hh => by have := hxv _ hh; omega
        clear z0 z1 z2 z3 z4 z5 z6 z7 z8 hrc hbF hcF hp2 hbr hpS hS hvS
        obtain ⟨m, hm⟩ : ∃ m, Hid ((B.way ++ ss.take k).length = m) := ⟨_, rfl⟩
        have hwam : Sl W3 v' 70 9 m (segCells (B.way ++ ss.take k)) := hm.out ▸ hp3.wb
        rw [hm.out] at hwl2
        have hrd : ∀ W', Chg (· ∈ slB v') W3.drew W' → W'.cell? ⟨pb, 3, none⟩ = some v' ∧ Blk W' x12 #[vi s.kind, vi s.conn, vi s.seq, vi s.ack, vi s.window, .string s.marks, .string s.body, vi s.time, vi s.late] 70 := fun W' hW' => ⟨(hp3.blk.drew.chg hW' hpn).cell 3 rfl, hS3.drew.chg hW' hxn⟩
        have hC0 : Chg (· ∈ slB v') W3.drew W3.drew := Chg.refl _ _
        have hmix : Try.prog.follows .mixedOrders = true := by kernel_rfl
        obtain ⟨i0, hi, hz0, hz1, hz2⟩ := info_parts Try.info70
        refine region_anyN (fun j => j != 0 && j != 11 && j != 12 && j != 14) (Chg (· ∈ slB v') W3.drew) hmix ?_
        refine anyL_pure (i := 0) rfl rfl (by kernel_rfl) (by kernel_rfl) (by kernel_rfl) (fun _ _ _ h => nomatch h.1) rfl (fun W' => by go_simp; with_reducible rfl) ?_
        go_simp
        refine anyL_pure (i := 11) rfl rfl (by kernel_rfl) (by kernel_rfl) (by kernel_rfl) (fun _ _ _ h => nomatch h.1) rfl (fun W' => by go_simp; with_reducible rfl) ?_
        go_simp
        refine anyL_pure (i := 12) rfl rfl (by kernel_rfl) (by kernel_rfl) (by kernel_rfl) (fun _ _ _ h => nomatch h.1) rfl (fun W' => by go_simp; with_reducible rfl) ?_
        go_simp
        refine anyL_take (i := 1) rfl hC0 (by kernel_rfl) (by kernel_rfl) (by kernel_rfl) (by kernel_rfl) (fun _ _ _ h => nomatch h.1) rfl (fun W' hW' => by obtain ⟨x0, x1⟩ := hrd W' hW'; clear x1; go_simp; with_reducible rfl) ?_
        go_simp
        refine anyL_take (i := 2) rfl hC0 (by kernel_rfl) (by kernel_rfl) (by kernel_rfl) (by kernel_rfl) (fun _ _ _ h => nomatch h.1) rfl (fun W' hW' => by obtain ⟨x0, x1⟩ := hrd W' hW'; clear x1; go_simp; with_reducible rfl) ?_
        go_simp
        refine anyL_take (i := 3) rfl hC0 (by kernel_rfl) (by kernel_rfl) (by kernel_rfl) (by kernel_rfl) (fun _ _ _ h => nomatch h.1) rfl (fun W' hW' => by obtain ⟨x0, x1⟩ := hrd W' hW'; clear x1; go_simp; with_reducible rfl) ?_
        go_simp
        refine anyL_take (i := 4) rfl hC0 (by kernel_rfl) (by kernel_rfl) (by kernel_rfl) (by kernel_rfl) (fun _ _ _ h => nomatch h.1) rfl (fun W' hW' => by obtain ⟨x0, x1⟩ := hrd W' hW'; clear x1; go_simp; with_reducible rfl) ?_
        go_simp
        refine anyL_take (i := 5) rfl hC0 (by kernel_rfl) (by kernel_rfl) (by kernel_rfl) (by kernel_rfl) (fun _ _ _ h => nomatch h.1) rfl (fun W' hW' => by obtain ⟨x0, x1⟩ := hrd W' hW'; clear x1; go_simp; with_reducible rfl) ?_
        go_simp
        refine anyL_take (i := 6) rfl hC0 (by kernel_rfl) (by kernel_rfl) (by kernel_rfl) (by kernel_rfl) (fun _ _ _ h => nomatch h.1) rfl (fun W' hW' => by obtain ⟨x0, x1⟩ := hrd W' hW'; clear x1; go_simp; with_reducible rfl) ?_
        go_simp
        refine anyL_take (i := 7) rfl hC0 (by kernel_rfl) (by kernel_rfl) (by kernel_rfl) (by kernel_rfl) (fun _ _ _ h => nomatch h.1) rfl (fun W' hW' => by obtain ⟨x0, x1⟩ := hrd W' hW'; clear x1; go_simp; with_reducible rfl) ?_
        go_simp
        refine anyL_take (i := 8) rfl hC0 (by kernel_rfl) (by kernel_rfl) (by kernel_rfl) (by kernel_rfl) (fun _ _ _ h => nomatch h.1) rfl (fun W' hW' => by obtain ⟨x0, x1⟩ := hrd W' hW'; have y0 := x1.cell 0 rfl; have y1 := x1.cell 1 rfl; have y2 := x1.cell 2 rfl; have y3 := x1.cell 3 rfl; have y4 := x1.cell 4 rfl; have y5 := x1.cell 5 rfl; have y6 := x1.cell 6 rfl; have y7 := x1.cell 7 rfl; have y8 := x1.cell 8 rfl; go_simp; with_reducible rfl) ?_
        go_simp
        refine anyL_one (i := 9) (by kernel_rfl) rfl rfl ?_
        go_simp
        refine ⟨hC0.alloc _, ?_⟩
        refine anyL_one (i := 10) (by kernel_rfl) rfl rfl ?_
        refine wp_append_sl _ (.tmp 64) (.tmp 66) 33 rfl 70 i0 (.agg seg0) 9 88 Try.underlying33 hi hz0 hz1 hz2 rfl v' m (segCells (B.way ++ ss.take k)) (by simp [Act.eval]) (Sl.chg hwam (((Chg.refl (fun _ => False) W3).alloc (.cells #[vi s.kind, vi s.conn, vi s.seq, vi s.ack, vi s.window, .string s.marks, .string s.body, vi s.time, vi s.late] 70)).drew) (fun _ _ hh => hh)) ⟨W3.heap.size, 0, none⟩ 1 1 s.cells (by simp [Act.eval]) rfl (new_cells_d rfl) (seg_one s) (by decide) (by simp only [maxLen]; omega) (by omega) ?_
        intro v2 w5 hs5 hc5 hb5
        have hc6 : Chg (· ∈ slB v') W3.drew w5 := (hC0.alloc (.cells #[vi s.kind, vi s.conn, vi s.seq, vi s.ack, vi s.window, .string s.marks, .string s.body, vi s.time, vi s.late] 70)).comp hc5
        obtain ⟨a2, cap2, rfl, _, _⟩ := hs5.form
        refine ⟨fun _ => hc6, ?_⟩
        go_simp
        refine anyL_one (i := 13) (by kernel_rfl) rfl rfl ?_
        go_simp
        try refine ⟨hc6, ?_⟩
        have q1 := (hrd w5 hc6).1
        have q2 := (hp3.blk.drew.chg hc6 hpn).frozen 3
        refine anyL_one (i := 14) (by kernel_rfl) rfl rfl ?_
        go_simp
        first | (refine anyL_done (by kernel_rfl) ?_ _; refine ⟨rfl, ?_⟩) | (refine ⟨hc6, anyL_done (by kernel_rfl) ?_ _⟩; refine ⟨rfl, ?_⟩)
        have hp6 := (hp3.below (Below.refl _ W3).drew).wayB (l := (B.way ++ ss.take k) ++ [s]) ((hc6.mono fun _ _ hh => .inr hh).setCell (p := ⟨pb, 3, none⟩) (.inl (.inl rfl)) (.slice a2 (m + 1) cap2))
          (by
            have := Sl.chg hs5 ((Chg.refl (· = pb) w5).setCell (p := ⟨pb, 3, none⟩) (.inl rfl) (.slice a2 (m + 1) cap2)) (fun x hx hh => by
              rcases hb5 x hx with h | h
              · exact hpn (hh ▸ h)
              · have := hp3.blk.lt; simp at h; omega)
            have e1 : ((B.way ++ ss.take k) ++ [s]).length = m + 1 := by rw [List.length_append, hm.out]; rfl
            rw [SSl, segCells_snoc, e1]
            exact this)
          (fun x hx => by
            rcases hb5 x hx with h | h
            · exact .inl h
            · exact .inr (by simp at h ⊢; omega))
          ((hp3.blk.drew.chg hc6 hpn).set 3 _)
        have hvf : SSl (w5.setCell ⟨pb, 3, none⟩ (.slice a2 (m + 1) cap2)) (.slice (some ⟨B0, off, none⟩) len vc) ss :=
          Sl.chg (Sl.chg (show SSl W3.drew _ _ from Sl.chg hv3 ((Chg.refl (fun _ => False) W3).drew) (fun _ _ hh => hh)) hc6 (fun x hx hh => (hvd x hx).1 hh)) ((Chg.refl (· = pb) w5).setCell (p := ⟨pb, 3, none⟩) (.inl rfl) _) (fun x hx hh => (hvd x hx).2 hh)
        have hrel : ∃ (k' : Nat) (v' : Value), Value.int .i64 ((k : Int) + 1) = .int .i64 k' ∧ k' ≤ len ∧ PairAt w0 (w5.setCell ⟨pb, 3, none⟩ (.slice a2 (m + 1) cap2)) pb bA bB vA v' A { B with e := e', ws := ws', fs := fs', way := B.way ++ ss.take k' } now (at_ + k') ∧ SSl (w5.setCell ⟨pb, 3, none⟩ (.slice a2 (m + 1) cap2)) (.slice (some ⟨B0, off, none⟩) len vc) ss ∧ (∀ x ∈ slB (.slice (some ⟨B0, off, none⟩) len vc), x ∉ slB v' ∧ x ≠ pb) := by
          refine ⟨k + 1, .slice a2 (m + 1) cap2, by simp, by omega, ?_, hvf, fun x hx => ⟨fun hh => ?_, (hvd x hx).2⟩⟩
          · rw [htk, ← List.append_assoc]
            have e2 : at_ + ((k + 1 : Nat) : Int) = at_ + (k : Int) + 1 := by omega
            rw [e2]
            exact hp6
          · rcases hb5 x hh with h | h
            · exact (hvd x hx).1 h
            · have := hxs x hx; have := hpl; simp at h; have := hp3.blk.lt; have := hS3.lt; omega
        clear hp6 hvf hc6 hs5 hc5 hb5 hp3 hS3 hv3 hrd hC0 q1 q2 hwam
        go_wp2_with (fail)
        go_roundw
        case rel => exact hrel
        case measure => simp [intOf]; omega
      · obtain rfl : k = len := by omega
        go_wp2_with (fail)
        go_ret
        refine ⟨rfl, e', ws', fs', ss, v', hP, ?_⟩
        have e1 : ss.take k = ss := List.take_of_length_le (by rw [hlen.out]; exact Nat.le_refl _)
        rw [e1] at hp
        rw [hlen.out]
        exact hp
end Go.Proofs.Ytglbfgpdmlkamaa
