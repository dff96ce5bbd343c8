/-
  The walk of do.
-/
import Derived.Test.YtglbfgpdmlkamaaQf
import Derived.Test.YtglbfgpdmlkamaaLaw
namespace Go.Proofs.Ytglbfgpdmlkamaa
open Go.RowKit Go.Flw

variable {w0 : World} {pb bA bB : Nat} {now conn first other limit : Int} {m : Nat}

set_option maxHeartbeats 6400000 in
set_option maxRecDepth 100000 in
theorem do0_write (w : World) (kind who n later : Int) (text : ByteArray) (g : Going w0 pb bA bB conn first other limit now m false w) (hk : kind = 1 ∨ kind = 2) (hwho : (wrap64 (who.tmod 2 + 2)).tmod 2 = 0) (h0 : 0 ≤ now) (h1 : now ≤ 500000000) (hl0 : 0 ≤ later) (hl1 : later ≤ 100000) (ht : text.size ≤ 300) :
    Calls Try.prog 7 #[.pointer (some ⟨pb, 0, none⟩), .agg #[vi kind, vi who, vi n, vi later, .string text], vi limit] w (GoR w0 pb bA bB conn first other limit (now + later) m false) := by
  have hmix : Try.prog.follows .mixedOrders = true := by kernel_rfl
  obtain ⟨hA, hB, A, B, vA, vB, at_, p, o, a0, a1, lA, lB, hc⟩ := g
  replace hwho : Hid ((wrap64 (who.tmod 2 + 2)).tmod 2 = 0) := hwho
  obtain ⟨num, hnum⟩ : ∃ num, Hid (num = wrap64 (1 + (wrap64 (n.tmod 40 + 40)).tmod 40)) := ⟨_, rfl⟩
  replace lA : Hid (A.way.length ≤ m) := lA
  replace lB : Hid (B.way.length ≤ m) := lB
  replace hc : Hid (A.e.closing = false) := hc
  have a2 : Hid (at_ ≤ m) := a1
  clear a1
  have hwl : IntKind.i64.wrap (now + later) = now + later := IntWalk.i64_in _ (by omega)
  replace hwl : Hid (IntKind.i64.wrap (now + later) = now + later) := hwl
  go_enter Try.func7, Try.ntmps7
  go_upto_region 3 with (fail)
  rw [hwho.out]
  have p1 := p.below ((Below.refl _ w).alloc (Nat.le_refl _) (.cells #[vi kind, vi who, vi n, vi later, .string text] 29))
  have hX := Blk.new w #[vi kind, vi who, vi n, vi later, .string text] 29
  have hxp : w.heap.size ≠ pb := by have := p.blk.lt; omega
  have hxA : ∀ x ∈ A.foot bA, x < w.heap.size := p.ea.lt
  have hxB : ∀ x ∈ B.foot bB, x < w.heap.size := p.eb.lt
  generalize hxb : w.heap.size = xb at hX hxp hxA hxB ⊢
  clear hxb p
  generalize w.alloc (.cells #[vi kind, vi who, vi n, vi later, .string text] 29) = W1 at p1 hX ⊢
  have hD : Blk W1.drew pb (pairCells bA bB vA vB A B now at_) 38 ∧ Blk W1.drew xb #[vi kind, vi who, vi n, vi later, .string text] 29 := ⟨p1.blk.drew, hX.drew⟩
  have hrd : ∀ W', (Blk W' pb (pairCells bA bB vA vB A B now at_) 38 ∧ Blk W' xb #[vi kind, vi who, vi n, vi later, .string text] 29) → W'.cell? ⟨pb, 8, none⟩ = some (vi now) ∧ W'.cell? ⟨xb, 3, none⟩ = some (vi later) := fun W' h => ⟨h.1.cell 8 rfl, h.2.cell 3 rfl⟩
  refine region_anyN (fun j => j != 9) (fun W' => Blk W' pb (pairCells bA bB vA vB A B now at_) 38 ∧ Blk W' xb #[vi kind, vi who, vi n, vi later, .string text] 29) hmix ?_
  refine anyL_take (i := 0) rfl hD (by kernel_rfl) (by kernel_rfl) (by kernel_rfl) (by kernel_rfl) (fun _ _ _ h => nomatch h.1) rfl (fun W' hW' => by obtain ⟨x0, x1⟩ := hrd W' hW'; go_simp; with_reducible rfl) ?_
  go_simp
  refine anyL_take (i := 1) rfl hD (by kernel_rfl) (by kernel_rfl) (by kernel_rfl) (by kernel_rfl) (fun _ _ _ h => nomatch h.1) rfl (fun W' hW' => by obtain ⟨x0, x1⟩ := hrd W' hW'; go_simp; with_reducible rfl) ?_
  go_simp
  refine anyL_take (i := 2) rfl hD (by kernel_rfl) (by kernel_rfl) (by kernel_rfl) (by kernel_rfl) (fun _ _ _ h => nomatch h.1) rfl (fun W' hW' => by obtain ⟨x0, x1⟩ := hrd W' hW'; go_simp; with_reducible rfl) ?_
  go_simp
  refine anyL_take (i := 3) rfl hD (by kernel_rfl) (by kernel_rfl) (by kernel_rfl) (by kernel_rfl) (fun _ _ _ h => nomatch h.1) rfl (fun W' hW' => by obtain ⟨x0, x1⟩ := hrd W' hW'; go_simp; with_reducible rfl) ?_
  go_simp
  refine anyL_take (i := 4) rfl hD (by kernel_rfl) (by kernel_rfl) (by kernel_rfl) (by kernel_rfl) (fun _ _ _ h => nomatch h.1) rfl (fun W' hW' => by obtain ⟨x0, x1⟩ := hrd W' hW'; go_simp; with_reducible rfl) ?_
  go_simp
  refine anyL_take (i := 5) rfl hD (by kernel_rfl) (by kernel_rfl) (by kernel_rfl) (by kernel_rfl) (fun _ _ _ h => nomatch h.1) rfl (fun W' hW' => by obtain ⟨x0, x1⟩ := hrd W' hW'; go_simp; with_reducible rfl) ?_
  go_simp
  refine anyL_take (i := 6) rfl hD (by kernel_rfl) (by kernel_rfl) (by kernel_rfl) (by kernel_rfl) (fun _ _ _ h => nomatch h.1) rfl (fun W' _ => by have hw := hwl.out; go_simp; with_reducible rfl) ?_
  have hw := hwl.out
  go_simp
  refine anyL_one (i := 7) (by kernel_rfl) rfl rfl ?_
  go_simp
  try refine ⟨hD, ?_⟩
  refine anyL_one (i := 8) (by kernel_rfl) rfl rfl ?_
  go_simp
  try refine ⟨hD, ?_⟩
  have q1 := hD.1.frozen 8
  have q2 := hD.1.cell 8 rfl
  refine anyL_one (i := 9) (by kernel_rfl) rfl rfl ?_
  go_simp
  first | (refine anyL_done (by kernel_rfl) ?_ _; refine ⟨rfl, ?_⟩) | (refine ⟨hD, anyL_done (by kernel_rfl) ?_ _⟩; refine ⟨rfl, ?_⟩)
  clear q1 q2 hrd hw
  have p2 : PairAt w0 (W1.setCell ⟨pb, 8, none⟩ (vi (now + later))).drew pb bA bB vA vB A B (now + later) at_ :=
    (p1.own (w1 := A.wrote) (w2 := B.wrote) (r1 := A.read) (r2 := B.read) ((Chg.refl (· = pb) W1).setCell (p := ⟨pb, 8, none⟩) (.inl rfl) (vi (now + later))) (p1.blk.set 8 _)).below (Below.refl _ _).drew
  have hX2 : Blk (W1.setCell ⟨pb, 8, none⟩ (vi (now + later))).drew xb #[vi kind, vi who, vi n, vi later, .string text] 29 := hX.other hxp 8 _
  generalize (W1.setCell ⟨pb, 8, none⟩ (vi (now + later))).drew = W2 at p2 hX2 ⊢
  have o2 := o.later (n2 := now + later) (by omega)
  have hT0 : 0 ≤ now + later := by omega
  have hT1 : now + later ≤ 1000000000 := by omega
  have hsum := o.sum
  clear p1 hX hD o hwl h0 h1 hl0 hl1 hwho hnum
  have c1 : W2.cell? ⟨pb, 4, none⟩ = some (.string A.wrote) := p2.blk.cell 4 rfl
  have c2 : W2.cell? ⟨pb, 5, none⟩ = some (.string B.wrote) := p2.blk.cell 5 rfl
  have cm : GoR w0 pb bA bB conn first other limit (now + later) m false (.returned (.bool true)) W2 := ⟨rfl, hA, hB, A, B, vA, vB, at_, p2, o2, a0, a2.out, lA.out, lB.out, hc.out⟩
  have cmN : ∀ k, GoR w0 pb bA bB conn first other limit (now + later) m false (.returned (.bool true)) (W2.drewN k) := fun k => ⟨rfl, hA, hB, A, B, vA, vB, at_, p2.below (belowDrewN (Below.refl _ _) _), o2, a0, a2.out, lA.out, lB.out, hc.out⟩
  have hws : IntKind.i64.wrap ((A.wrote.size : Int) + B.wrote.size) = (A.wrote.size : Int) + B.wrote.size := IntWalk.i64_in _ (by omega)
  replace hws : Hid (IntKind.i64.wrap ((A.wrote.size : Int) + B.wrote.size) = (A.wrote.size : Int) + B.wrote.size) := hws
  have c0 : W2.cell? ⟨xb, 0, none⟩ = some (vi kind) := hX2.cell 0 rfl
  obtain ⟨cs, hcs0⟩ : ∃ cs : Array Value, cs = #[vi kind, vi who, vi n, vi later, .string text] := ⟨_, rfl⟩
  have hcs : Hid (cs[4]? = some (.string text)) := by subst hcs0; exact (rfl : (#[vi kind, vi who, vi n, vi later, .string text] : Array Value)[4]? = some (.string text))
  rw [← hcs0] at hX2
  clear hcs0
  have hwr : ∀ k, Calls Try.prog 19 #[.pointer (some ⟨bA, 0, none⟩), vi (now + later), .string text] (W2.drewN k).drew (WritePost (W2.drewN k).drew bA A.e A.ws A.fs A.ks A.clk (now + later) text) := by
    intro k
    by_cases hst : A.e.closing = false ∧ (A.e.state = 1 ∨ A.e.state = 2)
    · have := o2.sa.small
      exact Write_calls (W2.drewN k).drew (now + later) text (p2.ea.drewN k).drew o2.nowA.2 hT1 (by omega) (by omega) (by have := o2.bdA.1; omega) o2.bdA.2 hst.1 hst.2
    · refine (Write_not (W2.drewN k).drew (now + later) text ((p2.ea.drewN k).drew).blk o2.nowA.2 hT1 (by omega) ?_).mono fun r w' h => .inr ⟨.inl h.1, h.2⟩
      by_cases hcl : A.e.closing = true
      · exact .inl hcl
      · exact .inr (fun hh => hst ⟨by simpa using hcl, hh⟩)
  rcases hk with rfl | rfl
  all_goals
    go_upto_region 7 with (fail)
    have hw := hws.out
    by_cases h3 : 3000 < A.wrote.size + B.wrote.size
    · clear cm
      go_quiet (fail)
      clear hw
      go_wp2_with (fail)
      go_ret
      exact cmN _
    · clear cm
      go_quiet (fail)
      clear hw
      go_upto_region 9 with (fail)
      have hD3 : Blk (W2.drewN nq).drew pb (pairCells bA bB vA vB A B (now + later) at_) 38 ∧ Blk (W2.drewN nq).drew xb cs 29 := ⟨p2.blk, hX2⟩
      have hp3 : PairAt w0 (W2.drewN nq).drew pb bA bB vA vB A B (now + later) at_ := (p2.below (belowDrewN (Below.refl _ _) nq)).below (Below.refl _ _).drew
      have hrd3 : ∀ W', (Blk W' pb (pairCells bA bB vA vB A B (now + later) at_) 38 ∧ Blk W' xb cs 29) → W'.cell? ⟨pb, 0, none⟩ = some (.pointer (some ⟨bA, 0, none⟩)) ∧ W'.cell? ⟨pb, 8, none⟩ = some (vi (now + later)) ∧ W'.cell? ⟨xb, 4, none⟩ = some (.string text) := fun W' h => ⟨h.1.cell 0 rfl, h.1.cell 8 rfl, h.2.cell 4 hcs.out⟩
      have hfA : ∀ x ∈ A.foot bA, x ≠ pb ∧ x ≠ xb := fun x hx => ⟨(hp3.d1 x hx).1, by have := hxA x hx; omega⟩
      have hw3 := hwr nq
      clear hwr c0 c1 c2 hws hX2
      generalize W2.drewN nq = W3 at hD3 hp3 hw3 ⊢
      clear p2 cmN
      refine region_anyN (fun _ => true) (fun W' => Blk W' pb (pairCells bA bB vA vB A B (now + later) at_) 38 ∧ Blk W' xb cs 29) hmix ?_
      refine anyL_take (i := 0) rfl hD3 (by kernel_rfl) (by kernel_rfl) (by kernel_rfl) (by kernel_rfl) (fun _ _ _ h => nomatch h.1) rfl (fun W' hW' => by obtain ⟨x0, x1, x2⟩ := hrd3 W' hW'; go_simp; with_reducible rfl) ?_
      go_simp
      refine anyL_take (i := 1) rfl hD3 (by kernel_rfl) (by kernel_rfl) (by kernel_rfl) (by kernel_rfl) (fun _ _ _ h => nomatch h.1) rfl (fun W' hW' => by obtain ⟨x0, x1, x2⟩ := hrd3 W' hW'; go_simp; with_reducible rfl) ?_
      go_simp
      refine anyL_take (i := 2) rfl hD3 (by kernel_rfl) (by kernel_rfl) (by kernel_rfl) (by kernel_rfl) (fun _ _ _ h => nomatch h.1) rfl (fun W' hW' => by obtain ⟨x0, x1, x2⟩ := hrd3 W' hW'; go_simp; with_reducible rfl) ?_
      go_simp
      refine anyL_take (i := 3) rfl hD3 (by kernel_rfl) (by kernel_rfl) (by kernel_rfl) (by kernel_rfl) (fun _ _ _ h => nomatch h.1) rfl (fun W' hW' => by obtain ⟨x0, x1, x2⟩ := hrd3 W' hW'; go_simp; with_reducible rfl) ?_
      go_simp
      refine anyL_take (i := 4) rfl hD3 (by kernel_rfl) (by kernel_rfl) (by kernel_rfl) (by kernel_rfl) (fun _ _ _ h => nomatch h.1) rfl (fun W' hW' => by obtain ⟨x0, x1, x2⟩ := hrd3 W' hW'; go_simp; with_reducible rfl) ?_
      go_simp
      refine anyL_take (i := 5) rfl hD3 (by kernel_rfl) (by kernel_rfl) (by kernel_rfl) (by kernel_rfl) (fun _ _ _ h => nomatch h.1) rfl (fun W' hW' => by obtain ⟨x0, x1, x2⟩ := hrd3 W' hW'; go_simp; with_reducible rfl) ?_
      go_simp
      refine anyL_take (i := 6) rfl hD3 (by kernel_rfl) (by kernel_rfl) (by kernel_rfl) (by kernel_rfl) (fun _ _ _ h => nomatch h.1) rfl (fun W' hW' => by obtain ⟨x0, x1, x2⟩ := hrd3 W' hW'; go_simp; with_reducible rfl) ?_
      go_simp
      refine anyL_take (i := 7) rfl hD3 (by kernel_rfl) (by kernel_rfl) (by kernel_rfl) (by kernel_rfl) (fun _ _ _ h => nomatch h.1) rfl (fun W' hW' => by obtain ⟨x0, x1, x2⟩ := hrd3 W' hW'; go_simp; with_reducible rfl) ?_
      go_simp
      refine anyL_take (i := 8) rfl hD3 (by kernel_rfl) (by kernel_rfl) (by kernel_rfl) (by kernel_rfl) (fun _ _ _ h => nomatch h.1) rfl (fun W' hW' => by obtain ⟨x0, x1, x2⟩ := hrd3 W' hW'; go_simp; with_reducible rfl) ?_
      go_simp
      refine anyL_take (i := 9) rfl hD3 (by kernel_rfl) (by kernel_rfl) (by kernel_rfl) (by kernel_rfl) (fun _ _ _ h => nomatch h.1) rfl (fun W' hW' => by obtain ⟨x0, x1, x2⟩ := hrd3 W' hW'; go_simp; with_reducible rfl) ?_
      go_simp
      refine anyL_take (i := 10) rfl hD3 (by kernel_rfl) (by kernel_rfl) (by kernel_rfl) (by kernel_rfl) (fun _ _ _ h => nomatch h.1) rfl (fun W' hW' => by obtain ⟨x0, x1, x2⟩ := hrd3 W' hW'; go_simp; with_reducible rfl) ?_
      go_simp
      refine anyL_take (i := 11) rfl hD3 (by kernel_rfl) (by kernel_rfl) (by kernel_rfl) (by kernel_rfl) (fun _ _ _ h => nomatch h.1) rfl (fun W' hW' => by obtain ⟨x0, x1, x2⟩ := hrd3 W' hW'; go_simp; with_reducible rfl) ?_
      go_simp
      refine anyL_one (i := 12) (by kernel_rfl) rfl rfl ?_
      go_simp
      refine hw3.mono ?_
      rintro r W4 (⟨rfl, wv, qs, hW, hd, hf, hl⟩ | ⟨hr, rfl⟩)
      · have hD4 : Blk W4 pb (pairCells bA bB vA vB A B (now + later) at_) 38 ∧ Blk W4 xb cs 29 := ⟨hD3.1.chg hW.chg (fun hh => (hfA _ hh).1 rfl), hD3.2.chg hW.chg (fun hh => (hfA _ hh).2 rfl)⟩
        refine ⟨hD4, ?_⟩
        refine anyL_one (i := 13) (by kernel_rfl) rfl rfl ?_
        go_simp
        first | (refine anyL_done (by kernel_rfl) ?_ _; refine ⟨rfl, ?_⟩) | (refine ⟨hD4, anyL_done (by kernel_rfl) ?_ _⟩; refine ⟨rfl, ?_⟩)
        have hp4 : PairAt w0 W4 pb bA bB vA vB { A with e := { A.e with now := now + later, wv := wv }, ws := A.ws ++ qs } B (now + later) at_ := hp3.goA hW
        clear hp3 hD3 hrd3 hw3 hW
        have hsz2 : ¬ 9223372036854775807 < A.wrote.size + text.size := by omega
        go_upto_region 11 with (fail)
        have hD5 : Blk W4.drew pb (pairCells bA bB vA vB { A with e := { A.e with now := now + later, wv := wv }, ws := A.ws ++ qs } B (now + later) at_) 38 ∧ Blk W4.drew xb cs 29 := ⟨hp4.blk, hD4.2⟩
        have hrd5 : ∀ W', (Blk W' pb (pairCells bA bB vA vB { A with e := { A.e with now := now + later, wv := wv }, ws := A.ws ++ qs } B (now + later) at_) 38 ∧ Blk W' xb cs 29) → W'.cell? ⟨pb, 4, none⟩ = some (.string A.wrote) ∧ W'.cell? ⟨xb, 4, none⟩ = some (.string text) := fun W' h => ⟨h.1.cell 4 rfl, h.2.cell 4 hcs.out⟩
        have hw0 : IntKind.wrap .i64 0 = 0 := by kernel_rfl
        refine region_anyN (fun j => j != 0 && j != 9 && j != 10 && j != 12) (fun W' => Blk W' pb (pairCells bA bB vA vB { A with e := { A.e with now := now + later, wv := wv }, ws := A.ws ++ qs } B (now + later) at_) 38 ∧ Blk W' xb cs 29) hmix ?_
        refine anyL_pure (i := 0) rfl rfl (by kernel_rfl) (by kernel_rfl) (by kernel_rfl) (fun _ _ _ h => nomatch h.1) rfl (fun W' => by go_simp; with_reducible rfl) ?_
        go_simp
        refine anyL_pure (i := 9) rfl rfl (by kernel_rfl) (by kernel_rfl) (by kernel_rfl) (fun _ _ _ h => nomatch h.1) rfl (fun W' => by go_simp; with_reducible rfl) ?_
        go_simp
        refine anyL_pure (i := 10) rfl rfl (by kernel_rfl) (by kernel_rfl) (by kernel_rfl) (fun _ _ _ h => nomatch h.1) rfl (fun W' => by go_simp; with_reducible rfl) ?_
        go_simp
        refine anyL_take (i := 1) rfl hD5 (by kernel_rfl) (by kernel_rfl) (by kernel_rfl) (by kernel_rfl) (fun _ _ _ h => nomatch h.1) rfl (fun W' hW' => by obtain ⟨x0, x1⟩ := hrd5 W' hW'; go_simp; with_reducible rfl) ?_
        go_simp
        refine anyL_take (i := 2) rfl hD5 (by kernel_rfl) (by kernel_rfl) (by kernel_rfl) (by kernel_rfl) (fun _ _ _ h => nomatch h.1) rfl (fun W' hW' => by obtain ⟨x0, x1⟩ := hrd5 W' hW'; go_simp; with_reducible rfl) ?_
        go_simp
        refine anyL_take (i := 3) rfl hD5 (by kernel_rfl) (by kernel_rfl) (by kernel_rfl) (by kernel_rfl) (fun _ _ _ h => nomatch h.1) rfl (fun W' hW' => by obtain ⟨x0, x1⟩ := hrd5 W' hW'; go_simp; with_reducible rfl) ?_
        go_simp
        refine anyL_take (i := 4) rfl hD5 (by kernel_rfl) (by kernel_rfl) (by kernel_rfl) (by kernel_rfl) (fun _ _ _ h => nomatch h.1) rfl (fun W' hW' => by obtain ⟨x0, x1⟩ := hrd5 W' hW'; go_simp; with_reducible rfl) ?_
        go_simp
        refine anyL_take (i := 5) rfl hD5 (by kernel_rfl) (by kernel_rfl) (by kernel_rfl) (by kernel_rfl) (fun _ _ _ h => nomatch h.1) rfl (fun W' hW' => by obtain ⟨x0, x1⟩ := hrd5 W' hW'; go_simp; with_reducible rfl) ?_
        go_simp
        refine anyL_take (i := 6) rfl hD5 (by kernel_rfl) (by kernel_rfl) (by kernel_rfl) (by kernel_rfl) (fun _ _ _ h => nomatch h.1) rfl (fun W' hW' => by obtain ⟨x0, x1⟩ := hrd5 W' hW'; go_simp; with_reducible rfl) ?_
        go_simp
        refine anyL_take (i := 7) rfl hD5 (by kernel_rfl) (by kernel_rfl) (by kernel_rfl) (by kernel_rfl) (fun _ _ _ h => nomatch h.1) rfl (fun W' hW' => by obtain ⟨x0, x1⟩ := hrd5 W' hW'; go_simp; with_reducible rfl) ?_
        go_simp
        refine anyL_take (i := 8) rfl hD5 (by kernel_rfl) (by kernel_rfl) (by kernel_rfl) (by kernel_rfl) (fun _ _ _ h => nomatch h.1) rfl (fun W' hW' => by obtain ⟨x0, x1⟩ := hrd5 W' hW'; go_simp; with_reducible rfl) ?_
        go_simp
        refine anyL_take (i := 11) rfl hD5 (by kernel_rfl) (by kernel_rfl) (by kernel_rfl) (by kernel_rfl) (fun _ _ _ h => nomatch h.1) rfl (fun W' hW' => by obtain ⟨x0, x1⟩ := hrd5 W' hW'; go_simp; with_reducible rfl) ?_
        go_simp
        refine anyL_one (i := 12) (by kernel_rfl) rfl rfl ?_
        have q1 := hD5.1.frozen 4
        have q2 := hD5.1.cell 4 rfl
        go_simp
        first | (refine anyL_done (by kernel_rfl) ?_ _; refine ⟨rfl, ?_⟩) | (refine ⟨hD5, anyL_done (by kernel_rfl) ?_ _⟩; refine ⟨rfl, ?_⟩)
        clear q1 q2 hrd5
        have hp5 : PairAt w0 (W4.setCell ⟨pb, 4, none⟩ (.string (A.wrote ++ text))) pb bA bB vA vB { A with e := { A.e with now := now + later, wv := wv }, ws := A.ws ++ qs, wrote := A.wrote ++ text } B (now + later) at_ :=
          hp4.own (w1 := A.wrote ++ text) (w2 := B.wrote) (r1 := A.read) (r2 := B.read) ((Chg.refl (· = pb) W4).setCell (p := ⟨pb, 4, none⟩) (.inl rfl) (.string (A.wrote ++ text))) (hp4.blk.set 4 (.string (A.wrote ++ text)))
        have hp6 := hp5.below (Below.refl _ _).drew
        generalize (W4.setCell ⟨pb, 4, none⟩ (.string (A.wrote ++ text))).drew = W6 at hp6 ⊢
        clear hp4 hp5 hD4 hD5
        have o6 := o2.writeA wv hT0 hc.out hd hf hl (by omega) ht
        clear hd hf hl o2
        go_wp2_with (fail)
        go_ret
        exact ⟨rfl, _, _, _, _, _, _, _, hp6, o6, a0, a2.out, lA.out, lB.out, hc.out⟩
      · rcases hr with rfl | rfl
        all_goals
          refine ⟨hD3, ?_⟩
          refine anyL_one (i := 13) (by kernel_rfl) rfl rfl ?_
          go_simp
          first | (refine anyL_done (by kernel_rfl) ?_ _; refine ⟨rfl, ?_⟩) | (refine ⟨hD3, anyL_done (by kernel_rfl) ?_ _⟩; refine ⟨rfl, ?_⟩)
          have hp6 := hp3.below (Below.refl _ _).drew
          have hp3' := hp3
          clear hp3 hD3 hrd3 hw3
          go_wp2_with (fail)
          go_ret
          first | exact ⟨rfl, _, _, _, _, _, _, _, hp3', o2, a0, a2.out, lA.out, lB.out, hc.out⟩ | exact ⟨rfl, _, _, _, _, _, _, _, hp6, o2, a0, a2.out, lA.out, lB.out, hc.out⟩

set_option maxHeartbeats 6400000 in
set_option maxRecDepth 100000 in
theorem do1_write (w : World) (kind who n later : Int) (text : ByteArray) (g : Going w0 pb bA bB conn first other limit now m false w) (hk : kind = 1 ∨ kind = 2) (hwho : (wrap64 (who.tmod 2 + 2)).tmod 2 = 1) (h0 : 0 ≤ now) (h1 : now ≤ 500000000) (hl0 : 0 ≤ later) (hl1 : later ≤ 100000) (ht : text.size ≤ 300) :
    Calls Try.prog 7 #[.pointer (some ⟨pb, 0, none⟩), .agg #[vi kind, vi who, vi n, vi later, .string text], vi limit] w (GoR w0 pb bA bB conn first other limit (now + later) m false) := by
  have hmix : Try.prog.follows .mixedOrders = true := by kernel_rfl
  obtain ⟨hA, hB, A, B, vA, vB, at_, p, o, a0, a1, lA, lB, hc⟩ := g
  replace hwho : Hid ((wrap64 (who.tmod 2 + 2)).tmod 2 = 1) := hwho
  obtain ⟨num, hnum⟩ : ∃ num, Hid (num = wrap64 (1 + (wrap64 (n.tmod 40 + 40)).tmod 40)) := ⟨_, rfl⟩
  replace lA : Hid (A.way.length ≤ m) := lA
  replace lB : Hid (B.way.length ≤ m) := lB
  replace hc : Hid (A.e.closing = false) := hc
  have a2 : Hid (at_ ≤ m) := a1
  clear a1
  have hwl : IntKind.i64.wrap (now + later) = now + later := IntWalk.i64_in _ (by omega)
  replace hwl : Hid (IntKind.i64.wrap (now + later) = now + later) := hwl
  go_enter Try.func7, Try.ntmps7
  go_upto_region 3 with (fail)
  rw [hwho.out]
  have p1 := p.below ((Below.refl _ w).alloc (Nat.le_refl _) (.cells #[vi kind, vi who, vi n, vi later, .string text] 29))
  have hX := Blk.new w #[vi kind, vi who, vi n, vi later, .string text] 29
  have hxp : w.heap.size ≠ pb := by have := p.blk.lt; omega
  have hxA : ∀ x ∈ A.foot bA, x < w.heap.size := p.ea.lt
  have hxB : ∀ x ∈ B.foot bB, x < w.heap.size := p.eb.lt
  generalize hxb : w.heap.size = xb at hX hxp hxA hxB ⊢
  clear hxb p
  generalize w.alloc (.cells #[vi kind, vi who, vi n, vi later, .string text] 29) = W1 at p1 hX ⊢
  have hD : Blk W1.drew pb (pairCells bA bB vA vB A B now at_) 38 ∧ Blk W1.drew xb #[vi kind, vi who, vi n, vi later, .string text] 29 := ⟨p1.blk.drew, hX.drew⟩
  have hrd : ∀ W', (Blk W' pb (pairCells bA bB vA vB A B now at_) 38 ∧ Blk W' xb #[vi kind, vi who, vi n, vi later, .string text] 29) → W'.cell? ⟨pb, 8, none⟩ = some (vi now) ∧ W'.cell? ⟨xb, 3, none⟩ = some (vi later) := fun W' h => ⟨h.1.cell 8 rfl, h.2.cell 3 rfl⟩
  refine region_anyN (fun j => j != 9) (fun W' => Blk W' pb (pairCells bA bB vA vB A B now at_) 38 ∧ Blk W' xb #[vi kind, vi who, vi n, vi later, .string text] 29) hmix ?_
  refine anyL_take (i := 0) rfl hD (by kernel_rfl) (by kernel_rfl) (by kernel_rfl) (by kernel_rfl) (fun _ _ _ h => nomatch h.1) rfl (fun W' hW' => by obtain ⟨x0, x1⟩ := hrd W' hW'; go_simp; with_reducible rfl) ?_
  go_simp
  refine anyL_take (i := 1) rfl hD (by kernel_rfl) (by kernel_rfl) (by kernel_rfl) (by kernel_rfl) (fun _ _ _ h => nomatch h.1) rfl (fun W' hW' => by obtain ⟨x0, x1⟩ := hrd W' hW'; go_simp; with_reducible rfl) ?_
  go_simp
  refine anyL_take (i := 2) rfl hD (by kernel_rfl) (by kernel_rfl) (by kernel_rfl) (by kernel_rfl) (fun _ _ _ h => nomatch h.1) rfl (fun W' hW' => by obtain ⟨x0, x1⟩ := hrd W' hW'; go_simp; with_reducible rfl) ?_
  go_simp
  refine anyL_take (i := 3) rfl hD (by kernel_rfl) (by kernel_rfl) (by kernel_rfl) (by kernel_rfl) (fun _ _ _ h => nomatch h.1) rfl (fun W' hW' => by obtain ⟨x0, x1⟩ := hrd W' hW'; go_simp; with_reducible rfl) ?_
  go_simp
  refine anyL_take (i := 4) rfl hD (by kernel_rfl) (by kernel_rfl) (by kernel_rfl) (by kernel_rfl) (fun _ _ _ h => nomatch h.1) rfl (fun W' hW' => by obtain ⟨x0, x1⟩ := hrd W' hW'; go_simp; with_reducible rfl) ?_
  go_simp
  refine anyL_take (i := 5) rfl hD (by kernel_rfl) (by kernel_rfl) (by kernel_rfl) (by kernel_rfl) (fun _ _ _ h => nomatch h.1) rfl (fun W' hW' => by obtain ⟨x0, x1⟩ := hrd W' hW'; go_simp; with_reducible rfl) ?_
  go_simp
  refine anyL_take (i := 6) rfl hD (by kernel_rfl) (by kernel_rfl) (by kernel_rfl) (by kernel_rfl) (fun _ _ _ h => nomatch h.1) rfl (fun W' _ => by have hw := hwl.out; go_simp; with_reducible rfl) ?_
  have hw := hwl.out
  go_simp
  refine anyL_one (i := 7) (by kernel_rfl) rfl rfl ?_
  go_simp
  try refine ⟨hD, ?_⟩
  refine anyL_one (i := 8) (by kernel_rfl) rfl rfl ?_
  go_simp
  try refine ⟨hD, ?_⟩
  have q1 := hD.1.frozen 8
  have q2 := hD.1.cell 8 rfl
  refine anyL_one (i := 9) (by kernel_rfl) rfl rfl ?_
  go_simp
  first | (refine anyL_done (by kernel_rfl) ?_ _; refine ⟨rfl, ?_⟩) | (refine ⟨hD, anyL_done (by kernel_rfl) ?_ _⟩; refine ⟨rfl, ?_⟩)
  clear q1 q2 hrd hw
  have p2 : PairAt w0 (W1.setCell ⟨pb, 8, none⟩ (vi (now + later))).drew pb bA bB vA vB A B (now + later) at_ :=
    (p1.own (w1 := A.wrote) (w2 := B.wrote) (r1 := A.read) (r2 := B.read) ((Chg.refl (· = pb) W1).setCell (p := ⟨pb, 8, none⟩) (.inl rfl) (vi (now + later))) (p1.blk.set 8 _)).below (Below.refl _ _).drew
  have hX2 : Blk (W1.setCell ⟨pb, 8, none⟩ (vi (now + later))).drew xb #[vi kind, vi who, vi n, vi later, .string text] 29 := hX.other hxp 8 _
  generalize (W1.setCell ⟨pb, 8, none⟩ (vi (now + later))).drew = W2 at p2 hX2 ⊢
  have o2 := o.later (n2 := now + later) (by omega)
  have hT0 : 0 ≤ now + later := by omega
  have hT1 : now + later ≤ 1000000000 := by omega
  have hsum := o.sum
  clear p1 hX hD o hwl h0 h1 hl0 hl1 hwho hnum
  have c1 : W2.cell? ⟨pb, 4, none⟩ = some (.string A.wrote) := p2.blk.cell 4 rfl
  have c2 : W2.cell? ⟨pb, 5, none⟩ = some (.string B.wrote) := p2.blk.cell 5 rfl
  have cm : GoR w0 pb bA bB conn first other limit (now + later) m false (.returned (.bool true)) W2 := ⟨rfl, hA, hB, A, B, vA, vB, at_, p2, o2, a0, a2.out, lA.out, lB.out, hc.out⟩
  have cmN : ∀ k, GoR w0 pb bA bB conn first other limit (now + later) m false (.returned (.bool true)) (W2.drewN k) := fun k => ⟨rfl, hA, hB, A, B, vA, vB, at_, p2.below (belowDrewN (Below.refl _ _) _), o2, a0, a2.out, lA.out, lB.out, hc.out⟩
  have hws : IntKind.i64.wrap ((A.wrote.size : Int) + B.wrote.size) = (A.wrote.size : Int) + B.wrote.size := IntWalk.i64_in _ (by omega)
  replace hws : Hid (IntKind.i64.wrap ((A.wrote.size : Int) + B.wrote.size) = (A.wrote.size : Int) + B.wrote.size) := hws
  have c0 : W2.cell? ⟨xb, 0, none⟩ = some (vi kind) := hX2.cell 0 rfl
  obtain ⟨cs, hcs0⟩ : ∃ cs : Array Value, cs = #[vi kind, vi who, vi n, vi later, .string text] := ⟨_, rfl⟩
  have hcs : Hid (cs[4]? = some (.string text)) := by subst hcs0; exact (rfl : (#[vi kind, vi who, vi n, vi later, .string text] : Array Value)[4]? = some (.string text))
  rw [← hcs0] at hX2
  clear hcs0
  have hwr : ∀ k, Calls Try.prog 19 #[.pointer (some ⟨bB, 0, none⟩), vi (now + later), .string text] (W2.drewN k).drew (WritePost (W2.drewN k).drew bB B.e B.ws B.fs B.ks B.clk (now + later) text) := by
    intro k
    by_cases hst : B.e.closing = false ∧ (B.e.state = 1 ∨ B.e.state = 2)
    · have := o2.sb.small
      exact Write_calls (W2.drewN k).drew (now + later) text (p2.eb.drewN k).drew o2.nowB.2 hT1 (by omega) (by omega) (by have := o2.bdB.1; omega) o2.bdB.2 hst.1 hst.2
    · refine (Write_not (W2.drewN k).drew (now + later) text ((p2.eb.drewN k).drew).blk o2.nowB.2 hT1 (by omega) ?_).mono fun r w' h => .inr ⟨.inl h.1, h.2⟩
      by_cases hcl : B.e.closing = true
      · exact .inl hcl
      · exact .inr (fun hh => hst ⟨by simpa using hcl, hh⟩)
  rcases hk with rfl | rfl
  all_goals
    go_upto_region 7 with (fail)
    have hw := hws.out
    by_cases h3 : 3000 < A.wrote.size + B.wrote.size
    · clear cm
      go_quiet (fail)
      clear hw
      go_wp2_with (fail)
      go_ret
      exact cmN _
    · clear cm
      go_quiet (fail)
      clear hw
      go_upto_region 9 with (fail)
      have hD3 : Blk (W2.drewN nq).drew pb (pairCells bA bB vA vB A B (now + later) at_) 38 ∧ Blk (W2.drewN nq).drew xb cs 29 := ⟨p2.blk, hX2⟩
      have hp3 : PairAt w0 (W2.drewN nq).drew pb bA bB vA vB A B (now + later) at_ := (p2.below (belowDrewN (Below.refl _ _) nq)).below (Below.refl _ _).drew
      have hrd3 : ∀ W', (Blk W' pb (pairCells bA bB vA vB A B (now + later) at_) 38 ∧ Blk W' xb cs 29) → W'.cell? ⟨pb, 1, none⟩ = some (.pointer (some ⟨bB, 0, none⟩)) ∧ W'.cell? ⟨pb, 8, none⟩ = some (vi (now + later)) ∧ W'.cell? ⟨xb, 4, none⟩ = some (.string text) := fun W' h => ⟨h.1.cell 1 rfl, h.1.cell 8 rfl, h.2.cell 4 hcs.out⟩
      have hfA : ∀ x ∈ B.foot bB, x ≠ pb ∧ x ≠ xb := fun x hx => ⟨(hp3.d2 x hx).1, by have := hxB x hx; omega⟩
      have hw3 := hwr nq
      clear hwr c0 c1 c2 hws hX2
      generalize W2.drewN nq = W3 at hD3 hp3 hw3 ⊢
      clear p2 cmN
      refine region_anyN (fun _ => true) (fun W' => Blk W' pb (pairCells bA bB vA vB A B (now + later) at_) 38 ∧ Blk W' xb cs 29) hmix ?_
      refine anyL_take (i := 0) rfl hD3 (by kernel_rfl) (by kernel_rfl) (by kernel_rfl) (by kernel_rfl) (fun _ _ _ h => nomatch h.1) rfl (fun W' hW' => by obtain ⟨x0, x1, x2⟩ := hrd3 W' hW'; go_simp; with_reducible rfl) ?_
      go_simp
      refine anyL_take (i := 1) rfl hD3 (by kernel_rfl) (by kernel_rfl) (by kernel_rfl) (by kernel_rfl) (fun _ _ _ h => nomatch h.1) rfl (fun W' hW' => by obtain ⟨x0, x1, x2⟩ := hrd3 W' hW'; go_simp; with_reducible rfl) ?_
      go_simp
      refine anyL_take (i := 2) rfl hD3 (by kernel_rfl) (by kernel_rfl) (by kernel_rfl) (by kernel_rfl) (fun _ _ _ h => nomatch h.1) rfl (fun W' hW' => by obtain ⟨x0, x1, x2⟩ := hrd3 W' hW'; go_simp; with_reducible rfl) ?_
      go_simp
      refine anyL_take (i := 3) rfl hD3 (by kernel_rfl) (by kernel_rfl) (by kernel_rfl) (by kernel_rfl) (fun _ _ _ h => nomatch h.1) rfl (fun W' hW' => by obtain ⟨x0, x1, x2⟩ := hrd3 W' hW'; go_simp; with_reducible rfl) ?_
      go_simp
      refine anyL_take (i := 4) rfl hD3 (by kernel_rfl) (by kernel_rfl) (by kernel_rfl) (by kernel_rfl) (fun _ _ _ h => nomatch h.1) rfl (fun W' hW' => by obtain ⟨x0, x1, x2⟩ := hrd3 W' hW'; go_simp; with_reducible rfl) ?_
      go_simp
      refine anyL_take (i := 5) rfl hD3 (by kernel_rfl) (by kernel_rfl) (by kernel_rfl) (by kernel_rfl) (fun _ _ _ h => nomatch h.1) rfl (fun W' hW' => by obtain ⟨x0, x1, x2⟩ := hrd3 W' hW'; go_simp; with_reducible rfl) ?_
      go_simp
      refine anyL_take (i := 6) rfl hD3 (by kernel_rfl) (by kernel_rfl) (by kernel_rfl) (by kernel_rfl) (fun _ _ _ h => nomatch h.1) rfl (fun W' hW' => by obtain ⟨x0, x1, x2⟩ := hrd3 W' hW'; go_simp; with_reducible rfl) ?_
      go_simp
      refine anyL_take (i := 7) rfl hD3 (by kernel_rfl) (by kernel_rfl) (by kernel_rfl) (by kernel_rfl) (fun _ _ _ h => nomatch h.1) rfl (fun W' hW' => by obtain ⟨x0, x1, x2⟩ := hrd3 W' hW'; go_simp; with_reducible rfl) ?_
      go_simp
      refine anyL_take (i := 8) rfl hD3 (by kernel_rfl) (by kernel_rfl) (by kernel_rfl) (by kernel_rfl) (fun _ _ _ h => nomatch h.1) rfl (fun W' hW' => by obtain ⟨x0, x1, x2⟩ := hrd3 W' hW'; go_simp; with_reducible rfl) ?_
      go_simp
      refine anyL_take (i := 9) rfl hD3 (by kernel_rfl) (by kernel_rfl) (by kernel_rfl) (by kernel_rfl) (fun _ _ _ h => nomatch h.1) rfl (fun W' hW' => by obtain ⟨x0, x1, x2⟩ := hrd3 W' hW'; go_simp; with_reducible rfl) ?_
      go_simp
      refine anyL_take (i := 10) rfl hD3 (by kernel_rfl) (by kernel_rfl) (by kernel_rfl) (by kernel_rfl) (fun _ _ _ h => nomatch h.1) rfl (fun W' hW' => by obtain ⟨x0, x1, x2⟩ := hrd3 W' hW'; go_simp; with_reducible rfl) ?_
      go_simp
      refine anyL_take (i := 11) rfl hD3 (by kernel_rfl) (by kernel_rfl) (by kernel_rfl) (by kernel_rfl) (fun _ _ _ h => nomatch h.1) rfl (fun W' hW' => by obtain ⟨x0, x1, x2⟩ := hrd3 W' hW'; go_simp; with_reducible rfl) ?_
      go_simp
      refine anyL_one (i := 12) (by kernel_rfl) rfl rfl ?_
      go_simp
      refine hw3.mono ?_
      rintro r W4 (⟨rfl, wv, qs, hW, hd, hf, hl⟩ | ⟨hr, rfl⟩)
      · have hD4 : Blk W4 pb (pairCells bA bB vA vB A B (now + later) at_) 38 ∧ Blk W4 xb cs 29 := ⟨hD3.1.chg hW.chg (fun hh => (hfA _ hh).1 rfl), hD3.2.chg hW.chg (fun hh => (hfA _ hh).2 rfl)⟩
        refine ⟨hD4, ?_⟩
        refine anyL_one (i := 13) (by kernel_rfl) rfl rfl ?_
        go_simp
        first | (refine anyL_done (by kernel_rfl) ?_ _; refine ⟨rfl, ?_⟩) | (refine ⟨hD4, anyL_done (by kernel_rfl) ?_ _⟩; refine ⟨rfl, ?_⟩)
        have hp4 : PairAt w0 W4 pb bA bB vA vB A { B with e := { B.e with now := now + later, wv := wv }, ws := B.ws ++ qs } (now + later) at_ := hp3.goB hW
        clear hp3 hD3 hrd3 hw3 hW
        have hsz2 : ¬ 9223372036854775807 < B.wrote.size + text.size := by omega
        go_upto_region 11 with (fail)
        have hD5 : Blk W4.drew pb (pairCells bA bB vA vB A { B with e := { B.e with now := now + later, wv := wv }, ws := B.ws ++ qs } (now + later) at_) 38 ∧ Blk W4.drew xb cs 29 := ⟨hp4.blk, hD4.2⟩
        have hrd5 : ∀ W', (Blk W' pb (pairCells bA bB vA vB A { B with e := { B.e with now := now + later, wv := wv }, ws := B.ws ++ qs } (now + later) at_) 38 ∧ Blk W' xb cs 29) → W'.cell? ⟨pb, 5, none⟩ = some (.string B.wrote) ∧ W'.cell? ⟨xb, 4, none⟩ = some (.string text) := fun W' h => ⟨h.1.cell 5 rfl, h.2.cell 4 hcs.out⟩
        have hw0 : IntKind.wrap .i64 1 = 1 := by kernel_rfl
        refine region_anyN (fun j => j != 0 && j != 9 && j != 10 && j != 12) (fun W' => Blk W' pb (pairCells bA bB vA vB A { B with e := { B.e with now := now + later, wv := wv }, ws := B.ws ++ qs } (now + later) at_) 38 ∧ Blk W' xb cs 29) hmix ?_
        refine anyL_pure (i := 0) rfl rfl (by kernel_rfl) (by kernel_rfl) (by kernel_rfl) (fun _ _ _ h => nomatch h.1) rfl (fun W' => by go_simp; with_reducible rfl) ?_
        go_simp
        refine anyL_pure (i := 9) rfl rfl (by kernel_rfl) (by kernel_rfl) (by kernel_rfl) (fun _ _ _ h => nomatch h.1) rfl (fun W' => by go_simp; with_reducible rfl) ?_
        go_simp
        refine anyL_pure (i := 10) rfl rfl (by kernel_rfl) (by kernel_rfl) (by kernel_rfl) (fun _ _ _ h => nomatch h.1) rfl (fun W' => by go_simp; with_reducible rfl) ?_
        go_simp
        refine anyL_take (i := 1) rfl hD5 (by kernel_rfl) (by kernel_rfl) (by kernel_rfl) (by kernel_rfl) (fun _ _ _ h => nomatch h.1) rfl (fun W' hW' => by obtain ⟨x0, x1⟩ := hrd5 W' hW'; go_simp; with_reducible rfl) ?_
        go_simp
        refine anyL_take (i := 2) rfl hD5 (by kernel_rfl) (by kernel_rfl) (by kernel_rfl) (by kernel_rfl) (fun _ _ _ h => nomatch h.1) rfl (fun W' hW' => by obtain ⟨x0, x1⟩ := hrd5 W' hW'; go_simp; with_reducible rfl) ?_
        go_simp
        refine anyL_take (i := 3) rfl hD5 (by kernel_rfl) (by kernel_rfl) (by kernel_rfl) (by kernel_rfl) (fun _ _ _ h => nomatch h.1) rfl (fun W' hW' => by obtain ⟨x0, x1⟩ := hrd5 W' hW'; go_simp; with_reducible rfl) ?_
        go_simp
        refine anyL_take (i := 4) rfl hD5 (by kernel_rfl) (by kernel_rfl) (by kernel_rfl) (by kernel_rfl) (fun _ _ _ h => nomatch h.1) rfl (fun W' hW' => by obtain ⟨x0, x1⟩ := hrd5 W' hW'; go_simp; with_reducible rfl) ?_
        go_simp
        refine anyL_take (i := 5) rfl hD5 (by kernel_rfl) (by kernel_rfl) (by kernel_rfl) (by kernel_rfl) (fun _ _ _ h => nomatch h.1) rfl (fun W' hW' => by obtain ⟨x0, x1⟩ := hrd5 W' hW'; go_simp; with_reducible rfl) ?_
        go_simp
        refine anyL_take (i := 6) rfl hD5 (by kernel_rfl) (by kernel_rfl) (by kernel_rfl) (by kernel_rfl) (fun _ _ _ h => nomatch h.1) rfl (fun W' hW' => by obtain ⟨x0, x1⟩ := hrd5 W' hW'; go_simp; with_reducible rfl) ?_
        go_simp
        refine anyL_take (i := 7) rfl hD5 (by kernel_rfl) (by kernel_rfl) (by kernel_rfl) (by kernel_rfl) (fun _ _ _ h => nomatch h.1) rfl (fun W' hW' => by obtain ⟨x0, x1⟩ := hrd5 W' hW'; go_simp; with_reducible rfl) ?_
        go_simp
        refine anyL_take (i := 8) rfl hD5 (by kernel_rfl) (by kernel_rfl) (by kernel_rfl) (by kernel_rfl) (fun _ _ _ h => nomatch h.1) rfl (fun W' hW' => by obtain ⟨x0, x1⟩ := hrd5 W' hW'; go_simp; with_reducible rfl) ?_
        go_simp
        refine anyL_take (i := 11) rfl hD5 (by kernel_rfl) (by kernel_rfl) (by kernel_rfl) (by kernel_rfl) (fun _ _ _ h => nomatch h.1) rfl (fun W' hW' => by obtain ⟨x0, x1⟩ := hrd5 W' hW'; go_simp; with_reducible rfl) ?_
        go_simp
        refine anyL_one (i := 12) (by kernel_rfl) rfl rfl ?_
        have q1 := hD5.1.frozen 5
        have q2 := hD5.1.cell 5 rfl
        go_simp
        first | (refine anyL_done (by kernel_rfl) ?_ _; refine ⟨rfl, ?_⟩) | (refine ⟨hD5, anyL_done (by kernel_rfl) ?_ _⟩; refine ⟨rfl, ?_⟩)
        clear q1 q2 hrd5
        have hp5 : PairAt w0 (W4.setCell ⟨pb, 5, none⟩ (.string (B.wrote ++ text))) pb bA bB vA vB A { B with e := { B.e with now := now + later, wv := wv }, ws := B.ws ++ qs, wrote := B.wrote ++ text } (now + later) at_ :=
          hp4.own (w1 := A.wrote) (w2 := B.wrote ++ text) (r1 := A.read) (r2 := B.read) ((Chg.refl (· = pb) W4).setCell (p := ⟨pb, 5, none⟩) (.inl rfl) (.string (B.wrote ++ text))) (hp4.blk.set 5 (.string (B.wrote ++ text)))
        have hp6 := hp5.below (Below.refl _ _).drew
        generalize (W4.setCell ⟨pb, 5, none⟩ (.string (B.wrote ++ text))).drew = W6 at hp6 ⊢
        clear hp4 hp5 hD4 hD5
        have o6 := o2.writeB wv hT0 hd hf hl (by omega) ht
        clear hd hf hl o2
        go_wp2_with (fail)
        go_ret
        exact ⟨rfl, _, _, _, _, _, _, _, hp6, o6, a0, a2.out, lA.out, lB.out, hc.out⟩
      · rcases hr with rfl | rfl
        all_goals
          refine ⟨hD3, ?_⟩
          refine anyL_one (i := 13) (by kernel_rfl) rfl rfl ?_
          go_simp
          first | (refine anyL_done (by kernel_rfl) ?_ _; refine ⟨rfl, ?_⟩) | (refine ⟨hD3, anyL_done (by kernel_rfl) ?_ _⟩; refine ⟨rfl, ?_⟩)
          have hp6 := hp3.below (Below.refl _ _).drew
          have hp3' := hp3
          clear hp3 hD3 hrd3 hw3
          go_wp2_with (fail)
          go_ret
          first | exact ⟨rfl, _, _, _, _, _, _, _, hp3', o2, a0, a2.out, lA.out, lB.out, hc.out⟩ | exact ⟨rfl, _, _, _, _, _, _, _, hp6, o2, a0, a2.out, lA.out, lB.out, hc.out⟩

theorem who_or (a : Int) : (wrap64 (a.tmod 2 + 2)).tmod 2 = 0 ∨ (wrap64 (a.tmod 2 + 2)).tmod 2 = 1 := by
  have h1 := Int.tmod_lt_of_pos a (b := 2) (by decide)
  have h2 := Int.lt_tmod_of_pos a (b := 2) (by decide)
  rw [show wrap64 (a.tmod 2 + 2) = a.tmod 2 + 2 from by unfold wrap64; omega, Int.tmod_eq_emod_of_nonneg (by omega)]
  omega

theorem num_in (a : Int) : 1 ≤ wrap64 (1 + (wrap64 (a.tmod 40 + 40)).tmod 40) ∧ wrap64 (1 + (wrap64 (a.tmod 40 + 40)).tmod 40) ≤ 40 := by
  have h1 := Int.tmod_lt_of_pos a (b := 40) (by decide)
  have h2 := Int.lt_tmod_of_pos a (b := 40) (by decide)
  rw [show wrap64 (a.tmod 40 + 40) = a.tmod 40 + 40 from by unfold wrap64; omega, Int.tmod_eq_emod_of_nonneg (by omega)]
  rw [show wrap64 (1 + (a.tmod 40 + 40) % 40) = 1 + (a.tmod 40 + 40) % 40 from by unfold wrap64; omega]
  omega

set_option maxHeartbeats 6400000 in
set_option maxRecDepth 100000 in
theorem do_rest (w : World) (kind who n later : Int) (text : ByteArray) (g : Going w0 pb bA bB conn first other limit now m false w) (hk1 : kind ≠ 1) (hk2 : kind ≠ 2) (hk6 : kind ≠ 6) (hm : m ≤ 100000000) (h0 : 0 ≤ now) (h1 : now ≤ 500000000) (hl0 : 0 ≤ later) (hl1 : later ≤ 100000) :
    Calls Try.prog 7 #[.pointer (some ⟨pb, 0, none⟩), .agg #[vi kind, vi who, vi n, vi later, .string text], vi limit] w (GoR w0 pb bA bB conn first other limit (now + later) (m + 100000) false) := by
  have hmix : Try.prog.follows .mixedOrders = true := by kernel_rfl
  obtain ⟨hA, hB, A, B, vA, vB, at_, p, o, a0, a1, lA, lB, hc⟩ := g
  obtain ⟨q, hq, hq2⟩ : ∃ q, Hid ((wrap64 (who.tmod 2 + 2)).tmod 2 = q) ∧ (q = 0 ∨ q = 1) := ⟨_, rfl, who_or who⟩
  obtain ⟨num, hnum, hn⟩ : ∃ num, Hid (wrap64 (1 + (wrap64 (n.tmod 40 + 40)).tmod 40) = num) ∧ Hid (1 ≤ num ∧ num ≤ 40) := ⟨_, rfl, num_in n⟩
  replace lA : Hid (A.way.length ≤ m) := lA
  replace lB : Hid (B.way.length ≤ m) := lB
  replace hc : Hid (A.e.closing = false) := hc
  have a2 : Hid (at_ ≤ m) := a1
  clear a1
  have hwl : IntKind.i64.wrap (now + later) = now + later := IntWalk.i64_in _ (by omega)
  replace hwl : Hid (IntKind.i64.wrap (now + later) = now + later) := hwl
  replace hq2 : Hid (q = 0 ∨ q = 1) := hq2
  replace hk1 : Hid (kind ≠ 1) := hk1
  replace hk2 : Hid (kind ≠ 2) := hk2
  replace hk6 : Hid (kind ≠ 6) := hk6
  go_enter Try.func7, Try.ntmps7
  go_upto_region 3 with (fail)
  rw [hq.out, hnum.out]
  have p1 := p.below ((Below.refl _ w).alloc (Nat.le_refl _) (.cells #[vi kind, vi who, vi n, vi later, .string text] 29))
  have hX := Blk.new w #[vi kind, vi who, vi n, vi later, .string text] 29
  have hxp : w.heap.size ≠ pb := by have := p.blk.lt; omega
  have hxA : ∀ x ∈ A.foot bA, x < w.heap.size := p.ea.lt
  have hxB : ∀ x ∈ B.foot bB, x < w.heap.size := p.eb.lt
  generalize hxb : w.heap.size = xb at hX hxp hxA hxB ⊢
  clear hxb p
  generalize w.alloc (.cells #[vi kind, vi who, vi n, vi later, .string text] 29) = W1 at p1 hX ⊢
  have hD : Blk W1.drew pb (pairCells bA bB vA vB A B now at_) 38 ∧ Blk W1.drew xb #[vi kind, vi who, vi n, vi later, .string text] 29 := ⟨p1.blk.drew, hX.drew⟩
  have hrd : ∀ W', (Blk W' pb (pairCells bA bB vA vB A B now at_) 38 ∧ Blk W' xb #[vi kind, vi who, vi n, vi later, .string text] 29) → W'.cell? ⟨pb, 8, none⟩ = some (vi now) ∧ W'.cell? ⟨xb, 3, none⟩ = some (vi later) := fun W' h => ⟨h.1.cell 8 rfl, h.2.cell 3 rfl⟩
  refine region_anyN (fun j => j != 9) (fun W' => Blk W' pb (pairCells bA bB vA vB A B now at_) 38 ∧ Blk W' xb #[vi kind, vi who, vi n, vi later, .string text] 29) hmix ?_
  refine anyL_take (i := 0) rfl hD (by kernel_rfl) (by kernel_rfl) (by kernel_rfl) (by kernel_rfl) (fun _ _ _ h => nomatch h.1) rfl (fun W' hW' => by obtain ⟨x0, x1⟩ := hrd W' hW'; go_simp; with_reducible rfl) ?_
  go_simp
  refine anyL_take (i := 1) rfl hD (by kernel_rfl) (by kernel_rfl) (by kernel_rfl) (by kernel_rfl) (fun _ _ _ h => nomatch h.1) rfl (fun W' hW' => by obtain ⟨x0, x1⟩ := hrd W' hW'; go_simp; with_reducible rfl) ?_
  go_simp
  refine anyL_take (i := 2) rfl hD (by kernel_rfl) (by kernel_rfl) (by kernel_rfl) (by kernel_rfl) (fun _ _ _ h => nomatch h.1) rfl (fun W' hW' => by obtain ⟨x0, x1⟩ := hrd W' hW'; go_simp; with_reducible rfl) ?_
  go_simp
  refine anyL_take (i := 3) rfl hD (by kernel_rfl) (by kernel_rfl) (by kernel_rfl) (by kernel_rfl) (fun _ _ _ h => nomatch h.1) rfl (fun W' hW' => by obtain ⟨x0, x1⟩ := hrd W' hW'; go_simp; with_reducible rfl) ?_
  go_simp
  refine anyL_take (i := 4) rfl hD (by kernel_rfl) (by kernel_rfl) (by kernel_rfl) (by kernel_rfl) (fun _ _ _ h => nomatch h.1) rfl (fun W' hW' => by obtain ⟨x0, x1⟩ := hrd W' hW'; go_simp; with_reducible rfl) ?_
  go_simp
  refine anyL_take (i := 5) rfl hD (by kernel_rfl) (by kernel_rfl) (by kernel_rfl) (by kernel_rfl) (fun _ _ _ h => nomatch h.1) rfl (fun W' hW' => by obtain ⟨x0, x1⟩ := hrd W' hW'; go_simp; with_reducible rfl) ?_
  go_simp
  refine anyL_take (i := 6) rfl hD (by kernel_rfl) (by kernel_rfl) (by kernel_rfl) (by kernel_rfl) (fun _ _ _ h => nomatch h.1) rfl (fun W' _ => by have hw := hwl.out; go_simp; with_reducible rfl) ?_
  have hw := hwl.out
  go_simp
  refine anyL_one (i := 7) (by kernel_rfl) rfl rfl ?_
  go_simp
  try refine ⟨hD, ?_⟩
  refine anyL_one (i := 8) (by kernel_rfl) rfl rfl ?_
  go_simp
  try refine ⟨hD, ?_⟩
  have q1 := hD.1.frozen 8
  have q2 := hD.1.cell 8 rfl
  refine anyL_one (i := 9) (by kernel_rfl) rfl rfl ?_
  go_simp
  first | (refine anyL_done (by kernel_rfl) ?_ _; refine ⟨rfl, ?_⟩) | (refine ⟨hD, anyL_done (by kernel_rfl) ?_ _⟩; refine ⟨rfl, ?_⟩)
  clear q1 q2 hrd hw
  have p2 : PairAt w0 (W1.setCell ⟨pb, 8, none⟩ (vi (now + later))).drew pb bA bB vA vB A B (now + later) at_ :=
    (p1.own (w1 := A.wrote) (w2 := B.wrote) (r1 := A.read) (r2 := B.read) ((Chg.refl (· = pb) W1).setCell (p := ⟨pb, 8, none⟩) (.inl rfl) (vi (now + later))) (p1.blk.set 8 _)).below (Below.refl _ _).drew
  have hX2 : Blk (W1.setCell ⟨pb, 8, none⟩ (vi (now + later))).drew xb #[vi kind, vi who, vi n, vi later, .string text] 29 := hX.other hxp 8 _
  generalize (W1.setCell ⟨pb, 8, none⟩ (vi (now + later))).drew = W2 at p2 hX2 ⊢
  have o2 := o.later (n2 := now + later) (by omega)
  have hT0 : 0 ≤ now + later := by omega
  have hT1 : now + later ≤ 1000000000 := by omega
  have g2 : Going w0 pb bA bB conn first other limit (now + later) m false W2 := ⟨hA, hB, A, B, vA, vB, at_, p2, o2, a0, a2.out, lA.out, lB.out, hc.out⟩
  have c0 : W2.cell? ⟨xb, 0, none⟩ = some (vi kind) := hX2.cell 0 rfl
  clear p1 hX hD o hwl h0 h1 hl0 hl1 hq hnum p2 o2 hX2 hxp hxA hxB hmix lA lB hc a2 a0
  by_cases h3 : kind = 3 ∨ kind = 4 ∨ kind = 5
  · clear hk1 hk2 hk6
    rcases h3 with rfl | rfl | rfl
    all_goals
      go_wp2_with (go_at_call 10; refine (send_go W2 g2 hm hT0 hT1 q hq2.out).mono ?_; rintro r W3 ⟨rfl, g3⟩)
      go_ret
      exact ⟨rfl, g3⟩
  · have k1 : (kind == 1) = false := by simp [hk1.out]
    have k2 : (kind == 2) = false := by simp [hk2.out]
    have k6 : (kind == 6) = false := by simp [hk6.out]
    have k3 : (kind == 3) = false := by simp; omega
    have k4 : (kind == 4) = false := by simp; omega
    have k5 : (kind == 5) = false := by simp; omega
    have hn1 := hn.out.1
    have hn2 := hn.out.2
    clear h3 hk1 hk2 hk6
    go_wp2_with (go_at_call 11; refine (arrive_go W2 g2 hT1 q num (num * 10) hq2.out hn1 (by omega) (by omega)).mono ?_; rintro r W3 ⟨rfl, g3⟩)
    go_ret
    obtain ⟨hA', hB', A', B', vA', vB', at', z1, z2, z3, z4, z5, z6, z7⟩ := g3
    exact ⟨rfl, hA', hB', A', B', vA', vB', at', z1, z2, z3, by omega, by omega, by omega, z7⟩

theorem Going.mono {w0 W : World} {m2 : Nat} {cl : Bool} (g : Going w0 pb bA bB conn first other limit now m cl W) (h : m ≤ m2) : Going w0 pb bA bB conn first other limit now m2 cl W := by
  obtain ⟨hA', hB', A', B', vA', vB', at', z1, z2, z3, z4, z5, z6, z7⟩ := g
  exact ⟨hA', hB', A', B', vA', vB', at', z1, z2, z3, by omega, by omega, by omega, z7⟩

theorem do_go (w : World) (x : ActV) (g : Going w0 pb bA bB conn first other limit now m false w) (hk : x.kind ≠ 6) (hm : m ≤ 100000000) (h0 : 0 ≤ now) (h1 : now ≤ 500000000) (hl0 : 0 ≤ x.later) (hl1 : x.later ≤ 100000) (ht : x.text.size ≤ 300) :
    Calls Try.prog 7 #[.pointer (some ⟨pb, 0, none⟩), x.enc, vi limit] w (GoR w0 pb bA bB conn first other limit (now + x.later) (m + 100000) false) := by
  by_cases hw : x.kind = 1 ∨ x.kind = 2
  · rcases who_or x.who with h | h
    · exact (do0_write w x.kind x.who x.n x.later x.text g hw h h0 h1 hl0 hl1 ht).mono fun r W ⟨h, q⟩ => ⟨h, q.mono (by omega)⟩
    · exact (do1_write w x.kind x.who x.n x.later x.text g hw h h0 h1 hl0 hl1 ht).mono fun r W ⟨h, q⟩ => ⟨h, q.mono (by omega)⟩
  · exact do_rest w x.kind x.who x.n x.later x.text g (fun h => hw (.inl h)) (fun h => hw (.inr h)) hk hm h0 h1 hl0 hl1
end Go.Proofs.Ytglbfgpdmlkamaa
