/-
  The walk of FlowEnded.
-/
import Derived.Test.YtglbfgpdmlkamaaQg
import Derived.Test.YtglbfgpdmlkamaaLaw
namespace Go.Proofs.Ytglbfgpdmlkamaa
open Go.RowKit Go.Flw

variable {w0 : World} {pb bA bB : Nat} {now conn first other room limit body : Int} {m : Nat} {cl : Bool}

theorem Going.below {W W' : World} (g : Going w0 pb bA bB conn first other limit now m cl W) (hb : Below W.heap.size W W') : Going w0 pb bA bB conn first other limit now m cl W' := by
  obtain ⟨hA', hB', A', B', vA', vB', at', z1, z2⟩ := g
  exact ⟨hA', hB', A', B', vA', vB', at', z1.below hb, z2⟩
theorem Going.bel {W : World} (g : Going w0 pb bA bB conn first other limit now m cl W) : Below w0.heap.size w0 W := by
  obtain ⟨hA', hB', A', B', vA', vB', at', z1, z2⟩ := g
  exact z1.bel

theorem BegunE.going {w w' : World} {mA mB q cA cB : Nat} {wv : Value} (E : BegunE w w' conn first other room limit body pb bA bB mA mB q wv cA cB) (hcn : 0 ≤ conn ∧ conn ≤ 65535) (hf : 0 ≤ first ∧ first ≤ 65535) (ho : 0 ≤ other ∧ other ≤ 65535) (hr : 1400 ≤ room ∧ room ≤ 20000) (hb : 20 ≤ body ∧ body ≤ 1400) :
    Going w pb bA bB conn first other limit 0 0 false w' := by
  refine ⟨[], [], _, _, .slice none 0 0, .slice none 0 0, 0, ?_, PairOk.begin room body mA mB q wv cA cB hcn hf ho hr hb, Int.le_refl _, Int.le_refl _, Nat.le_refl _, Nat.le_refl _, rfl⟩
  exact ⟨E.p, E.a, E.b, Sl.nil _ _ _, Sl.nil _ _ _, fun x hx => ⟨(E.lA x hx).2.1, (E.lA x hx).2.2, by simp [slB], by simp [slB]⟩, fun x hx => ⟨(E.lB x hx).2, by simp [slB], by simp [slB]⟩, by simp [slB], by simp [slB], E.bel, E.lp, fun x hx => (E.lA x hx).1, fun x hx => (E.lB x hx).1, by simp [slB], by simp [slB]⟩

/-- What Ended says of both. -/
structure Both (pb bA bB : Nat) (cl : Bool) (W : World) : Prop where
  c0 : W.cell? ⟨pb, 0, none⟩ = some (.pointer (some ⟨bA, 0, none⟩))
  c1 : W.cell? ⟨pb, 1, none⟩ = some (.pointer (some ⟨bB, 0, none⟩))
  a : Calls Try.prog 8 #[.pointer (some ⟨bA, 0, none⟩)] W fun r w' => r = .returned (.bool false) ∧ W = w'
  b : cl = false → Calls Try.prog 8 #[.pointer (some ⟨bB, 0, none⟩)] W fun r w' => r = .returned (.bool false) ∧ W = w'

theorem Going.both {W : World} (g : Going w0 pb bA bB conn first other limit now m cl W) : Both pb bA bB cl W := by
  obtain ⟨hA, hB, A, B, vA, vB, at_, p, o, a0, a1, lA, lB, hc⟩ := g
  have e1 := o.ra.not_ended o.sb o.clB
  refine ⟨p.blk.cell 0 rfl, p.blk.cell 1 rfl, (Ended_calls W p.ea.blk).mono fun r w' h => ⟨by rw [h.1, e1], h.2⟩, fun hcl => ?_⟩
  have e2 := o.rb.not_ended o.sa (hc.trans hcl)
  exact (Ended_calls W p.eb.blk).mono fun r w' h => ⟨by rw [h.1, e2], h.2⟩

/-- Closing the first one. -/
theorem close_go (w : World) (g : Going w0 pb bA bB conn first other limit now m false w) (h0 : 0 ≤ now) (h1 : now ≤ 1000000000) :
    Calls Try.prog 9 #[.pointer (some ⟨bA, 0, none⟩), vi now] w fun r W => (∃ c : Int, r = .returned (vi c)) ∧ (∀ cs T, Blk w pb cs T → Blk W pb cs T) ∧ ∃ cl, Going w0 pb bA bB conn first other limit now m cl W := by
  obtain ⟨hA, hB, A, B, vA, vB, at_, p, o, a0, a1, lA, lB, hc⟩ := g
  by_cases hst : A.e.state = 1 ∨ A.e.state = 2
  · have := o.sa.small
    refine (Close_calls w now p.ea o.nowA.2 h1 hc hst (by omega)).mono ?_
    rintro r w' ⟨rfl, q, wv, hW⟩
    exact ⟨⟨_, rfl⟩, fun cs T hb => hb.chg hW.chg (fun hh => (p.d1 _ hh).1 rfl), true, hA, hB, _, B, vA, vB, at_, p.goA hW, o.closeA wv q h0 hc, a0, a1, lA, lB, rfl⟩
  · refine (Close_not w now p.ea.blk o.nowA.2 h1 (.inr hst)).mono ?_
    rintro r w' ⟨rfl, rfl⟩
    exact ⟨⟨_, rfl⟩, fun _ _ hb => hb, false, hA, hB, A, B, vA, vB, at_, p, o, a0, a1, lA, lB, hc⟩

/-- Between two acts. -/
def Acts (w0 : World) (pb bA bB : Nat) (conn first other limit : Int) (len : Nat) (i : Value) (W : World) : Prop :=
  ∃ (k : Nat) (now : Int), i = .int .i64 k ∧ k ≤ len ∧ 0 ≤ now ∧ now ≤ k * 100 ∧ Going w0 pb bA bB conn first other limit now (k * 100000) false W

/-- Between two rounds. -/
def Turns (w0 : World) (pb bA bB : Nat) (conn first other limit now : Int) (i : Value) (W : World) : Prop :=
  ∃ (k : Nat) (cl : Bool), i = .int .i64 k ∧ k ≤ 80 ∧ (k ≤ 40 → cl = false) ∧ Going w0 pb bA bB conn first other limit now (12000000 + k * 200000) cl W

def Whos (w0 : World) (pb bA bB : Nat) (conn first other limit now : Int) (m : Nat) (cl : Bool) (i : Value) (W : World) : Prop :=
  (i = vi 0 ∧ Going w0 pb bA bB conn first other limit now m cl W) ∨ (i = vi 1 ∧ Going w0 pb bA bB conn first other limit now (m + 100000) cl W) ∨ (i = vi 2 ∧ Going w0 pb bA bB conn first other limit now (m + 200000) cl W)

set_option maxHeartbeats 3200000 in
set_option maxRecDepth 100000 in
theorem flowEnded_calls (w : World) (conn first other room limit body : Int) (a : Option Addr) (len cap B off : Nat) (L : List ActV) (hlen : L.length = len) (hmax : len ≤ maxLen) (ha : 0 < len → a = some ⟨B, off, none⟩) (h : ActsAt w B off L) :
    Calls Try.prog 3 #[vi conn, vi first, vi other, vi room, vi limit, vi body, .slice a len cap] w (AwakeR w) := by
  have hsm := small_calls w conn first other room limit body a len cap B off L hlen hmax ha h
  unfold maxLen at hmax
  have hL : Hid (L.length = len) := hlen
  clear hlen
  go_enter Try.func3, Try.ntmps3
  go_wp2_with (fail)
  refine hsm.mono ?_
  rintro r w1 ⟨bb, rfl, hok, hb1⟩
  clear hsm
  cases bb
  · clear hok
    go_wp2_with (go_at_call 5; refine (awake_calls _).mono ?_; rintro r w2 ⟨rfl, hb2⟩)
    go_ret
    exact ⟨rfl, hb1.trans (hb2.mono hb1.size)⟩
  obtain ⟨s1, s2, s3, s4, s5, s6, s7, s8⟩ := hok rfl
  clear hok
  by_cases h20 : body < 20
  · clear s1 s2 s3 s4 s5 s6 s7 s8
    go_wp2_with (go_at_call 5; refine (awake_calls _).mono ?_; rintro r w2 ⟨rfl, hb2⟩)
    go_ret
    exact ⟨rfl, hb1.trans (hb2.mono hb1.size)⟩
  have hbd : 20 ≤ body := by omega
  go_upto_region 3 with (fail)
  go_upto_region 4 with (go_at_call 6; refine (begin_calls w1 conn first other room limit body s1.1 s1.2 s2.1 s2.2 s3.1 s3.2 s4.1 s4.2 s5.1 s5.2 s6.1 s6.2).mono ?_; rintro r w2 ⟨pb, bA, bB, mA, mB, q, wv, cA, cB, rfl, E⟩)
  have g0 := E.going s1 s2 s3 s4 ⟨hbd, s6.2⟩
  clear E s1 s2 s3 s4 s5 s6 h20 hbd
  replace s7 : Hid (L.length ≤ 120) := s7
  replace s8 : Hid (∀ x ∈ L, x.text.size ≤ 300 ∧ 0 ≤ x.later ∧ x.later ≤ 100000) := s8
  go_wp2_with (fail)
  go_loopw [49] (fun i wr => Acts w1 pb bA bB conn first other limit len i wr) (fun i _ => len - (intOf i).toNat)
  case atStart => exact ⟨0, 0, rfl, Nat.zero_le _, Int.le_refl _, Int.le_refl _, g0⟩
  case round =>
    clear g0
    obtain ⟨k, now, rfl, hk, hn0, hn1, g⟩ := hrel
    have hl120 : len ≤ 120 := hL.out ▸ s7.out
    by_cases hlt : k < len
    · obtain ⟨x, hx⟩ : ∃ x, L[k]? = some x := ⟨_, List.getElem?_eq_getElem (by rw [hL.out]; exact hlt)⟩
      obtain ⟨hB, hc⟩ := h k x hx
      have hbw := hb1.trans (g.bel.mono hb1.size)
      have hc' : ∀ j v, x.cells[j]? = some v → wr.cell? ⟨B, off + k * 5 + j, none⟩ = some v := fun j v hv => by rw [hbw.cell (p := ⟨B, off + k * 5 + j, none⟩) hB]; exact hc j v hv
      have hxs := s8.out x (List.mem_of_getElem? hx)
      obtain rfl := ha (by omega)
      have d0 := hc' 0 _ rfl
      rw [Nat.add_zero] at d0
      have d1 := hc' 1 _ rfl
      have d2 := hc' 2 _ rfl
      have d3 := hc' 3 _ rfl
      have d4 := hc' 4 _ rfl
      have gA := g.below ((Below.refl _ wr).alloc (Nat.le_refl _) (.cells #[vi x.kind, vi x.who, vi x.n, vi x.later, .string x.text] 29))
      have hXb := Blk.new wr #[vi x.kind, vi x.who, vi x.n, vi x.later, .string x.text] 29
      clear hc hc' hx hbw hB ha h
      by_cases h6 : x.kind = 6
      · rw [h6] at d0
        clear hxs
        go_wp2_with (fail)
        go_roundw
        case rel => exact ⟨k + 1, now, by go_num, by omega, hn0, by omega, (h6 ▸ gA).mono (by omega)⟩
        case measure => simp [intOf]; omega
      · by_cases hl : x.later < 100
        · go_upto_region 9 with (fail)
          clear d0 d1 d2 d3 d4 g
          generalize wr.heap.size = xb at hXb ⊢
          generalize wr.alloc (.cells #[vi x.kind, vi x.who, vi x.n, vi x.later, .string x.text] 29) = W1 at gA hXb ⊢
          have e0 := hXb.cell 0 rfl
          have e1 := hXb.cell 1 rfl
          have e2 := hXb.cell 2 rfl
          have e3 := hXb.cell 3 rfl
          have e4 := hXb.cell 4 rfl
          have k6 : (x.kind != 6) = true := by simp [h6]
          have hdo := do_go W1 x gA h6 (by omega) hn0 (by omega) hxs.2.1 hxs.2.2 hxs.1
          simp only [ActV.enc] at hdo
          have hn3 : 0 ≤ now + x.later ∧ now + x.later ≤ ((k : Int) + 1) * 100 := by have := hxs.2.1; omega
          clear hxs h6 hn0 hn1 hXb
          go_wp2_with (fail)
          refine hdo.mono ?_
          rintro r W3 ⟨rfl, g3⟩
          clear hdo e0 e1 e2 e3 e4 gA k6
          have hbo := g3.both
          have f0 := hbo.c0
          have f1 := hbo.c1
          have fa := hbo.a
          have fb := hbo.b rfl
          clear hbo
          go_wp2_with (first | ((with_reducible refine fa.mono ?_); rintro r w' ⟨rfl, rfl⟩) | ((with_reducible refine fb.mono ?_); rintro r w' ⟨rfl, rfl⟩))
          go_roundw
          case rel => exact ⟨k + 1, now + x.later, by go_num, by omega, hn3.1, by have := hn3.2; omega, g3.mono (by omega)⟩
          case measure => simp [intOf]; omega
        · go_wp2_with (fail)
          go_roundw
          case rel => exact ⟨k + 1, now, by go_num, by omega, hn0, by omega, gA.mono (by omega)⟩
          case measure => simp [intOf]; omega
    · have hT : now ≤ 1000000 := by omega
      have gT := g.mono (m2 := 12000000 + 0 * 200000) (by omega)
      clear g hn1 hL ha h
      go_wp2_with (fail)
      clear hk hlt hmax
      go_loopw [85] (fun i wr => Turns w1 pb bA bB conn first other limit now i wr) (fun i _ => 80 - (intOf i).toNat)
      case atStart => exact ⟨0, false, rfl, by omega, fun _ => rfl, gT⟩
      case round =>
        clear gT
        obtain ⟨n, cl, rfl, hn, hcl, g⟩ := hrel
        by_cases hlt : n < 80
        · have hT0 : now ≤ 1000000000 := by omega
          by_cases h40 : n = 40
          · obtain rfl : cl = false := hcl (by omega)
            clear hcl
            go_upto_region 16 with (fail)
            have hmix : Try.prog.follows .mixedOrders = true := by kernel_rfl
            have gc := g
            obtain ⟨hA, hB, A, B', vA, vB, at_, p, o, a0, a1, lA, lB, hc⟩ := gc
            have hD : Blk wr.drew pb (pairCells bA bB vA vB A B' now at_) 38 := p.blk
            clear p o a0 a1 lA lB hc
            have hrd : ∀ W', Blk W' pb (pairCells bA bB vA vB A B' now at_) 38 → W'.cell? ⟨pb, 0, none⟩ = some (.pointer (some ⟨bA, 0, none⟩)) ∧ W'.cell? ⟨pb, 8, none⟩ = some (vi now) := fun W' h => ⟨h.cell 0 rfl, h.cell 8 rfl⟩
            have hcl9 := close_go wr.drew (g.below (Below.refl _ wr).drew) hn0 hT0
            refine region_anyN (fun _ => true) (fun W' => Blk W' pb (pairCells bA bB vA vB A B' now at_) 38) hmix ?_
            refine anyL_take (i := 0) rfl hD (by kernel_rfl) (by kernel_rfl) (by kernel_rfl) (by kernel_rfl) (fun _ _ _ h => nomatch h.1) rfl (fun W' hW' => by obtain ⟨x0, x1⟩ := hrd W' hW'; go_simp; with_reducible rfl) ?_
            go_simp
            refine anyL_take (i := 1) rfl hD (by kernel_rfl) (by kernel_rfl) (by kernel_rfl) (by kernel_rfl) (fun _ _ _ h => nomatch h.1) rfl (fun W' hW' => by obtain ⟨x0, x1⟩ := hrd W' hW'; go_simp; with_reducible rfl) ?_
            go_simp
            refine anyL_take (i := 2) rfl hD (by kernel_rfl) (by kernel_rfl) (by kernel_rfl) (by kernel_rfl) (fun _ _ _ h => nomatch h.1) rfl (fun W' hW' => by obtain ⟨x0, x1⟩ := hrd W' hW'; go_simp; with_reducible rfl) ?_
            go_simp
            refine anyL_take (i := 3) rfl hD (by kernel_rfl) (by kernel_rfl) (by kernel_rfl) (by kernel_rfl) (fun _ _ _ h => nomatch h.1) rfl (fun W' hW' => by obtain ⟨x0, x1⟩ := hrd W' hW'; go_simp; with_reducible rfl) ?_
            go_simp
            refine anyL_take (i := 4) rfl hD (by kernel_rfl) (by kernel_rfl) (by kernel_rfl) (by kernel_rfl) (fun _ _ _ h => nomatch h.1) rfl (fun W' hW' => by obtain ⟨x0, x1⟩ := hrd W' hW'; go_simp; with_reducible rfl) ?_
            go_simp
            refine anyL_take (i := 5) rfl hD (by kernel_rfl) (by kernel_rfl) (by kernel_rfl) (by kernel_rfl) (fun _ _ _ h => nomatch h.1) rfl (fun W' hW' => by obtain ⟨x0, x1⟩ := hrd W' hW'; go_simp; with_reducible rfl) ?_
            go_simp
            refine anyL_take (i := 6) rfl hD (by kernel_rfl) (by kernel_rfl) (by kernel_rfl) (by kernel_rfl) (fun _ _ _ h => nomatch h.1) rfl (fun W' hW' => by obtain ⟨x0, x1⟩ := hrd W' hW'; go_simp; with_reducible rfl) ?_
            go_simp
            refine anyL_take (i := 7) rfl hD (by kernel_rfl) (by kernel_rfl) (by kernel_rfl) (by kernel_rfl) (fun _ _ _ h => nomatch h.1) rfl (fun W' hW' => by obtain ⟨x0, x1⟩ := hrd W' hW'; go_simp; with_reducible rfl) ?_
            go_simp
            refine anyL_take (i := 8) rfl hD (by kernel_rfl) (by kernel_rfl) (by kernel_rfl) (by kernel_rfl) (fun _ _ _ h => nomatch h.1) rfl (fun W' hW' => by obtain ⟨x0, x1⟩ := hrd W' hW'; go_simp; with_reducible rfl) ?_
            go_simp
            refine anyL_one (i := 9) (by kernel_rfl) rfl rfl ?_
            go_simp
            refine hcl9.mono ?_
            rintro r W2 ⟨⟨c, rfl⟩, hkeep, cl, g2⟩
            refine ⟨hkeep _ _ hD, ?_⟩
            refine anyL_done (by kernel_rfl) ?_ _
            refine ⟨rfl, ?_⟩
            clear g hD hrd hcl9 hmix hkeep
            have g := g2
            have gc := g2
            clear g2
            have hcl : Hid (n < 40 → cl = false) := fun hh => absurd hh (by omega)
            clear gc
            go_wp2_with (fail)
            go_loopw [100] (fun i wr => Whos w1 pb bA bB conn first other limit now (12000000 + n * 200000) cl i wr) (fun i _ => 2 - (intOf i).toNat)
            case atStart => exact .inl ⟨rfl, g⟩
            case round =>
              clear g
              rcases hrel with ⟨rfl, g⟩ | ⟨rfl, g⟩ | ⟨rfl, g⟩
              · have hs := send_go _ g (by omega) hn0 hT0 0 (.inl rfl)
                clear hcl
                go_wp2_with (fail)
                refine hs.mono ?_
                rintro r W3 ⟨rfl, g3⟩
                clear hs
                have har := arrive_go W3 g3 hT0 1 1000 100000 (.inr rfl) (by omega) (by omega) (by omega)
                go_wp2_with (fail)
                refine har.mono ?_
                rintro r W4 ⟨rfl, g4⟩
                clear har
                go_wp2_with (fail)
                go_roundw
                case rel => exact .inr (.inl ⟨by go_num, g4⟩)
                case measure => simp [intOf]
              · have hs := send_go _ g (by omega) hn0 hT0 1 (.inr rfl)
                clear hcl
                go_wp2_with (fail)
                refine hs.mono ?_
                rintro r W3 ⟨rfl, g3⟩
                clear hs
                have har := arrive_go W3 g3 hT0 0 1000 100000 (.inl rfl) (by omega) (by omega) (by omega)
                go_wp2_with (fail)
                refine har.mono ?_
                rintro r W4 ⟨rfl, g4⟩
                clear har
                go_wp2_with (fail)
                go_roundw
                case rel => exact .inr (.inr ⟨by go_num, g4⟩)
                case measure => simp [intOf]
              · have hbo := g.both
                have f0 := hbo.c0
                have f1 := hbo.c1
                have fa := hbo.a
                have hn40 : ¬ n < 40 := by omega
                clear hbo
                go_wp2_with (first | ((with_reducible refine fa.mono ?_); rintro r w' ⟨rfl, rfl⟩))
                go_roundw
                case rel => exact ⟨n + 1, cl, by go_num, by omega, fun hh => absurd hh (by omega), g.mono (by omega)⟩
                case measure => simp [intOf]; omega
          · have gc := g
            have h40b : ((n : Int) == 40) = false := by simp; omega
            have hb80 : decide ((n : Int) < 80) = true := by simp; omega
            replace hcl : Hid (n < 40 → cl = false) := fun hh => hcl (by omega)
            clear gc
            go_wp2_with (fail)
            go_loopw [100] (fun i wr => Whos w1 pb bA bB conn first other limit now (12000000 + n * 200000) cl i wr) (fun i _ => 2 - (intOf i).toNat)
            case atStart => exact .inl ⟨rfl, g⟩
            case round =>
              clear g
              rcases hrel with ⟨rfl, g⟩ | ⟨rfl, g⟩ | ⟨rfl, g⟩
              · have hs := send_go _ g (by omega) hn0 hT0 0 (.inl rfl)
                clear hcl
                go_wp2_with (fail)
                refine hs.mono ?_
                rintro r W3 ⟨rfl, g3⟩
                clear hs
                have har := arrive_go W3 g3 hT0 1 1000 100000 (.inr rfl) (by omega) (by omega) (by omega)
                go_wp2_with (fail)
                refine har.mono ?_
                rintro r W4 ⟨rfl, g4⟩
                clear har
                go_wp2_with (fail)
                go_roundw
                case rel => exact .inr (.inl ⟨by go_num, g4⟩)
                case measure => simp [intOf]
              · have hs := send_go _ g (by omega) hn0 hT0 1 (.inr rfl)
                clear hcl
                go_wp2_with (fail)
                refine hs.mono ?_
                rintro r W3 ⟨rfl, g3⟩
                clear hs
                have har := arrive_go W3 g3 hT0 0 1000 100000 (.inl rfl) (by omega) (by omega) (by omega)
                go_wp2_with (fail)
                refine har.mono ?_
                rintro r W4 ⟨rfl, g4⟩
                clear har
                go_wp2_with (fail)
                go_roundw
                case rel => exact .inr (.inr ⟨by go_num, g4⟩)
                case measure => simp [intOf]
              · have hbo := g.both
                have f0 := hbo.c0
                have f1 := hbo.c1
                have fa := hbo.a
                by_cases hn40 : n < 40
                · have fb := hbo.b (hcl.out (by omega))
                  clear hbo
                  go_wp2_with (first | ((with_reducible refine fa.mono ?_); rintro r w' ⟨rfl, rfl⟩) | ((with_reducible refine fb.mono ?_); rintro r w' ⟨rfl, rfl⟩))
                  go_roundw
                  case rel => exact ⟨n + 1, cl, by go_num, by omega, fun _ => hcl.out hn40, g.mono (by omega)⟩
                  case measure => simp [intOf]; omega
                · clear hbo
                  go_wp2_with (first | ((with_reducible refine fa.mono ?_); rintro r w' ⟨rfl, rfl⟩))
                  go_roundw
                  case rel => exact ⟨n + 1, cl, by go_num, by omega, fun hh => absurd hh (by omega), g.mono (by omega)⟩
                  case measure => simp [intOf]; omega
        · have hbw := hb1.trans (g.bel.mono hb1.size)
          clear hcl g
          go_wp2_with (go_at_call 5; refine (awake_calls _).mono ?_; rintro r w2 ⟨rfl, hb2⟩)
          go_ret
          exact ⟨rfl, hbw.trans (hb2.mono hbw.size)⟩
end Go.Proofs.Ytglbfgpdmlkamaa
