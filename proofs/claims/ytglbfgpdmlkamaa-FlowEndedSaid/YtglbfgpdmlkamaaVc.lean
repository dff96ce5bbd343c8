/-
  The walk of gone: an acknowledged packet is taken out of the flight.
-/
import Derived.Test.YtglbfgpdmlkamaaVb
import Derived.Test.YtglbfgpdmlkamaaWe
import Derived.Test.YtglbfgpdmlkamaaDue
import Derived.Deep.DeepCutAuto
namespace Go.Proofs.Ytglbfgpdmlkamaa
open Go.RowKit Go.Flw

variable {b : Nat} {e : E} {ws fs : List Pk} {ks : List Ke} {clk : Nat}

def SomeBool (w : World) (r : Ending) (w' : World) : Prop := ∃ v : Bool, r = .returned (.bool v) ∧ Below w.heap.size w w'

set_option maxHeartbeats 400000 in
theorem gone1_calls (w : World) (p : Pk) (n : Int) (bx : Nat) (hp : Blk w p.blk p.enc 64) (hx : Blk w bx #[vi n] 3) : Calls Try.prog 66 #[.pointer (some ⟨p.blk, 0, none⟩), .pointer (some ⟨bx, 0, none⟩)] w (SomeBool w) := by
  have c1 := cp_number hp
  have c2 := hx.cell 0 rfl
  go_enter Try.func66, Try.ntmps66
  go_wp2
  go_region
  all_goals go_wp2
  all_goals go_ret
  all_goals exact ⟨_, rfl, (Below.refl _ w).drew⟩

def SomeAt (n : Nat) (w : World) (r : Ending) (w' : World) : Prop := ∃ i : Int, r = .returned (vi i) ∧ (i = -1 ∨ ∃ k : Nat, k < n ∧ i = k) ∧ Below w.heap.size w w'

set_option maxHeartbeats 800000 in
set_option maxRecDepth 100000 in
theorem indexP_calls (w : World) (v : Value) (ps : List Pk) (n : Int) (bx : Nat) (h : PSl w v ps) (hp : ∀ p ∈ ps, Blk w p.blk p.enc 64) (hx : Blk w bx #[vi n] 3) :
    Calls Try.prog 65 #[v, .func (.func 66) #[] #[.pointer (some ⟨bx, 0, none⟩)]] w (SomeAt ps.length w) := by
  obtain ⟨a, cap, hv, hcap, hmax⟩ := Sl.form h
  unfold maxLen at hmax
  subst hv
  go_enter Try.func65, Try.ntmps65
  go_wp2
  go_loopw [8] (fun i wr => ∃ k : Nat, k ≤ ps.length ∧ i = .int .i64 k ∧ Below w.heap.size w wr) (fun i _ => ps.length - (intOf i).toNat)
  case atStart => exact ⟨0, Nat.zero_le _, rfl, Below.refl _ _⟩
  case round =>
    obtain ⟨k, hk, rfl, hb⟩ := hrel
    by_cases hlt : k < ps.length
    · have hw : PSl wr (.slice a ps.length cap) ps := Sl.chg h (Chg.of_below (S := fun _ => False) hb) (fun _ _ hh => hh)
      obtain ⟨B, off, cap', hv', hc⟩ := pk_at hw k hlt
      injection hv' with ha _ hcc
      subst ha
      subst hcc
      have hp1 := hp _ (nth_mem ps k hlt)
      have hp2 := hp1.below hb hp1.lt
      have hx2 := hx.below hb hx.lt
      go_wp2_with (go_at_call 66; refine (gone1_calls _ (nth ps k) n bx hp2 hx2).mono ?_; rintro r w' ⟨v, rfl, hbw⟩)
      · go_ret
        exact ⟨_, rfl, .inr ⟨k, hlt, rfl⟩, hb.trans (hbw.mono hb.size)⟩
      · go_roundw
        case rel => exact ⟨k + 1, by omega, by go_num, hb.trans (hbw.mono hb.size)⟩
        case measure => simp [intOf]; omega
    · go_wp2
      go_ret
      exact ⟨_, rfl, .inl rfl, hb⟩

/-- A packet is taken out of the flight. -/
theorem EndIs.cut {w w' : World} {e' : E} {l1 l2 : List Pk} {p : Pk} (h : EndIs w b e ws (l1 ++ p :: l2) ks clk) (hc : Chg (fun x => x = b ∨ x ∈ slB e.fv) w w') (hb : Blk w' b e'.enc 61) (hf : PSl w' e'.fv (l1 ++ l2))
    (hsl : slB e'.fv = slB e.fv) (hwv : e'.wv = e.wv) (hmb : e'.mb = e.mb) : Went w b e ws (l1 ++ p :: l2) w' e' ws (l1 ++ l2) ks clk ∧ Blk w' p.blk p.enc 64 ∧ p.blk ∉ foot b e' ws (l1 ++ l2) := by
  have hs := h.sep
  have mem : ∀ x, x ∈ (ws ++ (l1 ++ p :: l2)).map (·.blk) ↔ x = p.blk ∨ x ∈ (ws ++ (l1 ++ l2)).map (·.blk) := by intro x; simp only [List.map_append, List.mem_append, List.map_cons, List.mem_cons]; grind
  have hpm : p.blk ∈ (ws ++ (l1 ++ p :: l2)).map (·.blk) := (mem _).2 (.inl rfl)
  have hperm : ((ws ++ (l1 ++ p :: l2)).map (·.blk)).Perm (p.blk :: (ws ++ (l1 ++ l2)).map (·.blk)) := by
    have e1 : (ws ++ (l1 ++ p :: l2)).map (·.blk) = (ws ++ l1).map (·.blk) ++ p.blk :: l2.map (·.blk) := by simp
    have e2 : (ws ++ (l1 ++ l2)).map (·.blk) = (ws ++ l1).map (·.blk) ++ l2.map (·.blk) := by simp
    rw [e1, e2]
    exact List.perm_middle
  have hnd := (hperm.nodup_iff.1 hs.qq)
  rw [List.nodup_cons] at hnd
  have hnot : ∀ x, x ∈ (ws ++ (l1 ++ p :: l2)).map (·.blk) → ¬ (x = b ∨ x ∈ slB e.fv) := by
    rintro x hx (rfl | hh)
    · exact hs.bq hx
    · exact hs.fq x hh hx
  refine ⟨⟨⟨hb, ?_, hf, ?_, ?_, h.born, ?_⟩, hc.mono fun x _ hx => foot_iff.2 ?_, fun x hx => .inl (foot_iff.2 ?_)⟩, (h.pks p (by simp)).chg hc (hnot _ hpm), fun hh => ?_⟩
  · rw [hwv]
    refine Sl.chg h.wsl hc fun x hx => ?_
    rintro (rfl | hh)
    · exact hs.bw hx
    · exact hs.wf x hx hh
  · intro q hq
    have hq' : q ∈ ws ++ (l1 ++ p :: l2) := by simp at hq ⊢; grind
    exact (h.pks q hq').chg hc (hnot _ (List.mem_map.2 ⟨q, hq', rfl⟩))
  · rw [hmb]
    refine hc.at h.map ?_
    rintro (hh | hh)
    · exact hs.bm hh.symm
    · exact hs.mf hh
  · rw [hwv, hmb, hsl]
    exact ⟨hs.bm, hs.bw, hs.bf, fun hx => hs.bq ((mem _).2 (.inr hx)), hs.mw, hs.mf, fun hx => hs.mq ((mem _).2 (.inr hx)), hs.wf, fun x hx hh => hs.wq x hx ((mem _).2 (.inr hh)), fun x hx hh => hs.fq x hx ((mem _).2 (.inr hh)), hnd.2⟩
  · rcases hx with hx | hx
    · exact .inl hx
    · exact .inr (.inr (.inr (.inl hx)))
  · rcases foot_iff.1 hx with hx | hx | hx | hx | hx
    · exact .inl hx
    · exact .inr (.inl (hmb ▸ hx))
    · exact .inr (.inr (.inl (hwv ▸ hx)))
    · exact .inr (.inr (.inr (.inl (hsl ▸ hx))))
    · exact .inr (.inr (.inr (.inr ((mem _).2 (.inr hx)))))
  · rcases foot_iff.1 hh with hx | hx | hx | hx | hx
    · exact hs.bq (hx ▸ hpm)
    · exact hs.mq (by rw [← hmb, ← hx]; exact hpm)
    · exact hs.wq _ (hwv ▸ hx) hpm
    · exact hs.fq _ (hsl ▸ hx) hpm
    · exact hnd.1 hx

/-- What acknowledging turns in the own cells. -/
def AckE (e e1 : E) : Prop := ∃ fv outs done tb tl tt tn ts, (outs = 0 ∨ outs = e.outs) ∧ e1 = { e with fv := fv, outs := outs, done := done, tb := tb, tl := tl, tt := tt, tn := tn, ts := ts }

/-- The flight has become less. -/
structure Fewer (fs fs' : List Pk) : Prop where
  dat : ∀ q ∈ fs', ∃ p ∈ fs, q.kind = p.kind ∧ q.number = p.number ∧ q.body = p.body
  n : flyN fs' ≤ flyN fs
  b : flyB fs' ≤ flyB fs
  len : fs'.length ≤ fs.length

theorem Fewer.refl (fs : List Pk) : Fewer fs fs := ⟨fun q hq => ⟨q, hq, rfl, rfl, rfl⟩, Nat.le_refl _, Nat.le_refl _, Nat.le_refl _⟩
theorem Fewer.trans {a c d : List Pk} (h : Fewer a c) (k : Fewer c d) : Fewer a d :=
  ⟨fun q hq => by
    obtain ⟨p, hp, h1, h2, h3⟩ := k.dat q hq
    obtain ⟨r, hr, k1, k2, k3⟩ := h.dat p hp
    exact ⟨r, hr, h1.trans k1, h2.trans k2, h3.trans k3⟩, Nat.le_trans k.n h.n, Nat.le_trans k.b h.b, Nat.le_trans k.len h.len⟩
theorem AckE.refl (e : E) : AckE e e := ⟨_, _, _, _, _, _, _, _, .inr rfl, rfl⟩
theorem AckE.trans {a c d : E} (h : AckE a c) (k : AckE c d) : AckE a d := by
  obtain ⟨fv, outs, done, tb, tl, tt, tn, ts, ho, rfl⟩ := h
  obtain ⟨fv', outs', done', tb', tl', tt', tn', ts', ho', rfl⟩ := k
  exact ⟨fv', outs', done', tb', tl', tt', tn', ts', by simp only at ho'; omega, rfl⟩
theorem flyN_app (a c : List Pk) : flyN (a ++ c) = flyN a + flyN c := by simp [flyN]
theorem flyB_app (a c : List Pk) : flyB (a ++ c) = flyB a + flyB c := by simp [flyB]
theorem Fewer.cut (l1 l2 : List Pk) (p : Pk) : Fewer (l1 ++ p :: l2) (l1 ++ l2) := by
  refine ⟨fun q hq => ⟨q, by simp at hq ⊢; grind, rfl, rfl, rfl⟩, ?_, ?_, by simp⟩
  · have : l1 ++ p :: l2 = l1 ++ ([p] ++ l2) := by simp
    rw [this, flyN_app, flyN_app, flyN_app]; omega
  · have : l1 ++ p :: l2 = l1 ++ ([p] ++ l2) := by simp
    rw [this, flyB_app, flyB_app, flyB_app]; omega
theorem Fewer.one {l1 l2 : List Pk} {p p' : Pk} (hk : p'.kind = p.kind) (hn : p'.number = p.number) (hb : p'.body = p.body) (hl : p.lost = true → p'.lost = true) : Fewer (l1 ++ p :: l2) (l1 ++ p' :: l2) := by
  have hz : p'.sz = p.sz := by simp [Pk.sz, hb]
  refine ⟨fun q hq => ?_, ?_, ?_, by simp⟩
  · have : q = p' ∨ q ∈ l1 ++ l2 := by simp at hq ⊢; grind
    rcases this with rfl | hq
    · exact ⟨p, by simp, hk, hn, hb⟩
    · exact ⟨q, by simp at hq ⊢; grind, rfl, rfl, rfl⟩
  · have e1 : ∀ q : Pk, l1 ++ q :: l2 = l1 ++ ([q] ++ l2) := by simp
    rw [e1, e1, flyN_app, flyN_app, flyN_app, flyN_app]
    have : flyN [p'] ≤ flyN [p] := by
      cases h1 : p.lost <;> cases h2 : p'.lost <;> simp [flyN, h1, h2]
      simp [hl h1] at h2
    omega
  · have e1 : ∀ q : Pk, l1 ++ q :: l2 = l1 ++ ([q] ++ l2) := by simp
    rw [e1, e1, flyB_app, flyB_app, flyB_app, flyB_app]
    have : flyB [p'] ≤ flyB [p] := by
      cases h1 : p.lost <;> cases h2 : p'.lost <;> simp [flyB, h1, h2, hz]
      simp [hl h1] at h2
    omega

/-- What gone leaves. -/
def GoneR (b : Nat) (e : E) (ws fs : List Pk) (ks : List Ke) (clk : Nat) (w : World) (r : Ending) (w' : World) : Prop :=
  r = .returned (.tuple #[]) ∧ ∃ e1 fs1, Went w b e ws fs w' e1 ws fs1 ks clk ∧ AckE e e1 ∧ Fewer fs fs1

/-- On the way: the packet lies beside. -/
def GS (b : Nat) (e : E) (ws fs : List Pk) (ks : List Ke) (clk : Nat) (w : World) (p : Pk) (l : List Pk) (W : World) : Prop :=
  ∃ e1, Went w b e ws fs W e1 ws l ks clk ∧ AckE e e1 ∧ Blk W p.blk p.enc 64 ∧ p.blk ∉ foot b e1 ws l

theorem GS.own {w W W' : World} {p : Pk} {l : List Pk} {e1 e2 : E} (hW : Went w b e ws fs W e1 ws l ks clk) (hA : AckE e e1) (hp : Blk W p.blk p.enc 64) (hn : p.blk ∉ foot b e1 ws l) (hc : Chg (· = b) W W') (hb : Blk W' b e2.enc 61) (hA2 : AckE e1 e2)
    (hf : e2.fv = e1.fv) : GS b e ws fs ks clk w p l W' := by
  have hx := hA2
  obtain ⟨fv, outs, done, tb, tl, tt, tn, ts, ho, rfl⟩ := hx
  simp only at hf
  subst hf
  exact ⟨_, hW.trans (hW.is.went1 hc hb rfl rfl rfl), hA.trans hA2, hp.chg hc (fun hh => hn (hh ▸ foot_iff.2 (.inl rfl))), hn⟩
theorem GS.drew {w W : World} {p : Pk} {l : List Pk} (h : GS b e ws fs ks clk w p l W) (n : Nat) : GS b e ws fs ks clk w p l (W.drewN n) := by
  obtain ⟨e1, h1, h2, h3, h4⟩ := h
  exact ⟨e1, h1.drewN n, h2, h3, h4⟩

set_option maxHeartbeats 1600000 in
set_option maxRecDepth 100000 in
theorem gone_calls (w : World) (n : Int) (h : EndIs w b e ws fs ks clk) (hl : fs.length ≤ 100000) (hs : ∀ p ∈ fs, p.body.size ≤ 1400) : Calls Try.prog 62 #[.pointer (some ⟨b, 0, none⟩), vi n] w (GoneR b e ws fs ks clk w) := by
  have hE0 := h.alloc (.cells #[vi n] 3)
  have c1 := ce_fv hE0.blk
  have hlt := h.lt
  have hix := indexP_calls (w.alloc (.cells #[vi n] 3)) e.fv fs n w.heap.size hE0.fsl (fun p hp => hE0.pks p (by simp [hp])) (Blk.new w #[vi n] 3)
  have hmix : Try.prog.follows .mixedOrders = true := by kernel_rfl
  go_enter Try.func62, Try.ntmps62
  go_upto_if 16 with (go_at_call 65; refine hix.mono ?_; rintro r w1 ⟨i, rfl, hi, hb1⟩)
  have hW1 : Went w b e ws fs w1 e ws fs ks clk := (h.refl.alloc _).trans (hE0.below hb1)
  rcases hi with rfl | ⟨k, hk, rfl⟩
  · clear c1 hix hE0
    go_wp2
    exact bodyPost_ret (results_none rfl _ _ _) rfl ⟨rfl, e, fs, hW1, .refl e, .refl fs⟩
  · clear c1 hix hE0 hb1
    have hcut := cut_at fs k hk
    obtain ⟨l1, hl1⟩ : ∃ x, x = fs.take k := ⟨_, rfl⟩
    obtain ⟨l2, hl2⟩ : ∃ x, x = fs.drop (k + 1) := ⟨_, rfl⟩
    obtain ⟨p, hp⟩ : ∃ x, x = nth fs k := ⟨_, rfl⟩
    obtain ⟨B, off, cap, hv, hc⟩ := pk_at hW1.is.fsl k hk
    have hde := Delete_calls w1 e.fv fs k hW1.is.fsl hk
    have hl1k : l1.length = k := by rw [hl1]; simp; omega
    rw [← hl1, ← hl2, ← hp] at hcut
    rw [← hp] at hc
    rw [← hl1, ← hl2] at hde
    have hps : p.body.size ≤ 1400 := by rw [hp]; exact hs _ (nth_mem fs k hk)
    clear hl1 hl2 hp
    have c1 := ce_fv' hW1.is.blk hv
    rw [hv] at hde
    have f1 := hW1.is.blk.frozen 1
    have hkb : ((k : Int) < 0) = False := by simp
    have hcutH : Hid (l1 ++ p :: l2 = fs) := hcut
    obtain ⟨m, hm⟩ : ∃ m, Hid ((l1 ++ l2).length = m) := ⟨_, rfl⟩
    have hbn : b ∉ slB (.slice (some ⟨B, off, none⟩) fs.length cap) := hv ▸ hW1.is.sep.bf
    go_upto_region 6 with (go_at_call 67; refine hde.mono ?_; rintro r w2 ⟨v', rfl, hP, hcd, hsl⟩; obtain ⟨a2, cap2, hv2, _, _⟩ := Sl.form hP; rw [hm.out] at hv2; subst hv2; have hb2 : Blk w2 b e.enc 61 := hW1.is.blk.chg hcd hbn; have c2 := ce_fv hb2; have f2 := hb2.frozen 1; have c3 := ce_outs hb2; have f3 := hb2.frozen 8)
    have hG : GS b e ws fs ks clk w p (l1 ++ l2) ((w2.setCell ⟨b, 1, none⟩ (.slice a2 m cap2)).setCell ⟨b, 8, none⟩ (vi 0)) := by
      have hc7 : Chg (fun x => x = b ∨ x ∈ slB e.fv) w1 ((w2.setCell ⟨b, 1, none⟩ (.slice a2 m cap2)).setCell ⟨b, 8, none⟩ (vi 0)) := by
        rw [hv]
        exact ((hcd.mono fun _ _ hh => .inr hh).setCell (p := ⟨b, 1, none⟩) (.inl (.inl rfl)) _).setCell (p := ⟨b, 8, none⟩) (.inl (.inl rfl)) _
      have hE1 : EndIs w1 b e ws (l1 ++ p :: l2) ks clk := by rw [hcut]; exact hW1.is
      have hP7 : PSl ((w2.setCell ⟨b, 1, none⟩ (.slice a2 m cap2)).setCell ⟨b, 8, none⟩ (vi 0)) (.slice a2 m cap2) (l1 ++ l2) := by
        refine Sl.chg hP (((Chg.refl (· = b) w2).setCell (p := ⟨b, 1, none⟩) (.inl rfl) _).setCell (p := ⟨b, 8, none⟩) (.inl rfl) _) (fun x hx hh => ?_)
        rw [hsl] at hx
        exact hbn (hh ▸ hx)
      obtain ⟨k1, k2, k3⟩ := EndIs.cut hE1 (e' := { e with fv := .slice a2 m cap2, outs := 0 }) hc7 ((hb2.set 1 _).set 8 _) hP7 (by rw [hv]; exact hsl) rfl rfl
      rw [hcut] at k1
      exact ⟨_, hW1.trans k1, ⟨_, _, _, _, _, _, _, _, .inl rfl, rfl⟩, k2, k3⟩
    clear hW1
    generalize (w2.setCell ⟨b, 1, none⟩ (.slice a2 m cap2)).setCell ⟨b, 8, none⟩ (vi 0) = W at hG ⊢
    clear hde hbn c1 f1 c2 f2 c3 f3 hb2 hcd hP hsl hv hc
    have hcut0 := hcut
    clear hcut
    go_cut [] (GS b e ws fs ks clk w p (l1 ++ l2))
    case first =>
      obtain ⟨e1, hW, hA, hpk, hpn⟩ := hG
      have d1 := ce_tb hW.is.blk
      have f1 := hW.is.blk.frozen 25
      have hpb : p.blk ≠ b := fun hh => hpn (hh ▸ foot_iff.2 (.inl rfl))
      have hrd : ∀ W', W' = W.drew → W'.cell? ⟨b, 25, none⟩ = some (vi e1.tb) := fun W' hW' => by rw [hW']; exact d1
      have hC0 : W.drew = W.drew := rfl
      refine region_anyL (fun j => j != 11) (fun W' => W' = W.drew) hmix ?_
      refine anyL_take (i := 0) rfl hC0 (by kernel_rfl) (by kernel_rfl) (by kernel_rfl) (by kernel_rfl) (fun _ _ _ h => h) rfl (fun W' hW' => by have x1 := hrd W' hW'; go_simp; with_reducible rfl) ?_
      go_simp
      refine anyL_take (i := 1) rfl hC0 (by kernel_rfl) (by kernel_rfl) (by kernel_rfl) (by kernel_rfl) (fun _ _ _ h => h) rfl (fun W' hW' => by have x1 := hrd W' hW'; go_simp; with_reducible rfl) ?_
      go_simp
      refine anyL_take (i := 2) rfl hC0 (by kernel_rfl) (by kernel_rfl) (by kernel_rfl) (by kernel_rfl) (fun _ _ _ h => h) rfl (fun W' hW' => by have x1 := hrd W' hW'; go_simp; with_reducible rfl) ?_
      go_simp
      refine anyL_take (i := 3) rfl hC0 (by kernel_rfl) (by kernel_rfl) (by kernel_rfl) (by kernel_rfl) (fun _ _ _ h => h) rfl (fun W' hW' => by have x1 := hrd W' hW'; go_simp; with_reducible rfl) ?_
      go_simp
      refine anyL_take (i := 4) rfl hC0 (by kernel_rfl) (by kernel_rfl) (by kernel_rfl) (by kernel_rfl) (fun _ _ _ h => h) rfl (fun W' hW' => by have x1 := hrd W' hW'; go_simp; with_reducible rfl) ?_
      go_simp
      refine anyL_take (i := 5) rfl hC0 (by kernel_rfl) (by kernel_rfl) (by kernel_rfl) (by kernel_rfl) (fun _ _ _ h => h) rfl (fun W' hW' => by have x1 := hrd W' hW'; go_simp; with_reducible rfl) ?_
      go_simp
      refine anyL_one (i := 6) (by kernel_rfl) rfl rfl ?_
      go_simp
      refine (size_calls W.drew p hpk.drew (by omega)).mono ?_
      rintro r w' ⟨rfl, rfl⟩
      refine ⟨rfl, ?_⟩
      refine anyL_take (i := 7) rfl hC0 (by kernel_rfl) (by kernel_rfl) (by kernel_rfl) (by kernel_rfl) (fun _ _ _ h => h) rfl (fun W' hW' => by have x1 := hrd W' hW'; go_simp; with_reducible rfl) ?_
      go_simp
      refine anyL_one (i := 8) (by kernel_rfl) rfl rfl ?_
      go_simp
      try refine ⟨rfl, ?_⟩
      refine anyL_one (i := 9) (by kernel_rfl) rfl rfl ?_
      go_simp
      try refine ⟨rfl, ?_⟩
      refine anyL_one (i := 10) (by kernel_rfl) rfl rfl ?_
      go_simp
      try refine ⟨rfl, ?_⟩
      refine anyL_one (i := 11) (by kernel_rfl) rfl rfl ?_
      go_simp
      refine anyL_done (by kernel_rfl) ?_ _
      go_wp2_with (fail)
      go_meet
      case rel =>
        exact GS.drew (GS.own (e2 := { e1 with tb := IntKind.i64.wrap (e1.tb + ↑p.sz) }) hW hA hpk hpn ((Chg.refl (· = b) W).setCell (p := ⟨b, 25, none⟩) (.inl rfl) _) (hW.is.blk.set 25 _) ⟨_, _, _, _, _, _, _, _, .inr rfl, rfl⟩ rfl) 1
    case rest =>
      clear hG
      clear hlt
      go_upto_region 7 with (fail)
      have hG := hcut
      clear hcut
      obtain ⟨W, rfl⟩ : ∃ x, x = wc := ⟨_, rfl⟩
      go_cut [77] (fun v W => (∃ x : Bool, v = .bool x) ∧ GS b e ws fs ks clk w p (l1 ++ l2) W)
      case first =>
        obtain ⟨e1, hW, hA, hpk, hpn⟩ := id hG
        have d1 := cp_times hpk
        have d2 := ce_ts hW.is.blk
        have d3 := cp_number hpk
        have d4 := ce_tn hW.is.blk
        by_cases ht : p.times = 1
        · rw [ht] at d1
          cases hts : e1.ts <;> rw [hts] at d2
          all_goals
            go_quiet (fail)
            go_wp2_with (fail)
            go_meet
            exact ⟨⟨_, rfl⟩, hG.drew _⟩
        · have ht' : (p.times == 1) = false := by simp [ht]
          go_quiet (fail)
          go_wp2_with (fail)
          go_meet
          exact ⟨⟨_, rfl⟩, hG.drew _⟩
      case rest =>
        clear hG
        obtain ⟨⟨x, rfl⟩, hG⟩ := hcut
        obtain ⟨W, rfl⟩ : ∃ x, x = wc := ⟨_, rfl⟩
        go_upto_if 77 with (fail)
        go_cut [] (GS b e ws fs ks clk w p (l1 ++ l2))
        case first =>
          cases x
          · go_wp2_with (fail)
            go_meet
            case rel => exact hG
          · obtain ⟨e1, hW, hA, hpk, hpn⟩ := hG
            have hpb : p.blk ≠ b := fun hh => hpn (hh ▸ foot_iff.2 (.inl rfl))
            have d1 := cp_number hpk
            have d2 := ce_now hW.is.blk
            have d3 := cp_sent hpk
            have d4 := ce_ts hW.is.blk
            have d5 := ce_tn hW.is.blk
            have d6 := ce_tt hW.is.blk
            have f4 := hW.is.blk.frozen 30
            have f5 := hW.is.blk.frozen 29
            have f6 := hW.is.blk.frozen 28
            go_wp2_with (fail)
            go_region
            all_goals go_wp2_with (fail)
            all_goals go_meet
            case rel =>
              exact GS.drew (GS.own (e2 := { e1 with ts := true, tn := p.number, tt := wrap64 (e1.now - p.sent) }) hW hA hpk hpn ((((Chg.refl (· = b) W).setCell (p := ⟨b, 30, none⟩) (.inl rfl) _).setCell (p := ⟨b, 29, none⟩) (.inl rfl) _).setCell (p := ⟨b, 28, none⟩) (.inl rfl) _) (((hW.is.blk.set 30 _).set 29 _).set 28 _) ⟨_, _, _, _, _, _, _, _, .inr rfl, rfl⟩ rfl) 1
        case rest =>
          clear hG
          have hG := hcut
          clear hcut
          obtain ⟨W2, rfl⟩ : ∃ x, x = wc := ⟨_, rfl⟩
          go_upto_region 9 with (fail)
          go_cut [] (GS b e ws fs ks clk w p (l1 ++ l2))
          case first =>
            obtain ⟨e1, hW, hA, hpk, hpn⟩ := hG
            have d1 := cp_kind hpk
            have d2 := ce_done hW.is.blk
            have f2 := hW.is.blk.frozen 10
            have hpb : p.blk ≠ b := fun hh => hpn (hh ▸ foot_iff.2 (.inl rfl))
            cases hdn : e1.done <;> rw [hdn] at d2
            · go_wp2_with (fail)
              go_meet
              exact GS.own (e2 := { e1 with done := p.kind == 4 }) hW hA hpk hpn ((Chg.refl (· = b) W2).setCell (p := ⟨b, 10, none⟩) (.inl rfl) _) (hW.is.blk.set 10 _) ⟨_, _, _, _, _, _, _, _, .inr rfl, rfl⟩ rfl
            · go_wp2_with (fail)
              go_meet
              exact GS.own (e2 := { e1 with done := true }) hW hA hpk hpn ((Chg.refl (· = b) W2).setCell (p := ⟨b, 10, none⟩) (.inl rfl) _) (hW.is.blk.set 10 _) ⟨_, _, _, _, _, _, _, _, .inr rfl, rfl⟩ rfl
          case rest =>
            clear hG
            obtain ⟨e1, hW, hA, hpk, hpn⟩ := hcut
            obtain ⟨W3, rfl⟩ : ∃ x, x = wc := ⟨_, rfl⟩
            obtain ⟨fa, fc, hfv, hfc, hfm⟩ := Sl.form hW.is.fsl
            have d3 := ce_fv' hW.is.blk hfv
            unfold maxLen at hfm
            have hkc : k ≤ fc := by rw [List.length_append] at hfc; omega
            rw [hm.out] at d3 hfv
            have hF0 : Hid (Fewer fs (l1 ++ l2)) := by
              have := Fewer.cut l1 l2 p
              rw [hcut0] at this
              exact this
            clear hpk hpn hcutH hcut0
            go_wp2_with (fail)
            go_loopw [127] (fun i wr => ∃ (j : Nat) (l' : List Pk) (e2 : E), j ≤ k ∧ i = .int .i64 j ∧ l'.length = k ∧ e2.fv = e1.fv ∧ Went w b e ws fs wr e2 ws (l' ++ l2) ks clk ∧ AckE e e2 ∧ Fewer fs (l' ++ l2)) (fun i _ => k - (intOf i).toNat)
            case atStart => exact ⟨0, l1, e1, Nat.zero_le _, rfl, hl1k, rfl, hW, hA, hF0.out⟩
            case round =>
              obtain ⟨j, l', e2, hj, rfl, hl', hfv2, hW2, hA2, hF2⟩ := hrel
              clear d3 hW hA hF0
              by_cases hjk : j < k
              · have hcut := cut_at l' j (by omega)
                obtain ⟨m1, hm1⟩ : ∃ x, x = l'.take j := ⟨_, rfl⟩
                obtain ⟨m2, hm2⟩ : ∃ x, x = l'.drop (j + 1) := ⟨_, rfl⟩
                obtain ⟨q, hq⟩ : ∃ x, x = nth l' j := ⟨_, rfl⟩
                obtain ⟨B1, off1, cap1, hv1, hc1⟩ := pk_at hW2.is.fsl j (by simp; omega)
                have hnth : nth (l' ++ l2) j = q := by
                  rw [hq, nth_eq _ _ (by simp; omega), nth_eq _ _ (by omega), List.getElem_append_left (by omega)]
                rw [hnth] at hc1
                rw [← hm1, ← hm2, ← hq] at hcut
                clear hm1 hm2 hq hnth
                subst hcut
                rw [hfv2, hfv] at hv1
                injection hv1 with ha1 ha2 ha3
                subst ha1
                clear ha2 ha3
                have hlc : m1 ++ q :: m2 ++ l2 = m1 ++ q :: (m2 ++ l2) := by simp
                rw [hlc] at hW2 hF2
                have hqk := hW2.is.pks q (by simp)
                have g1 := cp_later hqk
                have g2 := cp_quick hqk
                have g3 := cp_lost hqk
                have k1 := hqk.frozen 5
                have k2 := hqk.frozen 6
                have k3 := hqk.frozen 7
                have hqb : q.blk ≠ b := fun hh => hW2.is.sep.bq (hh ▸ List.mem_map.2 ⟨q, by simp, rfl⟩)
                have g4 := ce_tl hW2.is.blk
                have k4 := hW2.is.blk.frozen 26
                have hlk : ∀ x : Pk, (m1 ++ x :: m2).length = k := fun x => by rw [← hl']; simp
                have hW4 := hW2.trans (hW2.is.setPk (p' := { q with later := wrap64 (q.later + 1) }) rfl ((Chg.refl (· = q.blk) wr).setCell (p := ⟨q.blk, 5, none⟩) (.inl rfl) (vi (wrap64 (q.later + 1)))) (hqk.set 5 _))
                have hF4 := hF2.trans (Fewer.one (p := q) (p' := { q with later := wrap64 (q.later + 1) }) (l1 := m1) (l2 := m2 ++ l2) rfl rfl rfl (fun h => h))
                have hrel4 : ∃ (j' : Nat) (l' : List Pk) (e3 : E), j' ≤ k ∧ Value.int .i64 ((j : Int) + 1) = .int .i64 j' ∧ l'.length = k ∧ e3.fv = e1.fv ∧ Went w b e ws fs (wr.setCell ⟨q.blk, 5, none⟩ (vi (wrap64 (q.later + 1)))) e3 ws (l' ++ l2) ks clk ∧ AckE e e3 ∧ Fewer fs (l' ++ l2) :=
                  ⟨j + 1, m1 ++ { q with later := wrap64 (q.later + 1) } :: m2, e2, by omega, by simp, hlk _, hfv2, by rw [List.append_assoc, List.cons_append]; exact hW4, hA2, by rw [List.append_assoc, List.cons_append]; exact hF4⟩
                by_cases hl3 : 3 ≤ wrap64 (q.later + 1)
                · cases hqq : q.quick <;> rw [hqq] at g2
                  · cases hql : q.lost <;> rw [hql] at g3
                    · have hp4 := hW4.is.pks { q with later := wrap64 (q.later + 1) } (by simp)
                      have hW5 := hW4.trans (hW4.is.setPk (p' := { q with later := wrap64 (q.later + 1), quick := true, lost := true }) rfl (((Chg.refl (· = q.blk) _).setCell (p := ⟨q.blk, 6, none⟩) (.inl rfl) (.bool true)).setCell (p := ⟨q.blk, 7, none⟩) (.inl rfl) (.bool true)) ((hp4.set 6 _).set 7 _))
                      have hW6 := hW5.trans (hW5.is.went1 (e' := { e2 with tl := wrap64 (e2.tl + 1) }) ((Chg.refl (· = b) _).setCell (p := ⟨b, 26, none⟩) (.inl rfl) (vi (wrap64 (e2.tl + 1)))) (hW5.is.blk.set 26 _) rfl rfl rfl)
                      have hF6 := hF2.trans (Fewer.one (p := q) (p' := { q with later := wrap64 (q.later + 1), quick := true, lost := true }) (l1 := m1) (l2 := m2 ++ l2) rfl rfl rfl (fun _ => rfl))
                      have hrel6 : ∃ (j' : Nat) (l' : List Pk) (e3 : E), j' ≤ k ∧ Value.int .i64 ((j : Int) + 1) = .int .i64 j' ∧ l'.length = k ∧ e3.fv = e1.fv ∧ Went w b e ws fs ((((wr.setCell ⟨q.blk, 5, none⟩ (vi (wrap64 (q.later + 1)))).setCell ⟨q.blk, 6, none⟩ (.bool true)).setCell ⟨q.blk, 7, none⟩ (.bool true)).setCell ⟨b, 26, none⟩ (vi (wrap64 (e2.tl + 1)))) e3 ws (l' ++ l2) ks clk ∧ AckE e e3 ∧ Fewer fs (l' ++ l2) :=
                        ⟨j + 1, m1 ++ { q with later := wrap64 (q.later + 1), quick := true, lost := true } :: m2, { e2 with tl := wrap64 (e2.tl + 1) }, by omega, by simp, hlk _, hfv2, by rw [List.append_assoc, List.cons_append]; exact hW6, hA2.trans ⟨_, _, _, _, _, _, _, _, .inr rfl, rfl⟩, by rw [List.append_assoc, List.cons_append]; exact hF6⟩
                      clear hp4 hW4 hW5 hW6 hF4 hF6 hrel4 hW2 hF2 hA2
                      go_wp2_with (fail)
                      go_roundw
                      case rel => exact hrel6
                      case measure => simp [intOf]; omega
                    · clear hW4 hF4 hW2 hF2 hA2
                      go_wp2_with (fail)
                      go_roundw
                      case rel => exact hrel4
                      case measure => simp [intOf]; omega
                  · clear hW4 hF4 hW2 hF2 hA2
                    go_wp2_with (fail)
                    go_roundw
                    case rel => exact hrel4
                    case measure => simp [intOf]; omega
                · clear hW4 hF4 hW2 hF2 hA2
                  go_wp2_with (fail)
                  go_roundw
                  case rel => exact hrel4
                  case measure => simp [intOf]; omega
              · obtain rfl : j = k := by omega
                go_wp2_with (fail)
                exact bodyPost_end (results_none rfl _ _ _) rfl ⟨rfl, e2, l' ++ l2, hW2, hA2, hF2⟩
end Go.Proofs.Ytglbfgpdmlkamaa
