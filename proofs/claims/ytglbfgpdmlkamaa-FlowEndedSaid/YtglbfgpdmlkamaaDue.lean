/-
  What Send lets go, in plain words: packets that go again, then new ones. No memory here.
-/
import Derived.Test.YtglbfgpdmlkamaaWh
import Derived.Test.YtglbfgpdmlkamaaWk
import Derived.Test.YtglbfgpdmlkamaaPop
import Derived.Test.YtglbfgpdmlkamaaRgl
import Derived.Test.YtglbfgpdmlkamaaWc
import Derived.Shelf.Abstract
import Derived.Shelf.RegionOpen
import Derived.OwnWalkIn
import Derived.TacticsInMore
import Derived.LoopNIn
import Derived.LoopIn
namespace Go.Proofs.Ytglbfgpdmlkamaa
open Go.RowKit Go.Flw Go.Shelf
attribute [local go_sem] Oper.semAt_some
attribute [local simp] wide_fn

/-- What an end must be for its packets to be made. -/
structure Good (e : E) (ks : List Ke) (ws fs : List Pk) : Prop where
  room0 : 0 ≤ e.room
  room1 : e.room ≤ 1000000
  ready : e.ready.size ≤ 1000000
  kbody : ∀ k ∈ ks, k.seg.body.size ≤ 1400
  klen : ks.length ≤ 100000
  now0 : 0 ≤ e.now
  now1 : e.now ≤ 1000000000
  late0 : 0 ≤ e.late
  late1 : e.late < 4294967296
  base0 : 0 ≤ e.base
  base1 : e.base < 65536
  kkey : ∀ k ∈ ks, 0 ≤ k.key ∧ k.key < 65536 ∧ 2 ≤ (k.key - e.base) % 65536 ∧ (k.key - e.base) % 65536 ≤ 34
  len : ws.length + fs.length ≤ 90000
  body : ∀ p ∈ ws ++ fs, p.body.size ≤ 1400
  num : ∀ p ∈ fs, 0 ≤ p.number
  next0 : 0 ≤ e.next
  next1 : e.next + ws.length ≤ 900000

/-- The same packet: where it lies, its kind, number and body. -/
structure SameP (p q : Pk) : Prop where
  blk : q.blk = p.blk
  kind : q.kind = p.kind
  number : q.number = p.number
  body : q.body = p.body
  lost : q.lost = p.lost

/-- What has gone, step by step. -/
inductive Due (e : E) (ws fs : List Pk) (ss : List Seg) : E → List Pk → List Pk → List Seg → Prop
  | refl : Due e ws fs ss e ws fs ss
  | again {e' ws' l1 p l2 ss'} (a : Int) (p' : Pk) (s : Seg) (h : Due e ws fs ss e' ws' (l1 ++ p :: l2) ss') (hl : p.lost = true) (hf : fitsV e' (l1 ++ p :: l2) p = true)
      (hs : SameP { p with lost := false } p') (hm : Made { e' with again := a } p.kind p.number p.body s) : Due e ws fs ss { e' with again := a } ws' (l1 ++ p' :: l2) (ss' ++ [s])
  | pop {e' p ws' fs' ss'} (e2 : E) (p' : Pk) (s : Seg) (h : Due e ws fs ss e' (p :: ws') fs' ss') (hy : mayV e' p = true) (hf : fitsV e' fs' p = true)
      (he : ∃ wv fv c, e2 = { e' with wv := wv, fv := fv, next := e'.next + 1, count := c, state := if p.kind = 4 then 3 else e'.state })
      (hs : SameP { p with number := e'.next } p') (hm : Made e2 p.kind e'.next p.body s) : Due e ws fs ss e2 ws' (fs' ++ [p']) (ss' ++ [s])

variable {e : E} {ws fs : List Pk} {ss : List Seg} {ks : List Ke}


theorem SameP.refl (p : Pk) : SameP p p := ⟨rfl, rfl, rfl, rfl, rfl⟩

theorem Due.good {e' : E} {ws' fs' : List Pk} {ss' : List Seg} (h : Due e ws fs ss e' ws' fs' ss') (g : Good e ks ws fs) : Good e' ks ws' fs' := by
  induction h with
  | refl => exact g
  | @again e1 ws1 l1 p l2 ss1 a p' s h hl hf hs hm ih =>
    refine { ih with len := ?_, body := ?_, num := ?_ }
    · have := ih.len; simp at this ⊢; exact this
    · intro q hq
      have : q = p' ∨ q ∈ ws1 ++ (l1 ++ p :: l2) := by simp at hq ⊢; grind
      rcases this with rfl | hq
      · rw [hs.body]; exact ih.body p (by simp)
      · exact ih.body q hq
    · intro q hq
      have : q = p' ∨ q ∈ l1 ++ p :: l2 := by simp at hq ⊢; grind
      rcases this with rfl | hq
      · rw [hs.number]; exact ih.num p (by simp)
      · exact ih.num q hq
  | @pop e1 p ws1 fs1 ss1 e2 p' s h hy hf he hs hm ih =>
    obtain ⟨wv, fv, c, rfl⟩ := he
    refine { ih with len := ?_, body := ?_, num := ?_, next0 := ?_, next1 := ?_ }
    · have := ih.len; simp at this ⊢; omega
    · intro q hq
      have : q = p' ∨ q ∈ (p :: ws1) ++ fs1 := by simp at hq ⊢; grind
      rcases this with rfl | hq
      · rw [hs.body]; exact ih.body p (by simp)
      · exact ih.body q hq
    · intro q hq
      have : q = p' ∨ q ∈ fs1 := by simp at hq ⊢; grind
      rcases this with rfl | hq
      · rw [hs.number]; exact ih.next0
      · exact ih.num q hq
    · have := ih.next0; simp only; omega
    · have := ih.next1; simp at this ⊢; omega

theorem Good.lost {l1 l2 : List Pk} {p : Pk} (g : Good e ks ws (l1 ++ p :: l2)) (a : Int) : Good { e with again := a } ks ws (l1 ++ { p with lost := false } :: l2) := by
  refine { g with len := ?_, body := ?_, num := ?_ }
  · have := g.len; simp at this ⊢; exact this
  · intro q hq
    have : q = { p with lost := false } ∨ q ∈ ws ++ (l1 ++ p :: l2) := by simp at hq ⊢; grind
    rcases this with rfl | hq
    · exact g.body p (by simp)
    · exact g.body q hq
  · intro q hq
    have : q = { p with lost := false } ∨ q ∈ l1 ++ p :: l2 := by simp at hq ⊢; grind
    rcases this with rfl | hq
    · exact g.num p (by simp)
    · exact g.num q hq

/-- How many are taken for lost. -/
def lostN (l : List Pk) : Nat := (l.filter (·.lost)).length
theorem lostN_le (l : List Pk) : lostN l ≤ l.length := List.length_filter_le _ _
theorem Due.len {e' : E} {ws' fs' : List Pk} {ss' : List Seg} (h : Due e ws fs ss e' ws' fs' ss') : ss'.length + 2 * ws'.length + lostN fs' ≤ ss.length + 2 * ws.length + fs.length := by
  induction h with
  | refl => have := lostN_le fs; omega
  | @again e1 ws1 l1 p l2 ss1 a p' s h hl hf hs hm ih =>
    have e1 : lostN (l1 ++ p :: l2) = lostN l1 + 1 + lostN l2 := by simp [lostN, hl]; omega
    have e2 : lostN (l1 ++ p' :: l2) = lostN l1 + lostN l2 := by simp [lostN, hs.lost]
    simp only [List.length_append, List.length_cons, List.length_nil]
    omega
  | @pop e1 p ws1 fs1 ss1 e2 p' s h hy hf he hs hm ih =>
    have e1 : lostN (fs1 ++ [p']) ≤ lostN fs1 + 1 := by
      have : lostN (fs1 ++ [p']) = lostN fs1 + lostN [p'] := by simp [lostN]
      have := lostN_le [p']
      simp at this
      omega
    simp only [List.length_append, List.length_cons, List.length_nil] at ih ⊢
    omega

/-- How many packets wait. -/
def wlen (w : World) (b : Nat) : Nat := match w.cell? ⟨b, 0, none⟩ with | some (.slice _ n _) => n | _ => 0
theorem wlen_of {w : World} {b clk : Nat} (h : EndIs w b e ws fs ks clk) : wlen w b = ws.length := by
  obtain ⟨a, cap, hv, _, _⟩ := Sl.form h.wsl
  rw [wlen, ce_wv h.blk, hv]

def DueR (I : E → List Pk → List Pk → List Seg → World → Prop) (e : E) (ws fs : List Pk) (ss : List Seg) (W : World) : Prop :=
  ∃ e' ws' fs' ss', I e' ws' fs' ss' W ∧ Due e ws fs ss e' ws' fs' ss'
def Due1 (I : E → List Pk → List Pk → List Seg → World → Prop) (e : E) (ws fs : List Pk) (ss : List Seg) (v : Value) (W : World) : Prop :=
  ∃ (k : Nat) (a : Int) (fs' : List Pk) (ss' : List Seg), k ≤ fs.length ∧ v = .int .i64 k ∧ fs'.map (·.blk) = fs.map (·.blk) ∧ I { e with again := a } ws fs' ss' W ∧ Due e ws fs ss { e with again := a } ws fs' ss'

theorem cut_at (l : List Pk) (k : Nat) (hk : k < l.length) : l.take k ++ nth l k :: l.drop (k + 1) = l := by
  rw [nth_eq l k hk, ← List.drop_eq_getElem_cons hk, List.take_append_drop]

theorem Good.pop {p : Pk} {ws1 : List Pk} (g : Good e ks (p :: ws1) fs) (wv fv : Value) (c st : Int) :
    Good { e with wv := wv, fv := fv, next := e.next + 1, count := c, state := st } ks ws1 (fs ++ { p with number := e.next } :: []) := by
  refine { g with len := ?_, body := ?_, num := ?_, next0 := ?_, next1 := ?_ }
  · have := g.len; simp at this ⊢; omega
  · intro q hq
    have : q = { p with number := e.next } ∨ q ∈ (p :: ws1) ++ fs := by simp at hq ⊢; grind
    rcases this with rfl | hq
    · exact g.body p (by simp)
    · exact g.body q hq
  · intro q hq
    have : q = { p with number := e.next } ∨ q ∈ fs := by simp at hq ⊢; grind
    rcases this with rfl | hq
    · exact g.next0
    · exact g.num q hq
  · have := g.next0; simp only; omega
  · have := g.next1; simp at this ⊢; omega

theorem popGo {w1 w6 w2 w7 : World} {b clk : Nat} {p p' : Pk} {ws1 : List Pk} {e2 : E} {v' : Value} (hE1 : EndIs w1 b e (p :: ws1) fs ks clk) (hc16 : Chg (fun x => x = b ∨ x = p.blk) w1 w6) (hc2 : Chg (· ∈ slB e.fv) w6 w2)
    (hc7 : Chg (· = b) w2 w7) (hb : Blk w7 b e2.enc 61) (hwv : PSl w1 e2.wv ws1) (hwl : slB e2.wv = slB e.wv) (hfv : e2.fv = v') (hs2 : Sl w2 v' 62 1 (fs.length + 1) (fs.map Pk.ptr ++ [.pointer (some ⟨p.blk, 0, none⟩)]))
    (hb2 : ∀ x ∈ slB v', x ∈ slB e.fv ∨ x = w6.heap.size) (hmb : e2.mb = e.mb) (hp : Blk w7 p.blk p'.enc 64) (hbk : p'.blk = p.blk) : Went w1 b e (p :: ws1) fs w7 e2 ws1 (fs ++ p' :: []) ks clk := by
  have hbB := hE1.blk.lt
  have hsz := hc16.size
  refine hE1.popped (((hc16.mono ?_).comp (hc2.mono ?_)).comp (hc7.mono ?_)) hb hwv hwl ?_ ?_ hbk hp hmb
  · rintro i _ (h | h)
    · exact .inl h
    · exact .inr (.inl h)
  · exact fun i _ h => .inr (.inr h)
  · exact fun i _ h => .inl h
  · have := Sl.chg hs2 hc7 (fun x hx hh => by
      rcases hb2 x hx with h | h
      · exact hE1.sep.bf (hh ▸ h)
      · omega)
    rw [hfv]
    have e1 : (fs ++ p' :: []).map Pk.ptr = fs.map Pk.ptr ++ [.pointer (some ⟨p.blk, 0, none⟩)] := by simp [Pk.ptr, hbk]
    rw [PSl, e1]
    simpa using this
  · rw [hfv]
    intro x hx
    rcases hb2 x hx with h | h
    · exact .inl h
    · exact .inr (by omega)

/-- A box's cell and a cell of the block that it leads to. -/
def Two (bx b o : Nat) (v : Value) (W : World) : Prop := W.cell? ⟨bx, 0, none⟩ = some (.pointer (some ⟨b, 0, none⟩)) ∧ W.cell? ⟨b, o, none⟩ = some v
theorem Two.drew {bx b o : Nat} {v : Value} {W : World} (h : Two bx b o v W) : Two bx b o v W.drew := ⟨h.1, h.2⟩
theorem Two.alloc {bx b o : Nat} {v : Value} {W : World} (h : Two bx b o v W) (x : Obj) : Two bx b o v (W.alloc x) :=
  ⟨(World.cell?_of_block (Below.heap_alloc W x bx (World.block_lt_of_cell? _ _ h.1))).trans h.1, (World.cell?_of_block (Below.heap_alloc W x b (World.block_lt_of_cell? _ _ h.2))).trans h.2⟩

theorem new_dd {W : World} {c : Array Value} {t : TypeId} {k : Nat} {x : Value} (hk : W.heap.size = k) (hx : c[0]? = some x) : (W.alloc (.cells c t)).drew.drew.cell? ⟨k, 0, none⟩ = some x := (cell_last hk).trans hx

set_option maxHeartbeats 8000000 in
set_option maxRecDepth 100000 in
theorem due1_in {b clk : Nat} (n l bx : Nat) (I : E → List Pk → List Pk → List Seg → World → Prop)
    (hE : ∀ e ws fs ss W, I e ws fs ss W → EndIs W b e ws fs ks clk)
    (hG : ∀ e ws fs ss W e' ws' fs' W', I e ws fs ss W → Went W b e ws fs W' e' ws' fs' ks clk → I e' ws' fs' ss W')
    (hbx : ∀ e ws fs ss W, I e ws fs ss W → W.cell? ⟨bx, 0, none⟩ = some (.pointer (some ⟨b, 0, none⟩)))
    (hbf : ∀ e ws fs ss W, I e ws fs ss W → bx ∉ foot b e ws fs)
    (hyield : ∀ e1 ws1 l1 p l2 ss1 W, I e1 ws1 (l1 ++ p :: l2) ss1 W → Good e1 ks ws1 (l1 ++ p :: l2) → ss1.length ≤ ss.length + 2 * ws.length + fs.length → YieldAt Fence.wide (n - 1) Try.prog l #[.pointer (some ⟨p.blk, 0, none⟩)] W fun r W' => r = .returned (.bool true) ∧
      ∃ p' s, SameP p p' ∧ Made e1 p.kind p.number p.body s ∧ I e1 ws1 (l1 ++ p' :: l2) (ss1 ++ [s]) W')
    (w : World) (h0 : I e ws fs ss w) (g : Good e ks ws fs) :
    CallsIn Fence.wide n Try.prog 49 #[.func (.yield l) #[] #[], .pointer (some ⟨bx, 0, none⟩)] w fun r W' => (∃ v, r = .returned v) ∧ DueR I e ws fs ss W' := by
  have hb0 := hbx _ _ _ _ _ h0
  have c1 := ce_fv (hE _ _ _ _ _ h0).blk
  have hfl : fs.length ≤ 90000 := by have := g.len; omega
  obtain ⟨fa, fc, hfv, hfc, hfm⟩ := Sl.form (hE _ _ _ _ _ h0).fsl
  rw [hfv] at c1
  obtain ⟨len, hL⟩ : ∃ x, x = fs.length := ⟨_, rfl⟩
  rw [← hL] at c1
  have hmax : len ≤ 1000000 := by omega
  have hL1 : len ≤ fs.length := by omega
  have hL2 : fs.length ≤ len := by omega
  clear hL
  gi_enter Try.func49, Try.ntmps49
  gi_wp2
  gi_loopw [12] (Due1 I e ws fs ss) (fun i _ => len - (intOf i).toNat)
  case atStart => exact ⟨0, e.again, fs, ss, Nat.zero_le _, rfl, rfl, h0, .refl⟩
  case round =>
    obtain ⟨k, a, fs', ss', hk, rfl, hbl, hI, hD⟩ := hrel
    have hEr := hE _ _ _ _ _ hI
    have hbr := hbx _ _ _ _ _ hI
    have hlen : fs'.length = fs.length := by have := congrArg List.length hbl; simpa using this
    have gr := hD.good g
    have hk' : k ≤ len := by omega
    by_cases hlt : k < len
    · have hcut := cut_at fs' k (by omega)
      obtain ⟨l1, hl1⟩ : ∃ x, x = fs'.take k := ⟨_, rfl⟩
      obtain ⟨l2, hl2⟩ : ∃ x, x = fs'.drop (k + 1) := ⟨_, rfl⟩
      obtain ⟨p, hp⟩ : ∃ x, x = nth fs' k := ⟨_, rfl⟩
      obtain ⟨B, off, cap', hv', hc⟩ := pk_at hEr.fsl k (by omega)
      simp only [hfv] at hv'
      injection hv' with ha hq1 hq2
      subst ha
      clear hq1 hq2
      rw [← hl1, ← hl2, ← hp] at hcut
      rw [← hp] at hc
      clear hl1 hl2 hp
      obtain rfl := hcut
      have hpk := hEr.pks p (by simp)
      have cl := cp_lost hpk
      have cf := hpk.frozen 7
      have ef := hEr.blk.frozen 32
      have ea := ce_again hEr.blk
      simp only at ea
      cases hlost : p.lost <;> rw [hlost] at cl
      · have hrel' : Due1 I e ws fs ss (.int .i64 ((k : Int) + 1)) wr := ⟨k + 1, a, _, ss', by omega, by simp, hbl, hI, hD⟩
        clear hyield hE hG hbx hlen hbl hI hD gr hEr g hpk hL1 hL2 hfl hk hfv hfc hfm
        gi_wp2
        go_roundw
        case rel => exact hrel'
        case measure => simp [intOf]; omega
      · have hfit := fits_calls wr hEr (by have := gr.len; simp at this ⊢; omega) (fun q hq => gr.body q (by simp at hq ⊢; grind)) p hpk (gr.body p (by simp))
        cases hfv1 : fitsV { e with again := a } (l1 ++ p :: l2) p <;> rw [hfv1] at hfit
        · have hdone : ∀ w1, Below wr.heap.size wr w1 → DueR I e ws fs ss w1 := fun w1 hw1 => ⟨_, _, _, _, hG _ _ _ _ _ _ _ _ _ hI (hEr.below hw1), hD⟩
          clear hyield hE hG hbx hlen hbl hI hD gr hEr g hpk hL1 hL2 hfl hk hfv hfc hfm
          gi_wp2_with (first | (refine ⟨wide_deep _, ?_⟩; gi_at_call 50; refine (callsIn_wide.2 hfit).mono ?_; rintro r w1 ⟨rfl, hbw⟩) | gi_in)
          exact bodyPost_ret (results_none rfl _ _ _) rfl ⟨⟨_, rfl⟩, hdone _ hbw⟩
        · have hpkB := hpk.lt
          have hb0w := hEr.blk
          have hbB := hb0w.lt
          have hbxB := World.block_lt_of_cell? _ _ hbr
          have gd := gr.lost (wrap64 (a + 1))
          have hone : ∀ w1, Below wr.heap.size wr w1 → I { e with again := wrap64 (a + 1) } ws (l1 ++ { p with lost := false } :: l2) ss' ((w1.setCell ⟨p.blk, 7, none⟩ (.bool false)).setCell ⟨b, 32, none⟩ (vi (wrap64 (a + 1)))) := by
            intro w1 hbw
            have hI1 := hG _ _ _ _ _ _ _ _ _ hI (hEr.below hbw)
            have hE1 := hE _ _ _ _ _ hI1
            have k1 := hE1.setPk (p' := { p with lost := false }) rfl ((Chg.refl (· = p.blk) w1).setCell (p := ⟨p.blk, 7, none⟩) (.inl rfl) (.bool false)) ((hpk.below hbw hpkB).set 7 _)
            have k2 := k1.is.went1 (e' := { e with again := wrap64 (a + 1) }) ((Chg.refl (· = b) _).setCell (p := ⟨b, 32, none⟩) (.inl rfl) (vi (wrap64 (a + 1)))) ((k1.is.blk).set 32 _) rfl rfl rfl
            exact hG _ _ _ _ _ _ _ _ _ hI1 (k1.trans k2)
          have hsl : ss'.length ≤ ss.length + 2 * ws.length + fs.length := by have := hD.len; omega
          have hyl := fun w1 hbw => hyield _ _ _ _ _ _ _ (hone w1 hbw) gd hsl
          have hnext : ∀ p' s W, SameP { p with lost := false } p' → Made { e with again := wrap64 (a + 1) } p.kind p.number p.body s → I { e with again := wrap64 (a + 1) } ws (l1 ++ p' :: l2) (ss' ++ [s]) W → Due1 I e ws fs ss (.int .i64 ((k : Int) + 1)) W :=
            fun p' s W hs hm hi => ⟨k + 1, _, _, _, by omega, by simp, by rw [← hbl]; simp [hs.blk], hi, Due.again (e' := { e with again := a }) _ p' s hD hlost hfv1 hs hm⟩
          clear hsl cf ef ea hone hyield hE hG hbx hlen hbl hI hD gr hEr g hL1 hL2 hfl hk hfv hfc hfm
          gi_wp2_with (first | (refine ⟨wide_deep _, ?_⟩; gi_at_call 50; refine (callsIn_wide.2 hfit).mono ?_; rintro r w1 ⟨rfl, hbw⟩; have hpk1 := hpk.below hbw hpkB; have hb1 := hb0w.below hbw hbB; have cf := hpk1.frozen 7; have ef := hb1.frozen 32; have ea := ce_again hb1; have hbr := (World.cell?_of_block (hbw.block bx hbxB)).trans hbr; have cl := cp_lost hpk1; rw [hlost] at cl; simp only at ea; obtain ⟨fn, tmps, assign, body, hy, hR⟩ := hyl w1 hbw) | gi_in)
          refine ⟨wide_deep _, hR.mono ?_⟩
          rintro r W' ⟨rfl, p', s, hs, hm, hi⟩
          have hn := hnext p' s W' hs hm hi
          clear hy hR hyl hnext hs hm hi cf ef ea hbr cl hpk1 hb1 hbw hfit
          gi_wp2
          go_roundw
          case rel => exact hn
          case measure => simp [intOf]; omega
    · obtain rfl : k = len := by omega
      have h2 : DueR I e ws fs ss wr := ⟨_, _, _, _, hI, hD⟩
      clear hD hI hEr gr hlen hbl hL1 hL2 hfl hk hfv hfc hfm
      gi_wp2_with (fail)
      gi_loopw [] (DueR I e ws fs ss) (fun wr => wlen wr b)
      case atStart => exact h2
      case round =>
        obtain ⟨e', ws', fs', ss', hI, hD⟩ := hrel
        have hEr := hE _ _ _ _ _ hI
        have hbr := hbx _ _ _ _ _ hI
        have gr := hD.good g
        have c0 := ce_wv hEr.blk
        have hgo : ∀ n, DueR I e ws fs ss (wr.drewN n) := fun n => ⟨_, _, _, _, hG _ _ _ _ _ _ _ _ _ hI (hEr.refl.drewN n), hD⟩
        cases ws' with
        | nil =>
          obtain ⟨wa, wc, hwv, hwc, hwm⟩ := Sl.form hEr.wsl
          rw [hwv] at c0
          clear hyield hE hG hbx hD hEr gr g h2 hI hwv
          gi_wp2_with (fail)
          refine wpIn_wide.2 ?_
          go_quiet (fail)
          gi_wp2
          exact bodyPost_end (results_none rfl _ _ _) rfl ⟨⟨_, rfl⟩, hgo _⟩
        | cons p ws1 =>
          obtain ⟨B1, off1, cap1, hwv, hcw⟩ := pk_at hEr.wsl 0 (by simp)
          have hpk := hEr.pks p (by simp)
          have hmay := fun n => may_calls (wr.drewN n) hEr.blk p hpk
          have hmay1 := may_calls wr.drew hEr.blk p hpk
          have hfit := fits_calls wr.drew hEr.drew (by have := gr.len; simp at this ⊢; omega) (fun q hq => gr.body q (by simp at hq ⊢; grind)) p hpk (gr.body p (by simp))
          rw [hwv] at c0
          obtain ⟨m, hm0, hm1, hm2, hm3⟩ : ∃ m, 0 < m ∧ m ≤ 1000000 ∧ m ≤ (p :: ws1).length ∧ (p :: ws1).length ≤ m := ⟨(p :: ws1).length, by simp, by have := gr.len; simp at this ⊢; omega, Nat.le_refl _, Nat.le_refl _⟩
          have hmq : (p :: ws1).length = m := by omega
          have Hm : Hid ((p :: ws1).length = m) := hmq
          simp only [hmq] at c0
          clear hmq hm2 hm3
          simp only [nth, Nat.add_zero, List.getD_cons_zero] at hcw
          cases hmy : mayV e' p <;> simp only [hmy] at hmay hmay1
          · clear hyield hE hG hbx hD hEr gr g h2 hI hwv hb0 c1
            gi_wp2_with (fail)
            refine wpIn_wide.2 ?_
            go_quiet ((go_at_call 51; exact Calls.quiet_of_same (hmay _)))
            gi_wp2
            exact bodyPost_end (results_none rfl _ _ _) rfl ⟨⟨_, rfl⟩, hgo _⟩
          · obtain ⟨fv, hfv⟩ : ∃ x, Hid (fitsV e' fs' p = x) := ⟨_, rfl⟩
            rw [hfv.out] at hfit
            have hE0 := hEr.blk
            have hbB := hE0.lt
            have hpB := hpk.lt
            have hxB := World.block_lt_of_cell? _ _ hbr
            have hwB := World.block_lt_of_cell? _ _ hcw
            have hmix : Try.prog.follows .mixedOrders = true := by kernel_rfl
            have hD0 : Below wr.heap.size wr wr.drew := (Below.refl _ wr).drew
            have hrd : ∀ W, Below wr.heap.size wr W → W.cell? ⟨bx, 0, none⟩ = some (.pointer (some ⟨b, 0, none⟩)) ∧ W.cell? ⟨b, 0, none⟩ = some (.slice (some ⟨B1, off1, none⟩) m cap1) ∧ W.cell? ⟨B1, off1, none⟩ = some (.pointer (some ⟨p.blk, 0, none⟩)) := fun W hW =>
              ⟨(World.cell?_of_block (hW.block bx hxB)).trans hbr, (World.cell?_of_block (hW.block b hbB)).trans c0, (World.cell?_of_block (hW.block B1 hwB)).trans hcw⟩
            clear hb0 c1 h2
            gi_wp2_with (fail)
            refine wpIn_wide.2 ?_
            refine region_anyC (C := fun W => Below wr.heap.size wr W) hmix ?_
            refine anyC_take (i := 0) rfl hD0 (by kernel_rfl) (by kernel_rfl) (by kernel_rfl) (fun _ _ _ h => h) rfl (fun W hW => by obtain ⟨d1, d2, d3⟩ := hrd W hW; go_simp; with_reducible rfl) ?_
            go_simp
            refine anyC_take (i := 1) rfl hD0 (by kernel_rfl) (by kernel_rfl) (by kernel_rfl) (fun _ _ _ h => h) rfl (fun W hW => by obtain ⟨d1, d2, d3⟩ := hrd W hW; go_simp; with_reducible rfl) ?_
            go_simp
            refine anyC_take (i := 2) rfl hD0 (by kernel_rfl) (by kernel_rfl) (by kernel_rfl) (fun _ _ _ h => h) rfl (fun W hW => by obtain ⟨d1, d2, d3⟩ := hrd W hW; go_simp; with_reducible rfl) ?_
            go_simp
            refine anyC_take (i := 3) rfl hD0 (by kernel_rfl) (by kernel_rfl) (by kernel_rfl) (fun _ _ _ h => h) rfl (fun W hW => by obtain ⟨d1, d2, d3⟩ := hrd W hW; go_simp; with_reducible rfl) ?_
            go_simp
            refine anyC_take (i := 4) rfl hD0 (by kernel_rfl) (by kernel_rfl) (by kernel_rfl) (fun _ _ _ h => h) rfl (fun W hW => by obtain ⟨d1, d2, d3⟩ := hrd W hW; go_simp; with_reducible rfl) ?_
            go_simp
            refine anyC_take (i := 5) rfl hD0 (by kernel_rfl) (by kernel_rfl) (by kernel_rfl) (fun _ _ _ h => h) rfl (fun W hW => by obtain ⟨d1, d2, d3⟩ := hrd W hW; go_simp; with_reducible rfl) ?_
            go_simp
            refine anyC_take (i := 6) rfl hD0 (by kernel_rfl) (by kernel_rfl) (by kernel_rfl) (fun _ _ _ h => h) rfl (fun W hW => by obtain ⟨d1, d2, d3⟩ := hrd W hW; go_simp; with_reducible rfl) ?_
            go_simp
            refine anyC_take (i := 7) rfl hD0 (by kernel_rfl) (by kernel_rfl) (by kernel_rfl) (fun _ _ _ h => h) rfl (fun W hW => by obtain ⟨d1, d2, d3⟩ := hrd W hW; go_simp; with_reducible rfl) ?_
            go_simp
            refine anyC_take (i := 8) rfl hD0 (by kernel_rfl) (by kernel_rfl) (by kernel_rfl) (fun _ _ _ h => h) rfl (fun W hW => by obtain ⟨d1, d2, d3⟩ := hrd W hW; go_simp; with_reducible rfl) ?_
            go_simp
            refine anyC_take (i := 9) rfl hD0 (by kernel_rfl) (by kernel_rfl) (by kernel_rfl) (fun _ _ _ h => h) rfl (fun W hW => by obtain ⟨d1, d2, d3⟩ := hrd W hW; go_simp; with_reducible rfl) ?_
            go_simp
            refine anyC_take (i := 10) rfl hD0 (by kernel_rfl) (by kernel_rfl) (by kernel_rfl) (fun _ _ _ h => h) rfl (fun W hW => by obtain ⟨d1, d2, d3⟩ := hrd W hW; go_simp; with_reducible rfl) ?_
            go_simp
            refine anyC_take (i := 11) rfl hD0 (by kernel_rfl) (by kernel_rfl) (by kernel_rfl) (fun _ _ _ h => h) rfl (fun W hW => by obtain ⟨d1, d2, d3⟩ := hrd W hW; go_simp; with_reducible rfl) ?_
            go_simp
            refine anyC_take (i := 12) rfl hD0 (by kernel_rfl) (by kernel_rfl) (by kernel_rfl) (fun _ _ _ h => h) rfl (fun W hW => by obtain ⟨d1, d2, d3⟩ := hrd W hW; go_simp; with_reducible rfl) ?_
            go_simp
            refine anyC_take (i := 13) rfl hD0 (by kernel_rfl) (by kernel_rfl) (by kernel_rfl) (fun _ _ _ h => h) rfl (fun W hW => by obtain ⟨d1, d2, d3⟩ := hrd W hW; go_simp; with_reducible rfl) ?_
            go_simp
            refine anyC_take (i := 14) rfl hD0 (by kernel_rfl) (by kernel_rfl) (by kernel_rfl) (fun _ _ _ h => h) rfl (fun W hW => by obtain ⟨d1, d2, d3⟩ := hrd W hW; go_simp; with_reducible rfl) ?_
            go_simp
            refine anyC_take (i := 15) rfl hD0 (by kernel_rfl) (by kernel_rfl) (by kernel_rfl) (fun _ _ _ h => h) rfl (fun W hW => by obtain ⟨d1, d2, d3⟩ := hrd W hW; go_simp; with_reducible rfl) ?_
            go_simp
            refine anyC_all (rs := [16]) (by kernel_rfl) (by decide) ?_
            intro i hi
            obtain rfl : i = 16 := by simpa using hi
            clear hi
            refine opC rfl rfl ?_
            go_simp
            refine hmay1.mono ?_
            rintro r w1 ⟨rfl, rfl⟩
            refine ⟨hD0, ?_⟩
            go_simp
            refine anyC_take (i := 17) rfl hD0 (by kernel_rfl) (by kernel_rfl) (by kernel_rfl) (fun _ _ _ h => h) rfl (fun W hW => by obtain ⟨d1, d2, d3⟩ := hrd W hW; go_simp; with_reducible rfl) ?_
            go_simp
            refine anyC_take (i := 18) rfl hD0 (by kernel_rfl) (by kernel_rfl) (by kernel_rfl) (fun _ _ _ h => h) rfl (fun W hW => by obtain ⟨d1, d2, d3⟩ := hrd W hW; go_simp; with_reducible rfl) ?_
            go_simp
            refine anyC_take (i := 19) rfl hD0 (by kernel_rfl) (by kernel_rfl) (by kernel_rfl) (fun _ _ _ h => h) rfl (fun W hW => by obtain ⟨d1, d2, d3⟩ := hrd W hW; go_simp; with_reducible rfl) ?_
            go_simp
            refine anyC_take (i := 20) rfl hD0 (by kernel_rfl) (by kernel_rfl) (by kernel_rfl) (fun _ _ _ h => h) rfl (fun W hW => by obtain ⟨d1, d2, d3⟩ := hrd W hW; go_simp; with_reducible rfl) ?_
            go_simp
            refine anyC_take (i := 21) rfl hD0 (by kernel_rfl) (by kernel_rfl) (by kernel_rfl) (fun _ _ _ h => h) rfl (fun W hW => by obtain ⟨d1, d2, d3⟩ := hrd W hW; go_simp; with_reducible rfl) ?_
            go_simp
            refine anyC_take (i := 22) rfl hD0 (by kernel_rfl) (by kernel_rfl) (by kernel_rfl) (fun _ _ _ h => h) rfl (fun W hW => by obtain ⟨d1, d2, d3⟩ := hrd W hW; go_simp; with_reducible rfl) ?_
            go_simp
            refine anyC_take (i := 23) rfl hD0 (by kernel_rfl) (by kernel_rfl) (by kernel_rfl) (fun _ _ _ h => h) rfl (fun W hW => by obtain ⟨d1, d2, d3⟩ := hrd W hW; go_simp; with_reducible rfl) ?_
            go_simp
            refine anyC_take (i := 24) rfl hD0 (by kernel_rfl) (by kernel_rfl) (by kernel_rfl) (fun _ _ _ h => h) rfl (fun W hW => by obtain ⟨d1, d2, d3⟩ := hrd W hW; go_simp; with_reducible rfl) ?_
            go_simp
            refine anyC_take (i := 25) rfl hD0 (by kernel_rfl) (by kernel_rfl) (by kernel_rfl) (fun _ _ _ h => h) rfl (fun W hW => by obtain ⟨d1, d2, d3⟩ := hrd W hW; go_simp; with_reducible rfl) ?_
            go_simp
            refine anyC_take (i := 26) rfl hD0 (by kernel_rfl) (by kernel_rfl) (by kernel_rfl) (fun _ _ _ h => h) rfl (fun W hW => by obtain ⟨d1, d2, d3⟩ := hrd W hW; go_simp; with_reducible rfl) ?_
            go_simp
            refine anyC_all (rs := [27]) (by kernel_rfl) (by decide) ?_
            intro i hi
            obtain rfl : i = 27 := by simpa using hi
            clear hi
            refine opC rfl rfl ?_
            go_simp
            refine hfit.mono ?_
            rintro r w1 ⟨rfl, hbw⟩
            have hD1 : Below wr.heap.size wr w1 := hD0.trans hbw
            refine ⟨hD1, ?_⟩
            go_simp
            refine anyC_take (i := 28) rfl hD1 (by kernel_rfl) (by kernel_rfl) (by kernel_rfl) (fun _ _ _ h => h) rfl (fun W hW => by obtain ⟨d1, d2, d3⟩ := hrd W hW; go_simp; with_reducible rfl) ?_
            go_simp
            refine anyC_done (by kernel_rfl) ?_ _
            cases fv
            · clear hfv
              have hgo1 : DueR I e ws fs ss w1 := ⟨_, _, _, _, hG _ _ _ _ _ _ _ _ _ hI (hEr.below hD1), hD⟩
              clear hyield hE hG hbx hD hEr gr g hI hwv hrd hmay hmay1 hfit
              gi_wp2
              exact bodyPost_end (results_none rfl _ _ _) rfl ⟨⟨_, rfl⟩, hgo1⟩
            · have hfV : Hid (fitsV e' fs' p = true) := hfv
              have hmV : Hid (mayV e' p = true) := hmy
              clear hfv hmy
              have hI1 := hG _ _ _ _ _ _ _ _ _ hI (hEr.below hD1)
              have hE1 := hE _ _ _ _ _ hI1
              have hb1 := hbx _ _ _ _ _ hI1
              obtain ⟨c0', c0, hcw'⟩ := hrd w1 hD1
              have hpk1 := hpk.below hD1 hpB
              have hxb : bx ≠ b := by
                rintro rfl
                rw [c0] at hb1; cases hb1
              have hpb : p.blk ≠ b := by
                intro hh
                have := cp_kind hpk1
                rw [hh, c0] at this; cases this
              have hbp : b ≠ p.blk := fun hh => hpb hh.symm
              have hwl1 : ws1.length + 1 ≤ wlen wr b := by rw [wlen_of hEr]; simp
              clear hmay hmay1 hfit hrd hcw hbw hD1 hD0 c0' hbr hpk hpB hbB hE0 hxB hwB hI hEr
              have d1 := ce_fv hE1.blk
              have d2 := ce_next hE1.blk
              have d3 := ce_state hE1.blk
              have d4 := ce_count hE1.blk
              have d5 := cp_kind hpk1
              have d6 := cp_number hpk1
              have f0 := hE1.blk.frozen 0
              have f1 := hE1.blk.frozen 1
              have f2 := hE1.blk.frozen 2
              have f3 := hE1.blk.frozen 23
              have f4 := hE1.blk.frozen 31
              have f5 := hpk1.frozen 1
              obtain ⟨fa2, fc2, hfv2, hfc2, hfm2⟩ := Sl.form hE1.fsl
              rw [hfv2] at d1
              obtain ⟨i0, hi, hz0, hz1, hz2⟩ := info_parts Try.info62
              have hpt := hE1.wsl
              rw [hwv] at hpt
              have htl := PSl.tail hpt
              have hxf := hbf _ _ _ _ _ hI1
              have hbf := hE1.sep.bf
              have hnx : wrap64 (e'.next + 1) = e'.next + 1 := by have := gr.next0; have := gr.next1; unfold wrap64; omega
              have hlf : fs'.length ≤ 90000 := by have := gr.len; omega
              have hSl : ∀ W, Chg (fun x => x = b ∨ x = p.blk) w1 W → Sl W (.slice fa2 fs'.length fc2) 62 1 fs'.length (fs'.map Pk.ptr) := fun W hc => hfv2 ▸ Sl.chg hE1.fsl hc (fun x hx hh => by
                rcases hh with hh | hh
                · exact hE1.sep.bf (hh ▸ hx)
                · exact hE1.sep.fq x hx (hh ▸ (by simp)))
              have hpop := fun (w6 w2 w7 : World) (p' : Pk) (e2 : E) (v' : Value) => popGo (w6 := w6) (w2 := w2) (w7 := w7) (p' := p') (e2 := e2) (v' := v') hE1
              have hbl := hE1.blk
              have hbB := hbl.lt
              have hpB := hpk1.lt
              have hxB : bx < w1.heap.size := World.block_lt_of_cell? _ _ hb1
              have hbN : b ≠ w1.heap.size := by omega
              have hpN : p.blk ≠ w1.heap.size := by omega
              have hGi := fun e2 ws2 fs2 W2 => hG _ _ _ _ _ e2 ws2 fs2 W2 hI1
              have gpop := fun wv fv c st => Good.pop gr wv fv c st
              have hsl : ss'.length ≤ ss.length + 2 * ws.length + fs.length := by have := hD.len; omega
              have hyl := fun e2 W2 hi2 gd => hyield e2 ws1 fs' { p with number := e'.next } [] ss' W2 hi2 gd hsl
              have hxf2 : bx ∉ slB (.slice fa2 fs'.length fc2) := hfv2 ▸ fun hx => hxf (foot_iff.2 (by simp [hx]))
              have hbx0 : bx ≠ p.blk := fun hx => hxf (foot_iff.2 (.inr (.inr (.inr (.inr (by simp [hx]))))))
              have hbx1 : bx ≠ w1.heap.size := by omega
              have hmix : Try.prog.follows .mixedOrders = true := by kernel_rfl
              have HF : Hid (e'.fv = .slice fa2 fs'.length fc2) := hfv2
              have hbf2 : b ∉ slB (.slice fa2 fs'.length fc2) := hfv2 ▸ hbf
              have hpf2 : p.blk ∉ slB (.slice fa2 fs'.length fc2) := hfv2 ▸ fun hx => hE1.sep.fq _ hx (by simp)
              rw [Hm.out] at htl
              have hwl0 : slB (.slice (some ⟨B1, off1, none⟩) m cap1) = slB e'.wv := by rw [hwv, Hm.out]
              have hEw := fun e ws fs ss W h => wlen_of (hE e ws fs ss W h)
              rw [hfv2] at hpop
              clear hsl hyield hE hG hbx hE1 gr g hI1 hwv hbf Hm hfv2 hxf
              by_cases hc1 : cap1 = 1
              · simp only [sliced, hc1, if_true, Addr.add] at htl
                have hbl5 := ((((hbl.set 0 (.slice (some ⟨B1, off1, none⟩) (m - 1) 0)).other hbp 1 (vi e'.next)).set 2 (vi (e'.next + 1))).set 31 (vi (wrap64 (e'.count + 1))))
                have hpk5 := ((((hpk1.other hpb 0 (.slice (some ⟨B1, off1, none⟩) (m - 1) 0)).set 1 (vi e'.next)).other hpb 2 (vi (e'.next + 1))).other hpb 31 (vi (wrap64 (e'.count + 1))))
                have hc5 := (((((Chg.refl (fun x => x = b ∨ x = p.blk) w1).setCell (p := ⟨b, 0, none⟩) (.inl (.inl rfl)) (.slice (some ⟨B1, off1, none⟩) (m - 1) 0)).setCell (p := ⟨p.blk, 1, none⟩) (.inl (.inr rfl)) (vi e'.next)).setCell (p := ⟨b, 2, none⟩) (.inl (.inl rfl)) (vi (e'.next + 1))).setCell (p := ⟨b, 31, none⟩) (.inl (.inl rfl)) (vi (wrap64 (e'.count + 1))))
                have hD5 : Two bx b 1 (.slice fa2 fs'.length fc2) _ := And.intro ((World.cell?_of_block (a := ⟨bx, 0, none⟩) ((heap_set _ hxb 31 (vi (wrap64 (e'.count + 1)))).trans ((heap_set _ hxb 2 (vi (e'.next + 1))).trans ((heap_set _ hbx0 1 (vi e'.next)).trans (heap_set w1 hxb 0 (.slice (some ⟨B1, off1, none⟩) (m - 1) 0)))))).trans hb1) (ce_fv' (e := { e' with wv := .slice (some ⟨B1, off1, none⟩) (m - 1) 0, next := e'.next + 1, count := wrap64 (e'.count + 1) }) hbl5 (v := .slice fa2 fs'.length fc2) HF.out)
                have hD6 := hD5.drew.drew
                gi_wp2_with (fail)
                refine wpIn_wide.2 ?_
                go_region
                gi_wp2_with (fail)
                refine wpIn_wide.2 ?_
                refine region_anyL (fun j => j != 12) (Two bx b 1 (.slice fa2 fs'.length fc2)) hmix ?_
                clear d1 d2 d3 d4 d5 d6 f0 f1 f2 f3 f4 f5 hpk1 hbl
                refine anyL_take (i := 0) rfl hD6 (by kernel_rfl) (by kernel_rfl) (by kernel_rfl) (by kernel_rfl) (fun _ _ _ h => h) rfl (fun W hW => by obtain ⟨x1, x2⟩ := hW; go_simp; with_reducible rfl) ?_
                go_simp
                refine anyL_take (i := 1) rfl hD6 (by kernel_rfl) (by kernel_rfl) (by kernel_rfl) (by kernel_rfl) (fun _ _ _ h => h) rfl (fun W hW => by obtain ⟨x1, x2⟩ := hW; go_simp; with_reducible rfl) ?_
                go_simp
                refine anyL_take (i := 2) rfl hD6 (by kernel_rfl) (by kernel_rfl) (by kernel_rfl) (by kernel_rfl) (fun _ _ _ h => h) rfl (fun W hW => by obtain ⟨x1, x2⟩ := hW; go_simp; with_reducible rfl) ?_
                go_simp
                refine anyL_take (i := 3) rfl hD6 (by kernel_rfl) (by kernel_rfl) (by kernel_rfl) (by kernel_rfl) (fun _ _ _ h => h) rfl (fun W hW => by obtain ⟨x1, x2⟩ := hW; go_simp; with_reducible rfl) ?_
                go_simp
                refine anyL_take (i := 4) rfl hD6 (by kernel_rfl) (by kernel_rfl) (by kernel_rfl) (by kernel_rfl) (fun _ _ _ h => h) rfl (fun W hW => by obtain ⟨x1, x2⟩ := hW; go_simp; with_reducible rfl) ?_
                go_simp
                refine anyL_take (i := 5) rfl hD6 (by kernel_rfl) (by kernel_rfl) (by kernel_rfl) (by kernel_rfl) (fun _ _ _ h => h) rfl (fun W hW => by obtain ⟨x1, x2⟩ := hW; go_simp; with_reducible rfl) ?_
                go_simp
                refine anyL_take (i := 6) rfl hD6 (by kernel_rfl) (by kernel_rfl) (by kernel_rfl) (by kernel_rfl) (fun _ _ _ h => h) rfl (fun W hW => by obtain ⟨x1, x2⟩ := hW; go_simp; with_reducible rfl) ?_
                go_simp
                refine anyL_one (i := 7) (by kernel_rfl) rfl rfl ?_
                go_simp
                refine ⟨(hD5.alloc _).drew.drew, ?_⟩
                refine anyL_one (i := 8) (by kernel_rfl) rfl rfl ?_
                refine wp_append_sl _ (.tmp 115) (.tmp 117) 52 rfl 62 i0 (.pointer none) 1 8 Try.underlying52 hi hz0 hz1 hz2 rfl (.slice fa2 fs'.length fc2) fs'.length (fs'.map Pk.ptr) (by simp [Act.eval]) (hSl _ (((hc5.alloc _).drew).drew)) ⟨w1.heap.size, 0, none⟩ 1 1 [.pointer (some ⟨p.blk, 0, none⟩)] (by simp [Act.eval]) rfl (one_new (new_dd (by simp) rfl)) (one_ptr _) (by decide) (by simp [maxLen]; omega) (by omega) ?_
                intro v' w2 hs2 hc2 hb2
                obtain ⟨a2, cap2, rfl, _, _⟩ := hs2.form
                have qb : Blk w2 b { e' with wv := .slice (some ⟨B1, off1, none⟩) (m - 1) 0, next := e'.next + 1, count := wrap64 (e'.count + 1) }.enc 61 := Blk.chg (Blk.drew (Blk.drew (hbl5.alloc _))) hc2 hbf2
                have qp : Blk w2 p.blk { p with number := e'.next }.enc 64 := Blk.chg (Blk.drew (Blk.drew (hpk5.alloc _))) hc2 hpf2
                have hD2 : Two bx b 1 (.slice fa2 fs'.length fc2) w2 := ⟨(World.cell?_of_block (a := ⟨bx, 0, none⟩) (hc2.block bx (by simp; omega) hxf2)).trans (hD5.alloc _).drew.drew.1, ce_fv' qb HF.out⟩
                refine ⟨fun _ => hD2, ?_⟩
                go_simp
                refine anyL_one (i := 9) (by kernel_rfl) rfl rfl ?_
                go_simp
                try refine ⟨hD2, ?_⟩
                refine anyL_one (i := 10) (by kernel_rfl) rfl rfl ?_
                go_simp
                try refine ⟨hD2, ?_⟩
                refine anyL_one (i := 11) (by kernel_rfl) rfl rfl ?_
                go_simp
                try refine ⟨hD2, ?_⟩
                have q1 := ce_fv qb
                have q2 := qb.frozen 1
                refine anyL_one (i := 12) (by kernel_rfl) rfl rfl ?_
                go_simp
                refine anyL_done (by kernel_rfl) ?_ _
                have hb0 := hD2.1
                have q3 := ce_state qb
                have q4 := qb.frozen 23
                have q5 := cp_kind qp
                by_cases hk : p.kind = 4
                · simp only [hk] at q5
                  have hW := hpop _ _ ((w2.setCell ⟨b, 1, none⟩ (.slice a2 (fs'.length + 1) cap2)).setCell ⟨b, 23, none⟩ (vi 3)) { p with number := e'.next } { e' with wv := .slice (some ⟨B1, off1, none⟩) (m - 1) 0, fv := .slice a2 (fs'.length + 1) cap2, next := e'.next + 1, count := wrap64 (e'.count + 1), state := 3 } _ ((hc5.alloc _).drew.drew) hc2 (((Chg.refl (· = b) w2).setCell (p := ⟨b, 1, none⟩) (.inl rfl) _).setCell (p := ⟨b, 23, none⟩) (.inl rfl) _) ((qb.set 1 _).set 23 _) htl.1 (htl.2.trans hwl0) rfl hs2 hb2 rfl ((qp.other hpb 1 _).other hpb 23 _) rfl
                  have hI2 := hGi _ _ _ _ hW
                  obtain ⟨fn, tmps, assign, body, hy, hR⟩ := hyl _ _ hI2 (gpop _ _ _ _)
                  have hn : ∀ p' s W, SameP { p with number := e'.next } p' → Made { e' with wv := .slice (some ⟨B1, off1, none⟩) (m - 1) 0, fv := .slice a2 (fs'.length + 1) cap2, next := e'.next + 1, count := wrap64 (e'.count + 1), state := 3 } p.kind e'.next p.body s → I { e' with wv := .slice (some ⟨B1, off1, none⟩) (m - 1) 0, fv := .slice a2 (fs'.length + 1) cap2, next := e'.next + 1, count := wrap64 (e'.count + 1), state := 3 } ws1 (fs' ++ [p']) (ss' ++ [s]) W → DueR I e ws fs ss W := fun p' s W hs hm hi => ⟨_, _, _, _, hi, Due.pop _ p' s hD hmV.out hfV.out ⟨_, _, _, by rw [if_pos hk]⟩ hs hm⟩
                  clear hW hI2 hpop hGi hyl gpop hD hfV hmV hbl5 hpk5 hc5 hD5 hD6 hD2 htl hs2 hc2 hb2 qp qb
                  gi_wp2_with (fail)
                  refine ⟨wide_deep _, hR.mono ?_⟩
                  rintro r W' ⟨rfl, p', s, hs, hm, hi⟩
                  have hn := hn p' s W' hs hm hi
                  have hme := hEw _ _ _ _ _ hi
                  clear hy hR hEw hs hm hi
                  gi_wp2
                  go_roundw
                  case rel => exact hn
                  case measure => omega
                · have hk' : (p.kind == 4) = false := by simp [hk]
                  have hW := hpop _ _ (w2.setCell ⟨b, 1, none⟩ (.slice a2 (fs'.length + 1) cap2)) { p with number := e'.next } { e' with wv := .slice (some ⟨B1, off1, none⟩) (m - 1) 0, fv := .slice a2 (fs'.length + 1) cap2, next := e'.next + 1, count := wrap64 (e'.count + 1), state := e'.state } _ ((hc5.alloc _).drew.drew) hc2 ((Chg.refl (· = b) w2).setCell (p := ⟨b, 1, none⟩) (.inl rfl) _) (qb.set 1 _) htl.1 (htl.2.trans hwl0) rfl hs2 hb2 rfl (qp.other hpb 1 _) rfl
                  have hI2 := hGi _ _ _ _ hW
                  obtain ⟨fn, tmps, assign, body, hy, hR⟩ := hyl _ _ hI2 (gpop _ _ _ _)
                  have hn : ∀ p' s W, SameP { p with number := e'.next } p' → Made { e' with wv := .slice (some ⟨B1, off1, none⟩) (m - 1) 0, fv := .slice a2 (fs'.length + 1) cap2, next := e'.next + 1, count := wrap64 (e'.count + 1), state := e'.state } p.kind e'.next p.body s → I { e' with wv := .slice (some ⟨B1, off1, none⟩) (m - 1) 0, fv := .slice a2 (fs'.length + 1) cap2, next := e'.next + 1, count := wrap64 (e'.count + 1), state := e'.state } ws1 (fs' ++ [p']) (ss' ++ [s]) W → DueR I e ws fs ss W := fun p' s W hs hm hi => ⟨_, _, _, _, hi, Due.pop _ p' s hD hmV.out hfV.out ⟨_, _, _, by rw [if_neg hk]⟩ hs hm⟩
                  clear hW hI2 hpop hGi hyl gpop hD hfV hmV hbl5 hpk5 hc5 hD5 hD6 hD2 htl hs2 hc2 hb2 qp qb
                  gi_wp2_with (fail)
                  refine ⟨wide_deep _, hR.mono ?_⟩
                  rintro r W' ⟨rfl, p', s, hs, hm, hi⟩
                  have hn := hn p' s W' hs hm hi
                  have hme := hEw _ _ _ _ _ hi
                  clear hy hR hEw hs hm hi
                  gi_wp2
                  go_roundw
                  case rel => exact hn
                  case measure => omega
              · simp only [sliced, hc1, if_false, Addr.add] at htl
                have hbl5 := ((((hbl.set 0 (.slice (some ⟨B1, off1 + 1, none⟩) (m - 1) (cap1 - 1))).other hbp 1 (vi e'.next)).set 2 (vi (e'.next + 1))).set 31 (vi (wrap64 (e'.count + 1))))
                have hpk5 := ((((hpk1.other hpb 0 (.slice (some ⟨B1, off1 + 1, none⟩) (m - 1) (cap1 - 1))).set 1 (vi e'.next)).other hpb 2 (vi (e'.next + 1))).other hpb 31 (vi (wrap64 (e'.count + 1))))
                have hc5 := (((((Chg.refl (fun x => x = b ∨ x = p.blk) w1).setCell (p := ⟨b, 0, none⟩) (.inl (.inl rfl)) (.slice (some ⟨B1, off1 + 1, none⟩) (m - 1) (cap1 - 1))).setCell (p := ⟨p.blk, 1, none⟩) (.inl (.inr rfl)) (vi e'.next)).setCell (p := ⟨b, 2, none⟩) (.inl (.inl rfl)) (vi (e'.next + 1))).setCell (p := ⟨b, 31, none⟩) (.inl (.inl rfl)) (vi (wrap64 (e'.count + 1))))
                have hD5 : Two bx b 1 (.slice fa2 fs'.length fc2) _ := And.intro ((World.cell?_of_block (a := ⟨bx, 0, none⟩) ((heap_set _ hxb 31 (vi (wrap64 (e'.count + 1)))).trans ((heap_set _ hxb 2 (vi (e'.next + 1))).trans ((heap_set _ hbx0 1 (vi e'.next)).trans (heap_set w1 hxb 0 (.slice (some ⟨B1, off1 + 1, none⟩) (m - 1) (cap1 - 1))))))).trans hb1) (ce_fv' (e := { e' with wv := .slice (some ⟨B1, off1 + 1, none⟩) (m - 1) (cap1 - 1), next := e'.next + 1, count := wrap64 (e'.count + 1) }) hbl5 (v := .slice fa2 fs'.length fc2) HF.out)
                have hD6 := hD5.drew.drew
                gi_wp2_with (fail)
                refine wpIn_wide.2 ?_
                go_region
                gi_wp2_with (fail)
                refine wpIn_wide.2 ?_
                refine region_anyL (fun j => j != 12) (Two bx b 1 (.slice fa2 fs'.length fc2)) hmix ?_
                clear d1 d2 d3 d4 d5 d6 f0 f1 f2 f3 f4 f5 hpk1 hbl
                refine anyL_take (i := 0) rfl hD6 (by kernel_rfl) (by kernel_rfl) (by kernel_rfl) (by kernel_rfl) (fun _ _ _ h => h) rfl (fun W hW => by obtain ⟨x1, x2⟩ := hW; go_simp; with_reducible rfl) ?_
                go_simp
                refine anyL_take (i := 1) rfl hD6 (by kernel_rfl) (by kernel_rfl) (by kernel_rfl) (by kernel_rfl) (fun _ _ _ h => h) rfl (fun W hW => by obtain ⟨x1, x2⟩ := hW; go_simp; with_reducible rfl) ?_
                go_simp
                refine anyL_take (i := 2) rfl hD6 (by kernel_rfl) (by kernel_rfl) (by kernel_rfl) (by kernel_rfl) (fun _ _ _ h => h) rfl (fun W hW => by obtain ⟨x1, x2⟩ := hW; go_simp; with_reducible rfl) ?_
                go_simp
                refine anyL_take (i := 3) rfl hD6 (by kernel_rfl) (by kernel_rfl) (by kernel_rfl) (by kernel_rfl) (fun _ _ _ h => h) rfl (fun W hW => by obtain ⟨x1, x2⟩ := hW; go_simp; with_reducible rfl) ?_
                go_simp
                refine anyL_take (i := 4) rfl hD6 (by kernel_rfl) (by kernel_rfl) (by kernel_rfl) (by kernel_rfl) (fun _ _ _ h => h) rfl (fun W hW => by obtain ⟨x1, x2⟩ := hW; go_simp; with_reducible rfl) ?_
                go_simp
                refine anyL_take (i := 5) rfl hD6 (by kernel_rfl) (by kernel_rfl) (by kernel_rfl) (by kernel_rfl) (fun _ _ _ h => h) rfl (fun W hW => by obtain ⟨x1, x2⟩ := hW; go_simp; with_reducible rfl) ?_
                go_simp
                refine anyL_take (i := 6) rfl hD6 (by kernel_rfl) (by kernel_rfl) (by kernel_rfl) (by kernel_rfl) (fun _ _ _ h => h) rfl (fun W hW => by obtain ⟨x1, x2⟩ := hW; go_simp; with_reducible rfl) ?_
                go_simp
                refine anyL_one (i := 7) (by kernel_rfl) rfl rfl ?_
                go_simp
                refine ⟨(hD5.alloc _).drew.drew, ?_⟩
                refine anyL_one (i := 8) (by kernel_rfl) rfl rfl ?_
                refine wp_append_sl _ (.tmp 115) (.tmp 117) 52 rfl 62 i0 (.pointer none) 1 8 Try.underlying52 hi hz0 hz1 hz2 rfl (.slice fa2 fs'.length fc2) fs'.length (fs'.map Pk.ptr) (by simp [Act.eval]) (hSl _ (((hc5.alloc _).drew).drew)) ⟨w1.heap.size, 0, none⟩ 1 1 [.pointer (some ⟨p.blk, 0, none⟩)] (by simp [Act.eval]) rfl (one_new (new_dd (by simp) rfl)) (one_ptr _) (by decide) (by simp [maxLen]; omega) (by omega) ?_
                intro v' w2 hs2 hc2 hb2
                obtain ⟨a2, cap2, rfl, _, _⟩ := hs2.form
                have qb : Blk w2 b { e' with wv := .slice (some ⟨B1, off1 + 1, none⟩) (m - 1) (cap1 - 1), next := e'.next + 1, count := wrap64 (e'.count + 1) }.enc 61 := Blk.chg (Blk.drew (Blk.drew (hbl5.alloc _))) hc2 hbf2
                have qp : Blk w2 p.blk { p with number := e'.next }.enc 64 := Blk.chg (Blk.drew (Blk.drew (hpk5.alloc _))) hc2 hpf2
                have hD2 : Two bx b 1 (.slice fa2 fs'.length fc2) w2 := ⟨(World.cell?_of_block (a := ⟨bx, 0, none⟩) (hc2.block bx (by simp; omega) hxf2)).trans (hD5.alloc _).drew.drew.1, ce_fv' qb HF.out⟩
                refine ⟨fun _ => hD2, ?_⟩
                go_simp
                refine anyL_one (i := 9) (by kernel_rfl) rfl rfl ?_
                go_simp
                try refine ⟨hD2, ?_⟩
                refine anyL_one (i := 10) (by kernel_rfl) rfl rfl ?_
                go_simp
                try refine ⟨hD2, ?_⟩
                refine anyL_one (i := 11) (by kernel_rfl) rfl rfl ?_
                go_simp
                try refine ⟨hD2, ?_⟩
                have q1 := ce_fv qb
                have q2 := qb.frozen 1
                refine anyL_one (i := 12) (by kernel_rfl) rfl rfl ?_
                go_simp
                refine anyL_done (by kernel_rfl) ?_ _
                have hb0 := hD2.1
                have q3 := ce_state qb
                have q4 := qb.frozen 23
                have q5 := cp_kind qp
                by_cases hk : p.kind = 4
                · simp only [hk] at q5
                  have hW := hpop _ _ ((w2.setCell ⟨b, 1, none⟩ (.slice a2 (fs'.length + 1) cap2)).setCell ⟨b, 23, none⟩ (vi 3)) { p with number := e'.next } { e' with wv := .slice (some ⟨B1, off1 + 1, none⟩) (m - 1) (cap1 - 1), fv := .slice a2 (fs'.length + 1) cap2, next := e'.next + 1, count := wrap64 (e'.count + 1), state := 3 } _ ((hc5.alloc _).drew.drew) hc2 (((Chg.refl (· = b) w2).setCell (p := ⟨b, 1, none⟩) (.inl rfl) _).setCell (p := ⟨b, 23, none⟩) (.inl rfl) _) ((qb.set 1 _).set 23 _) htl.1 (htl.2.trans hwl0) rfl hs2 hb2 rfl ((qp.other hpb 1 _).other hpb 23 _) rfl
                  have hI2 := hGi _ _ _ _ hW
                  obtain ⟨fn, tmps, assign, body, hy, hR⟩ := hyl _ _ hI2 (gpop _ _ _ _)
                  have hn : ∀ p' s W, SameP { p with number := e'.next } p' → Made { e' with wv := .slice (some ⟨B1, off1 + 1, none⟩) (m - 1) (cap1 - 1), fv := .slice a2 (fs'.length + 1) cap2, next := e'.next + 1, count := wrap64 (e'.count + 1), state := 3 } p.kind e'.next p.body s → I { e' with wv := .slice (some ⟨B1, off1 + 1, none⟩) (m - 1) (cap1 - 1), fv := .slice a2 (fs'.length + 1) cap2, next := e'.next + 1, count := wrap64 (e'.count + 1), state := 3 } ws1 (fs' ++ [p']) (ss' ++ [s]) W → DueR I e ws fs ss W := fun p' s W hs hm hi => ⟨_, _, _, _, hi, Due.pop _ p' s hD hmV.out hfV.out ⟨_, _, _, by rw [if_pos hk]⟩ hs hm⟩
                  clear hW hI2 hpop hGi hyl gpop hD hfV hmV hbl5 hpk5 hc5 hD5 hD6 hD2 htl hs2 hc2 hb2 qp qb
                  gi_wp2_with (fail)
                  refine ⟨wide_deep _, hR.mono ?_⟩
                  rintro r W' ⟨rfl, p', s, hs, hm, hi⟩
                  have hn := hn p' s W' hs hm hi
                  have hme := hEw _ _ _ _ _ hi
                  clear hy hR hEw hs hm hi
                  gi_wp2
                  go_roundw
                  case rel => exact hn
                  case measure => omega
                · have hk' : (p.kind == 4) = false := by simp [hk]
                  have hW := hpop _ _ (w2.setCell ⟨b, 1, none⟩ (.slice a2 (fs'.length + 1) cap2)) { p with number := e'.next } { e' with wv := .slice (some ⟨B1, off1 + 1, none⟩) (m - 1) (cap1 - 1), fv := .slice a2 (fs'.length + 1) cap2, next := e'.next + 1, count := wrap64 (e'.count + 1), state := e'.state } _ ((hc5.alloc _).drew.drew) hc2 ((Chg.refl (· = b) w2).setCell (p := ⟨b, 1, none⟩) (.inl rfl) _) (qb.set 1 _) htl.1 (htl.2.trans hwl0) rfl hs2 hb2 rfl (qp.other hpb 1 _) rfl
                  have hI2 := hGi _ _ _ _ hW
                  obtain ⟨fn, tmps, assign, body, hy, hR⟩ := hyl _ _ hI2 (gpop _ _ _ _)
                  have hn : ∀ p' s W, SameP { p with number := e'.next } p' → Made { e' with wv := .slice (some ⟨B1, off1 + 1, none⟩) (m - 1) (cap1 - 1), fv := .slice a2 (fs'.length + 1) cap2, next := e'.next + 1, count := wrap64 (e'.count + 1), state := e'.state } p.kind e'.next p.body s → I { e' with wv := .slice (some ⟨B1, off1 + 1, none⟩) (m - 1) (cap1 - 1), fv := .slice a2 (fs'.length + 1) cap2, next := e'.next + 1, count := wrap64 (e'.count + 1), state := e'.state } ws1 (fs' ++ [p']) (ss' ++ [s]) W → DueR I e ws fs ss W := fun p' s W hs hm hi => ⟨_, _, _, _, hi, Due.pop _ p' s hD hmV.out hfV.out ⟨_, _, _, by rw [if_neg hk]⟩ hs hm⟩
                  clear hW hI2 hpop hGi hyl gpop hD hfV hmV hbl5 hpk5 hc5 hD5 hD6 hD2 htl hs2 hc2 hb2 qp qb
                  gi_wp2_with (fail)
                  refine ⟨wide_deep _, hR.mono ?_⟩
                  rintro r W' ⟨rfl, p', s, hs, hm, hi⟩
                  have hn := hn p' s W' hs hm hi
                  have hme := hEw _ _ _ _ _ hi
                  clear hy hR hEw hs hm hi
                  gi_wp2
                  go_roundw
                  case rel => exact hn
                  case measure => omega
end Go.Proofs.Ytglbfgpdmlkamaa
