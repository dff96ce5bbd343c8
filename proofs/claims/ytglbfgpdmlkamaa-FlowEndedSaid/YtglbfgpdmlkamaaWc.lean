/-
  The walks of queued and Write.
-/
import Derived.Test.YtglbfgpdmlkamaaWb
import Derived.LoopTactic
import Derived.Deep.RegionLaw
import Derived.BigRegion
namespace Go.Proofs.Ytglbfgpdmlkamaa
open Go.RowKit Go.Flw

variable {b : Nat} {e : E} {ws fs : List Pk} {ks : List Ke} {clk : Nat}

def SomeInt (w : World) (r : Ending) (w' : World) : Prop := ∃ n : Int, r = .returned (vi n) ∧ w = w'

set_option maxHeartbeats 400000 in
theorem queued_calls (w : World) (h : EndIs w b e ws fs ks clk) : Calls Try.prog 35 #[.pointer (some ⟨b, 0, none⟩)] w (SomeInt w) := by
  have c1 := ce_wv h.blk
  obtain ⟨a, cap, hv, hcap, hmax⟩ := Sl.form h.wsl
  unfold maxLen at hmax
  rw [hv] at c1
  go_enter Try.func35, Try.ntmps35
  go_wp2
  go_loop [3, 12] (fun s i => ∃ k : Nat, ∃ n : Int, k ≤ ws.length ∧ i = .int .i64 k ∧ s = .int .i64 n) (fun _ i => ws.length - (intOf i).toNat)
  case atStart => exact ⟨0, 0, Nat.zero_le _, rfl, rfl⟩
  case round =>
    obtain ⟨k, n, hk, rfl, rfl⟩ := hrel
    by_cases hlt : k < ws.length
    · obtain ⟨B, off, cap', hv', hc⟩ := pk_at h.wsl k hlt
      rw [hv] at hv'
      injection hv' with ha _ _
      subst ha
      have hb := cp_body (h.pks (nth ws k) (List.mem_append.2 (.inl (nth_mem ws k hlt))))
      go_wp2
      go_round
      case rel => exact ⟨k + 1, _, by omega, by go_num, rfl⟩
      case measure => simp [intOf]; omega
    · go_wp2
      go_ret
      exact ⟨_, rfl, rfl⟩

theorem cut_size (s : ByteArray) (m : Nat) (h : m ≤ s.size) : (s.extract 0 m).size = m := by
  simp [ByteArray.size_extract]; omega
theorem cut_cat (s : ByteArray) (m : Nat) : (s.extract 0 m).data.toList ++ (s.extract m s.size).data.toList = s.data.toList := by
  simp
  rw [List.take_of_length_le (i := s.size - m) (by simp), List.take_append_drop]
theorem cut_size2 (s : ByteArray) (m : Nat) : (s.extract m s.size).size = s.size - m := by
  simp [ByteArray.size_extract]

def flat (l : List Pk) : List UInt8 := l.flatMap (·.body.data.toList)

/-- Packets of data, as Write makes them. -/
def Datas (qs : List Pk) : Prop := ∀ q ∈ qs, q = fresh q.blk 2 q.body ∧ 0 < q.body.size ∧ q.body.size ≤ 1400

/-- Write has put so much of a text behind what waits; rest is left. -/
def WriteTo (w : World) (b : Nat) (e : E) (ws fs : List Pk) (ks : List Ke) (clk : Nat) (now : Int) (text rest : ByteArray) (w' : World) : Prop :=
  ∃ wv qs, Went w b e ws fs w' { e with now := now, wv := wv } (ws ++ qs) fs ks clk ∧ Datas qs ∧ flat qs ++ rest.data.toList = text.data.toList ∧ qs.length + rest.size ≤ text.size

def strLen : Value → Nat | .string s => s.size | _ => 0

def WritePost (w : World) (b : Nat) (e : E) (ws fs : List Pk) (ks : List Ke) (clk : Nat) (now : Int) (text : ByteArray) (r : Ending) (w' : World) : Prop :=
  (r = .returned (vi 0) ∧ WriteTo w b e ws fs ks clk now text ByteArray.empty w') ∨ ((r = .returned (vi 9) ∨ r = .returned (vi 4)) ∧ w = w')

theorem write_step {w wr W0 w1 : World} {now : Int} {text rest rest' body : ByteArray} {wv v' : Value} {qs : List Pk} (hW : Went w b e ws fs wr { e with now := now, wv := wv } (ws ++ qs) fs ks clk) (hd : Datas qs)
    (hf : flat qs ++ rest.data.toList = text.data.toList) (hq : qs.length + rest.size ≤ text.size) (h0 : Chg (fun _ => False) wr W0) (hc1 : Chg (· ∈ slB wv) W0 w1)
    (hB1 : Blk w1 b { e with now := now, wv := wv }.enc 61) (hqb : Blk w1 wr.heap.size (fresh wr.heap.size 2 body).enc 64)
    (hs1 : Sl w1 v' 62 1 (ws.length + qs.length + 1) ((ws ++ qs).map Pk.ptr ++ [.pointer (some ⟨wr.heap.size, 0, none⟩)])) (hb1 : ∀ x ∈ slB v', x ∈ slB wv ∨ x = wr.heap.size + 2)
    (hm0 : 0 < body.size) (hm1 : body.size ≤ 1400) (hr : body.data.toList ++ rest'.data.toList = rest.data.toList) :
    WriteTo w b e ws fs ks clk now text rest' (w1.setCell ⟨b, 0, none⟩ v') := by
  have hlt := hW.is.blk.lt
  rw [← List.length_append] at hs1
  have hlen : body.size + rest'.size = rest.size := by have := congrArg List.length hr; simpa using this
  have hp : Went wr b { e with now := now, wv := wv } (ws ++ qs) fs (w1.setCell ⟨b, 0, none⟩ v') { e with now := now, wv := v' } ((ws ++ qs) ++ [fresh wr.heap.size 2 body]) fs ks clk := by
    refine hW.is.pushed (((h0.mono (fun _ _ hx => hx.elim)).comp (hc1.mono fun _ _ hx => .inr hx)).setCell (p := ⟨b, 0, none⟩) (.inl (.inl rfl)) _) (hB1.set 0 _) ?_ (hqb.other (c := b) (by omega) 0 _) (Nat.le_refl _) ?_ rfl rfl
    · refine PSl.snoc (q := fresh wr.heap.size 2 body) hs1 ((Chg.refl (· = b) w1).setCell (p := ⟨b, 0, none⟩) (.inl rfl) _) fun hx => ?_
      rcases hb1 _ hx with hx | hx
      · exact hW.is.sep.bw hx
      · omega
    · intro x hx
      rcases hb1 _ hx with hx | hx
      · exact .inl hx
      · exact .inr (by simp only [fresh]; omega)
  refine ⟨v', qs ++ [fresh wr.heap.size 2 body], by rw [← List.append_assoc]; exact hW.trans hp, ?_, ?_, ?_⟩
  · intro q hq'
    rcases List.mem_append.1 hq' with hq' | hq'
    · exact hd q hq'
    · simp at hq'; subst hq'; exact ⟨rfl, hm0, hm1⟩
  · rw [← hf, ← hr]; simp [flat, fresh]
  · simp; omega

set_option maxHeartbeats 800000 in
set_option maxRecDepth 100000 in
theorem Write_calls (w : World) (now : Int) (text : ByteArray) (h : EndIs w b e ws fs ks clk) (h1 : e.now ≤ now) (h2 : now ≤ 1000000000) (ht : text.size ≤ 65536) (hl : ws.length ≤ 100000)
    (hb1 : 1 ≤ e.body) (hb2 : e.body ≤ 1400) (hc : e.closing = false) (hs : e.state = 1 ∨ e.state = 2) :
    Calls Try.prog 19 #[.pointer (some ⟨b, 0, none⟩), vi now, .string text] w (WritePost w b e ws fs ks clk now text) := by
  have c1 := ce_now h.blk
  have c2 := ce_closing h.blk
  have c3 := ce_state h.blk
  have f1 := h.blk.frozen 24
  rw [hc] at c2
  obtain ⟨i0, hi, hz0, hz1, hz2⟩ := info_parts Try.info62
  have hB := h.blk
  rcases hs with hs | hs <;> rw [hs] at c3
  all_goals
    go_enter Try.func19, Try.ntmps19
    go_wp2_with (first | (go_at_call 20; refine (at_calls _ _ hB h1 h2).mono ?_; rintro r w' ⟨rfl, rfl⟩) | (go_at_call 35; refine (queued_calls _ h).mono ?_; rintro r w' ⟨n, rfl, rfl⟩))
    · go_ret
      exact .inr ⟨.inr rfl, rfl⟩
    · go_loopw [2] (fun t wr => ∃ rest : ByteArray, t = .string rest ∧ WriteTo w b e ws fs ks clk now text rest wr) (fun t _ => strLen t)
      case atStart => exact ⟨text, rfl, e.wv, [], by simpa using h.went1 (e' := { e with now := now }) ((Chg.refl (· = b) w).setCell (p := ⟨b, 24, none⟩) (.inl rfl) _) (hB.set 24 _) rfl rfl rfl, fun _ hq => (by cases hq), rfl, by simp⟩
      case round =>
        obtain ⟨rest, rfl, wv, qs, hW, hd, hf, hq⟩ := hrel
        by_cases hlt : 0 < rest.size
        · have d1 := ce_wv hW.is.blk
          have d2 := ce_body hW.is.blk
          have d3 := hW.is.blk.frozen 0
          simp only at d1 d2
          clear c1 c2 c3 f1 h1 h2
          have hq' : qs.length ≤ 65536 := by omega
          have hrs : rest.size ≤ 65536 := by omega
          obtain ⟨bn, hbn⟩ := Int.eq_ofNat_of_zero_le (show 0 ≤ e.body by omega)
          rw [hbn] at d2 hb1 hb2
          have hSl : ∀ W, Chg (· = b) wr W → Sl W wv 62 1 (ws.length + qs.length) ((ws ++ qs).map Pk.ptr) := fun W hc => by rw [← List.length_append]; exact Sl.chg hW.is.wsl hc (fun x hx hb => hW.is.sep.bw (hb ▸ hx))
          have hk : ∀ W0 w1, Chg (fun _ => False) wr W0 → Chg (· ∈ slB wv) W0 w1 → Blk w1 b { e with now := now, wv := wv }.enc 61 := fun W0 w1 c1 c2 => (hW.is.blk.chg c1 (fun h => h)).chg c2 hW.is.sep.bw
          have hwl := Sl.lt hW.is.wsl
          have dA : ∀ o, (wr.alloc o).cell? ⟨b, 0, none⟩ = some wv := fun o => ce_wv (hW.is.blk.alloc o)
          have dB : ∀ o o', ((wr.alloc o).alloc o').cell? ⟨b, 0, none⟩ = some wv := fun o o' => ce_wv ((hW.is.blk.alloc o).alloc o')
          rcases Nat.lt_or_ge bn rest.size with hx | hx
          · have hx' : bn ≤ rest.size := by omega
            go_wp2_with (fail)
            go_region_law (refine step_append_sl _ rfl (.tmp 67) (.tmp 73) 52 rfl 62 i0 (.pointer none) 1 8 Try.underlying52 hi hz0 hz1 hz2 rfl wv (ws.length + qs.length) ((ws ++ qs).map Pk.ptr) (by simp [Act.eval]) (hSl _ (by repeat' (first | exact Chg.refl _ _ | apply Chg.drew | refine Chg.alloc ?_ _))) ⟨wr.heap.size + 1, 0, none⟩ 1 1 [.pointer (some ⟨wr.heap.size, 0, none⟩)] (by simp [Act.eval]) rfl (by exact one_new (cell_last (by simp))) (one_ptr _) (by decide) (by simp [maxLen]; omega) (by omega) ?_; intro v' w1 hs1 hc1 hb1; obtain ⟨a', cap', rfl, _, _⟩ := hs1.form; have hB1 := hk _ _ (by repeat' (first | exact Chg.refl _ _ | apply Chg.drew | refine Chg.alloc ?_ _)) hc1; have c5 := ce_wv hB1; have c6 := hB1.frozen 0; have hqb := Blk.chg (S := (· ∈ slB wv)) (Blk.drew (Blk.alloc (Blk.new wr _ 64) _)) hc1 (fun hx => Nat.lt_irrefl _ (hwl _ hx)); simp only at c5; simp only [World.size_drew, World.size_alloc] at hb1)
            all_goals
              go_wp2
              go_roundw
              case rel => exact ⟨_, rfl, write_step (body := rest.extract 0 bn) (rest' := rest.extract bn rest.size) hW hd hf hq (by repeat' (first | exact Chg.refl _ _ | apply Chg.drew | refine Chg.alloc ?_ _)) hc1 hB1 hqb hs1 hb1 (by rw [cut_size _ _ hx']; omega) (by rw [cut_size _ _ hx']; omega) (cut_cat _ _)⟩
              case measure => simp only [strLen]; rw [cut_size2]; omega
          · have hx' : rest.size ≤ bn := by omega
            go_wp2_with (fail)
            go_region_law (refine step_append_sl _ rfl (.tmp 67) (.tmp 73) 52 rfl 62 i0 (.pointer none) 1 8 Try.underlying52 hi hz0 hz1 hz2 rfl wv (ws.length + qs.length) ((ws ++ qs).map Pk.ptr) (by simp [Act.eval]) (hSl _ (by repeat' (first | exact Chg.refl _ _ | apply Chg.drew | refine Chg.alloc ?_ _))) ⟨wr.heap.size + 1, 0, none⟩ 1 1 [.pointer (some ⟨wr.heap.size, 0, none⟩)] (by simp [Act.eval]) rfl (by exact one_new (cell_last (by simp))) (one_ptr _) (by decide) (by simp [maxLen]; omega) (by omega) ?_; intro v' w1 hs1 hc1 hb1; obtain ⟨a', cap', rfl, _, _⟩ := hs1.form; have hB1 := hk _ _ (by repeat' (first | exact Chg.refl _ _ | apply Chg.drew | refine Chg.alloc ?_ _)) hc1; have c5 := ce_wv hB1; have c6 := hB1.frozen 0; have hqb := Blk.chg (S := (· ∈ slB wv)) (Blk.drew (Blk.alloc (Blk.new wr _ 64) _)) hc1 (fun hx => Nat.lt_irrefl _ (hwl _ hx)); simp only at c5; simp only [World.size_drew, World.size_alloc] at hb1)
            all_goals
              go_wp2
              go_roundw
              case rel => exact ⟨_, rfl, write_step (body := rest) (rest' := ByteArray.empty) hW hd hf hq (by repeat' (first | exact Chg.refl _ _ | apply Chg.drew | refine Chg.alloc ?_ _)) hc1 hB1 hqb hs1 hb1 (by omega) (by omega) (by simp)⟩
              case measure => simp [strLen]; omega
        · obtain rfl : rest = ByteArray.empty := ByteArray.size_eq_zero_iff.1 (by omega)
          go_wp2
          go_ret
          exact .inl ⟨rfl, wv, qs, hW, hd, hf, hq⟩
end Go.Proofs.Ytglbfgpdmlkamaa
