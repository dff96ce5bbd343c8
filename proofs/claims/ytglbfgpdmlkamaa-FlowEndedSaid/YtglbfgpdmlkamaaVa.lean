/-
  The walks of Valid and of the look for a packet that is not valid.
-/
import Derived.Test.YtglbfgpdmlkamaaSnd
import Derived.Test.YtglbfgpdmlkamaaWc
namespace Go.Proofs.Ytglbfgpdmlkamaa
open Go.RowKit Go.Flw

/-- A valid packet. -/
structure SegOk (s : Seg) : Prop where
  kind1 : 1 ≤ s.kind
  kind5 : s.kind ≤ 5
  conn0 : 0 ≤ s.conn
  conn1 : s.conn ≤ 65535
  seq0 : 0 ≤ s.seq
  seq1 : s.seq ≤ 65535
  ack0 : 0 ≤ s.ack
  ack1 : s.ack ≤ 65535
  win0 : 0 ≤ s.window
  win1 : s.window ≤ 1000000
  marks : s.marks.size ≤ 4
  time0 : 0 ≤ s.time
  time1 : s.time < 4294967296
  late0 : 0 ≤ s.late
  late1 : s.late < 4294967296
  data : s.kind = 2 → 1 ≤ s.body.size ∧ s.body.size ≤ 1400
  other : s.kind ≠ 2 → s.body = ByteArray.empty

set_option maxHeartbeats 400000 in
theorem word_calls (n : Int) (w : World) (h0 : 0 ≤ n) (h1 : n < 4294967296) : Calls Try.prog 54 #[vi n] w fun e w' => e = .returned (.bool true) ∧ w = w' := by
  go_enter Try.func54, Try.ntmps54
  go_wp2
  go_ret
  exact ⟨rfl, rfl⟩

theorem round_true (n : Int) (w : World) (h0 : 0 ≤ n) (h1 : n ≤ 65535) : Calls Try.prog 28 #[vi n] w fun e w' => e = .returned (.bool true) ∧ w = w' :=
  (round_calls n w).mono fun e w' ⟨h, h2⟩ => ⟨by rw [h, inB_true h0 h1], h2⟩

set_option maxHeartbeats 1600000 in
set_option maxRecDepth 100000 in
theorem Valid_calls (s : Seg) (w : World) (h : SegOk s) : Calls Try.prog 43 #[s.enc] w fun e w' => e = .returned (.bool true) ∧ Below w.heap.size w w' := by
  obtain ⟨k1, k5, a0, a1, b0, b1, d0, d1, e0, e1, m, t0, t1, l0, l1, hd, ho⟩ := h
  simp only [Seg.enc]
  by_cases hk : s.kind = 2
  · obtain ⟨hd1, hd2⟩ := hd hk
    clear ho hd
    rw [hk]
    go_enter Try.func43, Try.ntmps43
    go_wp2_with (first | (go_at_call 28; refine (round_true _ _ (by assumption) (by assumption)).mono ?_; rintro r w' ⟨rfl, rfl⟩) | (go_at_call 54; refine (word_calls _ _ (by assumption) (by assumption)).mono ?_; rintro r w' ⟨rfl, rfl⟩))
    go_ret
    refine ⟨?_, (Below.refl _ w).alloc (Nat.le_refl _) _⟩
    have : decide ((s.body.size : Int) ≤ 1400) = true := by simp; omega
    rw [this]
    rfl
  · have hb0 := ho hk
    have gk : (s.kind == 2) = false := by simp [hk]
    clear ho hd hk
    rw [hb0]
    go_enter Try.func43, Try.ntmps43
    go_wp2_with (first | (go_at_call 28; refine (round_true _ _ (by assumption) (by assumption)).mono ?_; rintro r w' ⟨rfl, rfl⟩) | (go_at_call 54; refine (word_calls _ _ (by assumption) (by assumption)).mono ?_; rintro r w' ⟨rfl, rfl⟩))
    go_ret
    exact ⟨rfl, (Below.refl _ w).alloc (Nat.le_refl _) _⟩

set_option maxHeartbeats 400000 in
theorem unvalid_calls (s : Seg) (w : World) (h : SegOk s) : Calls Try.prog 42 #[s.enc] w fun e w' => e = .returned (.bool false) ∧ Below w.heap.size w w' := by
  simp only [Seg.enc]
  go_enter Try.func42, Try.ntmps42
  go_wp2_with (go_at_call 43; refine (Valid_calls s _ h).mono ?_; rintro r w' ⟨rfl, hbw⟩)
  go_ret
  refine ⟨rfl, ((Below.refl _ w).alloc (Nat.le_refl _) _).trans (hbw.mono (by simp))⟩

/-- Number k of a list of packets. -/
def noSeg : Seg := ⟨0, 0, 0, 0, 0, ByteArray.empty, ByteArray.empty, 0, 0⟩
def nthS (l : List Seg) (k : Nat) : Seg := l.getD k noSeg
theorem nthS_eq (l : List Seg) (k : Nat) (hk : k < l.length) : nthS l k = l[k] := by simp [nthS, List.getD, hk]
theorem nthS_mem (l : List Seg) (k : Nat) (hk : k < l.length) : nthS l k ∈ l := by rw [nthS_eq l k hk]; exact List.getElem_mem hk
theorem segCells_at : ∀ (l : List Seg) (k j : Nat), k < l.length → j < 9 → (segCells l)[k * 9 + j]? = (nthS l k).cells[j]?
  | [], k, j, h, _ => by simp at h
  | s :: l, 0, j, _, hj => by
    have : segCells (s :: l) = s.cells ++ segCells l := rfl
    rw [this, List.getElem?_append_left (by simp [Seg.cells]; omega)]
    simp [nthS]
  | s :: l, k + 1, j, h, hj => by
    have : segCells (s :: l) = s.cells ++ segCells l := rfl
    rw [this, List.getElem?_append_right (by simp [Seg.cells]; omega)]
    have e1 : (k + 1) * 9 + j - s.cells.length = k * 9 + j := by simp [Seg.cells]; omega
    rw [e1, segCells_at l k j (by simpa using h) hj]
    simp [nthS]

theorem seg_at {W : World} {v : Value} {ss : List Seg} (h : SSl W v ss) (k : Nat) (hk : k < ss.length) : ∃ B off cap, v = .slice (some ⟨B, off, none⟩) ss.length cap ∧ ∀ j u, (nthS ss k).cells[j]? = some u → W.cell? ⟨B, off + k * 9 + j, none⟩ = some u := by
  obtain ⟨B, off, cap, hv, _, _, hc, _⟩ := Sl.some h (by omega)
  refine ⟨B, off, cap, hv, fun j u hu => ?_⟩
  have hj : j < 9 := by have := (List.getElem?_eq_some_iff.1 hu).1; simpa [Seg.cells] using this
  rw [Nat.add_assoc]
  exact hc _ _ (by rw [segCells_at ss k j hk hj]; exact hu)

set_option maxHeartbeats 1600000 in
set_option maxRecDepth 100000 in
theorem index_calls (w : World) (v : Value) (ss : List Seg) (h : SSl w v ss) (hok : ∀ s ∈ ss, SegOk s) :
    Calls Try.prog 53 #[v, .func (.func 42) #[] #[]] w fun e w' => e = .returned (vi (-1)) ∧ Below w.heap.size w w' := by
  obtain ⟨a, cap, hv, hcap, hmax⟩ := Sl.form h
  unfold maxLen at hmax
  subst hv
  go_enter Try.func53, Try.ntmps53
  go_wp2
  go_loopw [8] (fun i wr => ∃ k : Nat, k ≤ ss.length ∧ i = .int .i64 k ∧ Below w.heap.size w wr) (fun i _ => ss.length - (intOf i).toNat)
  case atStart => exact ⟨0, Nat.zero_le _, rfl, Below.refl _ _⟩
  case round =>
    obtain ⟨k, hk, rfl, hb⟩ := hrel
    by_cases hlt : k < ss.length
    · have hw : SSl wr (.slice a ss.length cap) ss := Sl.chg h (Chg.of_below (S := fun _ => False) hb) (fun _ _ hh => hh)
      obtain ⟨B, off, cap', hv', hc⟩ := seg_at hw k hlt
      injection hv' with ha _ hcc
      subst ha
      subst hcc
      have hok1 := hok _ (nthS_mem ss k hlt)
      obtain ⟨s, hs⟩ : ∃ s, s = nthS ss k := ⟨_, rfl⟩
      rw [← hs] at hok1 hc
      have c0 := hc 0 _ rfl
      rw [Nat.add_zero] at c0
      have c1 := hc 1 _ rfl
      have c2 := hc 2 _ rfl
      have c3 := hc 3 _ rfl
      have c4 := hc 4 _ rfl
      have c5 := hc 5 _ rfl
      have c6 := hc 6 _ rfl
      have c7 := hc 7 _ rfl
      have c8 := hc 8 _ rfl
      clear hs hc hw
      go_wp2_with (go_at_call 42; refine (unvalid_calls s _ hok1).mono ?_; rintro r w' ⟨rfl, hbw⟩)
      go_roundw
      case rel => exact ⟨k + 1, by omega, by go_num, hb.trans (hbw.mono hb.size)⟩
      case measure => simp [intOf]; omega
    · go_wp2
      go_ret
      exact ⟨rfl, hb⟩

set_option maxHeartbeats 400000 in
theorem contains_calls (w : World) (v : Value) (ss : List Seg) (h : SSl w v ss) (hok : ∀ s ∈ ss, SegOk s) :
    Calls Try.prog 41 #[v, .func (.func 42) #[] #[]] w fun e w' => e = .returned (.bool false) ∧ Below w.heap.size w w' := by
  go_enter Try.func41, Try.ntmps41
  go_wp2_with (go_at_call 53; refine (index_calls _ v ss h hok).mono ?_; rintro r w' ⟨rfl, hbw⟩)
  go_ret
  exact ⟨rfl, hbw⟩
end Go.Proofs.Ytglbfgpdmlkamaa
