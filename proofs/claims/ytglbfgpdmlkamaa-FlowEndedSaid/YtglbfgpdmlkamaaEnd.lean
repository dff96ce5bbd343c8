/-
  An end of a flow, its packets and what was kept, as they lie in memory; no program is named here.
-/
import Derived.Test.YtglbfgpdmlkamaaMem
namespace Go.Flw
open Go.RowKit

abbrev vi (n : Int) : Value := .int .i64 n

/-- A packet of an end's own, with the block where it lies. -/
structure Pk where
  blk : Nat
  kind : Int
  number : Int
  body : ByteArray
  sent : Int
  times : Int
  later : Int
  quick : Bool
  lost : Bool

def Pk.enc (p : Pk) : Array Value := #[vi p.kind, vi p.number, .string p.body, vi p.sent, vi p.times, vi p.later, .bool p.quick, .bool p.lost]
def Pk.ptr (p : Pk) : Value := .pointer (some ⟨p.blk, 0, none⟩)

def Pk.sz (p : Pk) : Nat := max 1 p.body.size
/-- How many packets are under way, and their bytes. -/
def flyN (l : List Pk) : Nat := (l.filter (!·.lost)).length
def flyB (l : List Pk) : Nat := ((l.filter (!·.lost)).map Pk.sz).sum

def noPk : Pk := ⟨0, 0, 0, ByteArray.empty, 0, 0, 0, false, false⟩
def nth (l : List Pk) (k : Nat) : Pk := l.getD k noPk
theorem nth_eq (l : List Pk) (k : Nat) (hk : k < l.length) : nth l k = l[k] := by simp [nth, List.getD, hk]
theorem take_succ_nth (l : List Pk) (k : Nat) (hk : k < l.length) : l.take (k + 1) = l.take k ++ [nth l k] := by
  rw [List.take_succ_eq_append_getElem hk, nth_eq l k hk]
theorem nth_mem (l : List Pk) (k : Nat) (hk : k < l.length) : nth l k ∈ l := by
  rw [nth_eq l k hk]; exact List.getElem_mem hk

theorem flyN_snoc (l : List Pk) (p : Pk) : flyN (l ++ [p]) = flyN l + if p.lost then 0 else 1 := by
  cases h : p.lost <;> simp [flyN, h]
theorem flyB_snoc (l : List Pk) (p : Pk) : flyB (l ++ [p]) = flyB l + if p.lost then 0 else p.sz := by
  cases h : p.lost <;> simp [flyB, h]
theorem flyB_le (l : List Pk) (m : Nat) (h : ∀ p ∈ l, p.sz ≤ m) : flyB l ≤ m * l.length := by
  induction l with
  | nil => simp [flyB]
  | cons p l ih =>
    have h1 := ih (fun q hq => h q (List.mem_cons_of_mem _ hq))
    have h2 := h p (List.mem_cons_self ..)
    have h3 : flyB (p :: l) ≤ p.sz + flyB l := by
      cases hp : p.lost <;> simp [flyB, hp]
    have h4 : m * (p :: l).length = m * l.length + m := by simp [Nat.mul_add]
    omega
theorem flyN_le (l : List Pk) : flyN l ≤ l.length := List.length_filter_le _ _

/-- A packet of a flow. -/
structure Seg where
  kind : Int
  conn : Int
  seq : Int
  ack : Int
  window : Int
  marks : ByteArray
  body : ByteArray
  time : Int
  late : Int

def Seg.cells (s : Seg) : List Value := [vi s.kind, vi s.conn, vi s.seq, vi s.ack, vi s.window, .string s.marks, .string s.body, vi s.time, vi s.late]
def Seg.enc (s : Seg) : Value := .agg #[vi s.kind, vi s.conn, vi s.seq, vi s.ack, vi s.window, .string s.marks, .string s.body, vi s.time, vi s.late]

/-- What lies in an end's own block. -/
structure E where
  wv : Value
  fv : Value
  next : Int
  acked : Int
  window : Int
  limit : Int
  body : Int
  out : Int
  outs : Int
  closing : Bool
  done : Bool
  room : Int
  base : Int
  heard : Bool
  mb : Nat
  ready : ByteArray
  ended : Bool
  answer : Bool
  late : Int
  some_ : Bool
  replies : Bool
  opener : Bool
  conn : Int
  state : Int
  now : Int
  tb : Int
  tl : Int
  to_ : Int
  tt : Int
  tn : Int
  ts : Bool
  count : Int
  again : Int
  doubles : Int

def E.enc (e : E) : Array Value := #[e.wv, e.fv, vi e.next, vi e.acked, vi e.window, vi e.limit, vi e.body, vi e.out, vi e.outs, .bool e.closing, .bool e.done,
  vi e.room, vi e.base, .bool e.heard, .map (some e.mb), .string e.ready, .bool e.ended, .bool e.answer, vi e.late, .bool e.some_, .bool e.replies,
  .bool e.opener, vi e.conn, vi e.state, vi e.now, vi e.tb, vi e.tl, vi e.to_, vi e.tt, vi e.tn, .bool e.ts, vi e.count, vi e.again, vi e.doubles]

section cells
variable {w : World} {b : Nat} {e : E} {p : Pk}
theorem ce_wv (h : Blk w b e.enc 61) : w.cell? ⟨b, 0, none⟩ = some (e.wv) := h.cell 0 rfl
theorem ce_fv (h : Blk w b e.enc 61) : w.cell? ⟨b, 1, none⟩ = some (e.fv) := h.cell 1 rfl
theorem ce_next (h : Blk w b e.enc 61) : w.cell? ⟨b, 2, none⟩ = some (vi e.next) := h.cell 2 rfl
theorem ce_acked (h : Blk w b e.enc 61) : w.cell? ⟨b, 3, none⟩ = some (vi e.acked) := h.cell 3 rfl
theorem ce_window (h : Blk w b e.enc 61) : w.cell? ⟨b, 4, none⟩ = some (vi e.window) := h.cell 4 rfl
theorem ce_limit (h : Blk w b e.enc 61) : w.cell? ⟨b, 5, none⟩ = some (vi e.limit) := h.cell 5 rfl
theorem ce_body (h : Blk w b e.enc 61) : w.cell? ⟨b, 6, none⟩ = some (vi e.body) := h.cell 6 rfl
theorem ce_out (h : Blk w b e.enc 61) : w.cell? ⟨b, 7, none⟩ = some (vi e.out) := h.cell 7 rfl
theorem ce_outs (h : Blk w b e.enc 61) : w.cell? ⟨b, 8, none⟩ = some (vi e.outs) := h.cell 8 rfl
theorem ce_closing (h : Blk w b e.enc 61) : w.cell? ⟨b, 9, none⟩ = some (.bool e.closing) := h.cell 9 rfl
theorem ce_done (h : Blk w b e.enc 61) : w.cell? ⟨b, 10, none⟩ = some (.bool e.done) := h.cell 10 rfl
theorem ce_room (h : Blk w b e.enc 61) : w.cell? ⟨b, 11, none⟩ = some (vi e.room) := h.cell 11 rfl
theorem ce_base (h : Blk w b e.enc 61) : w.cell? ⟨b, 12, none⟩ = some (vi e.base) := h.cell 12 rfl
theorem ce_heard (h : Blk w b e.enc 61) : w.cell? ⟨b, 13, none⟩ = some (.bool e.heard) := h.cell 13 rfl
theorem ce_mb (h : Blk w b e.enc 61) : w.cell? ⟨b, 14, none⟩ = some (.map (some e.mb)) := h.cell 14 rfl
theorem ce_ready (h : Blk w b e.enc 61) : w.cell? ⟨b, 15, none⟩ = some (.string e.ready) := h.cell 15 rfl
theorem ce_ended (h : Blk w b e.enc 61) : w.cell? ⟨b, 16, none⟩ = some (.bool e.ended) := h.cell 16 rfl
theorem ce_answer (h : Blk w b e.enc 61) : w.cell? ⟨b, 17, none⟩ = some (.bool e.answer) := h.cell 17 rfl
theorem ce_late (h : Blk w b e.enc 61) : w.cell? ⟨b, 18, none⟩ = some (vi e.late) := h.cell 18 rfl
theorem ce_some_ (h : Blk w b e.enc 61) : w.cell? ⟨b, 19, none⟩ = some (.bool e.some_) := h.cell 19 rfl
theorem ce_replies (h : Blk w b e.enc 61) : w.cell? ⟨b, 20, none⟩ = some (.bool e.replies) := h.cell 20 rfl
theorem ce_opener (h : Blk w b e.enc 61) : w.cell? ⟨b, 21, none⟩ = some (.bool e.opener) := h.cell 21 rfl
theorem ce_conn (h : Blk w b e.enc 61) : w.cell? ⟨b, 22, none⟩ = some (vi e.conn) := h.cell 22 rfl
theorem ce_state (h : Blk w b e.enc 61) : w.cell? ⟨b, 23, none⟩ = some (vi e.state) := h.cell 23 rfl
theorem ce_now (h : Blk w b e.enc 61) : w.cell? ⟨b, 24, none⟩ = some (vi e.now) := h.cell 24 rfl
theorem ce_tb (h : Blk w b e.enc 61) : w.cell? ⟨b, 25, none⟩ = some (vi e.tb) := h.cell 25 rfl
theorem ce_tl (h : Blk w b e.enc 61) : w.cell? ⟨b, 26, none⟩ = some (vi e.tl) := h.cell 26 rfl
theorem ce_to_ (h : Blk w b e.enc 61) : w.cell? ⟨b, 27, none⟩ = some (vi e.to_) := h.cell 27 rfl
theorem ce_tt (h : Blk w b e.enc 61) : w.cell? ⟨b, 28, none⟩ = some (vi e.tt) := h.cell 28 rfl
theorem ce_tn (h : Blk w b e.enc 61) : w.cell? ⟨b, 29, none⟩ = some (vi e.tn) := h.cell 29 rfl
theorem ce_ts (h : Blk w b e.enc 61) : w.cell? ⟨b, 30, none⟩ = some (.bool e.ts) := h.cell 30 rfl
theorem ce_count (h : Blk w b e.enc 61) : w.cell? ⟨b, 31, none⟩ = some (vi e.count) := h.cell 31 rfl
theorem ce_again (h : Blk w b e.enc 61) : w.cell? ⟨b, 32, none⟩ = some (vi e.again) := h.cell 32 rfl
theorem ce_doubles (h : Blk w b e.enc 61) : w.cell? ⟨b, 33, none⟩ = some (vi e.doubles) := h.cell 33 rfl
theorem cp_kind (h : Blk w b p.enc 64) : w.cell? ⟨b, 0, none⟩ = some (vi p.kind) := h.cell 0 rfl
theorem cp_number (h : Blk w b p.enc 64) : w.cell? ⟨b, 1, none⟩ = some (vi p.number) := h.cell 1 rfl
theorem cp_body (h : Blk w b p.enc 64) : w.cell? ⟨b, 2, none⟩ = some (.string p.body) := h.cell 2 rfl
theorem cp_sent (h : Blk w b p.enc 64) : w.cell? ⟨b, 3, none⟩ = some (vi p.sent) := h.cell 3 rfl
theorem cp_times (h : Blk w b p.enc 64) : w.cell? ⟨b, 4, none⟩ = some (vi p.times) := h.cell 4 rfl
theorem cp_later (h : Blk w b p.enc 64) : w.cell? ⟨b, 5, none⟩ = some (vi p.later) := h.cell 5 rfl
theorem cp_quick (h : Blk w b p.enc 64) : w.cell? ⟨b, 6, none⟩ = some (.bool p.quick) := h.cell 6 rfl
theorem cp_lost (h : Blk w b p.enc 64) : w.cell? ⟨b, 7, none⟩ = some (.bool p.lost) := h.cell 7 rfl
theorem ce_fv' (h : Blk w b e.enc 61) {v : Value} (hv : e.fv = v) : w.cell? ⟨b, 1, none⟩ = some v := hv ▸ ce_fv h
end cells

/-- A slice of pointers to packets. -/
def PSl (w : World) (v : Value) (ps : List Pk) : Prop := Sl w v 62 1 ps.length (ps.map Pk.ptr)

theorem pk_at {w : World} {v : Value} {ps : List Pk} (h : PSl w v ps) (k : Nat) (hk : k < ps.length) : ∃ B off cap, v = .slice (some ⟨B, off, none⟩) ps.length cap ∧ w.cell? ⟨B, off + k, none⟩ = some (.pointer (some ⟨(nth ps k).blk, 0, none⟩)) := by
  obtain ⟨B, off, cap, hv, _, _, hc, _⟩ := Sl.some h (by omega)
  exact ⟨B, off, cap, hv, hc k _ (by rw [nth_eq ps k hk]; simp [hk, Pk.ptr])⟩

/-- What was kept: each entry's key and packet. -/
structure Ke where
  key : Int
  seg : Seg
  born : Nat

def Ke.enc (k : Ke) : MapEntry := { key := vi k.key, val := k.seg.enc, born := k.born }

/-- The blocks of an end. -/
def foot (b : Nat) (e : E) (ws fs : List Pk) : List Nat := b :: e.mb :: (slB e.wv ++ slB e.fv ++ (ws ++ fs).map (·.blk))

/-- The blocks of an end are apart. -/
structure Sep (b mb : Nat) (wb fb qs : List Nat) : Prop where
  bm : b ≠ mb
  bw : b ∉ wb
  bf : b ∉ fb
  bq : b ∉ qs
  mw : mb ∉ wb
  mf : mb ∉ fb
  mq : mb ∉ qs
  wf : ∀ x ∈ wb, x ∉ fb
  wq : ∀ x ∈ wb, x ∉ qs
  fq : ∀ x ∈ fb, x ∉ qs
  qq : qs.Nodup

/-- An end lies in memory: its own block, its two lists of packets, the packets, what was kept. -/
structure EndIs (w : World) (b : Nat) (e : E) (ws fs : List Pk) (ks : List Ke) (clk : Nat) : Prop where
  blk : Blk w b e.enc 61
  wsl : PSl w e.wv ws
  fsl : PSl w e.fv fs
  pks : ∀ p ∈ ws ++ fs, Blk w p.blk p.enc 64
  map : w.heap[e.mb]? = some (.map (ks.map Ke.enc).toArray clk)
  born : ∀ k ∈ ks, k.born < clk
  sep : Sep b e.mb (slB e.wv) (slB e.fv) ((ws ++ fs).map (·.blk))

variable {w w' : World} {b : Nat} {e e' : E} {ws fs : List Pk} {ks : List Ke} {clk : Nat}

theorem foot_iff {x : Nat} : x ∈ foot b e ws fs ↔ x = b ∨ x = e.mb ∨ x ∈ slB e.wv ∨ x ∈ slB e.fv ∨ x ∈ (ws ++ fs).map (·.blk) := by
  simp only [foot, List.mem_cons, List.mem_append]
  grind

theorem EndIs.lt (h : EndIs w b e ws fs ks clk) : ∀ x ∈ foot b e ws fs, x < w.heap.size := by
  intro x hx
  rcases foot_iff.1 hx with rfl | rfl | hx | hx | hx
  · exact h.blk.lt
  · exact (Array.getElem?_eq_some_iff.1 h.map).1
  · exact Sl.lt h.wsl x hx
  · exact Sl.lt h.fsl x hx
  · obtain ⟨p, hp, rfl⟩ := List.mem_map.1 hx
    exact (h.pks p hp).lt

/-- A change elsewhere. -/
theorem EndIs.chg {S : Nat → Prop} (h : EndIs w b e ws fs ks clk) (hc : Chg S w w') (hs : ∀ x ∈ foot b e ws fs, ¬ S x) : EndIs w' b e ws fs ks clk where
  blk := h.blk.chg hc (hs b (foot_iff.2 (.inl rfl)))
  wsl := Sl.chg h.wsl hc fun x hx => hs x (foot_iff.2 (by simp [hx]))
  fsl := Sl.chg h.fsl hc fun x hx => hs x (foot_iff.2 (by simp [hx]))
  pks := fun p hp => (h.pks p hp).chg hc (hs _ (foot_iff.2 (.inr (.inr (.inr (.inr (List.mem_map.2 ⟨p, hp, rfl⟩)))))))
  map := hc.at h.map (hs _ (foot_iff.2 (.inr (.inl rfl))))
  born := h.born
  sep := h.sep

/-- Only cells of the own block have turned, and no slice nor the map among them. -/
theorem EndIs.own {S : Nat → Prop} (h : EndIs w b e ws fs ks clk) (hc : Chg S w w') (hs : ∀ x, x ≠ b → x ∈ foot b e ws fs → ¬ S x) (hb : Blk w' b e'.enc 61)
    (h1 : e'.wv = e.wv) (h2 : e'.fv = e.fv) (h3 : e'.mb = e.mb) : EndIs w' b e' ws fs ks clk := by
  have hp := h.sep
  exact
  { blk := hb
    wsl := h1 ▸ Sl.chg h.wsl hc fun x hx => hs x (fun hh => hp.bw (hh ▸ hx)) (foot_iff.2 (by simp [hx]))
    fsl := h2 ▸ Sl.chg h.fsl hc fun x hx => hs x (fun hh => hp.bf (hh ▸ hx)) (foot_iff.2 (by simp [hx]))
    pks := fun p hpp => (h.pks p hpp).chg hc (hs _ (fun hh => hp.bq (hh ▸ List.mem_map.2 ⟨p, hpp, rfl⟩)) (foot_iff.2 (.inr (.inr (.inr (.inr (List.mem_map.2 ⟨p, hpp, rfl⟩)))))))
    map := by rw [h3]; exact hc.at h.map (hs _ hp.bm.symm (foot_iff.2 (.inr (.inl rfl))))
    born := h.born
    sep := by rw [h1, h2, h3]; exact hp }

theorem EndIs.own1 (h : EndIs w b e ws fs ks clk) (hc : Chg (· = b) w w') (hb : Blk w' b e'.enc 61) (h1 : e'.wv = e.wv) (h2 : e'.fv = e.fv) (h3 : e'.mb = e.mb) : EndIs w' b e' ws fs ks clk :=
  h.own hc (fun _ hx _ => hx) hb h1 h2 h3

/-- An end has become another one: what it is now; only its own blocks, and new ones, have turned; its blocks are its own or new ones. -/
structure Went (w : World) (b : Nat) (e : E) (ws fs : List Pk) (w' : World) (e' : E) (ws' fs' : List Pk) (ks' : List Ke) (clk' : Nat) : Prop where
  is : EndIs w' b e' ws' fs' ks' clk'
  chg : Chg (· ∈ foot b e ws fs) w w'
  ft : ∀ x ∈ foot b e' ws' fs', x ∈ foot b e ws fs ∨ w.heap.size ≤ x

theorem Went.trans {w1 w2 w3 : World} {e1 e2 e3 : E} {ws1 ws2 ws3 fs1 fs2 fs3 : List Pk} {ks2 ks3 : List Ke} {c2 c3 : Nat}
    (h : Went w1 b e1 ws1 fs1 w2 e2 ws2 fs2 ks2 c2) (k : Went w2 b e2 ws2 fs2 w3 e3 ws3 fs3 ks3 c3) : Went w1 b e1 ws1 fs1 w3 e3 ws3 fs3 ks3 c3 :=
  ⟨k.is, h.chg.trans (k.chg.mono fun _ _ hx => h.ft _ hx), fun x hx => by
    rcases k.ft x hx with hx | hx
    · exact h.ft x hx
    · exact .inr (Nat.le_trans h.chg.size hx)⟩

theorem EndIs.refl (h : EndIs w b e ws fs ks clk) : Went w b e ws fs w e ws fs ks clk := ⟨h, Chg.refl _ _, fun _ hx => .inl hx⟩

/-- Fields of the own block alone have turned. -/
theorem EndIs.went1 (h : EndIs w b e ws fs ks clk) (hc : Chg (· = b) w w') (hb : Blk w' b e'.enc 61) (h1 : e'.wv = e.wv) (h2 : e'.fv = e.fv) (h3 : e'.mb = e.mb) : Went w b e ws fs w' e' ws fs ks clk :=
  ⟨h.own1 hc hb h1 h2 h3, hc.mono fun _ _ hx => hx ▸ foot_iff.2 (.inl rfl), fun x hx => .inl (by
    have hf : foot b e' ws fs = foot b e ws fs := by simp only [foot, h1, h2, h3]
    rw [← hf]; exact hx)⟩

theorem PSl.snoc {v : Value} {ps : List Pk} {q : Pk} (h : Sl w v 62 1 (ps.length + 1) (ps.map Pk.ptr ++ [q.ptr])) (hc : Chg (· = b) w w') (hb : b ∉ slB v) : PSl w' v (ps ++ [q]) := by
  have := h.chg hc (fun x hx hh => hb (hh ▸ hx))
  simpa [PSl] using this

/-- A new packet waits. -/
theorem EndIs.pushed {q : Pk} (h : EndIs w b e ws fs ks clk) (hc : Chg (fun x => x = b ∨ x ∈ slB e.wv) w w') (hb : Blk w' b e'.enc 61) (hw : PSl w' e'.wv (ws ++ [q])) (hq : Blk w' q.blk q.enc 64)
    (hnew : w.heap.size ≤ q.blk) (hsl : ∀ x ∈ slB e'.wv, x ∈ slB e.wv ∨ (w.heap.size ≤ x ∧ x ≠ q.blk)) (h2 : e'.fv = e.fv) (h3 : e'.mb = e.mb) :
    Went w b e ws fs w' e' (ws ++ [q]) fs ks clk := by
  have hp := h.sep
  have hlt := h.lt
  have hin : ∀ x, x = b ∨ x = e.mb ∨ x ∈ slB e.wv ∨ x ∈ slB e.fv ∨ x ∈ (ws ++ fs).map (·.blk) → x < w.heap.size := fun x hx => hlt x (foot_iff.2 hx)
  have mem : ∀ x, x ∈ ((ws ++ [q]) ++ fs).map (·.blk) ↔ x ∈ (ws ++ fs).map (·.blk) ∨ x = q.blk := by intro x; simp; grind
  refine ⟨?_, hc.mono fun x _ hx => foot_iff.2 (by rcases hx with hx | hx <;> simp [hx]), ?_⟩
  · refine ⟨hb, hw, h2 ▸ Sl.chg h.fsl hc fun x hx => ?_, ?_, ?_, h.born, ?_⟩
    · rintro (rfl | hx')
      · exact hp.bf hx
      · exact hp.wf x hx' hx
    · intro p hpp
      have : p ∈ ws ++ fs ∨ p = q := by simp at hpp ⊢; grind
      rcases this with hpp | rfl
      · have hm : p.blk ∈ (ws ++ fs).map (·.blk) := List.mem_map.2 ⟨p, hpp, rfl⟩
        refine (h.pks p hpp).chg hc ?_
        rintro (hx | hx)
        · exact hp.bq (hx ▸ hm)
        · exact hp.wq _ hx hm
      · exact hq
    · rw [h3]
      refine hc.at h.map ?_
      rintro (hx | hx)
      · exact hp.bm hx.symm
      · exact hp.mw hx
    · rw [h2, h3]
      have nb := hin b (by simp)
      have nm := hin e.mb (by simp)
      have nf : ∀ x ∈ slB e.fv, x < w.heap.size := fun x hx => hin x (by simp [hx])
      have nq : ∀ x ∈ (ws ++ fs).map (·.blk), x < w.heap.size := fun x hx => hin x (.inr (.inr (.inr (.inr hx))))
      refine ⟨hp.bm, ?_, hp.bf, ?_, ?_, hp.mf, ?_, ?_, ?_, ?_, ?_⟩
      · intro hx; rcases hsl _ hx with hx | hx
        · exact hp.bw hx
        · omega
      · rw [mem]; rintro (hx | hx)
        · exact hp.bq hx
        · omega
      · intro hx; rcases hsl _ hx with hx | hx
        · exact hp.mw hx
        · omega
      · rw [mem]; rintro (hx | hx)
        · exact hp.mq hx
        · omega
      · intro x hx hf; rcases hsl _ hx with hx | hx
        · exact hp.wf x hx hf
        · have := nf x hf; omega
      · intro x hx; rw [mem]; rintro (hf | hf)
        · rcases hsl _ hx with hx | hx
          · exact hp.wq x hx hf
          · have := nq x hf; omega
        · rcases hsl _ hx with hx | hx
          · have := hin x (by simp [hx]); omega
          · exact hx.2 hf
      · intro x hx; rw [mem]; rintro (hf | hf)
        · exact hp.fq x hx hf
        · have := nf x hx; omega
      · have : ((ws ++ [q] ++ fs).map (·.blk)).Perm (q.blk :: (ws ++ fs).map (·.blk)) := by
          simp only [List.map_append, List.map_cons, List.append_assoc, List.singleton_append]
          exact List.perm_middle
        rw [this.nodup_iff, List.nodup_cons]
        exact ⟨fun hx => by have := nq _ hx; omega, hp.qq⟩
  · intro x hx
    rcases foot_iff.1 hx with rfl | rfl | hx | hx | hx
    · exact .inl (foot_iff.2 (.inl rfl))
    · exact .inl (foot_iff.2 (.inr (.inl h3)))
    · rcases hsl _ hx with hx | hx
      · exact .inl (foot_iff.2 (by simp [hx]))
      · exact .inr hx.1
    · rw [h2] at hx; exact .inl (foot_iff.2 (by simp [hx]))
    · rcases (mem x).1 hx with hx | rfl
      · exact .inl (foot_iff.2 (.inr (.inr (.inr (.inr hx)))))
      · exact .inr hnew

theorem EndIs.drewN (h : EndIs w b e ws fs ks clk) (n : Nat) : EndIs (w.drewN n) b e ws fs ks clk := ⟨h.blk, h.wsl, h.fsl, h.pks, h.map, h.born, h.sep⟩
theorem EndIs.drew (h : EndIs w b e ws fs ks clk) : EndIs w.drew b e ws fs ks clk := ⟨h.blk, h.wsl, h.fsl, h.pks, h.map, h.born, h.sep⟩
theorem EndIs.alloc (h : EndIs w b e ws fs ks clk) (o : Obj) : EndIs (w.alloc o) b e ws fs ks clk := h.chg (S := fun _ => False) ((Chg.refl _ _).alloc o) (fun _ _ hh => hh)
theorem EndIs.putOdd (h : EndIs w b e ws fs ks clk) {l : Nat} {o : Obj} (hl : w.heap[l]? = some o) (ho : o.isCells = false) (hw : o.isWalk = false) (o' : Obj) : EndIs (w.putObj l o') b e ws fs ks clk := by
  refine h.chg (S := (· = l)) ((Chg.refl (· = l) w).putObj (l := l) (.inl rfl) o') ?_
  rintro x hx rfl
  rcases foot_iff.1 hx with rfl | rfl | hx | hx | hx
  · have := h.blk; rw [Blk, hl] at this; cases this; cases ho
  · have := h.map; rw [hl] at this; cases this; cases hw
  · rcases h.wsl.2 with ⟨hv, _⟩ | ⟨B, off, cap, arr, hv, hb, _⟩ <;> rw [hv] at hx <;> simp [slB] at hx
    subst hx; rw [Blk, hl] at hb; cases hb; cases ho
  · rcases h.fsl.2 with ⟨hv, _⟩ | ⟨B, off, cap, arr, hv, hb, _⟩ <;> rw [hv] at hx <;> simp [slB] at hx
    subst hx; rw [Blk, hl] at hb; cases hb; cases ho
  · obtain ⟨p, hp, rfl⟩ := List.mem_map.1 hx
    have := h.pks p hp; rw [Blk, hl] at this; cases this; cases ho

theorem EndIs.putLoop (h : EndIs w b e ws fs ks clk) {l : Nat} {o : Loop} (hl : w.heap[l]? = some (.loop o)) (o' : Obj) : EndIs (w.putObj l o') b e ws fs ks clk := h.putOdd hl rfl rfl o'
theorem Went.putOdd {ws' fs' : List Pk} {ks' : List Ke} {clk' : Nat} (h : Went w b e ws fs w' e' ws' fs' ks' clk') {l : Nat} {o : Obj} (hl : w'.heap[l]? = some o) (ho : o.isCells = false) (hw : o.isWalk = false) (hB : w.heap.size ≤ l) (o' : Obj) : Went w b e ws fs (w'.putObj l o') e' ws' fs' ks' clk' :=
  ⟨h.is.putOdd hl ho hw o', h.chg.putObj (.inr hB) o', h.ft⟩
theorem Went.putLoop {ws' fs' : List Pk} {ks' : List Ke} {clk' : Nat} (h : Went w b e ws fs w' e' ws' fs' ks' clk') {l : Nat} {o : Loop} (hl : w'.heap[l]? = some (.loop o)) (hB : w.heap.size ≤ l) (o' : Obj) : Went w b e ws fs (w'.putObj l o') e' ws' fs' ks' clk' :=
  ⟨h.is.putLoop hl o', h.chg.putObj (.inr hB) o', h.ft⟩
theorem Went.alloc {ws' fs' : List Pk} {ks' : List Ke} {clk' : Nat} (h : Went w b e ws fs w' e' ws' fs' ks' clk') (o : Obj) : Went w b e ws fs (w'.alloc o) e' ws' fs' ks' clk' :=
  ⟨h.is.alloc o, h.chg.alloc o, h.ft⟩
theorem Went.drewN {ws' fs' : List Pk} {ks' : List Ke} {clk' : Nat} (h : Went w b e ws fs w' e' ws' fs' ks' clk') (n : Nat) : Went w b e ws fs (w'.drewN n) e' ws' fs' ks' clk' :=
  ⟨h.is.drewN n, h.chg.drewN n, h.ft⟩

/-- A packet that flies turns. -/
theorem EndIs.setPk {l1 l2 : List Pk} {p p' : Pk} (h : EndIs w b e ws (l1 ++ p :: l2) ks clk) (hbk : p'.blk = p.blk) (hc : Chg (· = p.blk) w w') (hp : Blk w' p.blk p'.enc 64) :
    Went w b e ws (l1 ++ p :: l2) w' e ws (l1 ++ p' :: l2) ks clk := by
  have hs := h.sep
  have hm : (ws ++ (l1 ++ p' :: l2)).map (·.blk) = (ws ++ (l1 ++ p :: l2)).map (·.blk) := by simp [hbk]
  have hmp : p.blk ∈ (ws ++ (l1 ++ p :: l2)).map (·.blk) := by simp
  have hmn : (ws ++ (l1 ++ p :: l2)).map (·.blk) = (ws ++ l1).map (·.blk) ++ p.blk :: l2.map (·.blk) := by simp
  have hnd := hs.qq
  rw [hmn, List.nodup_append] at hnd
  have hft : ∀ x, x ∈ foot b e ws (l1 ++ p' :: l2) ↔ x ∈ foot b e ws (l1 ++ p :: l2) := by intro x; rw [foot_iff, foot_iff, hm]
  refine ⟨⟨h.blk.chg hc (fun hh => hs.bq (hh ▸ hmp)), Sl.chg h.wsl hc (fun x hx hh => hs.wq x hx (hh ▸ hmp)), ?_, ?_, hc.at h.map (fun hh => hs.mq (hh ▸ hmp)), h.born, hm ▸ hs⟩, hc.mono fun x _ hx => hx ▸ foot_iff.2 (.inr (.inr (.inr (.inr hmp)))), fun x hx => .inl ((hft x).1 hx)⟩
  · have := Sl.chg h.fsl hc (fun x hx hh => hs.fq x hx (hh ▸ hmp))
    simpa [PSl, Pk.ptr, hbk] using this
  · intro q hq
    have hq' : q = p' ∨ q ∈ ws ++ l1 ∨ q ∈ l2 := by simp at hq ⊢; grind
    rcases hq' with rfl | hq' | hq'
    · rw [hbk]; exact hp
    · refine (h.pks q (by simp at hq' ⊢; grind)).chg hc (fun hh => ?_)
      exact hnd.2.2 q.blk (List.mem_map.2 ⟨q, hq', rfl⟩) p.blk (by simp) hh
    · refine (h.pks q (by simp at hq' ⊢; grind)).chg hc (fun hh => ?_)
      exact (List.nodup_cons.1 hnd.2.1).1 (hh ▸ List.mem_map.2 ⟨q, hq', rfl⟩)

/-- The first k packets are taken for lost. -/
def Pk.lose (p : Pk) : Pk := { p with lost := true }
def loseTo (k : Nat) (l : List Pk) : List Pk := (l.take k).map Pk.lose ++ l.drop k
theorem loseTo_cut (k : Nat) (l : List Pk) (hk : k < l.length) : loseTo k l = (l.take k).map Pk.lose ++ nth l k :: l.drop (k + 1) := by
  rw [loseTo, nth_eq l k hk, List.drop_eq_getElem_cons hk]
theorem loseTo_next (k : Nat) (l : List Pk) (hk : k < l.length) : loseTo (k + 1) l = (l.take k).map Pk.lose ++ (nth l k).lose :: l.drop (k + 1) := by
  rw [loseTo, take_succ_nth l k hk]; simp
theorem loseTo_zero (l : List Pk) : loseTo 0 l = l := by simp [loseTo]
theorem loseTo_all (l : List Pk) : loseTo l.length l = l.map Pk.lose := by simp [loseTo]
theorem loseTo_length (k : Nat) (l : List Pk) : (loseTo k l).length = l.length := by simp [loseTo]; omega
theorem loseTo_nth (k : Nat) (l : List Pk) (hk : k < l.length) : nth (loseTo k l) k = nth l k := by
  rw [nth_eq _ _ (by rw [loseTo_length]; exact hk), nth_eq _ _ hk]
  simp only [loseTo]
  rw [List.getElem_append_right (by simp; omega)]
  simp
  congr 1; omega
theorem lose_same {p : Pk} (h : p.lost = true) : p.lose = p := by cases p; simp_all [Pk.lose]
end Go.Flw
