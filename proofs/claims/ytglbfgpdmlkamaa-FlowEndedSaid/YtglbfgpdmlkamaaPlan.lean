/-
  The plain law of two ends: what one sends, and what the other one makes of it. No memory and no program is in sight here. The plain law of two ends: what goes. The plain law of two ends: Send. The plain law of two ends: what is taken. The plain law of two ends: a packet that is taken. The plain law of two ends: the pair. The plain law of two ends: what the walks ask, reading, writing, closing. The plain law of two ends: the pair reads, writes, closes, begins.
-/
import Derived.Test.YtglbfgpdmlkamaaVk
import Derived.Test.YtglbfgpdmlkamaaVl
import Derived.Test.YtglbfgpdmlkamaaWl
import Derived.Test.YtglbfgpdmlkamaaVm
namespace Go.Proofs.Ytglbfgpdmlkamaa
open Go.RowKit Go.Flw

/-- What was numbered, in its order: kinds and bodies. -/
abbrev Hist := List (Int × ByteArray)
def kb (p : Pk) : Int × ByteArray := (p.kind, p.body)
def flatH (h : Hist) : List UInt8 := h.flatMap (·.2.data.toList)
theorem flatH_app (a c : Hist) : flatH (a ++ c) = flatH a ++ flatH c := by simp [flatH]

def KindOk (q : Int × ByteArray) : Prop := (q.1 = 2 ∧ 1 ≤ q.2.size ∧ q.2.size ≤ 1400) ∨ ((q.1 = 1 ∨ q.1 = 4) ∧ q.2 = ByteArray.empty)
theorem KindOk.size {q : Int × ByteArray} (h : KindOk q) : q.2.size ≤ 1400 := by
  rcases h with ⟨_, _, h⟩ | ⟨_, h⟩
  · exact h
  · rw [h]; simp

/-- The sending side of an end. -/
structure Snd (first limit : Int) (h : Hist) (e : E) (ws fs : List Pk) (wrote : List UInt8) : Prop where
  next : e.next = first + h.length
  fl : ∀ p ∈ fs, ∃ i : Nat, h[i]? = some (kb p) ∧ p.number = first + i
  cat : flatH (h ++ ws.map kb) = wrote
  kinds : ∀ q ∈ h ++ ws.map kb, KindOk q
  one : ∀ (i : Nat) (q : Int × ByteArray), (h ++ ws.map kb)[i]? = some q → q.1 = 1 → i = 0 ∧ e.opener = true
  last : ∀ (i : Nat) (q : Int × ByteArray), (h ++ ws.map kb)[i]? = some q → q.1 = 4 → e.closing = true ∧ i + 1 = (h ++ ws.map kb).length
  len : h.length + ws.length ≤ wrote.length + 1 + (if e.closing then 1 else 0)
  wlen : wrote.length ≤ 4000
  flen : fs.length ≤ h.length
  fly : flyN fs ≤ 1 ∨ (flyB fs : Int) ≤ e.limit
  lim : e.limit = limit
  acked0 : first - 1 ≤ e.acked
  acked1 : e.acked < e.next
  outs0 : 0 ≤ e.outs
  outs1 : e.state = 5 ∨ e.outs ≤ 5
  out : e.out = 1000
  first0 : 0 ≤ first
  first1 : first ≤ 65535

/-- The receiving side of an end: nothing yet. -/
structure Idle (e : E) (ks : List Ke) (read : List UInt8) : Prop where
  ready : e.ready = ByteArray.empty
  read : read = []
  ks : ks = []
  ended : e.ended = false
  state : e.state = 0 ∨ e.state = 1 ∨ e.state = 5

/-- The receiving side of an end: the first k of what was numbered have been passed. -/
structure ActK (first : Int) (h : Hist) (e : E) (ks : List Ke) (read : List UInt8) (k : Nat) (gap : Nat) : Prop where
  le : k ≤ h.length
  base : e.base = (first + k - 1) % 65536
  cat : read ++ e.ready.data.toList = flatH (h.take k)
  kept : ∀ x ∈ ks, ∃ i : Nat, k + gap ≤ i ∧ i ≤ k + 33 ∧ x.key = (first + i) % 65536 ∧ h[i]? = some (x.seg.kind, x.seg.body)
  nodup : (ks.map (·.key)).Nodup
  ended : e.ended = true → ∃ q, 1 ≤ k ∧ h[k - 1]? = some q ∧ q.1 = 4
  state : e.state ≠ 0 ∧ e.state ≠ 1

structure Rcv (first : Int) (h : Hist) (e : E) (ks : List Ke) (read : List UInt8) : Prop where
  room0 : 1400 ≤ e.room
  room1 : e.room ≤ 20000
  base0 : 0 ≤ e.base
  base1 : e.base < 65536
  late0 : 0 ≤ e.late
  late1 : e.late < 4294967296
  form : Idle e ks read ∨ ∃ k, ActK first h e ks read k 1

/-- A packet on the way. -/
structure Way (first conn : Int) (h : Hist) (s : Seg) : Prop where
  ok : SegOk s
  conn_ : s.conn = conn
  data : s.kind = 1 ∨ s.kind = 2 ∨ s.kind = 4 → ∃ i : Nat, h[i]? = some (s.kind, s.body) ∧ s.seq = (first + i) % 65536

theorem Way.mono {first conn : Int} {h : Hist} {s : Seg} (w : Way first conn h s) (t : Hist) : Way first conn (h ++ t) s :=
  ⟨w.ok, w.conn_, fun hk => by
    obtain ⟨i, h1, h2⟩ := w.data hk
    exact ⟨i, by rw [List.getElem?_append_left (List.getElem?_eq_some_iff.1 h1).1]; exact h1, h2⟩⟩

theorem getElem?_mono {h : Hist} (t : Hist) {i : Nat} {q : Int × ByteArray} (hi : h[i]? = some q) : (h ++ t)[i]? = some q := by
  rw [List.getElem?_append_left (List.getElem?_eq_some_iff.1 hi).1]; exact hi

theorem ActK.mono {first : Int} {h : Hist} {e : E} {ks : List Ke} {read : List UInt8} {k g : Nat} (a : ActK first h e ks read k g) (t : Hist) : ActK first (h ++ t) e ks read k g :=
  ⟨by rw [List.length_append]; have := a.le; omega, a.base, by rw [List.take_append_of_le_length a.le]; exact a.cat, fun x hx => by
    obtain ⟨i, h1, h2, h3, h4⟩ := a.kept x hx
    exact ⟨i, h1, h2, h3, getElem?_mono t h4⟩, a.nodup, fun he => by
    obtain ⟨q, h1, h2, h3⟩ := a.ended he
    exact ⟨q, h1, getElem?_mono t h2, h3⟩, a.state⟩
theorem Rcv.mono {first : Int} {h : Hist} {e : E} {ks : List Ke} {read : List UInt8} (r : Rcv first h e ks read) (t : Hist) : Rcv first (h ++ t) e ks read :=
  ⟨r.room0, r.room1, r.base0, r.base1, r.late0, r.late1, r.form.imp id fun ⟨k, hk⟩ => ⟨k, hk.mono t⟩⟩

variable {first limit conn : Int} {h : Hist} {e e' : E} {ws fs fs' : List Pk} {ks : List Ke} {wrote read : List UInt8}

/-- How much was numbered. -/
theorem Snd.small (s : Snd first limit h e ws fs wrote) : h.length + ws.length ≤ 4002 := by
  have := s.len; have := s.wlen
  split at * <;> omega

/-- The flight becomes less, or is taken for lost. -/
theorem Snd.fewer (s : Snd first limit h e ws fs wrote) (hf : Fewer fs fs') : Snd first limit h e ws fs' wrote :=
  { s with
    fl := fun q hq => by
      obtain ⟨p, hp, h1, h2, h3⟩ := hf.dat q hq
      obtain ⟨i, h4, h5⟩ := s.fl p hp
      exact ⟨i, by rw [h4]; simp [kb, h1, h3], by rw [h2]; exact h5⟩
    flen := Nat.le_trans hf.len s.flen
    fly := by
      have h1 := hf.n
      have h2 := hf.b
      rcases s.fly with h | h
      · left; omega
      · right; omega }

theorem lose_none (fs : List Pk) : (fs.map Pk.lose).filter (!·.lost) = [] := by
  rw [List.filter_eq_nil_iff]
  intro a ha
  obtain ⟨p, _, rfl⟩ := List.mem_map.1 ha
  simp [Pk.lose]
theorem lose_fewer (fs : List Pk) : Fewer fs (fs.map Pk.lose) := by
  refine ⟨fun q hq => ?_, ?_, ?_, by simp⟩
  · obtain ⟨p, hp, rfl⟩ := List.mem_map.1 hq
    exact ⟨p, hp, rfl, rfl, rfl⟩
  · simp only [flyN, lose_none]; simp
  · simp only [flyB, lose_none]; simp

theorem Snd.over (s : Snd first limit h e ws fs wrote) (ho : OverRel e fs e' fs') (h5 : e.state ≠ 5) : Snd first limit h e' ws fs' wrote := by
  have h0 := s.outs0
  rcases ho with ⟨rfl, rfl⟩ | ⟨t, rfl, rfl, h6⟩ | ⟨t, rfl, rfl, h6⟩
  · exact s
  · exact { s with outs0 := by simp only; omega, outs1 := .inl rfl }
  · exact { s.fewer (lose_fewer fs) with outs0 := by simp only; omega, outs1 := .inr (by simp only; omega) }

theorem Rcv.over (r : Rcv first h e ks read) (ho : OverRel e fs e' fs') : Rcv first h e' ks read := by
  rcases ho with ⟨rfl, rfl⟩ | ⟨t, rfl, rfl, _⟩ | ⟨t, rfl, rfl, _⟩
  · exact r
  · refine { r with form := ?_ }
    rcases r.form with h | ⟨k, h⟩
    · exact .inl { h with state := .inr (.inr rfl) }
    · exact .inr ⟨k, { h with state := by simp }⟩
  · refine { r with form := ?_ }
    rcases r.form with h | ⟨k, h⟩
    · exact .inl { h with }
    · exact .inr ⟨k, { h with }⟩

/-- Which cells going turns. -/
def DueE (e e' : E) : Prop := ∃ wv fv next count again st, e' = { e with wv := wv, fv := fv, next := next, count := count, again := again, state := st } ∧ (st = e.state ∨ (st = 3 ∧ (e.state = 2 ∨ e.state = 3)))

theorem DueE.trans {a c d : E} (h : DueE a c) (k : DueE c d) : DueE a d := by
  obtain ⟨_, _, _, _, _, st, rfl, h1⟩ := h
  obtain ⟨_, _, _, _, _, st', rfl, h2⟩ := k
  refine ⟨_, _, _, _, _, _, rfl, ?_⟩
  simp only at h2
  omega

/-- A packet as an end makes it is valid. -/
theorem Made.ok {kind number : Int} {body : ByteArray} {s : Seg} (m : Made e kind number body s) (hk : 1 ≤ kind ∧ kind ≤ 5) (hb : kind = 2 → 1 ≤ body.size ∧ body.size ≤ 1400) (ho : kind ≠ 2 → body = ByteArray.empty)
    (hc : 0 ≤ e.conn ∧ e.conn ≤ 65535) (hb0 : 0 ≤ e.base) (hb1 : e.base < 65536) (hr : e.room ≤ 20000) : SegOk s := by
  have h1 := Int.emod_nonneg number (b := 65536) (by decide)
  have h2 := Int.emod_lt_of_pos number (b := 65536) (by decide)
  have := m.win0; have := m.win1; have := m.time0; have := m.time1; have := m.late0; have := m.late1
  refine ⟨?_, ?_, ?_, ?_, ?_, ?_, ?_, ?_, ?_, ?_, m.marks, ?_, ?_, ?_, ?_, ?_, ?_⟩
  · rw [m.kind_]; omega
  · rw [m.kind_]; omega
  · rw [m.conn]; omega
  · rw [m.conn]; omega
  · rw [m.seq]; omega
  · rw [m.seq]; omega
  · rw [m.ack]; omega
  · rw [m.ack]; omega
  · omega
  · omega
  · omega
  · omega
  · omega
  · omega
  · intro h; rw [m.body_]; exact hb (m.kind_ ▸ h)
  · intro h; rw [m.body_]; exact ho (m.kind_ ▸ h)

theorem Made.way {kind : Int} {i : Nat} {body : ByteArray} {s : Seg} (m : Made e kind (first + i) body s) (hq : h[i]? = some (kind, body)) (hk : KindOk (kind, body)) (hcn : e.conn = conn)
    (hc : 0 ≤ conn ∧ conn ≤ 65535) (hb0 : 0 ≤ e.base) (hb1 : e.base < 65536) (hr : e.room ≤ 20000) : Way first conn h s := by
  subst hcn
  refine ⟨m.ok ?_ ?_ ?_ hc hb0 hb1 hr, m.conn, fun _ => ⟨i, by rw [m.kind_, m.body_]; exact hq, m.seq⟩⟩
  · rcases hk with ⟨h, _⟩ | ⟨h, _⟩ <;> simp only at h <;> omega
  · intro h2
    rcases hk with ⟨_, h⟩ | ⟨h, _⟩
    · exact h
    · simp only at h; omega
  · intro h2
    rcases hk with ⟨h, _⟩ | ⟨_, h⟩
    · exact absurd h h2
    · exact h
end Go.Proofs.Ytglbfgpdmlkamaa

namespace Go.Proofs.Ytglbfgpdmlkamaa
open Go.RowKit Go.Flw

variable {first limit conn : Int} {h : Hist} {e e' : E} {ws fs ws' fs' : List Pk} {ks : List Ke} {wrote read : List UInt8} {ss ss' : List Seg}

theorem may_state {p : Pk} (hm : mayV e p = true) : (p.kind = 1 ∧ e.state = 1) ∨ (p.kind ≠ 1 ∧ (e.state = 2 ∨ e.state = 3) ∧ (e.opener = true ∨ e.heard = true)) := by
  unfold mayV at hm
  split at hm
  · rename_i hk
    exact .inl ⟨hk, by simpa using hm⟩
  · rename_i hk
    simp at hm
    exact .inr ⟨hk, hm.1, hm.2⟩

theorem fly_add {p : Pk} {n0 : Nat} {b0 : Nat} (hf : fitsV e fs p = true) (hn : n0 ≤ flyN fs + 1) (hb : b0 ≤ flyB fs + p.sz) : n0 ≤ 1 ∨ (b0 : Int) ≤ e.limit := by
  unfold fitsV at hf
  rw [Bool.or_eq_true] at hf
  rcases hf with hf | hf
  · left; have : flyN fs = 0 := by simpa using hf
    omega
  · right
    have := of_decide_eq_true hf
    omega

/-- What goes, as numbered. -/
def Gone (first conn : Int) (h : Hist) (ss : List Seg) (x : Seg) : Prop := x ∈ ss ∨ (Way first conn h x ∧ ∃ q ∈ h, x.kind = q.1)

theorem Gone.mono {x : Seg} (g : Gone first conn h ss x) (t : Hist) : Gone first conn (h ++ t) ss x := by
  rcases g with g | ⟨g, q, hq, hk⟩
  · exact .inl g
  · exact .inr ⟨g.mono t, q, List.mem_append.2 (.inl hq), hk⟩

theorem Snd.due (s0 : Snd first limit h e ws fs wrote) (d : Due e ws fs ss e' ws' fs' ss') (hcn : e.conn = conn) (hc : 0 ≤ conn ∧ conn ≤ 65535) (hb0 : 0 ≤ e.base) (hb1 : e.base < 65536) (hr : e.room ≤ 20000) :
    ∃ t, Snd first limit (h ++ t) e' ws' fs' wrote ∧ DueE e e' ∧ (∀ x ∈ ss', Gone first conn (h ++ t) ss x) ∧ (e.state = 1 → ∀ q ∈ t, q.1 = 1) ∧ (e.opener = false → e.heard = false → t = []) := by
  induction d with
  | refl => exact ⟨[], by simpa using s0, ⟨_, _, _, _, _, _, rfl, .inl rfl⟩, fun x hx => .inl hx, by simp, by simp⟩
  | @again e1 ws1 l1 p l2 ss1 a p' sg d hl hf hs hm ih =>
    obtain ⟨t, S, D, G, T1, T2⟩ := ih
    obtain ⟨i, hi, hnum⟩ := S.fl p (by simp)
    have hkk : KindOk (kb p) := S.kinds _ (List.mem_append.2 (.inl (List.mem_of_getElem? hi)))
    have hE : e1.conn = conn ∧ e1.base = e.base ∧ e1.room = e.room := by
      obtain ⟨_, _, _, _, _, _, rfl, _⟩ := D
      exact ⟨hcn, rfl, rfl⟩
    have hkb : kb p' = kb p := by simp [kb, hs.kind, hs.body]
    have hsz : p'.sz = p.sz := by simp [Pk.sz, hs.body]
    have e1' : ∀ q : Pk, l1 ++ q :: l2 = l1 ++ ([q] ++ l2) := by simp
    have hp'l : p'.lost = false := hs.lost
    refine ⟨t, { S with fl := ?_, flen := ?_, fly := ?_ }, D.trans ⟨_, _, _, _, _, _, rfl, .inl rfl⟩, ?_, T1, T2⟩
    · intro q hq
      have : q = p' ∨ q ∈ l1 ++ p :: l2 := by simp at hq ⊢; grind
      rcases this with rfl | hq
      · exact ⟨i, by rw [hkb]; exact hi, by rw [hs.number]; exact hnum⟩
      · exact S.fl q hq
    · have := S.flen; simp at this ⊢; exact this
    · refine fly_add (e := e1) (fs := l1 ++ p :: l2) (p := p) hf ?_ ?_
      · rw [e1', e1', flyN_app, flyN_app, flyN_app, flyN_app]
        have : flyN [p'] ≤ 1 := by have := flyN_le [p']; simpa using this
        omega
      · rw [e1', e1', flyB_app, flyB_app, flyB_app, flyB_app]
        have : flyB [p'] ≤ p.sz := by simp [flyB, hp'l, hsz]
        omega
    · intro x hx
      rcases List.mem_append.1 hx with hx | hx
      · exact G x hx
      · obtain rfl : x = sg := by simpa using hx
        refine .inr ⟨?_, kb p, List.mem_of_getElem? hi, hm.kind_⟩
        have hm' : Made { e1 with again := a } p.kind (first + i) p.body x := hnum ▸ hm
        exact hm'.way hi hkk hE.1 hc (by simp only; rw [hE.2.1]; exact hb0) (by simp only; rw [hE.2.1]; exact hb1) (by simp only; rw [hE.2.2]; exact hr)
  | @pop e1 p ws1 fs1 ss1 e2 p' sg d hy hf he hs hm ih =>
    obtain ⟨t, S, D, G, T1, T2⟩ := ih
    obtain ⟨wv, fv, c, rfl⟩ := he
    have hms := may_state hy
    have hE : e1.conn = conn ∧ e1.base = e.base ∧ e1.room = e.room ∧ e1.opener = e.opener ∧ e1.heard = e.heard ∧ (e1.state = e.state ∨ (e1.state = 3 ∧ (e.state = 2 ∨ e.state = 3))) := by
      obtain ⟨_, _, _, _, _, _, rfl, hst⟩ := D
      exact ⟨hcn, rfl, rfl, rfl, rfl, hst⟩
    have hkk : KindOk (kb p) := S.kinds _ (by simp)
    have hkb : kb p' = kb p := by simp [kb, hs.kind, hs.body]
    have hsz : p'.sz = p.sz := by simp [Pk.sz, hs.body]
    have hli : h ++ (t ++ [kb p]) ++ ws1.map kb = h ++ t ++ (p :: ws1).map kb := by simp
    have hlen : (h ++ (t ++ [kb p])).length = (h ++ t).length + 1 := by simp; omega
    have hidx : (h ++ (t ++ [kb p]))[(h ++ t).length]? = some (kb p) := by rw [← List.append_assoc, List.getElem?_append_right (Nat.le_refl _)]; simp
    have hmono : ∀ {i : Nat} {q}, (h ++ t)[i]? = some q → (h ++ (t ++ [kb p]))[i]? = some q := fun hq => by rw [← List.append_assoc]; exact getElem?_mono _ hq
    have hn := S.next
    refine ⟨t ++ [kb p], ?_, D.trans ⟨_, _, _, _, _, _, rfl, ?_⟩, ?_, ?_, ?_⟩
    · refine { S with next := ?_, fl := ?_, cat := ?_, kinds := ?_, one := ?_, last := ?_, len := ?_, flen := ?_, fly := ?_, acked1 := ?_, outs1 := ?_ }
      · simp only; rw [hn, hlen]; omega
      · intro q hq
        rcases List.mem_append.1 hq with hq | hq
        · obtain ⟨i, h1, h2⟩ := S.fl q hq
          exact ⟨i, hmono h1, h2⟩
        · obtain rfl : q = p' := by simpa using hq
          exact ⟨_, by rw [hkb]; exact hidx, by rw [hs.number]; exact hn⟩
      · rw [hli]; exact S.cat
      · rw [hli]; exact S.kinds
      · rw [hli]; exact S.one
      · rw [hli]; exact S.last
      · have := S.len
        simp only [List.length_cons] at this
        rw [hlen]; simp only; omega
      · have := S.flen
        rw [hlen, List.length_append]; simp; simp at this; omega
      · refine fly_add (e := e1) (fs := fs1) (p := p) hf ?_ ?_
        · rw [flyN_snoc]; split <;> omega
        · rw [flyB_snoc]; split <;> omega
      · have := S.acked1; simp only; omega
      · have := S.outs1
        simp only
        split
        · rename_i h4
          rcases hms with ⟨h1, _⟩ | ⟨_, h2, _⟩
          · omega
          · right; omega
        · exact this
    · split
      · rename_i h4
        rcases hms with ⟨h1, _⟩ | ⟨_, h2, _⟩
        · omega
        · exact .inr ⟨rfl, h2⟩
      · exact .inl rfl
    · intro x hx
      rcases List.mem_append.1 hx with hx | hx
      · rw [← List.append_assoc]; exact (G x hx).mono _
      · obtain rfl : x = sg := by simpa using hx
        refine .inr ⟨?_, kb p, List.mem_of_getElem? hidx, hm.kind_⟩
        rw [hn] at hm
        exact hm.way hidx hkk hE.1 hc (by simp only; rw [hE.2.1]; exact hb0) (by simp only; rw [hE.2.1]; exact hb1) (by simp only; rw [hE.2.2.1]; exact hr)
    · intro h1 q hq
      rcases List.mem_append.1 hq with hq | hq
      · exact T1 h1 q hq
      · obtain rfl : q = kb p := by simpa using hq
        rcases hms with ⟨hk, _⟩ | ⟨_, h2, _⟩
        · exact hk
        · have := hE.2.2.2.2.2; omega
    · intro ho hh
      rcases hms with ⟨hk, _⟩ | ⟨_, _, h3⟩
      · have := (S.one (h ++ t).length (kb p) (by rw [List.getElem?_append_right (Nat.le_refl _)]; simp) hk).2
        rw [hE.2.2.2.1, ho] at this; cases this
      · rw [hE.2.2.2.1, hE.2.2.2.2.1, ho, hh] at h3
        simp at h3
end Go.Proofs.Ytglbfgpdmlkamaa

namespace Go.Proofs.Ytglbfgpdmlkamaa
open Go.RowKit Go.Flw

variable {first limit conn : Int} {h : Hist} {e e' : E} {ws fs ws' fs' : List Pk} {ks : List Ke} {wrote read : List UInt8} {ss ss' : List Seg}

/-- What an end may turn by sending: all else is as it was. -/
structure SendE (e e' : E) (now : Int) : Prop where
  now_ : e'.now = now
  closing : e'.closing = e.closing
  opener : e'.opener = e.opener
  heard : e'.heard = e.heard
  base : e'.base = e.base
  ready : e'.ready = e.ready
  ended : e'.ended = e.ended
  late : e'.late = e.late
  conn : e'.conn = e.conn
  room : e'.room = e.room
  body : e'.body = e.body
  limit : e'.limit = e.limit
  state : e'.state = e.state ∨ e'.state = 5 ∨ (e'.state = 3 ∧ (e.state = 2 ∨ e.state = 3))
  answer : e'.answer = false ∨ e'.answer = e.answer

/-- A packet that was sent. -/
def Sent (first conn : Int) (h : Hist) (e : E) (x : Seg) : Prop :=
  Way first conn h x ∧ (x.kind = 5 ∨ (x.kind = 3 ∧ e.answer = true ∧ x.seq = (first + h.length) % 65536) ∨ ∃ q ∈ h, x.kind = q.1)

theorem Rcv.sent {now : Int} (r : Rcv first h e ks read) (k : SendE e e' now) : Rcv first h e' ks read := by
  refine ⟨by rw [k.room]; exact r.room0, by rw [k.room]; exact r.room1, by rw [k.base]; exact r.base0, by rw [k.base]; exact r.base1, by rw [k.late]; exact r.late0, by rw [k.late]; exact r.late1, ?_⟩
  have hs := k.state
  rcases r.form with f | ⟨j, f⟩
  · exact .inl ⟨by rw [k.ready]; exact f.ready, f.read, f.ks, by rw [k.ended]; exact f.ended, by have := f.state; omega⟩
  · exact .inr ⟨j, f.le, by rw [k.base]; exact f.base, by rw [k.ready]; exact f.cat, f.kept, f.nodup, by rw [k.ended]; exact f.ended, by have := f.state; omega⟩

theorem Snd.send {now : Int} (s0 : Snd first limit h e ws fs wrote) (hP : SendP e ws fs now e' ws' fs' ss) (hcn : e.conn = conn) (hc : 0 ≤ conn ∧ conn ≤ 65535) (hb0 : 0 ≤ e.base) (hb1 : e.base < 65536) (hr : e.room ≤ 20000) :
    ∃ t, Snd first limit (h ++ t) e' ws' fs' wrote ∧ SendE e e' now ∧ (∀ x ∈ ss, Sent first conn (h ++ t) e x) ∧ (e.state = 1 → ∀ q ∈ t, q.1 = 1) ∧ (e.opener = false → e.heard = false → t = []) := by
  obtain ⟨e2, fs2, e3, ss3, hO, hR, hF⟩ := hP
  have S1 : Snd first limit h { e with now := now } ws fs wrote := { s0 with }
  have S2 : Snd first limit h e2 ws fs2 wrote := by
    rcases hO with ⟨_, rfl, rfl⟩ | ⟨h5, hO⟩
    · exact S1
    · exact S1.over hO h5
  have E2 : SendE e e2 now ∧ (e2.state = e.state ∨ e2.state = 5) ∧ e2.answer = e.answer := by
    rcases hO with ⟨_, rfl, rfl⟩ | ⟨h5, hO⟩
    · exact ⟨⟨rfl, rfl, rfl, rfl, rfl, rfl, rfl, rfl, rfl, rfl, rfl, rfl, .inl rfl, .inr rfl⟩, .inl rfl, rfl⟩
    · rcases hO with ⟨rfl, rfl⟩ | ⟨t, rfl, rfl, _⟩ | ⟨t, rfl, rfl, _⟩
      · exact ⟨⟨rfl, rfl, rfl, rfl, rfl, rfl, rfl, rfl, rfl, rfl, rfl, rfl, .inl rfl, .inr rfl⟩, .inl rfl, rfl⟩
      · exact ⟨⟨rfl, rfl, rfl, rfl, rfl, rfl, rfl, rfl, rfl, rfl, rfl, rfl, .inr (.inl rfl), .inr rfl⟩, .inr rfl, rfl⟩
      · exact ⟨⟨rfl, rfl, rfl, rfl, rfl, rfl, rfl, rfl, rfl, rfl, rfl, rfl, .inl rfl, .inr rfl⟩, .inl rfl, rfl⟩
  have S3 : Snd first limit h e3 ws fs2 wrote := by
    rcases hR with ⟨_, rfl, _⟩ | ⟨_, rfl, _⟩
    · exact S2
    · exact { S2 with }
  have E3 : SendE e e3 now ∧ (e3.state = e.state ∨ e3.state = 5) ∧ e3.answer = e.answer := by
    rcases hR with ⟨_, rfl, _⟩ | ⟨_, rfl, _⟩
    · exact E2
    · exact ⟨{ E2.1 with }, E2.2⟩
  obtain ⟨E3, hst3, han3⟩ := E3
  have R3 : ∀ x ∈ ss3, Sent first conn h e x := by
    intro x hx
    rcases hR with ⟨_, _, rfl⟩ | ⟨_, rfl, s, rfl, hm⟩
    · simp at hx
    · obtain rfl : x = s := by simpa using hx
      refine ⟨⟨hm.ok (by omega) (by omega) (fun _ => rfl) ?_ ?_ ?_ ?_, ?_, fun hk => by rw [hm.kind_] at hk; omega⟩, .inl hm.kind_⟩
      · rw [E3.conn, hcn]; exact hc
      · rw [E3.base]; exact hb0
      · rw [E3.base]; exact hb1
      · rw [E3.room]; exact hr
      · rw [hm.conn, E3.conn, hcn]
  rcases hF with ⟨hst, rfl, rfl, rfl, rfl⟩ | ⟨hn5, hn0, e4, ss4, a, hD, hss, rfl, ha⟩
  · refine ⟨[], by rw [List.append_nil]; exact { S3 with }, { E3 with answer := .inl rfl }, by simpa using R3, by simp, by simp⟩
  · obtain ⟨t, S4, D4, G4, T1, T2⟩ := S3.due hD (by rw [E3.conn]; exact hcn) hc (by rw [E3.base]; exact hb0) (by rw [E3.base]; exact hb1) (by rw [E3.room]; exact hr)
    have E4 : SendE e { e4 with answer := a } now ∧ e4.answer = e.answer ∧ e4.conn = e.conn ∧ e4.base = e.base ∧ e4.room = e.room := by
      obtain ⟨_, _, _, _, _, st, rfl, hst⟩ := D4
      refine ⟨⟨E3.now_, E3.closing, E3.opener, E3.heard, E3.base, E3.ready, E3.ended, E3.late, E3.conn, E3.room, E3.body, E3.limit, ?_, ?_⟩, han3, E3.conn, E3.base, E3.room⟩
      · have := E3.state; simp only; omega
      · simp only
        rcases ha with ha | ha
        · exact .inl ha
        · exact .inr (ha.trans han3)
    refine ⟨t, { S4 with }, E4.1, ?_, ?_, ?_⟩
    · intro x hx
      rcases hss with rfl | ⟨_, hans, s, rfl, hm⟩
      · rcases G4 x hx with g | ⟨g, q, hq, hk⟩
        · obtain ⟨w, hk⟩ := R3 x g
          refine ⟨w.mono t, ?_⟩
          rcases hR with ⟨_, _, rfl⟩ | ⟨_, rfl, s, rfl, hm⟩
          · simp at g
          · obtain rfl : x = s := by simpa using g
            exact .inl hm.kind_
        · exact ⟨g, .inr (.inr ⟨q, hq, hk⟩)⟩
      · obtain rfl : x = s := by simpa using hx
        refine ⟨⟨hm.ok (by omega) (by omega) (fun _ => rfl) ?_ ?_ ?_ ?_, ?_, fun hk => by rw [hm.kind_] at hk; omega⟩, .inr (.inl ⟨hm.kind_, ?_, ?_⟩)⟩
        · rw [E4.2.2.1, hcn]; exact hc
        · rw [E4.2.2.2.1]; exact hb0
        · rw [E4.2.2.2.1]; exact hb1
        · rw [E4.2.2.2.2]; exact hr
        · rw [hm.conn, E4.2.2.1, hcn]
        · rw [← E4.2.1]; exact hans
        · rw [hm.seq, S4.next]
    · intro h1
      refine T1 ?_
      rcases hst3 with h | h
      · rw [h]; exact h1
      · exact absurd h hn5
    · intro ho hh
      exact T2 (by rw [E3.opener]; exact ho) (by rw [E3.heard]; exact hh)
end Go.Proofs.Ytglbfgpdmlkamaa

namespace Go.Proofs.Ytglbfgpdmlkamaa
open Go.RowKit Go.Flw

variable {first limit conn : Int} {h : Hist} {e e' : E} {ws fs ws' fs' : List Pk} {ks ks' : List Ke} {wrote read : List UInt8} {clk clk' : Nat}

/-- What is known of the numbered packets of the other one. -/
structure HOk (first : Int) (h : Hist) : Prop where
  kinds : ∀ q ∈ h, KindOk q
  one : ∀ (i : Nat) (q : Int × ByteArray), h[i]? = some q → q.1 = 1 → i = 0
  last : ∀ (i : Nat) (q : Int × ByteArray), h[i]? = some q → q.1 = 4 → h.length ≤ i + 1
  len : h.length ≤ 4002
  first0 : 0 ≤ first
  first1 : first ≤ 65535

theorem Snd.hok (s : Snd first limit h e ws fs wrote) : HOk first h where
  kinds := fun q hq => s.kinds q (List.mem_append.2 (.inl hq))
  one := fun i q hq h1 => (s.one i q (getElem?_mono _ hq) h1).1
  last := fun i q hq h4 => by
    have := (s.last i q (getElem?_mono _ hq) h4).2
    rw [List.length_append] at this; omega
  len := by have := s.small; omega
  first0 := s.first0
  first1 := s.first1

theorem erase_key (l : List Ke) (j : Nat) (x : Ke) (hj : l[j]? = some x) (hn : (l.map (·.key)).Nodup) : (∀ y ∈ l.eraseIdx j, y.key ≠ x.key) ∧ ((l.eraseIdx j).map (·.key)).Nodup := by
  have hlt := (List.getElem?_eq_some_iff.1 hj).1
  have hx : l[j] = x := (List.getElem?_eq_some_iff.1 hj).2
  have e1 : l.eraseIdx j = l.take j ++ l.drop (j + 1) := List.eraseIdx_eq_take_drop_succ l j
  have e2 : l = l.take j ++ x :: l.drop (j + 1) := by
    rw [← hx, ← List.drop_eq_getElem_cons hlt, List.take_append_drop]
  have hp : (l.map (·.key)).Perm (x.key :: (l.eraseIdx j).map (·.key)) := by
    rw [e1]
    conv => lhs; rw [e2]
    simp only [List.map_append, List.map_cons]
    exact List.perm_middle
  have hn' := hp.nodup_iff.1 hn
  rw [List.nodup_cons] at hn'
  exact ⟨fun y hy hh => hn'.1 (List.mem_map.2 ⟨y, hy, hh⟩), hn'.2⟩

theorem flatH_take (h : Hist) (k : Nat) (q : Int × ByteArray) (hq : h[k]? = some q) : flatH (h.take (k + 1)) = flatH (h.take k) ++ q.2.data.toList := by
  have hlt := (List.getElem?_eq_some_iff.1 hq).1
  rw [List.take_succ_eq_append_getElem hlt, (List.getElem?_eq_some_iff.1 hq).2, flatH_app]
  simp [flatH]

/-- Passing goes on and on. -/
theorem ActK.pass {e1 : E} {ks1 : List Ke} (hh : HOk first h) (p : Pass e ks e1 ks1) : ∀ {k : Nat}, ActK first h e ks read k 0 → ∃ k', ActK first h e1 ks1 read k' 0 := by
  induction p with
  | refl => exact fun {k} a => ⟨k, a⟩
  | @step e1 ks1 j x p hk he ih =>
    intro k a
    obtain ⟨k, a⟩ := ih a
    obtain ⟨_, hj, hkey⟩ := kidx_spec _ _ _ _ _ hk
    rw [Nat.sub_zero] at hj
    obtain ⟨i, h1, h2, h3, h4⟩ := a.kept x (List.mem_of_getElem? hj)
    have hb := a.base
    have hle := a.le
    have hl := hh.len
    have h0 := hh.first0
    have hik : i = k := by
      rw [h3, hb] at hkey
      omega
    subst hik
    obtain ⟨n1, n2⟩ := erase_key ks1 j x hj a.nodup
    have hkd : kdel ks1 ((e1.base + 1) % 65536) = ks1.eraseIdx j := by simp [kdel, hk]
    refine ⟨i + 1, ⟨?_, ?_, ?_, ?_, ?_, ?_, a.state⟩⟩
    · exact (List.getElem?_eq_some_iff.1 h4).1
    · simp only; rw [hb]; omega
    · simp only
      rw [flatH_take h i _ h4, ← a.cat, ByteArray.data_append]
      simp
    · rw [hkd]
      intro y hy
      obtain ⟨i', k1, k2, k3, k4⟩ := a.kept y (List.mem_of_mem_eraseIdx hy)
      refine ⟨i', ?_, by omega, k3, k4⟩
      have := n1 y hy
      rw [k3, h3] at this
      have hne : i' ≠ i := fun hh => this (by rw [hh])
      omega
    · rw [hkd]; exact n2
    · intro he'
      exact ⟨_, by omega, h4, by simpa using he'⟩

theorem ActK.close {k : Nat} (hh : HOk first h) (a : ActK first h e ks read k 0) (hf : kidx ((e.base + 1) % 65536) ks 0 = none ∨ e.ended = true) : ActK first h e ks read k 1 := by
  refine { a with kept := fun x hx => ?_ }
  obtain ⟨i, h1, h2, h3, h4⟩ := a.kept x hx
  refine ⟨i, ?_, h2, h3, h4⟩
  have hi := (List.getElem?_eq_some_iff.1 h4).1
  rcases hf with hf | hf
  · have := kidx_none _ _ _ hf x hx
    rw [h3, a.base] at this
    have hne : i ≠ k := fun hh => this (by rw [hh]; omega)
    omega
  · obtain ⟨q, k1, k2, k3⟩ := a.ended hf
    have := hh.last _ _ k2 k3
    omega

/-- Keeping a packet of the other one. -/
theorem Rcv.keep {s : Seg} (hh : HOk first h) (r : Rcv first h e ks read) (w : Way first conn h s) (hk : s.kind = 2 ∨ s.kind = 4) (hst : e.state = 2 ∨ e.state = 3 ∨ e.state = 4) (kp : KeepP e ks clk s e' ks' clk') :
    Rcv first h e' ks' read ∧ ∃ b r en n, e' = { e with base := b, ready := r, ended := en, answer := true, doubles := n } := by
  rcases kp with ⟨n, rfl, rfl, rfl⟩ | ⟨hn, he, hd1, hd2, rfl, hp, hf⟩
  · refine ⟨{ r with form := ?_ }, _, _, _, _, rfl⟩
    rcases r.form with f | ⟨k, f⟩
    · exact .inl { f with }
    · exact .inr ⟨k, { f with }⟩
  · rcases r.form with f | ⟨k, f⟩
    · have := f.state; omega
    obtain ⟨i, hi, hs⟩ := w.data (by omega)
    have hil := (List.getElem?_eq_some_iff.1 hi).1
    have hb := f.base
    have hle := f.le
    have hl := hh.len
    have h0 := hh.first0
    have hik : k ≤ i ∧ i ≤ k + 33 := by
      rw [hs, hb] at hd1 hd2
      omega
    have a0 : ActK first h { e with answer := true } (ks ++ [Ke.mk s.seq s clk]) read k 0 := by
      refine ⟨f.le, f.base, f.cat, ?_, ?_, f.ended, f.state⟩
      · intro x hx
        rcases List.mem_append.1 hx with hx | hx
        · obtain ⟨j, h1, h2, h3, h4⟩ := f.kept x hx
          exact ⟨j, by omega, h2, h3, h4⟩
        · obtain rfl : x = Ke.mk s.seq s clk := by simpa using hx
          exact ⟨i, hik.1, hik.2, hs, hi⟩
      · have hno : ∀ x ∈ ks, x.key ≠ s.seq := by
          refine kidx_none _ _ 0 ?_
          cases hx : kidx s.seq ks 0 with
          | none => rfl
          | some p => simp [khas, hx] at hn
        rw [List.map_append, List.nodup_append]
        refine ⟨f.nodup, by simp, ?_⟩
        intro a ha c hc
        obtain ⟨x, hx, rfl⟩ := List.mem_map.1 ha
        simp at hc
        subst hc
        exact hno x hx
    obtain ⟨k', a1⟩ := a0.pass hh hp
    have a2 := a1.close hh hf
    have hE : ∃ b r en, e' = { e with base := b, ready := r, ended := en, answer := true } := by
      clear a0 a1 a2 hf hd1 hd2
      generalize ks ++ [Ke.mk s.seq s clk] = ks0 at hp
      induction hp with
      | refl => exact ⟨_, _, _, rfl⟩
      | step p _ _ ih =>
        obtain ⟨b, r, en, rfl⟩ := ih
        exact ⟨_, _, _, rfl⟩
    obtain ⟨b, rr, en, rfl⟩ := hE
    refine ⟨⟨r.room0, r.room1, ?_, ?_, r.late0, r.late1, .inr ⟨k', a2⟩⟩, _, _, _, _, rfl⟩
    · rw [a2.base]; exact Int.emod_nonneg _ (by decide)
    · rw [a2.base]; exact Int.emod_lt_of_pos _ (by decide)
end Go.Proofs.Ytglbfgpdmlkamaa

namespace Go.Proofs.Ytglbfgpdmlkamaa
open Go.RowKit Go.Flw

variable {first own limit conn : Int} {h ho : Hist} {e e' e2 : E} {ws fs ws' fs' : List Pk} {ks ks' : List Ke} {wrote read : List UInt8} {clk clk' : Nat}

theorem Snd.ack (s : Snd own limit h e ws fs wrote) (k : AckF e e2) (hf : Fewer fs fs') : Snd own limit h e2 ws fs' wrote := by
  obtain ⟨e3, a, ⟨fv, outs, done, tb, tl, tt, tn, ts, ho, rfl⟩, rfl, h1, h2⟩ := k
  have := s.acked0; have := s.acked1; have := s.outs0; have := s.outs1
  exact { s.fewer hf with acked0 := by simp only; omega, acked1 := by simp only; omega, outs0 := by simp only; omega, outs1 := by simp only; omega }

theorem Rcv.cells (r : Rcv first h e ks read) (h1 : e2.room = e.room) (h2 : e2.base = e.base) (h3 : 0 ≤ e2.late ∧ e2.late < 4294967296) (h4 : e2.ready = e.ready) (h5 : e2.ended = e.ended)
    (h6 : e2.state = e.state ∨ e2.state = 5 ∨ (e2.state = 4 ∧ e.state = 3)) : Rcv first h e2 ks read := by
  refine ⟨by rw [h1]; exact r.room0, by rw [h1]; exact r.room1, by rw [h2]; exact r.base0, by rw [h2]; exact r.base1, h3.1, h3.2, ?_⟩
  rcases r.form with f | ⟨k, f⟩
  · exact .inl ⟨by rw [h4]; exact f.ready, f.read, f.ks, by rw [h5]; exact f.ended, by have := f.state; omega⟩
  · exact .inr ⟨k, f.le, by rw [h2]; exact f.base, by rw [h4]; exact f.cat, f.kept, f.nodup, by rw [h5]; exact f.ended, by have := f.state; omega⟩

theorem Rcv.ack (r : Rcv first h e ks read) (k : AckF e e2) : Rcv first h e2 ks read := by
  obtain ⟨e3, a, ⟨fv, outs, done, tb, tl, tt, tn, ts, ho, rfl⟩, rfl, _⟩ := k
  exact r.cells rfl rfl ⟨r.late0, r.late1⟩ rfl rfl (.inl rfl)

/-- What an end may turn by taking: all else is as it was. -/
structure TakeE (s : Seg) (e e' : E) : Prop where
  now_ : e'.now = e.now
  closing : e'.closing = e.closing
  opener : e'.opener = e.opener
  conn : e'.conn = e.conn
  room : e'.room = e.room
  body : e'.body = e.body
  limit : e'.limit = e.limit
  heard : e'.heard = e.heard ∨ s.kind = 2 ∨ s.kind = 3 ∨ s.kind = 4
  state1 : e'.state = 1 → e.state = 1 ∧ e'.answer = e.answer
  state0 : e'.state = 0 → e.state = 0

theorem AckF.takeE {s : Seg} (k : AckF e e2) : TakeE s e e2 := by
  obtain ⟨e3, a, ⟨fv, outs, done, tb, tl, tt, tn, ts, ho, rfl⟩, rfl, _⟩ := k
  exact ⟨rfl, rfl, rfl, rfl, rfl, rfl, rfl, .inl rfl, fun h => ⟨h, rfl⟩, fun h => h⟩

/-- One packet, by its kind. -/
theorem tookK {s : Seg} (S : Snd own limit ho e ws fs wrote) (R : Rcv first h e ks read) (hh : HOk first h) (w : Way first conn h s) (h5 : e.state ≠ 5) (hop : e.opener = true → e.state ≠ 0)
    (h1 : e.state = 1 → s.kind = 3 → h = [] ∧ s.seq = first % 65536) (t : TookK e fs ks clk s e' fs' ks' clk') :
    Snd own limit ho e' ws fs' wrote ∧ Rcv first h e' ks' read ∧ TakeE s e e' := by
  have ho5 : e.outs ≤ 5 := by have := S.outs1; omega
  rcases t with ⟨hk, op, rfl, rfl, rfl⟩ | ⟨hk, cp⟩ | ⟨hk, ap, rfl, rfl⟩ | ⟨hk, dp, rfl, rfl, rfl⟩
  · rcases op with ⟨rfl, _⟩ | ⟨hs0, hno, rfl⟩ | ⟨hs0, hs1, rfl⟩
    · exact ⟨S, R, rfl, rfl, rfl, rfl, rfl, rfl, rfl, .inl rfl, fun h => ⟨h, rfl⟩, fun h => h⟩
    · refine ⟨{ S with outs1 := .inr ho5 }, ?_, rfl, rfl, rfl, rfl, rfl, rfl, rfl, .inl rfl, fun h => by simp at h, fun h => by simp at h⟩
      obtain ⟨i, hi, hs⟩ := w.data (.inl hk)
      obtain rfl := hh.one i _ hi hk
      have hlt := (List.getElem?_eq_some_iff.1 hi).1
      have h0 := hh.first0
      have hsq := w.ok.seq0; have hsq1 := w.ok.seq1
      refine ⟨R.room0, R.room1, hsq, by simp only; omega, R.late0, R.late1, .inr ⟨1, ?_⟩⟩
      rcases R.form with f | ⟨k, f⟩
      · refine ⟨hlt, ?_, ?_, ?_, ?_, ?_, by simp⟩
        · simp only; rw [hs]; congr 1; omega
        · simp only
          rw [f.read, f.ready, flatH_take h 0 _ hi]
          have := hh.kinds _ (List.mem_of_getElem? hi)
          rcases this with ⟨hk2, _⟩ | ⟨_, hb⟩
          · simp only at hk2; omega
          · simp only at hb; rw [hb]; simp [flatH]
        · rw [f.ks]; simp
        · rw [f.ks]; simp
        · intro he; simp only at he; rw [f.ended] at he; cases he
      · exact absurd hs0 f.state.1
    · refine ⟨{ S with }, R.cells rfl rfl ⟨R.late0, R.late1⟩ rfl rfl (.inl rfl), rfl, rfl, rfl, rfl, rfl, rfl, rfl, .inl rfl, fun h => absurd h hs1, fun h => h⟩
  · rcases cp with ⟨hs0, rfl, rfl, rfl, rfl⟩ | ⟨hst, e2, ak, hf, kp⟩ | ⟨hs0, rfl, rfl, rfl, rfl⟩
    · exact ⟨{ S with }, R.cells rfl rfl ⟨R.late0, R.late1⟩ rfl rfl (.inl rfl), rfl, rfl, rfl, rfl, rfl, rfl, rfl, .inl rfl, fun h => ⟨h, rfl⟩, fun h => h⟩
    · have S1 : Snd own limit ho { e with heard := true } ws fs wrote := { S with }
      have R1 : Rcv first h { e with heard := true } ks read := R.cells rfl rfl ⟨R.late0, R.late1⟩ rfl rfl (.inl rfl)
      have S2 := S1.ack ak hf
      have R2 := R1.ack ak
      have T2 : TakeE s { e with heard := true } e2 := ak.takeE
      have hst2 : e2.state = e.state := ak.same.2.2.2.1
      obtain ⟨R3, b, r, en, n, rfl⟩ := R2.keep hh w (by omega) (by omega) kp
      refine ⟨{ S2 with }, R3, T2.now_, T2.closing, T2.opener, T2.conn, T2.room, T2.body, T2.limit, by omega, fun h => ?_, fun h => ?_⟩
      · simp only at h; omega
      · simp only at h; omega
    · exact ⟨S, R, rfl, rfl, rfl, rfl, rfl, rfl, rfl, .inl rfl, fun h => ⟨h, rfl⟩, fun h => h⟩
  · rcases ap with ⟨hs0, rfl, rfl⟩ | ⟨hs1, ⟨rfl, rfl⟩ | ⟨_, _, e2, ak, hf, rfl⟩⟩ | ⟨hst, ak, hf⟩ | ⟨_, _, rfl, rfl⟩
    · exact ⟨{ S with }, R.cells rfl rfl ⟨R.late0, R.late1⟩ rfl rfl (.inl rfl), rfl, rfl, rfl, rfl, rfl, rfl, rfl, .inl rfl, fun h => ⟨h, rfl⟩, fun h => h⟩
    · exact ⟨S, R, rfl, rfl, rfl, rfl, rfl, rfl, rfl, .inl rfl, fun h => ⟨h, rfl⟩, fun h => h⟩
    · obtain ⟨rfl, hsq⟩ := h1 hs1 hk
      have h0 := hh.first0
      have S1 : Snd own limit ho { e with state := 2, base := (s.seq - 1) % 65536 } ws fs wrote := { S with outs1 := .inr ho5 }
      have R1 : Rcv first [] { e with state := 2, base := (s.seq - 1) % 65536 } ks' read := by
        refine ⟨R.room0, R.room1, Int.emod_nonneg _ (by decide), Int.emod_lt_of_pos _ (by decide), R.late0, R.late1, .inr ⟨0, ?_⟩⟩
        rcases R.form with f | ⟨k, f⟩
        · refine ⟨Nat.le_refl _, ?_, ?_, by rw [f.ks]; simp, by rw [f.ks]; simp, fun he => ?_, by simp⟩
          · simp only; rw [hsq]; omega
          · simp only; rw [f.read, f.ready]; simp [flatH]
          · simp only at he; rw [f.ended] at he; cases he
        · exact absurd hs1 f.state.2
      have S2 := S1.ack ak hf
      have R2 := R1.ack ak
      have T2 : TakeE s { e with state := 2, base := (s.seq - 1) % 65536 } e2 := ak.takeE
      have hst2 : e2.state = 2 := ak.same.2.2.2.1
      refine ⟨{ S2 with }, R2.cells rfl rfl ⟨R2.late0, R2.late1⟩ rfl rfl (.inl rfl), T2.now_, T2.closing, T2.opener, T2.conn, T2.room, T2.body, T2.limit, by omega, fun h => ?_, fun h => ?_⟩
      · simp only at h; omega
      · simp only at h; omega
    · have S1 : Snd own limit ho { e with heard := true } ws fs wrote := { S with }
      have R1 : Rcv first h { e with heard := true } ks' read := R.cells rfl rfl ⟨R.late0, R.late1⟩ rfl rfl (.inl rfl)
      have T2 : TakeE s { e with heard := true } e' := ak.takeE
      have hst2 : e'.state = e.state := ak.same.2.2.2.1
      refine ⟨S1.ack ak hf, R1.ack ak, T2.now_, T2.closing, T2.opener, T2.conn, T2.room, T2.body, T2.limit, by omega, fun h => by omega, fun h => by omega⟩
    · exact ⟨S, R, rfl, rfl, rfl, rfl, rfl, rfl, rfl, .inl rfl, fun h => ⟨h, rfl⟩, fun h => h⟩
  · rcases dp with ⟨rfl, _⟩ | rfl
    · exact ⟨S, R, rfl, rfl, rfl, rfl, rfl, rfl, rfl, .inl rfl, fun h => ⟨h, rfl⟩, fun h => h⟩
    · exact ⟨{ S with outs1 := .inl rfl }, R.cells rfl rfl ⟨R.late0, R.late1⟩ rfl rfl (.inr (.inl rfl)), rfl, rfl, rfl, rfl, rfl, rfl, rfl, .inl rfl, fun h => by simp at h, fun h => by simp at h⟩

/-- One packet that is taken. -/
theorem took {s : Seg} (S : Snd own limit ho e ws fs wrote) (R : Rcv first h e ks read) (hh : HOk first h) (w : Way first conn h s) (hop : e.opener = true → e.state ≠ 0)
    (h1 : e.state = 1 → s.kind = 3 → h = [] ∧ s.seq = first % 65536) (t : Took e fs ks clk s e' fs' ks' clk') :
    Snd own limit ho e' ws fs' wrote ∧ Rcv first h e' ks' read ∧ TakeE s e e' := by
  rcases t with ⟨rfl, rfl, rfl, rfl⟩ | ⟨_, h5, wn, e2, tk, hw, he⟩
  · exact ⟨S, R, rfl, rfl, rfl, rfl, rfl, rfl, rfl, .inl rfl, fun h => ⟨h, rfl⟩, fun h => h⟩
  · have S1 : Snd own limit ho { e with late := s.time, some_ := true, window := wn } ws fs wrote := { S with }
    have R1 : Rcv first h { e with late := s.time, some_ := true, window := wn } ks read := R.cells rfl rfl ⟨w.ok.time0, w.ok.time1⟩ rfl rfl (.inl rfl)
    obtain ⟨S2, R2, T2⟩ := tookK S1 R1 hh w h5 hop h1 tk
    have T3 : TakeE s e e2 := ⟨T2.now_, T2.closing, T2.opener, T2.conn, T2.room, T2.body, T2.limit, T2.heard, T2.state1, T2.state0⟩
    rcases he with rfl | ⟨h3, rfl⟩
    · exact ⟨S2, R2, T3⟩
    · have ho5 := S2.outs1
      refine ⟨{ S2 with outs1 := by simp only; omega }, R2.cells rfl rfl ⟨R2.late0, R2.late1⟩ rfl rfl (.inr (.inr ⟨rfl, h3⟩)), T3.now_, T3.closing, T3.opener, T3.conn, T3.room, T3.body, T3.limit, T3.heard, fun h => by simp at h, fun h => by simp at h⟩
end Go.Proofs.Ytglbfgpdmlkamaa

namespace Go.Proofs.Ytglbfgpdmlkamaa
open Go.RowKit Go.Flw

/-- One of the two: its end, what is on the way from it, what was written to it and read of it. -/
structure Side where
  e : E
  ws : List Pk
  fs : List Pk
  ks : List Ke
  clk : Nat
  way : List Seg
  wrote : ByteArray
  read : ByteArray

/-- Two ends, as they may be. -/
structure PairOk (conn first other limit : Int) (hA hB : Hist) (A B : Side) (now : Int) : Prop where
  sa : Snd first limit hA A.e A.ws A.fs A.wrote.data.toList
  sb : Snd other limit hB B.e B.ws B.fs B.wrote.data.toList
  ra : Rcv other hB A.e A.ks A.read.data.toList
  rb : Rcv first hA B.e B.ks B.read.data.toList
  wa : ∀ s ∈ A.way, Way first conn hA s
  wb : ∀ s ∈ B.way, Way other conn hB s
  nowA : 0 ≤ A.e.now ∧ A.e.now ≤ now
  nowB : 0 ≤ B.e.now ∧ B.e.now ≤ now
  opA : A.e.opener = true
  opB : B.e.opener = false
  cnA : A.e.conn = conn
  cnB : B.e.conn = conn
  cn : 0 ≤ conn ∧ conn ≤ 65535
  bdA : 20 ≤ A.e.body ∧ A.e.body ≤ 1400
  bdB : 20 ≤ B.e.body ∧ B.e.body ≤ 1400
  stA : A.e.state ≠ 0
  stB : B.e.state ≠ 1
  early : A.e.state = 1 → hB = [] ∧ B.e.heard = false ∧ A.e.answer = false ∧ (∀ q ∈ hA, q.1 = 1) ∧ (∀ s ∈ A.way, s.kind = 1 ∨ s.kind = 5) ∧ (∀ s ∈ B.way, s.kind = 3 → s.seq = other % 65536)
  clB : B.e.closing = false
  sum : A.wrote.size + B.wrote.size ≤ 3300

variable {conn first other limit now : Int} {hA hB : Hist} {A B : Side}

/-- A end that never closed: the other one has no end of it. -/
theorem Rcv.not_ended {h : Hist} {e e2 : E} {ks : List Ke} {read wrote : List UInt8} {ws fs : List Pk} (r : Rcv first h e ks read) (s : Snd first limit h e2 ws fs wrote) (hc : e2.closing = false) : e.ended = false := by
  cases he : e.ended with
  | false => rfl
  | true =>
    rcases r.form with f | ⟨k, f⟩
    · rw [f.ended] at he; cases he
    · obtain ⟨q, _, hq, h4⟩ := f.ended he
      have := (s.last _ q (getElem?_mono _ hq) h4).1
      rw [hc] at this; cases this

/-- What was read is a beginning of what was written. -/
theorem Rcv.prefix_ {h : Hist} {e e2 : E} {ks : List Ke} {read wrote : List UInt8} {ws fs : List Pk} (r : Rcv first h e ks read) (s : Snd first limit h e2 ws fs wrote) : ∃ t, read ++ e.ready.data.toList ++ t = wrote := by
  rcases r.form with f | ⟨k, f⟩
  · exact ⟨wrote, by rw [f.read, f.ready]; simp⟩
  · refine ⟨flatH (h.drop k ++ ws.map kb), ?_⟩
    rw [f.cat, ← s.cat, ← flatH_app, ← List.append_assoc, List.take_append_drop]

theorem PairOk.sendA (p : PairOk conn first other limit hA hB A B now) {e' : E} {ws' fs' : List Pk} {ss : List Seg} (h : SendP A.e A.ws A.fs now e' ws' fs' ss) (hn : 0 ≤ now) :
    (∀ s ∈ ss, SegOk s) ∧ ∃ t, PairOk conn first other limit (hA ++ t) hB { A with e := e', ws := ws', fs := fs', way := A.way ++ ss } B now := by
  obtain ⟨t, S, hE, G, T1, T2⟩ := p.sa.send h p.cnA p.cn p.ra.base0 p.ra.base1 p.ra.room1
  refine ⟨fun s hs => (G s hs).1.ok, t, ?_⟩
  refine { p with sa := S, ra := p.ra.sent hE, rb := p.rb.mono t, wa := ?_, nowA := ?_, opA := ?_, cnA := ?_, bdA := ?_, stA := ?_, early := ?_ }
  · intro s hs
    rcases List.mem_append.1 hs with hs | hs
    · exact (p.wa s hs).mono t
    · exact (G s hs).1
  · simp only; rw [hE.now_]; exact ⟨hn, Int.le_refl _⟩
  · exact hE.opener.trans p.opA
  · exact hE.conn.trans p.cnA
  · simp only; rw [hE.body]; exact p.bdA
  · have := hE.state; have := p.stA; simp only; omega
  · intro h1
    have hst : A.e.state = 1 := by have := hE.state; simp only at h1; omega
    obtain ⟨k1, k2, k3, k4, k5, k6⟩ := p.early hst
    have hq : ∀ q ∈ hA ++ t, q.1 = 1 := by
      intro q hq
      rcases List.mem_append.1 hq with hq | hq
      · exact k4 q hq
      · exact T1 hst q hq
    refine ⟨k1, k2, ?_, hq, ?_, k6⟩
    · rcases hE.answer with h | h
      · exact h
      · simp only; rw [h]; exact k3
    · intro s hs
      rcases List.mem_append.1 hs with hs | hs
      · exact k5 s hs
      · rcases (G s hs).2 with h | ⟨_, h, _⟩ | ⟨q, h, hk⟩
        · exact .inr h
        · rw [k3] at h; cases h
        · exact .inl (hk.trans (hq q h))

theorem PairOk.sendB (p : PairOk conn first other limit hA hB A B now) {e' : E} {ws' fs' : List Pk} {ss : List Seg} (h : SendP B.e B.ws B.fs now e' ws' fs' ss) (hn : 0 ≤ now) :
    (∀ s ∈ ss, SegOk s) ∧ ∃ t, PairOk conn first other limit hA (hB ++ t) A { B with e := e', ws := ws', fs := fs', way := B.way ++ ss } now := by
  obtain ⟨t, S, hE, G, T1, T2⟩ := p.sb.send h p.cnB p.cn p.rb.base0 p.rb.base1 p.rb.room1
  refine ⟨fun s hs => (G s hs).1.ok, t, ?_⟩
  refine { p with sb := S, rb := p.rb.sent hE, ra := p.ra.mono t, wb := ?_, nowB := ?_, opB := ?_, cnB := ?_, bdB := ?_, stB := ?_, early := ?_, clB := ?_ }
  · intro s hs
    rcases List.mem_append.1 hs with hs | hs
    · exact (p.wb s hs).mono t
    · exact (G s hs).1
  · simp only; rw [hE.now_]; exact ⟨hn, Int.le_refl _⟩
  · exact hE.opener.trans p.opB
  · exact hE.conn.trans p.cnB
  · simp only; rw [hE.body]; exact p.bdB
  · have := hE.state; have := p.stB; simp only; omega
  · intro h1
    obtain ⟨k1, k2, k3, k4, k5, k6⟩ := p.early h1
    obtain rfl := T2 p.opB k2
    subst k1
    refine ⟨rfl, hE.heard.trans k2, k3, k4, k5, ?_⟩
    intro s hs h3
    rcases List.mem_append.1 hs with hs | hs
    · exact k6 s hs h3
    · rcases (G s hs).2 with h | ⟨_, _, h⟩ | ⟨q, h, hk⟩
      · omega
      · simpa using h
      · simp at h
  · exact hE.closing.trans p.clB

theorem PairOk.takeA (p : PairOk conn first other limit hA hB A B now) {s : Seg} (hs : s ∈ B.way) {e' : E} {fs' : List Pk} {ks' : List Ke} {clk' : Nat} (h : Took A.e A.fs A.ks A.clk s e' fs' ks' clk') :
    PairOk conn first other limit hA hB { A with e := e', fs := fs', ks := ks', clk := clk' } B now := by
  obtain ⟨S, R, T⟩ := took p.sa p.ra p.sb.hok (p.wb s hs) (fun _ => p.stA) (fun h1 h3 => ⟨(p.early h1).1, (p.early h1).2.2.2.2.2 s hs h3⟩) h
  refine { p with sa := S, ra := R, nowA := ?_, opA := ?_, cnA := ?_, bdA := ?_, stA := ?_, early := ?_ }
  · simp only; rw [T.now_]; exact p.nowA
  · exact T.opener.trans p.opA
  · exact T.conn.trans p.cnA
  · simp only; rw [T.body]; exact p.bdA
  · exact fun h => p.stA (T.state0 h)
  · intro h1
    obtain ⟨h2, h3⟩ := T.state1 h1
    obtain ⟨k1, k2, k3, k4, k5, k6⟩ := p.early h2
    exact ⟨k1, k2, h3.trans k3, k4, k5, k6⟩

theorem PairOk.takeB (p : PairOk conn first other limit hA hB A B now) {s : Seg} (hs : s ∈ A.way) {e' : E} {fs' : List Pk} {ks' : List Ke} {clk' : Nat} (h : Took B.e B.fs B.ks B.clk s e' fs' ks' clk') :
    PairOk conn first other limit hA hB A { B with e := e', fs := fs', ks := ks', clk := clk' } now := by
  obtain ⟨S, R, T⟩ := took p.sb p.rb p.sa.hok (p.wa s hs) (fun h => by rw [p.opB] at h; cases h) (fun h1 => absurd h1 p.stB) h
  refine { p with sb := S, rb := R, nowB := ?_, opB := ?_, cnB := ?_, bdB := ?_, stB := ?_, early := ?_, clB := ?_ }
  · simp only; rw [T.now_]; exact p.nowB
  · exact T.opener.trans p.opB
  · exact T.conn.trans p.cnB
  · simp only; rw [T.body]; exact p.bdB
  · exact fun h => p.stB (T.state1 h).1
  · intro h1
    obtain ⟨k1, k2, k3, k4, k5, k6⟩ := p.early h1
    refine ⟨k1, ?_, k3, k4, k5, k6⟩
    have := k5 s hs
    rcases T.heard with h | h | h | h
    · exact h.trans k2
    · omega
    · omega
    · omega
  · exact T.closing.trans p.clB
end Go.Proofs.Ytglbfgpdmlkamaa

namespace Go.Proofs.Ytglbfgpdmlkamaa
open Go.RowKit Go.Flw

theorem nodup_len : ∀ (l m : List Int), l.Nodup → (∀ x ∈ l, x ∈ m) → l.length ≤ m.length
  | [], _, _, _ => by simp
  | a :: l, m, hn, hs => by
    have hn' := List.nodup_cons.1 hn
    have ha := hs a (by simp)
    have := nodup_len l (m.erase a) hn'.2 (fun x hx => by
      have hne : x ≠ a := fun hh => hn'.1 (hh ▸ hx)
      exact (List.mem_erase_of_ne hne).2 (hs x (by simp [hx])))
    rw [List.length_erase_of_mem ha] at this
    have hp : 0 < m.length := List.length_pos_of_mem ha
    simp; omega

variable {first o limit conn now : Int} {h hO : Hist} {e eO : E} {ws fs wsO fsO : List Pk} {ks : List Ke} {wrote wroteO read : List UInt8}

theorem Rcv.klen (r : Rcv o hO e ks read) : ks.length ≤ hO.length := by
  rcases r.form with f | ⟨k, f⟩
  · rw [f.ks]; simp
  · have := nodup_len (ks.map (·.key)) ((List.range hO.length).map fun i : Nat => (o + (i : Int)) % 65536) f.nodup (fun x hx => by
      obtain ⟨y, hy, rfl⟩ := List.mem_map.1 hx
      obtain ⟨i, _, _, h3, h4⟩ := f.kept y hy
      exact List.mem_map.2 ⟨i, List.mem_range.2 (List.getElem?_eq_some_iff.1 h4).1, h3.symm⟩)
    simpa using this

theorem Rcv.kbody (r : Rcv o hO e ks read) (hh : HOk o hO) : ∀ k ∈ ks, k.seg.body.size ≤ 1400 := by
  intro x hx
  rcases r.form with f | ⟨k, f⟩
  · rw [f.ks] at hx; simp at hx
  · obtain ⟨i, _, _, _, h4⟩ := f.kept x hx
    exact (hh.kinds _ (List.mem_of_getElem? h4)).size

theorem Rcv.rsize (r : Rcv o hO e ks read) (s : Snd o limit hO eO wsO fsO wroteO) : e.ready.size ≤ 4000 := by
  obtain ⟨t, ht⟩ := r.prefix_ s
  have := congrArg List.length ht
  have hw := s.wlen
  simp only [List.length_append, Array.length_toList] at this
  have h2 : e.ready.size = e.ready.data.size := rfl
  omega

theorem Snd.fbody (s : Snd first limit h e ws fs wrote) : ∀ p ∈ fs, p.body.size ≤ 1400 := by
  intro p hp
  obtain ⟨i, hi, _⟩ := s.fl p hp
  exact (s.kinds (kb p) (List.mem_append.2 (.inl (List.mem_of_getElem? hi)))).size
theorem Snd.wbody (s : Snd first limit h e ws fs wrote) : ∀ p ∈ ws, p.body.size ≤ 1400 := fun p hp =>
  (s.kinds (kb p) (List.mem_append.2 (.inr (List.mem_map.2 ⟨p, hp, rfl⟩)))).size
theorem Snd.fnum (s : Snd first limit h e ws fs wrote) : ∀ p ∈ fs, 0 ≤ p.number ∧ p.number ≤ 1000000 := by
  intro p hp
  obtain ⟨i, hi, hn⟩ := s.fl p hp
  have := (List.getElem?_eq_some_iff.1 hi).1
  have := s.small; have := s.first0; have := s.first1
  omega

theorem good_of (s : Snd first limit h e ws fs wrote) (r : Rcv o hO e ks read) (s' : Snd o limit hO eO wsO fsO wroteO) (h0 : 0 ≤ now) (h1 : now ≤ 1000000000) : Good { e with now := now } ks ws fs := by
  have := s.small; have := s.first0; have := s.first1; have := s.flen; have := s.next
  have hh := s'.hok
  have := hh.len; have := r.klen
  refine ⟨?_, ?_, ?_, r.kbody hh, by omega, h0, h1, r.late0, r.late1, r.base0, r.base1, ?_, by omega, ?_, fun p hp => (s.fnum p hp).1, ?_, ?_⟩
  · have := r.room0; simp only; omega
  · have := r.room1; simp only; omega
  · have := r.rsize s'; simp only; omega
  · intro x hx
    rcases r.form with f | ⟨k, f⟩
    · rw [f.ks] at hx; simp at hx
    · obtain ⟨i, k1, k2, k3, k4⟩ := f.kept x hx
      have hb := f.base
      have := hh.first0
      have hi := (List.getElem?_eq_some_iff.1 k4).1
      simp only
      rw [k3, hb]
      omega
  · intro p hp
    rcases List.mem_append.1 hp with hp | hp
    · exact s.wbody p hp
    · exact s.fbody p hp
  · simp only; omega
  · simp only; omega

theorem takeOk_of (s : Snd first limit h e ws fs wrote) (r : Rcv o hO e ks read) (s' : Snd o limit hO eO wsO fsO wroteO) : TakeOk e fs ks := by
  have := s.small; have := s.first0; have := s.first1; have := s.flen; have := s.next; have := s.acked0; have := s.acked1
  have hh := s'.hok
  have := hh.len; have := r.klen; have := r.rsize s'; have := r.room0; have := r.room1
  exact ⟨r.base0, r.base1, by omega, by omega, r.kbody hh, by omega, by omega, by omega, s.fbody, by omega, by omega, by omega, s.fnum⟩

theorem Snd.body (s : Snd first limit h e ws fs wrote) (e2 : E) (h1 : e2.next = e.next) (h2 : e2.opener = e.opener) (h3 : e2.closing = e.closing) (h4 : e2.limit = e.limit) (h5 : e2.acked = e.acked) (h6 : e2.outs = e.outs) (h7 : e2.state = 5 ∨ e2.outs ≤ 5) (h8 : e2.out = e.out) :
    Snd first limit h e2 ws fs wrote :=
  ⟨h1 ▸ s.next, s.fl, s.cat, s.kinds, by rw [h2]; exact s.one, by rw [h3]; exact s.last, by rw [h3]; exact s.len, s.wlen, s.flen, by rw [h4]; exact s.fly, h4 ▸ s.lim, h5 ▸ s.acked0, by rw [h5, h1]; exact s.acked1, h6 ▸ s.outs0, h7, h8 ▸ s.out, s.first0, s.first1⟩

/-- Reading. -/
theorem Rcv.readP {c : Int} {t rd : ByteArray} {e' : E} (r : Rcv o hO e ks rd.data.toList) (h : ReadP e t c e') : Rcv o hO e' ks (rd ++ t).data.toList ∧ (c = 0 ∨ c = 8) ∧ ∃ x, e' = { e with ready := x } := by
  rcases h with ⟨rfl, rfl, rfl⟩ | ⟨rfl, rest, rfl, hc⟩
  · exact ⟨by rw [ByteArray.data_append]; simpa using r, .inr rfl, _, rfl⟩
  · refine ⟨⟨r.room0, r.room1, r.base0, r.base1, r.late0, r.late1, ?_⟩, .inl rfl, _, rfl⟩
    rcases r.form with f | ⟨k, f⟩
    · have h0 : t.data.toList ++ rest.data.toList = [] := by rw [hc, f.ready]; simp
      have h1 := List.append_eq_nil_iff.1 h0
      have ht : t = ByteArray.empty := by
        apply ByteArray.ext; apply Array.ext'; rw [h1.1]; simp
      have hr : rest = ByteArray.empty := by
        apply ByteArray.ext; apply Array.ext'; rw [h1.2]; simp
      subst ht hr
      exact .inl ⟨rfl, by rw [ByteArray.data_append]; simpa using f.read, f.ks, f.ended, f.state⟩
    · refine .inr ⟨k, f.le, f.base, ?_, f.kept, f.nodup, f.ended, f.state⟩
      simp only
      rw [← f.cat, ← hc, ByteArray.data_append]
      simp
end Go.Proofs.Ytglbfgpdmlkamaa

namespace Go.Proofs.Ytglbfgpdmlkamaa
open Go.RowKit Go.Flw

variable {conn first other limit now : Int} {hA hB : Hist} {A B : Side}

theorem PairOk.later (p : PairOk conn first other limit hA hB A B now) {n2 : Int} (h : now ≤ n2) : PairOk conn first other limit hA hB A B n2 :=
  { p with nowA := ⟨p.nowA.1, Int.le_trans p.nowA.2 h⟩, nowB := ⟨p.nowB.1, Int.le_trans p.nowB.2 h⟩ }

theorem PairOk.nowSetA (p : PairOk conn first other limit hA hB A B now) (h0 : 0 ≤ now) : PairOk conn first other limit hA hB { A with e := { A.e with now := now } } B now :=
  { p with sa := { p.sa with }, ra := p.ra.cells rfl rfl ⟨p.ra.late0, p.ra.late1⟩ rfl rfl (.inl rfl), nowA := ⟨h0, Int.le_refl _⟩ }
theorem PairOk.nowSetB (p : PairOk conn first other limit hA hB A B now) (h0 : 0 ≤ now) : PairOk conn first other limit hA hB A { B with e := { B.e with now := now } } now :=
  { p with sb := { p.sb with }, rb := p.rb.cells rfl rfl ⟨p.rb.late0, p.rb.late1⟩ rfl rfl (.inl rfl), nowB := ⟨h0, Int.le_refl _⟩ }

theorem PairOk.dropA (p : PairOk conn first other limit hA hB A B now) (n : Nat) : PairOk conn first other limit hA hB { A with way := A.way.drop n } B now :=
  { p with
    wa := fun s hs => p.wa s (List.mem_of_mem_drop hs)
    early := fun h => ⟨(p.early h).1, (p.early h).2.1, (p.early h).2.2.1, (p.early h).2.2.2.1, fun s hs => (p.early h).2.2.2.2.1 s (List.mem_of_mem_drop hs), (p.early h).2.2.2.2.2⟩ }
theorem PairOk.dropB (p : PairOk conn first other limit hA hB A B now) (n : Nat) : PairOk conn first other limit hA hB A { B with way := B.way.drop n } now :=
  { p with
    wb := fun s hs => p.wb s (List.mem_of_mem_drop hs)
    early := fun h => ⟨(p.early h).1, (p.early h).2.1, (p.early h).2.2.1, (p.early h).2.2.2.1, (p.early h).2.2.2.2.1, fun s hs => (p.early h).2.2.2.2.2 s (List.mem_of_mem_drop hs)⟩ }

theorem PairOk.readA (p : PairOk conn first other limit hA hB A B now) {t : ByteArray} {c : Int} {e' : E} (h : ReadP A.e t c e') :
    (c = 0 ∨ c = 8) ∧ PairOk conn first other limit hA hB { A with e := e', read := A.read ++ t } B now := by
  obtain ⟨R, hc, x, rfl⟩ := p.ra.readP h
  exact ⟨hc, { p with sa := { p.sa with }, ra := R }⟩
theorem PairOk.readB (p : PairOk conn first other limit hA hB A B now) {t : ByteArray} {c : Int} {e' : E} (h : ReadP B.e t c e') :
    (c = 0 ∨ c = 8) ∧ PairOk conn first other limit hA hB A { B with e := e', read := B.read ++ t } now := by
  obtain ⟨R, hc, x, rfl⟩ := p.rb.readP h
  exact ⟨hc, { p with sb := { p.sb with }, rb := R }⟩

theorem PairOk.soundA (p : PairOk conn first other limit hA hB A B now) : ∃ t, A.read.data.toList ++ t = B.wrote.data.toList := by
  obtain ⟨t, ht⟩ := p.ra.prefix_ p.sb
  exact ⟨_, by rw [← ht, List.append_assoc]⟩
theorem PairOk.soundB (p : PairOk conn first other limit hA hB A B now) : ∃ t, B.read.data.toList ++ t = A.wrote.data.toList := by
  obtain ⟨t, ht⟩ := p.rb.prefix_ p.sa
  exact ⟨_, by rw [← ht, List.append_assoc]⟩

theorem flat_kb (qs : List Pk) : flatH (qs.map kb) = flat qs := by
  induction qs with
  | nil => rfl
  | cons q l ih => simp only [List.map_cons, flatH, flat, List.flatMap_cons] at *; rw [ih]; rfl

/-- Writing. -/
theorem Snd.write {first limit : Int} {h : Hist} {e : E} {ws fs qs : List Pk} {wrote : List UInt8} {text : ByteArray} (s : Snd first limit h e ws fs wrote) (wv : Value) (hc : e.closing = false) (hd : Datas qs)
    (hf : flat qs ++ ByteArray.empty.data.toList = text.data.toList) (hl : qs.length + ByteArray.empty.size ≤ text.size) (hw : wrote.length + text.size ≤ 4000) :
    Snd first limit h { e with now := now, wv := wv } (ws ++ qs) fs (wrote ++ text.data.toList) := by
  have hq : flatH (qs.map kb) = text.data.toList := by rw [flat_kb, ← hf]; simp
  have hl' : qs.length ≤ text.size := by simpa using hl
  have htl : text.data.toList.length = text.size := by rw [Array.length_toList]; rfl
  have hsz := s.len
  have hm : h ++ (ws ++ qs).map kb = (h ++ ws.map kb) ++ qs.map kb := by simp
  have hk2 : ∀ q ∈ qs.map kb, q.1 = 2 ∧ 1 ≤ q.2.size ∧ q.2.size ≤ 1400 := by
    intro q hq
    obtain ⟨p, hp, rfl⟩ := List.mem_map.1 hq
    obtain ⟨h1, h2, h3⟩ := hd p hp
    refine ⟨?_, h2, h3⟩
    rw [h1]; rfl
  have hidx : ∀ (i : Nat) (q : Int × ByteArray), (h ++ (ws ++ qs).map kb)[i]? = some q → q.1 ≠ 2 → (h ++ ws.map kb)[i]? = some q := by
    intro i q hi hne
    rw [hm] at hi
    by_cases hlt : i < (h ++ ws.map kb).length
    · rwa [List.getElem?_append_left hlt] at hi
    · rw [List.getElem?_append_right (by omega)] at hi
      exact absurd (hk2 q (List.mem_of_getElem? hi)).1 hne
  refine { s with cat := ?_, kinds := ?_, one := ?_, last := ?_, len := ?_, wlen := ?_ }
  · rw [hm, flatH_app, s.cat, hq]
  · rw [hm]
    intro q hq'
    rcases List.mem_append.1 hq' with hq' | hq'
    · exact s.kinds q hq'
    · exact .inl (hk2 q hq')
  · intro i q hi h1
    exact s.one i q (hidx i q hi (by omega)) h1
  · intro i q hi h4
    have := (s.last i q (hidx i q hi (by omega)) h4).1
    rw [hc] at this; cases this
  · simp only [List.length_append, htl]; omega
  · rw [List.length_append, htl]; omega

/-- Closing. -/
theorem Snd.close {first limit : Int} {h : Hist} {e : E} {ws fs : List Pk} {wrote : List UInt8} (s : Snd first limit h e ws fs wrote) (wv : Value) (q : Nat) (hc : e.closing = false) :
    Snd first limit h { e with now := now, closing := true, wv := wv } (ws ++ [fresh q 4 ByteArray.empty]) fs wrote := by
  have hm : h ++ (ws ++ [fresh q 4 ByteArray.empty]).map kb = (h ++ ws.map kb) ++ [(4, ByteArray.empty)] := by simp [kb, fresh]
  have hsz := s.len
  have hidx : ∀ (i : Nat) (x : Int × ByteArray), ((h ++ ws.map kb) ++ [(4, ByteArray.empty)])[i]? = some x → (h ++ ws.map kb)[i]? = some x ∨ (i = (h ++ ws.map kb).length ∧ x = (4, ByteArray.empty)) := by
    intro i x hi
    by_cases hlt : i < (h ++ ws.map kb).length
    · rw [List.getElem?_append_left hlt] at hi; exact .inl hi
    · rw [List.getElem?_append_right (by omega)] at hi
      have hi0 := (List.getElem?_eq_some_iff.1 hi).1
      simp only [List.length_singleton] at hi0
      have : i = (h ++ ws.map kb).length := by omega
      subst this
      simp at hi
      exact .inr ⟨rfl, hi.symm⟩
  refine { s with cat := ?_, kinds := ?_, one := ?_, last := ?_, len := ?_ }
  · rw [hm, flatH_app, s.cat]; simp [flatH]
  · rw [hm]
    intro x hx
    rcases List.mem_append.1 hx with hx | hx
    · exact s.kinds x hx
    · obtain rfl : x = (4, ByteArray.empty) := by simpa using hx
      exact .inr ⟨.inr rfl, rfl⟩
  · rw [hm]
    intro i x hi h1
    rcases hidx i x hi with hi | ⟨_, rfl⟩
    · exact s.one i x hi h1
    · simp at h1
  · rw [hm]
    intro i x hi h4
    refine ⟨rfl, ?_⟩
    rcases hidx i x hi with hi | ⟨hi, _⟩
    · have := (s.last i x hi h4).1
      rw [hc] at this; cases this
    · rw [hi]; simp; omega
  · rw [hc] at hsz
    simp only [List.length_append, List.length_singleton]
    simp at hsz ⊢
    omega

theorem PairOk.writeA (p : PairOk conn first other limit hA hB A B now) {text : ByteArray} {qs : List Pk} (wv : Value) (h0 : 0 ≤ now) (hc : A.e.closing = false) (hd : Datas qs) (hf : flat qs ++ ByteArray.empty.data.toList = text.data.toList)
    (hl : qs.length + ByteArray.empty.size ≤ text.size) (hw : A.wrote.size + B.wrote.size ≤ 3000) (ht : text.size ≤ 300) :
    PairOk conn first other limit hA hB { A with e := { A.e with now := now, wv := wv }, ws := A.ws ++ qs, wrote := A.wrote ++ text } B now := by
  have hwl : A.wrote.data.toList.length = A.wrote.size := by rw [Array.length_toList]; rfl
  refine { p with sa := ?_, ra := p.ra.cells rfl rfl ⟨p.ra.late0, p.ra.late1⟩ rfl rfl (.inl rfl), nowA := ⟨h0, Int.le_refl _⟩, sum := ?_ }
  · have := p.sa.write (now := now) wv hc hd hf hl (by omega)
    simpa [ByteArray.data_append] using this
  · simp only [ByteArray.size_append]; omega
theorem PairOk.writeB (p : PairOk conn first other limit hA hB A B now) {text : ByteArray} {qs : List Pk} (wv : Value) (h0 : 0 ≤ now) (hd : Datas qs) (hf : flat qs ++ ByteArray.empty.data.toList = text.data.toList)
    (hl : qs.length + ByteArray.empty.size ≤ text.size) (hw : A.wrote.size + B.wrote.size ≤ 3000) (ht : text.size ≤ 300) :
    PairOk conn first other limit hA hB A { B with e := { B.e with now := now, wv := wv }, ws := B.ws ++ qs, wrote := B.wrote ++ text } now := by
  have hwl : B.wrote.data.toList.length = B.wrote.size := by rw [Array.length_toList]; rfl
  refine { p with sb := ?_, rb := p.rb.cells rfl rfl ⟨p.rb.late0, p.rb.late1⟩ rfl rfl (.inl rfl), nowB := ⟨h0, Int.le_refl _⟩, sum := ?_ }
  · have := p.sb.write (now := now) wv p.clB hd hf hl (by omega)
    simpa [ByteArray.data_append] using this
  · simp only [ByteArray.size_append]; omega
theorem PairOk.closeA (p : PairOk conn first other limit hA hB A B now) (wv : Value) (q : Nat) (h0 : 0 ≤ now) (hc : A.e.closing = false) :
    PairOk conn first other limit hA hB { A with e := { A.e with now := now, closing := true, wv := wv }, ws := A.ws ++ [fresh q 4 ByteArray.empty] } B now :=
  { p with sa := p.sa.close wv q hc, ra := p.ra.cells rfl rfl ⟨p.ra.late0, p.ra.late1⟩ rfl rfl (.inl rfl), nowA := ⟨h0, Int.le_refl _⟩ }

/-- The ends when they begin. -/
theorem PairOk.begin (room body : Int) (mA mB q : Nat) (wv : Value) (clkA clkB : Nat) (hcn : 0 ≤ conn ∧ conn ≤ 65535) (hf : 0 ≤ first ∧ first ≤ 65535) (ho : 0 ≤ other ∧ other ≤ 65535) (hr : 1400 ≤ room ∧ room ≤ 20000) (hb : 20 ≤ body ∧ body ≤ 1400) :
    PairOk conn first other limit [] []
      ⟨{ newE true conn first room mA with limit := limit, body := body, now := 0, state := 1, wv := wv }, [fresh q 1 ByteArray.empty], [], [], clkA, [], ByteArray.empty, ByteArray.empty⟩
      ⟨{ newE false conn other room mB with limit := limit, body := body }, [], [], [], clkB, [], ByteArray.empty, ByteArray.empty⟩ 0 where
  sa := ⟨by simp [newE], by simp, by simp [flatH, kb, fresh], fun x hx => by
      obtain rfl : x = (1, ByteArray.empty) := by simpa [kb, fresh] using hx
      exact .inr ⟨.inl rfl, rfl⟩, fun i x hi _ => by
      have := (List.getElem?_eq_some_iff.1 hi).1
      simp at this
      exact ⟨this, rfl⟩, fun i x hi h4 => by
      have := List.mem_of_getElem? hi
      obtain rfl : x = (1, ByteArray.empty) := by simpa [kb, fresh] using this
      simp at h4, by simp [newE], by simp, by simp, .inl (by simp [flyN]), rfl, by simp [newE], by simp only [newE]; omega, by simp [newE], .inr (by simp [newE]), rfl, hf.1, hf.2⟩
  sb := ⟨by simp [newE], by simp, by simp [flatH], by simp, by simp, by simp, by simp, by simp, by simp, .inl (by simp [flyN]), rfl, by simp [newE], by simp only [newE]; omega, by simp [newE], .inr (by simp [newE]), rfl, ho.1, ho.2⟩
  ra := ⟨hr.1, hr.2, by simp [newE], by simp [newE], by simp [newE], by simp [newE], .inl ⟨rfl, by simp, rfl, rfl, .inr (.inl rfl)⟩⟩
  rb := ⟨hr.1, hr.2, by simp [newE], by simp [newE], by simp [newE], by simp [newE], .inl ⟨rfl, by simp, rfl, rfl, .inl rfl⟩⟩
  wa := by simp
  wb := by simp
  nowA := ⟨Int.le_refl _, Int.le_refl _⟩
  nowB := ⟨Int.le_refl _, Int.le_refl _⟩
  opA := rfl
  opB := rfl
  cnA := rfl
  cnB := rfl
  cn := hcn
  bdA := hb
  bdB := hb
  stA := by simp
  stB := by simp [newE]
  early := fun _ => ⟨rfl, rfl, rfl, by simp, by simp, by simp⟩
  clB := rfl
  sum := by simp
end Go.Proofs.Ytglbfgpdmlkamaa
