/-
  The pair in memory. The walks of fate and sound.
-/
import Derived.Test.YtglbfgpdmlkamaaPlan
import Derived.Test.YtglbfgpdmlkamaaVn
import Derived.Test.YtglbfgpdmlkamaaWl
namespace Go.Proofs.Ytglbfgpdmlkamaa
open Go.RowKit Go.Flw

def pairCells (bA bB : Nat) (vA vB : Value) (A B : Side) (now at_ : Int) : Array Value :=
  #[.pointer (some ⟨bA, 0, none⟩), .pointer (some ⟨bB, 0, none⟩), vA, vB, .string A.wrote, .string B.wrote, .string A.read, .string B.read, vi now, .slice none 0 0, vi at_]

def Side.foot (b : Nat) (A : Side) : List Nat := Go.Flw.foot b A.e A.ws A.fs

/-- The pair lies in memory: its own block, both ends, both lists of packets on the way; all apart. -/
structure PairAt (w0 W : World) (pb bA bB : Nat) (vA vB : Value) (A B : Side) (now at_ : Int) : Prop where
  blk : Blk W pb (pairCells bA bB vA vB A B now at_) 38
  ea : EndIs W bA A.e A.ws A.fs A.ks A.clk
  eb : EndIs W bB B.e B.ws B.fs B.ks B.clk
  wa : SSl W vA A.way
  wb : SSl W vB B.way
  d1 : ∀ x ∈ A.foot bA, x ≠ pb ∧ x ∉ B.foot bB ∧ x ∉ slB vA ∧ x ∉ slB vB
  d2 : ∀ x ∈ B.foot bB, x ≠ pb ∧ x ∉ slB vA ∧ x ∉ slB vB
  d3 : ∀ x ∈ slB vA, x ≠ pb ∧ x ∉ slB vB
  d4 : ∀ x ∈ slB vB, x ≠ pb
  bel : Below w0.heap.size w0 W
  lp : w0.heap.size ≤ pb
  lA : ∀ x ∈ A.foot bA, w0.heap.size ≤ x
  lB : ∀ x ∈ B.foot bB, w0.heap.size ≤ x
  lvA : ∀ x ∈ slB vA, w0.heap.size ≤ x
  lvB : ∀ x ∈ slB vB, w0.heap.size ≤ x

variable {w0 W W' : World} {pb bA bB : Nat} {vA vB : Value} {A B : Side} {now at_ : Int}

theorem PairAt.ltA (p : PairAt w0 W pb bA bB vA vB A B now at_) : ∀ x ∈ A.foot bA, x < W.heap.size := p.ea.lt
theorem PairAt.ltB (p : PairAt w0 W pb bA bB vA vB A B now at_) : ∀ x ∈ B.foot bB, x < W.heap.size := p.eb.lt
theorem PairAt.ltvA (p : PairAt w0 W pb bA bB vA vB A B now at_) : ∀ x ∈ slB vA, x < W.heap.size := Sl.lt p.wa
theorem PairAt.ltvB (p : PairAt w0 W pb bA bB vA vB A B now at_) : ∀ x ∈ slB vB, x < W.heap.size := Sl.lt p.wb

/-- The first end goes on. -/
theorem PairAt.goA (p : PairAt w0 W pb bA bB vA vB A B now at_) {e' : E} {ws' fs' : List Pk} {ks' : List Ke} {clk' : Nat} (k : Went W bA A.e A.ws A.fs W' e' ws' fs' ks' clk') :
    PairAt w0 W' pb bA bB vA vB { A with e := e', ws := ws', fs := fs', ks := ks', clk := clk' } B now at_ := by
  have hpb := p.blk.lt
  have h1 : ∀ x, x ∈ Go.Flw.foot bA e' ws' fs' → x ∈ A.foot bA ∨ W.heap.size ≤ x := k.ft
  refine ⟨p.blk.chg k.chg (fun hh => (p.d1 _ hh).1 rfl), k.is, p.eb.chg k.chg (fun x hx hh => (p.d1 x hh).2.1 hx), Sl.chg p.wa k.chg (fun x hx hh => (p.d1 x hh).2.2.1 hx), Sl.chg p.wb k.chg (fun x hx hh => (p.d1 x hh).2.2.2 hx), ?_, p.d2, p.d3, p.d4, p.bel.trans (k.chg.below p.bel.size p.lA), p.lp, fun x hx => (h1 x hx).elim (p.lA x) (fun h => Nat.le_trans p.bel.size h), p.lB, p.lvA, p.lvB⟩
  intro x hx
  rcases h1 x hx with h | h
  · exact p.d1 x h
  · exact ⟨by omega, fun hh => by have := p.ltB x hh; omega, fun hh => by have := p.ltvA x hh; omega, fun hh => by have := p.ltvB x hh; omega⟩

/-- The second end goes on. -/
theorem PairAt.goB (p : PairAt w0 W pb bA bB vA vB A B now at_) {e' : E} {ws' fs' : List Pk} {ks' : List Ke} {clk' : Nat} (k : Went W bB B.e B.ws B.fs W' e' ws' fs' ks' clk') :
    PairAt w0 W' pb bA bB vA vB A { B with e := e', ws := ws', fs := fs', ks := ks', clk := clk' } now at_ := by
  have hpb := p.blk.lt
  have h1 : ∀ x, x ∈ Go.Flw.foot bB e' ws' fs' → x ∈ B.foot bB ∨ W.heap.size ≤ x := k.ft
  refine ⟨p.blk.chg k.chg (fun hh => (p.d2 _ hh).1 rfl), p.ea.chg k.chg (fun x hx hh => (p.d1 x hx).2.1 hh), k.is, Sl.chg p.wa k.chg (fun x hx hh => (p.d2 x hh).2.1 hx), Sl.chg p.wb k.chg (fun x hx hh => (p.d2 x hh).2.2 hx), ?_, ?_, p.d3, p.d4, p.bel.trans (k.chg.below p.bel.size p.lB), p.lp, p.lA, fun x hx => (h1 x hx).elim (p.lB x) (fun h => Nat.le_trans p.bel.size h), p.lvA, p.lvB⟩
  · intro x hx
    obtain ⟨q1, q2, q3, q4⟩ := p.d1 x hx
    refine ⟨q1, fun hh => ?_, q3, q4⟩
    rcases h1 x hh with h | h
    · exact q2 h
    · have := p.ltA x hx; omega
  · intro x hx
    rcases h1 x hx with h | h
    · exact p.d2 x h
    · exact ⟨by omega, fun hh => by have := p.ltvA x hh; omega, fun hh => by have := p.ltvB x hh; omega⟩

/-- Nothing that lay has turned. -/
theorem PairAt.below (p : PairAt w0 W pb bA bB vA vB A B now at_) (hb : Below W.heap.size W W') : PairAt w0 W' pb bA bB vA vB A B now at_ := p.goA (p.ea.below hb)

/-- The own block is written: the texts, the time, the counter. -/
theorem PairAt.own (p : PairAt w0 W pb bA bB vA vB A B now at_) {n2 a2 : Int} {w1 w2 r1 r2 : ByteArray} (hc : Chg (· = pb) W W')
    (hb : Blk W' pb (pairCells bA bB vA vB { A with wrote := w1, read := r1 } { B with wrote := w2, read := r2 } n2 a2) 38) :
    PairAt w0 W' pb bA bB vA vB { A with wrote := w1, read := r1 } { B with wrote := w2, read := r2 } n2 a2 :=
  ⟨hb, p.ea.chg hc (fun x hx hh => (p.d1 x hx).1 hh), p.eb.chg hc (fun x hx hh => (p.d2 x hx).1 hh), Sl.chg p.wa hc (fun x hx hh => (p.d3 x hx).1 hh), Sl.chg p.wb hc (fun x hx hh => p.d4 x hx hh), p.d1, p.d2, p.d3, p.d4, p.bel.trans (hc.below p.bel.size (fun _ hx => hx ▸ p.lp)), p.lp, p.lA, p.lB, p.lvA, p.lvB⟩

/-- The first list of packets is another one, in its own block or a new one. -/
theorem PairAt.wayA (p : PairAt w0 W pb bA bB vA vB A B now at_) {v' : Value} {l : List Seg} (hc : Chg (fun x => x = pb ∨ x ∈ slB vA) W W') (hs : SSl W' v' l) (hn : ∀ x ∈ slB v', x ∈ slB vA ∨ W.heap.size ≤ x)
    (hb : Blk W' pb (pairCells bA bB v' vB A B now at_) 38) : PairAt w0 W' pb bA bB v' vB { A with way := l } B now at_ := by
  have hpb := p.blk.lt
  refine ⟨hb, p.ea.chg hc ?_, p.eb.chg hc ?_, hs, Sl.chg p.wb hc ?_, ?_, ?_, ?_, p.d4, p.bel.trans (hc.below p.bel.size (fun x hx => hx.elim (fun h => h ▸ p.lp) (p.lvA x))), p.lp, p.lA, p.lB, fun x hx => (hn x hx).elim (p.lvA x) (fun h => Nat.le_trans p.bel.size h), p.lvB⟩
  · rintro x hx (hh | hh)
    · exact (p.d1 x hx).1 hh
    · exact (p.d1 x hx).2.2.1 hh
  · rintro x hx (hh | hh)
    · exact (p.d2 x hx).1 hh
    · exact (p.d2 x hx).2.1 hh
  · rintro x hx (hh | hh)
    · exact p.d4 x hx hh
    · exact (p.d3 x hh).2 hx
  · intro x hx
    obtain ⟨q1, q2, q3, q4⟩ := p.d1 x hx
    refine ⟨q1, q2, fun hh => ?_, q4⟩
    rcases hn x hh with h | h
    · exact q3 h
    · have := p.ltA x hx; omega
  · intro x hx
    obtain ⟨q1, q2, q3⟩ := p.d2 x hx
    refine ⟨q1, fun hh => ?_, q3⟩
    rcases hn x hh with h | h
    · exact q2 h
    · have := p.ltB x hx; omega
  · intro x hx
    rcases hn x hx with h | h
    · exact p.d3 x h
    · exact ⟨by omega, fun hh => by have := p.ltvB x hh; omega⟩

theorem PairAt.wayB (p : PairAt w0 W pb bA bB vA vB A B now at_) {v' : Value} {l : List Seg} (hc : Chg (fun x => x = pb ∨ x ∈ slB vB) W W') (hs : SSl W' v' l) (hn : ∀ x ∈ slB v', x ∈ slB vB ∨ W.heap.size ≤ x)
    (hb : Blk W' pb (pairCells bA bB vA v' A B now at_) 38) : PairAt w0 W' pb bA bB vA v' A { B with way := l } now at_ := by
  have hpb := p.blk.lt
  refine ⟨hb, p.ea.chg hc ?_, p.eb.chg hc ?_, Sl.chg p.wa hc ?_, hs, ?_, ?_, ?_, ?_, p.bel.trans (hc.below p.bel.size (fun x hx => hx.elim (fun h => h ▸ p.lp) (p.lvB x))), p.lp, p.lA, p.lB, p.lvA, fun x hx => (hn x hx).elim (p.lvB x) (fun h => Nat.le_trans p.bel.size h)⟩
  · rintro x hx (hh | hh)
    · exact (p.d1 x hx).1 hh
    · exact (p.d1 x hx).2.2.2 hh
  · rintro x hx (hh | hh)
    · exact (p.d2 x hx).1 hh
    · exact (p.d2 x hx).2.2 hh
  · rintro x hx (hh | hh)
    · exact (p.d3 x hx).1 hh
    · exact (p.d3 x hx).2 hh
  · intro x hx
    obtain ⟨q1, q2, q3, q4⟩ := p.d1 x hx
    refine ⟨q1, q2, q3, fun hh => ?_⟩
    rcases hn x hh with h | h
    · exact q4 h
    · have := p.ltA x hx; omega
  · intro x hx
    obtain ⟨q1, q2, q3⟩ := p.d2 x hx
    refine ⟨q1, q2, fun hh => ?_⟩
    rcases hn x hh with h | h
    · exact q3 h
    · have := p.ltB x hx; omega
  · intro x hx
    obtain ⟨q1, q2⟩ := p.d3 x hx
    refine ⟨q1, fun hh => ?_⟩
    rcases hn x hh with h | h
    · exact q2 h
    · have := p.ltvA x hx; omega
  · intro x hx
    rcases hn x hx with h | h
    · exact p.d4 x h
    · omega
end Go.Proofs.Ytglbfgpdmlkamaa

namespace Go.Proofs.Ytglbfgpdmlkamaa
open Go.RowKit Go.Flw

variable {pb bA bB : Nat} {vA vB : Value} {A B : Side} {now at_ : Int}

set_option maxHeartbeats 800000 in
theorem fate_calls (w : World) (h : Blk w pb (pairCells bA bB vA vB A B now at_) 38) (h0 : 0 ≤ at_) (h1 : at_ ≤ 1000000000) :
    Calls Try.prog 24 #[.pointer (some ⟨pb, 0, none⟩)] w fun r w' => r = .returned (vi 1) ∧ Blk w' pb (pairCells bA bB vA vB A B now (at_ + 1)) 38 ∧ Chg (· = pb) w w' := by
  have c1 : w.cell? ⟨pb, 10, none⟩ = some (vi at_) := h.cell 10 rfl
  have c2 : w.cell? ⟨pb, 9, none⟩ = some (.slice none 0 0) := h.cell 9 rfl
  have f1 := h.frozen 10
  have hw : IntKind.i64.wrap (at_ + 1) = at_ + 1 := IntWalk.i64_in _ (by omega)
  go_enter Try.func24, Try.ntmps24
  go_upto_region 2 with (fail)
  go_quiet (fail)
  go_wp2_with (fail)
  go_ret
  exact ⟨rfl, h.set 10 _, ((Chg.refl (· = pb) w).setCell (p := ⟨pb, 10, none⟩) (.inl rfl) _).drewN _⟩

theorem cut_prefix {r t : ByteArray} (h : ∃ l, r.data.toList ++ l = t.data.toList) : t.extract 0 r.size = r := by
  obtain ⟨l, hl⟩ := h
  apply ByteArray.ext
  apply Array.ext'
  have h1 : (t.extract 0 r.size).data.toList = t.data.toList.take r.size := by simp
  have h2 : r.size = r.data.toList.length := by rw [Array.length_toList]; rfl
  rw [h1, ← hl, h2, List.take_left]

def SoundR (w : World) (r : Ending) (w' : World) : Prop := r = .returned (.bool true) ∧ ∃ n, w' = w.drewN n

set_option maxHeartbeats 800000 in
theorem sound0_calls (w : World) (h : Blk w pb (pairCells bA bB vA vB A B now at_) 38) (hs : ∃ t, A.read.data.toList ++ t = B.wrote.data.toList) : Calls Try.prog 27 #[.pointer (some ⟨pb, 0, none⟩), vi 0] w (SoundR w) := by
  have c1 : w.cell? ⟨pb, 6, none⟩ = some (.string A.read) := h.cell 6 rfl
  have c2 : w.cell? ⟨pb, 5, none⟩ = some (.string B.wrote) := h.cell 5 rfl
  have hle : A.read.size ≤ B.wrote.size := by
    obtain ⟨t, ht⟩ := hs
    have := congrArg List.length ht
    simp only [List.length_append, Array.length_toList] at this
    have h1 : A.read.size = A.read.data.size := rfl
    have h2 : B.wrote.size = B.wrote.data.size := rfl
    omega
  go_enter Try.func27, Try.ntmps27
  go_upto_region 2 with (fail)
  go_quiet (fail)
  go_wp2_with (fail)
  go_ret
  refine ⟨?_, _, rfl⟩
  have hq : ((B.wrote.extract 0 A.read.size).toList == A.read.toList) = true := by rw [cut_prefix hs]; simp
  show Ending.returned (.bool _) = _
  rw [hq]

set_option maxHeartbeats 800000 in
theorem sound1_calls (w : World) (h : Blk w pb (pairCells bA bB vA vB A B now at_) 38) (hs : ∃ t, B.read.data.toList ++ t = A.wrote.data.toList) : Calls Try.prog 27 #[.pointer (some ⟨pb, 0, none⟩), vi 1] w (SoundR w) := by
  have c1 : w.cell? ⟨pb, 7, none⟩ = some (.string B.read) := h.cell 7 rfl
  have c2 : w.cell? ⟨pb, 4, none⟩ = some (.string A.wrote) := h.cell 4 rfl
  have hle : B.read.size ≤ A.wrote.size := by
    obtain ⟨t, ht⟩ := hs
    have := congrArg List.length ht
    simp only [List.length_append, Array.length_toList] at this
    have h1 : B.read.size = B.read.data.size := rfl
    have h2 : A.wrote.size = A.wrote.data.size := rfl
    omega
  go_enter Try.func27, Try.ntmps27
  go_upto_region 2 with (fail)
  go_quiet (fail)
  go_wp2_with (fail)
  go_ret
  refine ⟨?_, _, rfl⟩
  have hq : ((A.wrote.extract 0 B.read.size).toList == B.read.toList) = true := by rw [cut_prefix hs]; simp
  show Ending.returned (.bool _) = _
  rw [hq]

end Go.Proofs.Ytglbfgpdmlkamaa
