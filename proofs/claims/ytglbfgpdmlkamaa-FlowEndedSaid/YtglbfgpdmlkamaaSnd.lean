/-
  An end beside blocks of others': what a caller keeps while an end goes on, and a slice of packets that grows in a box. No program is named here.
-/
import Derived.Test.YtglbfgpdmlkamaaPop
namespace Go.Flw
open Go.RowKit

/-- The cells of a list of packets. -/
def segCells (ss : List Seg) : List Value := ss.flatMap Seg.cells
theorem segCells_snoc (ss : List Seg) (s : Seg) : segCells (ss ++ [s]) = segCells ss ++ s.cells := by simp [segCells]
/-- A slice of packets. -/
def SSl (w : World) (v : Value) (ss : List Seg) : Prop := Sl w v 70 9 ss.length (segCells ss)

/-- A box with a slice of packets, apart from an end's blocks and others. -/
structure OutAt (N : Nat) (ft bs : List Nat) (ob : Nat) (W : World) (v : Value) (ss : List Seg) : Prop where
  blk : Blk W ob #[v] 33
  sl : SSl W v ss
  ne : ob ∉ slB v
  apart : ∀ x, x = ob ∨ x ∈ slB v → N ≤ x ∧ x ∉ ft ∧ x ∉ bs

theorem OutAt.lt {N : Nat} {ft bs : List Nat} {ob : Nat} {W : World} {v : Value} {ss : List Seg} (h : OutAt N ft bs ob W v ss) : ∀ x, x = ob ∨ x ∈ slB v → x < W.heap.size := by
  rintro x (rfl | hx)
  · exact h.blk.lt
  · exact Sl.lt h.sl x hx

theorem OutAt.chg {N : Nat} {ft bs : List Nat} {ob : Nat} {W W' : World} {v : Value} {ss : List Seg} {S : Nat → Prop} (h : OutAt N ft bs ob W v ss) (hc : Chg S W W') (hs : ∀ x, x = ob ∨ x ∈ slB v → ¬ S x) : OutAt N ft bs ob W' v ss :=
  ⟨h.blk.chg hc (hs ob (.inl rfl)), Sl.chg h.sl hc (fun x hx => hs x (.inr hx)), h.ne, h.apart⟩
theorem OutAt.val {N : Nat} {ft bs : List Nat} {ob : Nat} {W : World} {v v' : Value} {ss : List Seg} (h : OutAt N ft bs ob W v ss) (hb : Blk W ob #[v'] 33) : OutAt N ft bs ob W v' ss := by
  have h1 := h.blk.cell 0 rfl
  have h2 := hb.cell 0 rfl
  rw [h1] at h2
  obtain rfl : v = v' := by simpa using h2
  exact h

/-- An end goes on beside blocks with what lies in them, and a growing slice of packets. -/
structure SI (w0 : World) (b : Nat) (e0 : E) (ws0 fs0 : List Pk) (aux : List (Nat × Obj)) (ob : Nat) (ks : List Ke) (clk : Nat) (e : E) (ws fs : List Pk) (ss : List Seg) (W : World) : Prop where
  went : Went w0 b e0 ws0 fs0 W e ws fs ks clk
  side : ∀ x o, (x, o) ∈ aux → W.heap[x]? = some o ∧ w0.heap.size ≤ x ∧ x ∉ foot b e ws fs
  out : ∃ v, OutAt w0.heap.size (foot b e ws fs) (aux.map (·.1)) ob W v ss

variable {w0 W W' : World} {b : Nat} {e0 e e' : E} {ws0 fs0 ws fs ws' fs' : List Pk} {aux : List (Nat × Obj)} {ob : Nat} {ks : List Ke} {clk : Nat} {ss : List Seg}

theorem SI.is (h : SI w0 b e0 ws0 fs0 aux ob ks clk e ws fs ss W) : EndIs W b e ws fs ks clk := h.went.is

theorem SI.lt (h : SI w0 b e0 ws0 fs0 aux ob ks clk e ws fs ss W) {x : Nat} {o : Obj} (hx : (x, o) ∈ aux) : x < W.heap.size := (Array.getElem?_eq_some_iff.1 (h.side x o hx).1).1

/-- The end goes on. -/
theorem SI.go (h : SI w0 b e0 ws0 fs0 aux ob ks clk e ws fs ss W) (k : Went W b e ws fs W' e' ws' fs' ks clk) : SI w0 b e0 ws0 fs0 aux ob ks clk e' ws' fs' ss W' := by
  have hn : ∀ x, x < W.heap.size → x ∉ foot b e ws fs → x ∉ foot b e' ws' fs' := fun x h1 h2 h3 => by
    rcases k.ft x h3 with h | h
    · exact h2 h
    · omega
  refine ⟨h.went.trans k, fun x o hx => ?_, ?_⟩
  · obtain ⟨h1, h2, h3⟩ := h.side x o hx
    exact ⟨k.chg.at h1 h3, h2, hn x (h.lt hx) h3⟩
  · obtain ⟨v, hv⟩ := h.out
    refine ⟨v, hv.blk.chg k.chg (hv.apart ob (.inl rfl)).2.1, Sl.chg hv.sl k.chg (fun x hx => (hv.apart x (.inr hx)).2.1), hv.ne, fun x hx => ?_⟩
    obtain ⟨h1, h2, h3⟩ := hv.apart x hx
    exact ⟨h1, hn x (hv.lt x hx) h2, h3⟩

/-- Nothing that lay has turned. -/
theorem SI.below (h : SI w0 b e0 ws0 fs0 aux ob ks clk e ws fs ss W) (hb : Below W.heap.size W W') : SI w0 b e0 ws0 fs0 aux ob ks clk e ws fs ss W' := h.go (h.is.below hb)
theorem SI.drew (h : SI w0 b e0 ws0 fs0 aux ob ks clk e ws fs ss W) : SI w0 b e0 ws0 fs0 aux ob ks clk e ws fs ss W.drew := h.below (Below.refl _ W).drew

/-- A new block is kept beside. -/
theorem SI.push (h : SI w0 b e0 ws0 fs0 aux ob ks clk e ws fs ss W) (o : Obj) : SI w0 b e0 ws0 fs0 ((W.heap.size, o) :: aux) ob ks clk e ws fs ss (W.alloc o) := by
  have h1 := h.below ((Below.refl _ W).alloc (Nat.le_refl _) o)
  have hlt : ∀ x ∈ foot b e ws fs, x < W.heap.size := h.is.lt
  refine ⟨h1.went, fun x o' hx => ?_, ?_⟩
  · rcases List.mem_cons.1 hx with hx | hx
    · obtain ⟨rfl, rfl⟩ := Prod.mk.inj hx
      exact ⟨World.alloc_heap_new W _, h.went.chg.size, fun hh => by have := hlt _ hh; omega⟩
    · exact h1.side x o' hx
  · obtain ⟨v, hv⟩ := h.out
    obtain ⟨v', hv'⟩ := h1.out
    refine ⟨v, hv.blk.alloc o, Sl.alloc hv.sl o, hv.ne, fun x hx => ?_⟩
    obtain ⟨h1, h2, h3⟩ := hv.apart x hx
    refine ⟨h1, h2, fun hh => ?_⟩
    rcases List.mem_cons.1 hh with hh | hh
    · have := hv.lt x hx; simp at hh; omega
    · exact h3 hh

/-- A record that is kept beside is written. -/
theorem SI.put {l : Nat} {o : Obj} (h : SI w0 b e0 ws0 fs0 ((l, o) :: aux) ob ks clk e ws fs ss W) (ho : o.isCells = false) (hw : o.isWalk = false) (hl : l ∉ aux.map (·.1)) (o' : Obj) :
    SI w0 b e0 ws0 fs0 ((l, o') :: aux) ob ks clk e ws fs ss (W.putObj l o') := by
  obtain ⟨h1, h2, h3⟩ := h.side l o (List.mem_cons_self ..)
  have hlt := (Array.getElem?_eq_some_iff.1 h1).1
  refine ⟨h.went.putOdd h1 ho hw h2 o', fun x o'' hx => ?_, ?_⟩
  · rcases List.mem_cons.1 hx with hx2 | hx2
    · obtain ⟨rfl, rfl⟩ := Prod.mk.inj hx2
      exact ⟨World.putObj_heap_same hlt, h2, h3⟩
    · obtain ⟨k1, k2, k3⟩ := h.side x o'' (List.mem_cons_of_mem _ hx2)
      refine ⟨(World.putObj_heap_other ?_).trans k1, k2, k3⟩
      exact fun hh => hl (List.mem_map.2 ⟨(_, _), hx2, hh⟩)
  · obtain ⟨v, hv⟩ := h.out
    have hc : Chg (· = l) W (W.putObj l o') := (Chg.refl (· = l) W).putObj (.inl rfl) o'
    refine ⟨v, hv.blk.chg hc ?_, Sl.chg hv.sl hc (fun x hx hh => ?_), hv.ne, hv.apart⟩
    · exact fun hh => (hv.apart ob (.inl rfl)).2.2 (by simp [hh])
    · exact (hv.apart x (.inr hx)).2.2 (by simp [hh])

/-- One more packet. -/
theorem SI.emit {v v' : Value} {s : Seg} (h : SI w0 b e0 ws0 fs0 aux ob ks clk e ws fs ss W) (hv : OutAt w0.heap.size (foot b e ws fs) (aux.map (·.1)) ob W v ss) (hc : Chg (fun x => x = ob ∨ x ∈ slB v) W W')
    (hb : Blk W' ob #[v'] 33) (hs : SSl W' v' (ss ++ [s])) (hn : ∀ x ∈ slB v', x ∈ slB v ∨ W.heap.size ≤ x) : SI w0 b e0 ws0 fs0 aux ob ks clk e ws fs (ss ++ [s]) W' := by
  have hlt : ∀ x ∈ foot b e ws fs, x < W.heap.size := h.is.lt
  have hs0 := h.went.chg.size
  have is' : EndIs W' b e ws fs ks clk := h.is.chg hc fun x hx hh => (hv.apart x hh).2.1 hx
  refine ⟨⟨is', h.went.chg.trans (hc.mono fun x _ hx => .inr (hv.apart x hx).1), fun x hx => h.went.ft x hx⟩, fun x o hx => ?_, v', hb, hs, ?_, ?_⟩
  · obtain ⟨k1, k2, k3⟩ := h.side x o hx
    exact ⟨hc.at k1 fun hh => (hv.apart x hh).2.2 (List.mem_map.2 ⟨(_, _), hx, rfl⟩), k2, k3⟩
  · intro hx
    rcases hn _ hx with hx | hx
    · exact hv.ne hx
    · have := hv.blk.lt; omega
  · rintro x hx
    have : (x = ob ∨ x ∈ slB v) ∨ W.heap.size ≤ x := by
      rcases hx with hx | hx
      · exact .inl (.inl hx)
      · rcases hn _ hx with hx | hx
        · exact .inl (.inr hx)
        · exact .inr hx
    rcases this with hx | hx
    · exact hv.apart x hx
    · refine ⟨by omega, fun hh => by have := hlt x hh; omega, fun hh => ?_⟩
      obtain ⟨⟨y, o⟩, hm, rfl⟩ := List.mem_map.1 hh
      have := h.lt hm
      simp at hx; omega

/-- One more packet, by way of memory: something was done that touches nothing; a block was laid; the slice has grown; it is put into its box. -/
theorem SI.emitted {v v' : Value} {s : Seg} {w3 w5 : World} {o : Obj} (h : SI w0 b e0 ws0 fs0 aux ob ks clk e ws fs ss W) (hv : OutAt w0.heap.size (foot b e ws fs) (aux.map (·.1)) ob W v ss) (hb : Below W.heap.size W w3)
    (hs : Sl w5 v' 70 9 (ss.length + 1) (segCells ss ++ s.cells)) (hc : Chg (· ∈ slB v) (w3.alloc o) w5) (hn : ∀ x ∈ slB v', x ∈ slB v ∨ x = (w3.alloc o).heap.size) :
    Chg (· ∈ slB v) W w5 ∧ SI w0 b e0 ws0 fs0 aux ob ks clk e ws fs (ss ++ [s]) (w5.setCell ⟨ob, 0, none⟩ v') := by
  have hc0 : Chg (· ∈ slB v) W w5 := ((Chg.of_below hb).alloc o).comp hc
  have hsz := hb.size
  have hne : ob ∉ slB v' := fun hx => by
    rcases hn _ hx with hx | hx
    · exact hv.ne hx
    · have := hv.blk.lt; simp at hx; omega
  refine ⟨hc0, h.emit hv (v' := v') ((hc0.mono fun _ _ h => .inr h).setCell (p := ⟨ob, 0, none⟩) (.inl (.inl rfl)) v') ((hv.blk.chg hc0 hv.ne).set 0 v') ?_ fun x hx => ?_⟩
  · have h1 := Sl.chg hs ((Chg.refl (· = ob) w5).setCell (p := ⟨ob, 0, none⟩) (.inl rfl) v') (fun x hx hh => hne (hh ▸ hx))
    have e1 : (ss ++ [s]).length = ss.length + 1 := by simp
    rw [SSl, e1, segCells_snoc]
    exact h1
  · rcases hn _ hx with hx | hx
    · exact .inl hx
    · exact .inr (by simp at hx; omega)
/-- What is read beside, as long as only the slice's own block has turned. -/
theorem SI.read {v : Value} (h : SI w0 b e0 ws0 fs0 aux ob ks clk e ws fs ss W) (hv : OutAt w0.heap.size (foot b e ws fs) (aux.map (·.1)) ob W v ss) (hc : Chg (· ∈ slB v) W W') :
    W'.cell? ⟨ob, 0, none⟩ = some v ∧ (∀ x cs T, (x, Obj.cells cs T (0, 0)) ∈ aux → Blk W' x cs T) ∧ Blk W' b e.enc 61 ∧ ∀ p ∈ ws ++ fs, Blk W' p.blk p.enc 64 := by
  refine ⟨(hv.blk.chg hc hv.ne).cell 0 rfl, fun x cs T hx => ?_, h.is.blk.chg hc fun hh => (hv.apart b (.inr hh)).2.1 (foot_iff.2 (.inl rfl)), fun p hp => (h.is.pks p hp).chg hc fun hh => ?_⟩
  · exact Blk.chg (w := W) (h.side x _ hx).1 hc fun hh => (hv.apart x (.inr hh)).2.2 (List.mem_map.2 ⟨(_, _), hx, rfl⟩)
  · exact (hv.apart _ (.inr hh)).2.1 (foot_iff.2 (.inr (.inr (.inr (.inr (List.mem_map.2 ⟨p, hp, rfl⟩))))))
theorem new_cells {W : World} {c : Array Value} {t : TypeId} {k : Nat} (hk : W.heap.size = k) : ∀ (j : Nat) (u : Value), c.toList[j]? = some u → (W.alloc (.cells c t)).cell? (Addr.add ⟨k, 0, none⟩ j) = some u := by
  intro j u hu
  subst hk
  have := World.cell?_alloc_new W c t j
  rw [Addr.add_lit, Nat.zero_add, this]
  simpa using hu
theorem seg_one (s : Seg) : ∀ u ∈ s.cells, u.oneCell' = true := by
  intro u hu
  simp only [Seg.cells, List.mem_cons, List.not_mem_nil, or_false] at hu
  rcases hu with rfl | rfl | rfl | rfl | rfl | rfl | rfl | rfl | rfl <;> rfl
end Go.Flw
