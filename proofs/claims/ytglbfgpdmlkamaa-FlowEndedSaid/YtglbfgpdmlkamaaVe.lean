/-
  The walk of acknowledge.
-/
import Derived.Test.YtglbfgpdmlkamaaVc
import Derived.Test.YtglbfgpdmlkamaaVd
import Derived.Deep.DeepCutAuto
namespace Go.Proofs.Ytglbfgpdmlkamaa
open Go.RowKit Go.Flw Go.Shelf
attribute [local go_sem] Oper.semAt_some
attribute [local simp] wide_fn

variable {b : Nat} {e e' : E} {ws fs ws' fs' : List Pk} {ks : List Ke} {clk : Nat}

/-- An end goes on beside blocks with what lies in them. -/
structure SD (w0 : World) (b : Nat) (e0 : E) (ws0 fs0 : List Pk) (aux : List (Nat × Obj)) (ks : List Ke) (clk : Nat) (e : E) (ws fs : List Pk) (W : World) : Prop where
  went : Went w0 b e0 ws0 fs0 W e ws fs ks clk
  side : ∀ x o, (x, o) ∈ aux → W.heap[x]? = some o ∧ w0.heap.size ≤ x ∧ x ∉ foot b e ws fs

variable {w0 W W' : World} {e0 : E} {ws0 fs0 : List Pk} {aux : List (Nat × Obj)}

theorem SD.is (h : SD w0 b e0 ws0 fs0 aux ks clk e ws fs W) : EndIs W b e ws fs ks clk := h.went.is
theorem SD.lt (h : SD w0 b e0 ws0 fs0 aux ks clk e ws fs W) {x : Nat} {o : Obj} (hx : (x, o) ∈ aux) : x < W.heap.size := (Array.getElem?_eq_some_iff.1 (h.side x o hx).1).1
theorem SD.go (h : SD w0 b e0 ws0 fs0 aux ks clk e ws fs W) (k : Went W b e ws fs W' e' ws' fs' ks clk) : SD w0 b e0 ws0 fs0 aux ks clk e' ws' fs' W' := by
  refine ⟨h.went.trans k, fun x o hx => ?_⟩
  obtain ⟨h1, h2, h3⟩ := h.side x o hx
  refine ⟨k.chg.at h1 h3, h2, fun hh => ?_⟩
  rcases k.ft x hh with hh | hh
  · exact h3 hh
  · have := h.lt hx; omega
theorem SD.below (h : SD w0 b e0 ws0 fs0 aux ks clk e ws fs W) (hb : Below W.heap.size W W') : SD w0 b e0 ws0 fs0 aux ks clk e ws fs W' := h.go (h.is.below hb)
theorem SD.drew (h : SD w0 b e0 ws0 fs0 aux ks clk e ws fs W) : SD w0 b e0 ws0 fs0 aux ks clk e ws fs W.drew := h.below (Below.refl _ W).drew
theorem SD.drewN (h : SD w0 b e0 ws0 fs0 aux ks clk e ws fs W) (n : Nat) : SD w0 b e0 ws0 fs0 aux ks clk e ws fs (W.drewN n) := h.below (belowDrewN (Below.refl _ W) n)
theorem SD.push (h : SD w0 b e0 ws0 fs0 aux ks clk e ws fs W) (o : Obj) : SD w0 b e0 ws0 fs0 ((W.heap.size, o) :: aux) ks clk e ws fs (W.alloc o) := by
  have h1 := h.below ((Below.refl _ W).alloc (Nat.le_refl _) o)
  have hlt : ∀ x ∈ foot b e ws fs, x < W.heap.size := h.is.lt
  refine ⟨h1.went, fun x o' hx => ?_⟩
  rcases List.mem_cons.1 hx with hx | hx
  · obtain ⟨rfl, rfl⟩ := Prod.mk.inj hx
    exact ⟨World.alloc_heap_new W _, h.went.chg.size, fun hh => by have := hlt _ hh; omega⟩
  · exact h1.side x o' hx
theorem SD.put {l : Nat} {o : Obj} (h : SD w0 b e0 ws0 fs0 ((l, o) :: aux) ks clk e ws fs W) (ho : o.isCells = false) (hw : o.isWalk = false) (hl : l ∉ aux.map (·.1)) (o' : Obj) :
    SD w0 b e0 ws0 fs0 ((l, o') :: aux) ks clk e ws fs (W.putObj l o') := by
  obtain ⟨h1, h2, h3⟩ := h.side l o (List.mem_cons_self ..)
  have hlt := (Array.getElem?_eq_some_iff.1 h1).1
  refine ⟨h.went.putOdd h1 ho hw h2 o', fun x o'' hx => ?_⟩
  rcases List.mem_cons.1 hx with hx2 | hx2
  · obtain ⟨rfl, rfl⟩ := Prod.mk.inj hx2
    exact ⟨World.putObj_heap_same hlt, h2, h3⟩
  · obtain ⟨k1, k2, k3⟩ := h.side x o'' (List.mem_cons_of_mem _ hx2)
    exact ⟨(World.putObj_heap_other (fun hh => hl (List.mem_map.2 ⟨(_, _), hx2, hh⟩))).trans k1, k2, k3⟩
theorem EndIs.sd (h : EndIs W b e ws fs ks clk) : SD W b e ws fs [] ks clk e ws fs W := ⟨h.refl, fun x o hx => by simp at hx⟩
theorem SD.cell {x : Nat} {cs : Array Value} {T : TypeId} (h : SD w0 b e0 ws0 fs0 aux ks clk e ws fs W) (hx : (x, Obj.cells cs T (0, 0)) ∈ aux) : Blk W x cs T := (h.side x _ hx).1

theorem range_named {n : Nat} {g : Operand} {q : Tmp} {assign body : Code} {Q : Exit → Act → World → Prop} {ac : Act} {w : World} {bx : Nat} (m : ByteArray) (R : E → List Pk → Prop)
    (hg : ac.eval g = .func (.func 68) #[] #[.pointer (some ⟨bx, 0, none⟩)]) (hm : m.size ≤ 4)
    (hI : SD w0 b e0 ws0 fs0 aux ks clk e ws fs w) (hR : R e fs) (hbx : (bx, Obj.cells #[.string m] 9 (0, 0)) ∈ aux) (a₁ : Nat → Act)
    (hassign : ∀ (l i : Nat) (W : World) (K : Act → World → Prop), K (a₁ i) W →
      assign.wpIn (Fence.wide.inRound l) (n - 1 - 1) Try.prog (Exit.then K (fun _ _ _ => False)) { tmps := ac.tmps.setIfInBounds q (vi ((i : Int) + 2)), defers := [] } W)
    (hbody : ∀ (l : Nat) (o : Obj) (i : Nat) e1 fs1 W, i < 32 → SD w0 b e0 ws0 fs0 ((l, o) :: (w.heap.size, .deferred (some [])) :: aux) ks clk e1 ws fs1 W → R e1 fs1 →
      body.wpIn (Fence.wide.inRound l) (n - 1 - 1) Try.prog (fun x _ W3 => x = .normal ∧ ∃ e2 fs2, SD w0 b e0 ws0 fs0 ((l, o) :: (w.heap.size, .deferred (some [])) :: aux) ks clk e2 ws fs2 W3 ∧ R e2 fs2) (a₁ i) W)
    (hQ : ∀ l o e1 fs1 W, SD w0 b e0 ws0 fs0 ((l, o) :: (w.heap.size, .deferred (some [])) :: aux) ks clk e1 ws fs1 W → R e1 fs1 → Q .normal { ac with defers := { target := .collected w.heap.size, args := #[] } :: ac.defers } W) :
    (Code.rangeFunc g #[q] assign body).wpIn Fence.wide n Try.prog Q ac w := by
  refine wide_rangeFunc hg (fun args w => by exact enters_of Try.func68 (by kernel_rfl) rfl args w)
    (fun W' W'' => ∃ l o e1 fs1, SD w0 b e0 ws0 fs0 ((l, o) :: (w.heap.size, .deferred (some [])) :: aux) ks clk e1 ws fs1 W'' ∧ R e1 fs1) ?_
    (fun W' W'' h hd => by obtain ⟨l, o, e1, fs1, h1, h2⟩ := h; exact hQ l o e1 fs1 W'' h1 h2)
  intro fn
  obtain ⟨W1, hW1⟩ : ∃ W1, (w.alloc (.deferred (some []))).alloc (loopRec fn ac.tmps #[q] assign body w.heap.size .ready) = W1 := ⟨_, rfl⟩
  rw [hW1]
  have hI1 : SD w0 b e0 ws0 fs0 ((w.heap.size + 1, loopRec fn ac.tmps #[q] assign body w.heap.size .ready) :: (w.heap.size, .deferred (some [])) :: aux) ks clk e ws fs W1 := by
    have := (hI.push (.deferred (some []))).push (loopRec fn ac.tmps #[q] assign body w.heap.size .ready)
    rw [World.size_alloc] at this
    rw [← hW1]; exact this
  have hl : w.heap.size + 1 ∉ ((w.heap.size, Obj.deferred (some [])) :: aux).map (·.1) := by
    intro hh
    rcases List.mem_cons.1 hh with hh | hh
    · simp at hh
    · obtain ⟨⟨x, o⟩, hm, hx⟩ := List.mem_map.1 hh
      have := hI.lt hm
      simp at hx; omega
  have hcell : ∀ st e1 fs1 W, SD w0 b e0 ws0 fs0 ((w.heap.size + 1, loopRec fn ac.tmps #[q] assign body w.heap.size st) :: (w.heap.size, .deferred (some [])) :: aux) ks clk e1 ws fs1 W → W.heap[w.heap.size + 1]? = some (loopRec fn ac.tmps #[q] assign body w.heap.size st) ∧ W.heap[w.heap.size]? = some (.deferred (some [])) := fun st e1 fs1 W h =>
    ⟨(h.side _ _ (by simp)).1, (h.side _ _ (by simp)).1⟩
  refine (named1_in (n - 1) (w.heap.size + 1) bx m
    (fun W => ∃ e1 fs1, SD w0 b e0 ws0 fs0 ((w.heap.size + 1, loopRec fn ac.tmps #[q] assign body w.heap.size .ready) :: (w.heap.size, .deferred (some [])) :: aux) ks clk e1 ws fs1 W ∧ R e1 fs1)
    W1 hm (fun W ⟨e1, fs1, h, _⟩ => Blk.cell (h.side _ _ (List.mem_cons_of_mem _ (List.mem_cons_of_mem _ hbx))).1 0 rfl) ?_ ⟨e, fs, hI1, hR⟩).mono ?_
  · rintro i W hi ⟨e1, fs1, h, hr⟩
    have hL := hcell _ _ _ _ h
    refine wide_yield (n := n - 1) hL.1 rfl (a₁ i) (ac.tmps.setIfInBounds q (vi ((i : Int) + 2))) (by simp) (fun K hK => hassign _ _ W K hK)
      (R := fun W' => ∃ e2 fs2, SD w0 b e0 ws0 fs0 ((w.heap.size + 1, loopRec fn ac.tmps #[q] assign body w.heap.size .ready) :: (w.heap.size, .deferred (some [])) :: aux) ks clk e2 ws fs2 W' ∧ R e2 fs2) ?_
    have hb := h.put rfl rfl hl (loopRec fn ac.tmps #[q] assign body w.heap.size .busy)
    refine wpIn_mono (hbody _ _ _ _ _ _ hi hb hr) ?_
    rintro x a3 W3 ⟨rfl, e2, fs2, h3, hr3⟩
    exact ⟨rfl, (hcell _ _ _ _ h3).1, e2, fs2, h3.put rfl rfl hl _, hr3⟩
  · rintro r W' ⟨hv, e1, fs1, h, hr⟩
    have hL := hcell _ _ _ _ h
    exact ⟨hv, ⟨hL.1, hL.2, by omega⟩, _, _, _, _, h.put rfl rfl hl _, hr⟩
end Go.Proofs.Ytglbfgpdmlkamaa
