/-
  A range over what is due, each round of which goes on.
-/
import Derived.Test.YtglbfgpdmlkamaaDue
import Derived.Test.YtglbfgpdmlkamaaSnd
namespace Go.Proofs.Ytglbfgpdmlkamaa
open Go.RowKit Go.Flw Go.Shelf
attribute [local go_sem] Oper.semAt_some
attribute [local simp] wide_fn

variable {b : Nat} {e : E} {ws fs : List Pk} {ks : List Ke} {clk : Nat} {ss : List Seg}

set_option maxHeartbeats 400000 in
theorem due_calls (w : World) : Calls Try.prog 39 #[.pointer (some ⟨b, 0, none⟩)] w fun r w' => r = .returned (.func (.func 49) #[] #[.pointer (some ⟨w.heap.size, 0, none⟩)]) ∧ w' = w.alloc (.cells #[.pointer (some ⟨b, 0, none⟩)] 31) := by
  go_enter Try.func39, Try.ntmps39
  go_wp2
  go_ret
  exact ⟨rfl, rfl⟩

theorem range_due {n : Nat} {g : Operand} {q : Tmp} {assign body : Code} {Q : Exit → Act → World → Prop} {ac : Act} {w w0 : World} {e0 : E} {ws0 fs0 : List Pk} {aux : List (Nat × Obj)} {bx ob : Nat}
    (hg : ac.eval g = .func (.func 49) #[] #[.pointer (some ⟨bx, 0, none⟩)])
    (hI : SI w0 b e0 ws0 fs0 aux ob ks clk e ws fs ss w) (hbx : (bx, Obj.cells #[.pointer (some ⟨b, 0, none⟩)] 31 (0, 0)) ∈ aux) (gd : Good e ks ws fs) (a₁ : Nat → Act)
    (hassign : ∀ (l k : Nat) (W : World) (K : Act → World → Prop), K (a₁ k) W →
      assign.wpIn (Fence.wide.inRound l) (n - 1 - 1) Try.prog (Exit.then K (fun _ _ _ => False)) { tmps := ac.tmps.setIfInBounds q (.pointer (some ⟨k, 0, none⟩)), defers := [] } W)
    (hbody : ∀ (l : Nat) (o : Obj) e1 ws1 l1 p l2 ss1 W, SI w0 b e0 ws0 fs0 ((l, o) :: (w.heap.size, .deferred (some [])) :: aux) ob ks clk e1 ws1 (l1 ++ p :: l2) ss1 W → Good e1 ks ws1 (l1 ++ p :: l2) → ss1.length ≤ ss.length + 2 * ws.length + fs.length →
      body.wpIn (Fence.wide.inRound l) (n - 1 - 1) Try.prog (fun x _ W3 => x = .normal ∧ ∃ p' s, SameP p p' ∧ Made e1 p.kind p.number p.body s ∧ SI w0 b e0 ws0 fs0 ((l, o) :: (w.heap.size, .deferred (some [])) :: aux) ob ks clk e1 ws1 (l1 ++ p' :: l2) (ss1 ++ [s]) W3) (a₁ p.blk) W)
    (hQ : ∀ l o W e' ws' fs' ss', SI w0 b e0 ws0 fs0 ((l, o) :: (w.heap.size, .deferred (some [])) :: aux) ob ks clk e' ws' fs' ss' W → Due e ws fs ss e' ws' fs' ss' → Q .normal { ac with defers := { target := .collected w.heap.size, args := #[] } :: ac.defers } W) :
    (Code.rangeFunc g #[q] assign body).wpIn Fence.wide n Try.prog Q ac w := by
  refine wide_rangeFunc hg (fun args w => by exact enters_of Try.func49 (by kernel_rfl) rfl args w)
    (fun W' W'' => ∃ l o e' ws' fs' ss', SI w0 b e0 ws0 fs0 ((l, o) :: (w.heap.size, .deferred (some [])) :: aux) ob ks clk e' ws' fs' ss' W'' ∧ Due e ws fs ss e' ws' fs' ss') ?_
    (fun W' W'' h hd => by obtain ⟨l, o, e', ws', fs', ss', h1, h2⟩ := h; exact hQ l o W'' e' ws' fs' ss' h1 h2)
  intro fn
  obtain ⟨W1, hW1⟩ : ∃ W1, (w.alloc (.deferred (some []))).alloc (loopRec fn ac.tmps #[q] assign body w.heap.size .ready) = W1 := ⟨_, rfl⟩
  rw [hW1]
  have hI1 : SI w0 b e0 ws0 fs0 ((w.heap.size + 1, loopRec fn ac.tmps #[q] assign body w.heap.size .ready) :: (w.heap.size, .deferred (some [])) :: aux) ob ks clk e ws fs ss W1 := by
    have := (hI.push (.deferred (some []))).push (loopRec fn ac.tmps #[q] assign body w.heap.size .ready)
    rw [World.size_alloc] at this
    rw [← hW1]; exact this
  have hl : w.heap.size + 1 ∉ ((w.heap.size, Obj.deferred (some [])) :: aux).map (·.1) := by
    intro hh
    rcases List.mem_cons.1 hh with hh | hh
    · simp at hh
    · obtain ⟨⟨x, o⟩, hm, hx⟩ := List.mem_map.1 hh
      have := hI.lt hm
      simp at hx; omega
  have hcell : ∀ st e1 ws1 fs1 ss1 W, SI w0 b e0 ws0 fs0 ((w.heap.size + 1, loopRec fn ac.tmps #[q] assign body w.heap.size st) :: (w.heap.size, .deferred (some [])) :: aux) ob ks clk e1 ws1 fs1 ss1 W → W.heap[w.heap.size + 1]? = some (loopRec fn ac.tmps #[q] assign body w.heap.size st) ∧ W.heap[w.heap.size]? = some (.deferred (some [])) := fun st e1 ws1 fs1 ss1 W h =>
    ⟨(h.side _ _ (by simp)).1, (h.side _ _ (by simp)).1⟩
  refine (due1_in (n - 1) (w.heap.size + 1) bx
    (fun e1 ws1 fs1 ss1 W => SI w0 b e0 ws0 fs0 ((w.heap.size + 1, loopRec fn ac.tmps #[q] assign body w.heap.size .ready) :: (w.heap.size, .deferred (some [])) :: aux) ob ks clk e1 ws1 fs1 ss1 W)
    (fun _ _ _ _ _ h => h.is) (fun _ _ _ _ _ _ _ _ _ h k => h.go k) (fun _ _ _ _ _ h => Blk.cell (h.side _ _ (List.mem_cons_of_mem _ (List.mem_cons_of_mem _ hbx))).1 0 rfl) (fun _ _ _ _ _ h => (h.side _ _ (List.mem_cons_of_mem _ (List.mem_cons_of_mem _ hbx))).2.2) ?_ W1 hI1 gd).mono ?_
  · intro e1 ws1 l1 p l2 ss1 W h g1 hsl
    have hL := hcell _ _ _ _ _ _ h
    have hlt := (Array.getElem?_eq_some_iff.1 hL.1).1
    refine wide_yield (n := n - 1) hL.1 rfl (a₁ p.blk) (ac.tmps.setIfInBounds q (.pointer (some ⟨p.blk, 0, none⟩))) (by simp) (fun K hK => hassign _ _ W K hK)
      (R := fun W' => ∃ p' s, SameP p p' ∧ Made e1 p.kind p.number p.body s ∧ SI w0 b e0 ws0 fs0 ((w.heap.size + 1, loopRec fn ac.tmps #[q] assign body w.heap.size .ready) :: (w.heap.size, .deferred (some [])) :: aux) ob ks clk e1 ws1 (l1 ++ p' :: l2) (ss1 ++ [s]) W') ?_
    have hb := h.put rfl rfl hl (loopRec fn ac.tmps #[q] assign body w.heap.size .busy)
    refine wpIn_mono (hbody _ _ _ _ _ _ _ _ _ hb g1 hsl) ?_
    rintro x a3 W3 ⟨rfl, p', s, hs, hm, h3⟩
    exact ⟨rfl, (hcell _ _ _ _ _ _ h3).1, p', s, hs, hm, h3.put rfl rfl hl _⟩
  · rintro r W' ⟨hv, e', ws', fs', ss', h, hD⟩
    have hL := hcell _ _ _ _ _ _ h
    exact ⟨hv, ⟨hL.1, hL.2, by omega⟩, _, _, _, _, _, _, h.put rfl rfl hl _, hD⟩
end Go.Proofs.Ytglbfgpdmlkamaa
