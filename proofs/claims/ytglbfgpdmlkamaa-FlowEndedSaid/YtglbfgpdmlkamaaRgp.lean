/-
  The region law once more: an operation that reads nothing may be taken first, whatever is owed of the others.
-/
import Derived.Test.YtglbfgpdmlkamaaRgl
namespace Go.Flw
section
variable {P : Program} {md : Region.Mode} {ops : Array Oper} {good : Nat → Bool} {D : World → Prop} {Q : Exit → Act → World → Prop}

theorem anyL_pure1 {i : Nat} {oi : Oper} {v : Value} (hi : ops[i]? = some oi) (hsel : ∀ (j : Nat) (o : Oper) cs b, ops[j]? = some o → o.op ≠ .select cs b)
    (hgi : good i = false) (hQ : ∀ c a w, Q (.panic c) (a.put oi.dst v) w → Q (.panic c) a w) : ∀ (fuel : Nat) (listed : Array Bool) (a : Act) (w : World),
      (∀ j oj, ops[j]? = some oj → j ≠ i → listed.getD j true = false → (∀ e ∈ oj.after, Region.binds md e = true → e.on ≠ i) → oi.apart ops oj = true) →
      i ∈ Region.ready md ops listed → ReadsC P ops (fun _ => True) oi v a →
      anyL P md ops good D Q fuel (listed.setIfInBounds i true) (a.put oi.dst v) w → anyL P md ops good D Q (fuel + 1) listed a w := by
  intro fuel
  induction fuel with
  | zero =>
    intro listed a w _ hr hy H
    refine ⟨fun h => (by rw [h] at hr; cases hr), fun j hj => ?_⟩
    by_cases hji : j = i
    · subst hji; exact hy.op hi trivial ⟨fun h => absurd (hgi ▸ h) (by decide), H⟩
    · have := ready_mono hj hji
      rw [H.1] at this
      cases this
  | succ fuel ih =>
    intro listed a w hfree hr hy H
    refine ⟨fun h => (by rw [h] at hr; cases hr), fun j hj => ?_⟩
    by_cases hji : j = i
    · subst hji; exact hy.op hi trivial ⟨fun h => absurd (hgi ▸ h) (by decide), H⟩
    · have h1 := H.2 j (ready_mono hj hji)
      obtain ⟨hjun, oj, hoj, hall⟩ := mem_ready.1 hj
      have hnot : ∀ e ∈ oj.after, Region.binds md e = true → e.on ≠ i := by
        intro e he hb heq
        have h1 := hall e he hb
        have h0 := (mem_ready.1 hr).1
        rw [heq] at h1
        by_cases hlt : i < listed.size
        · simp [hlt] at h0 h1; rw [h0] at h1; cases h1
        · simp [Array.getElem?_eq_none (Nat.le_of_not_lt hlt)] at h1
      have hap := hfree j oj hoj hji hjun hnot
      have h2 := readsC_put hoj hap (fun cs b => hsel i oi cs b hi) (fun cs b => hsel j oj cs b hoj) hQ hy h1
      refine opS_mono (fun a' w' h3 => ⟨h3.2.1, ih (listed.setIfInBounds j true) a' w' (fun k ok hk hki hun hno => hfree k ok hk hki ?_ hno) (ready_mono hr (Ne.symm hji)) h3.1 ?_⟩) h2
      · by_cases hjk : j = k
        · subst hjk; exact hjun
        · rw [getD_set_ne true hjk] at hun; exact hun
      · rw [Array.setIfInBounds_comm _ _ hji]
        exact h3.2.2

/-- What reads nothing is taken first. -/
theorem anyL_pure {i : Nat} {oi : Oper} {v : Value} {fuel : Nat} {listed : Array Bool} {a : Act} {w : World} (hi : ops[i]? = some oi) (hg : good i = false)
    (hs : Region.noSelect ops = true) (hf : Region.free md ops listed i = true) (hr : (Region.ready md ops listed).contains i = true)
    (hQ : ∀ c a w, Q (.panic c) (a.put oi.dst v) w → Q (.panic c) a w) (hw : Region.wanted oi (yielded ops a.tmps) = true) (hy : ∀ w, (execOp a.eval oi).run P w = .ok (.value v) w)
    (h : anyL P md ops good D Q fuel (listed.setIfInBounds i true) (a.put oi.dst v) w) : anyL P md ops good D Q (fuel + 1) listed a w :=
  anyL_pure1 hi (Region.noSelect_spec hs) hg hQ fuel listed a w (fun j oj h1 h2 h3 h4 => Region.free_spec hi hf j oj h1 h2 h3 h4) (by simpa using hr) ⟨hw, fun w _ => hy w⟩ h
end
theorem new_cells_d {W : World} {c : Array Value} {t : TypeId} {k : Nat} (hk : W.heap.size = k) : ∀ (j : Nat) (u : Value), c.toList[j]? = some u → (W.alloc (.cells c t)).drew.cell? (Addr.add ⟨k, 0, none⟩ j) = some u := by
  intro j u hu
  subst hk
  have := World.cell?_alloc_new W c t j
  rw [Addr.add_lit, Nat.zero_add]
  exact this.trans (by simpa using hu)
end Go.Flw
