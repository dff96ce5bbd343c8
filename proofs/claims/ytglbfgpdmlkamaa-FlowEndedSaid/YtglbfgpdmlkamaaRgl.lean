/-
  The region law once more: what is read only ahead of a store may be taken first; a class of worlds is owed behind the operations that are marked good.
-/
import Derived.Test.YtglbfgpdmlkamaaReg
namespace Go.Flw
section
variable {P : Program} {md : Region.Mode} {ops : Array Oper} {good : Nat → Bool} {D : World → Prop} {Q : Exit → Act → World → Prop}

/-- Whatever order is picked from here on; each good step leaves a world of the class D. -/
def anyL (P : Program) (md : Region.Mode) (ops : Array Oper) (good : Nat → Bool) (D : World → Prop) (Q : Exit → Act → World → Prop) : Nat → Array Bool → Act → World → Prop
  | 0, listed, a, w => Region.ready md ops listed = [] ∧ Q .normal a w
  | fuel + 1, listed, a, w =>
    (Region.ready md ops listed = [] → Q .normal a w) ∧
    ∀ i ∈ Region.ready md ops listed, opS P ops Q i (fun a' w' => (good i = true → D w') ∧ anyL P md ops good D Q fuel (listed.setIfInBounds i true) a' w') a w

theorem anyL_any : ∀ (fuel : Nat) (listed : Array Bool) (a : Act) (w : World), anyL P md ops good D Q fuel listed a w → wpAny P md ops Q fuel listed a w
  | 0, _, _, _, h => h
  | fuel + 1, _, _, _, h => ⟨h.1, fun i hi => opS_op (opS_mono (fun a' w' hh => anyL_any fuel _ a' w' hh.2) (h.2 i hi))⟩

theorem anyL_first {i : Nat} {oi : Oper} {v : Value} (hi : ops[i]? = some oi) (hsel : ∀ (j : Nat) (o : Oper) cs b, ops[j]? = some o → o.op ≠ .select cs b)
    (hgi : good i = true) (hQ : ∀ c a w, Q (.panic c) (a.put oi.dst v) w → Q (.panic c) a w) : ∀ (fuel : Nat) (listed : Array Bool) (a : Act) (w : World), D w →
      (∀ j oj, ops[j]? = some oj → j ≠ i → listed.getD j true = false → (∀ e ∈ oj.after, Region.binds md e = true → e.on ≠ i) → oi.apart ops oj = true ∧ good j = true) →
      i ∈ Region.ready md ops listed → ReadsC P ops D oi v a →
      anyL P md ops good D Q fuel (listed.setIfInBounds i true) (a.put oi.dst v) w → anyL P md ops good D Q (fuel + 1) listed a w := by
  intro fuel
  induction fuel with
  | zero =>
    intro listed a w hC _ hr hy H
    refine ⟨fun h => (by rw [h] at hr; cases hr), fun j hj => ?_⟩
    by_cases hji : j = i
    · subst hji; exact hy.op hi hC ⟨fun _ => hC, H⟩
    · have := ready_mono hj hji
      rw [H.1] at this
      cases this
  | succ fuel ih =>
    intro listed a w hC hfree hr hy H
    refine ⟨fun h => (by rw [h] at hr; cases hr), fun j hj => ?_⟩
    by_cases hji : j = i
    · subst hji; exact hy.op hi hC ⟨fun _ => hC, H⟩
    · have h1 := H.2 j (ready_mono hj hji)
      obtain ⟨hjun, oj, hoj, hall⟩ := mem_ready.1 hj
      have hnot : ∀ e ∈ oj.after, Region.binds md e = true → e.on ≠ i := by
        intro e he hb heq
        have h1 := hall e he hb
        have h0 := (mem_ready.1 hr).1
        rw [heq] at h1
        by_cases hlt : i < listed.size
        · simp [hlt] at h0 h1; rw [h0] at h1; cases h1
        · simp [Array.getElem?_eq_none (Nat.le_of_not_lt hlt)] at h1
      obtain ⟨hap, hgj⟩ := hfree j oj hoj hji hjun hnot
      have h2 := readsC_put hoj hap (fun cs b => hsel i oi cs b hi) (fun cs b => hsel j oj cs b hoj) hQ hy h1
      refine opS_mono (fun a' w' h3 => ⟨h3.2.1, ih (listed.setIfInBounds j true) a' w' (h3.2.1 hgj) (fun k ok hk hki hun hno => hfree k ok hk hki ?_ hno) (ready_mono hr (Ne.symm hji)) h3.1 ?_⟩) h2
      · by_cases hjk : j = k
        · subst hjk; exact hjun
        · rw [getD_set_ne true hjk] at hun; exact hun
      · rw [Array.setIfInBounds_comm _ _ hji]
        exact h3.2.2

/-- Every operation that may come up ahead of i is good. -/
def goodFor (md : Region.Mode) (ops : Array Oper) (listed : Array Bool) (i : Nat) (good : Nat → Bool) : Bool :=
  good i && (List.range ops.size).all fun j => j == i || listed.getD j true || (match ops[j]? with | none => true | some o => o.after.any fun e => Region.binds md e && e.on == i) || good j

theorem goodFor_spec {listed : Array Bool} {i : Nat} (h : goodFor md ops listed i good = true) : good i = true ∧ ∀ j oj, ops[j]? = some oj → j ≠ i → listed.getD j true = false → (∀ e ∈ oj.after, Region.binds md e = true → e.on ≠ i) → good j = true := by
  unfold goodFor at h
  rw [Bool.and_eq_true] at h
  refine ⟨h.1, fun j oj hj hji hun hno => ?_⟩
  have hlt := (Array.getElem?_eq_some_iff.1 hj).1
  have := List.all_eq_true.1 h.2 j (List.mem_range.2 hlt)
  simp only [hj, hun, Bool.or_false, Bool.or_eq_true, beq_iff_eq, hji, false_or] at this
  rcases this with h1 | h1
  · obtain ⟨e, he, hb⟩ := Array.any_eq_true'.1 h1
    rw [Bool.and_eq_true] at hb
    exact absurd (by simpa using hb.2) (hno e he hb.1)
  · exact h1

/-- What only reads is taken first. -/
theorem anyL_take {i : Nat} {oi : Oper} {v : Value} {fuel : Nat} {listed : Array Bool} {a : Act} {w : World} (hi : ops[i]? = some oi) (hC : D w)
    (hs : Region.noSelect ops = true) (hf : Region.free md ops listed i = true) (hg : goodFor md ops listed i good = true) (hr : (Region.ready md ops listed).contains i = true)
    (hQ : ∀ c a w, Q (.panic c) (a.put oi.dst v) w → Q (.panic c) a w) (hw : Region.wanted oi (yielded ops a.tmps) = true) (hy : ∀ w, D w → (execOp a.eval oi).run P w = .ok (.value v) w)
    (h : anyL P md ops good D Q fuel (listed.setIfInBounds i true) (a.put oi.dst v) w) : anyL P md ops good D Q (fuel + 1) listed a w :=
  anyL_first hi (Region.noSelect_spec hs) (goodFor_spec hg).1 hQ fuel listed a w hC (fun j oj h1 h2 h3 h4 => ⟨Region.free_spec hi hf j oj h1 h2 h3 h4, (goodFor_spec hg).2 j oj h1 h2 h3 h4⟩) (by simpa using hr) ⟨hw, hy⟩ h

theorem anyL_one {i : Nat} {o : Oper} {fuel : Nat} {listed : Array Bool} {a : Act} {w : World} (hr : Region.ready md ops listed = [i]) (hi : ops[i]? = some o) (hw : Region.wanted o (yielded ops a.tmps) = true)
    (h : o.wp P a w (fun a' w' => (good i = true → D w') ∧ anyL P md ops good D Q fuel (listed.setIfInBounds i true) a' w') Q) : anyL P md ops good D Q (fuel + 1) listed a w := by
  refine ⟨fun h0 => (by rw [hr] at h0; cases h0), fun j hj => ?_⟩
  rw [hr] at hj
  obtain rfl : j = i := by simpa using hj
  exact opC hi hw h

theorem anyL_all {rs : List Nat} {fuel : Nat} {listed : Array Bool} {a : Act} {w : World} (hr : Region.ready md ops listed = rs) (hne : rs ≠ [])
    (h : ∀ i ∈ rs, opS P ops Q i (fun a' w' => (good i = true → D w') ∧ anyL P md ops good D Q fuel (listed.setIfInBounds i true) a' w') a w) : anyL P md ops good D Q (fuel + 1) listed a w :=
  ⟨fun h0 => absurd (hr ▸ h0) hne, hr ▸ h⟩

theorem anyL_done {listed : Array Bool} {a : Act} {w : World} (hr : Region.ready md ops listed = []) (h : Q .normal a w) : ∀ fuel, anyL P md ops good D Q fuel listed a w
  | 0 => ⟨hr, h⟩
  | _ + 1 => ⟨fun _ => h, by rw [hr]; simp⟩

theorem anyL_in {F : Fence} {n : Nat} (hF : F = Fence.wide ∨ ∃ l, F = Fence.wide.inRound l) (hd : noDefer ops = true) : ∀ (fuel : Nat) (listed : Array Bool) (a : Act) (w : World),
    anyL P md ops good D Q fuel listed a w → wpAnyIn F n P md ops Q fuel listed a w
  | 0, _, _, _, h => h
  | fuel + 1, listed, a, w, h => ⟨h.1, fun i hi => by
    have h2 := h.2 i hi
    unfold opS at h2
    unfold wpOpIn
    have hfn : ∀ f, F.fn f := fun f => by rcases hF with rfl | ⟨l, rfl⟩ <;> trivial
    split
    · rename_i ho
      simp only [ho] at h2
      exact anyL_in hF hd fuel _ _ _ h2.2
    · rename_i o ho
      simp only [ho] at h2
      have hnd : ∀ c, o.op ≠ .defer c := fun c hc => by
        have := Array.all_eq_true_iff_forall_mem.1 hd o (Array.mem_of_getElem? ho)
        simp [hc] at this
      split
      · rename_i hw
        rw [if_pos hw] at h2
        exact wpIn_of_wp hF hnd (Oper.wp_mono (fun a' w' hh => anyL_in hF hd fuel _ a' w' hh.2) h2)
      · rename_i hw
        rw [if_neg hw] at h2
        exact ⟨fun f _ => hfn f, anyL_in hF hd fuel _ _ _ h2.2⟩⟩

theorem region_anyL (good : Nat → Bool) (D : World → Prop) {id : Nat} {l : List Oper} {a : Act} {w : World} (hm : P.follows .mixedOrders = true)
    (h : anyL P .any l.toArray good D Q l.length (Array.replicate l.length false) a w.drew) : (Code.region id l.toArray true).wp P Q a w :=
  wp_region_any hm (by simpa using anyL_any _ _ _ _ h)

theorem region_anyL_in (good : Nat → Bool) (D : World → Prop) {F : Fence} {n : Nat} (hF : F = Fence.wide ∨ ∃ l, F = Fence.wide.inRound l) {id : Nat} {l : List Oper} {a : Act} {w : World} (hm : P.follows .mixedOrders = true) (hd : noDefer l.toArray = true)
    (h : anyL P .any l.toArray good D Q l.length (Array.replicate l.length false) a w.drew) : (Code.region id l.toArray true).wpIn F n P Q a w :=
  wpIn_region_any hm (by simpa using anyL_in hF hd _ _ _ _ h)
end
end Go.Flw
