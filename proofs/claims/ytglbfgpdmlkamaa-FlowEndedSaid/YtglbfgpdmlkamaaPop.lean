/-
  Slices cut at either end; a packet that goes from what waits to what flies. No program is named here.
-/
import Derived.Test.YtglbfgpdmlkamaaEnd
namespace Go.Flw
open Go.RowKit

theorem Sl.cut {w : World} {a : Option Addr} {n cap : Nat} {T : TypeId} {size : Nat} {cs : List Value} (h : Sl w (.slice a n cap) T size n cs) (l m : Nat) (hl : l ≤ m) (hm : m ≤ n) :
    Sl w (sliced a l m cap size) T size (m - l) ((cs.take (m * size)).drop (l * size)) ∧ slB (sliced a l m cap size) = slB (.slice a n cap) := by
  have hlen := h.1
  have e1 : (m - l) * size = m * size - l * size := Nat.sub_mul ..
  have e2 : l * size ≤ m * size := Nat.mul_le_mul_right _ hl
  have e3 : m * size ≤ n * size := Nat.mul_le_mul_right _ hm
  have hlen2 : ((cs.take (m * size)).drop (l * size)).length = (m - l) * size := by simp; omega
  rcases h.2 with ⟨hv, hn⟩ | ⟨B, off, cap', arr, hv, hb, h1, h2, h3, h4⟩
  · injection hv with ha _ hc
    subst ha hc hn
    obtain rfl : m = 0 := by omega
    obtain rfl : l = 0 := by omega
    refine ⟨⟨hlen2, .inl ⟨by simp [sliced], rfl⟩⟩, by simp [sliced, slB]⟩
  · injection hv with ha _ hc
    subst ha hc
    by_cases hcl : cap = l
    · subst hcl
      obtain rfl : m = cap := by omega
      refine ⟨⟨hlen2, .inr ⟨B, off, 0, arr, by simp [sliced], hb, by omega, by omega, by simp [maxLen], ?_⟩⟩, by simp [sliced, slB]⟩
      intro i hi
      simp at hi
    · refine ⟨⟨hlen2, .inr ⟨B, off + l * size, cap - l, arr, by simp [sliced, hcl, Addr.add], hb, by omega, ?_, by omega, ?_⟩⟩, by simp [sliced, hcl, slB, Addr.add]; split <;> rfl⟩
      · rw [Nat.sub_mul]
        have : l * size ≤ cap * size := Nat.mul_le_mul_right _ (by omega)
        omega
      · intro i hi
        rw [Nat.add_assoc, h4 _ (by omega), List.getElem?_drop, List.getElem?_take_of_lt (by omega)]

theorem PSl.tail {w : World} {a : Option Addr} {n cap : Nat} {p : Pk} {ws : List Pk} (h : PSl w (.slice a n cap) (p :: ws)) : PSl w (sliced a 1 n cap 1) ws ∧ slB (sliced a 1 n cap 1) = slB (.slice a n cap) := by
  have hn : n = ws.length + 1 := by
    rcases h.2 with ⟨hv, h0⟩ | ⟨B, off, cap', arr, hv, _⟩
    · simp at h0
    · injection hv
  subst hn
  have := Sl.cut (n := ws.length + 1) (by simpa [PSl] using h) 1 (ws.length + 1) (by omega) (Nat.le_refl _)
  refine ⟨?_, this.2⟩
  have h1 := this.1
  have e : ((p :: ws).map Pk.ptr).take ((ws.length + 1) * 1) = (p :: ws).map Pk.ptr := List.take_of_length_le (by simp)
  simp only [List.map_cons] at e h1
  rw [e] at h1
  simpa [PSl] using h1

variable {w w' : World} {b : Nat} {e e' : E} {ws fs : List Pk} {ks : List Ke} {clk : Nat}

/-- The first packet that waits flies. -/
theorem EndIs.popped {p p' : Pk} (h : EndIs w b e (p :: ws) fs ks clk) (hc : Chg (fun x => x = b ∨ x = p.blk ∨ x ∈ slB e.fv) w w') (hb : Blk w' b e'.enc 61)
    (hw : PSl w e'.wv ws) (hwsl : slB e'.wv = slB e.wv) (hf : PSl w' e'.fv (fs ++ [p'])) (hfsl : ∀ x ∈ slB e'.fv, x ∈ slB e.fv ∨ w.heap.size ≤ x) (hbk : p'.blk = p.blk) (hp : Blk w' p.blk p'.enc 64)
    (hmb : e'.mb = e.mb) : Went w b e (p :: ws) fs w' e' ws (fs ++ [p']) ks clk := by
  have hs := h.sep
  have hlt := h.lt
  have hin : ∀ x, x = b ∨ x = e.mb ∨ x ∈ slB e.wv ∨ x ∈ slB e.fv ∨ x ∈ ((p :: ws) ++ fs).map (·.blk) → x < w.heap.size := fun x hx => hlt x (foot_iff.2 hx)
  have hpm : p.blk ∈ ((p :: ws) ++ fs).map (·.blk) := by simp
  have mem : ∀ x, x ∈ (ws ++ (fs ++ [p'])).map (·.blk) ↔ x ∈ ((p :: ws) ++ fs).map (·.blk) := by
    intro x
    simp only [List.map_append, List.mem_append, List.map_cons, List.map_nil, List.mem_cons, hbk, List.not_mem_nil]
    grind
  have hnd := hs.qq
  simp only [List.cons_append, List.map_cons, List.nodup_cons] at hnd
  have hft : ∀ x, x ∈ foot b e' ws (fs ++ [p']) → x ∈ foot b e (p :: ws) fs ∨ w.heap.size ≤ x := by
    intro x hx
    rcases foot_iff.1 hx with rfl | rfl | hx | hx | hx
    · exact .inl (foot_iff.2 (.inl rfl))
    · exact .inl (foot_iff.2 (.inr (.inl hmb)))
    · rw [hwsl] at hx; exact .inl (foot_iff.2 (by simp [hx]))
    · rcases hfsl x hx with hx | hx
      · exact .inl (foot_iff.2 (by simp [hx]))
      · exact .inr hx
    · exact .inl (foot_iff.2 (.inr (.inr (.inr (.inr ((mem x).1 hx))))))
  refine ⟨⟨hb, Sl.chg hw hc ?_, hf, ?_, ?_, h.born, ?_⟩, hc.mono fun x _ hx => foot_iff.2 ?_, hft⟩
  · intro x hx
    rw [hwsl] at hx
    rintro (rfl | rfl | hx')
    · exact hs.bw hx
    · exact hs.wq _ hx hpm
    · exact hs.wf _ hx hx'
  · intro q hq
    have hq' : q = p' ∨ q ∈ ws ++ fs := by simp at hq ⊢; grind
    rcases hq' with rfl | hq'
    · rw [hbk]; exact hp
    · have hqm : q.blk ∈ (ws ++ fs).map (·.blk) := List.mem_map.2 ⟨q, hq', rfl⟩
      refine (h.pks q (by simp at hq' ⊢; grind)).chg hc ?_
      have hqm' : q.blk ∈ ((p :: ws) ++ fs).map (·.blk) := by simp at hqm ⊢; grind
      rintro (hx | hx | hx)
      · exact hs.bq (hx ▸ hqm')
      · exact hnd.1 (hx ▸ hqm)
      · exact hs.fq _ hx hqm'
  · rw [hmb]
    refine hc.at h.map ?_
    rintro (hx | hx | hx)
    · exact hs.bm hx.symm
    · exact hs.mq (hx ▸ hpm)
    · exact hs.mf hx
  · rw [hwsl, hmb]
    have nb := hin b (by simp)
    have nm := hin e.mb (by simp)
    have nw : ∀ x ∈ slB e.wv, x < w.heap.size := fun x hx => hin x (by simp [hx])
    have nq : ∀ x ∈ ((p :: ws) ++ fs).map (·.blk), x < w.heap.size := fun x hx => hin x (.inr (.inr (.inr (.inr hx))))
    refine ⟨hs.bm, hs.bw, ?_, fun hx => hs.bq ((mem _).1 hx), hs.mw, ?_, fun hx => hs.mq ((mem _).1 hx), ?_, fun x hx hf => hs.wq x hx ((mem _).1 hf), ?_, ?_⟩
    · intro hx; rcases hfsl _ hx with hx | hx
      · exact hs.bf hx
      · omega
    · intro hx; rcases hfsl _ hx with hx | hx
      · exact hs.mf hx
      · omega
    · intro x hx hf; rcases hfsl _ hf with hf | hf
      · exact hs.wf x hx hf
      · have := nw x hx; omega
    · intro x hx hf
      rcases hfsl _ hx with hx | hx
      · exact hs.fq x hx ((mem _).1 hf)
      · have := nq x ((mem _).1 hf); omega
    · have : ((ws ++ (fs ++ [p'])).map (·.blk)).Perm (p.blk :: (ws ++ fs).map (·.blk)) := by
        have e1 : (ws ++ (fs ++ [p'])).map (·.blk) = (ws ++ fs).map (·.blk) ++ [p.blk] := by simp [hbk]
        rw [e1]
        exact List.perm_append_comm
      rw [this.nodup_iff, List.nodup_cons]
      exact hnd
  · rcases hx with rfl | rfl | hx
    · exact .inl rfl
    · exact .inr (.inr (.inr (.inr hpm)))
    · exact .inr (.inr (.inr (.inl hx)))
theorem EndIs.below (h : EndIs w b e ws fs ks clk) (hb : Below w.heap.size w w') : Went w b e ws fs w' e ws fs ks clk :=
  ⟨h.chg (Chg.of_below (S := fun _ => False) hb) (fun _ _ hh => hh), Chg.of_below hb, fun _ hx => .inl hx⟩

end Go.Flw
