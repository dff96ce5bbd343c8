/-
  PROVED: FlowEnded: for every input the law returns true, and each argument reads afterwards as it read before. No condition ahead of it.
-/
import Derived.Test.YtglbfgpdmlkamaaSg
import Derived.ProofKit
import Derived.OpenShut
import Derived.Carry
import Derived.Deep.Slices
import Derived.Deep.Fields
namespace Go.Proofs.Ytglbfgpdmlkamaa.flowEnded
open Go.ChangeShapes Go.WideShapes Go.ChangeAt Go.RowKit Go.Deep

theorem own : ownKnob Try.prog.godebug = none := by kernel_rfl
theorem laidOut : laidOutB Try.prog = true := by kernel_rfl
theorem cells29 : Try.prog.cellsOf 29 = 5 := by kernel_rfl

theorem at_lt {w : World} {a : Addr} {v : Value} (h : w.cell? a = some v) : a.block < w.heap.size := by
  rcases Nat.lt_or_ge a.block w.heap.size with h' | h'
  · exact h'
  · simp [World.cell?, Array.getElem?_eq_none h'] at h

section
variable {H : Type} {enc : TypeId × Value → H} {w : World} {sp : Nat → Bool}

theorem five {α : Type} {l : List α} (h : l.length = 5) : ∃ a b c d e, l = [a, b, c, d, e] := by
  match l, h with
  | [a, b, c, d, e], _ => exact ⟨a, b, c, d, e, rfl⟩

theorem take1 {P : Program} {b n j : Nat} {t : TypeId} {cs : List Value} {y : Option (DataW H × List MemPlace)} (hc : P.cellsOf t = 1) (h : DataW.trod enc P w b sp true n t ((cs.drop j).take (P.cellsOf t)) = y) :
    DataW.trod enc P w b sp true n t ((cs.drop j).take 1) = y := by
  rw [hc] at h; exact h

/-- The cells of one act. -/
theorem act_cells {fuel : Nat} {cs : List Value} {x : DataW H × List MemPlace} (h : DataW.trod enc Try.prog w 0 sp true fuel 29 cs = some x) : ∃ y : ActV, cs = y.cells := by
  obtain ⟨xs, n, _, _, hlen, hxl, hf⟩ := DataW.trod_struct Try.underlying29 h
  rw [cells29] at hlen
  have e3 : Try.prog.cellsOf 3 = 1 := by kernel_rfl
  have e9 : Try.prog.cellsOf 9 = 1 := by kernel_rfl
  have h0 : DataW.trod enc Try.prog w 0 sp true n 3 ((cs.drop 0).take 1) = xs[0]? := take1 e3 (hf 0 _ rfl)
  have h1 : DataW.trod enc Try.prog w 0 sp true n 3 ((cs.drop 1).take 1) = xs[1]? := take1 e3 (hf 1 _ rfl)
  have h2 : DataW.trod enc Try.prog w 0 sp true n 3 ((cs.drop 2).take 1) = xs[2]? := take1 e3 (hf 2 _ rfl)
  have h3 : DataW.trod enc Try.prog w 0 sp true n 3 ((cs.drop 3).take 1) = xs[3]? := take1 e3 (hf 3 _ rfl)
  have h4 : DataW.trod enc Try.prog w 0 sp true n 9 ((cs.drop 4).take 1) = xs[4]? := take1 e9 (hf 4 _ rfl)
  have hxl5 : xs.length = 5 := hxl
  clear hf hxl e3 e9
  obtain ⟨c0, c1, c2, c3, c4, rfl⟩ := five hlen
  obtain ⟨x0, x1, x2, x3, x4, rfl⟩ := five hxl5
  obtain ⟨n0, k0, _⟩ := DataW.trod_int Try.underlying3 h0
  obtain ⟨n1, k1, _⟩ := DataW.trod_int Try.underlying3 h1
  obtain ⟨n2, k2, _⟩ := DataW.trod_int Try.underlying3 h2
  obtain ⟨n3, k3, _⟩ := DataW.trod_int Try.underlying3 h3
  obtain ⟨s4, k4, _⟩ := DataW.trod_string Try.underlying9 h4
  simp at k0 k1 k2 k3 k4
  exact ⟨⟨n0, n1, n2, n3, s4⟩, by rw [k0, k1, k2, k3, k4]; rfl⟩

/-- The acts that came in. -/
theorem open_acts {fuel : Nat} {a0 : Option Addr} {len cap : Nat} {x : DataW H × List MemPlace} (h : DataW.trod enc Try.prog w 0 (fun _ => true) true fuel 22 [.slice a0 len cap] = some x) :
    ∃ (B off : Nat) (L : List ActV), L.length = len ∧ len ≤ maxLen ∧ (0 < len → a0 = some ⟨B, off, none⟩) ∧ ActsAt w B off L := by
  rcases open_slice Try.underlying22 h with ⟨hcs, _⟩ | ⟨a, len', cap', m, n, D, Pl, hcs, _, hl, hm, hmm, _, hi⟩
  · simp at hcs
    obtain ⟨rfl, rfl, rfl⟩ := hcs
    exact ⟨0, 0, [], rfl, Nat.zero_le _, fun hh => absurd hh (by omega), fun i x hx => by simp at hx⟩
  · simp at hcs
    obtain ⟨rfl, rfl, rfl⟩ := hcs
    simp only [if_true] at hmm
    subst hmm
    have hx : ∀ i, i < len → ∃ y : ActV, ∀ j v, y.cells[j]? = some v → w.cell? (a.add (i * 5 + j)) = some v := by
      intro i hil
      obtain ⟨cs', hc, ht⟩ := hi i (by omega)
      rw [cells29] at hc
      obtain ⟨_, hcl, hat⟩ := World.cells?_some hc
      obtain ⟨y, rfl⟩ := act_cells ht
      refine ⟨y, fun j v hj => ?_⟩
      have hj5 : j < 5 := by
        have := (List.getElem?_eq_some_iff.1 hj).1
        rw [hcl] at this; exact this
      have := hat j hj5
      rw [hj, add_add] at this
      exact this
    obtain ⟨b, off, spot⟩ := a
    by_cases h0 : len = 0
    · subst h0
      exact ⟨0, 0, [], rfl, Nat.zero_le _, fun hh => absurd hh (by omega), fun i x hx => by simp at hx⟩
    · have hsp : spot = none := by
        obtain ⟨y, hy⟩ := hx 0 (by omega)
        simpa [Addr.add] using World.cell?_spot (hy 0 _ rfl)
      subst hsp
      let f : Nat → ActV := fun i => if hil : i < len then Classical.choose (hx i hil) else ⟨0, 0, 0, 0, ByteArray.empty⟩
      refine ⟨b, off, (List.range len).map f, by simp, by omega, fun _ => rfl, ?_⟩
      intro i y hy
      have hil : i < len := by
        have := (List.getElem?_eq_some_iff.1 hy).1
        simpa using this
      have hfy : y = Classical.choose (hx i hil) := by
        simp [hil, f] at hy
        exact hy.symm
      have hcell : ∀ j v, y.cells[j]? = some v → w.cell? ⟨b, off + i * 5 + j, none⟩ = some v := by
        intro j v hj
        rw [hfy] at hj
        have := Classical.choose_spec (hx i hil) j v hj
        rw [Addr.add_lit, ← Nat.add_assoc] at this
        exact this
      exact ⟨at_lt (hcell 0 _ rfl), hcell⟩
end

set_option maxRecDepth 100000 in
set_option maxHeartbeats 2000000 in
theorem lifted (os : Os) (started : os.Started) (H : Type) (enc : TypeId × Value → H) :
    ReturnsInHanded {} Try.checked os 3 .any (Rows.flowEndedSpec.pre6 enc Try.prog Try.f3 Rows.flowEndedRow.domain false) (Rows.flowEndedSpec.post enc Try.prog Try.f3 false true false false) := by
  refine returnsInHanded_of_change (C := Try.checked) own started (by kernel_rfl) Try.func3
    (ChangeSpec.witness6 (enc := enc) (C := Try.checked) false ⟨#[], #[.int .i64 0, .int .i64 0, .int .i64 0, .int .i64 0, .int .i64 0, .int .i64 0, .slice none 0 0], []⟩ 8 (by kernel_rfl) (by kernel_rfl) (by kernel_rfl) (by kernel_rfl)) ?_
  intro W base args ds gs before hval0 hW hcnd _
  have hval : ∀ (j : Nat) t v, Try.f3.params[j]? = some t → args[j]? = some v → Value.okWide Try.prog W .any base t v := hval0
  have hW' := hW
  obtain ⟨p, q, hA0, hV, rfl, hfz, hnd⟩ := hW
  have hA : DataW.TrodAll enc Try.prog W 0 (fun _ => true) true Try.f3.params.toList args.toList ds p := hA0
  rw [Try.params3] at hA hval
  obtain ⟨v0, vs0, d0, ds0, p0, q0, hargs, rfl, rfl, h0, r0⟩ := trodAll_cons hA
  obtain ⟨v1, vs1, d1, ds1, p1, q1, rfl, rfl, rfl, h1, r1⟩ := trodAll_cons r0
  obtain ⟨v2, vs2, d2, ds2, p2, q2, rfl, rfl, rfl, h2, r2⟩ := trodAll_cons r1
  obtain ⟨v3, vs3, d3, ds3, p3, q3, rfl, rfl, rfl, h3, r3⟩ := trodAll_cons r2
  obtain ⟨v4, vs4, d4, ds4, p4, q4, rfl, rfl, rfl, h4, r4⟩ := trodAll_cons r3
  obtain ⟨v5, vs5, d5, ds5, p5, q5, rfl, rfl, rfl, h5, r5⟩ := trodAll_cons r4
  obtain ⟨v6, vs6, d6, ds6, p6, q6, rfl, rfl, rfl, h6, r6⟩ := trodAll_cons r5
  obtain ⟨rfl, rfl, rfl⟩ := trodAll_nil r6
  obtain rfl : args = #[v0, v1, v2, v3, v4, v5, v6] := by cases args; simp_all
  obtain ⟨rfl, rfl⟩ := trodVars_none hV
  obtain ⟨a0, rfl, rfl, rfl, w0⟩ := open_int Try.underlying3 (hval 0 3 v0 rfl rfl) h0
  obtain ⟨a1, rfl, rfl, rfl, w1⟩ := open_int Try.underlying3 (hval 1 3 v1 rfl rfl) h1
  obtain ⟨a2, rfl, rfl, rfl, w2⟩ := open_int Try.underlying3 (hval 2 3 v2 rfl rfl) h2
  obtain ⟨a3, rfl, rfl, rfl, w3⟩ := open_int Try.underlying3 (hval 3 3 v3 rfl rfl) h3
  obtain ⟨a4, rfl, rfl, rfl, w4⟩ := open_int Try.underlying3 (hval 4 3 v4 rfl rfl) h4
  obtain ⟨a5, rfl, rfl, rfl, w5⟩ := open_int Try.underlying3 (hval 5 3 v5 rfl rfl) h5
  obtain ⟨ad, len, cap, rfl⟩ := okWide_slice Try.underlying22 (hval 6 22 v6 rfl rfl)
  have h6k := h6
  obtain ⟨fuel, hf⟩ := h6
  clear hA0 hval0
  simp only [List.append_nil, List.nil_append] at hW'
  have hlt : ∀ x ∈ p6, x.block < W.heap.size := fun x hx => hW'.lt x hx
  obtain ⟨B, off, L, hL, hmax, hat, hacts⟩ := open_acts (x := (d6, p6)) hf
  refine (flowEnded_calls W a0 a1 a2 a3 a4 a5 ad len cap B off L hL hmax hat hacts).mono ?_
  rintro e W' ⟨rfl, bel⟩
  have hres : ∀ (b : Nat) (sp : Nat → Bool) (hd : Bool), DataW.TrodAll enc Try.prog W' b sp hd [4] [.bool true] [.lit (.bool true)] [] := fun _ _ _ => trodAll_cons_mk (shut_bool Try.underlying4 _) trodAll_mk0
  have hargs2 : ∀ sp : Nat → Bool, (∀ x ∈ p6, sp x.block = true) → DataW.TrodAll enc Try.prog W' 0 sp true [3, 3, 3, 3, 3, 3, 22] [.int .i64 a0, .int .i64 a1, .int .i64 a2, .int .i64 a3, .int .i64 a4, .int .i64 a5, .slice ad len cap] [.lit (.int .i64 a0), .lit (.int .i64 a1), .lit (.int .i64 a2), .lit (.int .i64 a3), .lit (.int .i64 a4), .lit (.int .i64 a5), d6] p6 := fun sp hsp => by
    have h6w : DataW.Trod enc Try.prog W' 0 sp true 22 (.slice ad len cap) d6 p6 := WideElems.Trod_stays laidOut (by kernel_rfl) (of_decide_eq_true (by kernel_rfl)) h6k (fun x hx => bel.same (hlt x hx)) hsp
    have := trodAll_cons_mk (shut_int Try.underlying3 w0) (trodAll_cons_mk (shut_int Try.underlying3 w1) (trodAll_cons_mk (shut_int Try.underlying3 w2) (trodAll_cons_mk (shut_int Try.underlying3 w3) (trodAll_cons_mk (shut_int Try.underlying3 w4) (trodAll_cons_mk (shut_int Try.underlying3 w5) (trodAll_cons_mk h6w trodAll_mk0))))))
    simp only [List.nil_append, List.append_nil] at this
    exact this
  have hold : ∀ x ∈ p6, (fun b => decide (b < W.heap.size)) x.block = true := fun x hx => by simpa using hlt x hx
  have hz := hW'
  obtain ⟨_, _, _, _, _, hz, _⟩ := hz
  refine ⟨_, rfl, _, _, _, [], p6, [], hW', hres _ _ _, hargs2 _ hold, rfl, bel.frame _, fun _ => ⟨ok_one (by kernel_rfl) rfl (okWide_bool_mk Try.underlying4 _), [.lit (.bool true), .lit (.int .i64 a0), .lit (.int .i64 a1), .lit (.int .i64 a2), .lit (.int .i64 a3), .lit (.int .i64 a4), .lit (.int .i64 a5), d6], [], p6, ⟨p6, [], ?_, rfl, by simp, fun b off hp => ?_, fun h => by cases h⟩, fun x hx _ => hx⟩⟩
  · exact trodAll_append (hargs2 _ (fun _ _ => rfl)) (hres _ _ _)
  · rw [bel.frozen (hlt _ hp)]
    exact hz b off hp

theorem over : Rows.flowEndedRow.holds Try.pinned (OpenSpec.ofChange Rows.flowEndedSpec) :=
  OpenClaim.holds_of_wide 3 Try.f3 rfl rfl rfl rfl rfl rfl rfl ⟨rfl, rfl, rfl, rfl, rfl⟩ rfl rfl rfl rfl rfl (by kernel_rfl) Try.func3 (by kernel_rfl)
    (of_decide_eq_true (by kernel_rfl)) (by unfold Func.isWrapper; first | (rw [if_pos (by decide +kernel)]; kernel_rfl) | (rw [if_neg (by decide +kernel)]; exact ⟨rfl, rfl⟩))
    (fun os started H enc _ => lifted os started H enc)

/-- The statement. -/
theorem proved : Rows.FlowEndedSaid :=
  over
#print axioms proved
end Go.Proofs.Ytglbfgpdmlkamaa.flowEnded
