/-
  The walks over the packets under way: under, flying, earliest, wait.
-/
import Derived.Test.YtglbfgpdmlkamaaWa
import Derived.Shelf.Abstract
import Derived.Shelf.RegionOpen
import Derived.OwnWalkIn
import Derived.TacticsInMore
import Derived.LoopNIn
import Derived.LoopIn
namespace Go.Proofs.Ytglbfgpdmlkamaa
open Go.RowKit Go.Flw Go.Shelf
attribute [local go_sem] Oper.semAt_some

@[local simp] theorem wide_fn (f : Nat) : Fence.wide.fn f ↔ True := Iff.rfl
theorem wide_deep (n : Nat) : Fence.wide.depth.isSome = true → 1 ≤ n := fun h => by simp [Fence.wide] at h

variable {b : Nat} {e : E} {ws fs : List Pk} {ks : List Ke} {clk : Nat}

set_option maxHeartbeats 400000 in
/-- under hands back its iterator, over a box with the sender's place. -/
theorem under_calls (w : World) : Calls Try.prog 47 #[.pointer (some ⟨b, 0, none⟩)] w fun r w' => r = .returned (.func (.func 59) #[] #[.pointer (some ⟨w.heap.size, 0, none⟩)]) ∧ w' = w.alloc (.cells #[.pointer (some ⟨b, 0, none⟩)] 93) := by
  go_enter Try.func47, Try.ntmps47
  go_wp2
  go_ret
  exact ⟨rfl, rfl⟩

set_option maxHeartbeats 800000 in
set_option maxRecDepth 100000 in
/-- The iterator over the packets under way: those that are not lost are yielded, in their order. -/
theorem under1_in (n l bx : Nat) (a : Option Addr) (len cap : Nat) (blk : Nat → Nat) (lost : Nat → Bool) (J : Nat → World → Prop) (w : World)
    (hbx : w.cell? ⟨bx, 0, none⟩ = some (.pointer (some ⟨b, 0, none⟩))) (hfv : w.cell? ⟨b, 1, none⟩ = some (.slice a len cap)) (hmax : len ≤ 1000000)
    (hread : ∀ k W, k < len → J k W → ∃ B off, a = some ⟨B, off, none⟩ ∧ W.cell? ⟨B, off + k, none⟩ = some (.pointer (some ⟨blk k, 0, none⟩)) ∧ W.cell? ⟨blk k, 7, none⟩ = some (.bool (lost k)))
    (hskip : ∀ k W, k < len → lost k = true → J k W → J (k + 1) W)
    (hyield : ∀ k W, k < len → lost k = false → J k W → YieldAt Fence.wide (n - 1) Try.prog l #[.pointer (some ⟨blk k, 0, none⟩)] W fun e W' => e = .returned (.bool true) ∧ J (k + 1) W')
    (h0 : J 0 w) :
    CallsIn Fence.wide n Try.prog 59 #[.func (.yield l) #[] #[], .pointer (some ⟨bx, 0, none⟩)] w fun e W' => (∃ v, e = .returned v) ∧ J len W' := by
  gi_enter Try.func59, Try.ntmps59
  gi_wp2
  gi_loopw [10] (fun i wr => ∃ k : Nat, k ≤ len ∧ i = .int .i64 k ∧ J k wr) (fun i _ => len - (intOf i).toNat)
  case atStart => exact ⟨0, Nat.zero_le _, rfl, h0⟩
  case round =>
    obtain ⟨k, hk, rfl, hJ⟩ := hrel
    by_cases hlt : k < len
    · obtain ⟨B, off, rfl, hc, hl⟩ := hread k wr hlt hJ
      cases hls : lost k
      · rw [hls] at hl
        obtain ⟨fn, tmps, assign, body, hy, hR⟩ := hyield k wr hlt hls hJ
        clear hread hskip hyield
        gi_wp2
        refine ⟨wide_deep _, hR.mono ?_⟩
        rintro e W' ⟨rfl, hJ1⟩
        clear hy hR hc hl
        gi_wp2
        go_roundw
        case rel => exact ⟨k + 1, by omega, by go_num, hJ1⟩
        case measure => simp [intOf]; omega
      · rw [hls] at hl
        have hJ' := hskip k wr hlt hls hJ
        clear hread hskip hyield
        gi_wp2
        go_roundw
        case rel => exact ⟨k + 1, by omega, by go_num, hJ'⟩
        case measure => simp [intOf]; omega
    · obtain rfl : k = len := by omega
      clear hread hskip hyield
      gi_wp2
      go_end0
      exact ⟨⟨_, rfl⟩, hJ⟩

/-- What a caller's invariant must abide: the turns of the loop's own record. -/
def Abide (B : Nat) (I : Nat → World → Prop) : Prop := ∀ k W l o o', B ≤ l → I k W → W.heap[l]? = some (.loop o) → I k (W.putObj l (.loop o'))

theorem loopRec_loop (fn : FuncId) (tmps : Array Value) (ps : Array Tmp) (assign body : Code) (D : Nat) (st : LoopState) : ∃ o, loopRec fn tmps ps assign body D st = .loop o := ⟨_, rfl⟩

/-- What a round's body owes: it goes on; the loop's two blocks lie as they lay. -/
structure GoesOn (I : Nat → World → Prop) (k l D : Nat) (W : World) (x : Exit) (W3 : World) : Prop where
  norm : x = .normal
  inv : I (k + 1) W3
  rec_ : W3.heap[l]? = W.heap[l]?
  def_ : W3.heap[D]? = W.heap[D]?

/-- 'for p := range x.under() { body }', each round of which goes on. -/
theorem range_under {n : Nat} {g : Operand} {q : Tmp} {assign body : Code} {Q : Exit → Act → World → Prop} {ac : Act} {w : World} {bx : Nat}
    (hg : ac.eval g = .func (.func 59) #[] #[.pointer (some ⟨bx, 0, none⟩)])
    (a : Option Addr) (len cap : Nat) (blk : Nat → Nat) (lost : Nat → Bool) (I : Nat → World → Prop) (hI : Abide w.heap.size I) (hIa : ∀ k W o, I k W → I k (W.alloc o))
    (hbx : w.cell? ⟨bx, 0, none⟩ = some (.pointer (some ⟨b, 0, none⟩))) (hfv : w.cell? ⟨b, 1, none⟩ = some (.slice a len cap)) (hmax : len ≤ 1000000)
    (hread : ∀ k W, k < len → I k W → ∃ B off, a = some ⟨B, off, none⟩ ∧ W.cell? ⟨B, off + k, none⟩ = some (.pointer (some ⟨blk k, 0, none⟩)) ∧ W.cell? ⟨blk k, 7, none⟩ = some (.bool (lost k)))
    (hskip : ∀ k W, k < len → lost k = true → I k W → I (k + 1) W) (h0 : I 0 w) (a₁ : Nat → Act)
    (hassign : ∀ (l k : Nat) (W : World) (K : Act → World → Prop), K (a₁ k) W →
      assign.wpIn (Fence.wide.inRound l) (n - 1 - 1) Try.prog (Exit.then K (fun _ _ _ => False)) { tmps := ac.tmps.setIfInBounds q (.pointer (some ⟨blk k, 0, none⟩)), defers := [] } W)
    (hbody : ∀ (l k : Nat) (W : World), k < len → lost k = false → I k W → w.heap.size ≤ l → l < W.heap.size →
      body.wpIn (Fence.wide.inRound l) (n - 1 - 1) Try.prog (fun x _ W3 => GoesOn I k l w.heap.size W x W3) (a₁ k) W)
    (hQ : ∀ W, I len W → W.heap[w.heap.size]? = some (.deferred (some [])) → Q .normal { ac with defers := { target := .collected w.heap.size, args := #[] } :: ac.defers } W) :
    (Code.rangeFunc g #[q] assign body).wpIn Fence.wide n Try.prog Q ac w := by
  refine wide_rangeFunc hg (fun args w => by exact enters_of Try.func59 (by kernel_rfl) rfl args w) (fun W' W'' => I len W'') ?_ (fun W' W'' h hd => hQ _ h hd)
  intro fn
  obtain ⟨W1, hW1⟩ : ∃ W1, (w.alloc (.deferred (some []))).alloc (loopRec fn ac.tmps #[q] assign body w.heap.size .ready) = W1 := ⟨_, rfl⟩
  rw [hW1]
  have hL1 : LoopAt W1 (w.heap.size + 1) (loopRec fn ac.tmps #[q] assign body w.heap.size) w.heap.size := by
    rw [← hW1]
    refine ⟨?_, Flw.heap_alloc_old (World.alloc_heap_new w _) _, by omega⟩
    have := World.alloc_heap_new (w.alloc (.deferred (some []))) (loopRec fn ac.tmps #[q] assign body w.heap.size .ready)
    simpa using this
  have hc1 : Chg (fun _ => False) w W1 := by rw [← hW1]; exact ((Chg.refl _ _).alloc _).alloc _
  have hcell : ∀ {p : Addr} {v : Value}, w.cell? p = some v → W1.cell? p = some v := fun {p v} h => by
    have hlt := World.block_lt_of_cell? _ _ h
    rw [World.cell?_of_block (hc1.block p.block hlt (fun h => h))]; exact h
  refine (under1_in (b := b) (n - 1) (w.heap.size + 1) bx a len cap blk lost
    (fun k W => LoopAt W (w.heap.size + 1) (loopRec fn ac.tmps #[q] assign body w.heap.size) w.heap.size ∧ I k W) W1 (hcell hbx) (hcell hfv) hmax
    (fun k W hk hJ => hread k W hk hJ.2) (fun k W hk hl hJ => ⟨hJ.1, hskip k W hk hl hJ.2⟩) ?_ ⟨hL1, by rw [← hW1]; exact hIa _ _ _ (hIa _ _ _ h0)⟩).mono ?_
  · rintro k W hk hl ⟨hL, hi⟩
    have hlt := (Array.getElem?_eq_some_iff.1 hL.rec_at).1
    refine wide_yield (l := w.heap.size + 1) hL.rec_at rfl (a₁ k) (ac.tmps.setIfInBounds q (.pointer (some ⟨blk k, 0, none⟩))) (by simp) (fun K hK => hassign _ k W K hK) (R := fun W' => LoopAt W' (w.heap.size + 1) (loopRec fn ac.tmps #[q] assign body w.heap.size) w.heap.size ∧ I (k + 1) W') ?_
    refine wpIn_mono (hbody (w.heap.size + 1) k (W.putObj (w.heap.size + 1) (loopRec fn ac.tmps #[q] assign body w.heap.size .busy)) hk hl (hI _ _ _ _ _ (by omega) hi hL.rec_at) (by omega) (by simpa using hlt)) ?_
    rintro x a3 W3 ⟨rfl, hi3, h1, h2⟩
    rw [World.putObj_heap_same hlt] at h1
    rw [World.putObj_heap_other (by omega)] at h2
    have hlt3 := (Array.getElem?_eq_some_iff.1 h1).1
    exact ⟨rfl, h1, ⟨World.putObj_heap_same hlt3, (World.putObj_heap_other (by omega)).trans (h2.trans hL.def_at), by omega⟩, hI _ _ _ _ _ (by omega) hi3 h1⟩
  · rintro e W' ⟨hv, hL, hi⟩
    exact ⟨hv, hL, hI _ _ _ _ _ (by omega) hi hL.rec_at⟩
end Go.Proofs.Ytglbfgpdmlkamaa
