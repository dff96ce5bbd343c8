/-
  The walk of New.
-/
import Derived.Test.YtglbfgpdmlkamaaSnd
import Derived.Test.YtglbfgpdmlkamaaWc
namespace Go.Proofs.Ytglbfgpdmlkamaa
open Go.RowKit Go.Flw

/-- A new end. -/
def newE (op : Bool) (conn first room : Int) (mb : Nat) : E where
  wv := .slice none 0 0
  fv := .slice none 0 0
  next := first
  acked := first - 1
  window := 1400
  limit := 4200
  body := 1400
  out := 1000
  outs := 0
  closing := false
  done := false
  room := room
  base := 0
  heard := false
  mb := mb
  ready := ByteArray.empty
  ended := false
  answer := false
  late := 0
  some_ := false
  replies := false
  opener := op
  conn := conn
  state := 0
  now := 0
  tb := 0
  tl := 0
  to_ := 0
  tt := 0
  tn := 0
  ts := false
  count := 0
  again := 0
  doubles := 0

def NewR (op : Bool) (conn first room : Int) (w : World) (r : Ending) (w' : World) : Prop :=
  ∃ b mb clk, r = .returned (.tuple #[.pointer (some ⟨b, 0, none⟩), vi 0]) ∧ EndIs w' b (newE op conn first room mb) [] [] [] clk ∧ Below w.heap.size w w' ∧ ∀ x ∈ foot b (newE op conn first room mb) [] [], w.heap.size ≤ x

theorem round_true' (n : Int) (w : World) (h0 : 0 ≤ n) (h1 : n ≤ 65535) : Calls Try.prog 28 #[vi n] w fun e w' => e = .returned (.bool true) ∧ w = w' :=
  (round_calls n w).mono fun e w' ⟨h, h2⟩ => ⟨by rw [h, inB_true h0 h1], h2⟩

set_option maxHeartbeats 1600000 in
set_option maxRecDepth 100000 in
theorem New_calls (w : World) (op : Bool) (conn first room : Int) (h0 : 0 ≤ conn) (h1 : conn ≤ 65535) (h2 : 0 ≤ first) (h3 : first ≤ 65535) (h4 : 1400 ≤ room) (h5 : room ≤ 1000000) :
    Calls Try.prog 15 #[.bool op, vi conn, vi first, vi room] w (NewR op conn first room w) := by
  have hmm := @run_makeMap Try.prog
  go_enter Try.func15, Try.ntmps15
  go_wp2_with (go_at_call 28; refine (round_true' _ _ (by assumption) (by assumption)).mono ?_; rintro r w' ⟨rfl, rfl⟩)
  go_ret2
  have hb := (Blk.new w (newE op conn first room (w.heap.size + 1)).enc 61).alloc (.map #[] 0)
  refine ⟨w.heap.size, w.heap.size + 1, 0, rfl, ⟨hb, Sl.nil _ _ _, Sl.nil _ _ _, by simp, ?_, by simp, ?_⟩, ((Below.refl _ w).alloc (Nat.le_refl _) _).alloc (by simp) _, ?_⟩
  · have := World.alloc_heap_new (w.alloc (.cells (newE op conn first room (w.heap.size + 1)).enc 61)) (.map #[] 0)
    rw [World.size_alloc] at this
    exact this
  · refine ⟨?_, ?_, ?_, ?_, ?_, ?_, ?_, ?_, ?_, ?_, ?_⟩ <;> simp [newE, slB]
  · intro x hx
    rcases foot_iff.1 hx with hx | hx | hx | hx | hx
    · omega
    · simp only [newE] at hx; omega
    · simp [newE, slB] at hx
    · simp [newE, slB] at hx
    · simp at hx
end Go.Proofs.Ytglbfgpdmlkamaa
