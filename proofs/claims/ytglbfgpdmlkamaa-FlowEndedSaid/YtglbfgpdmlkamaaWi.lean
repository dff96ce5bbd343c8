/-
  The walk of space: the room less what was not read and what was kept.
-/
import Derived.Test.YtglbfgpdmlkamaaWa
import Derived.LoopTactic
namespace Go.Proofs.Ytglbfgpdmlkamaa
open Go.RowKit Go.Flw

variable {b : Nat} {e : E} {ws fs : List Pk} {ks : List Ke} {clk : Nat}

def SpaceP (e : E) (w : World) (r : Ending) (w' : World) : Prop := ∃ n : Int, r = .returned (vi n) ∧ 0 ≤ n ∧ n ≤ e.room ∧ Below w.heap.size w w'

theorem ke_mem {x : MapEntry} (h : x ∈ ((ks.map Ke.enc).toArray).toList) : ∃ k ∈ ks, x = k.enc := by
  simp at h; obtain ⟨k, hk, he⟩ := h; exact ⟨k, hk, he.symm⟩

set_option maxHeartbeats 800000 in
theorem space_calls (w : World) (h : EndIs w b e ws fs ks clk) (hr : 0 ≤ e.room) (hr' : e.room ≤ 1000000) (hd : e.ready.size ≤ 1000000) (hk : ∀ k ∈ ks, k.seg.body.size ≤ 1400) (hkl : ks.length ≤ 100000) :
    Calls Try.prog 48 #[.pointer (some ⟨b, 0, none⟩)] w (SpaceP e w) := by
  have c1 := ce_room h.blk
  have c2 := ce_ready h.blk
  have c3 := ce_mb h.blk
  have hsub : IntKind.i64.wrap (e.room - e.ready.size) = e.room - e.ready.size := IntWalk.i64_in _ (by omega)
  have hrg := fun W hm => run_range_m (P := Try.prog) (w := W) Try.underlying55 (m := e.mb) (es := (ks.map Ke.enc).toArray) (clk := clk) hm
  go_enter Try.func48, Try.ntmps48
  go_wp2
  go_quiet (fail)
  have hr1 := hrg (w.drewN nq) h.map
  clear hrg hsub
  go_wp2
  have hb0 : Below w.heap.size w ((w.drewN nq).alloc (.mapIter (some e.mb) clk #[] clk)) := (belowDrewN (Below.refl _ w) nq).alloc (Nat.le_refl _) _
  have hM0 : MapIt ((w.drewN nq).alloc (.mapIter (some e.mb) clk #[] clk)) w.heap.size e.mb (ks.map Ke.enc).toArray clk #[] := MapIt.start (w := w.drewN nq) h.map (fun x hx => by obtain ⟨k, hk, rfl⟩ := ke_mem hx; exact h.born k hk)
  have hsz : ((ks.map Ke.enc).toArray).size = ks.length := by simp
  go_loopw [3] (fun s wr => ∃ (n : Int) (seen : Array Nat), s = .int .i64 n ∧ MapIt wr w.heap.size e.mb (ks.map Ke.enc).toArray clk seen ∧ Below w.heap.size w wr ∧ n ≤ e.room ∧ e.room - e.ready.size - 1400 * (ks.length - mapLeft wr w.heap.size : Nat) ≤ n) (fun _ wr => mapLeft wr w.heap.size)
  case atStart => exact ⟨_, _, rfl, hM0, hb0, by omega, by omega⟩
  case round =>
    obtain ⟨n, seen, rfl, hM, hbl, hn1, hn2⟩ := hrel
    have hml := mapLeft_le hM
    rw [hsz] at hml
    clear hr1 c1 c2 c3 hM0 hb0
    go_wp2_with (at_next; refine wpList_next_map rfl _ rfl w.heap.size e.mb _ clk _ rfl hM ?_ ?_)
    · intro h0
      clear hM
      go_wp2
      all_goals
        go_ret
        exact ⟨_, rfl, by omega, by omega, hbl⟩
    · intro k hkm k' hkm' seen' w1 hM1 hless hc1 hs1 hen
      have hkb := hk k' hkm'
      simp only [Ke.enc, Seg.enc] at hen ⊢
      go_wp2
      go_roundw
      case rel =>
        have hc0 : ∀ o, Chg (fun _ => False) w1 (w1.alloc o) := fun o => (Chg.refl _ _).alloc o
        refine ⟨_, _, rfl, hM1.chg (hc0 _) (fun h => h) (fun h => h), (Below.compChg hbl hc1 (Nat.le_refl _) hbl.size).alloc (by rw [hs1]; exact hbl.size) _, by omega, ?_⟩
        rw [mapLeft_chg hM1 (hc0 _) (fun h => h) (fun h => h)]
        omega
      case measure =>
        rw [mapLeft_chg (S := fun _ => False) hM1 ((Chg.refl _ _).alloc _) (fun h => h) (fun h => h)]
        exact hless
end Go.Proofs.Ytglbfgpdmlkamaa
