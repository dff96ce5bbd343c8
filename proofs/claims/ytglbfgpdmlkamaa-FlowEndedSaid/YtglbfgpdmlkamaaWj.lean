/-
  The walk of marked: at most four bytes.
-/
import Derived.Test.YtglbfgpdmlkamaaWa
import Derived.LoopTactic
namespace Go.Proofs.Ytglbfgpdmlkamaa
open Go.RowKit Go.Flw

def MarkedP (w : World) (r : Ending) (w' : World) : Prop := ∃ s : ByteArray, r = .returned (.string s) ∧ s.size ≤ 4 ∧ Below w.heap.size w w'

/-- Four bytes in a block. -/
def Four (w : World) (R : Nat) : Prop := ∃ x0 x1 x2 x3 : Int, Blk w R #[.int .u8 x0, .int .u8 x1, .int .u8 x2, .int .u8 x3] 5

theorem push_size (ns : List Int) : ∀ s : ByteArray, (ns.foldl (fun r n => r.push (UInt8.ofNat n.toNat)) s).size = s.size + ns.length := by
  induction ns with
  | nil => intro s; simp
  | cons n ns ih => intro s; simp only [List.foldl_cons]; rw [ih]; simp; omega

theorem four_string {W : World} {R : Nat} {x0 x1 x2 x3 : Int} (h : Blk W R #[.int .u8 x0, .int .u8 x1, .int .u8 x2, .int .u8 x3] 5) (m : Nat) (hm : m ≤ 4) :
    ∃ s : ByteArray, s.size = m ∧ (convert 89 9 (.slice (some ⟨R, 0, none⟩) m 4)).run Try.prog W = .ok (.string s) W := by
  have hc : ∀ j v, (([x0, x1, x2, x3].take m).map (Value.int .u8))[j]? = some v → W.cell? ((⟨R, 0, none⟩ : Addr).add j) = some v := by
    intro j v hj
    rw [List.map_take] at hj
    have hlt : j < m := by
      have := (List.getElem?_eq_some_iff.1 hj).1
      simp at this; omega
    rw [List.getElem?_take_of_lt hlt] at hj
    rw [Addr.add_lit, Nat.zero_add]
    exact h.cell j (by simpa using hj)
  have hr := run_loadCells_list (P := Try.prog) W ⟨R, 0, none⟩ _ hc
  have hlen : (([x0, x1, x2, x3].take m).map (Value.int .u8)).length = m := by simp; omega
  rw [hlen] at hr
  refine ⟨_, ?_, (run_convert_bytes_string W 89 9 5 _ _ _ Try.underlying89 Try.underlying5 Try.underlying9).trans (run_bytesToString W _ m 4 _ hr)⟩
  rw [push_size]; simp; omega

set_option maxHeartbeats 800000 in
set_option maxRecDepth 100000 in
theorem marked_calls (w : World) (v : Value) (l : List Int) (h : Sl w v 3 1 l.length (l.map vi)) (hl : l.length ≤ 100000) (hx : ∀ x ∈ l, 0 ≤ x ∧ x ≤ 32) :
    Calls Try.prog 31 #[v] w (MarkedP w) := by
  obtain ⟨a, cap, rfl, hcap, hmax⟩ := Sl.form h
  have hmk : ∀ W : World, (Instr.makeSlice 89 (.int .i64 4) (.int .i64 4)).run Try.prog W = .ok (.slice (some ⟨W.heap.size, 0, none⟩) 4 4) (W.alloc (.cells #[.int .u8 0, .int .u8 0, .int .u8 0, .int .u8 0] 5)) := fun _ => by kernel_rfl
  go_enter Try.func31, Try.ntmps31
  go_wp2
  clear hmk
  have hsl : ∀ k (hk : k < l.length), ∃ B off, a = some ⟨B, off, none⟩ ∧ w.cell? ⟨B, off + k, none⟩ = some (vi l[k]) ∧ B < w.heap.size := by
    intro k hk
    obtain ⟨B, off, cap', hv, _, _, hc, _, hB⟩ := Sl.some h (by omega)
    injection hv with ha _ _
    subst ha
    exact ⟨B, off, rfl, hc k _ (by simp [hk]), Sl.lt h B (by simp [slB])⟩
  go_loopw [10] (fun i wr => ∃ k : Nat, k ≤ l.length ∧ i = .int .i64 k ∧ Four wr w.heap.size ∧ Below w.heap.size w wr) (fun i _ => l.length - (intOf i).toNat)
  case atStart => exact ⟨0, Nat.zero_le _, rfl, ⟨0, 0, 0, 0, Blk.new w _ 5⟩, (Below.refl _ w).alloc (Nat.le_refl _) _⟩
  case round =>
    obtain ⟨k, hk, rfl, ⟨x0, x1, x2, x3, hB⟩, hbl⟩ := hrel
    by_cases hlt : k < l.length
    · obtain ⟨B, off, rfl, hc, hBl⟩ := hsl k hlt
      obtain ⟨y1, y2⟩ := hx l[k] (List.getElem_mem hlt)
      have hc' := (hbl.cell (p := ⟨B, off + k, none⟩) hBl).trans hc
      generalize l[k] = y at *
      clear hsl hc hx
      by_cases h32 : y < 32
      · obtain ⟨q, hq⟩ : ∃ q : Nat, y = q := ⟨y.toNat, by omega⟩
        subst hq
        have g : ∀ i, wr.frozen? ⟨w.heap.size, i, none⟩ = false := hB.frozen
        have c0 : wr.cell? ⟨w.heap.size, 0, none⟩ = some (.int .u8 x0) := hB.cell 0 rfl
        have c1 : wr.cell? ⟨w.heap.size, 1, none⟩ = some (.int .u8 x1) := hB.cell 1 rfl
        have c2 : wr.cell? ⟨w.heap.size, 2, none⟩ = some (.int .u8 x2) := hB.cell 2 rfl
        have c3 : wr.cell? ⟨w.heap.size, 3, none⟩ = some (.int .u8 x3) := hB.cell 3 rfl
        have e8 : (q : Int) / 8 = 0 ∨ (q : Int) / 8 = 1 ∨ (q : Int) / 8 = 2 ∨ (q : Int) / 8 = 3 := by omega
        have m8 : 0 ≤ (q : Int) % 8 := by omega
        rcases e8 with e8 | e8 | e8 | e8
        · have k0 := fun v : Value => Blk.set hB 0 v
          go_wp2
          go_region
          all_goals go_wp2
          all_goals go_roundw
          all_goals first | exact ⟨k + 1, by omega, by go_num, ⟨_, _, _, _, k0 _⟩, (hbl.setCell (p := ⟨w.heap.size, 0, none⟩) (Nat.le_refl _) _).drew⟩ | (simp [intOf]; omega)
        · have k0 := fun v : Value => Blk.set hB 1 v
          go_wp2
          go_region
          all_goals go_wp2
          all_goals go_roundw
          all_goals first | exact ⟨k + 1, by omega, by go_num, ⟨_, _, _, _, k0 _⟩, (hbl.setCell (p := ⟨w.heap.size, 1, none⟩) (Nat.le_refl _) _).drew⟩ | (simp [intOf]; omega)
        · have k0 := fun v : Value => Blk.set hB 2 v
          go_wp2
          go_region
          all_goals go_wp2
          all_goals go_roundw
          all_goals first | exact ⟨k + 1, by omega, by go_num, ⟨_, _, _, _, k0 _⟩, (hbl.setCell (p := ⟨w.heap.size, 2, none⟩) (Nat.le_refl _) _).drew⟩ | (simp [intOf]; omega)
        · have k0 := fun v : Value => Blk.set hB 3 v
          go_wp2
          go_region
          all_goals go_wp2
          all_goals go_roundw
          all_goals first | exact ⟨k + 1, by omega, by go_num, ⟨_, _, _, _, k0 _⟩, (hbl.setCell (p := ⟨w.heap.size, 3, none⟩) (Nat.le_refl _) _).drew⟩ | (simp [intOf]; omega)
      · go_wp2
        go_roundw
        case rel => exact ⟨k + 1, by omega, by go_num, ⟨x0, x1, x2, x3, hB⟩, hbl⟩
        case measure => simp [intOf]; omega
    · clear hsl
      have c0 : wr.cell? ⟨w.heap.size, 0, none⟩ = some (.int .u8 x0) := hB.cell 0 rfl
      have c1 : wr.cell? ⟨w.heap.size, 1, none⟩ = some (.int .u8 x1) := hB.cell 1 rfl
      have c2 : wr.cell? ⟨w.heap.size, 2, none⟩ = some (.int .u8 x2) := hB.cell 2 rfl
      have c3 : wr.cell? ⟨w.heap.size, 3, none⟩ = some (.int .u8 x3) := hB.cell 3 rfl
      go_wp2
      go_loop [6] (fun i => ∃ m : Nat, m ≤ 4 ∧ i = .int .i64 m) (fun i => (intOf i).toNat)
      case atStart => exact ⟨4, by omega, rfl⟩
      case round =>
        obtain ⟨m, hm, rfl⟩ := hrel
        obtain rfl | rfl | rfl | rfl | rfl : m = 0 ∨ m = 1 ∨ m = 2 ∨ m = 3 ∨ m = 4 := by omega
        all_goals
          obtain ⟨s, hs, hcv⟩ := four_string hB _ hm
          have Hs : s.size ≤ 4 := by omega
          clear hs
          go_wp2
          all_goals first
            | (go_ret; exact ⟨s, rfl, Hs, hbl⟩)
            | (go_round
               case rel => first | exact ⟨0, by omega, rfl⟩ | exact ⟨1, by omega, rfl⟩ | exact ⟨2, by omega, rfl⟩ | exact ⟨3, by omega, rfl⟩
               case measure => simp [intOf])
end Go.Proofs.Ytglbfgpdmlkamaa
