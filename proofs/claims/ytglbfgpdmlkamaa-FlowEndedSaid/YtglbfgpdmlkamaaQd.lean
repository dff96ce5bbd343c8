/-
  Cutting a slice of packets.
-/
import Derived.Test.YtglbfgpdmlkamaaPair
import Derived.Test.YtglbfgpdmlkamaaRgp
namespace Go.Proofs.Ytglbfgpdmlkamaa
open Go.RowKit Go.Flw

theorem Seg.cells_length (s : Seg) : s.cells.length = 9 := rfl

theorem segCells_take : ∀ (l : List Seg) (m : Nat), (segCells l).take (m * 9) = segCells (l.take m)
  | [], m => by simp [segCells]
  | s :: l, 0 => by simp [segCells]
  | s :: l, m + 1 => by
    have e : segCells (s :: l) = s.cells ++ segCells l := rfl
    have e2 : segCells ((s :: l).take (m + 1)) = s.cells ++ segCells (l.take m) := rfl
    rw [e, e2, ← segCells_take l m, List.take_append, Seg.cells_length]
    have h1 : (m + 1) * 9 - 9 = m * 9 := by omega
    rw [h1, List.take_of_length_le (by rw [Seg.cells_length]; omega)]

theorem segCells_drop : ∀ (l : List Seg) (m : Nat), (segCells l).drop (m * 9) = segCells (l.drop m)
  | [], m => by simp [segCells]
  | s :: l, 0 => by simp
  | s :: l, m + 1 => by
    have e : segCells (s :: l) = s.cells ++ segCells l := rfl
    have e2 : segCells ((s :: l).drop (m + 1)) = segCells (l.drop m) := rfl
    rw [e, e2, ← segCells_drop l m, List.drop_append, Seg.cells_length]
    have h1 : (m + 1) * 9 - 9 = m * 9 := by omega
    rw [h1, List.drop_of_length_le (by rw [Seg.cells_length]; omega), List.nil_append]

theorem SSl.cut {w : World} {a : Option Addr} {n cap : Nat} {l : List Seg} (hn : l.length = n) (h : SSl w (.slice a n cap) l) (i m : Nat) (hi : i ≤ m) (hm : m ≤ n) :
    SSl w (sliced a i m cap 9) ((l.take m).drop i) ∧ slB (sliced a i m cap 9) = slB (.slice a n cap) := by
  have h' : Sl w (.slice a n cap) 70 9 n (segCells l) := hn ▸ h
  have := Sl.cut h' i m hi hm
  refine ⟨?_, this.2⟩
  have e : ((l.take m).drop i).length = m - i := by simp; omega
  rw [SSl, e, ← segCells_drop, ← segCells_take]
  exact this.1

/-- The first packets and those behind them. -/
theorem SSl.halves {w : World} {a : Option Addr} {n cap : Nat} {l : List Seg} (hn : l.length = n) (h : SSl w (.slice a n cap) l) (m : Nat) (hm : m ≤ n) :
    SSl w (sliced a 0 m cap 9) (l.take m) ∧ SSl w (sliced a m n cap 9) (l.drop m) ∧ slB (sliced a 0 m cap 9) = slB (.slice a n cap) ∧ slB (sliced a m n cap 9) = slB (.slice a n cap) := by
  have h1 := SSl.cut hn h 0 m (Nat.zero_le _) hm
  have h2 := SSl.cut hn h m n hm (Nat.le_refl _)
  refine ⟨by simpa using h1.1, ?_, h1.2, h2.2⟩
  have e : l.take n = l := List.take_of_length_le (by omega)
  rw [e] at h2
  exact h2.1
end Go.Proofs.Ytglbfgpdmlkamaa
