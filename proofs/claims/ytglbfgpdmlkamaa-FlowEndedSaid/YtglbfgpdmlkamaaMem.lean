/-
  What lies in memory, block by block, and what a step leaves as it was; no program is named here.
-/
import Derived.WalkKit
import Derived.WalkSpells
import Derived.RangeFuncNested
import Derived.RangeFuncBound
import Derived.RangeFuncCalls
import Derived.RangeFuncLeaves
import Derived.Deep.QuietTactic
import Derived.BigQuiet
import Derived.Maps.RangeWalk
namespace Go.Flw
open Go.RowKit
open Go.ChangeMaps (setBlock)

/-- Only the blocks of S, and new ones, have turned. -/
structure Chg (S : Nat → Prop) (w w' : World) : Prop where
  os : w'.os = w.os
  tape : w'.tape = w.tape
  output : w'.output = w.output
  size : w.heap.size ≤ w'.heap.size
  block : ∀ i, i < w.heap.size → ¬ S i → w'.heap[i]? = w.heap[i]?

theorem Chg.refl (S : Nat → Prop) (w : World) : Chg S w w := ⟨rfl, rfl, rfl, Nat.le_refl _, fun _ _ _ => rfl⟩
theorem Chg.trans {S : Nat → Prop} {a b c : World} (h : Chg S a b) (k : Chg (fun i => S i ∨ a.heap.size ≤ i) b c) : Chg S a c :=
  ⟨k.os.trans h.os, k.tape.trans h.tape, k.output.trans h.output, Nat.le_trans h.size k.size, fun i hi hs =>
    (k.block i (Nat.lt_of_lt_of_le hi h.size) (fun hh => hh.elim hs (fun hle => by omega))).trans (h.block i hi hs)⟩
theorem Chg.mono {S T : Nat → Prop} {a b : World} (h : Chg S a b) (hst : ∀ i, i < a.heap.size → S i → T i) : Chg T a b :=
  ⟨h.os, h.tape, h.output, h.size, fun i hi hn => h.block i hi (fun hs => hn (hst i hi hs))⟩
theorem Chg.comp {S : Nat → Prop} {a b c : World} (h : Chg S a b) (k : Chg S b c) : Chg S a c :=
  h.trans (k.mono fun _ _ hs => .inl hs)
theorem Chg.drew {S : Nat → Prop} {a w : World} (h : Chg S a w) : Chg S a w.drew := ⟨h.os, h.tape, h.output, h.size, h.block⟩
theorem Chg.drewN {S : Nat → Prop} {a w : World} (h : Chg S a w) (n : Nat) : Chg S a (w.drewN n) := ⟨h.os, h.tape, h.output, h.size, h.block⟩
theorem Chg.alloc {S : Nat → Prop} {a w : World} (h : Chg S a w) (o : Obj) : Chg S a (w.alloc o) :=
  ⟨h.os, h.tape, h.output, Nat.le_trans h.size (by simp), fun i hi hs => (Below.heap_alloc w o i (Nat.lt_of_lt_of_le hi h.size)).trans (h.block i hi hs)⟩
theorem Chg.setCell {S : Nat → Prop} {a w : World} (h : Chg S a w) {p : Addr} (hp : S p.block ∨ a.heap.size ≤ p.block) (u : Value) : Chg S a (w.setCell p u) :=
  ⟨h.os, h.tape, h.output, by simpa using h.size, fun i hi hs => (Below.heap_setCell w p u i (by
    rintro rfl
    rcases hp with hp | hp
    · exact hs hp
    · omega)).trans (h.block i hi hs)⟩
theorem Chg.putObj {S : Nat → Prop} {a w : World} (h : Chg S a w) {l : Nat} (hp : S l ∨ a.heap.size ≤ l) (o : Obj) : Chg S a (w.putObj l o) :=
  ⟨h.os, h.tape, h.output, by simpa using h.size, fun i hi hs => (World.putObj_heap_other (by
    rintro rfl
    rcases hp with hp | hp
    · exact hs hp
    · omega)).trans (h.block i hi hs)⟩
theorem Chg.of_below {S : Nat → Prop} {w w' : World} (h : Below w.heap.size w w') : Chg S w w' := ⟨h.os, h.tape, h.output, h.size, fun i hi _ => h.block i hi⟩
theorem Chg.below {S : Nat → Prop} {B : Nat} {w w' : World} (h : Chg S w w') (hB : B ≤ w.heap.size) (hs : ∀ i, S i → B ≤ i) : Below B w w' :=
  ⟨h.os, h.tape, h.output, h.size, fun i hi => h.block i (by omega) (fun hh => by have := hs i hh; omega)⟩
theorem Chg.at {S : Nat → Prop} {w w' : World} (h : Chg S w w') {b : Nat} {o : Obj} (hb : w.heap[b]? = some o) (hs : ¬ S b) : w'.heap[b]? = some o :=
  (h.block b (Array.getElem?_eq_some_iff.1 hb).1 hs).trans hb

/-- Block b holds the cells cs, none of them frozen. -/
def Blk (w : World) (b : Nat) (cs : Array Value) (T : TypeId) : Prop := w.heap[b]? = some (.cells cs T (0, 0))

theorem Blk.lt {w : World} {b : Nat} {cs : Array Value} {T : TypeId} (h : Blk w b cs T) : b < w.heap.size := (Array.getElem?_eq_some_iff.1 h).1
theorem Blk.cell {w : World} {b : Nat} {cs : Array Value} {T : TypeId} (h : Blk w b cs T) (i : Nat) {v : Value} (hv : cs[i]? = some v) : w.cell? ⟨b, i, none⟩ = some v := by
  unfold Blk at h; simp [World.cell?, h, hv]
theorem Blk.frozen {w : World} {b : Nat} {cs : Array Value} {T : TypeId} (h : Blk w b cs T) (i : Nat) : w.frozen? ⟨b, i, none⟩ = false := by
  unfold Blk at h; simp [World.frozen?, h]
theorem Blk.chg {w w' : World} {S : Nat → Prop} {b : Nat} {cs : Array Value} {T : TypeId} (h : Blk w b cs T) (hc : Chg S w w') (hs : ¬ S b) : Blk w' b cs T := hc.at h hs
theorem Blk.alloc {w : World} {b : Nat} {cs : Array Value} {T : TypeId} (h : Blk w b cs T) (o : Obj) : Blk (w.alloc o) b cs T := (Below.heap_alloc w o b h.lt).trans h
theorem Blk.new (w : World) (cs : Array Value) (T : TypeId) : Blk (w.alloc (.cells cs T)) w.heap.size cs T := World.alloc_heap_new w _
theorem Blk.drew {w : World} {b : Nat} {cs : Array Value} {T : TypeId} (h : Blk w b cs T) : Blk w.drew b cs T := h
theorem Blk.set {w : World} {b : Nat} {cs : Array Value} {T : TypeId} (h : Blk w b cs T) (i : Nat) (v : Value) : Blk (w.setCell ⟨b, i, none⟩ v) b (cs.setIfInBounds i v) T := by
  obtain ⟨hlt, he⟩ := Array.getElem?_eq_some_iff.1 h
  show (w.heap.modify b _)[b]? = _
  rw [Array.getElem?_eq_getElem (by rw [Array.size_modify]; exact hlt), Array.getElem_modify_self, he]
  simp
theorem Blk.other {w : World} {b c : Nat} {cs : Array Value} {T : TypeId} (h : Blk w b cs T) (hne : b ≠ c) (i : Nat) (v : Value) : Blk (w.setCell ⟨c, i, none⟩ v) b cs T :=
  (Below.heap_setCell w _ v b hne).trans h
theorem heap_set_other {w : World} {b c : Nat} {o : Obj} (h : w.heap[b]? = some o) (hne : b ≠ c) (i : Nat) (v : Value) : (w.setCell ⟨c, i, none⟩ v).heap[b]? = some o :=
  (Below.heap_setCell w _ v b hne).trans h
theorem heap_alloc_old {w : World} {b : Nat} {o : Obj} (h : w.heap[b]? = some o) (o' : Obj) : (w.alloc o').heap[b]? = some o :=
  (Below.heap_alloc w o' b (Array.getElem?_eq_some_iff.1 h).1).trans h
theorem Blk.put {w : World} {b l : Nat} {cs : Array Value} {T : TypeId} (h : Blk w b cs T) (hne : b ≠ l) (o : Obj) : Blk (w.putObj l o) b cs T := (World.putObj_heap_other hne).trans h

theorem cell_last {W : World} {c : Array Value} {t : TypeId} {k i : Nat} (hk : W.heap.size = k) : (W.alloc (.cells c t)).cell? ⟨k, i, none⟩ = c[i]? := by subst hk; simp
theorem one_new {W : World} {a : Addr} {x : Value} (h : W.cell? a = some x) : ∀ (j : Nat) (u : Value), [x][j]? = some u → W.cell? (a.add j) = some u := by
  intro j u hu
  cases j with
  | zero => simp at hu; subst hu; simpa [Addr.add] using h
  | succ j => simp at hu
theorem one_ptr (a : Option Addr) : ∀ u ∈ [Value.pointer a], u.oneCell' = true := by intro u hu; simp at hu; subst hu; rfl

theorem Blk.below {w w' : World} {B b : Nat} {cs : Array Value} {T : TypeId} (h : Blk w b cs T) (hc : Below B w w') (hb : b < B) : Blk w' b cs T := (hc.block b hb).trans h
theorem belowDrewN {B : Nat} {a w : World} (h : Below B a w) (n : Nat) : Below B a (w.drewN n) := ⟨h.os, h.tape, h.output, h.size, h.block⟩
theorem Below.putNew {B : Nat} {a w : World} (h : Below B a w) {l : Nat} (hl : B ≤ l) (o : Obj) : Below B a (w.putObj l o) :=
  ⟨h.os, h.tape, h.output, by simpa using h.size, fun i hi => (World.putObj_heap_other (by omega)).trans (h.block i hi)⟩
/-- A block that holds a loop's record holds no cells. -/
theorem Blk.putLoop {w : World} {b l : Nat} {cs : Array Value} {T : TypeId} {o : Loop} (h : Blk w b cs T) (hl : w.heap[l]? = some (.loop o)) (o' : Obj) : Blk (w.putObj l o') b cs T :=
  h.put (by rintro rfl; rw [h] at hl; cases hl) o'

theorem heap_set (w : World) {b c : Nat} (hne : b ≠ c) (i : Nat) (v : Value) : (w.setCell ⟨c, i, none⟩ v).heap[b]? = w.heap[b]? := Below.heap_setCell w _ v b hne

/-! ### A slice that owns its block -/
/-- The block of a slice. -/
def slB : Value → List Nat
  | .slice (some a) _ _ => [a.block]
  | _ => []

/-- The slice v of n elements of type T (each so many cells) reads as the cells cs. -/
def Sl (w : World) (v : Value) (T : TypeId) (size n : Nat) (cs : List Value) : Prop :=
  cs.length = n * size ∧ ((v = .slice none 0 0 ∧ n = 0) ∨
  ∃ B off cap arr, v = .slice (some ⟨B, off, none⟩) n cap ∧ Blk w B arr T ∧ n ≤ cap ∧ off + cap * size ≤ arr.size ∧ cap ≤ maxLen ∧ ∀ i, i < n * size → arr[off + i]? = cs[i]?)

theorem Sl.nil (w : World) (T : TypeId) (size : Nat) : Sl w (.slice none 0 0) T size 0 [] := ⟨by simp, .inl ⟨rfl, rfl⟩⟩

theorem Sl.chg {w w' : World} {v : Value} {T : TypeId} {size n : Nat} {cs : List Value} {S : Nat → Prop} (h : Sl w v T size n cs) (hc : Chg S w w') (hs : ∀ b ∈ slB v, ¬ S b) : Sl w' v T size n cs := by
  refine ⟨h.1, ?_⟩
  rcases h.2 with h | ⟨B, off, cap, arr, rfl, hb, h1, h2, h3⟩
  · exact .inl h
  · exact .inr ⟨B, off, cap, arr, rfl, hb.chg hc (hs B (by simp [slB])), h1, h2, h3⟩

theorem Sl.lt {w : World} {v : Value} {T : TypeId} {size n : Nat} {cs : List Value} (h : Sl w v T size n cs) : ∀ b ∈ slB v, b < w.heap.size := by
  rcases h.2 with ⟨rfl, _⟩ | ⟨B, off, cap, arr, rfl, hb, _⟩
  · simp [slB]
  · intro b hb'; simp [slB] at hb'; subst hb'; exact hb.lt

/-- What a slice is: nil, or a place with a capacity. -/
theorem Sl.form {w : World} {v : Value} {T : TypeId} {size n : Nat} {cs : List Value} (h : Sl w v T size n cs) : ∃ a cap, v = .slice a n cap ∧ n ≤ cap ∧ cap ≤ maxLen := by
  rcases h.2 with ⟨rfl, rfl⟩ | ⟨B, off, cap, arr, rfl, hb, h1, h2, h3, _⟩
  · exact ⟨none, 0, rfl, Nat.le_refl _, by simp [maxLen]⟩
  · exact ⟨_, cap, rfl, h1, h3⟩

theorem Sl.alloc {w : World} {v : Value} {T : TypeId} {size n : Nat} {cs : List Value} (h : Sl w v T size n cs) (o : Obj) : Sl (w.alloc o) v T size n cs :=
  h.chg (S := fun _ => False) ((Chg.refl _ _).alloc o) (fun _ _ hh => hh)

/-- A nonempty slice's place, its cells. -/
theorem Sl.some {w : World} {v : Value} {T : TypeId} {size n : Nat} {cs : List Value} (h : Sl w v T size n cs) (hn : 0 < n) :
    ∃ B off cap, v = .slice (some ⟨B, off, none⟩) n cap ∧ n ≤ cap ∧ cap ≤ maxLen ∧ (∀ i x, cs[i]? = some x → w.cell? ⟨B, off + i, none⟩ = some x) ∧ (∀ i, w.frozen? ⟨B, i, none⟩ = false) ∧ slB v = [B] := by
  rcases h.2 with ⟨rfl, rfl⟩ | ⟨B, off, cap, arr, rfl, hb, h1, h2, h3, h4⟩
  · omega
  · refine ⟨B, off, cap, rfl, h1, h3, fun i x hx => hb.cell _ ?_, hb.frozen, rfl⟩
    rw [h4 i (by have := (List.getElem?_eq_some_iff.1 hx).1; rw [h.1] at this; exact this)]; exact hx

section append
variable {P : Program} (w : World)

theorem run_append_room_at (t ty e : TypeId) (i : TypeInfo) (ht : P.underlying t = some (.slice e)) (hi : P.info? e = some i)
    (g off sLen sCap : Nat) (cur : Array Value) (hg : w.heap[g]? = some (.cells cur e (0, 0)))
    (a : Addr) (m c : Nat) (news : List Value) (hl : news.length = m * i.size) (hnews : ∀ j u, news[j]? = some u → w.cell? (a.add j) = some u) (h1 : ∀ u ∈ news, u.oneCell' = true)
    (hroom : sLen + m ≤ sCap) (hfit : off + sLen * i.size + news.length ≤ cur.size) :
    (Builtin.append_ #[t, t] ty #[.slice (some ⟨g, off, none⟩) sLen sCap, .slice (some a) m c]).run P w =
      .ok (.slice (some ⟨g, off, none⟩) (sLen + m) sCap) (w.setRow g (cur.toList.take (off + sLen * i.size) ++ news ++ cur.toList.drop (off + sLen * i.size + news.length)).toArray) := by
  have hf := run_firstCells_some (P := P) w i.size m a m c news hl hnews
  have hst := run_storeCells_at P g (off + sLen * i.size) e news 0 cur w hg (by simpa using hfit) h1
  simp only [Nat.add_zero] at hst
  simp [Builtin.append_, run_underlying ht, sizeOf, typeInfo, hi, Builtin.lenOf, hroom, hf, Addr.add_lit, hst]

theorem Chg.setRow {S : Nat → Prop} {a w : World} (h : Chg S a w) {g : Nat} (hp : S g ∨ a.heap.size ≤ g) (cs : Array Value) : Chg S a (w.setRow g cs) :=
  ⟨h.os, h.tape, h.output, by simpa [World.setRow] using h.size, fun i hi hs => (setRow_other w g i cs (by
    rintro rfl
    rcases hp with hp | hp
    · exact hs hp
    · omega)).trans (h.block i hi hs)⟩

theorem run_append_sl (t ty e : TypeId) (i : TypeInfo) (z : Value) (size bytes : Nat) (ht : P.underlying t = some (.slice e)) (hi : P.info? e = some i) (hz : i.zero = some z)
    (hsize : i.size = size) (hby : i.bytes = bytes) (hzs : z.cells.size = size)
    (v : Value) (n : Nat) (xs : List Value) (hown : Sl w v e size n xs)
    (a : Addr) (m c : Nat) (news : List Value) (hl : news.length = m * size) (hnews : ∀ j u, news[j]? = some u → w.cell? (a.add j) = some u) (h1 : ∀ u ∈ news, u.oneCell' = true)
    (hm : 0 < m) (h63 : n + m ≤ maxLen) (hbytes : (n + m) * bytes ≤ 140737488355328) :
    ∃ v' w', (Builtin.append_ #[t, t] ty #[v, .slice (some a) m c]).run P w = .ok v' w' ∧ Sl w' v' e size (n + m) (xs ++ news) ∧ Chg (· ∈ slB v) w w' ∧ (∀ x ∈ slB v', x ∈ slB v ∨ x = w.heap.size) := by
  subst hsize
  subst hby
  have hsmall : n + m ≤ 9223372036854775807 := by simp only [maxLen] at h63; omega
  have hlen : (xs ++ news).length = (n + m) * i.size := by rw [List.length_append, hown.1, hl, Nat.add_mul]
  have grown : ∀ (old : Nat), old < n + m → Sl (w.drew.alloc (.cells (xs.toArray ++ news.toArray ++ Builtin.zeroCells z.cells (grownCap w (n + m) old e - (n + m))) e)) (.slice (some ⟨w.heap.size, 0, none⟩) (n + m) (grownCap w (n + m) old e)) e i.size (n + m) (xs ++ news) := by
    intro old ho
    have hge := grownCap_ge w (n + m) old e
    have hcm : grownCap w (n + m) old e ≤ maxLen := grownCap_le_maxLen w (n + m) old e h63
    refine ⟨hlen, .inr ⟨w.heap.size, 0, _, _, rfl, World.alloc_heap_new w.drew _, hge, ?_, hcm, ?_⟩⟩
    · simp only [Array.size_append, List.size_toArray, size_zeroCells, hzs, hown.1, hl, ← Nat.add_mul]
      rw [Nat.zero_add]
      exact Nat.mul_le_mul_right _ (by omega)
    · intro j hj
      rw [Nat.zero_add, Array.getElem?_append_left (by simp; simp at hlen; omega)]
      simp
  rcases hown.2 with ⟨rfl, rfl⟩ | ⟨g, off, cap, cur, rfl, hg, hnc, hcs, hcm, hcell⟩
  · have hx : xs = [] := List.eq_nil_of_length_eq_zero (by simpa using hown.1)
    subst hx
    have hr := run_append_nil (P := P) w t ty e i z ht hi hz a m c news hl hnews (by omega) (by omega) (by have hb := hbytes; simp only [Nat.zero_add] at hb; omega)
    have hgr := grown 0 (by omega)
    simp only [Nat.zero_add, List.nil_append, Array.empty_append] at hgr ⊢
    exact ⟨_, _, hr, hgr, (Chg.refl _ _).drew.alloc _, by simp [slB]⟩
  · by_cases hroom : n + m ≤ cap
    · have hmul : (n + m) * i.size ≤ cap * i.size := Nat.mul_le_mul_right _ hroom
      rw [Nat.add_mul] at hmul
      have hfit : off + n * i.size + news.length ≤ cur.size := by rw [hl]; omega
      have hr := run_append_room_at (P := P) w t ty e i ht hi g off n cap cur hg a m c news hl hnews h1 hroom hfit
      refine ⟨_, _, hr, ⟨hlen, .inr ⟨g, off, cap, _, rfl, setRow_heap w g cur _ e _ hg, hroom, ?_, hcm, ?_⟩⟩, (Chg.refl _ _).setRow (.inl (by simp [slB])) _, by simp [slB]⟩
      · simp only [List.size_toArray, List.length_append, List.length_take, List.length_drop, Array.length_toList]
        omega
      · intro j hj
        simp only [List.getElem?_toArray, List.append_assoc]
        have hxl := hown.1
        by_cases hjn : j < n * i.size
        · rw [List.getElem?_append_left (by simp; omega), List.getElem?_append_left (by omega), List.getElem?_take_of_lt (by omega), Array.getElem?_toList]
          exact hcell j hjn
        · have e1 : (List.take (off + n * i.size) cur.toList).length = off + n * i.size := by simp; omega
          rw [Nat.add_mul] at hj
          have l1 := List.getElem?_append_right (l₁ := List.take (off + n * i.size) cur.toList) (l₂ := news ++ List.drop (off + n * i.size + news.length) cur.toList) (i := off + j) (by omega)
          have l2 := List.getElem?_append_right (l₁ := xs) (l₂ := news) (i := j) (by omega)
          rw [l1, l2, e1, hxl, List.getElem?_append_left (by omega)]
          congr 1
          omega
    · have holds : ∀ j u, xs[j]? = some u → w.cell? ((⟨g, off, none⟩ : Addr).add j) = some u := by
        intro j u hu
        have hj := (List.getElem?_eq_some_iff.1 hu).1
        rw [hown.1] at hj
        rw [Addr.add_lit]
        exact Blk.cell hg _ ((hcell j hj).trans hu)
      have hr := run_append_grow (P := P) w t ty e i z ht hi hz ⟨g, off, none⟩ n cap xs hown.1 holds a m c news hl hnews (by omega) (by omega) (growslice_fits (by omega) hbytes)
      exact ⟨_, _, hr, grown cap (by omega), (Chg.refl _ _).drew.alloc _, by simp [slB]⟩

theorem wp_append_sl {o : Oper} {ac : Act} {K : Act → World → Prop} {Q : Exit → Act → World → Prop} (s x : Operand) (t : TypeId)
    (ho : o.op = .call { callee := .builtin .append, args := #[s, x], argTypes := #[t, t] })
    (e : TypeId) (i : TypeInfo) (z : Value) (size bytes : Nat) (ht : P.underlying t = some (.slice e)) (hi : P.info? e = some i) (hz : i.zero = some z)
    (hsize : i.size = size) (hby : i.bytes = bytes) (hzs : z.cells.size = size)
    (v : Value) (n : Nat) (xs : List Value) (hs : ac.eval s = v) (hown : Sl w v e size n xs)
    (a : Addr) (m c : Nat) (news : List Value) (hx : ac.eval x = .slice (some a) m c) (hl : news.length = m * size) (hnews : ∀ j u, news[j]? = some u → w.cell? (a.add j) = some u) (h1 : ∀ u ∈ news, u.oneCell' = true)
    (hm : 0 < m) (h63 : n + m ≤ maxLen) (hbytes : (n + m) * bytes ≤ 140737488355328)
    (h : ∀ v' w', Sl w' v' e size (n + m) (xs ++ news) → Chg (· ∈ slB v) w w' → (∀ x ∈ slB v', x ∈ slB v ∨ x = w.heap.size) → K (ac.put o.dst v') w') : o.wp P ac w K Q := by
  obtain ⟨v', w', hr, h2, h3, h4⟩ := run_append_sl (P := P) w t o.type e i z size bytes ht hi hz hsize hby hzs v n xs hown a m c news hl hnews h1 hm h63 hbytes
  unfold Oper.wp execOp
  simp only [ho, resolve, invoke, builtin, Sem.run_bind, Sem.run_pure, Result.andThen_ok, List.map_toArray, List.map_cons, List.map_nil, hs, hx, hr]
  exact h v' w' h2 h3 h4

theorem wpList_append_sl {ops : Array Oper} {rest : List Oper} {o : Oper} {ac : Act} {Q : Exit → Act → World → Prop} (hgd : o.guard = none) (s x : Operand) (t : TypeId)
    (ho : o.op = .call { callee := .builtin .append, args := #[s, x], argTypes := #[t, t] })
    (e : TypeId) (i : TypeInfo) (z : Value) (size bytes : Nat) (ht : P.underlying t = some (.slice e)) (hi : P.info? e = some i) (hz : i.zero = some z)
    (hsize : i.size = size) (hby : i.bytes = bytes) (hzs : z.cells.size = size)
    (v : Value) (n : Nat) (xs : List Value) (hs : ac.eval s = v) (hown : Sl w v e size n xs)
    (a : Addr) (m c : Nat) (news : List Value) (hx : ac.eval x = .slice (some a) m c) (hl : news.length = m * size) (hnews : ∀ j u, news[j]? = some u → w.cell? (a.add j) = some u) (h1 : ∀ u ∈ news, u.oneCell' = true)
    (hm : 0 < m) (h63 : n + m ≤ maxLen) (hbytes : (n + m) * bytes ≤ 140737488355328)
    (h : ∀ v' w', Sl w' v' e size (n + m) (xs ++ news) → Chg (· ∈ slB v) w w' → (∀ x ∈ slB v', x ∈ slB v ∨ x = w.heap.size) → wpList P ops Q rest (ac.put o.dst v') w') : wpList P ops Q (o :: rest) ac w :=
  wpList_plain hgd fun _ hK => wp_append_sl w s x t ho e i z size bytes ht hi hz hsize hby hzs v n xs hs hown a m c news hx hl hnews h1 hm h63 hbytes fun v' w' h2 h3 h4 => hK _ _ (h v' w' h2 h3 h4)
/-- The same as one step of a region that draws its order. -/
theorem step_append_sl {ops : Array Oper} {o : Oper} {ac : Act} {K : Act → World → Prop} {Q : Exit → Act → World → Prop} {G : Prop} (hgd : o.guard = none) (s x : Operand) (t : TypeId)
    (ho : o.op = .call { callee := .builtin .append, args := #[s, x], argTypes := #[t, t] })
    (e : TypeId) (i : TypeInfo) (z : Value) (size bytes : Nat) (ht : P.underlying t = some (.slice e)) (hi : P.info? e = some i) (hz : i.zero = some z)
    (hsize : i.size = size) (hby : i.bytes = bytes) (hzs : z.cells.size = size)
    (v : Value) (n : Nat) (xs : List Value) (hs : ac.eval s = v) (hown : Sl w v e size n xs)
    (a : Addr) (m c : Nat) (news : List Value) (hx : ac.eval x = .slice (some a) m c) (hl : news.length = m * size) (hnews : ∀ j u, news[j]? = some u → w.cell? (a.add j) = some u) (h1 : ∀ u ∈ news, u.oneCell' = true)
    (hm : 0 < m) (h63 : n + m ≤ maxLen) (hbytes : (n + m) * bytes ≤ 140737488355328)
    (h : ∀ v' w', Sl w' v' e size (n + m) (xs ++ news) → Chg (· ∈ slB v) w w' → (∀ x ∈ slB v', x ∈ slB v ∨ x = w.heap.size) → K (ac.put o.dst v') w') :
    if Region.wanted o (yielded ops ac.tmps) = true then Oper.wp P o ac w K Q else G := by
  rw [if_pos (by simp [Region.wanted, hgd])]
  exact wp_append_sl w s x t ho e i z size bytes ht hi hz hsize hby hzs v n xs hs hown a m c news hx hl hnews h1 hm h63 hbytes h
end append

/-! ### A range over a map that no round touches -/
section maps
variable {P : Program}

structure MapIt (w : World) (r m : Nat) (es : Array MapEntry) (clk : Nat) (seen : Array Nat) : Prop where
  it : w.heap[r]? = some (.mapIter (some m) clk seen clk)
  mp : w.heap[m]? = some (.map es clk)
  born : ∀ e ∈ es.toList, e.born < clk

/-- How many entries a range over a map has still to come to. -/
def mapLeft (w : World) (r : Nat) : Nat :=
  match w.heap[r]? with
  | some (.mapIter (some m) _ seen _) => (match w.heap[m]? with | some (.map es _) => (es.filter fun e => !seen.contains e.born).size | _ => 0)
  | _ => 0

theorem MapIt.left {w : World} {r m : Nat} {es : Array MapEntry} {clk : Nat} {seen : Array Nat} (h : MapIt w r m es clk seen) : mapLeft w r = (es.filter fun e => !seen.contains e.born).size := by
  simp [mapLeft, h.it, h.mp]

theorem Below.compChg {B r : Nat} {a b c : World} (h : Below B a b) (hc : Chg (· = r) b c) (hr : B ≤ r) (hB : B ≤ b.heap.size) : Below B a c := h.trans (hc.below hB (fun _ hi => hi ▸ hr))
theorem mapLeft_le {w : World} {r m : Nat} {es : Array MapEntry} {clk : Nat} {seen : Array Nat} (h : MapIt w r m es clk seen) : mapLeft w r ≤ es.size := by
  rw [h.left]; exact Array.size_filter_le
theorem mapLeft_chg {w w' : World} {S : Nat → Prop} {r m : Nat} {es : Array MapEntry} {clk : Nat} {seen : Array Nat} (h : MapIt w r m es clk seen) (hc : Chg S w w') (hr : ¬ S r) (hm : ¬ S m) : mapLeft w' r = mapLeft w r := by
  rw [h.left]; simp [mapLeft, hc.at h.it hr, hc.at h.mp hm]

theorem MapIt.chg {w w' : World} {S : Nat → Prop} {r m : Nat} {es : Array MapEntry} {clk : Nat} {seen : Array Nat} (h : MapIt w r m es clk seen) (hc : Chg S w w') (hr : ¬ S r) (hm : ¬ S m) : MapIt w' r m es clk seen :=
  ⟨hc.at h.it hr, hc.at h.mp hm, h.born⟩

theorem filter_lt {α : Type} (p q : α → Bool) (himp : ∀ x, q x = true → p x = true) (l : List α) (a : α) (h : a ∈ l) (hp : p a = true) (hq : q a = false) : (l.filter q).length < (l.filter p).length := by
  have e1 : l.filter q = (l.filter p).filter q := by
    rw [List.filter_filter]
    congr 1
    funext x
    cases hx : q x
    · rfl
    · rw [himp x hx]; rfl
  rw [e1]
  refine Nat.lt_of_le_of_ne (List.length_filter_le _ _) fun he => ?_
  have := List.length_filter_eq_length_iff.1 he a (List.mem_filter.2 ⟨h, hp⟩)
  rw [hq] at this; cases this

theorem run_range_m {w : World} {t k e : TypeId} (ht : P.underlying t = some (.map k e)) {m : Nat} {es : Array MapEntry} {clk : Nat} (hm : w.heap[m]? = some (.map es clk)) :
    (Instr.range t (.map (some m))).run P w = .ok (.pointer (some ⟨w.heap.size, 0, none⟩)) (w.alloc (.mapIter (some m) clk #[] clk)) := by
  simp [Instr.range, run_underlying ht, getObj, Sem.run, hm, Result.andThen]

theorem MapIt.start {w : World} {m : Nat} {es : Array MapEntry} {clk : Nat} (hm : w.heap[m]? = some (.map es clk)) (hb : ∀ e ∈ es.toList, e.born < clk) :
    MapIt (w.alloc (.mapIter (some m) clk #[] clk)) w.heap.size m es clk #[] := ⟨World.alloc_heap_new w _, heap_alloc_old hm _, hb⟩

theorem run_entry_some (w : World) (r bm since : Nat) (seen : Array Nat) (es : Array MapEntry) (clock : Nat) (e : MapEntry)
    (hr : w.heap[r]? = some (.mapIter (some bm) since (seen.push e.born) clock)) (hb : w.heap[bm]? = some (.map es clock)) (he : e ∈ es.toList) :
    ∃ e' ∈ es.toList, (Instr.entry (.pointer (some ⟨r, 0, none⟩))).run P w = .ok (.tuple #[e'.key, e'.val]) w := by
  obtain ⟨e', hf⟩ : ∃ e', es.find? (·.born == e.born) = some e' := by
    have : (es.find? (·.born == e.born)).isSome := by
      rw [← Array.find?_toList, List.find?_isSome]
      exact ⟨e, he, by simp⟩
    exact Option.isSome_iff_exists.1 this
  refine ⟨e', ?_, ?_⟩
  · rw [← Array.find?_toList] at hf
    exact List.mem_of_find?_eq_some hf
  · simp only [Instr.entry, getObj, Sem.run_bind, Sem.run, hr, hb, Result.andThen, Array.back?_push, bne_self_eq_false, Bool.false_eq_true, if_false, hf]
    rfl

theorem wpList_next_map {w : World} {ops : Array Oper} {rest : List Oper} {o : Oper} {a : Act} {Q : Exit → Act → World → Prop} (hg : o.guard = none) (it : Operand) (hop : o.op = Op.next it false)
    (r m : Nat) (es : Array MapEntry) (clk : Nat) (seen : Array Nat) (hit : a.eval it = .pointer (some ⟨r, 0, none⟩)) (h : MapIt w r m es clk seen)
    (h0 : mapLeft w r = 0 → wpList P ops Q rest (a.put o.dst (.tuple #[.bool false])) w)
    (h1 : ∀ e ∈ es.toList, ∀ e' ∈ es.toList, ∀ seen' w', MapIt w' r m es clk seen' → mapLeft w' r < mapLeft w r → Chg (· = r) w w' → w'.heap.size = w.heap.size →
      (Instr.entry (.pointer (some ⟨r, 0, none⟩))).run P w' = .ok (.tuple #[e'.key, e'.val]) w' → wpList P ops Q rest (a.put o.dst (.tuple #[.bool true, e.key, e.val])) w') :
    wpList P ops Q (o :: rest) a w := by
  refine wpList_plain hg fun K hK => ?_
  rcases run_next_at (P := P) w o.type r m clk clk seen es clk h.it h.mp h.born (Nat.le_refl _) with ⟨hz, hrun⟩ | ⟨e, he, w1, hw1, hrun⟩
  · unfold Oper.wp execOp
    simp only [hop, hit, Sem.run_bind, Sem.run_pure, hrun, Result.andThen_ok]
    exact hK _ _ (h0 (by rw [h.left]; exact hz))
  · have hlt : r < w1.heap.size := by rcases hw1 with rfl | rfl <;> exact (Array.getElem?_eq_some_iff.1 h.it).1
    have hmp : w1.heap[m]? = some (.map es clk) := by rcases hw1 with rfl | rfl <;> exact h.mp
    have hit1 : w1.heap[r]? = some (.mapIter (some m) clk seen clk) := by rcases hw1 with rfl | rfl <;> exact h.it
    have hne : m ≠ r := by rintro rfl; rw [hmp] at hit1; cases hit1
    have hmem : e ∈ es.toList := by simp [leftOf] at he; simpa using he.1
    have hns : seen.contains e.born = false := by simp [leftOf] at he; simpa using he.2
    obtain ⟨w2, hw2⟩ : ∃ w2, w1.putObj r (.mapIter (some m) clk (seen.push e.born) clk) = w2 := ⟨_, rfl⟩
    have hset : setBlock w1 r (.mapIter (some m) clk (seen.push e.born) clk) = w2 := hw2 ▸ rfl
    rw [hset] at hrun
    have hI : MapIt w2 r m es clk (seen.push e.born) := ⟨by rw [← hw2]; exact World.putObj_heap_same hlt, by rw [← hw2]; exact (World.putObj_heap_other hne).trans hmp, h.born⟩
    obtain ⟨e', he', hen⟩ := run_entry_some (P := P) w2 r m clk seen es clk e hI.it hI.mp hmem
    have hc : Chg (· = r) w w2 := by
      rw [← hw2]
      rcases hw1 with rfl | rfl
      · exact (Chg.refl (· = r) _).putObj (l := r) (.inl rfl) _
      · exact ((Chg.refl (· = r) w).drew).putObj (l := r) (.inl rfl) _
    have hsz : w2.heap.size = w.heap.size := by rw [← hw2]; rcases hw1 with rfl | rfl <;> simp
    have hless : mapLeft w2 r < mapLeft w r := by
      rw [hI.left, h.left]
      have hx : ∀ f : MapEntry → Bool, (es.filter f).size = (es.toList.filter f).length := fun f => by rw [← Array.toList_filter, Array.length_toList]
      rw [hx, hx]
      refine filter_lt _ _ (fun x hx => ?_) _ e hmem (by rw [hns]; rfl) (by simp)
      simp at hx ⊢
      exact hx.1
    unfold Oper.wp execOp
    simp only [hop, hit, Sem.run_bind, Sem.run_pure, hrun, Result.andThen_ok]
    exact hK _ _ (h1 e hmem e' he' _ w2 hI hless hc hsz hen)
end maps

/-! ### A range over a function, every round of which goes on -/
section rf
variable {P : Program} {n : Nat}

/-- The record of a loop over a function. -/
def loopRec (fn : FuncId) (tmps : Array Value) (ps : Array Tmp) (assign body : Code) (D : Nat) (st : LoopState) : Obj :=
  .loop { state := st, pending := none, fn, tmps, params := ps, assign, body, defers := D }

/-- The two blocks of a loop over a function, as they lie between rounds. -/
structure LoopAt (W : World) (l : Nat) (rec_ : LoopState → Obj) (D : Nat) : Prop where
  rec_at : W.heap[l]? = some (rec_ .ready)
  def_at : W.heap[D]? = some (.deferred (some []))
  ne : l ≠ D

theorem wide_rangeFunc {g : Operand} {ps : Array Tmp} {assign body : Code} {Q : Exit → Act → World → Prop} {a : Act} {w : World} {gf : Nat} {lb : Array Value}
    (hg : a.eval g = .func (.func gf) #[] lb) (eg : ∀ args w, (callFunc gf args).run P w = .ok (.enter gf args) w)
    (Fin : World → World → Prop)
    (h : ∀ fn, CallsIn Fence.wide (n - 1) P gf (#[.func (.yield (w.heap.size + 1)) #[] #[]] ++ lb) ((w.alloc (.deferred (some []))).alloc (loopRec fn a.tmps ps assign body w.heap.size .ready))
        fun e W' => (∃ v, e = .returned v) ∧ LoopAt W' (w.heap.size + 1) (loopRec fn a.tmps ps assign body w.heap.size) w.heap.size ∧
          Fin W' (W'.putObj (w.heap.size + 1) (loopRec fn a.tmps ps assign body w.heap.size .exhausted)))
    (hQ : ∀ W' W'', Fin W' W'' → W''.heap[w.heap.size]? = some (.deferred (some [])) → Q .normal { a with defers := { target := .collected w.heap.size, args := #[] } :: a.defers } W'') :
    (Code.rangeFunc g ps assign body).wpIn Fence.wide n P Q a w := by
  refine wpIn_rangeFunc ?_
  intro fn _
  obtain ⟨W1, hW1⟩ : ∃ W1, (w.alloc (.deferred (some []))).alloc (loopRec fn a.tmps ps assign body w.heap.size .ready) = W1 := ⟨_, rfl⟩
  have h := h fn
  rw [hW1] at h
  refine ⟨w.heap.size + 1, [{ target := .collected w.heap.size, args := #[] }], W1, { target := .fn (.func gf) lb, args := #[.func (.yield (w.heap.size + 1)) #[] #[]] }, W1, gf,
    #[.func (.yield (w.heap.size + 1)) #[] #[]] ++ lb, W1, by rw [← hW1]; exact run_enterLoop_outer _ _ _ _ _, ?_, ?_, ?_, fun h => by simp [Fence.wide] at h, ?_⟩
  · simp only [resolve, hg]
    simp [go_sem]
  · intro f' _; trivial
  · simp [invoke, go_sem, eg]
  · refine h.mono ?_
    rintro e W' ⟨⟨v, rfl⟩, hL, hF⟩
    refine ⟨none, _, run_endLoop hL.rec_at (by simp), ?_⟩
    exact hQ _ _ hF ((World.putObj_heap_other hL.ne.symm).trans hL.def_at)

/-- One round: the assignment to the loop's variable, then the body, walked from the busy record to the busy record. -/
theorem wide_yield {l : Nat} {fn : FuncId} {tmps : Array Value} {ps : Array Tmp} {assign body : Code} {D : Nat} {W : World} {args : Array Value} {R : World → Prop}
    (hl : W.heap[l]? = some (loopRec fn tmps ps assign body D .ready)) (hs : args.size = ps.size) (a₁ : Act) (T : Array Value) (hT : (ps.zip args).foldl (fun t (p, v) => t.setIfInBounds p v) tmps = T)
    (hassign : ∀ K : Act → World → Prop, K a₁ W → assign.wpIn (Fence.wide.inRound l) (n - 1) P (Exit.then K (fun _ _ _ => False))
      { tmps := T, defers := [] } W)
    (hbody : body.wpIn (Fence.wide.inRound l) (n - 1) P (fun e _ W3 => e = .normal ∧ W3.heap[l]? = some (loopRec fn tmps ps assign body D .busy) ∧
        R (W3.putObj l (loopRec fn tmps ps assign body D .ready))) a₁ (W.putObj l (loopRec fn tmps ps assign body D .busy))) :
    YieldAt Fence.wide (n - 1) P l args W fun e W' => e = .returned (.bool true) ∧ R W' := by
  subst hT
  refine ⟨fn, _, assign, body, run_yield hl hs, roundIn_of_wpIn trivial (hassign _ ⟨_, run_beginRound hl rfl, ?_⟩)⟩
  refine wpIn_mono hbody ?_
  rintro e a3 W3 ⟨rfl, h3, hR⟩
  exact ⟨_, _, run_endRound none h3, rfl, hR⟩
end rf
end Go.Flw
