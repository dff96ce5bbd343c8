/-
  The walk of small: what it lets in is within bounds. The walk of awake: the document's examples. The walk of begin: two new ends. Write where it can't be done: nothing turns.
-/
import Derived.Test.YtglbfgpdmlkamaaWa
import Derived.LoopTactic
import Derived.Deep.DeepCutAuto
import Derived.Test.YtglbfgpdmlkamaaWj
import Derived.Test.YtglbfgpdmlkamaaVm
import Derived.Test.YtglbfgpdmlkamaaWc
namespace Go.Proofs.Ytglbfgpdmlkamaa
open Go.RowKit Go.Flw

/-- One act. -/
structure ActV where
  kind : Int
  who : Int
  n : Int
  later : Int
  text : ByteArray

def ActV.cells (x : ActV) : List Value := [vi x.kind, vi x.who, vi x.n, vi x.later, .string x.text]
def ActV.enc (x : ActV) : Value := .agg #[vi x.kind, vi x.who, vi x.n, vi x.later, .string x.text]

/-- The acts lie at a place. -/
def ActsAt (w : World) (B off : Nat) (L : List ActV) : Prop := ∀ i x, L[i]? = some x → B < w.heap.size ∧ ∀ j v, x.cells[j]? = some v → w.cell? ⟨B, off + i * 5 + j, none⟩ = some v

theorem ActsAt.below {w w' : World} {B off : Nat} {L : List ActV} (h : ActsAt w B off L) (hb : Below w.heap.size w w') : ActsAt w' B off L := fun i x hx =>
  ⟨Nat.lt_of_lt_of_le (h i x hx).1 hb.size, fun j v hv => by rw [hb.cell (p := ⟨B, off + i * 5 + j, none⟩) (h i x hx).1]; exact (h i x hx).2 j v hv⟩

/-- What small lets in. -/
structure SmallOk (conn first other room limit body : Int) (L : List ActV) : Prop where
  conn : 0 ≤ conn ∧ conn ≤ 65535
  first : 0 ≤ first ∧ first ≤ 65535
  other : 0 ≤ other ∧ other ≤ 65535
  room : 1400 ≤ room ∧ room ≤ 20000
  limit : 1 ≤ limit ∧ limit ≤ 20000
  body : 1 ≤ body ∧ body ≤ 1400
  len : L.length ≤ 120
  acts : ∀ x ∈ L, x.text.size ≤ 300 ∧ 0 ≤ x.later ∧ x.later ≤ 100000

def Seen (L : List ActV) (k : Nat) : Prop := ∀ i x, i < k → L[i]? = some x → x.text.size ≤ 300 ∧ 0 ≤ x.later ∧ x.later ≤ 100000

def SmallR (w : World) (conn first other room limit body : Int) (L : List ActV) (r : Ending) (w' : World) : Prop :=
  ∃ bb, r = .returned (.bool bb) ∧ (bb = true → SmallOk conn first other room limit body L) ∧ Below w.heap.size w w'

theorem inB_iff {a b c : Int} (h : inB a b c = true) : b ≤ a ∧ a ≤ c := by
  unfold inB at h
  simpa using h

set_option maxHeartbeats 1600000 in
set_option maxRecDepth 100000 in
theorem small_calls (w : World) (conn first other room limit body : Int) (a : Option Addr) (len cap B off : Nat) (L : List ActV) (hlen : L.length = len) (hmax : len ≤ maxLen) (ha : 0 < len → a = some ⟨B, off, none⟩) (h : ActsAt w B off L) :
    Calls Try.prog 4 #[vi conn, vi first, vi other, vi room, vi limit, vi body, .slice none 0 0, .slice a len cap] w (SmallR w conn first other room limit body L) := by
  unfold maxLen at hmax
  have hL : Hid (L.length = len) := hlen
  clear hlen
  have A : ∀ bb : Bool, ∀ w' : World, bb = false → Below w.heap.size w w' → SmallR w conn first other room limit body L (.returned (.bool bb)) w' := fun bb w' hb hw => ⟨bb, rfl, (fun hh => by rw [hb] at hh; cases hh), hw⟩
  obtain ⟨b1, h1⟩ : ∃ b, Hid (inB conn 0 65535 = b) := ⟨_, rfl⟩
  obtain ⟨b2, h2⟩ : ∃ b, Hid (inB first 0 65535 = b) := ⟨_, rfl⟩
  obtain ⟨b3, h3⟩ : ∃ b, Hid (inB other 0 65535 = b) := ⟨_, rfl⟩
  obtain ⟨b4, h4⟩ : ∃ b, Hid (inB room 1400 20000 = b) := ⟨_, rfl⟩
  obtain ⟨b5, h5⟩ : ∃ b, Hid (inB limit 1 20000 = b) := ⟨_, rfl⟩
  obtain ⟨b6, h6⟩ : ∃ b, Hid (inB body 1 1400 = b) := ⟨_, rfl⟩
  have c1 : ∀ W, Calls Try.prog 12 #[vi conn, vi 0, vi 65535] W fun e w' => e = .returned (.bool b1) ∧ W = w' := fun W => h1.out ▸ within_calls conn 0 65535 W
  have c2 : ∀ W, Calls Try.prog 12 #[vi first, vi 0, vi 65535] W fun e w' => e = .returned (.bool b2) ∧ W = w' := fun W => h2.out ▸ within_calls first 0 65535 W
  have c3 : ∀ W, Calls Try.prog 12 #[vi other, vi 0, vi 65535] W fun e w' => e = .returned (.bool b3) ∧ W = w' := fun W => h3.out ▸ within_calls other 0 65535 W
  have c4 : ∀ W, Calls Try.prog 12 #[vi room, vi 1400, vi 20000] W fun e w' => e = .returned (.bool b4) ∧ W = w' := fun W => h4.out ▸ within_calls room 1400 20000 W
  have c5 : ∀ W, Calls Try.prog 12 #[vi limit, vi 1, vi 20000] W fun e w' => e = .returned (.bool b5) ∧ W = w' := fun W => h5.out ▸ within_calls limit 1 20000 W
  have c6 : ∀ W, Calls Try.prog 12 #[vi body, vi 1, vi 1400] W fun e w' => e = .returned (.bool b6) ∧ W = w' := fun W => h6.out ▸ within_calls body 1 1400 W
  by_cases hall : (b1 = true ∧ b2 = true ∧ b3 = true ∧ b4 = true ∧ b5 = true ∧ b6 = true) ∧ len ≤ 120
  · obtain ⟨⟨rfl, rfl, rfl, rfl, rfl, rfl⟩, h120⟩ := hall
    go_enter Try.func4, Try.ntmps4
    go_upto_region 4 with (first | ((with_reducible refine (c1 _).mono ?_); rintro r w' ⟨rfl, rfl⟩) | ((with_reducible refine (c2 _).mono ?_); rintro r w' ⟨rfl, rfl⟩) | ((with_reducible refine (c3 _).mono ?_); rintro r w' ⟨rfl, rfl⟩) | ((with_reducible refine (c4 _).mono ?_); rintro r w' ⟨rfl, rfl⟩) | ((with_reducible refine (c5 _).mono ?_); rintro r w' ⟨rfl, rfl⟩) | ((with_reducible refine (c6 _).mono ?_); rintro r w' ⟨rfl, rfl⟩))
    clear c1 c2 c3 c4 c5 c6
    go_wp2_with (fail)
    go_loopw [59] (fun i wr => ∃ k : Nat, i = .int .i64 k ∧ k ≤ len ∧ Below w.heap.size w wr ∧ Seen L k) (fun i _ => len - (intOf i).toNat)
    case atStart => exact ⟨0, rfl, Nat.zero_le _, Below.refl _ _, fun i x hi _ => absurd hi (by omega)⟩
    case round =>
      obtain ⟨k, rfl, hk, hb, hs⟩ := hrel
      by_cases hlt : k < len
      · obtain ⟨x, hx⟩ : ∃ x, L[k]? = some x := ⟨_, List.getElem?_eq_getElem (by rw [hL.out]; exact hlt)⟩
        obtain ⟨hB, hc⟩ := h k x hx
        have hc' : ∀ j v, x.cells[j]? = some v → wr.cell? ⟨B, off + k * 5 + j, none⟩ = some v := fun j v hv => by rw [hb.cell (p := ⟨B, off + k * 5 + j, none⟩) hB]; exact hc j v hv
        obtain rfl := ha (by omega)
        have d0 := hc' 0 _ rfl
        rw [Nat.add_zero] at d0
        have d1 := hc' 1 _ rfl
        have d2 := hc' 2 _ rfl
        have d3 := hc' 3 _ rfl
        have d4 := hc' 4 _ rfl
        have hx' : Hid (L[k]? = some x) := hx
        obtain ⟨b7, h7⟩ : ∃ b, Hid (inB x.later 0 100000 = b) := ⟨_, rfl⟩
        have c7 : ∀ W, Calls Try.prog 12 #[vi x.later, vi 0, vi 100000] W fun e w' => e = .returned (.bool b7) ∧ W = w' := fun W => h7.out ▸ within_calls x.later 0 100000 W
        clear hc hc' hx ha
        by_cases ht : x.text.size ≤ 300
        · cases b7
          · go_wp2_with ((with_reducible refine (c7 _).mono ?_); rintro r w' ⟨rfl, rfl⟩)
            go_ret
            exact A _ _ rfl (hb.alloc hb.size _)
          · go_wp2_with ((with_reducible refine (c7 _).mono ?_); rintro r w' ⟨rfl, rfl⟩)
            go_roundw
            case rel => exact ⟨k + 1, by go_num, by omega, hb.alloc hb.size _, fun i y hi hy => by
              by_cases hik : i = k
              · subst hik
                rw [hx'.out] at hy
                obtain rfl := Option.some.inj hy
                exact ⟨ht, inB_iff h7.out⟩
              · exact hs i y (by omega) hy⟩
            case measure => simp [intOf]; omega
        · go_wp2_with ((with_reducible refine (c7 _).mono ?_); rintro r w' ⟨rfl, rfl⟩)
          go_ret
          exact A _ _ rfl (hb.alloc hb.size _)
      · go_wp2_with (fail)
        go_ret
        exact ⟨true, rfl, (fun _ => ⟨inB_iff h1.out, inB_iff h2.out, inB_iff h3.out, inB_iff h4.out, inB_iff h5.out, inB_iff h6.out, hL.out ▸ h120, fun x hx => by
          obtain ⟨i, hi, he⟩ := List.getElem_of_mem hx
          exact hs i x (by rw [hL.out] at hi; omega) (by rw [List.getElem?_eq_getElem hi, he])⟩), hb⟩
  · have hB0 := Below.refl w.heap.size w
    have A1 := A false w rfl hB0
    clear A h h1 h2 h3 h4 h5 h6 ha
    cases b1
    · clear hall
      go_enter Try.func4, Try.ntmps4
      go_wp2_with (first | ((with_reducible refine (c1 _).mono ?_); rintro r w' ⟨rfl, rfl⟩))
      go_ret
      exact A1
    cases b2
    · clear hall
      go_enter Try.func4, Try.ntmps4
      go_wp2_with (first | ((with_reducible refine (c1 _).mono ?_); rintro r w' ⟨rfl, rfl⟩) | ((with_reducible refine (c2 _).mono ?_); rintro r w' ⟨rfl, rfl⟩))
      go_ret
      exact A1
    cases b3
    · clear hall
      go_enter Try.func4, Try.ntmps4
      go_wp2_with (first | ((with_reducible refine (c1 _).mono ?_); rintro r w' ⟨rfl, rfl⟩) | ((with_reducible refine (c2 _).mono ?_); rintro r w' ⟨rfl, rfl⟩) | ((with_reducible refine (c3 _).mono ?_); rintro r w' ⟨rfl, rfl⟩))
      go_ret
      exact A1
    cases b4
    · clear hall
      go_enter Try.func4, Try.ntmps4
      go_wp2_with (first | ((with_reducible refine (c1 _).mono ?_); rintro r w' ⟨rfl, rfl⟩) | ((with_reducible refine (c2 _).mono ?_); rintro r w' ⟨rfl, rfl⟩) | ((with_reducible refine (c3 _).mono ?_); rintro r w' ⟨rfl, rfl⟩) | ((with_reducible refine (c4 _).mono ?_); rintro r w' ⟨rfl, rfl⟩))
      go_ret
      exact A1
    cases b5
    · clear hall
      go_enter Try.func4, Try.ntmps4
      go_wp2_with (first | ((with_reducible refine (c1 _).mono ?_); rintro r w' ⟨rfl, rfl⟩) | ((with_reducible refine (c2 _).mono ?_); rintro r w' ⟨rfl, rfl⟩) | ((with_reducible refine (c3 _).mono ?_); rintro r w' ⟨rfl, rfl⟩) | ((with_reducible refine (c4 _).mono ?_); rintro r w' ⟨rfl, rfl⟩) | ((with_reducible refine (c5 _).mono ?_); rintro r w' ⟨rfl, rfl⟩))
      go_ret
      exact A1
    cases b6
    · clear hall
      go_enter Try.func4, Try.ntmps4
      go_wp2_with (first | ((with_reducible refine (c1 _).mono ?_); rintro r w' ⟨rfl, rfl⟩) | ((with_reducible refine (c2 _).mono ?_); rintro r w' ⟨rfl, rfl⟩) | ((with_reducible refine (c3 _).mono ?_); rintro r w' ⟨rfl, rfl⟩) | ((with_reducible refine (c4 _).mono ?_); rintro r w' ⟨rfl, rfl⟩) | ((with_reducible refine (c5 _).mono ?_); rintro r w' ⟨rfl, rfl⟩) | ((with_reducible refine (c6 _).mono ?_); rintro r w' ⟨rfl, rfl⟩))
      go_ret
      exact A1
    have h120 : ¬ len ≤ 120 := fun hh => hall ⟨⟨rfl, rfl, rfl, rfl, rfl, rfl⟩, hh⟩
    clear hall
    go_enter Try.func4, Try.ntmps4
    go_wp2_with (first | ((with_reducible refine (c1 _).mono ?_); rintro r w' ⟨rfl, rfl⟩) | ((with_reducible refine (c2 _).mono ?_); rintro r w' ⟨rfl, rfl⟩) | ((with_reducible refine (c3 _).mono ?_); rintro r w' ⟨rfl, rfl⟩) | ((with_reducible refine (c4 _).mono ?_); rintro r w' ⟨rfl, rfl⟩) | ((with_reducible refine (c5 _).mono ?_); rintro r w' ⟨rfl, rfl⟩) | ((with_reducible refine (c6 _).mono ?_); rintro r w' ⟨rfl, rfl⟩))
    go_ret
    exact A1
end Go.Proofs.Ytglbfgpdmlkamaa

namespace Go.Proofs.Ytglbfgpdmlkamaa
open Go.RowKit Go.Flw

def str5 : ByteArray := ⟨#[5]⟩
def Marked5 (w : World) (r : Ending) (w' : World) : Prop := r = .returned (.string str5) ∧ Below w.heap.size w w'

theorem str5_string {W : World} {R : Nat} (h : Blk W R #[.int .u8 5, .int .u8 0, .int .u8 0, .int .u8 0] 5) :
    (convert 89 9 (.slice (some ⟨R, 0, none⟩) 1 4)).run Try.prog W = .ok (.string str5) W := by
  have hc : ∀ j v, (([5, 0, 0, 0].take 1).map (Value.int .u8))[j]? = some v → W.cell? ((⟨R, 0, none⟩ : Addr).add j) = some v := by
    intro j v hj
    rw [Addr.add_lit, Nat.zero_add]
    cases j with
    | zero => exact h.cell 0 (by simpa using hj)
    | succ j => simp at hj
  have hr := run_loadCells_list (P := Try.prog) W ⟨R, 0, none⟩ _ hc
  exact (run_convert_bytes_string W 89 9 5 _ _ _ Try.underlying89 Try.underlying5 Try.underlying9).trans (run_bytesToString W _ 1 4 _ hr)

/-- The bytes behind k rounds. -/
def Rounds (w : World) (R : Nat) (k : Nat) : Prop :=
  (k = 0 ∧ Blk w R #[.int .u8 0, .int .u8 0, .int .u8 0, .int .u8 0] 5) ∨ (k = 1 ∧ Blk w R #[.int .u8 1, .int .u8 0, .int .u8 0, .int .u8 0] 5) ∨ (k = 2 ∧ Blk w R #[.int .u8 5, .int .u8 0, .int .u8 0, .int .u8 0] 5)

set_option maxHeartbeats 800000 in
set_option maxRecDepth 100000 in
theorem marked5_calls (w : World) (v : Value) (h : Sl w v 3 1 2 [vi 0, vi 2]) : Calls Try.prog 31 #[v] w (Marked5 w) := by
  obtain ⟨B, off, cap, rfl, hcap, hmax, hc, _, hB⟩ := Sl.some h (by decide)
  unfold maxLen at hmax
  have hBl : B < w.heap.size := Sl.lt h B (by simp [slB])
  have d0 := hc 0 _ rfl
  have d1 := hc 1 _ rfl
  rw [Nat.add_zero] at d0
  clear hc h hB
  have hmk : ∀ W : World, (Instr.makeSlice 89 (.int .i64 4) (.int .i64 4)).run Try.prog W = .ok (.slice (some ⟨W.heap.size, 0, none⟩) 4 4) (W.alloc (.cells #[.int .u8 0, .int .u8 0, .int .u8 0, .int .u8 0] 5)) := fun _ => by kernel_rfl
  go_enter Try.func31, Try.ntmps31
  go_wp2
  clear hmk
  go_loopw [10] (fun i wr => ∃ k : Nat, i = .int .i64 k ∧ Rounds wr w.heap.size k ∧ Below w.heap.size w wr) (fun i _ => 2 - (intOf i).toNat)
  case atStart => exact ⟨0, rfl, .inl ⟨rfl, Blk.new w _ 5⟩, (Below.refl _ w).alloc (Nat.le_refl _) _⟩
  case round =>
    obtain ⟨k, rfl, hR, hbl⟩ := hrel
    have e0 := (hbl.cell (p := ⟨B, off, none⟩) hBl).trans d0
    have e1 := (hbl.cell (p := ⟨B, off + 1, none⟩) hBl).trans d1
    rcases hR with ⟨rfl, hR⟩ | ⟨rfl, hR⟩ | ⟨rfl, hR⟩
    · have g : ∀ i, wr.frozen? ⟨w.heap.size, i, none⟩ = false := hR.frozen
      have c0 := hR.cell 0 rfl
      have k0 := fun v : Value => Blk.set hR 0 v
      go_wp2
      go_region
      all_goals go_wp2
      all_goals go_roundw
      all_goals first | exact ⟨1, by go_num, .inr (.inl ⟨rfl, k0 _⟩), (hbl.setCell (p := ⟨w.heap.size, 0, none⟩) (Nat.le_refl _) _).drew⟩ | (simp [intOf])
    · have g : ∀ i, wr.frozen? ⟨w.heap.size, i, none⟩ = false := hR.frozen
      have c0 := hR.cell 0 rfl
      have k0 := fun v : Value => Blk.set hR 0 v
      go_wp2
      go_region
      all_goals go_wp2
      all_goals go_roundw
      all_goals first | exact ⟨2, by go_num, .inr (.inr ⟨rfl, k0 _⟩), (hbl.setCell (p := ⟨w.heap.size, 0, none⟩) (Nat.le_refl _) _).drew⟩ | (simp [intOf])
    · have hcv := str5_string hR
      have c0 := hR.cell 0 rfl
      have c1 := hR.cell 1 rfl
      have c2 := hR.cell 2 rfl
      have c3 := hR.cell 3 rfl
      go_wp2
      go_loop [6] (fun i => ∃ m : Nat, 1 ≤ m ∧ m ≤ 4 ∧ i = .int .i64 m) (fun i => (intOf i).toNat)
      case atStart => exact ⟨4, by omega, by omega, rfl⟩
      case round =>
        obtain ⟨m, hm1, hm, rfl⟩ := hrel
        obtain rfl | rfl | rfl | rfl : m = 1 ∨ m = 2 ∨ m = 3 ∨ m = 4 := by omega
        all_goals
          go_wp2
          all_goals first
            | (go_ret; exact ⟨rfl, hbl⟩)
            | (go_round
               case rel => first | exact ⟨1, by omega, by omega, rfl⟩ | exact ⟨2, by omega, by omega, rfl⟩ | exact ⟨3, by omega, by omega, rfl⟩
               case measure => simp [intOf])

theorem ahead10 (d : Int) (k : Int) (w : World) (h : (d - 10) % 65536 = k) (h0 : -1 ≤ d) (h1 : d ≤ 1000000) : Calls Try.prog 30 #[vi 10, vi d] w fun e w' => e = .returned (vi k) ∧ w = w' :=
  h ▸ ahead_calls 10 d w (by omega) (by omega) h0 h1
theorem roundT (n : Int) (w : World) (h0 : 0 ≤ n) (h1 : n ≤ 65535) : Calls Try.prog 28 #[vi n] w fun e w' => e = .returned (.bool true) ∧ w = w' :=
  (round_calls n w).mono fun e w' ⟨h, h2⟩ => ⟨by rw [h, inB_true h0 h1], h2⟩

def MarkedT (w : World) (r : Ending) (w' : World) : Prop := r = .returned (.tuple #[.string str5, vi 0]) ∧ Below w.heap.size w w'
theorem Try.info3' : (Try.prog.info? 3).map (fun i => (i.zero, i.size, i.bytes)) = some (some (.int .i64 0), 1, 8) := by kernel_rfl

/-- What was put together behind k rounds. -/
def Sums (wr : World) (k : Nat) (v : Value) : Prop :=
  (k = 0 ∧ Sl wr v 3 1 0 []) ∨ (k = 1 ∧ Sl wr v 3 1 1 [vi 0]) ∨ (k = 2 ∧ Sl wr v 3 1 2 [vi 0, vi 2])
def SumsAt (w : World) (i v : Value) (wr : World) : Prop := ∃ k : Nat, i = .int .i64 k ∧ Sums wr k v ∧ Below w.heap.size w wr ∧ (∀ x ∈ slB v, w.heap.size ≤ x)

set_option maxHeartbeats 1600000 in
set_option maxRecDepth 100000 in
theorem Marked10_calls (w : World) (B off cap : Nat) (hBl : B < w.heap.size) (d0 : w.cell? ⟨B, off, none⟩ = some (vi 12)) (d1 : w.cell? ⟨B, off + 1, none⟩ = some (vi 14)) :
    Calls Try.prog 14 #[vi 10, .slice (some ⟨B, off, none⟩) 2 cap] w (MarkedT w) := by
  obtain ⟨i0, hi, hz0, hz1, hz2⟩ := info_parts Try.info3'
  go_enter Try.func14, Try.ntmps14
  go_wp2
  go_loopw [12, 6] (fun i v wr => SumsAt w i v wr) (fun i _ _ => 2 - (intOf i).toNat)
  case atStart => exact ⟨0, rfl, .inl ⟨rfl, Sl.nil _ _ _⟩, Below.refl _ _, by simp [slB]⟩
  case round =>
    obtain ⟨k, rfl, hR, hbl, hsl⟩ := hrel
    have e0 := (hbl.cell (p := ⟨B, off, none⟩) hBl).trans d0
    have e1 := (hbl.cell (p := ⟨B, off + 1, none⟩) hBl).trans d1
    rcases hR with ⟨rfl, hR⟩ | ⟨rfl, hR⟩ | ⟨rfl, hR⟩
    · obtain ⟨a, cp, rfl, hcap, hmax⟩ := hR.form
      go_wp2_with (first | ((with_reducible refine (ahead10 12 2 _ (by decide) (by decide) (by decide)).mono ?_); rintro r w' ⟨rfl, rfl⟩) | ((with_reducible refine (roundT 12 _ (by decide) (by decide)).mono ?_); rintro r w' ⟨rfl, rfl⟩) | (at_builtin; refine wpList_append_sl _ rfl _ _ 36 rfl 3 i0 (.int .i64 0) 1 8 Try.underlying36 hi hz0 hz1 hz2 rfl (.slice a 0 cp) 0 [] rfl (hR.alloc _) ⟨wr.heap.size, 0, none⟩ 1 1 [vi 0] rfl rfl (by exact one_new (cell_last rfl)) (by intro u hu; simp at hu; subst hu; rfl) (by decide) (by simp [maxLen]) (by omega) ?_))
      intro v' w2 hs2 hc2 hb2
      obtain ⟨a2, cap2, rfl, _, _⟩ := hs2.form
      have hb3 : Below w.heap.size w w2 := (hbl.alloc hbl.size _).trans (hc2.below (by have := hbl.size; simp; omega) hsl)
      have hsz := hbl.size
      have hs3 : ∀ x ∈ slB (Value.slice a2 (0 + 1) cap2), w.heap.size ≤ x := fun x hx => by
        rcases hb2 x hx with hx | hx
        · exact hsl x hx
        · omega
      clear hb2 hc2
      go_wp2
      go_roundw
      case rel => exact ⟨1, by go_num, .inr (.inl ⟨rfl, hs2⟩), hb3, hs3⟩
      case measure => simp [intOf]
    · obtain ⟨a, cp, rfl, hcap, hmax⟩ := hR.form
      go_wp2_with (first | ((with_reducible refine (ahead10 14 4 _ (by decide) (by decide) (by decide)).mono ?_); rintro r w' ⟨rfl, rfl⟩) | ((with_reducible refine (roundT 14 _ (by decide) (by decide)).mono ?_); rintro r w' ⟨rfl, rfl⟩) | (at_builtin; refine wpList_append_sl _ rfl _ _ 36 rfl 3 i0 (.int .i64 0) 1 8 Try.underlying36 hi hz0 hz1 hz2 rfl (.slice a 1 cp) 1 [vi 0] rfl (hR.alloc _) ⟨wr.heap.size, 0, none⟩ 1 1 [vi 2] rfl rfl (by exact one_new (cell_last rfl)) (by intro u hu; simp at hu; subst hu; rfl) (by decide) (by simp [maxLen]) (by omega) ?_))
      intro v' w2 hs2 hc2 hb2
      obtain ⟨a2, cap2, rfl, _, _⟩ := hs2.form
      have hb3 : Below w.heap.size w w2 := (hbl.alloc hbl.size _).trans (hc2.below (by have := hbl.size; simp; omega) hsl)
      have hsz := hbl.size
      have hs3 : ∀ x ∈ slB (Value.slice a2 (1 + 1) cap2), w.heap.size ≤ x := fun x hx => by
        rcases hb2 x hx with hx | hx
        · exact hsl x hx
        · omega
      clear hb2 hc2
      go_wp2
      go_roundw
      case rel => exact ⟨2, by go_num, .inr (.inr ⟨rfl, hs2⟩), hb3, hs3⟩
      case measure => simp [intOf]
    · obtain ⟨a, cp, rfl, hcap, hmax⟩ := hR.form
      go_wp2_with (first | ((with_reducible refine (roundT 10 _ (by decide) (by decide)).mono ?_); rintro r w' ⟨rfl, rfl⟩) | (go_at_call 31; refine (marked5_calls wr _ hR).mono ?_; rintro r w2 ⟨rfl, hb2⟩))
      go_ret2
      exact ⟨rfl, hbl.trans (hb2.mono hbl.size)⟩

set_option maxHeartbeats 800000 in
theorem before_awake (w : World) : Calls Try.prog 29 #[vi 65535, vi 0] w fun e w' => e = .returned (.bool true) ∧ w = w' := by
  go_enter Try.func29, Try.ntmps29
  go_wp2_with ((with_reducible refine (ahead_calls 65535 0 _ (by omega) (by omega) (by omega) (by omega)).mono ?_); rintro r w' ⟨rfl, rfl⟩)
  go_ret
  exact ⟨rfl, rfl⟩

set_option maxHeartbeats 800000 in
theorem Before_awake (w : World) : Calls Try.prog 13 #[vi 65535, vi 0] w fun e w' => e = .returned (.tuple #[.bool true, vi 0]) ∧ w = w' := by
  go_enter Try.func13, Try.ntmps13
  go_wp2_with (first | ((with_reducible refine (roundT 65535 _ (by decide) (by decide)).mono ?_); rintro r w' ⟨rfl, rfl⟩) | ((with_reducible refine (roundT 0 _ (by decide) (by decide)).mono ?_); rintro r w' ⟨rfl, rfl⟩) | ((with_reducible refine (before_awake _).mono ?_); rintro r w' ⟨rfl, rfl⟩))
  go_ret2
  exact ⟨rfl, rfl⟩

def AwakeR (w : World) (r : Ending) (w' : World) : Prop := r = .returned (.bool true) ∧ Below w.heap.size w w'

set_option maxHeartbeats 800000 in
theorem awake_calls (w : World) : Calls Try.prog 5 #[] w (AwakeR w) := by
  go_enter Try.func5, Try.ntmps5
  go_wp2_with (first | ((with_reducible refine (Before_awake _).mono ?_); rintro r w' ⟨rfl, rfl⟩) | (go_at_call 14; refine (Marked10_calls _ w.heap.size 0 2 (by simp) (by simp) (by simp)).mono ?_; rintro r w2 ⟨rfl, hb2⟩))
  go_ret
  have h5 : (str5.toList == [5]) = true := by rw [Go.ByteArray.toList_eq]; rfl
  exact ⟨by show Ending.returned (.bool _) = _; rw [h5], ((Below.refl _ w).alloc (Nat.le_refl _) _).trans (hb2.mono (by simp))⟩
end Go.Proofs.Ytglbfgpdmlkamaa

namespace Go.Proofs.Ytglbfgpdmlkamaa
open Go.RowKit Go.Flw

/-- Two new ends, and a list of both. -/
structure Begun (w wr : World) (bA bB sb : Nat) (eA eB : E) (cA cB : Nat) : Prop where
  a : EndIs wr bA eA [] [] [] cA
  b : EndIs wr bB eB [] [] [] cB
  s : Blk wr sb #[.pointer (some ⟨bA, 0, none⟩), .pointer (some ⟨bB, 0, none⟩)] 31
  bel : Below w.heap.size w wr
  lA : ∀ x ∈ foot bA eA [] [], w.heap.size ≤ x ∧ x ∉ foot bB eB [] [] ∧ x ≠ sb
  lB : ∀ x ∈ foot bB eB [] [], w.heap.size ≤ x ∧ x ≠ sb

theorem Begun.setA {w wr w' : World} {bA bB sb : Nat} {eA eB : E} {cA cB : Nat} (h : Begun w wr bA bB sb eA eB cA cB) (n m : Int) (hc : Chg (· = bA) wr w') (hb : Blk w' bA { eA with limit := n, body := m }.enc 61) :
    Begun w w' bA bB sb { eA with limit := n, body := m } eB cA cB := by
  have hA : bA ∈ foot bA eA [] [] := foot_iff.2 (.inl rfl)
  refine ⟨h.a.own1 hc hb rfl rfl rfl, h.b.chg hc (fun x hx hh => (h.lA bA hA).2.1 (hh ▸ hx)), h.s.chg hc (fun hh => (h.lA bA hA).2.2 hh.symm), h.bel.trans (hc.below h.bel.size (fun i hi => hi ▸ (h.lA bA hA).1)), h.lA, h.lB⟩
theorem Begun.setB {w wr w' : World} {bA bB sb : Nat} {eA eB : E} {cA cB : Nat} (h : Begun w wr bA bB sb eA eB cA cB) (n m : Int) (hc : Chg (· = bB) wr w') (hb : Blk w' bB { eB with limit := n, body := m }.enc 61) :
    Begun w w' bA bB sb eA { eB with limit := n, body := m } cA cB := by
  have hB : bB ∈ foot bB eB [] [] := foot_iff.2 (.inl rfl)
  refine ⟨h.a.chg hc (fun x hx hh => (h.lA x hx).2.1 (hh ▸ hB)), h.b.own1 hc hb rfl rfl rfl, h.s.chg hc (fun hh => (h.lB bB hB).2 hh.symm), h.bel.trans (hc.below h.bel.size (fun i hi => hi ▸ (h.lB bB hB).1)), h.lA, h.lB⟩

def eLB (e : E) (limit body : Int) : E := { e with limit := limit, body := body }

def BeginL (w : World) (bA bB sb : Nat) (eA eB : E) (limit body : Int) (cA cB : Nat) (i : Value) (wr : World) : Prop :=
  (i = vi 0 ∧ Begun w wr bA bB sb eA eB cA cB) ∨ (i = vi 1 ∧ Begun w wr bA bB sb (eLB eA limit body) eB cA cB) ∨ (i = vi 2 ∧ Begun w wr bA bB sb (eLB eA limit body) (eLB eB limit body) cA cB)

/-- What begin leaves. -/
structure BegunE (w w' : World) (conn first other room limit body : Int) (pb bA bB mA mB q : Nat) (wv : Value) (cA cB : Nat) : Prop where
  a : EndIs w' bA { newE true conn first room mA with limit := limit, body := body, now := 0, state := 1, wv := wv } [fresh q 1 ByteArray.empty] [] [] cA
  b : EndIs w' bB { newE false conn other room mB with limit := limit, body := body } [] [] [] cB
  p : Blk w' pb #[.pointer (some ⟨bA, 0, none⟩), .pointer (some ⟨bB, 0, none⟩), .slice none 0 0, .slice none 0 0, .string ByteArray.empty, .string ByteArray.empty, .string ByteArray.empty, .string ByteArray.empty, vi 0, .slice none 0 0, vi 0] 38
  bel : Below w.heap.size w w'
  lp : w.heap.size ≤ pb
  lA : ∀ x ∈ foot bA { newE true conn first room mA with limit := limit, body := body, now := 0, state := 1, wv := wv } [fresh q 1 ByteArray.empty] [], w.heap.size ≤ x ∧ x ≠ pb ∧ x ∉ foot bB { newE false conn other room mB with limit := limit, body := body } [] []
  lB : ∀ x ∈ foot bB { newE false conn other room mB with limit := limit, body := body } [] [], w.heap.size ≤ x ∧ x ≠ pb

def BeginR (w : World) (conn first other room limit body : Int) (r : Ending) (w' : World) : Prop :=
  ∃ pb bA bB mA mB q wv cA cB, r = .returned (.tuple #[.pointer (some ⟨pb, 0, none⟩), .bool true]) ∧ BegunE w w' conn first other room limit body pb bA bB mA mB q wv cA cB

set_option maxHeartbeats 1600000 in
set_option maxRecDepth 100000 in
theorem begin_calls (w : World) (conn first other room limit body : Int) (h0 : 0 ≤ conn) (h1 : conn ≤ 65535) (h2 : 0 ≤ first) (h3 : first ≤ 65535) (h2' : 0 ≤ other) (h3' : other ≤ 65535) (h4 : 1400 ≤ room) (h5 : room ≤ 20000)
    (h6 : 1 ≤ limit) (h7 : limit ≤ 20000) (h8 : 1 ≤ body) (h9 : body ≤ 1400) :
    Calls Try.prog 6 #[vi conn, vi first, vi other, vi room, vi limit, vi body, .slice none 0 0] w (BeginR w conn first other room limit body) := by
  go_enter Try.func6, Try.ntmps6
  go_upto_region 2 with (go_at_call 15; refine (New_calls w true conn first room h0 h1 h2 h3 h4 (by omega)).mono ?_; rintro r w1 ⟨bA, mA, cA, rfl, hA, hbA, hlA⟩)
  go_upto_region 6 with (go_at_call 15; refine (New_calls w1 false conn other room h0 h1 h2' h3' h4 (by omega)).mono ?_; rintro r w2 ⟨bB, mB, cB, rfl, hB, hbB, hlB⟩)
  have hA2 : EndIs w2 bA (newE true conn first room mA) [] [] [] cA := hA.chg (Chg.of_below (S := fun _ => False) hbB) (fun _ _ hh => hh)
  have hlt : ∀ x ∈ foot bA (newE true conn first room mA) [] [], x < w1.heap.size := hA.lt
  have hltB : ∀ x ∈ foot bB (newE false conn other room mB) [] [], x < w2.heap.size := hB.lt
  have hsz1 := hbA.size
  have hsz2 := hbB.size
  have hS : Begun w (w2.alloc (.cells #[.pointer (some ⟨bA, 0, none⟩), .pointer (some ⟨bB, 0, none⟩)] 31)) bA bB w2.heap.size (newE true conn first room mA) (newE false conn other room mB) cA cB :=
    ⟨hA2.alloc _, hB.alloc _, Blk.new _ _ _, (hbA.trans (hbB.mono hsz1)).alloc (Nat.le_trans hsz1 hsz2) _, fun x hx => ⟨hlA x hx, fun hh => by have := hlt x hx; have := hlB x hh; omega, by have := hlt x hx; omega⟩, fun x hx => ⟨Nat.le_trans hsz1 (hlB x hx), by have := hltB x hx; omega⟩⟩
  clear hA hB hA2 hlA hlB hlt hltB hbA hbB
  generalize w2.heap.size = sb at hS ⊢
  generalize w2.alloc (.cells #[.pointer (some ⟨bA, 0, none⟩), .pointer (some ⟨bB, 0, none⟩)] 31) = W2 at hS ⊢
  go_loopw [54] (fun i wr => BeginL w bA bB sb (newE true conn first room mA) (newE false conn other room mB) limit body cA cB i wr) (fun i _ => 2 - (intOf i).toNat)
  case atStart => exact .inl ⟨rfl, hS⟩
  case round =>
    clear hS
    rcases hrel with ⟨rfl, hS⟩ | ⟨rfl, hS⟩ | ⟨rfl, hS⟩
    · have d0 := hS.s.cell 0 rfl
      go_upto_region 10 with (first | (go_at_call 16; refine (Limit_calls _ limit hS.a.blk h6 (by omega)).mono ?_; rintro r W3 ⟨rfl, hB3, hc3⟩) | (go_at_call 17; refine (Body_calls _ body hB3 h8 h9).mono ?_; rintro r W4 ⟨rfl, hB4, hc4⟩))
      have hS2 := hS.setA limit body (hc3.comp hc4) hB4
      clear hS hB3 hB4 hc3 hc4 d0
      go_wp2_with (fail)
      go_roundw
      case rel => exact .inr (.inl ⟨by go_num, hS2⟩)
      case measure => simp [intOf]
    · have d1 := hS.s.cell 1 rfl
      go_upto_region 10 with (first | (go_at_call 16; refine (Limit_calls _ limit hS.b.blk h6 (by omega)).mono ?_; rintro r W3 ⟨rfl, hB3, hc3⟩) | (go_at_call 17; refine (Body_calls _ body hB3 h8 h9).mono ?_; rintro r W4 ⟨rfl, hB4, hc4⟩))
      have hS2 := hS.setB limit body (hc3.comp hc4) hB4
      clear hS hB3 hB4 hc3 hc4 d1
      go_wp2_with (fail)
      go_roundw
      case rel => exact .inr (.inr ⟨by go_num, hS2⟩)
      case measure => simp [intOf]
    · go_wp2_with (fail)
      refine (Open_calls _ 0 (hS.a.alloc _) (Int.le_refl 0) (by decide) rfl rfl (Nat.zero_le _)).mono ?_
      rintro r W5 ⟨rfl, q, wv, hW⟩
      go_wp2_with (fail)
      have hpn := Blk.new wr #[.pointer (some ⟨bA, 0, none⟩), .pointer (some ⟨bB, 0, none⟩), .slice none 0 0, .slice none 0 0, .string ByteArray.empty, .string ByteArray.empty, .string ByteArray.empty, .string ByteArray.empty, vi 0, .slice none 0 0, vi 0] 38
      have hltA := hS.a.lt
      have hltB := hS.b.lt
      have hbs := hS.bel.size
      have hbA : ∀ x ∈ foot bA (eLB (newE true conn first room mA) limit body) [] [], w.heap.size ≤ x ∧ x ≠ wr.heap.size ∧ x ∉ foot bB (eLB (newE false conn other room mB) limit body) [] [] := fun x hx => ⟨(hS.lA x hx).1, by have := hltA x hx; omega, (hS.lA x hx).2.1⟩
      go_ret2
      refine ⟨wr.heap.size, bA, bB, mA, mB, q, wv, cA, cB, rfl, hW.is, (hS.b.alloc _).chg hW.chg (fun x hx hh => (hbA x hh).2.2 hx), hpn.chg hW.chg (fun hh => (hbA _ hh).2.1 rfl), (hS.bel.alloc hbs _).trans (hW.chg.below (by simp; omega) (fun x hx => (hbA x hx).1)), hbs, ?_, fun x hx => ⟨(hS.lB x hx).1, by have := hltB x hx; omega⟩⟩
      intro x hx
      rcases hW.ft x hx with h | h
      · exact hbA x h
      · simp at h
        exact ⟨by omega, by omega, fun hh => by have := hltB x hh; omega⟩
end Go.Proofs.Ytglbfgpdmlkamaa

namespace Go.Proofs.Ytglbfgpdmlkamaa
open Go.RowKit Go.Flw

variable {b : Nat} {e : E}

set_option maxHeartbeats 800000 in
theorem Write_not (w : World) (now : Int) (text : ByteArray) (h : Blk w b e.enc 61) (h1 : e.now ≤ now) (h2 : now ≤ 1000000000) (ht : text.size ≤ 65536) (hs : e.closing = true ∨ ¬ (e.state = 1 ∨ e.state = 2)) :
    Calls Try.prog 19 #[.pointer (some ⟨b, 0, none⟩), vi now, .string text] w fun r w' => r = .returned (vi 9) ∧ w = w' := by
  have c1 := ce_now h
  have c2 := ce_closing h
  have c3 := ce_state h
  cases hc : e.closing <;> rw [hc] at c2
  · have hs' : ¬ e.state = 1 ∧ ¬ e.state = 2 := by rw [hc] at hs; simp at hs; exact hs
    have g1 : (e.state != 1) = true := by simp [hs'.1]
    have g2 : (e.state != 2) = true := by simp [hs'.2]
    clear hs hs'
    go_enter Try.func19, Try.ntmps19
    go_wp2_with (first | (go_at_call 20; refine (at_calls _ _ h h1 h2).mono ?_; rintro r w' ⟨rfl, rfl⟩))
    go_ret
    exact ⟨rfl, rfl⟩
  · clear hs
    go_enter Try.func19, Try.ntmps19
    go_wp2_with (first | (go_at_call 20; refine (at_calls _ _ h h1 h2).mono ?_; rintro r w' ⟨rfl, rfl⟩))
    go_ret
    exact ⟨rfl, rfl⟩
end Go.Proofs.Ytglbfgpdmlkamaa
