/-
  What was kept: look-up, delete and a new entry.
-/
import Derived.Test.YtglbfgpdmlkamaaSnd
import Derived.Test.YtglbfgpdmlkamaaWk
import Derived.MapKept
namespace Go.Proofs.Ytglbfgpdmlkamaa
open Go.RowKit Go.Flw

def kidx (k : Int) : List Ke → Nat → Option (Nat × Ke)
  | [], _ => none
  | x :: l, i => if k = x.key then some (i, x) else kidx k l (i + 1)

theorem findNow_ke (k : Int) : ∀ (ks : List Ke) (i : Nat), Instr.findNow (.int .i64) (vi k) (ks.map Ke.enc) i = some ((kidx k ks i).map fun p => (p.1, p.2.seg.enc))
  | [], i => rfl
  | x :: l, i => by
    have hs : Instr.sameNow (.int .i64) (vi k) (Ke.enc x).key = some (k == x.key) := by simp [Instr.sameNow, Ke.enc]
    simp only [List.map_cons, Instr.findNow, hs, kidx]
    by_cases h : k = x.key
    · simp [h, Ke.enc]
    · have : (k == x.key) = false := by simp [h]
      rw [this, if_neg h]
      exact findNow_ke k l (i + 1)

theorem kidx_spec (k : Int) : ∀ (ks : List Ke) (i j : Nat) (x : Ke), kidx k ks i = some (j, x) → i ≤ j ∧ ks[j - i]? = some x ∧ x.key = k
  | [], _, _, _, h => by simp [kidx] at h
  | y :: l, i, j, x, h => by
    simp only [kidx] at h
    split at h
    · rename_i hk
      simp at h
      obtain ⟨rfl, rfl⟩ := h
      exact ⟨Nat.le_refl _, by simp, hk.symm⟩
    · obtain ⟨h1, h2, h3⟩ := kidx_spec k l (i + 1) j x h
      refine ⟨by omega, ?_, h3⟩
      have e1 : j - i = (j - (i + 1)) + 1 := by omega
      rw [e1, List.getElem?_cons_succ]
      exact h2
theorem kidx_none (k : Int) : ∀ (ks : List Ke) (i : Nat), kidx k ks i = none → ∀ x ∈ ks, x.key ≠ k
  | [], _, _, x, hx => by simp at hx
  | y :: l, i, h, x, hx => by
    simp only [kidx] at h
    split at h
    · cases h
    · rename_i hk
      rcases List.mem_cons.1 hx with rfl | hx
      · exact fun hh => hk hh.symm
      · exact kidx_none k l (i + 1) h x hx

/-- What a look-up gives. -/
def kval (ks : List Ke) (k : Int) : Value := match kidx k ks 0 with | some (_, x) => x.seg.enc | none => .agg seg0
def khas (ks : List Ke) (k : Int) : Bool := (kidx k ks 0).isSome
/-- Without an entry. -/
def kdel (ks : List Ke) (k : Int) : List Ke := match kidx k ks 0 with | some (j, _) => ks.eraseIdx j | none => ks

theorem Try.ints : Try.prog.underlying 3 = some (.int .i64) := by kernel_rfl
theorem Try.zero70 (w : World) : (zeroValue 70).run Try.prog w = .ok (.agg seg0) w := by kernel_rfl

variable {w : World} {m clk : Nat} {ks : List Ke}

theorem run_findKe (k : Int) : (Instr.findKey 3 (vi k) (ks.map Ke.enc)).run Try.prog w = .ok ((kidx k ks 0).map fun p => (p.1, p.2.seg.enc)) w :=
  Go.MapKept.run_findKey Try.ints (findNow_ke k ks 0)

theorem run_checkInt (em : Bool) (k : Int) : (Instr.checkKey em 10000 3 (vi k)).run Try.prog w = .ok () w :=
  Go.MapKept.run_checkKey (n := 9999) Try.ints (by trivial) em

theorem run_lookup_ke (k : Int) (hm : w.heap[m]? = some (.map (ks.map Ke.enc).toArray clk)) : (Instr.lookup 55 (.map (some m)) (vi k) true).run Try.prog w = .ok (.tuple #[kval ks k, .bool (khas ks k)]) w := by
  simp only [Instr.lookup, Sem.run_bind, run_underlying Try.underlying55, Result.andThen_ok, Go.MapKept.run_getObj_map hm, Sem.run_pure, run_checkInt, run_findKe, kval, khas]
  cases kidx k ks 0 with
  | none => simp [seg0, Result.andThen]
  | some p => simp

theorem erase_map : ∀ (l : List Ke) (i : Nat), (l.map Ke.enc).eraseIdx i = (l.eraseIdx i).map Ke.enc
  | [], i => by simp
  | x :: l, 0 => by simp
  | x :: l, i + 1 => by simp [erase_map l i]

theorem run_delete_ke (k : Int) (ty : TypeId) (hm : w.heap[m]? = some (.map (ks.map Ke.enc).toArray clk)) : (Builtin.delete_ #[55, 3] ty #[.map (some m), vi k]).run Try.prog w = .ok (.tuple #[]) (w.putObj m (.map ((kdel ks k).map Ke.enc).toArray clk)) := by
  simp only [Builtin.delete_, List.getElem?_toArray, List.getElem?_cons_zero, List.getElem?_cons_succ, Sem.run_bind, run_underlying Try.underlying55, Result.andThen_ok, Go.MapKept.run_getObj_map hm, run_checkInt, run_findKe, kdel]
  cases kidx k ks 0 with
  | none => simp [Go.MapKept.run_setObj_map _ hm, World.putObj]
  | some p => simp [Go.MapKept.run_setObj_map _ hm, World.putObj, erase_map]

theorem run_update_ke (k : Int) (s : Seg) (hm : w.heap[m]? = some (.map (ks.map Ke.enc).toArray clk)) (hn : khas ks k = false) :
    (Instr.mapUpdate 55 (.map (some m)) (vi k) s.enc).run Try.prog w = .ok () (w.putObj m (.map ((ks ++ [Ke.mk k s clk]).map Ke.enc).toArray (clk + 1))) := by
  simp only [Instr.mapUpdate, Sem.run_bind, run_underlying Try.underlying55, Result.andThen_ok, Go.MapKept.run_getObj_map hm, run_checkInt, run_findKe]
  simp only [khas] at hn
  cases hk : kidx k ks 0 with
  | some p => simp [hk] at hn
  | none => simp [Go.MapKept.run_setObj_map _ hm, World.putObj, Ke.enc]

variable {w' : World} {b : Nat} {e : E} {ws fs : List Pk}

/-- What was kept is another. -/
theorem EndIs.kept (h : EndIs w b e ws fs ks clk) (ks' : List Ke) (clk' : Nat) (hb : ∀ k ∈ ks', k.born < clk') : Went w b e ws fs (w.putObj e.mb (.map (ks'.map Ke.enc).toArray clk')) e ws fs ks' clk' := by
  have hs := h.sep
  have hc : Chg (· = e.mb) w (w.putObj e.mb (.map (ks'.map Ke.enc).toArray clk')) := (Chg.refl (· = e.mb) w).putObj (.inl rfl) _
  refine ⟨⟨h.blk.chg hc hs.bm, Sl.chg h.wsl hc (fun x hx hh => hs.mw (hh ▸ hx)), Sl.chg h.fsl hc (fun x hx hh => hs.mf (hh ▸ hx)), fun p hp => (h.pks p hp).chg hc (fun hh => hs.mq (hh ▸ List.mem_map.2 ⟨p, hp, rfl⟩)), ?_, hb, hs⟩, hc.mono fun _ _ hx => hx ▸ foot_iff.2 (.inr (.inl rfl)), fun _ hx => .inl hx⟩
  exact World.putObj_heap_same (Array.getElem?_eq_some_iff.1 h.map).1

theorem kdel_mem {k : Int} {x : Ke} (h : x ∈ kdel ks k) : x ∈ ks := by
  unfold kdel at h
  split at h
  · exact List.mem_of_mem_eraseIdx h
  · exact h
theorem kdel_len {k : Int} (h : khas ks k = true) : (kdel ks k).length < ks.length := by
  unfold khas at h
  unfold kdel
  split
  · rename_i j x hk
    obtain ⟨h1, h2, _⟩ := kidx_spec k ks 0 j x hk
    have := (List.getElem?_eq_some_iff.1 h2).1
    rw [List.length_eraseIdx]
    simp at this
    rw [if_pos this]; omega
  · rename_i hk
    rw [hk] at h; cases h
end Go.Proofs.Ytglbfgpdmlkamaa
