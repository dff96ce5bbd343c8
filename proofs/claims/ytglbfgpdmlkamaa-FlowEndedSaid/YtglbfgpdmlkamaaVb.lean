/-
  The walk of slices.Delete at packets.
-/
import Derived.Test.YtglbfgpdmlkamaaPop
import Derived.Test.YtglbfgpdmlkamaaRgl
import Derived.Test.YtglbfgpdmlkamaaWc
import Derived.Lib.SliceRun
import Derived.Laws.IdiomCopy
namespace Go.Proofs.Ytglbfgpdmlkamaa
open Go.RowKit Go.Flw

theorem Blk.setCells {b : Nat} {T : TypeId} : ∀ (vs : List Value) (o : Nat) (w : World) (arr : Array Value), Blk w b arr T → o + vs.length ≤ arr.size →
    ∃ arr' : Array Value, Blk (w.setCells b o vs) b arr' T ∧ arr'.size = arr.size ∧ Chg (· = b) w (w.setCells b o vs) ∧ ∀ i, arr'[i]? = if o ≤ i ∧ i < o + vs.length then vs[i - o]? else arr[i]?
  | [], o, w, arr, h, _ => ⟨arr, h, rfl, Chg.refl _ _, fun i => by rw [if_neg (by simp only [List.length_nil]; omega)]⟩
  | v :: r, o, w, arr, h, hs => by
    simp only [List.length_cons] at hs
    obtain ⟨arr', h1, h2, h3, h4⟩ := Blk.setCells r (o + 1) (w.setCell ⟨b, o, none⟩ v) _ (h.set o v) (by simp; omega)
    refine ⟨arr', h1, by rw [h2]; simp, ((Chg.refl (· = b) w).setCell (p := ⟨b, o, none⟩) (.inl rfl) v).comp h3, fun i => ?_⟩
    rw [h4 i]
    by_cases hi : i = o
    · subst hi
      rw [if_neg (by omega), if_pos (by simp)]
      rw [Array.getElem?_setIfInBounds_self_of_lt (by omega)]
      simp
    · by_cases hi2 : o + 1 ≤ i ∧ i < o + 1 + r.length
      · rw [if_pos hi2, if_pos (by simp; omega)]
        have : i - o = (i - (o + 1)) + 1 := by omega
        rw [this, List.getElem?_cons_succ]
      · rw [if_neg hi2, if_neg (by simp; omega)]
        rw [Array.getElem?_setIfInBounds_ne (by omega)]

theorem wp_append_at {P : Program} {o : Oper} {ac : Act} {w : World} {K : Act → World → Prop} {Q : Exit → Act → World → Prop} (s x : Operand) (t : TypeId)
    (ho : o.op = .call { callee := .builtin .append, args := #[s, x], argTypes := #[t, t] })
    (e : TypeId) (i : TypeInfo) (ht : P.underlying t = some (.slice e)) (hi : P.info? e = some i)
    (g off sLen sCap : Nat) (cur : Array Value) (hs : ac.eval s = .slice (some ⟨g, off, none⟩) sLen sCap) (hg : w.heap[g]? = some (.cells cur e (0, 0)))
    (a : Addr) (m c : Nat) (news : List Value) (hx : ac.eval x = .slice (some a) m c) (hl : news.length = m * i.size) (hnews : ∀ j u, news[j]? = some u → w.cell? (a.add j) = some u) (h1 : ∀ u ∈ news, u.oneCell' = true)
    (hroom : sLen + m ≤ sCap) (hfit : off + sLen * i.size + news.length ≤ cur.size)
    (h : K (ac.put o.dst (.slice (some ⟨g, off, none⟩) (sLen + m) sCap)) (w.setRow g (cur.toList.take (off + sLen * i.size) ++ news ++ cur.toList.drop (off + sLen * i.size + news.length)).toArray)) : o.wp P ac w K Q := by
  unfold Oper.wp execOp
  simp only [ho, resolve, invoke, builtin, Sem.run_bind, Sem.run_pure, Result.andThen_ok, List.map_toArray, List.map_cons, List.map_nil, hs, hx, run_append_room_at (P := P) w t o.type e i ht hi g off sLen sCap cur hg a m c news hl hnews h1 hroom hfit]
  exact h

/-- What Delete leaves. -/
def DelR (w : World) (v : Value) (fs : List Pk) (r : Ending) (w' : World) : Prop := ∃ v', r = .returned v' ∧ PSl w' v' fs ∧ Chg (· ∈ slB v) w w' ∧ slB v' = slB v

set_option maxHeartbeats 1600000 in
set_option maxRecDepth 100000 in
theorem Delete_calls (w : World) (v : Value) (fs : List Pk) (k : Nat) (h : PSl w v fs) (hk : k < fs.length) : Calls Try.prog 67 #[v, vi k, vi ((k : Int) + 1)] w (DelR w v (fs.take k ++ fs.drop (k + 1))) := by
  obtain ⟨n, hn⟩ : ∃ n, n = fs.length := ⟨_, rfl⟩
  have hlen := h.1
  rcases h.2 with ⟨_, hz⟩ | ⟨B, off, cap, arr, rfl, hb, hnc, hcs, hcm, hcell⟩
  · omega
  simp only [Nat.mul_one] at hcs hcell
  rw [← hn] at hk hnc hcell ⊢
  simp only [maxLen] at hcm
  have hmix : Try.prog.follows .mixedOrders = true := by kernel_rfl
  obtain ⟨i0, hi, hz0, hz1, hz2⟩ := info_parts Try.info62
  have gk : ((k : Int) == (k : Int) + 1) = false := by simp; omega
  have hkc : k ≤ cap := by omega
  have hkn : 0 ≤ (k : Int) + 1 ∧ (k : Int) + 1 ≤ n := by omega
  obtain ⟨news, hnews⟩ : ∃ news, news = (fs.drop (k + 1)).map Pk.ptr := ⟨_, rfl⟩
  have hnl : news.length = n - (k + 1) := by rw [hnews]; simp; omega
  have hget : ∀ t, t < n - (k + 1) → news[t]? = arr[off + (k + 1) + t]? := by
    intro t ht
    have e1 : off + (k + 1) + t = off + (k + 1 + t) := by omega
    rw [hnews, e1, hcell (k + 1 + t) (by omega), List.map_drop, List.getElem?_drop]
  obtain ⟨A, hA, hsrc⟩ : ∃ A : Addr, (if cap = k + 1 then some (⟨B, off, none⟩ : Addr) else some ⟨B, off + (k + 1), none⟩) = some A ∧ Hid (∀ t u, news[t]? = some u → w.drew.cell? (A.add t) = some u) := by
    by_cases hh : cap = k + 1
    · refine ⟨⟨B, off, none⟩, by simp [hh], fun t u hu => ?_⟩
      have h0 : news.length = 0 := by omega
      rw [List.length_eq_zero_iff.1 h0] at hu
      simp at hu
    · refine ⟨⟨B, off + (k + 1), none⟩, by simp [hh], fun t u hu => ?_⟩
      have ht : t < n - (k + 1) := by have := (List.getElem?_eq_some_iff.1 hu).1; omega
      rw [hget t ht] at hu
      rw [Addr.add_lit]
      exact hb.drew.cell _ hu
  have h1 : Hid (∀ u ∈ news, u.oneCell' = true) := fun u hu => by
    rw [hnews] at hu
    obtain ⟨p, _, rfl⟩ := List.mem_map.1 hu
    rfl
  have Hn : Hid (n = fs.length) := hn
  have Hl : Hid (news.length = n - (k + 1)) := hnl
  have HN : Hid (news = (fs.drop (k + 1)).map Pk.ptr) := hnews
  clear hn hnl hnews hget hlen
  go_enter Try.func67, Try.ntmps67
  go_wp2_with (fail)
  refine region_anyL (fun _ => true) (fun _ => True) hmix ?_
  refine anyL_take (i := 0) rfl trivial (by kernel_rfl) (by kernel_rfl) (by kernel_rfl) (by kernel_rfl) (fun _ _ _ h => h) rfl (fun W hW => by go_simp; with_reducible rfl) ?_
  go_simp
  refine anyL_take (i := 1) rfl trivial (by kernel_rfl) (by kernel_rfl) (by kernel_rfl) (by kernel_rfl) (fun _ _ _ h => h) rfl (fun W hW => by go_simp; with_reducible rfl) ?_
  go_simp
  refine anyL_take (i := 2) rfl trivial (by kernel_rfl) (by kernel_rfl) (by kernel_rfl) (by kernel_rfl) (fun _ _ _ h => h) rfl (fun W hW => by go_simp; with_reducible rfl) ?_
  go_simp
  refine anyL_take (i := 3) rfl trivial (by kernel_rfl) (by kernel_rfl) (by kernel_rfl) (by kernel_rfl) (fun _ _ _ h => h) rfl (fun W hW => by go_simp; with_reducible rfl) ?_
  go_simp
  refine anyL_take (i := 4) rfl trivial (by kernel_rfl) (by kernel_rfl) (by kernel_rfl) (by kernel_rfl) (fun _ _ _ h => h) rfl (fun W hW => by go_simp; with_reducible rfl) ?_
  go_simp
  refine anyL_take (i := 5) rfl trivial (by kernel_rfl) (by kernel_rfl) (by kernel_rfl) (by kernel_rfl) (fun _ _ _ h => h) rfl (fun W hW => by go_simp; with_reducible rfl) ?_
  go_simp
  refine anyL_one (i := 6) (by kernel_rfl) rfl rfl ?_
  refine wp_append_at (.tmp 22) (.tmp 25) 52 rfl 62 i0 Try.underlying52 hi B off k cap arr (by simp [Act.eval]) hb.drew A (n - (k + 1)) (cap - (k + 1)) news (by simp [Act.eval]) (by rw [hz1, Nat.mul_one]; exact Hl.out) hsrc.out h1.out (by omega) (by rw [hz1, Hl.out]; omega) ?_
  have hb1 : Blk (w.drew.setRow B (arr.toList.take (off + k * i0.size) ++ news ++ arr.toList.drop (off + k * i0.size + news.length)).toArray) B (arr.toList.take (off + k * i0.size) ++ news ++ arr.toList.drop (off + k * i0.size + news.length)).toArray 62 := setRow_heap _ B arr _ 62 _ hb.drew
  have hc1 : Chg (· = B) w (w.drew.setRow B (arr.toList.take (off + k * i0.size) ++ news ++ arr.toList.drop (off + k * i0.size + news.length)).toArray) := ((Chg.refl (· = B) w).drew).setRow (.inl rfl) _
  generalize w.drew.setRow B (arr.toList.take (off + k * i0.size) ++ news ++ arr.toList.drop (off + k * i0.size + news.length)).toArray = W1 at hb1 hc1 ⊢
  refine ⟨fun _ => trivial, ?_⟩
  go_simp
  refine anyL_one (i := 7) (by kernel_rfl) rfl rfl ?_
  go_simp
  refine anyL_done (by kernel_rfl) ?_ _
  have hsz1 : (arr.toList.take (off + k * i0.size) ++ news ++ arr.toList.drop (off + k * i0.size + news.length)).toArray.size = arr.size := by
    rw [hz1]; simp; have := Hl.out; omega
  have hcl : ∀ ty, (Builtin.clear_ #[52] ty #[.slice (some ⟨B, off + (k + (n - (k + 1))), none⟩) (n - (k + (n - (k + 1)))) (cap - (k + (n - (k + 1))))]).run Try.prog W1 = .ok (.tuple #[]) (W1.setCells B (off + (k + (n - (k + 1)))) (List.replicate (n - (k + (n - (k + 1)))) (.pointer none))) :=
    fun ty => Lib.run_clear_slice W1 52 62 ty (.pointer none) Try.underlying52 (fun w => by kernel_rfl) rfl rfl B _ _ _ (by omega) (fun t ht => by rw [hb1.cell _ (Array.getElem?_eq_getElem (by rw [hsz1]; omega))]; rfl) (fun t ht => hb1.frozen _)
  have hne : ¬ cap = k + (n - (k + 1)) := by omega
  have hle : k + (n - (k + 1)) ≤ n := by omega
  go_wp2_with (fail)
  go_ret
  obtain ⟨arr2, hb2, hs2, hc2, hg2⟩ := Blk.setCells (List.replicate (n - (k + (n - (k + 1)))) (.pointer none)) (off + (k + (n - (k + 1)))) W1 _ hb1 (by rw [hsz1]; simp; omega)
  have hn := Hn.out
  have hl := Hl.out
  have e1 : (fs.take k ++ fs.drop (k + 1)).length = k + (n - (k + 1)) := by simp; omega
  refine ⟨_, rfl, ?_, ?_, rfl⟩
  · rw [PSl, e1]
    refine ⟨by simp; omega, .inr ⟨B, off, cap, arr2, rfl, hb2, by omega, by rw [hs2, hsz1]; omega, by simp only [maxLen]; omega, fun i hi' => ?_⟩⟩
    rw [Nat.mul_one] at hi'
    rw [hg2, if_neg (by omega)]
    have hfl : (arr.toList.take (off + k * i0.size)).length = off + k := by rw [hz1]; simp; omega
    simp only [List.getElem?_toArray, List.map_append, List.append_assoc]
    by_cases hik : i < k
    · rw [List.getElem?_append_left (by omega), List.getElem?_take_of_lt (by rw [hz1]; omega), Array.getElem?_toList, hcell i (by omega), List.getElem?_append_left (by simp; omega), List.map_take, List.getElem?_take_of_lt hik]
    · rw [List.getElem?_append_right (by omega), hfl, List.getElem?_append_left (by omega), HN.out, List.getElem?_append_right (by simp; omega)]
      congr 1
      simp
      omega
  · have := hc1.comp hc2
    exact this.mono fun i _ hh => by simp [slB, hh]
end Go.Proofs.Ytglbfgpdmlkamaa
