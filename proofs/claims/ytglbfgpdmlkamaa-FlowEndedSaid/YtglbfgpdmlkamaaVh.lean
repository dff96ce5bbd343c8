/-
  The walk of pass.
-/
import Derived.Test.YtglbfgpdmlkamaaVg
import Derived.Test.YtglbfgpdmlkamaaWl
import Derived.Deep.DeepCutAuto
namespace Go.Proofs.Ytglbfgpdmlkamaa
open Go.RowKit Go.Flw

variable {b : Nat} {e : E} {ws fs : List Pk} {ks : List Ke} {clk : Nat}

/-- What came in order is passed, packet by packet. -/
inductive Pass (e : E) (ks : List Ke) : E → List Ke → Prop
  | refl : Pass e ks e ks
  | step {e1 ks1 j x} (h : Pass e ks e1 ks1) (hk : kidx ((e1.base + 1) % 65536) ks1 0 = some (j, x)) (he : e1.ended = false) :
      Pass e ks { e1 with base := (e1.base + 1) % 65536, ready := e1.ready ++ x.seg.body, ended := x.seg.kind == 4 } (kdel ks1 ((e1.base + 1) % 65536))

/-- How many entries a map has. -/
def mapSize (w : World) (m : Nat) : Nat := match w.heap[m]? with | some (.map es _) => es.size | _ => 0

def PassR (b : Nat) (e : E) (ws fs : List Pk) (ks : List Ke) (clk : Nat) (w : World) (r : Ending) (w' : World) : Prop :=
  r = .returned (.tuple #[]) ∧ ∃ e1 ks1, Went w b e ws fs w' e1 ws fs ks1 clk ∧ Pass e ks e1 ks1 ∧ (kidx ((e1.base + 1) % 65536) ks1 0 = none ∨ e1.ended = true)

set_option maxHeartbeats 1600000 in
set_option maxRecDepth 100000 in
theorem pass_calls (w : World) (h : EndIs w b e ws fs ks clk) (h0 : 0 ≤ e.base) (h1 : e.base < 65536) (hr : e.ready.size ≤ 1000000) (hkl : ks.length ≤ 100000) (hkb : ∀ k ∈ ks, k.seg.body.size ≤ 1400) : Calls Try.prog 64 #[.pointer (some ⟨b, 0, none⟩)] w (PassR b e ws fs ks clk w) := by
  have hmix : Try.prog.follows .mixedOrders = true := by kernel_rfl
  go_enter Try.func64, Try.ntmps64
  go_wp2
  go_loopw [] (fun wr => ∃ e1 ks1, Went w b e ws fs wr e1 ws fs ks1 clk ∧ Pass e ks e1 ks1 ∧ 0 ≤ e1.base ∧ e1.base < 65536 ∧ Hid (e1.mb = e.mb) ∧ (e1.ready.size + 1400 * ks1.length ≤ 1000000 + 1400 * ks.length ∧ ∀ k ∈ ks1, k.seg.body.size ≤ 1400)) (fun wr => mapSize wr e.mb)
  case atStart => exact ⟨e, ks, h.refl, .refl, h0, h1, rfl, by omega, hkb⟩
  case round =>
    obtain ⟨e1, ks1, hW, hP, hb0, hb1, hmb, hsz, hkb1⟩ := hrel
    have hmap := hW.is.map
    have c1 := ce_base hW.is.blk
    have c2 := ce_mb hW.is.blk
    have c3 := ce_ended hW.is.blk
    rw [hmb.out] at hmap c2
    have hms : mapSize wr e.mb = ks1.length := by simp [mapSize, hmap]
    have hbn : (e1.base + 1).tmod 65536 = (e1.base + 1) % 65536 := Int.tmod_eq_emod_of_nonneg (by omega)
    have hlk := run_lookup_ke (w := wr) ((e1.base + 1) % 65536) hmap
    have hbw : (e1.base + 1) % 65536 < 65536 := Int.emod_lt_of_pos _ (by decide)
    have hbw0 : 0 ≤ (e1.base + 1) % 65536 := Int.emod_nonneg _ (by decide)
    have hbB := hW.is.blk.lt
    cases hk : kidx ((e1.base + 1) % 65536) ks1 0 with
    | none =>
      simp only [kval, khas, hk, Option.isSome_none, seg0] at hlk
      clear hms
      go_wp2_with (fail)
      exact bodyPost_ret (results_none rfl _ _ _) rfl ⟨rfl, e1, ks1, hW.alloc _, hP, .inl hk⟩
    | some p =>
      obtain ⟨j, x⟩ := p
      have hlen := kdel_len (ks := ks1) (k := (e1.base + 1) % 65536) (by simp [khas, hk])
      simp only [kval, khas, hk, Option.isSome_some, Seg.enc] at hlk
      have hxb : x.seg.body.size ≤ 1400 := by
        obtain ⟨_, h2, _⟩ := kidx_spec _ _ _ _ _ hk
        exact hkb1 x (List.mem_of_getElem? h2)
      have hcat : ¬ 9223372036854775807 < e1.ready.size + x.seg.body.size := by omega
      cases hen : e1.ended <;> rw [hen] at c3
      · have hdl := fun o ty => run_delete_ke (w := wr.alloc o) ((e1.base + 1) % 65536) ty (Go.Flw.heap_alloc_old hmap o)
        have hms2 : Hid (mapSize wr e.mb = ks1.length) := hms
        clear hms
        go_upto_region 4 with (fail)
        have hWk := (hW.alloc (.cells #[vi x.seg.kind, vi x.seg.conn, vi x.seg.seq, vi x.seg.ack, vi x.seg.window, .string x.seg.marks, .string x.seg.body, vi x.seg.time, vi x.seg.late] 70)).trans (EndIs.kept (hW.alloc (.cells #[vi x.seg.kind, vi x.seg.conn, vi x.seg.seq, vi x.seg.ack, vi x.seg.window, .string x.seg.marks, .string x.seg.body, vi x.seg.time, vi x.seg.late] 70)).is (kdel ks1 ((e1.base + 1) % 65536)) clk (fun k hk => (hW.is.born k (kdel_mem hk))))
        rw [hmb.out] at hWk
        have hxs : Blk ((wr.alloc (.cells #[vi x.seg.kind, vi x.seg.conn, vi x.seg.seq, vi x.seg.ack, vi x.seg.window, .string x.seg.marks, .string x.seg.body, vi x.seg.time, vi x.seg.late] 70)).putObj e.mb (.map ((kdel ks1 ((e1.base + 1) % 65536)).map Ke.enc).toArray clk)) wr.heap.size #[vi x.seg.kind, vi x.seg.conn, vi x.seg.seq, vi x.seg.ack, vi x.seg.window, .string x.seg.marks, .string x.seg.body, vi x.seg.time, vi x.seg.late] 70 :=
          (Blk.new wr _ 70).put (fun hh => by have := (Array.getElem?_eq_some_iff.1 hmap).1; omega) _
        have hszz : wr.heap.size < ((wr.alloc (.cells #[vi x.seg.kind, vi x.seg.conn, vi x.seg.seq, vi x.seg.ack, vi x.seg.window, .string x.seg.marks, .string x.seg.body, vi x.seg.time, vi x.seg.late] 70)).putObj e.mb (.map ((kdel ks1 ((e1.base + 1) % 65536)).map Ke.enc).toArray clk)).heap.size := hxs.lt
        have hbx : b ≠ wr.heap.size := by omega
        generalize (wr.alloc (.cells #[vi x.seg.kind, vi x.seg.conn, vi x.seg.seq, vi x.seg.ack, vi x.seg.window, .string x.seg.marks, .string x.seg.body, vi x.seg.time, vi x.seg.late] 70)).putObj e.mb (.map ((kdel ks1 ((e1.base + 1) % 65536)).map Ke.enc).toArray clk) = W2 at hWk hxs hszz ⊢
        clear hW hdl hlk c1 c2 c3
        have f1 := hWk.is.blk.frozen 12
        have d1 := ce_base hWk.is.blk
        go_upto_region 5 with (fail)
        have hW3 := hWk.trans (hWk.is.went1 (e' := { e1 with base := (e1.base + 1) % 65536 }) ((Chg.refl (· = b) W2).setCell (p := ⟨b, 12, none⟩) (.inl rfl) (vi ((e1.base + 1) % 65536))) (hWk.is.blk.set 12 _) rfl rfl rfl)
        have hxs3 := hxs.other (c := b) (fun hh => hbx hh.symm) 12 (vi ((e1.base + 1) % 65536))
        clear hWk hxs hszz f1 d1
        generalize W2.setCell ⟨b, 12, none⟩ (vi ((e1.base + 1) % 65536)) = W3 at hW3 hxs3 ⊢
        have c1 := ce_ready hW3.is.blk
        have c2 := hxs3.cell 6 rfl
        have hrd : ∀ W', W' = W3.drew → W'.cell? ⟨b, 15, none⟩ = some (.string e1.ready) ∧ W'.cell? ⟨wr.heap.size, 6, none⟩ = some (.string x.seg.body) := fun W' hW' => by rw [hW']; exact ⟨c1, c2⟩
        have hC0 : W3.drew = W3.drew := rfl
        refine region_anyN (fun j => j != 11) (fun W' => W' = W3.drew) hmix ?_
        refine anyL_take (i := 0) rfl hC0 (by kernel_rfl) (by kernel_rfl) (by kernel_rfl) (by kernel_rfl) (fun _ _ _ h => nomatch h.1) rfl (fun W' hW' => by obtain ⟨x1, x2⟩ := hrd W' hW'; go_simp; with_reducible rfl) ?_
        go_simp
        refine anyL_take (i := 1) rfl hC0 (by kernel_rfl) (by kernel_rfl) (by kernel_rfl) (by kernel_rfl) (fun _ _ _ h => nomatch h.1) rfl (fun W' hW' => by obtain ⟨x1, x2⟩ := hrd W' hW'; go_simp; with_reducible rfl) ?_
        go_simp
        refine anyL_take (i := 2) rfl hC0 (by kernel_rfl) (by kernel_rfl) (by kernel_rfl) (by kernel_rfl) (fun _ _ _ h => nomatch h.1) rfl (fun W' hW' => by obtain ⟨x1, x2⟩ := hrd W' hW'; go_simp; with_reducible rfl) ?_
        go_simp
        refine anyL_take (i := 3) rfl hC0 (by kernel_rfl) (by kernel_rfl) (by kernel_rfl) (by kernel_rfl) (fun _ _ _ h => nomatch h.1) rfl (fun W' hW' => by obtain ⟨x1, x2⟩ := hrd W' hW'; go_simp; with_reducible rfl) ?_
        go_simp
        refine anyL_take (i := 4) rfl hC0 (by kernel_rfl) (by kernel_rfl) (by kernel_rfl) (by kernel_rfl) (fun _ _ _ h => nomatch h.1) rfl (fun W' hW' => by obtain ⟨x1, x2⟩ := hrd W' hW'; go_simp; with_reducible rfl) ?_
        go_simp
        refine anyL_take (i := 5) rfl hC0 (by kernel_rfl) (by kernel_rfl) (by kernel_rfl) (by kernel_rfl) (fun _ _ _ h => nomatch h.1) rfl (fun W' hW' => by obtain ⟨x1, x2⟩ := hrd W' hW'; go_simp; with_reducible rfl) ?_
        go_simp
        refine anyL_take (i := 6) rfl hC0 (by kernel_rfl) (by kernel_rfl) (by kernel_rfl) (by kernel_rfl) (fun _ _ _ h => nomatch h.1) rfl (fun W' hW' => by obtain ⟨x1, x2⟩ := hrd W' hW'; go_simp; with_reducible rfl) ?_
        go_simp
        refine anyL_one (i := 7) (by kernel_rfl) rfl rfl ?_
        go_simp
        try refine ⟨rfl, ?_⟩
        refine anyL_one (i := 8) (by kernel_rfl) rfl rfl ?_
        go_simp
        try refine ⟨rfl, ?_⟩
        refine anyL_one (i := 9) (by kernel_rfl) rfl rfl ?_
        go_simp
        try refine ⟨rfl, ?_⟩
        refine anyL_one (i := 10) (by kernel_rfl) rfl rfl ?_
        go_simp
        try refine ⟨rfl, ?_⟩
        have f1 := hW3.is.blk.frozen 15
        refine anyL_one (i := 11) (by kernel_rfl) rfl rfl ?_
        go_simp
        refine anyL_done (by kernel_rfl) ?_ _
        refine ⟨rfl, ?_⟩
        have c3 := ce_ended hW3.is.blk
        have c4 := hxs3.cell 0 rfl
        have f2 := hW3.is.blk.frozen 16
        go_wp2_with (fail)
        have hW5 := (hW3.trans (hW3.is.went1 (e' := { e1 with base := (e1.base + 1) % 65536, ready := e1.ready ++ x.seg.body, ended := x.seg.kind == 4 }) (((Chg.refl (· = b) W3).setCell (p := ⟨b, 15, none⟩) (.inl rfl) (.string (e1.ready ++ x.seg.body))).setCell (p := ⟨b, 16, none⟩) (.inl rfl) (.bool (x.seg.kind == 4))) ((hW3.is.blk.set 15 _).set 16 _) rfl rfl rfl)).drewN 1
        have hm5 := hW5.is.map
        simp only at hm5
        rw [hmb.out] at hm5
        have hmm : mapSize (((W3.setCell ⟨b, 15, none⟩ (.string (e1.ready ++ x.seg.body))).setCell ⟨b, 16, none⟩ (.bool (x.seg.kind == 4))).drewN 1) e.mb = (kdel ks1 ((e1.base + 1) % 65536)).length := by rw [mapSize, hm5]; simp
        refine ⟨⟨_, _, hW5, .step hP hk hen, hbw0, hbw, hmb, ?_, fun k hk' => hkb1 k (kdel_mem hk')⟩, ?_⟩
        · simp only [ByteArray.size_append]; omega
        · rw [hms2.out]; exact hmm ▸ hlen
      · clear hms
        go_wp2_with (fail)
        exact bodyPost_ret (results_none rfl _ _ _) rfl ⟨rfl, e1, ks1, hW.alloc _, hP, .inr hen⟩
end Go.Proofs.Ytglbfgpdmlkamaa
