/-
  Packets arrive.
-/
import Derived.Test.YtglbfgpdmlkamaaQd
namespace Go.Proofs.Ytglbfgpdmlkamaa
open Go.RowKit Go.Flw

variable {w0 : World} {pb bA bB : Nat} {vA vB : Value} {A B : Side} {now at_ conn first other limit : Int} {hA hB : Hist}

/-- What arriving leaves. -/
def Arr (w0 : World) (pb bA bB : Nat) (conn first other limit : Int) (hA hB : Hist) (A B : Side) (now at_ : Int) (r : Ending) (w' : World) : Prop :=
  r = .returned (.bool true) ∧ ∃ vA' vB' A' B', PairAt w0 w' pb bA bB vA' vB' A' B' now at_ ∧ PairOk conn first other limit hA hB A' B' now ∧ A'.way.length ≤ A.way.length ∧ B'.way.length ≤ B.way.length ∧ A'.wrote = A.wrote ∧ B'.wrote = B.wrote ∧ A'.e.closing = A.e.closing

theorem ReadP.cl {e e' : E} {s : ByteArray} {c : Int} (h : ReadP e s c e') : e'.closing = e.closing := by
  rcases h with ⟨_, _, rfl⟩ | ⟨_, rest, rfl, _⟩ <;> rfl

theorem PairOk.takeA_cl (p : PairOk conn first other limit hA hB A B now) {s : Seg} (hs : s ∈ B.way) {e' : E} {fs' : List Pk} {ks' : List Ke} {clk' : Nat} (h : Took A.e A.fs A.ks A.clk s e' fs' ks' clk') : e'.closing = A.e.closing :=
  (took p.sa p.ra p.sb.hok (p.wb s hs) (fun _ => p.stA) (fun h1 h3 => ⟨(p.early h1).1, (p.early h1).2.2.2.2.2 s hs h3⟩) h).2.2.closing
theorem PairOk.takeB_cl (p : PairOk conn first other limit hA hB A B now) {s : Seg} (hs : s ∈ A.way) {e' : E} {fs' : List Pk} {ks' : List Ke} {clk' : Nat} (h : Took B.e B.fs B.ks B.clk s e' fs' ks' clk') : e'.closing = B.e.closing :=
  (took p.sb p.rb p.sa.hok (p.wa s hs) (fun h => by rw [p.opB] at h; cases h) (fun h1 => absurd h1 p.stB) h).2.2.closing

set_option maxHeartbeats 3200000 in
set_option maxRecDepth 100000 in
theorem arrive0_calls (w : World) (n most : Int) (p : PairAt w0 w pb bA bB vA vB A B now at_) (o : PairOk conn first other limit hA hB A B now) (h1 : now ≤ 1000000000) (hn : 1 ≤ n) (hn2 : n ≤ 1000) (hm : 0 ≤ most) (hoks : ∀ s ∈ B.way, SegOk s) :
    Calls Try.prog 11 #[.pointer (some ⟨pb, 0, none⟩), vi 0, vi n, vi most] w (Arr w0 pb bA bB conn first other limit hA hB A B now at_) := by
  have hmix : Try.prog.follows .mixedOrders = true := by kernel_rfl
  obtain ⟨va, vc, hvf, hvc, hvm⟩ := Sl.form p.wb
  unfold maxLen at hvm
  obtain ⟨len, hlen⟩ : ∃ n, Hid (B.way.length = n) := ⟨_, rfl⟩
  rw [hlen.out] at hvf hvc
  subst hvf
  have c3 : w.cell? ⟨pb, 3, none⟩ = some (.slice va len vc) := p.blk.cell 3 rfl
  go_enter Try.func11, Try.ntmps11
  go_upto_region 3 with (fail)
  obtain ⟨q, hqn, hqe⟩ : ∃ q : Nat, q ≤ len ∧ (if (len : Int) < n then (len : Int) else n) = q := by
    by_cases h : (len : Int) < n
    · exact ⟨len, Nat.le_refl _, if_pos h⟩
    · exact ⟨n.toNat, by omega, by rw [if_neg h]; omega⟩
  rw [hqe]
  clear hqe c3
  have hcut := SSl.halves hlen.out p.wb q hqn
  obtain ⟨hs1, hs2, hb1, hb2⟩ := hcut
  have hm1 : ∀ x, x ∈ slB (sliced va 0 q vc 9) → x ∈ slB (.slice va len vc) := fun x hx => by rw [hb1] at hx; exact hx
  have hm2 : ∀ x, x ∈ slB (sliced va q len vc 9) → x ∈ slB (.slice va len vc) := fun x hx => by rw [hb2] at hx; exact hx
  have hs4 : SSl w.drew (sliced va 0 q vc 9) (B.way.take q) := Sl.chg hs1 (Chg.refl (fun _ => False) w).drew (fun _ _ hh => hh)
  have hs5 : SSl w.drew (sliced va q len vc 9) (B.way.drop q) := Sl.chg hs2 (Chg.refl (fun _ => False) w).drew (fun _ _ hh => hh)
  have e0 : sliced va 0 q vc 9 = .slice va q vc := by cases va <;> simp [sliced, Addr.add]
  rw [e0] at hm1 hs4
  clear hb1 hb2 hs1 hs2 e0
  have hD0 := p.blk.drew
  have hrd : ∀ W', Blk W' pb (pairCells bA bB vA (.slice va len vc) A B now at_) 38 → W'.cell? ⟨pb, 0, none⟩ = some (.pointer (some ⟨bA, 0, none⟩)) ∧ W'.cell? ⟨pb, 8, none⟩ = some (vi now) := fun W' h => ⟨h.cell 0 rfl, h.cell 8 rfl⟩
  have hq1 : (q : Int) ≤ vc := by omega
  refine region_anyN (fun _ => true) (fun W' => Blk W' pb (pairCells bA bB vA (.slice va len vc) A B now at_) 38) hmix ?_
  refine anyL_take (i := 0) rfl hD0 (by kernel_rfl) (by kernel_rfl) (by kernel_rfl) (by kernel_rfl) (fun _ _ _ h => nomatch h.1) rfl (fun W' hW' => by obtain ⟨x0, x1⟩ := hrd W' hW'; go_simp; with_reducible rfl) ?_
  go_simp
  refine anyL_take (i := 1) rfl hD0 (by kernel_rfl) (by kernel_rfl) (by kernel_rfl) (by kernel_rfl) (fun _ _ _ h => nomatch h.1) rfl (fun W' hW' => by obtain ⟨x0, x1⟩ := hrd W' hW'; go_simp; with_reducible rfl) ?_
  go_simp
  refine anyL_take (i := 2) rfl hD0 (by kernel_rfl) (by kernel_rfl) (by kernel_rfl) (by kernel_rfl) (fun _ _ _ h => nomatch h.1) rfl (fun W' hW' => by obtain ⟨x0, x1⟩ := hrd W' hW'; go_simp; with_reducible rfl) ?_
  go_simp
  refine anyL_take (i := 3) rfl hD0 (by kernel_rfl) (by kernel_rfl) (by kernel_rfl) (by kernel_rfl) (fun _ _ _ h => nomatch h.1) rfl (fun W' hW' => by obtain ⟨x0, x1⟩ := hrd W' hW'; go_simp; with_reducible rfl) ?_
  go_simp
  refine anyL_take (i := 4) rfl hD0 (by kernel_rfl) (by kernel_rfl) (by kernel_rfl) (by kernel_rfl) (fun _ _ _ h => nomatch h.1) rfl (fun W' hW' => by obtain ⟨x0, x1⟩ := hrd W' hW'; go_simp; with_reducible rfl) ?_
  go_simp
  refine anyL_take (i := 5) rfl hD0 (by kernel_rfl) (by kernel_rfl) (by kernel_rfl) (by kernel_rfl) (fun _ _ _ h => nomatch h.1) rfl (fun W' hW' => by obtain ⟨x0, x1⟩ := hrd W' hW'; go_simp; with_reducible rfl) ?_
  go_simp
  refine anyL_take (i := 6) rfl hD0 (by kernel_rfl) (by kernel_rfl) (by kernel_rfl) (by kernel_rfl) (fun _ _ _ h => nomatch h.1) rfl (fun W' hW' => by obtain ⟨x0, x1⟩ := hrd W' hW'; go_simp; with_reducible rfl) ?_
  go_simp
  refine anyL_take (i := 7) rfl hD0 (by kernel_rfl) (by kernel_rfl) (by kernel_rfl) (by kernel_rfl) (fun _ _ _ h => nomatch h.1) rfl (fun W' hW' => by obtain ⟨x0, x1⟩ := hrd W' hW'; go_simp; with_reducible rfl) ?_
  go_simp
  refine anyL_take (i := 8) rfl hD0 (by kernel_rfl) (by kernel_rfl) (by kernel_rfl) (by kernel_rfl) (fun _ _ _ h => nomatch h.1) rfl (fun W' hW' => by obtain ⟨x0, x1⟩ := hrd W' hW'; go_simp; with_reducible rfl) ?_
  go_simp
  refine anyL_take (i := 9) rfl hD0 (by kernel_rfl) (by kernel_rfl) (by kernel_rfl) (by kernel_rfl) (fun _ _ _ h => nomatch h.1) rfl (fun W' hW' => by obtain ⟨x0, x1⟩ := hrd W' hW'; go_simp; with_reducible rfl) ?_
  go_simp
  refine anyL_take (i := 10) rfl hD0 (by kernel_rfl) (by kernel_rfl) (by kernel_rfl) (by kernel_rfl) (fun _ _ _ h => nomatch h.1) rfl (fun W' hW' => by obtain ⟨x0, x1⟩ := hrd W' hW'; go_simp; with_reducible rfl) ?_
  go_simp
  refine anyL_take (i := 11) rfl hD0 (by kernel_rfl) (by kernel_rfl) (by kernel_rfl) (by kernel_rfl) (fun _ _ _ h => nomatch h.1) rfl (fun W' hW' => by obtain ⟨x0, x1⟩ := hrd W' hW'; go_simp; with_reducible rfl) ?_
  go_simp
  refine anyL_take (i := 12) rfl hD0 (by kernel_rfl) (by kernel_rfl) (by kernel_rfl) (by kernel_rfl) (fun _ _ _ h => nomatch h.1) rfl (fun W' hW' => by obtain ⟨x0, x1⟩ := hrd W' hW'; go_simp; with_reducible rfl) ?_
  go_simp
  refine anyL_one (i := 13) (by kernel_rfl) rfl rfl ?_
  go_simp
  refine (Take_calls w.drew now _ (B.way.take q) (fun e fs ks clk => PairOk conn first other limit hA hB { A with e := e, fs := fs, ks := ks, clk := clk } B now ∧ e.closing = A.e.closing) (fun e fs ks clk oo => takeOk_of oo.1.sa oo.1.ra oo.1.sb) (fun s hs e fs ks clk e' fs' ks' clk' oo ht => ⟨oo.1.takeA (List.mem_of_mem_take hs) ht, (oo.1.takeA_cl (List.mem_of_mem_take hs) ht).trans oo.2⟩) p.ea.drew ⟨o.nowSetA (Int.le_trans o.nowA.1 o.nowA.2), rfl⟩ o.nowA.2 h1 hs4 (fun s hs => hoks s (List.mem_of_mem_take hs)) (fun x hx hh => ?_)).mono ?_
  · exact (p.d1 x hh).2.2.2 (hm1 x hx)
  rintro r w1 ⟨rfl, e', fs', ks', clk', hW, o1, hcl⟩
  replace hcl : Hid (e'.closing = A.e.closing) := hcl
  have hpf : pb ∉ A.foot bA := fun hh => (p.d1 _ hh).1 rfl
  have hD1 : Blk w1 pb (pairCells bA bB vA (.slice va len vc) A B now at_) 38 := hD0.chg hW.chg hpf
  refine ⟨hD1, ?_⟩
  refine anyL_one (i := 14) (by kernel_rfl) rfl rfl ?_
  go_simp
  first | (refine anyL_done (by kernel_rfl) ?_ _; refine ⟨rfl, ?_⟩) | (refine ⟨hD1, anyL_done (by kernel_rfl) ?_ _⟩; refine ⟨rfl, ?_⟩)
  have hp1 := (p.below (Below.refl _ w).drew).goA hW
  have hs3 : SSl w1 (sliced va q len vc 9) (B.way.drop q) := Sl.chg hs5 hW.chg (fun x hx hh => (p.d1 x hh).2.2.2 (hm2 x hx))
  clear hD0 hW hrd hs4 hs5
  go_upto_region 5 with (fail)
  have hD2 := hp1.blk.drew
  have hrd2 : ∀ W', Blk W' pb (pairCells bA bB vA (.slice va len vc) { A with e := e', fs := fs', ks := ks', clk := clk' } B now at_) 38 → ∃ x : Nat, x = 0 := fun _ _ => ⟨0, rfl⟩
  have hw1 : IntKind.wrap .i64 1 = 1 := by kernel_rfl
  have hC2 : Chg (· = pb) w1.drew w1.drew := Chg.refl _ _
  refine region_anyN (fun j => j != 0 && j != 6 && j != 7 && j != 9) (fun W' => Blk W' pb (pairCells bA bB vA (.slice va len vc) { A with e := e', fs := fs', ks := ks', clk := clk' } B now at_) 38) hmix ?_
  refine anyL_pure (i := 0) rfl rfl (by kernel_rfl) (by kernel_rfl) (by kernel_rfl) (fun _ _ _ h => nomatch h.1) rfl (fun W' => by go_simp; with_reducible rfl) ?_
  go_simp
  refine anyL_pure (i := 6) rfl rfl (by kernel_rfl) (by kernel_rfl) (by kernel_rfl) (fun _ _ _ h => nomatch h.1) rfl (fun W' => by go_simp; with_reducible rfl) ?_
  go_simp
  refine anyL_pure (i := 7) rfl rfl (by kernel_rfl) (by kernel_rfl) (by kernel_rfl) (fun _ _ _ h => nomatch h.1) rfl (fun W' => by go_simp; with_reducible rfl) ?_
  go_simp
  refine anyL_take (i := 1) rfl hD2 (by kernel_rfl) (by kernel_rfl) (by kernel_rfl) (by kernel_rfl) (fun _ _ _ h => nomatch h.1) rfl (fun W' hW' => by obtain ⟨x0⟩ := hrd2 W' hW'; go_simp; with_reducible rfl) ?_
  go_simp
  refine anyL_take (i := 2) rfl hD2 (by kernel_rfl) (by kernel_rfl) (by kernel_rfl) (by kernel_rfl) (fun _ _ _ h => nomatch h.1) rfl (fun W' hW' => by obtain ⟨x0⟩ := hrd2 W' hW'; go_simp; with_reducible rfl) ?_
  go_simp
  refine anyL_take (i := 3) rfl hD2 (by kernel_rfl) (by kernel_rfl) (by kernel_rfl) (by kernel_rfl) (fun _ _ _ h => nomatch h.1) rfl (fun W' hW' => by obtain ⟨x0⟩ := hrd2 W' hW'; go_simp; with_reducible rfl) ?_
  go_simp
  refine anyL_take (i := 4) rfl hD2 (by kernel_rfl) (by kernel_rfl) (by kernel_rfl) (by kernel_rfl) (fun _ _ _ h => nomatch h.1) rfl (fun W' hW' => by obtain ⟨x0⟩ := hrd2 W' hW'; go_simp; with_reducible rfl) ?_
  go_simp
  refine anyL_take (i := 5) rfl hD2 (by kernel_rfl) (by kernel_rfl) (by kernel_rfl) (by kernel_rfl) (fun _ _ _ h => nomatch h.1) rfl (fun W' hW' => by obtain ⟨x0⟩ := hrd2 W' hW'; go_simp; with_reducible rfl) ?_
  go_simp
  refine anyL_take (i := 8) rfl hD2 (by kernel_rfl) (by kernel_rfl) (by kernel_rfl) (by kernel_rfl) (fun _ _ _ h => nomatch h.1) rfl (fun W' hW' => by obtain ⟨x0⟩ := hrd2 W' hW'; go_simp; with_reducible rfl) ?_
  go_simp
  refine anyL_one (i := 9) (by kernel_rfl) rfl rfl ?_
  have q1 := hD2.frozen 3
  have q2 := hD2.cell 3 rfl
  go_simp
  first | (refine anyL_done (by kernel_rfl) ?_ _; refine ⟨rfl, ?_⟩) | (refine ⟨hD2, anyL_done (by kernel_rfl) ?_ _⟩; refine ⟨rfl, ?_⟩)
  clear q1 q2 hrd2 hD2 hC2
  have esl : sliced va q len vc 9 = .slice (if vc = q then va else Option.map (fun x => x.add (q * 9)) va) (len - q) (vc - q) := by simp [sliced]
  rw [esl] at hs3 hm2
  generalize (if vc = q then va else Option.map (fun x => x.add (q * 9)) va) = va2 at hs3 hm2 ⊢
  clear esl
  have hpv : pb ∉ slB (.slice va len vc) := fun hh => (hp1.d4 _ hh) rfl
  have hp2 := hp1.wayB (l := B.way.drop q) ((Chg.refl (fun x => x = pb ∨ x ∈ slB (.slice va len vc)) w1).setCell (p := ⟨pb, 3, none⟩) (.inl (.inl rfl)) (.slice va2 (len - q) (vc - q))) (Sl.chg hs3 ((Chg.refl (· = pb) w1).setCell (p := ⟨pb, 3, none⟩) (.inl rfl) _) (fun x hx hh => hpv (hh ▸ hm2 x hx))) (fun x hx => .inl (hm2 x hx)) (hp1.blk.set 3 _)
  have o2 := o1.dropB q
  have hp3 := hp2.below (Below.refl _ _).drew
  generalize (w1.setCell ⟨pb, 3, none⟩ (.slice va2 (len - q) (vc - q))).drew = W2 at hp3 ⊢
  clear hp1 hp2 hs3 hm2 hpv o1
  have hrdy : e'.ready.size ≤ 1000000 := (takeOk_of o2.sa o2.ra o2.sb).ready
  have c0 : W2.cell? ⟨pb, 0, none⟩ = some (.pointer (some ⟨bA, 0, none⟩)) := hp3.blk.cell 0 rfl
  go_upto_region 7 with (go_at_call 26; refine (Read_calls W2 most hp3.ea hm hrdy).mono ?_; rintro r W3 ⟨t, c, e2, rfl, hP, hW⟩)
  obtain ⟨hc, o3⟩ := o2.readA hP
  have hcl2 : Hid (e2.closing = A.e.closing) := hP.cl.trans hcl.out
  have hp4 := hp3.goA hW
  clear hP hW c0 hrdy o2 hp3
  have hsz : A.read.size + t.size ≤ 3300 := by
    obtain ⟨tl, htl⟩ := o3.soundA
    have := congrArg List.length htl
    have h3 := o3.sum
    simp only [List.length_append, Array.length_toList] at this
    dsimp only at this h3
    have k1 : (A.read ++ t).size = (A.read ++ t).data.size := rfl
    have k2 : (A.read ++ t).size = A.read.size + t.size := ByteArray.size_append
    have k3 : B.wrote.size = B.wrote.data.size := rfl
    omega
  have hsz2 : ¬ 9223372036854775807 < A.read.size + t.size := by omega
  rcases hc with rfl | rfl
  all_goals
    go_upto_region 9 with (fail)
    have hD4 := hp4.blk.drew
    have hrd4 : ∀ W', Blk W' pb (pairCells bA bB vA (.slice va2 (len - q) (vc - q)) { A with e := e2, fs := fs', ks := ks', clk := clk' } { B with way := B.way.drop q } now at_) 38 → W'.cell? ⟨pb, 6, none⟩ = some (.string A.read) ∧ True := fun W' h => ⟨h.cell 6 rfl, trivial⟩
    have hw0 : IntKind.wrap .i64 0 = 0 := by kernel_rfl
    refine region_anyN (fun j => j != 0 && j != 8 && j != 9 && j != 11) (fun W' => Blk W' pb (pairCells bA bB vA (.slice va2 (len - q) (vc - q)) { A with e := e2, fs := fs', ks := ks', clk := clk' } { B with way := B.way.drop q } now at_) 38) hmix ?_
    refine anyL_pure (i := 0) rfl rfl (by kernel_rfl) (by kernel_rfl) (by kernel_rfl) (fun _ _ _ h => nomatch h.1) rfl (fun W' => by go_simp; with_reducible rfl) ?_
    go_simp
    refine anyL_pure (i := 8) rfl rfl (by kernel_rfl) (by kernel_rfl) (by kernel_rfl) (fun _ _ _ h => nomatch h.1) rfl (fun W' => by go_simp; with_reducible rfl) ?_
    go_simp
    refine anyL_pure (i := 9) rfl rfl (by kernel_rfl) (by kernel_rfl) (by kernel_rfl) (fun _ _ _ h => nomatch h.1) rfl (fun W' => by go_simp; with_reducible rfl) ?_
    go_simp
    refine anyL_take (i := 1) rfl hD4 (by kernel_rfl) (by kernel_rfl) (by kernel_rfl) (by kernel_rfl) (fun _ _ _ h => nomatch h.1) rfl (fun W' hW' => by obtain ⟨x0, x1⟩ := hrd4 W' hW'; go_simp; with_reducible rfl) ?_
    go_simp
    refine anyL_take (i := 2) rfl hD4 (by kernel_rfl) (by kernel_rfl) (by kernel_rfl) (by kernel_rfl) (fun _ _ _ h => nomatch h.1) rfl (fun W' hW' => by obtain ⟨x0, x1⟩ := hrd4 W' hW'; go_simp; with_reducible rfl) ?_
    go_simp
    refine anyL_take (i := 3) rfl hD4 (by kernel_rfl) (by kernel_rfl) (by kernel_rfl) (by kernel_rfl) (fun _ _ _ h => nomatch h.1) rfl (fun W' hW' => by obtain ⟨x0, x1⟩ := hrd4 W' hW'; go_simp; with_reducible rfl) ?_
    go_simp
    refine anyL_take (i := 4) rfl hD4 (by kernel_rfl) (by kernel_rfl) (by kernel_rfl) (by kernel_rfl) (fun _ _ _ h => nomatch h.1) rfl (fun W' hW' => by obtain ⟨x0, x1⟩ := hrd4 W' hW'; go_simp; with_reducible rfl) ?_
    go_simp
    refine anyL_take (i := 5) rfl hD4 (by kernel_rfl) (by kernel_rfl) (by kernel_rfl) (by kernel_rfl) (fun _ _ _ h => nomatch h.1) rfl (fun W' hW' => by obtain ⟨x0, x1⟩ := hrd4 W' hW'; go_simp; with_reducible rfl) ?_
    go_simp
    refine anyL_take (i := 6) rfl hD4 (by kernel_rfl) (by kernel_rfl) (by kernel_rfl) (by kernel_rfl) (fun _ _ _ h => nomatch h.1) rfl (fun W' hW' => by obtain ⟨x0, x1⟩ := hrd4 W' hW'; go_simp; with_reducible rfl) ?_
    go_simp
    refine anyL_take (i := 7) rfl hD4 (by kernel_rfl) (by kernel_rfl) (by kernel_rfl) (by kernel_rfl) (fun _ _ _ h => nomatch h.1) rfl (fun W' hW' => by obtain ⟨x0, x1⟩ := hrd4 W' hW'; go_simp; with_reducible rfl) ?_
    go_simp
    refine anyL_take (i := 10) rfl hD4 (by kernel_rfl) (by kernel_rfl) (by kernel_rfl) (by kernel_rfl) (fun _ _ _ h => nomatch h.1) rfl (fun W' hW' => by obtain ⟨x0, x1⟩ := hrd4 W' hW'; go_simp; with_reducible rfl) ?_
    go_simp
    refine anyL_one (i := 11) (by kernel_rfl) rfl rfl ?_
    have q1 := hD4.frozen 6
    have q2 := hD4.cell 6 rfl
    go_simp
    first | (refine anyL_done (by kernel_rfl) ?_ _; refine ⟨rfl, ?_⟩) | (refine ⟨hD4, anyL_done (by kernel_rfl) ?_ _⟩; refine ⟨rfl, ?_⟩)
    clear q1 q2 hrd4
    have hc6 := (Chg.refl (· = pb) W3).setCell (p := ⟨pb, 6, none⟩) (.inl rfl) (.string (A.read ++ t))
    have hb6 := hp4.blk.set 6 (.string (A.read ++ t))
    have hp6 : PairAt w0 (W3.setCell ⟨pb, 6, none⟩ (.string (A.read ++ t))) pb bA bB vA (.slice va2 (len - q) (vc - q)) { A with e := e2, fs := fs', ks := ks', clk := clk', read := A.read ++ t } { B with way := B.way.drop q } now at_ :=
      hp4.own (w1 := A.wrote) (w2 := B.wrote) (r1 := A.read ++ t) (r2 := B.read) hc6 hb6
    have hp7 := hp6.below (Below.refl _ _).drew
    generalize (W3.setCell ⟨pb, 6, none⟩ (.string (A.read ++ t))).drew = W4 at hp7 ⊢
    clear hp4 hc6 hb6 hp6 hD4
    have hso := o3.soundA
    go_wp2_with (go_at_call 27; refine (sound0_calls W4 hp7.blk hso).mono ?_; rintro r W5 ⟨rfl, nd, rfl⟩)
    go_ret
    exact ⟨rfl, _, _, _, _, hp7.below (belowDrewN (Below.refl _ _) _), o3, by simp, by simp, rfl, rfl, hcl2.out⟩

set_option maxHeartbeats 3200000 in
set_option maxRecDepth 100000 in
theorem arrive1_calls (w : World) (n most : Int) (p : PairAt w0 w pb bA bB vA vB A B now at_) (o : PairOk conn first other limit hA hB A B now) (h1 : now ≤ 1000000000) (hn : 1 ≤ n) (hn2 : n ≤ 1000) (hm : 0 ≤ most) (hoks : ∀ s ∈ A.way, SegOk s) :
    Calls Try.prog 11 #[.pointer (some ⟨pb, 0, none⟩), vi 1, vi n, vi most] w (Arr w0 pb bA bB conn first other limit hA hB A B now at_) := by
  have hmix : Try.prog.follows .mixedOrders = true := by kernel_rfl
  obtain ⟨va, vc, hvf, hvc, hvm⟩ := Sl.form p.wa
  unfold maxLen at hvm
  obtain ⟨len, hlen⟩ : ∃ n, Hid (A.way.length = n) := ⟨_, rfl⟩
  rw [hlen.out] at hvf hvc
  subst hvf
  have c3 : w.cell? ⟨pb, 2, none⟩ = some (.slice va len vc) := p.blk.cell 2 rfl
  go_enter Try.func11, Try.ntmps11
  go_upto_region 3 with (fail)
  obtain ⟨q, hqn, hqe⟩ : ∃ q : Nat, q ≤ len ∧ (if (len : Int) < n then (len : Int) else n) = q := by
    by_cases h : (len : Int) < n
    · exact ⟨len, Nat.le_refl _, if_pos h⟩
    · exact ⟨n.toNat, by omega, by rw [if_neg h]; omega⟩
  rw [hqe]
  clear hqe c3
  have hcut := SSl.halves hlen.out p.wa q hqn
  obtain ⟨hs1, hs2, hb1, hb2⟩ := hcut
  have hm1 : ∀ x, x ∈ slB (sliced va 0 q vc 9) → x ∈ slB (.slice va len vc) := fun x hx => by rw [hb1] at hx; exact hx
  have hm2 : ∀ x, x ∈ slB (sliced va q len vc 9) → x ∈ slB (.slice va len vc) := fun x hx => by rw [hb2] at hx; exact hx
  have hs4 : SSl w.drew (sliced va 0 q vc 9) (A.way.take q) := Sl.chg hs1 (Chg.refl (fun _ => False) w).drew (fun _ _ hh => hh)
  have hs5 : SSl w.drew (sliced va q len vc 9) (A.way.drop q) := Sl.chg hs2 (Chg.refl (fun _ => False) w).drew (fun _ _ hh => hh)
  have e0 : sliced va 0 q vc 9 = .slice va q vc := by cases va <;> simp [sliced, Addr.add]
  rw [e0] at hm1 hs4
  clear hb1 hb2 hs1 hs2 e0
  have hD0 := p.blk.drew
  have hrd : ∀ W', Blk W' pb (pairCells bA bB (.slice va len vc) vB A B now at_) 38 → W'.cell? ⟨pb, 1, none⟩ = some (.pointer (some ⟨bB, 0, none⟩)) ∧ W'.cell? ⟨pb, 8, none⟩ = some (vi now) := fun W' h => ⟨h.cell 1 rfl, h.cell 8 rfl⟩
  have hq1 : (q : Int) ≤ vc := by omega
  refine region_anyN (fun _ => true) (fun W' => Blk W' pb (pairCells bA bB (.slice va len vc) vB A B now at_) 38) hmix ?_
  refine anyL_take (i := 0) rfl hD0 (by kernel_rfl) (by kernel_rfl) (by kernel_rfl) (by kernel_rfl) (fun _ _ _ h => nomatch h.1) rfl (fun W' hW' => by obtain ⟨x0, x1⟩ := hrd W' hW'; go_simp; with_reducible rfl) ?_
  go_simp
  refine anyL_take (i := 1) rfl hD0 (by kernel_rfl) (by kernel_rfl) (by kernel_rfl) (by kernel_rfl) (fun _ _ _ h => nomatch h.1) rfl (fun W' hW' => by obtain ⟨x0, x1⟩ := hrd W' hW'; go_simp; with_reducible rfl) ?_
  go_simp
  refine anyL_take (i := 2) rfl hD0 (by kernel_rfl) (by kernel_rfl) (by kernel_rfl) (by kernel_rfl) (fun _ _ _ h => nomatch h.1) rfl (fun W' hW' => by obtain ⟨x0, x1⟩ := hrd W' hW'; go_simp; with_reducible rfl) ?_
  go_simp
  refine anyL_take (i := 3) rfl hD0 (by kernel_rfl) (by kernel_rfl) (by kernel_rfl) (by kernel_rfl) (fun _ _ _ h => nomatch h.1) rfl (fun W' hW' => by obtain ⟨x0, x1⟩ := hrd W' hW'; go_simp; with_reducible rfl) ?_
  go_simp
  refine anyL_take (i := 4) rfl hD0 (by kernel_rfl) (by kernel_rfl) (by kernel_rfl) (by kernel_rfl) (fun _ _ _ h => nomatch h.1) rfl (fun W' hW' => by obtain ⟨x0, x1⟩ := hrd W' hW'; go_simp; with_reducible rfl) ?_
  go_simp
  refine anyL_take (i := 5) rfl hD0 (by kernel_rfl) (by kernel_rfl) (by kernel_rfl) (by kernel_rfl) (fun _ _ _ h => nomatch h.1) rfl (fun W' hW' => by obtain ⟨x0, x1⟩ := hrd W' hW'; go_simp; with_reducible rfl) ?_
  go_simp
  refine anyL_take (i := 6) rfl hD0 (by kernel_rfl) (by kernel_rfl) (by kernel_rfl) (by kernel_rfl) (fun _ _ _ h => nomatch h.1) rfl (fun W' hW' => by obtain ⟨x0, x1⟩ := hrd W' hW'; go_simp; with_reducible rfl) ?_
  go_simp
  refine anyL_take (i := 7) rfl hD0 (by kernel_rfl) (by kernel_rfl) (by kernel_rfl) (by kernel_rfl) (fun _ _ _ h => nomatch h.1) rfl (fun W' hW' => by obtain ⟨x0, x1⟩ := hrd W' hW'; go_simp; with_reducible rfl) ?_
  go_simp
  refine anyL_take (i := 8) rfl hD0 (by kernel_rfl) (by kernel_rfl) (by kernel_rfl) (by kernel_rfl) (fun _ _ _ h => nomatch h.1) rfl (fun W' hW' => by obtain ⟨x0, x1⟩ := hrd W' hW'; go_simp; with_reducible rfl) ?_
  go_simp
  refine anyL_take (i := 9) rfl hD0 (by kernel_rfl) (by kernel_rfl) (by kernel_rfl) (by kernel_rfl) (fun _ _ _ h => nomatch h.1) rfl (fun W' hW' => by obtain ⟨x0, x1⟩ := hrd W' hW'; go_simp; with_reducible rfl) ?_
  go_simp
  refine anyL_take (i := 10) rfl hD0 (by kernel_rfl) (by kernel_rfl) (by kernel_rfl) (by kernel_rfl) (fun _ _ _ h => nomatch h.1) rfl (fun W' hW' => by obtain ⟨x0, x1⟩ := hrd W' hW'; go_simp; with_reducible rfl) ?_
  go_simp
  refine anyL_take (i := 11) rfl hD0 (by kernel_rfl) (by kernel_rfl) (by kernel_rfl) (by kernel_rfl) (fun _ _ _ h => nomatch h.1) rfl (fun W' hW' => by obtain ⟨x0, x1⟩ := hrd W' hW'; go_simp; with_reducible rfl) ?_
  go_simp
  refine anyL_take (i := 12) rfl hD0 (by kernel_rfl) (by kernel_rfl) (by kernel_rfl) (by kernel_rfl) (fun _ _ _ h => nomatch h.1) rfl (fun W' hW' => by obtain ⟨x0, x1⟩ := hrd W' hW'; go_simp; with_reducible rfl) ?_
  go_simp
  refine anyL_one (i := 13) (by kernel_rfl) rfl rfl ?_
  go_simp
  refine (Take_calls w.drew now _ (A.way.take q) (fun e fs ks clk => PairOk conn first other limit hA hB A { B with e := e, fs := fs, ks := ks, clk := clk } now ∧ e.closing = B.e.closing) (fun e fs ks clk oo => takeOk_of oo.1.sb oo.1.rb oo.1.sa) (fun s hs e fs ks clk e' fs' ks' clk' oo ht => ⟨oo.1.takeB (List.mem_of_mem_take hs) ht, (oo.1.takeB_cl (List.mem_of_mem_take hs) ht).trans oo.2⟩) p.eb.drew ⟨o.nowSetB (Int.le_trans o.nowB.1 o.nowB.2), rfl⟩ o.nowB.2 h1 hs4 (fun s hs => hoks s (List.mem_of_mem_take hs)) (fun x hx hh => ?_)).mono ?_
  · exact (p.d2 x hh).2.1 (hm1 x hx)
  rintro r w1 ⟨rfl, e', fs', ks', clk', hW, o1, hcl⟩
  replace hcl : Hid (e'.closing = B.e.closing) := hcl
  have hpf : pb ∉ B.foot bB := fun hh => (p.d2 _ hh).1 rfl
  have hD1 : Blk w1 pb (pairCells bA bB (.slice va len vc) vB A B now at_) 38 := hD0.chg hW.chg hpf
  refine ⟨hD1, ?_⟩
  refine anyL_one (i := 14) (by kernel_rfl) rfl rfl ?_
  go_simp
  first | (refine anyL_done (by kernel_rfl) ?_ _; refine ⟨rfl, ?_⟩) | (refine ⟨hD1, anyL_done (by kernel_rfl) ?_ _⟩; refine ⟨rfl, ?_⟩)
  have hp1 := (p.below (Below.refl _ w).drew).goB hW
  have hs3 : SSl w1 (sliced va q len vc 9) (A.way.drop q) := Sl.chg hs5 hW.chg (fun x hx hh => (p.d2 x hh).2.1 (hm2 x hx))
  clear hD0 hW hrd hs4 hs5
  go_upto_region 5 with (fail)
  have hD2 := hp1.blk.drew
  have hrd2 : ∀ W', Blk W' pb (pairCells bA bB (.slice va len vc) vB A { B with e := e', fs := fs', ks := ks', clk := clk' } now at_) 38 → ∃ x : Nat, x = 0 := fun _ _ => ⟨0, rfl⟩
  have hw1 : IntKind.wrap .i64 0 = 0 := by kernel_rfl
  have hC2 : Chg (· = pb) w1.drew w1.drew := Chg.refl _ _
  refine region_anyN (fun j => j != 0 && j != 6 && j != 7 && j != 9) (fun W' => Blk W' pb (pairCells bA bB (.slice va len vc) vB A { B with e := e', fs := fs', ks := ks', clk := clk' } now at_) 38) hmix ?_
  refine anyL_pure (i := 0) rfl rfl (by kernel_rfl) (by kernel_rfl) (by kernel_rfl) (fun _ _ _ h => nomatch h.1) rfl (fun W' => by go_simp; with_reducible rfl) ?_
  go_simp
  refine anyL_pure (i := 6) rfl rfl (by kernel_rfl) (by kernel_rfl) (by kernel_rfl) (fun _ _ _ h => nomatch h.1) rfl (fun W' => by go_simp; with_reducible rfl) ?_
  go_simp
  refine anyL_pure (i := 7) rfl rfl (by kernel_rfl) (by kernel_rfl) (by kernel_rfl) (fun _ _ _ h => nomatch h.1) rfl (fun W' => by go_simp; with_reducible rfl) ?_
  go_simp
  refine anyL_take (i := 1) rfl hD2 (by kernel_rfl) (by kernel_rfl) (by kernel_rfl) (by kernel_rfl) (fun _ _ _ h => nomatch h.1) rfl (fun W' hW' => by obtain ⟨x0⟩ := hrd2 W' hW'; go_simp; with_reducible rfl) ?_
  go_simp
  refine anyL_take (i := 2) rfl hD2 (by kernel_rfl) (by kernel_rfl) (by kernel_rfl) (by kernel_rfl) (fun _ _ _ h => nomatch h.1) rfl (fun W' hW' => by obtain ⟨x0⟩ := hrd2 W' hW'; go_simp; with_reducible rfl) ?_
  go_simp
  refine anyL_take (i := 3) rfl hD2 (by kernel_rfl) (by kernel_rfl) (by kernel_rfl) (by kernel_rfl) (fun _ _ _ h => nomatch h.1) rfl (fun W' hW' => by obtain ⟨x0⟩ := hrd2 W' hW'; go_simp; with_reducible rfl) ?_
  go_simp
  refine anyL_take (i := 4) rfl hD2 (by kernel_rfl) (by kernel_rfl) (by kernel_rfl) (by kernel_rfl) (fun _ _ _ h => nomatch h.1) rfl (fun W' hW' => by obtain ⟨x0⟩ := hrd2 W' hW'; go_simp; with_reducible rfl) ?_
  go_simp
  refine anyL_take (i := 5) rfl hD2 (by kernel_rfl) (by kernel_rfl) (by kernel_rfl) (by kernel_rfl) (fun _ _ _ h => nomatch h.1) rfl (fun W' hW' => by obtain ⟨x0⟩ := hrd2 W' hW'; go_simp; with_reducible rfl) ?_
  go_simp
  refine anyL_take (i := 8) rfl hD2 (by kernel_rfl) (by kernel_rfl) (by kernel_rfl) (by kernel_rfl) (fun _ _ _ h => nomatch h.1) rfl (fun W' hW' => by obtain ⟨x0⟩ := hrd2 W' hW'; go_simp; with_reducible rfl) ?_
  go_simp
  refine anyL_one (i := 9) (by kernel_rfl) rfl rfl ?_
  have q1 := hD2.frozen 2
  have q2 := hD2.cell 2 rfl
  go_simp
  first | (refine anyL_done (by kernel_rfl) ?_ _; refine ⟨rfl, ?_⟩) | (refine ⟨hD2, anyL_done (by kernel_rfl) ?_ _⟩; refine ⟨rfl, ?_⟩)
  clear q1 q2 hrd2 hD2 hC2
  have esl : sliced va q len vc 9 = .slice (if vc = q then va else Option.map (fun x => x.add (q * 9)) va) (len - q) (vc - q) := by simp [sliced]
  rw [esl] at hs3 hm2
  generalize (if vc = q then va else Option.map (fun x => x.add (q * 9)) va) = va2 at hs3 hm2 ⊢
  clear esl
  have hpv : pb ∉ slB (.slice va len vc) := fun hh => (hp1.d3 _ hh).1 rfl
  have hp2 := hp1.wayA (l := A.way.drop q) ((Chg.refl (fun x => x = pb ∨ x ∈ slB (.slice va len vc)) w1).setCell (p := ⟨pb, 2, none⟩) (.inl (.inl rfl)) (.slice va2 (len - q) (vc - q))) (Sl.chg hs3 ((Chg.refl (· = pb) w1).setCell (p := ⟨pb, 2, none⟩) (.inl rfl) _) (fun x hx hh => hpv (hh ▸ hm2 x hx))) (fun x hx => .inl (hm2 x hx)) (hp1.blk.set 2 _)
  have o2 := o1.dropA q
  have hp3 := hp2.below (Below.refl _ _).drew
  generalize (w1.setCell ⟨pb, 2, none⟩ (.slice va2 (len - q) (vc - q))).drew = W2 at hp3 ⊢
  clear hp1 hp2 hs3 hm2 hpv o1
  have hrdy : e'.ready.size ≤ 1000000 := (takeOk_of o2.sb o2.rb o2.sa).ready
  have c0 : W2.cell? ⟨pb, 1, none⟩ = some (.pointer (some ⟨bB, 0, none⟩)) := hp3.blk.cell 1 rfl
  go_upto_region 7 with (go_at_call 26; refine (Read_calls W2 most hp3.eb hm hrdy).mono ?_; rintro r W3 ⟨t, c, e2, rfl, hP, hW⟩)
  obtain ⟨hc, o3⟩ := o2.readB hP
  have hcl2 : Hid (e2.closing = B.e.closing) := hP.cl.trans hcl.out
  have hp4 := hp3.goB hW
  clear hP hW c0 hrdy o2 hp3
  have hsz : B.read.size + t.size ≤ 3300 := by
    obtain ⟨tl, htl⟩ := o3.soundB
    have := congrArg List.length htl
    have h3 := o3.sum
    simp only [List.length_append, Array.length_toList] at this
    dsimp only at this h3
    have k1 : (B.read ++ t).size = (B.read ++ t).data.size := rfl
    have k2 : (B.read ++ t).size = B.read.size + t.size := ByteArray.size_append
    have k3 : A.wrote.size = A.wrote.data.size := rfl
    omega
  have hsz2 : ¬ 9223372036854775807 < B.read.size + t.size := by omega
  rcases hc with rfl | rfl
  all_goals
    go_upto_region 9 with (fail)
    have hD4 := hp4.blk.drew
    have hrd4 : ∀ W', Blk W' pb (pairCells bA bB (.slice va2 (len - q) (vc - q)) vB { A with way := A.way.drop q } { B with e := e2, fs := fs', ks := ks', clk := clk' } now at_) 38 → W'.cell? ⟨pb, 7, none⟩ = some (.string B.read) ∧ True := fun W' h => ⟨h.cell 7 rfl, trivial⟩
    have hw0 : IntKind.wrap .i64 1 = 1 := by kernel_rfl
    refine region_anyN (fun j => j != 0 && j != 8 && j != 9 && j != 11) (fun W' => Blk W' pb (pairCells bA bB (.slice va2 (len - q) (vc - q)) vB { A with way := A.way.drop q } { B with e := e2, fs := fs', ks := ks', clk := clk' } now at_) 38) hmix ?_
    refine anyL_pure (i := 0) rfl rfl (by kernel_rfl) (by kernel_rfl) (by kernel_rfl) (fun _ _ _ h => nomatch h.1) rfl (fun W' => by go_simp; with_reducible rfl) ?_
    go_simp
    refine anyL_pure (i := 8) rfl rfl (by kernel_rfl) (by kernel_rfl) (by kernel_rfl) (fun _ _ _ h => nomatch h.1) rfl (fun W' => by go_simp; with_reducible rfl) ?_
    go_simp
    refine anyL_pure (i := 9) rfl rfl (by kernel_rfl) (by kernel_rfl) (by kernel_rfl) (fun _ _ _ h => nomatch h.1) rfl (fun W' => by go_simp; with_reducible rfl) ?_
    go_simp
    refine anyL_take (i := 1) rfl hD4 (by kernel_rfl) (by kernel_rfl) (by kernel_rfl) (by kernel_rfl) (fun _ _ _ h => nomatch h.1) rfl (fun W' hW' => by obtain ⟨x0, x1⟩ := hrd4 W' hW'; go_simp; with_reducible rfl) ?_
    go_simp
    refine anyL_take (i := 2) rfl hD4 (by kernel_rfl) (by kernel_rfl) (by kernel_rfl) (by kernel_rfl) (fun _ _ _ h => nomatch h.1) rfl (fun W' hW' => by obtain ⟨x0, x1⟩ := hrd4 W' hW'; go_simp; with_reducible rfl) ?_
    go_simp
    refine anyL_take (i := 3) rfl hD4 (by kernel_rfl) (by kernel_rfl) (by kernel_rfl) (by kernel_rfl) (fun _ _ _ h => nomatch h.1) rfl (fun W' hW' => by obtain ⟨x0, x1⟩ := hrd4 W' hW'; go_simp; with_reducible rfl) ?_
    go_simp
    refine anyL_take (i := 4) rfl hD4 (by kernel_rfl) (by kernel_rfl) (by kernel_rfl) (by kernel_rfl) (fun _ _ _ h => nomatch h.1) rfl (fun W' hW' => by obtain ⟨x0, x1⟩ := hrd4 W' hW'; go_simp; with_reducible rfl) ?_
    go_simp
    refine anyL_take (i := 5) rfl hD4 (by kernel_rfl) (by kernel_rfl) (by kernel_rfl) (by kernel_rfl) (fun _ _ _ h => nomatch h.1) rfl (fun W' hW' => by obtain ⟨x0, x1⟩ := hrd4 W' hW'; go_simp; with_reducible rfl) ?_
    go_simp
    refine anyL_take (i := 6) rfl hD4 (by kernel_rfl) (by kernel_rfl) (by kernel_rfl) (by kernel_rfl) (fun _ _ _ h => nomatch h.1) rfl (fun W' hW' => by obtain ⟨x0, x1⟩ := hrd4 W' hW'; go_simp; with_reducible rfl) ?_
    go_simp
    refine anyL_take (i := 7) rfl hD4 (by kernel_rfl) (by kernel_rfl) (by kernel_rfl) (by kernel_rfl) (fun _ _ _ h => nomatch h.1) rfl (fun W' hW' => by obtain ⟨x0, x1⟩ := hrd4 W' hW'; go_simp; with_reducible rfl) ?_
    go_simp
    refine anyL_take (i := 10) rfl hD4 (by kernel_rfl) (by kernel_rfl) (by kernel_rfl) (by kernel_rfl) (fun _ _ _ h => nomatch h.1) rfl (fun W' hW' => by obtain ⟨x0, x1⟩ := hrd4 W' hW'; go_simp; with_reducible rfl) ?_
    go_simp
    refine anyL_one (i := 11) (by kernel_rfl) rfl rfl ?_
    have q1 := hD4.frozen 7
    have q2 := hD4.cell 7 rfl
    go_simp
    first | (refine anyL_done (by kernel_rfl) ?_ _; refine ⟨rfl, ?_⟩) | (refine ⟨hD4, anyL_done (by kernel_rfl) ?_ _⟩; refine ⟨rfl, ?_⟩)
    clear q1 q2 hrd4
    have hc6 := (Chg.refl (· = pb) W3).setCell (p := ⟨pb, 7, none⟩) (.inl rfl) (.string (B.read ++ t))
    have hb6 := hp4.blk.set 7 (.string (B.read ++ t))
    have hp6 : PairAt w0 (W3.setCell ⟨pb, 7, none⟩ (.string (B.read ++ t))) pb bA bB (.slice va2 (len - q) (vc - q)) vB { A with way := A.way.drop q } { B with e := e2, fs := fs', ks := ks', clk := clk', read := B.read ++ t } now at_ :=
      hp4.own (w1 := A.wrote) (w2 := B.wrote) (r1 := A.read) (r2 := B.read ++ t) hc6 hb6
    have hp7 := hp6.below (Below.refl _ _).drew
    generalize (W3.setCell ⟨pb, 7, none⟩ (.string (B.read ++ t))).drew = W4 at hp7 ⊢
    clear hp4 hc6 hb6 hp6 hD4
    have hso := o3.soundB
    go_wp2_with (go_at_call 27; refine (sound1_calls W4 hp7.blk hso).mono ?_; rintro r W5 ⟨rfl, nd, rfl⟩)
    go_ret
    exact ⟨rfl, _, _, _, _, hp7.below (belowDrewN (Below.refl _ _) _), o3, by simp, by simp, rfl, rfl, rfl⟩
end Go.Proofs.Ytglbfgpdmlkamaa
