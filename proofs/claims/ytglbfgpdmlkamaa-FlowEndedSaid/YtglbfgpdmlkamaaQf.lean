/-
  Two ends that go on: sending, arriving.
-/
import Derived.Test.YtglbfgpdmlkamaaQc
import Derived.Test.YtglbfgpdmlkamaaQe
namespace Go.Proofs.Ytglbfgpdmlkamaa
open Go.RowKit Go.Flw

variable {w0 : World} {pb bA bB : Nat} {vA vB : Value} {A B : Side} {now at_ conn first other limit : Int} {hA hB : Hist}

theorem OverRel.len {e e' : E} {fs fs' : List Pk} (h : OverRel e fs e' fs') : fs'.length = fs.length := by
  rcases h with ⟨_, rfl⟩ | ⟨t, _, rfl, _⟩ | ⟨t, _, rfl, _⟩
  · rfl
  · rfl
  · simp

theorem SendP.len {e e' : E} {ws fs ws' fs' : List Pk} {ss : List Seg} (h : SendP e ws fs now e' ws' fs' ss) : ss.length ≤ 2 + 2 * ws.length + fs.length := by
  obtain ⟨e2, fs2, e3, ss3, hO, hR, hF⟩ := h
  have h2 : fs2.length = fs.length := by
    rcases hO with ⟨_, _, rfl⟩ | ⟨_, hO⟩
    · rfl
    · exact hO.len
  have h3 : ss3.length ≤ 1 := by
    rcases hR with ⟨_, _, rfl⟩ | ⟨_, _, s, rfl, _⟩ <;> simp
  rcases hF with ⟨_, _, _, _, rfl⟩ | ⟨_, _, e4, ss4, a, hD, hss, _, _⟩
  · omega
  · have := hD.len
    rcases hss with rfl | ⟨rfl, _, s, rfl, _⟩
    · omega
    · simp only [List.length_singleton]; omega

theorem PairOk.sendOkA (p : PairOk conn first other limit hA hB A B now) (h0 : 0 ≤ now) (h1 : now ≤ 1000000000) : SendOk A.e A.ws A.fs A.ks now limit where
  good := good_of p.sa p.ra p.sb h0 h1
  le := p.nowA.2
  n9 := h1
  out := p.sa.out
  outs0 := p.sa.outs0
  outs1 := p.sa.outs1
  res := fun e' ws' fs' ss h => by
    obtain ⟨hok, t, q⟩ := p.sendA h h0
    have hf := q.sa.fly
    rw [q.sa.lim] at hf
    have h2 := q.sa.small
    have h3 := q.sa.flen
    have h4 := p.sa.small
    have h5 := p.sa.flen
    have h6 := h.len
    simp only at h2 h3
    exact ⟨hok, hf, by omega, q.sa.fbody, by omega⟩

theorem PairOk.sendOkB (p : PairOk conn first other limit hA hB A B now) (h0 : 0 ≤ now) (h1 : now ≤ 1000000000) : SendOk B.e B.ws B.fs B.ks now limit where
  good := good_of p.sb p.rb p.sa h0 h1
  le := p.nowB.2
  n9 := h1
  out := p.sb.out
  outs0 := p.sb.outs0
  outs1 := p.sb.outs1
  res := fun e' ws' fs' ss h => by
    obtain ⟨hok, t, q⟩ := p.sendB h h0
    have hf := q.sb.fly
    rw [q.sb.lim] at hf
    have h2 := q.sb.small
    have h3 := q.sb.flen
    have h4 := p.sb.small
    have h5 := p.sb.flen
    have h6 := h.len
    simp only at h2 h3
    exact ⟨hok, hf, by omega, q.sb.fbody, by omega⟩

/-- Two ends, as they may be, in memory; m bounds what was sent. -/
def Going (w0 : World) (pb bA bB : Nat) (conn first other limit now : Int) (m : Nat) (cl : Bool) (W : World) : Prop :=
  ∃ hA hB A B vA vB at_, PairAt w0 W pb bA bB vA vB A B now at_ ∧ PairOk conn first other limit hA hB A B now ∧ 0 ≤ at_ ∧ at_ ≤ m ∧ A.way.length ≤ m ∧ B.way.length ≤ m ∧ A.e.closing = cl

def GoR (w0 : World) (pb bA bB : Nat) (conn first other limit now : Int) (m : Nat) (cl : Bool) (r : Ending) (W : World) : Prop :=
  r = .returned (.bool true) ∧ Going w0 pb bA bB conn first other limit now m cl W

variable {m : Nat} {cl : Bool}

theorem send_go (w : World) (g : Going w0 pb bA bB conn first other limit now m cl w) (hm : m ≤ 100000000) (h0 : 0 ≤ now) (h1 : now ≤ 1000000000) (who : Int) (hw : who = 0 ∨ who = 1) :
    Calls Try.prog 10 #[.pointer (some ⟨pb, 0, none⟩), vi who, vi limit] w (GoR w0 pb bA bB conn first other limit now (m + 100000) cl) := by
  obtain ⟨hA, hB, A, B, vA, vB, at_, p, o, a0, a1, lA, lB, hc⟩ := g
  rcases hw with rfl | rfl
  · refine (send0_calls w limit p (o.sendOkA h0 h1) a0 (by omega) (by omega)).mono ?_
    rintro r w' ⟨rfl, e', ws', fs', ss, v', hP, hp⟩
    have hl := ((o.sendOkA h0 h1).res e' ws' fs' ss hP).2.2.2.2
    obtain ⟨_, _, hE, _⟩ := o.sa.send hP o.cnA o.cn o.ra.base0 o.ra.base1 o.ra.room1
    obtain ⟨_, t, q⟩ := o.sendA hP h0
    exact ⟨rfl, _, _, _, _, _, _, _, hp, q, by omega, by omega, by simp only [List.length_append]; omega, by omega, hE.closing.trans hc⟩
  · refine (send1_calls w limit p (o.sendOkB h0 h1) a0 (by omega) (by omega)).mono ?_
    rintro r w' ⟨rfl, e', ws', fs', ss, v', hP, hp⟩
    have hl := ((o.sendOkB h0 h1).res e' ws' fs' ss hP).2.2.2.2
    obtain ⟨_, t, q⟩ := o.sendB hP h0
    exact ⟨rfl, _, _, _, _, _, _, _, hp, q, by omega, by omega, by omega, by simp only [List.length_append]; omega, hc⟩

theorem arrive_go (w : World) (g : Going w0 pb bA bB conn first other limit now m cl w) (h1 : now ≤ 1000000000) (who n most : Int) (hw : who = 0 ∨ who = 1) (hn : 1 ≤ n) (hn2 : n ≤ 1000) (hmo : 0 ≤ most) :
    Calls Try.prog 11 #[.pointer (some ⟨pb, 0, none⟩), vi who, vi n, vi most] w (GoR w0 pb bA bB conn first other limit now m cl) := by
  obtain ⟨hA, hB, A, B, vA, vB, at_, p, o, a0, a1, lA, lB, hc⟩ := g
  rcases hw with rfl | rfl
  · refine (arrive0_calls w n most p o h1 hn hn2 hmo (fun s hs => (o.wb s hs).ok)).mono ?_
    rintro r w' ⟨rfl, vA', vB', A', B', hp, q, k1, k2, _, _, k3⟩
    exact ⟨rfl, _, _, _, _, _, _, _, hp, q, a0, a1, by omega, by omega, k3.trans hc⟩
  · refine (arrive1_calls w n most p o h1 hn hn2 hmo (fun s hs => (o.wa s hs).ok)).mono ?_
    rintro r w' ⟨rfl, vA', vB', A', B', hp, q, k1, k2, _, _, k3⟩
    exact ⟨rfl, _, _, _, _, _, _, _, hp, q, a0, a1, by omega, by omega, k3.trans hc⟩
end Go.Proofs.Ytglbfgpdmlkamaa
