/- AutoSteps: two automata and the document's, in one memory. -/
import Derived.Test.YtlfcmedhadfheaaRgI
import Derived.Test.YtlfcmedhadfheaaRfE
import Derived.Test.YtlfcmedhadfheaaAutB
import Derived.Test.YtlfcmedhadfheaaAutCp
namespace Go.Proofs.Ytlfcmedhadfheaa
open Go.RowKit
set_option linter.unusedVariables false
set_option linter.unusedSimpArgs false
/-- The document's blocks lie off an automaton's. -/
structure Sep (r : Rf) (S : AS) (ub lb : Nat → Nat) (a : Au) : Prop where
  own : ∀ b, Own27 r S ub lb b ∨ b = r.g → b ≠ a.g ∧ b ≠ a.rb ∧ b ≠ a.pb ∧ a.w0.heap.size ≤ b
  z1 : r.w0.heap.size ≤ a.rb
  z2 : r.w0.heap.size ≤ a.pb
theorem Sep.step {r : Rf} {S S' : AS} {ub lb u1 l1 : Nat → Nat} {a : Au} {Sa : AS} {w : World} (h : Sep r S ub lb a) (ha : AutoAt w a Sa) (hc : ∀ b, Own27 r S' u1 l1 b → Own27 r S ub lb b ∨ w.heap.size ≤ b) : Sep r S' u1 l1 a :=
  ⟨fun b hb => by
    rcases hb with hb | hb
    · rcases hc b hb with h1 | h1
      · exact h.own b (.inl h1)
      · have e1 := heap_lt ha.obj; have e2 := ha.rlt; have e3 := ha.pl; have e4 := ha.bel.size
        exact ⟨by omega, by omega, by omega, by omega⟩
    · exact h.own b (.inr hb), h.z1, h.z2⟩
/-- The document's automaton turns; the other stays. -/
theorem Sep.keepA {r : Rf} {S : AS} {ub lb : Nat → Nat} {a : Au} {Sa : AS} {w w' : World} (h : Sep r S ub lb a) (ha : AutoAt w a Sa) (ho : Only (Own27 r S ub lb) w w') : AutoAt w' a Sa :=
  ha.only ho (fun b hb => (h.own b (.inl hb)).2.2.2) (fun hb => (h.own _ (.inl hb)).1 rfl) (fun hb => (h.own _ (.inl hb)).2.1 rfl) (fun _ hb => (h.own _ (.inl hb)).2.2.1 rfl)
/-- The other turns; the document's stays. -/
theorem Sep.keepR {r : Rf} {S : AS} {ub lb : Nat → Nat} {a : Au} {w w' : World} (h : Sep r S ub lb a) (hr : R27At w r S ub lb) (ho : Only a.M w w') : R27At w' r S ub lb :=
  hr.only ho (fun b hb => by rcases hb with e | e <;> rw [e]; (· exact h.z1); (· exact h.z2)) (fun hb => by rcases hb with e | e; (· exact (h.own _ (.inr rfl)).2.1 e); (· exact (h.own _ (.inr rfl)).2.2.1 e)) (fun b hb hM => by rcases hM with e | e; (· exact (h.own b (.inl hb)).2.1 e); (· exact (h.own b (.inl hb)).2.2.1 e))
/-- Two automata of one table, apart. -/
structure Twin (a c : Au) : Prop where
  w0 : c.w0 = a.w0
  T : c.T = a.T
  r1 : a.w0.heap.size ≤ c.rb
  r2 : a.w0.heap.size ≤ c.pb
  g1 : a.g ≠ c.rb
  g2 : a.g ≠ c.pb
  b1 : a.rb ≠ c.rb
  b2 : a.rb ≠ c.pb
  p1 : 0 < a.T.pts.length → a.pb ≠ c.rb
  p2 : 0 < a.T.pts.length → a.pb ≠ c.pb
theorem Twin.keep {a c : Au} (h : Twin a c) {Sa : AS} {w w' : World} (ha : AutoAt w a Sa) (ho : Only c.M w w') : AutoAt w' a Sa :=
  ha.only ho (fun b hb => by rcases hb with e | e <;> rw [e]; (· exact h.r1); (· exact h.r2)) (fun hb => by rcases hb with e | e; (· exact h.g1 e); (· exact h.g2 e)) (fun hb => by rcases hb with e | e; (· exact h.b1 e); (· exact h.b2 e)) (fun hp hb => by rcases hb with e | e; (· exact h.p1 hp e); (· exact h.p2 hp e))
/-- A copy. -/
theorem copied {u c : Au} {S : AS} {w w' : World} (hu : AutoAt w u S) (hc : AutoAt w' c S) (hT : c.T = u.T) (hw : c.w0 = u.w0) (hg : w.heap.size ≤ c.g) (hr : w.heap.size ≤ c.rb) (hp : 0 < u.T.pts.length → w.heap.size ≤ c.pb) (hp0 : u.T.pts.length = 0 → c.pb = u.pb) : Twin u c ∧ Twin c u := by
  have e1 := heap_lt hu.obj; have e2 := hu.rlt; have e3 := hu.pl
  by_cases h0 : 0 < u.T.pts.length
  · have := hp h0
    exact ⟨⟨hw, hT, by have := hu.bel.size; omega, by have := hu.bel.size; omega, by omega, by omega, by omega, by omega, fun _ => by omega, fun _ => by omega⟩,
      ⟨hw.symm, hT.symm, by rw [hw]; exact hu.rB, by rw [hw]; exact hu.pB, by omega, by omega, by omega, by omega, fun _ => by omega, fun _ => by omega⟩⟩
  · have e := hp0 (by omega)
    exact ⟨⟨hw, hT, by have := hu.bel.size; omega, by rw [e]; exact hu.pB, by omega, by rw [e]; exact hu.gp, by omega, by rw [e]; exact hu.rp, fun h => absurd h h0, fun h => absurd h h0⟩,
      ⟨hw.symm, hT.symm, by rw [hw]; exact hu.rB, by rw [hw]; exact hu.pB, by omega, by omega, by omega, by omega, fun h => by rw [hT] at h; exact absurd h h0, fun h => by rw [hT] at h; exact absurd h h0⟩⟩
theorem Sep.copied {r : Rf} {S Sa : AS} {ub lb : Nat → Nat} {u c : Au} {w : World} (h : Sep r S ub lb u) (hr : R27At w r S ub lb) (hu : AutoAt w u Sa) (hw : c.w0 = u.w0) (hg : w.heap.size ≤ c.g) (hr' : w.heap.size ≤ c.rb) (hp : 0 < u.T.pts.length → w.heap.size ≤ c.pb) (hp0 : u.T.pts.length = 0 → c.pb = u.pb) : Sep r S ub lb c := by
  have hz := hr.bel.size
  refine ⟨fun b hb => ?_, by omega, ?_⟩
  · have hlt : b < w.heap.size := by
      rcases hb with hb | rfl
      · exact hr.own_lt hb
      · exact heap_lt hr.obj
    have o := h.own b hb
    refine ⟨by omega, by omega, ?_, by rw [hw]; exact o.2.2.2⟩
    by_cases h0 : 0 < u.T.pts.length
    · have := hp h0; omega
    · rw [hp0 (by omega)]; exact o.2.2.1
  · by_cases h0 : 0 < u.T.pts.length
    · have := hp h0; omega
    · rw [hp0 (by omega)]; exact h.z2
/-- Its table lay in an earlier world too. -/
theorem R27At.base {w0 w w' : World} {r : Rf} {S : AS} {ub lb : Nat → Nat} {T : Tab} (h : R27At w' r S ub lb) (hT : TabAt w0 (.agg #[.int .i64 T.tracks, r.vp, .int .i64 T.sigs, r.vr]) T) (eT : r.T = T) (ew : r.w0 = w) (hb : Below w0.heap.size w0 w) : R27At w' { r with w0 := w0 } S ub lb := by
  obtain ⟨⟨vp, vr, he, hP, hr⟩, _, _⟩ := hT
  have e1 : r.vp = vp := by injection he with he; injection he with he; injection he with _ he; injection he with he _
  have e2 : r.vr = vr := by injection he with he; injection he with he; injection he with _ he; injection he with _ he; injection he with _ he; injection he with he _
  subst eT ew
  exact ⟨h.obj, by show IntsAt w0 r.vp r.T.pts; rw [e1]; exact hP, by show RtsAt w0 r.vr r.T.rts; rw [e2]; exact hr, hb.trans (h.bel.mono hb.size), h.rs, h.cs, h.us, h.nf, Nat.le_trans hb.size h.B0, h.gB, h.rB, h.cB, h.gr, h.gc, h.rc, fun n hn h3 => by have a := h.du n hn h3; exact ⟨a.ne, a.g1, a.r1, a.c1, a.g2, a.r2, a.c2, a.B1, a.B2⟩, h.dd⟩
theorem Sep.start {r : Rf} {ub lb : Nat → Nat} {u : Au} {S0 : AS} {w w' : World} (hr : R27At w' r as0 ub lb) (hB : w.heap.size ≤ r.B) (ha : AutoAt w u S0) (hz : r.w0.heap.size ≤ u.w0.heap.size) : Sep r as0 ub lb u := by
  have e1 := heap_lt ha.obj; have e2 := ha.rlt; have e3 := ha.pl; have e4 := ha.bel.size; have e5 := ha.rB; have e6 := ha.pB
  refine ⟨fun b hb => ?_, by omega, by omega⟩
  have hb' : r.B ≤ b := by
    rcases hb with hb | rfl
    · exact (hr.own_ge hb).1
    · exact hr.gB
  exact ⟨by omega, by omega, by omega, by omega⟩
/-- A route's lists, as the code finds them. -/
theorem R27At.lists {r : Rf} {S : AS} {ub lb : Nat → Nat} {w : World} {n : Nat} (h : R27At w r S ub lb) (hn : n < r.T.rts.length) (hL : (r.T.rts.getD n rt0).tr.length ≤ 31) :
    ∃ a1 L1 a2 L2, ruV r.T S.R ub n = .slice a1 L1 L1 ∧ ruV r.T S.R lb n = .slice a2 L2 L2 ∧ L1 ≤ 31 ∧ L2 ≤ 31 ∧ (∀ W, Below w.heap.size w W → SliceAt W a1 L1 (bitsV (S.R n).us) ∧ SliceAt W a2 L2 (bitsV (S.R n).rl)) ∧ (S.R n).us % 2 ^ L1 = (S.R n).us ∧ (S.R n).rl % 2 ^ L2 = (S.R n).rl := by
  have nf := h.nf n hn
  by_cases h3 : (S.R n).ph = 3
  · have hu := h.us n hn h3
    refine ⟨some ⟨ub n, 0, none⟩, (r.T.rts.getD n rt0).tr.length, some ⟨lb n, 0, none⟩, (r.T.rts.getD n rt0).tr.length, by unfold ruV; rw [if_pos h3], by unfold ruV; rw [if_pos h3], hL, hL, fun W hW => ⟨?_, ?_⟩, Nat.mod_eq_of_lt nf.us, Nat.mod_eq_of_lt nf.rl⟩
    · have k := hu.1.same (hW.block _ hu.1.lt)
      exact .inr ⟨ub n, 0, rfl, k.lt, fun i hi => by rw [Nat.zero_add]; exact k.cell hi⟩
    · have k := hu.2.same (hW.block _ hu.2.lt)
      exact .inr ⟨lb n, 0, rfl, k.lt, fun i hi => by rw [Nat.zero_add]; exact k.cell hi⟩
  · have z := nf.z2 h3
    exact ⟨none, 0, none, 0, by unfold ruV; rw [if_neg h3], by unfold ruV; rw [if_neg h3], by omega, by omega, fun W hW => ⟨.inl rfl, .inl rfl⟩, by rw [z.1], by rw [z.2]⟩
/-- All in one memory: the two automata, the document's, the feed, the order. -/
structure Pz (w W : World) (r : Rf) (S1 : AS) (ub lb : Nat → Nat) (u c : Au) (Su Sc : AS) (xb nb : Nat) (f : FD) (o : OD) : Prop where
  a : AutoAt W u Su
  c : AutoAt W c Sc
  r : R27At W r S1 ub lb
  x : W.heap[xb]? = some (.cells #[.int .u32 (f.cl : Int), .int .u32 (f.no : Int), .int .u32 (f.re : Int), .int .u32 (f.ak : Int), .int .u32 (f.ca : Int), .int .u32 (f.rq : Int)] 38 (0, 0))
  n : W.heap[nb]? = some (.cells #[.int .u32 (o.pr : Int), .int .u32 (o.no : Int), .int .u32 (o.re : Int), .int .u32 (o.lo : Int)] 36 (0, 0))
  bel : Below w.heap.size w W
/-- How they lie. -/
structure Gz (w : World) (r : Rf) (S1 : AS) (ub lb : Nat → Nat) (u c : Au) (xb nb : Nat) : Prop where
  t1 : Twin u c
  t2 : Twin c u
  s1 : Sep r S1 ub lb u
  s2 : Sep r S1 ub lb c
  x1 : ¬ u.M xb
  x2 : ¬ c.M xb
  n1 : ¬ u.M nb
  n2 : ¬ c.M nb
  m : w.heap.size ≤ u.w0.heap.size
theorem Pz.below {w W V : World} {r : Rf} {S1 Su Sc : AS} {ub lb : Nat → Nat} {u c : Au} {xb nb : Nat} {f : FD} {o : OD} (h : Pz w W r S1 ub lb u c Su Sc xb nb f o) (hb : Below W.heap.size W V) : Pz w V r S1 ub lb u c Su Sc xb nb f o :=
  ⟨h.a.below hb, h.c.below hb, h.r.below hb, tb_kept h.x hb, tb_kept h.n hb, h.bel.trans (hb.mono h.bel.size)⟩
theorem Pz.stepC {w W V : World} {r : Rf} {S1 Su Sc Sc' : AS} {ub lb : Nat → Nat} {u c : Au} {xb nb : Nat} {f : FD} {o : OD} (h : Pz w W r S1 ub lb u c Su Sc xb nb f o) (g : Gz w r S1 ub lb u c xb nb) (hc : AutoAt V c Sc') (ho : Only c.M W V) : Pz w V r S1 ub lb u c Su Sc' xb nb f o :=
  ⟨g.t1.keep h.a ho, hc, g.s2.keepR h.r ho, (ho.block _ (heap_lt h.x) g.x2).trans h.x, (ho.block _ (heap_lt h.n) g.n2).trans h.n, Only.toBelow h.bel ho (fun b hm => by have := g.m; rw [← g.t1.w0] at this; exact Au.M_lt hc this b hm) h.bel.size⟩
theorem Pz.stepA {w W V : World} {r : Rf} {S1 Su Su' Sc : AS} {ub lb : Nat → Nat} {u c : Au} {xb nb : Nat} {f : FD} {o : OD} (h : Pz w W r S1 ub lb u c Su Sc xb nb f o) (g : Gz w r S1 ub lb u c xb nb) (ha : AutoAt V u Su') (ho : Only u.M W V) : Pz w V r S1 ub lb u c Su' Sc xb nb f o :=
  ⟨ha, g.t2.keep h.c ho, g.s1.keepR h.r ho, (ho.block _ (heap_lt h.x) g.x1).trans h.x, (ho.block _ (heap_lt h.n) g.n1).trans h.n, Only.toBelow h.bel ho (fun b hm => Au.M_lt ha g.m b hm) h.bel.size⟩
end Go.Proofs.Ytlfcmedhadfheaa
