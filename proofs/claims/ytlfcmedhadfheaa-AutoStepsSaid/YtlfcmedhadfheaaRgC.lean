/- The document's automaton: how it lies; a train comes. -/
import Derived.Test.YtlfcmedhadfheaaRgB
namespace Go.Proofs.Ytlfcmedhadfheaa
open Go.RowKit
set_option linter.unusedVariables false
set_option linter.unusedSimpArgs false
def ruV (T : Tab) (R : Nat → RS) (b : Nat → Nat) (n : Nat) : Value := if (R n).ph = 3 then .slice (some ⟨b n, 0, none⟩) (T.rts.getD n rt0).tr.length (T.rts.getD n rt0).tr.length else .slice none 0 0
def r27V (T : Tab) (R : Nat → RS) (ub lb : Nat → Nat) (q : Nat) : Value :=
  if q % 4 = 0 then .int .i64 ((R (q / 4)).ph : Int) else if q % 4 = 1 then .int .i64 ((R (q / 4)).tm : Int) else if q % 4 = 2 then ruV T R ub (q / 4) else ruV T R lb (q / 4)
theorem r27V_0 (T : Tab) (R : Nat → RS) (ub lb : Nat → Nat) (n : Nat) : r27V T R ub lb (n * 4) = .int .i64 ((R n).ph : Int) := by
  unfold r27V; rw [show n * 4 % 4 = 0 by omega, show n * 4 / 4 = n by omega]; rfl
theorem r27V_1 (T : Tab) (R : Nat → RS) (ub lb : Nat → Nat) (n : Nat) : r27V T R ub lb (n * 4 + 1) = .int .i64 ((R n).tm : Int) := by
  unfold r27V; rw [show (n * 4 + 1) % 4 = 1 by omega, show (n * 4 + 1) / 4 = n by omega]; rfl
theorem r27V_2 (T : Tab) (R : Nat → RS) (ub lb : Nat → Nat) (n : Nat) : r27V T R ub lb (n * 4 + 2) = ruV T R ub n := by
  unfold r27V; rw [show (n * 4 + 2) % 4 = 2 by omega, show (n * 4 + 2) / 4 = n by omega]; rfl
theorem r27V_3 (T : Tab) (R : Nat → RS) (ub lb : Nat → Nat) (n : Nat) : r27V T R ub lb (n * 4 + 3) = ruV T R lb n := by
  unfold r27V; rw [show (n * 4 + 3) % 4 = 3 by omega, show (n * 4 + 3) / 4 = n by omega]; rfl
def fset (b : Nat → Nat) (n x : Nat) (m : Nat) : Nat := if m = n then x else b m
/-- A route's form: what its phase does not use is 0. -/
structure Nf (r : RS) (L : Nat) : Prop where
  z0 : r.ph = 0 → r = rs0
  z1 : r.ph = 1 → r.tm = 0
  z2 : r.ph ≠ 3 → r.us = 0 ∧ r.rl = 0
  z3 : r.ph = 3 → r.tm = 0
  us : r.us < 2 ^ L
  rl : r.rl < 2 ^ L
  ph : r.ph < 4
  tm : r.tm < 65536
/-- The document's automaton: a world in which its table lay; a bound below its blocks; its blocks. -/
structure Rf where
  w0 : World
  (B g rb cb : Nat)
  (vp vr : Value)
  T : Tab
def Rf.row (u : Rf) : Array Value := #[.int .i64 u.T.tracks, u.vp, .int .i64 u.T.sigs, u.vr, .slice (some ⟨u.rb, 0, none⟩) u.T.rts.length u.T.rts.length, .slice (some ⟨u.cb, 0, none⟩) u.T.pts.length u.T.pts.length]
/-- Two blocks of a route, off the others. -/
structure RoffA (u : Rf) (b1 b2 : Nat) : Prop where
  ne : b1 ≠ b2
  g1 : b1 ≠ u.g
  r1 : b1 ≠ u.rb
  c1 : b1 ≠ u.cb
  g2 : b2 ≠ u.g
  r2 : b2 ≠ u.rb
  c2 : b2 ≠ u.cb
  B1 : u.B ≤ b1
  B2 : u.B ≤ b2
structure RoffB (b1 b2 c1 c2 : Nat) : Prop where
  a : b1 ≠ c1
  b : b1 ≠ c2
  c : b2 ≠ c1
  d : b2 ≠ c2
structure R27At (w : World) (u : Rf) (S : AS) (ub lb : Nat → Nat) : Prop where
  obj : w.heap[u.g]? = some (.cells #[.int .i64 u.T.tracks, u.vp, .int .i64 u.T.sigs, u.vr, .slice (some ⟨u.rb, 0, none⟩) u.T.rts.length u.T.rts.length, .slice (some ⟨u.cb, 0, none⟩) u.T.pts.length u.T.pts.length] 59 (0, 0))
  tp : IntsAt u.w0 u.vp u.T.pts
  tr : RtsAt u.w0 u.vr u.T.rts
  bel : Below u.w0.heap.size u.w0 w
  rs : RowAt w u.rb 61 (u.T.rts.length * 4) (r27V u.T S.R ub lb)
  cs : RowAt w u.cb 3 u.T.pts.length (fun i => .int .i64 (S.C i : Int))
  us : ∀ n, n < u.T.rts.length → (S.R n).ph = 3 → RowAt w (ub n) 4 (u.T.rts.getD n rt0).tr.length (bitsV (S.R n).us) ∧ RowAt w (lb n) 4 (u.T.rts.getD n rt0).tr.length (bitsV (S.R n).rl)
  nf : ∀ n, n < u.T.rts.length → Nf (S.R n) (u.T.rts.getD n rt0).tr.length
  B0 : u.w0.heap.size ≤ u.B
  gB : u.B ≤ u.g
  rB : u.B ≤ u.rb
  cB : u.B ≤ u.cb
  gr : u.g ≠ u.rb
  gc : u.g ≠ u.cb
  rc : u.rb ≠ u.cb
  du : ∀ n, n < u.T.rts.length → (S.R n).ph = 3 → RoffA u (ub n) (lb n)
  dd : ∀ n m, n < u.T.rts.length → m < u.T.rts.length → n ≠ m → (S.R n).ph = 3 → (S.R m).ph = 3 → RoffB (ub n) (lb n) (ub m) (lb m)
/-- The blocks that are its own. -/
def Own27 (u : Rf) (S : AS) (ub lb : Nat → Nat) (b : Nat) : Prop := b = u.rb ∨ b = u.cb ∨ ∃ n, n < u.T.rts.length ∧ (S.R n).ph = 3 ∧ (b = ub n ∨ b = lb n)
theorem R27At.below {w w' : World} {u : Rf} {S : AS} {ub lb : Nat → Nat} (h : R27At w u S ub lb) (hb : Below w.heap.size w w') : R27At w' u S ub lb :=
  ⟨tb_kept h.obj hb, h.tp, h.tr, h.bel.trans (hb.mono h.bel.size), h.rs.same (hb.block _ h.rs.lt), h.cs.same (hb.block _ h.cs.lt), fun n hn h3 => ⟨(h.us n hn h3).1.same (hb.block _ (h.us n hn h3).1.lt), (h.us n hn h3).2.same (hb.block _ (h.us n hn h3).2.lt)⟩, h.nf, h.B0, h.gB, h.rB, h.cB, h.gr, h.gc, h.rc, h.du, h.dd⟩
theorem R27At.only {M : Nat → Prop} {w w' : World} {u : Rf} {S : AS} {ub lb : Nat → Nat} (h : R27At w u S ub lb) (ho : Only M w w') (hM : ∀ b, M b → u.w0.heap.size ≤ b) (hg : ¬ M u.g) (hown : ∀ b, Own27 u S ub lb b → ¬ M b) : R27At w' u S ub lb :=
  ⟨(ho.block _ (heap_lt h.obj) hg).trans h.obj, h.tp, h.tr, h.bel.trans (ho.below h.bel.size (fun i hi hm => by have := hM i hm; omega)), h.rs.same (ho.block _ h.rs.lt (hown _ (.inl rfl))), h.cs.same (ho.block _ h.cs.lt (hown _ (.inr (.inl rfl)))),
    fun n hn h3 => ⟨(h.us n hn h3).1.same (ho.block _ (h.us n hn h3).1.lt (hown _ (.inr (.inr ⟨n, hn, h3, .inl rfl⟩)))), (h.us n hn h3).2.same (ho.block _ (h.us n hn h3).2.lt (hown _ (.inr (.inr ⟨n, hn, h3, .inr rfl⟩))))⟩, h.nf, h.B0, h.gB, h.rB, h.cB, h.gr, h.gc, h.rc, h.du, h.dd⟩
/-- One route is turned. -/
theorem R27At.upd {w w' : World} {u : Rf} {S : AS} {ub lb : Nat → Nat} (h : R27At w u S ub lb) {n : Nat} (hn : n < u.T.rts.length) {r : RS} {b1 b2 : Nat}
    (ho : Only (fun b => b = u.rb ∨ (S.R n).ph = 3 ∧ (b = ub n ∨ b = lb n)) w w')
    (hrow : RowAt w' u.rb 61 (u.T.rts.length * 4) (r27V u.T (S.setR n r).R (fset ub n b1) (fset lb n b2))) (hnf : Nf r (u.T.rts.getD n rt0).tr.length)
    (hl : r.ph = 3 → RowAt w' b1 4 (u.T.rts.getD n rt0).tr.length (bitsV r.us) ∧ RowAt w' b2 4 (u.T.rts.getD n rt0).tr.length (bitsV r.rl) ∧ RoffA u b1 b2 ∧ ∀ m, m < u.T.rts.length → m ≠ n → (S.R m).ph = 3 → RoffB b1 b2 (ub m) (lb m)) :
    R27At w' u (S.setR n r) (fset ub n b1) (fset lb n b2) := by
  have hR : ∀ m, m ≠ n → (S.setR n r).R m = S.R m := fun m hm => if_neg hm
  have hRn : (S.setR n r).R n = r := if_pos rfl
  have hu1 : ∀ m, m ≠ n → fset ub n b1 m = ub m ∧ fset lb n b2 m = lb m := fun m hm => ⟨if_neg hm, if_neg hm⟩
  have hu2 : fset ub n b1 n = b1 ∧ fset lb n b2 n = b2 := ⟨if_pos rfl, if_pos rfl⟩
  have hg : ∀ b, (b = u.rb ∨ (S.R n).ph = 3 ∧ (b = ub n ∨ b = lb n)) → u.w0.heap.size ≤ b ∧ b ≠ u.g ∧ b ≠ u.cb := fun b hb => by
    have := h.B0; have := h.rB
    rcases hb with rfl | ⟨h3, rfl | rfl⟩
    · exact ⟨by omega, fun e => h.gr e.symm, h.rc⟩
    · have := h.du n hn h3; exact ⟨by have := this.B1; omega, this.g1, this.c1⟩
    · have := h.du n hn h3; exact ⟨by have := this.B2; omega, this.g2, this.c2⟩
  refine ⟨(ho.block _ (heap_lt h.obj) (fun hb => (hg _ hb).2.1 rfl)).trans h.obj, h.tp, h.tr, h.bel.trans (ho.below h.bel.size (fun i hi hm => by have := (hg i hm).1; omega)), hrow, h.cs.same (ho.block _ h.cs.lt (fun hb => (hg _ hb).2.2 rfl)), fun m hm h3 => ?_, fun m hm => ?_, h.B0, h.gB, h.rB, h.cB, h.gr, h.gc, h.rc, fun m hm h3 => ?_, fun m k hm hk hne h3 h3' => ?_⟩
  · by_cases e : m = n
    · subst e
      rw [hRn] at h3 ⊢
      rw [hu2.1, hu2.2]
      exact ⟨(hl h3).1, (hl h3).2.1⟩
    · rw [hR m e] at h3 ⊢
      rw [(hu1 m e).1, (hu1 m e).2]
      have hh := h.us m hm h3
      have off : ∀ b, (b = ub m ∨ b = lb m) → ¬ (b = u.rb ∨ (S.R n).ph = 3 ∧ (b = ub n ∨ b = lb n)) := fun b hb hM => by
        have a := h.du m hm h3
        rcases hM with rfl | ⟨hn3, hM⟩
        · rcases hb with hb | hb
          · exact a.r1 hb.symm
          · exact a.r2 hb.symm
        · have d := h.dd m n hm hn e h3 hn3
          rcases hb with rfl | rfl <;> rcases hM with hM | hM
          · exact d.a hM
          · exact d.b hM
          · exact d.c hM
          · exact d.d hM
      exact ⟨hh.1.same (ho.block _ hh.1.lt (off _ (.inl rfl))), hh.2.same (ho.block _ hh.2.lt (off _ (.inr rfl)))⟩
  · by_cases e : m = n
    · subst e; rw [hRn]; exact hnf
    · rw [hR m e]; exact h.nf m hm
  · by_cases e : m = n
    · subst e
      rw [hRn] at h3
      rw [hu2.1, hu2.2]
      exact (hl h3).2.2.1
    · rw [hR m e] at h3
      rw [(hu1 m e).1, (hu1 m e).2]
      exact h.du m hm h3
  · by_cases e : m = n
    · subst e
      rw [hRn] at h3
      rw [hR k (Ne.symm hne)] at h3'
      rw [hu2.1, hu2.2, (hu1 k (Ne.symm hne)).1, (hu1 k (Ne.symm hne)).2]
      exact (hl h3).2.2.2 k hk (Ne.symm hne) h3'
    · rw [hR m e] at h3
      rw [(hu1 m e).1, (hu1 m e).2]
      by_cases e' : k = n
      · subst e'
        rw [hRn] at h3'
        rw [hu2.1, hu2.2]
        have := (hl h3').2.2.2 m hm e h3
        exact ⟨Ne.symm this.a, Ne.symm this.c, Ne.symm this.b, Ne.symm this.d⟩
      · rw [hR k e'] at h3'
        rw [(hu1 k e').1, (hu1 k e').2]
        exact h.dd m k hm hk hne h3 h3'
/-- The row of the routes, one turned. -/
theorem r27_row {T : Tab} {R : Nat → RS} {ub lb : Nat → Nat} {n m b1 b2 : Nat} {r : RS} {w : World} {rb : Nat} {V : Nat → Value} (h : RowAt w rb 61 m V) (hV : ∀ q, q < m → q / 4 ≠ n → V q = r27V T R ub lb q)
    (h0 : V (n * 4) = .int .i64 (r.ph : Int)) (h1 : V (n * 4 + 1) = .int .i64 (r.tm : Int)) (h2 : V (n * 4 + 2) = if r.ph = 3 then .slice (some ⟨b1, 0, none⟩) (T.rts.getD n rt0).tr.length (T.rts.getD n rt0).tr.length else .slice none 0 0)
    (h3 : V (n * 4 + 3) = if r.ph = 3 then .slice (some ⟨b2, 0, none⟩) (T.rts.getD n rt0).tr.length (T.rts.getD n rt0).tr.length else .slice none 0 0) :
    RowAt w rb 61 m (r27V T (fun j => if j = n then r else R j) (fset ub n b1) (fset lb n b2)) := by
  refine h.congr fun q hq => ?_
  by_cases e : q / 4 = n
  · have hR : (fun j => if j = n then r else R j) n = r := if_pos rfl
    have : q = n * 4 ∨ q = n * 4 + 1 ∨ q = n * 4 + 2 ∨ q = n * 4 + 3 := by omega
    rcases this with rfl | rfl | rfl | rfl
    · rw [r27V_0, h0]; show _ = Value.int _ (((fun j => if j = n then r else R j) n).ph : Int); rw [hR]
    · rw [r27V_1, h1]; show _ = Value.int _ (((fun j => if j = n then r else R j) n).tm : Int); rw [hR]
    · rw [r27V_2, h2]; unfold ruV; rw [hR, show fset ub n b1 n = b1 from if_pos rfl]
    · rw [r27V_3, h3]; unfold ruV; rw [hR, show fset lb n b2 n = b2 from if_pos rfl]
  · rw [hV q hq e]
    unfold r27V ruV
    rw [show (fun j => if j = n then r else R j) (q / 4) = R (q / 4) from if_neg e, show fset ub n b1 (q / 4) = ub (q / 4) from if_neg e, show fset lb n b2 (q / 4) = lb (q / 4) from if_neg e]
set_option maxHeartbeats 2000000 in
theorem renter_any (rb n m L : Nat) (V : Nat → Value) (w : World) (hr : RowAt w rb 61 m V) (hm : n * 4 + 3 < m) (hL : L ≤ 1000) :
    Calls Try.prog 66 #[.pointer (some ⟨rb, n * 4, none⟩), .int .i64 (L : Int)] w fun e w' => e = .returned (.tuple #[]) ∧ Only (fun b => b = rb) w w' ∧ ∃ b1 b2, w.heap.size ≤ b1 ∧ w.heap.size ≤ b2 ∧ b1 ≠ b2 ∧
      RowAt w' b1 4 L (bitsV 0) ∧ RowAt w' b2 4 L (bitsV 0) ∧
      RowAt w' rb 61 m (fun q => if q = n * 4 + 3 then .slice (some ⟨b2, 0, none⟩) L L else if q = n * 4 + 2 then .slice (some ⟨b1, 0, none⟩) L L else if q = n * 4 + 1 then .int .i64 0 else if q = n * 4 then .int .i64 3 else V q) := by
  have hmk := fun w => run_make_row' (P := Try.prog) 42 4 (.bool false) 1 Try.underlying42 infoB rfl .i64 .i64 L (by omega) (by omega) w
  have HR := Lib.hid hr; have HM := Lib.hid hm
  have c0 := hr.cell (i := n * 4) (by omega); have f0 := hr.frozen (n * 4)
  have lr := hr.lt
  clear hr
  go_enter Try.func66, Try.ntmps66
  go_upto_region 1 with fail
  have R1 := Lib.hid (HR.out.set (i := n * 4) (.int .i64 3))
  have O1 : Hid (Only (fun b => b = rb) w (w.setCell ⟨rb, n * 4, none⟩ (.int .i64 3))) := (Only.refl _ w).set _ _ (.inr rfl)
  generalize w.setCell ⟨rb, n * 4, none⟩ (.int .i64 3) = w1 at *
  clear c0 f0 lr HR
  have c0 := R1.out.cell (i := n * 4 + 1) (by omega); have f0 := R1.out.frozen (n * 4 + 1)
  have lr := R1.out.lt
  go_upto_region 2 with fail
  have R2 := Lib.hid (R1.out.set (i := n * 4 + 1) (.int .i64 0))
  have O2 : Hid (Only (fun b => b = rb) w (w1.setCell ⟨rb, n * 4 + 1, none⟩ (.int .i64 0))) := O1.out.set _ _ (.inr rfl)
  generalize w1.setCell ⟨rb, n * 4 + 1, none⟩ (.int .i64 0) = w2 at *
  clear c0 f0 lr R1 O1
  obtain ⟨v2, hv2⟩ : ∃ W, W = w2.alloc (.cells (madeCells #[.bool false] L) 4) := ⟨_, rfl⟩
  have BV : Hid (Below w2.heap.size w2 v2) := by rw [hv2]; exact tb_alloc_below _ _
  have E2 : Hid (RowAt v2 w2.heap.size 4 L (bitsV 0)) := by rw [hv2]; exact (made_at _ _ _ _).congr (fun i _ => by unfold bitsV; rw [Nat.zero_testBit])
  have RV : Hid (RowAt v2 rb _ m _) := R2.out.same (BV.out.block _ R2.out.lt)
  have HV2 := Lib.hid hv2
  have c0 := RV.out.cell (i := n * 4 + 2) (by have := HM.out; omega); have f0 := RV.out.frozen (n * 4 + 2)
  have lr := RV.out.lt
  have hrb : rb < w2.heap.size := R2.out.lt
  have HRBL := Lib.hid hrb
  have HSZ : Hid (w.heap.size ≤ w2.heap.size) := O2.out.size
  rw [hv2] at c0 f0 lr
  clear hv2 hrb
  go_upto_region 3 with fail
  rw [← HV2.out]
  have R3 := Lib.hid (RV.out.set (i := n * 4 + 2) (.slice (some ⟨w2.heap.size, 0, none⟩) L L))
  have E3 : Hid (RowAt (v2.setCell ⟨rb, n * 4 + 2, none⟩ (.slice (some ⟨w2.heap.size, 0, none⟩) L L)) w2.heap.size 4 L (bitsV 0)) := E2.out.other (by have := HRBL.out; omega) _
  have O3 : Hid (Only (fun b => b = rb) w (v2.setCell ⟨rb, n * 4 + 2, none⟩ (.slice (some ⟨w2.heap.size, 0, none⟩) L L))) := (O2.out.trans (Only.of_below _ BV.out)).set _ _ (.inr rfl)
  generalize v2.setCell ⟨rb, n * 4 + 2, none⟩ (.slice (some ⟨w2.heap.size, 0, none⟩) L L) = w3 at *
  obtain ⟨b1, hb1⟩ : ∃ b, b = w2.heap.size := ⟨_, rfl⟩
  rw [← hb1] at R3 E3 HSZ
  have HB1 := Lib.hid HSZ.out
  have HNE : Hid (b1 ≠ rb) := by show _ ≠ _; have := HRBL.out; omega
  clear c0 f0 lr E2 RV BV HV2 R2 O2 HRBL HSZ
  rw [← hb1]
  clear hb1
  obtain ⟨v2, hv2⟩ : ∃ W, W = w3.alloc (.cells (madeCells #[.bool false] L) 4) := ⟨_, rfl⟩
  have BV : Hid (Below w3.heap.size w3 v2) := by rw [hv2]; exact tb_alloc_below _ _
  have E4 : Hid (RowAt v2 w3.heap.size 4 L (bitsV 0)) := by rw [hv2]; exact (made_at _ _ _ _).congr (fun i _ => by unfold bitsV; rw [Nat.zero_testBit])
  have RV : Hid (RowAt v2 rb _ m _) := R3.out.same (BV.out.block _ R3.out.lt)
  have HV2 := Lib.hid hv2
  have c0 := RV.out.cell (i := n * 4 + 3) (by have := HM.out; omega); have f0 := RV.out.frozen (n * 4 + 3)
  have lr := RV.out.lt
  have hrb : rb < w3.heap.size := R3.out.lt
  have HRBL := Lib.hid hrb
  have HSZ : Hid (w.heap.size ≤ w3.heap.size) := O3.out.size
  rw [hv2] at c0 f0 lr
  clear hv2 hrb
  go_wp2_with fail
  rw [← HV2.out]
  have R4 := Lib.hid (RV.out.set (i := n * 4 + 3) (.slice (some ⟨w3.heap.size, 0, none⟩) L L))
  have HRB2 := HRBL.out
  have EE3 : RowAt (v2.setCell ⟨rb, n * 4 + 3, none⟩ (.slice (some ⟨w3.heap.size, 0, none⟩) L L)) b1 4 L (bitsV 0) := (E3.out.same (BV.out.block _ E3.out.lt)).other (fun e => HNE.out e) _
  have EE4 : RowAt (v2.setCell ⟨rb, n * 4 + 3, none⟩ (.slice (some ⟨w3.heap.size, 0, none⟩) L L)) w3.heap.size 4 L (bitsV 0) := E4.out.other (by omega) _
  have O4 : Only (fun b => b = rb) w (v2.setCell ⟨rb, n * 4 + 3, none⟩ (.slice (some ⟨w3.heap.size, 0, none⟩) L L)) := (O3.out.trans (Only.of_below _ BV.out)).set _ _ (.inr rfl)
  go_end0
  exact ⟨rfl, O4, b1, w3.heap.size, HB1.out, HSZ.out, by have := E3.out.lt; omega, EE3, EE4, R4.out⟩
end Go.Proofs.Ytlfcmedhadfheaa
