/- The document's automaton: under. -/
import Derived.Test.YtlfcmedhadfheaaRgD
namespace Go.Proofs.Ytlfcmedhadfheaa
open Go.RowKit
set_option linter.unusedVariables false
set_option linter.unusedSimpArgs false
theorem R27At.own_lt {w : World} {u : Rf} {S : AS} {ub lb : Nat → Nat} (h : R27At w u S ub lb) {b : Nat} (hb : Own27 u S ub lb b) : b < w.heap.size := by
  rcases hb with rfl | rfl | ⟨n, hn, h3, rfl | rfl⟩
  · exact h.rs.lt
  · exact h.cs.lt
  · exact (h.us n hn h3).1.lt
  · exact (h.us n hn h3).2.lt
theorem R27At.own_ge {w : World} {u : Rf} {S : AS} {ub lb : Nat → Nat} (h : R27At w u S ub lb) {b : Nat} (hb : Own27 u S ub lb b) : u.B ≤ b ∧ b ≠ u.g := by
  rcases hb with rfl | rfl | ⟨n, hn, h3, rfl | rfl⟩
  · exact ⟨h.rB, Ne.symm h.gr⟩
  · exact ⟨h.cB, Ne.symm h.gc⟩
  · exact ⟨(h.du n hn h3).B1, (h.du n hn h3).g1⟩
  · exact ⟨(h.du n hn h3).B2, (h.du n hn h3).g2⟩
theorem UnderP.storeT {w : World} {u : Rf} {S : AS} {ub lb : Nat → Nat} (h : R27At w u S ub lb) {n : Nat} (hn : n < u.T.rts.length) (h2 : (S.R n).ph = 2) (t : Nat) (ht : t < 65536) :
    UnderP u S ub lb w (S.setR n { S.R n with tm := t }) (w.setCell ⟨u.rb, n * 4 + 1, none⟩ (.int .i64 (t : Int))) := by
  have hrow := h.rs.set (i := n * 4 + 1) (.int .i64 (t : Int))
  have hnf := h.nf n hn
  have h3 : ¬ (S.R n).ph = 3 := by omega
  refine UnderP.upd h hn (b1 := 0) (b2 := 0) ((Only.refl _ w).set _ _ (.inr (.inl rfl))) (r27_row (R := S.R) (ub := ub) (lb := lb) hrow (fun q hq hne => ?_) ?_ ?_ ?_ ?_) ⟨fun e => ?_, fun e => ?_, fun e => hnf.z2 e, fun e => absurd e h3, hnf.us, hnf.rl, hnf.ph, ht⟩ (fun e => absurd e h3) (fun e => absurd e h3)
  · show (if q = n * 4 + 1 then _ else _) = _
    rw [if_neg (by omega)]
  · show (if n * 4 = n * 4 + 1 then _ else _) = _
    rw [if_neg (by omega), r27V_0]
  · show (if n * 4 + 1 = n * 4 + 1 then _ else _) = _
    rw [if_pos rfl]
  · show (if n * 4 + 2 = n * 4 + 1 then _ else _) = if (S.R n).ph = 3 then _ else _
    rw [if_neg (by omega), r27V_2]; unfold ruV; rw [if_neg h3, if_neg h3]
  · show (if n * 4 + 3 = n * 4 + 1 then _ else _) = if (S.R n).ph = 3 then _ else _
    rw [if_neg (by omega), r27V_3]; unfold ruV; rw [if_neg h3, if_neg h3]
  · have e : (S.R n).ph = 0 := e
    omega
  · have e : (S.R n).ph = 1 := e
    omega
theorem UnderP.comp {u : Rf} {S S1 S2 : AS} {ub lb u1 l1 : Nat → Nat} {w w1 w2 : World} (b : Only (Own27 u S ub lb) w w1) (c : ∀ b, Own27 u S1 u1 l1 b → Own27 u S ub lb b ∨ w.heap.size ≤ b) (k : UnderP u S1 u1 l1 w1 S2 w2) : UnderP u S ub lb w S2 w2 := by
  obtain ⟨u2, l2, a2, b2, c2⟩ := k
  refine ⟨u2, l2, a2, ⟨b2.os.trans b.os, b2.tape.trans b.tape, b2.output.trans b.output, Nat.le_trans b.size b2.size, fun i hi hm => ?_⟩, fun x hx => ?_⟩
  · refine (b2.block i (Nat.lt_of_lt_of_le hi b.size) (fun h1 => ?_)).trans (b.block i hi hm)
    rcases c i h1 with h2 | h2
    · exact hm h2
    · omega
  · rcases c2 x hx with h2 | h2
    · exact c x h2
    · exact .inr (Nat.le_trans b.size h2)
theorem goR_enter {f : FD} {t : Rt} {n : Nat} {r : RS} (h0 : r.ph ≠ 0) (h3 : r.ph ≠ 3) (hb : bt f.cl (t.tr.getD 0 0) = false) : goR f t n r = trainR f t.tr ⟨3, 0, 0, 0⟩ := by
  have e : goR1 f t n r = ⟨3, 0, 0, 0⟩ := if_pos ⟨h3, hb⟩
  unfold goR
  rw [if_neg h0, e, if_pos rfl]
theorem goR_in {f : FD} {t : Rt} {n : Nat} {r : RS} (h3 : r.ph = 3) : goR f t n r = trainR f t.tr r := by
  have e : goR1 f t n r = r := by
    unfold goR1
    rw [if_neg (fun h => h.1 h3), if_neg (by omega), if_neg (by omega)]
  unfold goR
  rw [if_neg (by omega), e, if_pos h3]
theorem goR_back {f : FD} {t : Rt} {n : Nat} {r : RS} (h1 : r.ph = 1) (hb : bt f.cl (t.tr.getD 0 0) = true) (hc : f.ca.testBit n = true) : goR f t n r = if 0 ≤ t.app ∧ bt f.cl t.app = false then ⟨2, 0, 0, 0⟩ else rs0 := by
  have e : goR1 f t n r = if 0 ≤ t.app ∧ bt f.cl t.app = false then ⟨2, 0, 0, 0⟩ else rs0 := by
    unfold goR1
    rw [if_neg (fun h => by rw [hb] at h; exact absurd h.2 (by decide)), if_pos ⟨h1, hc⟩]
  unfold goR
  rw [if_neg (by omega), e]
  split
  · rw [if_neg (by decide)]
  · rw [if_neg (by decide)]
theorem goR_stay {f : FD} {t : Rt} {n : Nat} {r : RS} (h1 : r.ph = 1) (hb : bt f.cl (t.tr.getD 0 0) = true) (hc : f.ca.testBit n = false) : goR f t n r = r := by
  have e : goR1 f t n r = r := by
    unfold goR1
    rw [if_neg (fun h => by rw [hb] at h; exact absurd h.2 (by decide)), if_neg (fun h => by rw [hc] at h; exact absurd h.2 (by decide)), if_neg (by omega)]
  unfold goR
  rw [if_neg (by omega), e, if_neg (by omega)]
theorem goR_wait {f : FD} {t : Rt} {n : Nat} {r : RS} (h2 : r.ph = 2) (hb : bt f.cl (t.tr.getD 0 0) = true) : goR f t n r = if t.hold ≤ upTime r.tm then rs0 else { r with tm := upTime r.tm } := by
  have e : goR1 f t n r = if t.hold ≤ upTime r.tm then rs0 else { r with tm := upTime r.tm } := by
    unfold goR1
    rw [if_neg (fun h => by rw [hb] at h; exact absurd h.2 (by decide)), if_neg (by omega), if_pos h2]
  unfold goR
  rw [if_neg (by omega), e]
  split
  · rw [if_neg (by decide)]
  · rw [if_neg (by show ¬ r.ph = 3; omega)]
set_option maxRecDepth 100000 in
set_option maxHeartbeats 8000000 in
theorem under_any {f : FD} {w : World} {u : Rf} {S : AS} {ub lb : Nat → Nat} (h : R27At w u S ub lb) (hf : f.Ok) (hT : TOk u.T) {n : Nat} (hn : n < u.T.rts.length) :
    Calls Try.prog 43 #[.pointer (some ⟨u.g, 0, none⟩), .int .i64 (n : Int), .agg #[.int .u32 (f.cl : Int), .int .u32 (f.no : Int), .int .u32 (f.re : Int), .int .u32 (f.ak : Int), .int .u32 (f.ca : Int), .int .u32 (f.rq : Int)]] w fun e w' => e = .returned (.tuple #[]) ∧ UnderP u S ub lb w (goS u.T f S n) w' := by
  show Calls _ _ _ _ fun e w' => _ ∧ UnderP u S ub lb w (S.setR n (goR f (u.T.rts.getD n rt0) n (S.R n))) w'
  have H := Lib.hid h; have HF := Lib.hid hf; have HTK := Lib.hid hT; have HN := Lib.hid hn
  have hN16 := hT.n
  obtain ⟨ra, rc, C0, hvr, hrl, hrc, _⟩ := h.tr.at_
  have hrt := h.tr
  rw [hvr] at hrt
  obtain ⟨b, off, C, rfl, hb, hc, hR⟩ := hrt.cells hn
  obtain ⟨A, hA⟩ : ∃ A, A = u.T.rts.getD n rt0 := ⟨_, rfl⟩
  have hap := hT.app n hn; have htl := hT.tl n hn
  have htr0 := hT.tr n hn 0 htl.1
  have hho := hT.hold n hn
  rw [← hA] at hR hap htl htr0 hho ⊢
  obtain ⟨⟨ta, tc, ht, ht1, ht2, _⟩, _⟩ := id hR.tr
  obtain ⟨⟨pa, pc, hp, _⟩, _⟩ := id hR.pts
  obtain ⟨⟨ca, cc, hcn, _⟩, _⟩ := id hR.con
  have x0 := (h.bel.cell hb).trans (hc 0 (by omega)); have x1 := (h.bel.cell hb).trans (hc 1 (by omega)); have x2 := (h.bel.cell hb).trans (hc 2 (by omega)); have x3 := (h.bel.cell hb).trans (hc 3 (by omega)); have x4 := (h.bel.cell hb).trans (hc 4 (by omega)); have x5 := (h.bel.cell hb).trans (hc 5 (by omega))
  rw [Nat.add_zero] at x0
  rw [hR.sig] at x0; rw [ht] at x1; rw [hp] at x2; rw [hR.app] at x3; rw [hcn] at x4; rw [hR.hold] at x5
  have HTR : Hid (IntsAt u.w0 (.slice ta A.tr.length tc) A.tr) := ht ▸ hR.tr
  obtain ⟨tb, tof, rfl, htb, _⟩ := HTR.out.cell htl.1
  obtain ⟨y, hy⟩ := Int.eq_ofNat_of_zero_le htr0.1
  have hy32 : y < 32 := by omega
  have HY := Lib.hid hy
  obtain ⟨w1, hw1⟩ : ∃ w1, w1 = w.alloc (.cells #[.int .u32 (f.cl : Int), .int .u32 (f.no : Int), .int .u32 (f.re : Int), .int .u32 (f.ak : Int), .int .u32 (f.ca : Int), .int .u32 (f.rq : Int)] 38) := ⟨_, rfl⟩
  have B1 : Hid (Below w.heap.size w w1) := by rw [hw1]; exact tb_alloc_below _ _
  have K1 : Hid (w1.heap[w.heap.size]? = some (.cells #[.int .u32 (f.cl : Int), .int .u32 (f.no : Int), .int .u32 (f.re : Int), .int .u32 (f.ak : Int), .int .u32 (f.ca : Int), .int .u32 (f.rq : Int)] 38 (0, 0))) := by rw [hw1]; exact heap_alloc_new _ _
  obtain ⟨w2, hw2⟩ : ∃ w2, w2 = w1.alloc (.cells #[.int .i64 A.sig, .slice (some ⟨tb, tof, none⟩) A.tr.length tc, .slice pa A.pts.length pc, .int .i64 A.app, .slice ca A.con.length cc, .int .u16 (A.hold : Int)] 46) := ⟨_, rfl⟩
  have B12 : Hid (Below w1.heap.size w1 w2) := by rw [hw2]; exact tb_alloc_below _ _
  have KA2 : Hid (w2.heap[w1.heap.size]? = some (.cells #[.int .i64 A.sig, .slice (some ⟨tb, tof, none⟩) A.tr.length tc, .slice pa A.pts.length pc, .int .i64 A.app, .slice ca A.con.length cc, .int .u16 (A.hold : Int)] 46 (0, 0))) := by rw [hw2]; exact heap_alloc_new _ _
  have KF2 := Lib.hid (tb_kept K1.out B12.out)
  have BW2 : Hid (Below w.heap.size w w2) := B1.out.trans (B12.out.mono B1.out.size)
  have A2 : Hid (R27At w2 u S ub lb) := h.below BW2.out
  have HW1 := Lib.hid hw1; have HW2 := Lib.hid hw2
  have x0 := (B1.out.cell (Nat.lt_of_lt_of_le hb h.bel.size)).trans x0; have x1 := (B1.out.cell (Nat.lt_of_lt_of_le hb h.bel.size)).trans x1; have x2 := (B1.out.cell (Nat.lt_of_lt_of_le hb h.bel.size)).trans x2; have x3 := (B1.out.cell (Nat.lt_of_lt_of_le hb h.bel.size)).trans x3; have x4 := (B1.out.cell (Nat.lt_of_lt_of_le hb h.bel.size)).trans x4; have x5 := (B1.out.cell (Nat.lt_of_lt_of_le hb h.bel.size)).trans x5
  have lr : b < w1.heap.size := Nat.lt_of_lt_of_le hb (Nat.le_trans h.bel.size B1.out.size)
  have HOW : Hid (∀ b, Own27 u S ub lb b → b < w.heap.size) := fun b hb => h.own_lt hb
  have HZ : Hid (w.heap.size ≤ w1.heap.size) := B1.out.size
  have HK1 := tb_kept h.obj B1.out
  rw [hvr] at HK1
  have g3 := cell_row (j := 3) HK1 rfl; have g4 := cell_row (j := 4) HK1 rfl
  have lg := heap_lt HK1
  obtain ⟨r, hr⟩ : ∃ r, r = S.R n := ⟨_, rfl⟩
  have HRR := Lib.hid hr
  rw [← hr]
  have hnf := h.nf n hn
  rw [← hA, ← hr] at hnf
  have HNF := Lib.hid hnf
  have hph4 := hnf.ph; have htm6 := hnf.tm
  unfold maxLen at ht2 hrc
  obtain ⟨fb, hfb⟩ : ∃ b, b = w.heap.size := ⟨_, rfl⟩
  obtain ⟨ab, hab⟩ : ∃ b, b = w1.heap.size := ⟨_, rfl⟩
  have HFB := Lib.hid hfb; have HAB := Lib.hid hab; have HA := Lib.hid hA
  rw [← hfb] at KF2
  rw [← hab] at KA2
  obtain ⟨G, hG⟩ : ∃ G, G = goR f A n r := ⟨_, rfl⟩
  have HG := Lib.hid hG
  rw [← hG]
  clear hw1 hw2 hfb hab h hf hT hrt hc hR hb htb ht hp hcn hr hnf HK1 hvr K1 B1 B12 hA hG htr0 hy
  go_enter Try.func43, Try.ntmps43
  go_upto_region 1 with fail
  rw [← HW1.out, ← HFB.out]
  go_upto_region 3 with fail
  rw [← HW2.out, ← HAB.out]
  clear x0 x1 x2 x3 x4 x5 lr g3 g4 lg HW1 HW2
  have f0 := cell_row (j := 0) KF2.out rfl; have a1 := cell_row (j := 1) KA2.out rfl
  have lf := heap_lt KF2.out; have la := heap_lt KA2.out
  obtain ⟨_, _, e, htb2, z0⟩ := (HTR.out.below A2.out.bel).cell (i := 0) htl.1
  cases e
  rw [HY.out, Nat.add_zero] at z0
  have HC := Lib.hid (ron_q f.cl y w2 HF.out.cl hy32)
  generalize hh : f.cl.testBit y = h at *
  have HH : Hid (bt f.cl (A.tr.getD 0 0) = h) := by show _ = _; rw [HY.out]; exact hh
  clear hh
  go_quiet ((go_at_call 65; (with_reducible exact HC.out _)))
  have BQ := RG_drewN w2 nq
  have KF3 := Lib.hid (tb_kept KF2.out BQ); have KA3 := Lib.hid (tb_kept KA2.out BQ)
  have A3 := Lib.hid (A2.out.below BQ)
  have BW3 : Hid (Below w.heap.size w (w2.drewN nq)) := BW2.out.trans (BQ.mono BW2.out.size)
  generalize w2.drewN nq = w3 at *
  clear f0 a1 lf la z0 htb2 HC BQ A2 KF2 KA2 BW2
  have O3 : Hid (Only (Own27 u S ub lb) w w3) := Only.of_below _ BW3.out
  have C3 : Hid (∀ b, Own27 u S ub lb b → Own27 u S ub lb b ∨ w.heap.size ≤ b) := fun b hb => .inl hb
  have HNO : Hid (∀ b, Own27 u S ub lb b → b ≠ fb ∧ b ≠ ab) := fun b hb => by have := HOW.out b hb; have := HFB.out; have := HAB.out; have := HZ.out; exact ⟨by omega, by omega⟩
  have p0 : w3.cell? ⟨u.rb, n * 4, none⟩ = some (.int .i64 (r.ph : Int)) := by
    have := A3.out.rs.cell (i := n * 4) (by omega)
    rw [r27V_0, ← HRR.out] at this; exact this
  have lr := A3.out.rs.lt
  obtain ⟨p, hp⟩ : ∃ p, p = r.ph := ⟨_, rfl⟩
  have HP : Hid (r.ph = p) := hp.symm
  rw [← hp] at p0 hph4
  clear hp
  rcases (show p = 0 ∨ p = 1 ∨ p = 2 ∨ p = 3 by omega) with rfl | rfl | rfl | rfl
  · have p0' : w3.cell? ⟨u.rb, n * 4, none⟩ = some (.int .i64 0) := p0
    clear p0
    have HS : Hid (S.setR n G = S) := by show _ = _; rw [HG.out, show goR f A n r = r from if_pos HP.out, HRR.out, S.setR_same]
    go_wp2_with fail
    go_end0
    exact ⟨rfl, by rw [HS.out]; exact ⟨ub, lb, A3.out, O3.out, C3.out⟩⟩
  · have p0' : w3.cell? ⟨u.rb, n * 4, none⟩ = some (.int .i64 1) := p0
    clear p0
    have p0 := p0'
    clear p0'
    cases h
    case false =>
      have a1 := cell_row (j := 1) KA3.out rfl
      have la := heap_lt KA3.out
      have HEN := Lib.hid (enter_at A3.out HN.out (by rw [← HRR.out, HP.out]; omega) (by rw [← HA.out]; omega))
      rw [← HA.out] at HEN
      have HGE : Hid (G = trainR f A.tr ⟨3, 0, 0, 0⟩) := HG.out.trans (goR_enter (by rw [HP.out]; omega) (by rw [HP.out]; omega) HH.out)
      go_wp2_with fail
      refine HEN.out.mono ?_
      rintro e w4 ⟨rfl, u1, l1, hA4, ho4, hc4⟩
      have A4 := Lib.hid hA4
      have O4 : Hid (Only (Own27 u S ub lb) w w4) := O3.out.trans ho4
      have C4 : Hid (∀ b, Own27 u (S.setR n ⟨3, 0, 0, 0⟩) u1 l1 b → Own27 u S ub lb b ∨ w.heap.size ≤ b) := fun b hb => (hc4 b hb).imp id (fun h => Nat.le_trans BW3.out.size h)
      have KF4 : Hid (w4.heap[fb]? = _) := (ho4.block _ (heap_lt KF3.out) (fun h => (HNO.out _ h).1 rfl)).trans KF3.out
      have KA4 : Hid (w4.heap[ab]? = _) := (ho4.block _ (heap_lt KA3.out) (fun h => (HNO.out _ h).2 rfl)).trans KA3.out
      clear hA4 ho4 hc4 p0 lr a1 la HEN
      have p0 : w4.cell? ⟨u.rb, n * 4, none⟩ = some (.int .i64 3) := by
        have := A4.out.rs.cell (i := n * 4) (by have := HN.out; omega)
        rw [r27V_0, S.setR_R] at this; exact this
      have lr := A4.out.rs.lt
      have f0 := cell_row (j := 0) KF4.out rfl; have f1 := cell_row (j := 1) KF4.out rfl; have f2 := cell_row (j := 2) KF4.out rfl; have f3 := cell_row (j := 3) KF4.out rfl; have f4 := cell_row (j := 4) KF4.out rfl; have f5 := cell_row (j := 5) KF4.out rfl
      have a1 := cell_row (j := 1) KA4.out rfl
      have lf := heap_lt KF4.out; have la := heap_lt KA4.out
      have HTN := Lib.hid (train_at (f := f) A4.out HF.out HTK.out HN.out (by rw [S.setR_R]) (.slice (some ⟨tb, tof, none⟩) A.tr.length tc) (by rw [← HA.out]; exact HTR.out))
      go_wp2_with fail
      refine HTN.out.mono ?_
      rintro e w9 ⟨rfl, hU⟩
      have UF : Hid (UnderP u S ub lb w (S.setR n G) w9) := by
        have := UnderP.comp O4.out C4.out hU
        rw [← HA.out] at this
        (rw [S.setR_R, S.setR_setR, ← HGE.out] at this; exact this)
      clear f0 f1 f2 f3 f4 f5 a1 lf la HTN hU
      go_wp2_with fail
      go_end0
      exact ⟨rfl, UF.out⟩
    case true =>
      have f4 := cell_row (j := 4) KF3.out rfl; have f0' := cell_row (j := 0) KF3.out rfl
      have a3 := cell_row (j := 3) KA3.out rfl
      have lf := heap_lt KF3.out; have la := heap_lt KA3.out
      have HCA := Lib.hid (ron_any f.ca n w3 HF.out.ca (by omega))
      generalize hca : f.ca.testBit n = ca at *
      have HCE := Lib.hid hca
      clear hca
      go_wp2_with fail
      refine HCA.out.mono ?_
      rintro e v3 ⟨rfl, rfl⟩
      clear HCA
      cases ca
      case false =>
        have HS : Hid (S.setR n G = S) := by show _ = _; rw [HG.out, goR_stay HP.out HH.out HCE.out, HRR.out, S.setR_same]
        go_wp2_with fail
        go_end0
        exact ⟨rfl, by rw [HS.out]; exact ⟨ub, lb, A3.out, O3.out, C3.out⟩⟩
      case true =>
        have HGB := Lib.hid (HG.out.trans (goR_back HP.out HH.out HCE.out))
        by_cases hap1 : A.app = -1
        case pos =>
          have ta : (A.app == -1) = true := by simpa using hap1
          have HGZ : Hid (G = ⟨0, 0, 0, 0⟩) := by show _ = _; rw [HGB.out, if_neg (by omega)]; rfl
          clear hap1
          have f0 := A3.out.rs.frozen (n * 4); have f1 := A3.out.rs.frozen (n * 4 + 1); have f2 := A3.out.rs.frozen (n * 4 + 2); have f3 := A3.out.rs.frozen (n * 4 + 3)
          have c1 := A3.out.rs.cell (i := n * 4 + 1) (by have := HN.out; omega); have c2 := A3.out.rs.cell (i := n * 4 + 2) (by have := HN.out; omega); have c3 := A3.out.rs.cell (i := n * 4 + 3) (by have := HN.out; omega)
          have UZ : Hid (UnderP u S _ _ v3 (AS.setR S n ⟨0, 0, 0, 0⟩) ((((v3.setCell ⟨u.rb, n * 4, none⟩ (.int .i64 0)).setCell ⟨u.rb, n * 4 + 1, none⟩ (.int .i64 0)).setCell ⟨u.rb, n * 4 + 2, none⟩ (.slice none 0 0)).setCell ⟨u.rb, n * 4 + 3, none⟩ (.slice none 0 0))) :=
            UnderP.store4 A3.out HN.out 0 0 (by omega) (fun _ => rfl) (fun _ => rfl) (by omega) (by omega)
          go_upto_region 19 with fail
          generalize (((v3.setCell ⟨u.rb, n * 4, none⟩ (.int .i64 0)).setCell ⟨u.rb, n * 4 + 1, none⟩ (.int .i64 0)).setCell ⟨u.rb, n * 4 + 2, none⟩ (.slice none 0 0)).setCell ⟨u.rb, n * 4 + 3, none⟩ (.slice none 0 0) = w8 at *
          clear f0 f1 f2 f3 c1 c2 c3 p0 lr
          obtain ⟨u8, l8, hA8, ho8, hc8⟩ := UZ.out
          have p0 : w8.cell? ⟨u.rb, n * 4, none⟩ = some (.int .i64 0) := by
            have := hA8.rs.cell (i := n * 4) (by have := HN.out; omega)
            rw [r27V_0, AS.setR_R] at this; exact this
          have lr := hA8.rs.lt
          have UF : Hid (UnderP u S ub lb w (S.setR n G) w8) := by
            have := UnderP.comp O3.out C3.out ⟨u8, l8, hA8, ho8, hc8⟩
            rw [show G = ⟨0, 0, 0, 0⟩ from HGZ.out]
            (exact this)
          clear hA8 ho8 hc8 UZ
          go_wp2_with fail
          go_end0
          exact ⟨rfl, UF.out⟩
        case neg =>
          have ta : (A.app == -1) = false := by simpa using hap1
          obtain ⟨q, hq⟩ := Int.eq_ofNat_of_zero_le (show 0 ≤ A.app by omega)
          have hq32 : q < 32 := by omega
          have HQ := Lib.hid hq
          have HCQ := Lib.hid (ron_any f.cl q v3 HF.out.cl hq32)
          rw [hq] at a3 ta
          generalize hcq : f.cl.testBit q = cq at *
          have HCQE : Hid (bt f.cl A.app = cq) := by show _ = _; rw [HQ.out]; exact hcq
          clear hcq hap1 hq
          go_wp2_with fail
          refine HCQ.out.mono ?_
          rintro e v4 ⟨rfl, rfl⟩
          clear HCQ
          cases cq
          case true =>
            have HGZ : Hid (G = ⟨0, 0, 0, 0⟩) := by show _ = _; rw [HGB.out, if_neg (by rw [HCQE.out]; exact fun h => absurd h.2 (by decide))]; rfl
            have f0 := A3.out.rs.frozen (n * 4); have f1 := A3.out.rs.frozen (n * 4 + 1); have f2 := A3.out.rs.frozen (n * 4 + 2); have f3 := A3.out.rs.frozen (n * 4 + 3)
            have c1 := A3.out.rs.cell (i := n * 4 + 1) (by have := HN.out; omega); have c2 := A3.out.rs.cell (i := n * 4 + 2) (by have := HN.out; omega); have c3 := A3.out.rs.cell (i := n * 4 + 3) (by have := HN.out; omega)
            have UZ : Hid (UnderP u S _ _ v4 (AS.setR S n ⟨0, 0, 0, 0⟩) ((((v4.setCell ⟨u.rb, n * 4, none⟩ (.int .i64 0)).setCell ⟨u.rb, n * 4 + 1, none⟩ (.int .i64 0)).setCell ⟨u.rb, n * 4 + 2, none⟩ (.slice none 0 0)).setCell ⟨u.rb, n * 4 + 3, none⟩ (.slice none 0 0))) :=
              UnderP.store4 A3.out HN.out 0 0 (by omega) (fun _ => rfl) (fun _ => rfl) (by omega) (by omega)
            go_upto_region 19 with fail
            generalize (((v4.setCell ⟨u.rb, n * 4, none⟩ (.int .i64 0)).setCell ⟨u.rb, n * 4 + 1, none⟩ (.int .i64 0)).setCell ⟨u.rb, n * 4 + 2, none⟩ (.slice none 0 0)).setCell ⟨u.rb, n * 4 + 3, none⟩ (.slice none 0 0) = w8 at *
            clear f0 f1 f2 f3 c1 c2 c3 p0 lr
            obtain ⟨u8, l8, hA8, ho8, hc8⟩ := UZ.out
            have p0 : w8.cell? ⟨u.rb, n * 4, none⟩ = some (.int .i64 0) := by
              have := hA8.rs.cell (i := n * 4) (by have := HN.out; omega)
              rw [r27V_0, AS.setR_R] at this; exact this
            have lr := hA8.rs.lt
            have UF : Hid (UnderP u S ub lb w (S.setR n G) w8) := by
              have := UnderP.comp O3.out C3.out ⟨u8, l8, hA8, ho8, hc8⟩
              rw [show G = ⟨0, 0, 0, 0⟩ from HGZ.out]
              (exact this)
            clear hA8 ho8 hc8 UZ
            go_wp2_with fail
            go_end0
            exact ⟨rfl, UF.out⟩
          case false =>
            have HGZ : Hid (G = ⟨2, 0, 0, 0⟩) := by show _ = _; rw [HGB.out, if_pos ⟨by rw [HQ.out]; omega, HCQE.out⟩]
            have f0 := A3.out.rs.frozen (n * 4); have f1 := A3.out.rs.frozen (n * 4 + 1); have f2 := A3.out.rs.frozen (n * 4 + 2); have f3 := A3.out.rs.frozen (n * 4 + 3)
            have c1 := A3.out.rs.cell (i := n * 4 + 1) (by have := HN.out; omega); have c2 := A3.out.rs.cell (i := n * 4 + 2) (by have := HN.out; omega); have c3 := A3.out.rs.cell (i := n * 4 + 3) (by have := HN.out; omega)
            have UZ : Hid (UnderP u S _ _ v4 (AS.setR S n ⟨2, 0, 0, 0⟩) ((((v4.setCell ⟨u.rb, n * 4, none⟩ (.int .i64 2)).setCell ⟨u.rb, n * 4 + 1, none⟩ (.int .i64 0)).setCell ⟨u.rb, n * 4 + 2, none⟩ (.slice none 0 0)).setCell ⟨u.rb, n * 4 + 3, none⟩ (.slice none 0 0))) :=
              UnderP.store4 A3.out HN.out 2 0 (by omega) (fun _ => rfl) (fun _ => rfl) (by omega) (by omega)
            go_upto_region 19 with fail
            generalize (((v4.setCell ⟨u.rb, n * 4, none⟩ (.int .i64 2)).setCell ⟨u.rb, n * 4 + 1, none⟩ (.int .i64 0)).setCell ⟨u.rb, n * 4 + 2, none⟩ (.slice none 0 0)).setCell ⟨u.rb, n * 4 + 3, none⟩ (.slice none 0 0) = w8 at *
            clear f0 f1 f2 f3 c1 c2 c3 p0 lr
            obtain ⟨u8, l8, hA8, ho8, hc8⟩ := UZ.out
            have p0 : w8.cell? ⟨u.rb, n * 4, none⟩ = some (.int .i64 2) := by
              have := hA8.rs.cell (i := n * 4) (by have := HN.out; omega)
              rw [r27V_0, AS.setR_R] at this; exact this
            have lr := hA8.rs.lt
            have UF : Hid (UnderP u S ub lb w (S.setR n G) w8) := by
              have := UnderP.comp O3.out C3.out ⟨u8, l8, hA8, ho8, hc8⟩
              rw [show G = ⟨2, 0, 0, 0⟩ from HGZ.out]
              (exact this)
            clear hA8 ho8 hc8 UZ
            go_wp2_with fail
            go_end0
            exact ⟨rfl, UF.out⟩
  · have p0' : w3.cell? ⟨u.rb, n * 4, none⟩ = some (.int .i64 2) := p0
    clear p0
    have p0 := p0'
    clear p0'
    cases h
    case false =>
      have a1 := cell_row (j := 1) KA3.out rfl
      have la := heap_lt KA3.out
      have HEN := Lib.hid (enter_at A3.out HN.out (by rw [← HRR.out, HP.out]; omega) (by rw [← HA.out]; omega))
      rw [← HA.out] at HEN
      have HGE : Hid (G = trainR f A.tr ⟨3, 0, 0, 0⟩) := HG.out.trans (goR_enter (by rw [HP.out]; omega) (by rw [HP.out]; omega) HH.out)
      go_wp2_with fail
      refine HEN.out.mono ?_
      rintro e w4 ⟨rfl, u1, l1, hA4, ho4, hc4⟩
      have A4 := Lib.hid hA4
      have O4 : Hid (Only (Own27 u S ub lb) w w4) := O3.out.trans ho4
      have C4 : Hid (∀ b, Own27 u (S.setR n ⟨3, 0, 0, 0⟩) u1 l1 b → Own27 u S ub lb b ∨ w.heap.size ≤ b) := fun b hb => (hc4 b hb).imp id (fun h => Nat.le_trans BW3.out.size h)
      have KF4 : Hid (w4.heap[fb]? = _) := (ho4.block _ (heap_lt KF3.out) (fun h => (HNO.out _ h).1 rfl)).trans KF3.out
      have KA4 : Hid (w4.heap[ab]? = _) := (ho4.block _ (heap_lt KA3.out) (fun h => (HNO.out _ h).2 rfl)).trans KA3.out
      clear hA4 ho4 hc4 p0 lr a1 la HEN
      have p0 : w4.cell? ⟨u.rb, n * 4, none⟩ = some (.int .i64 3) := by
        have := A4.out.rs.cell (i := n * 4) (by have := HN.out; omega)
        rw [r27V_0, S.setR_R] at this; exact this
      have lr := A4.out.rs.lt
      have f0 := cell_row (j := 0) KF4.out rfl; have f1 := cell_row (j := 1) KF4.out rfl; have f2 := cell_row (j := 2) KF4.out rfl; have f3 := cell_row (j := 3) KF4.out rfl; have f4 := cell_row (j := 4) KF4.out rfl; have f5 := cell_row (j := 5) KF4.out rfl
      have a1 := cell_row (j := 1) KA4.out rfl
      have lf := heap_lt KF4.out; have la := heap_lt KA4.out
      have HTN := Lib.hid (train_at (f := f) A4.out HF.out HTK.out HN.out (by rw [S.setR_R]) (.slice (some ⟨tb, tof, none⟩) A.tr.length tc) (by rw [← HA.out]; exact HTR.out))
      go_wp2_with fail
      refine HTN.out.mono ?_
      rintro e w9 ⟨rfl, hU⟩
      have UF : Hid (UnderP u S ub lb w (S.setR n G) w9) := by
        have := UnderP.comp O4.out C4.out hU
        rw [← HA.out] at this
        (rw [S.setR_R, S.setR_setR, ← HGE.out] at this; exact this)
      clear f0 f1 f2 f3 f4 f5 a1 lf la HTN hU
      go_wp2_with fail
      go_end0
      exact ⟨rfl, UF.out⟩
    case true =>
      have a5 := cell_row (j := 5) KA3.out rfl
      have la := heap_lt KA3.out
      have HGW := Lib.hid (HG.out.trans (goR_wait HP.out HH.out))
      have c1 : w3.cell? ⟨u.rb, n * 4 + 1, none⟩ = some (.int .i64 (r.tm : Int)) := by
        have := A3.out.rs.cell (i := n * 4 + 1) (by omega)
        rw [r27V_1, ← HRR.out] at this; exact this
      by_cases h65 : r.tm < 65535
      case pos =>
        have t65 : decide ((r.tm : Int) < 65535) = true := decide_eq_true (by omega)
        obtain ⟨m, hm⟩ : ∃ m, m = r.tm + 1 := ⟨_, rfl⟩
        have hmi : (r.tm : Int) + 1 = (m : Int) := by omega
        have HUP : Hid (upTime r.tm = m) := by show _ = _; unfold upTime; rw [if_pos h65, hm]
        have hm6 : m < 65536 := by omega
        have f1 := A3.out.rs.frozen (n * 4 + 1)
        have UT := Lib.hid (UnderP.storeT A3.out HN.out (by rw [← HRR.out]; exact HP.out) m hm6)
        rw [← HRR.out] at UT
        clear hm
        go_upto_region 17 with fail
        generalize w3.setCell ⟨u.rb, n * 4 + 1, none⟩ (.int .i64 (m : Int)) = w4 at *
        clear f1 c1 t65 p0 lr a5 la
        obtain ⟨u4, l4, hA4, ho4, hc4⟩ := UT.out
        have A4 := Lib.hid hA4
        have O4 : Hid (Only (Own27 u S ub lb) w w4) := O3.out.trans ho4
        have C4 : Hid (∀ b, Own27 u (S.setR n { r with tm := m }) u4 l4 b → Own27 u S ub lb b ∨ w.heap.size ≤ b) := fun b hb => (hc4 b hb).imp id (fun h => Nat.le_trans BW3.out.size h)
        have KA4 : Hid (w4.heap[ab]? = _) := (ho4.block _ (heap_lt KA3.out) (fun h => (HNO.out _ h).2 rfl)).trans KA3.out
        clear hA4 ho4 hc4 UT
        have a5 := cell_row (j := 5) KA4.out rfl
        have la := heap_lt KA4.out
        have c1 : w4.cell? ⟨u.rb, n * 4 + 1, none⟩ = some (.int .i64 (m : Int)) := by
          have := A4.out.rs.cell (i := n * 4 + 1) (by have := HN.out; omega)
          rw [r27V_1, S.setR_R] at this; exact this
        have p0 := A4.out.rs.cell (i := n * 4) (by have := HN.out; omega)
        have lr := A4.out.rs.lt
        by_cases hhd : A.hold ≤ m
        case pos =>
          have td : decide ((A.hold : Int) ≤ (m : Int)) = true := decide_eq_true (by omega)
          have HGZ : Hid (G = ⟨0, 0, 0, 0⟩) := by show _ = _; rw [HGW.out, HUP.out, if_pos hhd]; rfl
          go_quiet (fail)
          have A6 := Lib.hid (A4.out.below (RG_drewN _ nq))
          have O6 : Hid (Only (Own27 u S ub lb) w (w4.drewN nq)) := O4.out.drewN
          clear a5 la p0 lr c1
          have p0 : (w4.drewN nq).cell? ⟨u.rb, n * 4, none⟩ = some (.int .i64 2) := by
            have := A6.out.rs.cell (i := n * 4) (by have := HN.out; omega)
            rw [r27V_0] at this
            (rw [S.setR_R] at this; rw [show ({ r with tm := m } : RS).ph = 2 from HP.out] at this; exact this)
          have lr := A6.out.rs.lt
          generalize w4.drewN nq = w6 at *
          have f0 := A6.out.rs.frozen (n * 4); have f1 := A6.out.rs.frozen (n * 4 + 1); have f2 := A6.out.rs.frozen (n * 4 + 2); have f3 := A6.out.rs.frozen (n * 4 + 3)
          have c1 := A6.out.rs.cell (i := n * 4 + 1) (by have := HN.out; omega); have c2 := A6.out.rs.cell (i := n * 4 + 2) (by have := HN.out; omega); have c3 := A6.out.rs.cell (i := n * 4 + 3) (by have := HN.out; omega)
          have UZ : Hid (UnderP u (S.setR n { r with tm := m }) _ _ w6 (AS.setR (S.setR n { r with tm := m }) n ⟨0, 0, 0, 0⟩) ((((w6.setCell ⟨u.rb, n * 4, none⟩ (.int .i64 0)).setCell ⟨u.rb, n * 4 + 1, none⟩ (.int .i64 0)).setCell ⟨u.rb, n * 4 + 2, none⟩ (.slice none 0 0)).setCell ⟨u.rb, n * 4 + 3, none⟩ (.slice none 0 0))) :=
            UnderP.store4 A6.out HN.out 0 0 (by omega) (fun _ => rfl) (fun _ => rfl) (by omega) (by omega)
          go_upto_region 19 with fail
          generalize (((w6.setCell ⟨u.rb, n * 4, none⟩ (.int .i64 0)).setCell ⟨u.rb, n * 4 + 1, none⟩ (.int .i64 0)).setCell ⟨u.rb, n * 4 + 2, none⟩ (.slice none 0 0)).setCell ⟨u.rb, n * 4 + 3, none⟩ (.slice none 0 0) = w8 at *
          clear f0 f1 f2 f3 c1 c2 c3 p0 lr
          obtain ⟨u8, l8, hA8, ho8, hc8⟩ := UZ.out
          have p0 : w8.cell? ⟨u.rb, n * 4, none⟩ = some (.int .i64 0) := by
            have := hA8.rs.cell (i := n * 4) (by have := HN.out; omega)
            rw [r27V_0, AS.setR_R] at this; exact this
          have lr := hA8.rs.lt
          have UF : Hid (UnderP u S ub lb w (S.setR n G) w8) := by
            have := UnderP.comp O6.out C4.out ⟨u8, l8, hA8, ho8, hc8⟩
            rw [show G = ⟨0, 0, 0, 0⟩ from HGZ.out]
            (rw [S.setR_setR] at this; exact this)
          clear hA8 ho8 hc8 UZ
          go_wp2_with fail
          go_end0
          exact ⟨rfl, UF.out⟩
        case neg =>
          have td : decide ((A.hold : Int) ≤ (m : Int)) = false := decide_eq_false (by omega)
          have HGZ : Hid (G = { r with tm := m }) := by show _ = _; rw [HGW.out, HUP.out, if_neg hhd]
          go_quiet (fail)
          have A6 := Lib.hid (A4.out.below (RG_drewN _ nq))
          have O6 : Hid (Only (Own27 u S ub lb) w (w4.drewN nq)) := O4.out.drewN
          clear a5 la p0 lr c1
          have p0 : (w4.drewN nq).cell? ⟨u.rb, n * 4, none⟩ = some (.int .i64 2) := by
            have := A6.out.rs.cell (i := n * 4) (by have := HN.out; omega)
            rw [r27V_0] at this
            (rw [S.setR_R] at this; rw [show ({ r with tm := m } : RS).ph = 2 from HP.out] at this; exact this)
          have lr := A6.out.rs.lt
          generalize w4.drewN nq = w6 at *
          have HSN : Hid (S.setR n G = (S.setR n { r with tm := m })) := by show _ = _; rw [HGZ.out]; all_goals (rfl)
          have UF : Hid (UnderP u S ub lb w (S.setR n G) w6) := by show UnderP _ _ _ _ _ _ _; rw [HSN.out]; exact ⟨u4, l4, A6.out, O6.out, C4.out⟩
          go_wp2_with fail
          all_goals
            go_end0
            exact ⟨rfl, UF.out⟩
      case neg =>
        have t65 : decide ((r.tm : Int) < 65535) = false := decide_eq_false (by omega)
        have HUP : Hid (upTime r.tm = r.tm) := by show _ = _; unfold upTime; rw [if_neg h65]
        go_upto_region 17 with fail
        clear t65
        by_cases hhd : A.hold ≤ r.tm
        case pos =>
          have td : decide ((A.hold : Int) ≤ (r.tm : Int)) = true := decide_eq_true (by omega)
          have HGZ : Hid (G = ⟨0, 0, 0, 0⟩) := by show _ = _; rw [HGW.out, HUP.out, if_pos hhd]; rfl
          go_quiet (fail)
          have A6 := Lib.hid (A3.out.below (RG_drewN _ nq))
          have O6 : Hid (Only (Own27 u S ub lb) w (w3.drewN nq)) := O3.out.drewN
          clear a5 la p0 lr c1
          have p0 : (w3.drewN nq).cell? ⟨u.rb, n * 4, none⟩ = some (.int .i64 2) := by
            have := A6.out.rs.cell (i := n * 4) (by have := HN.out; omega)
            rw [r27V_0] at this
            (rw [← HRR.out, HP.out] at this; exact this)
          have lr := A6.out.rs.lt
          generalize w3.drewN nq = w6 at *
          have f0 := A6.out.rs.frozen (n * 4); have f1 := A6.out.rs.frozen (n * 4 + 1); have f2 := A6.out.rs.frozen (n * 4 + 2); have f3 := A6.out.rs.frozen (n * 4 + 3)
          have c1 := A6.out.rs.cell (i := n * 4 + 1) (by have := HN.out; omega); have c2 := A6.out.rs.cell (i := n * 4 + 2) (by have := HN.out; omega); have c3 := A6.out.rs.cell (i := n * 4 + 3) (by have := HN.out; omega)
          have UZ : Hid (UnderP u S _ _ w6 (AS.setR S n ⟨0, 0, 0, 0⟩) ((((w6.setCell ⟨u.rb, n * 4, none⟩ (.int .i64 0)).setCell ⟨u.rb, n * 4 + 1, none⟩ (.int .i64 0)).setCell ⟨u.rb, n * 4 + 2, none⟩ (.slice none 0 0)).setCell ⟨u.rb, n * 4 + 3, none⟩ (.slice none 0 0))) :=
            UnderP.store4 A6.out HN.out 0 0 (by omega) (fun _ => rfl) (fun _ => rfl) (by omega) (by omega)
          go_upto_region 19 with fail
          generalize (((w6.setCell ⟨u.rb, n * 4, none⟩ (.int .i64 0)).setCell ⟨u.rb, n * 4 + 1, none⟩ (.int .i64 0)).setCell ⟨u.rb, n * 4 + 2, none⟩ (.slice none 0 0)).setCell ⟨u.rb, n * 4 + 3, none⟩ (.slice none 0 0) = w8 at *
          clear f0 f1 f2 f3 c1 c2 c3 p0 lr
          obtain ⟨u8, l8, hA8, ho8, hc8⟩ := UZ.out
          have p0 : w8.cell? ⟨u.rb, n * 4, none⟩ = some (.int .i64 0) := by
            have := hA8.rs.cell (i := n * 4) (by have := HN.out; omega)
            rw [r27V_0, AS.setR_R] at this; exact this
          have lr := hA8.rs.lt
          have UF : Hid (UnderP u S ub lb w (S.setR n G) w8) := by
            have := UnderP.comp O6.out C3.out ⟨u8, l8, hA8, ho8, hc8⟩
            rw [show G = ⟨0, 0, 0, 0⟩ from HGZ.out]
            (exact this)
          clear hA8 ho8 hc8 UZ
          go_wp2_with fail
          go_end0
          exact ⟨rfl, UF.out⟩
        case neg =>
          have td : decide ((A.hold : Int) ≤ (r.tm : Int)) = false := decide_eq_false (by omega)
          have HGZ : Hid (G = { r with tm := r.tm }) := by show _ = _; rw [HGW.out, HUP.out, if_neg hhd]
          go_quiet (fail)
          have A6 := Lib.hid (A3.out.below (RG_drewN _ nq))
          have O6 : Hid (Only (Own27 u S ub lb) w (w3.drewN nq)) := O3.out.drewN
          clear a5 la p0 lr c1
          have p0 : (w3.drewN nq).cell? ⟨u.rb, n * 4, none⟩ = some (.int .i64 2) := by
            have := A6.out.rs.cell (i := n * 4) (by have := HN.out; omega)
            rw [r27V_0] at this
            (rw [← HRR.out, HP.out] at this; exact this)
          have lr := A6.out.rs.lt
          generalize w3.drewN nq = w6 at *
          have HSN : Hid (S.setR n G = S) := by show _ = _; rw [HGZ.out]; all_goals ((show S.setR n r = S; rw [HRR.out, S.setR_same]))
          have UF : Hid (UnderP u S ub lb w (S.setR n G) w6) := by show UnderP _ _ _ _ _ _ _; rw [HSN.out]; exact ⟨ub, lb, A6.out, O6.out, C3.out⟩
          go_wp2_with fail
          all_goals
            go_end0
            exact ⟨rfl, UF.out⟩
  · have p0' : w3.cell? ⟨u.rb, n * 4, none⟩ = some (.int .i64 3) := p0
    clear p0
    have HGE : Hid (G = trainR f A.tr r) := HG.out.trans (goR_in HP.out)
    have f0 := cell_row (j := 0) KF3.out rfl; have f1 := cell_row (j := 1) KF3.out rfl; have f2 := cell_row (j := 2) KF3.out rfl; have f3 := cell_row (j := 3) KF3.out rfl; have f4 := cell_row (j := 4) KF3.out rfl; have f5 := cell_row (j := 5) KF3.out rfl
    have a1 := cell_row (j := 1) KA3.out rfl
    have lf := heap_lt KF3.out; have la := heap_lt KA3.out
    have HTN := Lib.hid (train_at (f := f) A3.out HF.out HTK.out HN.out (by rw [← HRR.out]; exact HP.out) (.slice (some ⟨tb, tof, none⟩) A.tr.length tc) (by rw [← HA.out]; exact HTR.out))
    go_wp2_with fail
    refine HTN.out.mono ?_
    rintro e w9 ⟨rfl, hU⟩
    have UF : Hid (UnderP u S ub lb w (S.setR n G) w9) := by
      have := UnderP.comp O3.out C3.out hU
      rw [← HA.out] at this
      (rw [← HRR.out, ← HGE.out] at this; exact this)
    clear f0 f1 f2 f3 f4 f5 a1 lf la HTN hU
    go_wp2_with fail
    go_end0
    exact ⟨rfl, UF.out⟩
end Go.Proofs.Ytlfcmedhadfheaa
