/- The document's automaton: under. -/
import Derived.Test.YtnjeiigdfdjccaaRgAD
import Derived.Deep.Cut
import Derived.Test.YtnjeiigdfdjccaaAutP
namespace Go.Proofs.Ytnjeiigdfdjccaa
open Go.RowKit
set_option linter.unusedVariables false
set_option linter.unusedSimpArgs false
theorem R27At.own_lt {w : World} {u : Rf} {S : AS} {ub lb : Nat → Nat} (h : R27At w u S ub lb) {b : Nat} (hb : Own27 u S ub lb b) : b < w.heap.size := by
  rcases hb with rfl | rfl | ⟨n, hn, h3, rfl | rfl⟩
  · exact h.rs.lt
  · exact h.cs.lt
  · exact (h.us n hn h3).1.lt
  · exact (h.us n hn h3).2.lt
theorem R27At.own_ge {w : World} {u : Rf} {S : AS} {ub lb : Nat → Nat} (h : R27At w u S ub lb) {b : Nat} (hb : Own27 u S ub lb b) : u.B ≤ b ∧ b ≠ u.g := by
  rcases hb with rfl | rfl | ⟨n, hn, h3, rfl | rfl⟩
  · exact ⟨h.rB, Ne.symm h.gr⟩
  · exact ⟨h.cB, Ne.symm h.gc⟩
  · exact ⟨(h.du n hn h3).B1, (h.du n hn h3).g1⟩
  · exact ⟨(h.du n hn h3).B2, (h.du n hn h3).g2⟩
theorem UnderP.storeT {w : World} {u : Rf} {S : AS} {ub lb : Nat → Nat} (h : R27At w u S ub lb) {n : Nat} (hn : n < u.T.rts.length) (h2 : (S.R n).ph = 2) (t : Nat) (ht : t < 65536) :
    UnderP u S ub lb w (S.setR n { S.R n with tm := t }) (w.setCell ⟨u.rb, n * 4 + 1, none⟩ (.int .i64 (t : Int))) := by
  have hrow := h.rs.set (i := n * 4 + 1) (.int .i64 (t : Int))
  have hnf := h.nf n hn
  have h3 : ¬ (S.R n).ph = 3 := by omega
  refine UnderP.upd h hn (b1 := 0) (b2 := 0) ((Only.refl _ w).set _ _ (.inr (.inl rfl))) (r27_row (R := S.R) (ub := ub) (lb := lb) hrow (fun q hq hne => ?_) ?_ ?_ ?_ ?_) ⟨fun e => ?_, fun e => ?_, fun e => hnf.z2 e, fun e => absurd e h3, hnf.us, hnf.rl, hnf.ph, ht⟩ (fun e => absurd e h3) (fun e => absurd e h3)
  · show (if q = n * 4 + 1 then _ else _) = _
    rw [if_neg (by omega)]
  · show (if n * 4 = n * 4 + 1 then _ else _) = _
    rw [if_neg (by omega), r27V_0]
  · show (if n * 4 + 1 = n * 4 + 1 then _ else _) = _
    rw [if_pos rfl]
  · show (if n * 4 + 2 = n * 4 + 1 then _ else _) = if (S.R n).ph = 3 then _ else _
    rw [if_neg (by omega), r27V_2]; unfold ruV; rw [if_neg h3, if_neg h3]
  · show (if n * 4 + 3 = n * 4 + 1 then _ else _) = if (S.R n).ph = 3 then _ else _
    rw [if_neg (by omega), r27V_3]; unfold ruV; rw [if_neg h3, if_neg h3]
  · have e : (S.R n).ph = 0 := e
    omega
  · have e : (S.R n).ph = 1 := e
    omega
theorem UnderP.comp {u : Rf} {S S1 S2 : AS} {ub lb u1 l1 : Nat → Nat} {w w1 w2 : World} (b : Only (Own27 u S ub lb) w w1) (c : ∀ b, Own27 u S1 u1 l1 b → Own27 u S ub lb b ∨ w.heap.size ≤ b) (k : UnderP u S1 u1 l1 w1 S2 w2) : UnderP u S ub lb w S2 w2 := by
  obtain ⟨u2, l2, a2, b2, c2⟩ := k
  refine ⟨u2, l2, a2, ⟨b2.os.trans b.os, b2.tape.trans b.tape, b2.output.trans b.output, Nat.le_trans b.size b2.size, fun i hi hm => ?_⟩, fun x hx => ?_⟩
  · refine (b2.block i (Nat.lt_of_lt_of_le hi b.size) (fun h1 => ?_)).trans (b.block i hi hm)
    rcases c i h1 with h2 | h2
    · exact hm h2
    · omega
  · rcases c2 x hx with h2 | h2
    · exact c x h2
    · exact .inr (Nat.le_trans b.size h2)
theorem goR_enter7 {f : FD} {t : Rt} {n : Nat} {r : RS} (h0 : r.ph ≠ 0) (h3 : r.ph ≠ 3) (hb : bt f.cl (t.tr.getD 0 0) = false) : goR f t n r = trainR f t.tr ⟨3, 0, 0, 0⟩ := by
  have e : goR1 f t n r = ⟨3, 0, 0, 0⟩ := if_pos ⟨h3, hb⟩
  unfold goR
  rw [if_neg h0, e, if_pos rfl]
theorem goR_in7 {f : FD} {t : Rt} {n : Nat} {r : RS} (h3 : r.ph = 3) : goR f t n r = trainR f t.tr r := by
  have e : goR1 f t n r = r := by
    unfold goR1
    rw [if_neg (fun h => h.1 h3), if_neg (by omega), if_neg (by omega)]
  unfold goR
  rw [if_neg (by omega), e, if_pos h3]
theorem goR_back {f : FD} {t : Rt} {n : Nat} {r : RS} (h1 : r.ph = 1) (hb : bt f.cl (t.tr.getD 0 0) = true) (hc : f.ca.testBit n = true) : goR f t n r = if 0 ≤ t.app ∧ bt f.cl t.app = false then ⟨2, 0, 0, 0⟩ else rs0 := by
  have e : goR1 f t n r = if 0 ≤ t.app ∧ bt f.cl t.app = false then ⟨2, 0, 0, 0⟩ else rs0 := by
    unfold goR1
    rw [if_neg (fun h => by rw [hb] at h; exact absurd h.2 (by decide)), if_pos ⟨h1, hc⟩]
  unfold goR
  rw [if_neg (by omega), e]
  split
  · rw [if_neg (by decide)]
  · rw [if_neg (by decide)]
theorem goR_stay {f : FD} {t : Rt} {n : Nat} {r : RS} (h1 : r.ph = 1) (hb : bt f.cl (t.tr.getD 0 0) = true) (hc : f.ca.testBit n = false) : goR f t n r = r := by
  have e : goR1 f t n r = r := by
    unfold goR1
    rw [if_neg (fun h => by rw [hb] at h; exact absurd h.2 (by decide)), if_neg (fun h => by rw [hc] at h; exact absurd h.2 (by decide)), if_neg (by omega)]
  unfold goR
  rw [if_neg (by omega), e, if_neg (by omega)]
theorem goR_wait {f : FD} {t : Rt} {n : Nat} {r : RS} (h2 : r.ph = 2) (hb : bt f.cl (t.tr.getD 0 0) = true) : goR f t n r = if t.hold ≤ upTime r.tm then rs0 else { r with tm := upTime r.tm } := by
  have e : goR1 f t n r = if t.hold ≤ upTime r.tm then rs0 else { r with tm := upTime r.tm } := by
    unfold goR1
    rw [if_neg (fun h => by rw [hb] at h; exact absurd h.2 (by decide)), if_neg (by omega), if_pos h2]
  unfold goR
  rw [if_neg (by omega), e]
  split
  · rw [if_neg (by decide)]
  · rw [if_neg (by show ¬ r.ph = 3; omega)]
set_option maxRecDepth 100000 in
set_option maxHeartbeats 8000000 in
theorem under_any {f : FD} {w : World} {u : Rf} {S : AS} {ub lb : Nat → Nat} (h : R27At w u S ub lb) (hf : f.Ok) (hT : TOk u.T) {n : Nat} (hn : n < u.T.rts.length) :
    Calls Try.prog 53 #[.pointer (some ⟨u.g, 0, none⟩), .int .i64 (n : Int), .agg #[.int .u32 (f.cl : Int), .int .u32 (f.no : Int), .int .u32 (f.re : Int), .int .u32 (f.ak : Int), .int .u32 (f.ca : Int), .int .u32 (f.rq : Int)]] w fun e w' => e = .returned (.tuple #[]) ∧ UnderP u S ub lb w (goS u.T f S n) w' := by
  show Calls _ _ _ _ fun e w' => _ ∧ UnderP u S ub lb w (S.setR n (goR f (u.T.rts.getD n rt0) n (S.R n))) w'
  have H := Lib.hid h; have HF := Lib.hid hf; have HTK := Lib.hid hT; have HN := Lib.hid hn
  have hN16 := hT.n
  obtain ⟨ra, rc, C0, hvr, hrl, hrc, _⟩ := h.tr.at_
  have hrt := h.tr
  rw [hvr] at hrt
  obtain ⟨b, off, C, rfl, hb, hc, hR⟩ := hrt.cells hn
  obtain ⟨A, hA⟩ : ∃ A, A = u.T.rts.getD n rt0 := ⟨_, rfl⟩
  have hap := hT.app n hn; have htl := hT.tl n hn
  have htr0 := hT.tr n hn 0 htl.1
  have hho := hT.hold n hn
  rw [← hA] at hR hap htl htr0 hho ⊢
  obtain ⟨⟨ta, tc, ht, ht1, ht2, _⟩, _⟩ := id hR.tr
  obtain ⟨⟨pa, pc, hp, _⟩, _⟩ := id hR.pts
  obtain ⟨⟨ca, cc, hcn, _⟩, _⟩ := id hR.con
  have x0 := (h.bel.cell hb).trans (hc 0 (by omega)); have x1 := (h.bel.cell hb).trans (hc 1 (by omega)); have x2 := (h.bel.cell hb).trans (hc 2 (by omega)); have x3 := (h.bel.cell hb).trans (hc 3 (by omega)); have x4 := (h.bel.cell hb).trans (hc 4 (by omega)); have x5 := (h.bel.cell hb).trans (hc 5 (by omega))
  rw [Nat.add_zero] at x0
  rw [hR.sig] at x0; rw [ht] at x1; rw [hp] at x2; rw [hR.app] at x3; rw [hcn] at x4; rw [hR.hold] at x5
  have HTR : Hid (IntsAt u.w0 (.slice ta A.tr.length tc) A.tr) := ht ▸ hR.tr
  obtain ⟨tb, tof, rfl, htb, _⟩ := HTR.out.cell htl.1
  obtain ⟨y, hy⟩ := Int.eq_ofNat_of_zero_le htr0.1
  have hy32 : y < 32 := by omega
  have HY := Lib.hid hy
  obtain ⟨w1, hw1⟩ : ∃ w1, w1 = w.alloc (.cells #[.int .u32 (f.cl : Int), .int .u32 (f.no : Int), .int .u32 (f.re : Int), .int .u32 (f.ak : Int), .int .u32 (f.ca : Int), .int .u32 (f.rq : Int)] 85) := ⟨_, rfl⟩
  have B1 : Hid (Below w.heap.size w w1) := by rw [hw1]; exact tb_alloc_below _ _
  have K1 : Hid (w1.heap[w.heap.size]? = some (.cells #[.int .u32 (f.cl : Int), .int .u32 (f.no : Int), .int .u32 (f.re : Int), .int .u32 (f.ak : Int), .int .u32 (f.ca : Int), .int .u32 (f.rq : Int)] 85 (0, 0))) := by rw [hw1]; exact heap_alloc_new _ _
  obtain ⟨w2, hw2⟩ : ∃ w2, w2 = w1.alloc (.cells #[.int .i64 A.sig, .slice (some ⟨tb, tof, none⟩) A.tr.length tc, .slice pa A.pts.length pc, .int .i64 A.app, .slice ca A.con.length cc, .int .u16 (A.hold : Int)] 41) := ⟨_, rfl⟩
  have B12 : Hid (Below w1.heap.size w1 w2) := by rw [hw2]; exact tb_alloc_below _ _
  have KA2 : Hid (w2.heap[w1.heap.size]? = some (.cells #[.int .i64 A.sig, .slice (some ⟨tb, tof, none⟩) A.tr.length tc, .slice pa A.pts.length pc, .int .i64 A.app, .slice ca A.con.length cc, .int .u16 (A.hold : Int)] 41 (0, 0))) := by rw [hw2]; exact heap_alloc_new _ _
  have KF2 := Lib.hid (tb_kept K1.out B12.out)
  have BW2 : Hid (Below w.heap.size w w2) := B1.out.trans (B12.out.mono B1.out.size)
  have A2 : Hid (R27At w2 u S ub lb) := h.below BW2.out
  have HW1 := Lib.hid hw1; have HW2 := Lib.hid hw2
  have x0 := (B1.out.cell (Nat.lt_of_lt_of_le hb h.bel.size)).trans x0; have x1 := (B1.out.cell (Nat.lt_of_lt_of_le hb h.bel.size)).trans x1; have x2 := (B1.out.cell (Nat.lt_of_lt_of_le hb h.bel.size)).trans x2; have x3 := (B1.out.cell (Nat.lt_of_lt_of_le hb h.bel.size)).trans x3; have x4 := (B1.out.cell (Nat.lt_of_lt_of_le hb h.bel.size)).trans x4; have x5 := (B1.out.cell (Nat.lt_of_lt_of_le hb h.bel.size)).trans x5
  have lr : b < w1.heap.size := Nat.lt_of_lt_of_le hb (Nat.le_trans h.bel.size B1.out.size)
  have HOW : Hid (∀ b, Own27 u S ub lb b → b < w.heap.size) := fun b hb => h.own_lt hb
  have HZ : Hid (w.heap.size ≤ w1.heap.size) := B1.out.size
  have HK1 := tb_kept h.obj B1.out
  rw [hvr] at HK1
  have g3 := cell_row (j := 3) HK1 rfl; have g4 := cell_row (j := 4) HK1 rfl
  have lg := heap_lt HK1
  obtain ⟨r, hr⟩ : ∃ r, r = S.R n := ⟨_, rfl⟩
  have HRR := Lib.hid hr
  rw [← hr]
  have hnf := h.nf n hn
  rw [← hA, ← hr] at hnf
  have HNF := Lib.hid hnf
  have hph4 := hnf.ph; have htm6 := hnf.tm
  unfold maxLen at ht2 hrc
  obtain ⟨fb, hfb⟩ : ∃ b, b = w.heap.size := ⟨_, rfl⟩
  obtain ⟨ab, hab⟩ : ∃ b, b = w1.heap.size := ⟨_, rfl⟩
  have HFB := Lib.hid hfb; have HAB := Lib.hid hab; have HA := Lib.hid hA
  rw [← hfb] at KF2
  rw [← hab] at KA2
  obtain ⟨G, hG⟩ : ∃ G, G = goR f A n r := ⟨_, rfl⟩
  have HG := Lib.hid hG
  rw [← hG]
  clear hw1 hw2 hfb hab h hf hT hrt hc hR hb htb ht hp hcn hr hnf HK1 hvr K1 B1 B12 hA hG htr0 hy
  go_enter Try.func53, Try.ntmps53
  go_upto_region 1 with fail
  rw [← HW1.out, ← HFB.out]
  go_upto_region 3 with fail
  rw [← HW2.out, ← HAB.out]
  clear x0 x1 x2 x3 x4 x5 lr g3 g4 lg HW1 HW2
  have f0 := cell_row (j := 0) KF2.out rfl; have a1 := cell_row (j := 1) KA2.out rfl
  have lf := heap_lt KF2.out; have la := heap_lt KA2.out
  obtain ⟨_, _, e, htb2, z0⟩ := (HTR.out.below A2.out.bel).cell (i := 0) htl.1
  cases e
  rw [HY.out, Nat.add_zero] at z0
  have HC := Lib.hid (ron_q f.cl y w2 HF.out.cl hy32)
  generalize hh : f.cl.testBit y = h at *
  have HH : Hid (bt f.cl (A.tr.getD 0 0) = h) := by show _ = _; rw [HY.out]; exact hh
  clear hh
  go_quiet ((go_at_call 72; (with_reducible exact HC.out _)))
  have BQ := RG_drewN w2 nq
  have KF3 := Lib.hid (tb_kept KF2.out BQ); have KA3 := Lib.hid (tb_kept KA2.out BQ)
  have A3 := Lib.hid (A2.out.below BQ)
  have BW3 : Hid (Below w.heap.size w (w2.drewN nq)) := BW2.out.trans (BQ.mono BW2.out.size)
  generalize w2.drewN nq = w3 at *
  clear f0 a1 lf la z0 htb2 HC BQ A2 KF2 KA2 BW2
  have O3 : Hid (Only (Own27 u S ub lb) w w3) := Only.of_below _ BW3.out
  have C3 : Hid (∀ b, Own27 u S ub lb b → Own27 u S ub lb b ∨ w.heap.size ≤ b) := fun b hb => .inl hb
  have HNO : Hid (∀ b, Own27 u S ub lb b → b ≠ fb ∧ b ≠ ab) := fun b hb => by have := HOW.out b hb; have := HFB.out; have := HAB.out; have := HZ.out; exact ⟨by omega, by omega⟩
  have p0 : w3.cell? ⟨u.rb, n * 4, none⟩ = some (.int .i64 (r.ph : Int)) := by
    have := A3.out.rs.cell (i := n * 4) (by omega)
    rw [r27V_0, ← HRR.out] at this; exact this
  have lr := A3.out.rs.lt
  obtain ⟨p, hp⟩ : ∃ p, p = r.ph := ⟨_, rfl⟩
  have HP : Hid (r.ph = p) := hp.symm
  rw [← hp] at p0 hph4
  clear hp
  rcases (show p = 0 ∨ p = 1 ∨ p = 2 ∨ p = 3 by omega) with rfl | rfl | rfl | rfl
  · have p0' : w3.cell? ⟨u.rb, n * 4, none⟩ = some (.int .i64 0) := p0
    clear p0
    have HS : Hid (S.setR n G = S) := by show _ = _; rw [HG.out, show goR f A n r = r from if_pos HP.out, HRR.out, S.setR_same]
    go_wp2_with fail
    go_end0
    exact ⟨rfl, by rw [HS.out]; exact ⟨ub, lb, A3.out, O3.out, C3.out⟩⟩
  · have p0' : w3.cell? ⟨u.rb, n * 4, none⟩ = some (.int .i64 1) := p0
    clear p0
    have p0 := p0'
    clear p0'
    cases h
    case false =>
      have a1 := cell_row (j := 1) KA3.out rfl
      have la := heap_lt KA3.out
      have HEN := Lib.hid (enter_at A3.out HN.out (by rw [← HRR.out, HP.out]; omega) (by rw [← HA.out]; omega))
      rw [← HA.out] at HEN
      have HGE : Hid (G = trainR f A.tr ⟨3, 0, 0, 0⟩) := HG.out.trans (goR_enter7 (by rw [HP.out]; omega) (by rw [HP.out]; omega) HH.out)
      go_wp2_with fail
      refine HEN.out.mono ?_
      rintro e w4 ⟨rfl, u1, l1, hA4, ho4, hc4⟩
      have A4 := Lib.hid hA4
      have O4 : Hid (Only (Own27 u S ub lb) w w4) := O3.out.trans ho4
      have C4 : Hid (∀ b, Own27 u (S.setR n ⟨3, 0, 0, 0⟩) u1 l1 b → Own27 u S ub lb b ∨ w.heap.size ≤ b) := fun b hb => (hc4 b hb).imp id (fun h => Nat.le_trans BW3.out.size h)
      have KF4 : Hid (w4.heap[fb]? = _) := (ho4.block _ (heap_lt KF3.out) (fun h => (HNO.out _ h).1 rfl)).trans KF3.out
      have KA4 : Hid (w4.heap[ab]? = _) := (ho4.block _ (heap_lt KA3.out) (fun h => (HNO.out _ h).2 rfl)).trans KA3.out
      clear hA4 ho4 hc4 p0 lr a1 la HEN
      have p0 : w4.cell? ⟨u.rb, n * 4, none⟩ = some (.int .i64 3) := by
        have := A4.out.rs.cell (i := n * 4) (by have := HN.out; omega)
        rw [r27V_0, S.setR_R] at this; exact this
      have lr := A4.out.rs.lt
      have f0 := cell_row (j := 0) KF4.out rfl; have f1 := cell_row (j := 1) KF4.out rfl; have f2 := cell_row (j := 2) KF4.out rfl; have f3 := cell_row (j := 3) KF4.out rfl; have f4 := cell_row (j := 4) KF4.out rfl; have f5 := cell_row (j := 5) KF4.out rfl
      have a1 := cell_row (j := 1) KA4.out rfl
      have lf := heap_lt KF4.out; have la := heap_lt KA4.out
      have HTN := Lib.hid (train_at (f := f) A4.out HF.out HTK.out HN.out (by rw [S.setR_R]) (.slice (some ⟨tb, tof, none⟩) A.tr.length tc) (by rw [← HA.out]; exact HTR.out))
      go_wp2_with fail
      refine HTN.out.mono ?_
      rintro e w9 ⟨rfl, hU⟩
      have UF : Hid (UnderP u S ub lb w (S.setR n G) w9) := by
        have := UnderP.comp O4.out C4.out hU
        rw [← HA.out] at this
        (rw [S.setR_R, S.setR_setR, ← HGE.out] at this; exact this)
      clear f0 f1 f2 f3 f4 f5 a1 lf la HTN hU
      go_wp2_with fail
      go_end0
      exact ⟨rfl, UF.out⟩
    case true =>
      have f4 := cell_row (j := 4) KF3.out rfl; have f0' := cell_row (j := 0) KF3.out rfl
      have a3 := cell_row (j := 3) KA3.out rfl
      have lf := heap_lt KF3.out; have la := heap_lt KA3.out
      have HCA := Lib.hid (ron_any f.ca n w3 HF.out.ca (by omega))
      generalize hca : f.ca.testBit n = ca at *
      have HCE := Lib.hid hca
      clear hca
      go_wp2_with fail
      refine HCA.out.mono ?_
      rintro e v3 ⟨rfl, rfl⟩
      clear HCA
      cases ca
      case false =>
        have HS : Hid (S.setR n G = S) := by show _ = _; rw [HG.out, goR_stay HP.out HH.out HCE.out, HRR.out, S.setR_same]
        go_wp2_with fail
        go_end0
        exact ⟨rfl, by rw [HS.out]; exact ⟨ub, lb, A3.out, O3.out, C3.out⟩⟩
      case true =>
        have HGB := Lib.hid (HG.out.trans (goR_back HP.out HH.out HCE.out))
        by_cases hap1 : A.app = -1
        case pos =>
          have ta : (A.app == -1) = true := by simpa using hap1
          have HGZ : Hid (G = ⟨0, 0, 0, 0⟩) := by show _ = _; rw [HGB.out, if_neg (by omega)]; rfl
          clear hap1
          have f0 := A3.out.rs.frozen (n * 4); have f1 := A3.out.rs.frozen (n * 4 + 1); have f2 := A3.out.rs.frozen (n * 4 + 2); have f3 := A3.out.rs.frozen (n * 4 + 3)
          have c1 := A3.out.rs.cell (i := n * 4 + 1) (by have := HN.out; omega); have c2 := A3.out.rs.cell (i := n * 4 + 2) (by have := HN.out; omega); have c3 := A3.out.rs.cell (i := n * 4 + 3) (by have := HN.out; omega)
          have UZ : Hid (UnderP u S _ _ v3 (AS.setR S n ⟨0, 0, 0, 0⟩) ((((v3.setCell ⟨u.rb, n * 4, none⟩ (.int .i64 0)).setCell ⟨u.rb, n * 4 + 1, none⟩ (.int .i64 0)).setCell ⟨u.rb, n * 4 + 2, none⟩ (.slice none 0 0)).setCell ⟨u.rb, n * 4 + 3, none⟩ (.slice none 0 0))) :=
            UnderP.store4 A3.out HN.out 0 0 (by omega) (fun _ => rfl) (fun _ => rfl) (by omega) (by omega)
          go_upto_region 19 with fail
          generalize (((v3.setCell ⟨u.rb, n * 4, none⟩ (.int .i64 0)).setCell ⟨u.rb, n * 4 + 1, none⟩ (.int .i64 0)).setCell ⟨u.rb, n * 4 + 2, none⟩ (.slice none 0 0)).setCell ⟨u.rb, n * 4 + 3, none⟩ (.slice none 0 0) = w8 at *
          clear f0 f1 f2 f3 c1 c2 c3 p0 lr
          obtain ⟨u8, l8, hA8, ho8, hc8⟩ := UZ.out
          have p0 : w8.cell? ⟨u.rb, n * 4, none⟩ = some (.int .i64 0) := by
            have := hA8.rs.cell (i := n * 4) (by have := HN.out; omega)
            rw [r27V_0, AS.setR_R] at this; exact this
          have lr := hA8.rs.lt
          have UF : Hid (UnderP u S ub lb w (S.setR n G) w8) := by
            have := UnderP.comp O3.out C3.out ⟨u8, l8, hA8, ho8, hc8⟩
            rw [show G = ⟨0, 0, 0, 0⟩ from HGZ.out]
            (exact this)
          clear hA8 ho8 hc8 UZ
          go_wp2_with fail
          go_end0
          exact ⟨rfl, UF.out⟩
        case neg =>
          have ta : (A.app == -1) = false := by simpa using hap1
          obtain ⟨q, hq⟩ := Int.eq_ofNat_of_zero_le (show 0 ≤ A.app by omega)
          have hq32 : q < 32 := by omega
          have HQ := Lib.hid hq
          have HCQ := Lib.hid (ron_any f.cl q v3 HF.out.cl hq32)
          rw [hq] at a3 ta
          generalize hcq : f.cl.testBit q = cq at *
          have HCQE : Hid (bt f.cl A.app = cq) := by show _ = _; rw [HQ.out]; exact hcq
          clear hcq hap1 hq
          go_wp2_with fail
          refine HCQ.out.mono ?_
          rintro e v4 ⟨rfl, rfl⟩
          clear HCQ
          cases cq
          case true =>
            have HGZ : Hid (G = ⟨0, 0, 0, 0⟩) := by show _ = _; rw [HGB.out, if_neg (by rw [HCQE.out]; exact fun h => absurd h.2 (by decide))]; rfl
            have f0 := A3.out.rs.frozen (n * 4); have f1 := A3.out.rs.frozen (n * 4 + 1); have f2 := A3.out.rs.frozen (n * 4 + 2); have f3 := A3.out.rs.frozen (n * 4 + 3)
            have c1 := A3.out.rs.cell (i := n * 4 + 1) (by have := HN.out; omega); have c2 := A3.out.rs.cell (i := n * 4 + 2) (by have := HN.out; omega); have c3 := A3.out.rs.cell (i := n * 4 + 3) (by have := HN.out; omega)
            have UZ : Hid (UnderP u S _ _ v4 (AS.setR S n ⟨0, 0, 0, 0⟩) ((((v4.setCell ⟨u.rb, n * 4, none⟩ (.int .i64 0)).setCell ⟨u.rb, n * 4 + 1, none⟩ (.int .i64 0)).setCell ⟨u.rb, n * 4 + 2, none⟩ (.slice none 0 0)).setCell ⟨u.rb, n * 4 + 3, none⟩ (.slice none 0 0))) :=
              UnderP.store4 A3.out HN.out 0 0 (by omega) (fun _ => rfl) (fun _ => rfl) (by omega) (by omega)
            go_upto_region 19 with fail
            generalize (((v4.setCell ⟨u.rb, n * 4, none⟩ (.int .i64 0)).setCell ⟨u.rb, n * 4 + 1, none⟩ (.int .i64 0)).setCell ⟨u.rb, n * 4 + 2, none⟩ (.slice none 0 0)).setCell ⟨u.rb, n * 4 + 3, none⟩ (.slice none 0 0) = w8 at *
            clear f0 f1 f2 f3 c1 c2 c3 p0 lr
            obtain ⟨u8, l8, hA8, ho8, hc8⟩ := UZ.out
            have p0 : w8.cell? ⟨u.rb, n * 4, none⟩ = some (.int .i64 0) := by
              have := hA8.rs.cell (i := n * 4) (by have := HN.out; omega)
              rw [r27V_0, AS.setR_R] at this; exact this
            have lr := hA8.rs.lt
            have UF : Hid (UnderP u S ub lb w (S.setR n G) w8) := by
              have := UnderP.comp O3.out C3.out ⟨u8, l8, hA8, ho8, hc8⟩
              rw [show G = ⟨0, 0, 0, 0⟩ from HGZ.out]
              (exact this)
            clear hA8 ho8 hc8 UZ
            go_wp2_with fail
            go_end0
            exact ⟨rfl, UF.out⟩
          case false =>
            have HGZ : Hid (G = ⟨2, 0, 0, 0⟩) := by show _ = _; rw [HGB.out, if_pos ⟨by rw [HQ.out]; omega, HCQE.out⟩]
            have f0 := A3.out.rs.frozen (n * 4); have f1 := A3.out.rs.frozen (n * 4 + 1); have f2 := A3.out.rs.frozen (n * 4 + 2); have f3 := A3.out.rs.frozen (n * 4 + 3)
            have c1 := A3.out.rs.cell (i := n * 4 + 1) (by have := HN.out; omega); have c2 := A3.out.rs.cell (i := n * 4 + 2) (by have := HN.out; omega); have c3 := A3.out.rs.cell (i := n * 4 + 3) (by have := HN.out; omega)
            have UZ : Hid (UnderP u S _ _ v4 (AS.setR S n ⟨2, 0, 0, 0⟩) ((((v4.setCell ⟨u.rb, n * 4, none⟩ (.int .i64 2)).setCell ⟨u.rb, n * 4 + 1, none⟩ (.int .i64 0)).setCell ⟨u.rb, n * 4 + 2, none⟩ (.slice none 0 0)).setCell ⟨u.rb, n * 4 + 3, none⟩ (.slice none 0 0))) :=
              UnderP.store4 A3.out HN.out 2 0 (by omega) (fun _ => rfl) (fun _ => rfl) (by omega) (by omega)
            go_upto_region 19 with fail
            generalize (((v4.setCell ⟨u.rb, n * 4, none⟩ (.int .i64 2)).setCell ⟨u.rb, n * 4 + 1, none⟩ (.int .i64 0)).setCell ⟨u.rb, n * 4 + 2, none⟩ (.slice none 0 0)).setCell ⟨u.rb, n * 4 + 3, none⟩ (.slice none 0 0) = w8 at *
            clear f0 f1 f2 f3 c1 c2 c3 p0 lr
            obtain ⟨u8, l8, hA8, ho8, hc8⟩ := UZ.out
            have p0 : w8.cell? ⟨u.rb, n * 4, none⟩ = some (.int .i64 2) := by
              have := hA8.rs.cell (i := n * 4) (by have := HN.out; omega)
              rw [r27V_0, AS.setR_R] at this; exact this
            have lr := hA8.rs.lt
            have UF : Hid (UnderP u S ub lb w (S.setR n G) w8) := by
              have := UnderP.comp O3.out C3.out ⟨u8, l8, hA8, ho8, hc8⟩
              rw [show G = ⟨2, 0, 0, 0⟩ from HGZ.out]
              (exact this)
            clear hA8 ho8 hc8 UZ
            go_wp2_with fail
            go_end0
            exact ⟨rfl, UF.out⟩
  · have p0' : w3.cell? ⟨u.rb, n * 4, none⟩ = some (.int .i64 2) := p0
    clear p0
    have p0 := p0'
    clear p0'
    cases h
    case false =>
      have a1 := cell_row (j := 1) KA3.out rfl
      have la := heap_lt KA3.out
      have HEN := Lib.hid (enter_at A3.out HN.out (by rw [← HRR.out, HP.out]; omega) (by rw [← HA.out]; omega))
      rw [← HA.out] at HEN
      have HGE : Hid (G = trainR f A.tr ⟨3, 0, 0, 0⟩) := HG.out.trans (goR_enter7 (by rw [HP.out]; omega) (by rw [HP.out]; omega) HH.out)
      go_wp2_with fail
      refine HEN.out.mono ?_
      rintro e w4 ⟨rfl, u1, l1, hA4, ho4, hc4⟩
      have A4 := Lib.hid hA4
      have O4 : Hid (Only (Own27 u S ub lb) w w4) := O3.out.trans ho4
      have C4 : Hid (∀ b, Own27 u (S.setR n ⟨3, 0, 0, 0⟩) u1 l1 b → Own27 u S ub lb b ∨ w.heap.size ≤ b) := fun b hb => (hc4 b hb).imp id (fun h => Nat.le_trans BW3.out.size h)
      have KF4 : Hid (w4.heap[fb]? = _) := (ho4.block _ (heap_lt KF3.out) (fun h => (HNO.out _ h).1 rfl)).trans KF3.out
      have KA4 : Hid (w4.heap[ab]? = _) := (ho4.block _ (heap_lt KA3.out) (fun h => (HNO.out _ h).2 rfl)).trans KA3.out
      clear hA4 ho4 hc4 p0 lr a1 la HEN
      have p0 : w4.cell? ⟨u.rb, n * 4, none⟩ = some (.int .i64 3) := by
        have := A4.out.rs.cell (i := n * 4) (by have := HN.out; omega)
        rw [r27V_0, S.setR_R] at this; exact this
      have lr := A4.out.rs.lt
      have f0 := cell_row (j := 0) KF4.out rfl; have f1 := cell_row (j := 1) KF4.out rfl; have f2 := cell_row (j := 2) KF4.out rfl; have f3 := cell_row (j := 3) KF4.out rfl; have f4 := cell_row (j := 4) KF4.out rfl; have f5 := cell_row (j := 5) KF4.out rfl
      have a1 := cell_row (j := 1) KA4.out rfl
      have lf := heap_lt KF4.out; have la := heap_lt KA4.out
      have HTN := Lib.hid (train_at (f := f) A4.out HF.out HTK.out HN.out (by rw [S.setR_R]) (.slice (some ⟨tb, tof, none⟩) A.tr.length tc) (by rw [← HA.out]; exact HTR.out))
      go_wp2_with fail
      refine HTN.out.mono ?_
      rintro e w9 ⟨rfl, hU⟩
      have UF : Hid (UnderP u S ub lb w (S.setR n G) w9) := by
        have := UnderP.comp O4.out C4.out hU
        rw [← HA.out] at this
        (rw [S.setR_R, S.setR_setR, ← HGE.out] at this; exact this)
      clear f0 f1 f2 f3 f4 f5 a1 lf la HTN hU
      go_wp2_with fail
      go_end0
      exact ⟨rfl, UF.out⟩
    case true =>
      have a5 := cell_row (j := 5) KA3.out rfl
      have la := heap_lt KA3.out
      have HGW := Lib.hid (HG.out.trans (goR_wait HP.out HH.out))
      have c1 : w3.cell? ⟨u.rb, n * 4 + 1, none⟩ = some (.int .i64 (r.tm : Int)) := by
        have := A3.out.rs.cell (i := n * 4 + 1) (by omega)
        rw [r27V_1, ← HRR.out] at this; exact this
      by_cases h65 : r.tm < 65535
      case pos =>
        have t65 : decide ((r.tm : Int) < 65535) = true := decide_eq_true (by omega)
        obtain ⟨m, hm⟩ : ∃ m, m = r.tm + 1 := ⟨_, rfl⟩
        have hmi : (r.tm : Int) + 1 = (m : Int) := by omega
        have HUP : Hid (upTime r.tm = m) := by show _ = _; unfold upTime; rw [if_pos h65, hm]
        have hm6 : m < 65536 := by omega
        have f1 := A3.out.rs.frozen (n * 4 + 1)
        have UT := Lib.hid (UnderP.storeT A3.out HN.out (by rw [← HRR.out]; exact HP.out) m hm6)
        rw [← HRR.out] at UT
        clear hm
        go_upto_region 17 with fail
        generalize w3.setCell ⟨u.rb, n * 4 + 1, none⟩ (.int .i64 (m : Int)) = w4 at *
        clear f1 c1 t65 p0 lr a5 la
        obtain ⟨u4, l4, hA4, ho4, hc4⟩ := UT.out
        have A4 := Lib.hid hA4
        have O4 : Hid (Only (Own27 u S ub lb) w w4) := O3.out.trans ho4
        have C4 : Hid (∀ b, Own27 u (S.setR n { r with tm := m }) u4 l4 b → Own27 u S ub lb b ∨ w.heap.size ≤ b) := fun b hb => (hc4 b hb).imp id (fun h => Nat.le_trans BW3.out.size h)
        have KA4 : Hid (w4.heap[ab]? = _) := (ho4.block _ (heap_lt KA3.out) (fun h => (HNO.out _ h).2 rfl)).trans KA3.out
        clear hA4 ho4 hc4 UT
        have a5 := cell_row (j := 5) KA4.out rfl
        have la := heap_lt KA4.out
        have c1 : w4.cell? ⟨u.rb, n * 4 + 1, none⟩ = some (.int .i64 (m : Int)) := by
          have := A4.out.rs.cell (i := n * 4 + 1) (by have := HN.out; omega)
          rw [r27V_1, S.setR_R] at this; exact this
        have p0 := A4.out.rs.cell (i := n * 4) (by have := HN.out; omega)
        have lr := A4.out.rs.lt
        by_cases hhd : A.hold ≤ m
        case pos =>
          have td : decide ((A.hold : Int) ≤ (m : Int)) = true := decide_eq_true (by omega)
          have HGZ : Hid (G = ⟨0, 0, 0, 0⟩) := by show _ = _; rw [HGW.out, HUP.out, if_pos hhd]; rfl
          go_quiet (fail)
          have A6 := Lib.hid (A4.out.below (RG_drewN _ nq))
          have O6 : Hid (Only (Own27 u S ub lb) w (w4.drewN nq)) := O4.out.drewN
          clear a5 la p0 lr c1
          have p0 : (w4.drewN nq).cell? ⟨u.rb, n * 4, none⟩ = some (.int .i64 2) := by
            have := A6.out.rs.cell (i := n * 4) (by have := HN.out; omega)
            rw [r27V_0] at this
            (rw [S.setR_R] at this; rw [show ({ r with tm := m } : RS).ph = 2 from HP.out] at this; exact this)
          have lr := A6.out.rs.lt
          generalize w4.drewN nq = w6 at *
          have f0 := A6.out.rs.frozen (n * 4); have f1 := A6.out.rs.frozen (n * 4 + 1); have f2 := A6.out.rs.frozen (n * 4 + 2); have f3 := A6.out.rs.frozen (n * 4 + 3)
          have c1 := A6.out.rs.cell (i := n * 4 + 1) (by have := HN.out; omega); have c2 := A6.out.rs.cell (i := n * 4 + 2) (by have := HN.out; omega); have c3 := A6.out.rs.cell (i := n * 4 + 3) (by have := HN.out; omega)
          have UZ : Hid (UnderP u (S.setR n { r with tm := m }) _ _ w6 (AS.setR (S.setR n { r with tm := m }) n ⟨0, 0, 0, 0⟩) ((((w6.setCell ⟨u.rb, n * 4, none⟩ (.int .i64 0)).setCell ⟨u.rb, n * 4 + 1, none⟩ (.int .i64 0)).setCell ⟨u.rb, n * 4 + 2, none⟩ (.slice none 0 0)).setCell ⟨u.rb, n * 4 + 3, none⟩ (.slice none 0 0))) :=
            UnderP.store4 A6.out HN.out 0 0 (by omega) (fun _ => rfl) (fun _ => rfl) (by omega) (by omega)
          go_upto_region 19 with fail
          generalize (((w6.setCell ⟨u.rb, n * 4, none⟩ (.int .i64 0)).setCell ⟨u.rb, n * 4 + 1, none⟩ (.int .i64 0)).setCell ⟨u.rb, n * 4 + 2, none⟩ (.slice none 0 0)).setCell ⟨u.rb, n * 4 + 3, none⟩ (.slice none 0 0) = w8 at *
          clear f0 f1 f2 f3 c1 c2 c3 p0 lr
          obtain ⟨u8, l8, hA8, ho8, hc8⟩ := UZ.out
          have p0 : w8.cell? ⟨u.rb, n * 4, none⟩ = some (.int .i64 0) := by
            have := hA8.rs.cell (i := n * 4) (by have := HN.out; omega)
            rw [r27V_0, AS.setR_R] at this; exact this
          have lr := hA8.rs.lt
          have UF : Hid (UnderP u S ub lb w (S.setR n G) w8) := by
            have := UnderP.comp O6.out C4.out ⟨u8, l8, hA8, ho8, hc8⟩
            rw [show G = ⟨0, 0, 0, 0⟩ from HGZ.out]
            (rw [S.setR_setR] at this; exact this)
          clear hA8 ho8 hc8 UZ
          go_wp2_with fail
          go_end0
          exact ⟨rfl, UF.out⟩
        case neg =>
          have td : decide ((A.hold : Int) ≤ (m : Int)) = false := decide_eq_false (by omega)
          have HGZ : Hid (G = { r with tm := m }) := by show _ = _; rw [HGW.out, HUP.out, if_neg hhd]
          go_quiet (fail)
          have A6 := Lib.hid (A4.out.below (RG_drewN _ nq))
          have O6 : Hid (Only (Own27 u S ub lb) w (w4.drewN nq)) := O4.out.drewN
          clear a5 la p0 lr c1
          have p0 : (w4.drewN nq).cell? ⟨u.rb, n * 4, none⟩ = some (.int .i64 2) := by
            have := A6.out.rs.cell (i := n * 4) (by have := HN.out; omega)
            rw [r27V_0] at this
            (rw [S.setR_R] at this; rw [show ({ r with tm := m } : RS).ph = 2 from HP.out] at this; exact this)
          have lr := A6.out.rs.lt
          generalize w4.drewN nq = w6 at *
          have HSN : Hid (S.setR n G = (S.setR n { r with tm := m })) := by show _ = _; rw [HGZ.out]; all_goals (rfl)
          have UF : Hid (UnderP u S ub lb w (S.setR n G) w6) := by show UnderP _ _ _ _ _ _ _; rw [HSN.out]; exact ⟨u4, l4, A6.out, O6.out, C4.out⟩
          go_wp2_with fail
          all_goals
            go_end0
            exact ⟨rfl, UF.out⟩
      case neg =>
        have t65 : decide ((r.tm : Int) < 65535) = false := decide_eq_false (by omega)
        have HUP : Hid (upTime r.tm = r.tm) := by show _ = _; unfold upTime; rw [if_neg h65]
        go_upto_region 17 with fail
        clear t65
        by_cases hhd : A.hold ≤ r.tm
        case pos =>
          have td : decide ((A.hold : Int) ≤ (r.tm : Int)) = true := decide_eq_true (by omega)
          have HGZ : Hid (G = ⟨0, 0, 0, 0⟩) := by show _ = _; rw [HGW.out, HUP.out, if_pos hhd]; rfl
          go_quiet (fail)
          have A6 := Lib.hid (A3.out.below (RG_drewN _ nq))
          have O6 : Hid (Only (Own27 u S ub lb) w (w3.drewN nq)) := O3.out.drewN
          clear a5 la p0 lr c1
          have p0 : (w3.drewN nq).cell? ⟨u.rb, n * 4, none⟩ = some (.int .i64 2) := by
            have := A6.out.rs.cell (i := n * 4) (by have := HN.out; omega)
            rw [r27V_0] at this
            (rw [← HRR.out, HP.out] at this; exact this)
          have lr := A6.out.rs.lt
          generalize w3.drewN nq = w6 at *
          have f0 := A6.out.rs.frozen (n * 4); have f1 := A6.out.rs.frozen (n * 4 + 1); have f2 := A6.out.rs.frozen (n * 4 + 2); have f3 := A6.out.rs.frozen (n * 4 + 3)
          have c1 := A6.out.rs.cell (i := n * 4 + 1) (by have := HN.out; omega); have c2 := A6.out.rs.cell (i := n * 4 + 2) (by have := HN.out; omega); have c3 := A6.out.rs.cell (i := n * 4 + 3) (by have := HN.out; omega)
          have UZ : Hid (UnderP u S _ _ w6 (AS.setR S n ⟨0, 0, 0, 0⟩) ((((w6.setCell ⟨u.rb, n * 4, none⟩ (.int .i64 0)).setCell ⟨u.rb, n * 4 + 1, none⟩ (.int .i64 0)).setCell ⟨u.rb, n * 4 + 2, none⟩ (.slice none 0 0)).setCell ⟨u.rb, n * 4 + 3, none⟩ (.slice none 0 0))) :=
            UnderP.store4 A6.out HN.out 0 0 (by omega) (fun _ => rfl) (fun _ => rfl) (by omega) (by omega)
          go_upto_region 19 with fail
          generalize (((w6.setCell ⟨u.rb, n * 4, none⟩ (.int .i64 0)).setCell ⟨u.rb, n * 4 + 1, none⟩ (.int .i64 0)).setCell ⟨u.rb, n * 4 + 2, none⟩ (.slice none 0 0)).setCell ⟨u.rb, n * 4 + 3, none⟩ (.slice none 0 0) = w8 at *
          clear f0 f1 f2 f3 c1 c2 c3 p0 lr
          obtain ⟨u8, l8, hA8, ho8, hc8⟩ := UZ.out
          have p0 : w8.cell? ⟨u.rb, n * 4, none⟩ = some (.int .i64 0) := by
            have := hA8.rs.cell (i := n * 4) (by have := HN.out; omega)
            rw [r27V_0, AS.setR_R] at this; exact this
          have lr := hA8.rs.lt
          have UF : Hid (UnderP u S ub lb w (S.setR n G) w8) := by
            have := UnderP.comp O6.out C3.out ⟨u8, l8, hA8, ho8, hc8⟩
            rw [show G = ⟨0, 0, 0, 0⟩ from HGZ.out]
            (exact this)
          clear hA8 ho8 hc8 UZ
          go_wp2_with fail
          go_end0
          exact ⟨rfl, UF.out⟩
        case neg =>
          have td : decide ((A.hold : Int) ≤ (r.tm : Int)) = false := decide_eq_false (by omega)
          have HGZ : Hid (G = { r with tm := r.tm }) := by show _ = _; rw [HGW.out, HUP.out, if_neg hhd]
          go_quiet (fail)
          have A6 := Lib.hid (A3.out.below (RG_drewN _ nq))
          have O6 : Hid (Only (Own27 u S ub lb) w (w3.drewN nq)) := O3.out.drewN
          clear a5 la p0 lr c1
          have p0 : (w3.drewN nq).cell? ⟨u.rb, n * 4, none⟩ = some (.int .i64 2) := by
            have := A6.out.rs.cell (i := n * 4) (by have := HN.out; omega)
            rw [r27V_0] at this
            (rw [← HRR.out, HP.out] at this; exact this)
          have lr := A6.out.rs.lt
          generalize w3.drewN nq = w6 at *
          have HSN : Hid (S.setR n G = S) := by show _ = _; rw [HGZ.out]; all_goals ((show S.setR n r = S; rw [HRR.out, S.setR_same]))
          have UF : Hid (UnderP u S ub lb w (S.setR n G) w6) := by show UnderP _ _ _ _ _ _ _; rw [HSN.out]; exact ⟨ub, lb, A6.out, O6.out, C3.out⟩
          go_wp2_with fail
          all_goals
            go_end0
            exact ⟨rfl, UF.out⟩
  · have p0' : w3.cell? ⟨u.rb, n * 4, none⟩ = some (.int .i64 3) := p0
    clear p0
    have HGE : Hid (G = trainR f A.tr r) := HG.out.trans (goR_in7 HP.out)
    have f0 := cell_row (j := 0) KF3.out rfl; have f1 := cell_row (j := 1) KF3.out rfl; have f2 := cell_row (j := 2) KF3.out rfl; have f3 := cell_row (j := 3) KF3.out rfl; have f4 := cell_row (j := 4) KF3.out rfl; have f5 := cell_row (j := 5) KF3.out rfl
    have a1 := cell_row (j := 1) KA3.out rfl
    have lf := heap_lt KF3.out; have la := heap_lt KA3.out
    have HTN := Lib.hid (train_at (f := f) A3.out HF.out HTK.out HN.out (by rw [← HRR.out]; exact HP.out) (.slice (some ⟨tb, tof, none⟩) A.tr.length tc) (by rw [← HA.out]; exact HTR.out))
    go_wp2_with fail
    refine HTN.out.mono ?_
    rintro e w9 ⟨rfl, hU⟩
    have UF : Hid (UnderP u S ub lb w (S.setR n G) w9) := by
      have := UnderP.comp O3.out C3.out hU
      rw [← HA.out] at this
      (rw [← HRR.out, ← HGE.out] at this; exact this)
    clear f0 f1 f2 f3 f4 f5 a1 lf la HTN hU
    go_wp2_with fail
    go_end0
    exact ⟨rfl, UF.out⟩
end Go.Proofs.Ytnjeiigdfdjccaa
/- The document's automaton: asked. -/
namespace Go.Proofs.Ytnjeiigdfdjccaa
open Go.RowKit
set_option linter.unusedVariables false
set_option linter.unusedSimpArgs false
theorem rall_take {α : Type} {l : List α} {m : Nat} {d : α} {p : α → Bool} (h : m < l.length) : (l.take (m + 1)).all p = ((l.take m).all p && p (l.getD m d)) := by
  rw [List.take_succ_eq_append_getElem h, List.all_append, List.getD_eq_getElem?_getD, List.getElem?_eq_getElem h]
  simp
theorem UnderP.setC {w : World} {u : Rf} {S : AS} {ub lb : Nat → Nat} (h : R27At w u S ub lb) (j v : Nat) :
    UnderP u S ub lb w ⟨S.R, fun i => if i = j then v else S.C i⟩ (w.setCell ⟨u.cb, j, none⟩ (.int .i64 (v : Int))) := by
  have ho : Only (fun b => b = u.cb) w (w.setCell ⟨u.cb, j, none⟩ (.int .i64 (v : Int))) := (Only.refl _ w).set _ _ (.inr rfl)
  refine ⟨ub, lb, ⟨(ho.block _ (heap_lt h.obj) h.gc).trans h.obj, h.tp, h.tr, h.bel.trans (ho.below h.bel.size (fun i hi hm => by have := h.cB; have := h.B0; omega)), h.rs.other h.rc _, (h.cs.set (i := j) _).congr (fun i hi => ?_), fun n hn h3 => ?_, h.nf, h.B0, h.gB, h.rB, h.cB, h.gr, h.gc, h.rc, h.du, h.dd⟩, ho.mono (fun i _ hi => .inr (.inl hi)), fun b hb => .inl hb⟩
  · show (if i = j then _ else _) = Value.int .i64 ((if i = j then v else S.C i : Nat) : Int)
    split <;> rfl
  · have a := h.us n hn h3
    have d := h.du n hn h3
    exact ⟨a.1.other d.c1 _, a.2.other d.c2 _⟩
set_option maxRecDepth 100000 in
set_option maxHeartbeats 8000000 in
theorem asked_any {f : FD} {w : World} {u : Rf} {S : AS} {ub lb : Nat → Nat} (h : R27At w u S ub lb) (hf : f.Ok) (hT : TOk u.T) {n : Nat} (hn : n < u.T.rts.length) :
    Calls Try.prog 54 #[.pointer (some ⟨u.g, 0, none⟩), .int .i64 (n : Int), .agg #[.int .u32 (f.cl : Int), .int .u32 (f.no : Int), .int .u32 (f.re : Int), .int .u32 (f.ak : Int), .int .u32 (f.ca : Int), .int .u32 (f.rq : Int)]] w fun e w' => e = .returned (.tuple #[]) ∧ UnderP u S ub lb w (askS u.T f S n) w' := by
  have H := Lib.hid h; have HF := Lib.hid hf; have HTK := Lib.hid hT; have HN := Lib.hid hn
  have hN16 := hT.n; have hP12 := hT.p
  obtain ⟨ra, rc, C0, hvr, hrl, hrc, _⟩ := h.tr.at_
  obtain ⟨⟨pta, ptc, hvp, hptl, hptm, _⟩, _⟩ := id h.tp
  have hrt := h.tr
  rw [hvr] at hrt
  have HTP : Hid (IntsAt u.w0 (.slice pta u.T.pts.length ptc) u.T.pts) := hvp ▸ h.tp
  obtain ⟨b, off, C, rfl, hb, hc, hR⟩ := hrt.cells hn
  obtain ⟨A, hA⟩ : ∃ A, A = u.T.rts.getD n rt0 := ⟨_, rfl⟩
  have htl := hT.tl n hn
  have HTRL := Lib.hid (hT.tr n hn); have HPP := Lib.hid (hT.pp n hn); have HCON := Lib.hid (hT.con n hn)
  have hcl := hT.cl n hn; have hpl := hT.pl n hn
  have HPT := Lib.hid hT.pt
  rw [← hA] at hR htl HTRL HPP HCON hcl hpl
  obtain ⟨⟨ta, tc, ht, ht1, ht2, _⟩, _⟩ := id hR.tr
  obtain ⟨⟨pa, pc, hp, hp1, hp2, _⟩, _⟩ := id hR.pts
  obtain ⟨⟨ca, cc, hcn, hc1, hc2, _⟩, _⟩ := id hR.con
  have x0 := (h.bel.cell hb).trans (hc 0 (by omega)); have x1 := (h.bel.cell hb).trans (hc 1 (by omega)); have x2 := (h.bel.cell hb).trans (hc 2 (by omega)); have x3 := (h.bel.cell hb).trans (hc 3 (by omega)); have x4 := (h.bel.cell hb).trans (hc 4 (by omega)); have x5 := (h.bel.cell hb).trans (hc 5 (by omega))
  rw [Nat.add_zero] at x0
  rw [hR.sig] at x0; rw [ht] at x1; rw [hp] at x2; rw [hR.app] at x3; rw [hcn] at x4; rw [hR.hold] at x5
  have HTR : Hid (IntsAt u.w0 (.slice ta A.tr.length tc) A.tr) := ht ▸ hR.tr
  have HPS : Hid (PtsAt u.w0 (.slice pa A.pts.length pc) A.pts) := hp ▸ hR.pts
  have HCN : Hid (IntsAt u.w0 (.slice ca A.con.length cc) A.con) := hcn ▸ hR.con
  obtain ⟨tb, tof, rfl, htb, _⟩ := HTR.out.cell htl.1
  obtain ⟨w1, hw1⟩ : ∃ w1, w1 = w.alloc (.cells #[.int .u32 (f.cl : Int), .int .u32 (f.no : Int), .int .u32 (f.re : Int), .int .u32 (f.ak : Int), .int .u32 (f.ca : Int), .int .u32 (f.rq : Int)] 85) := ⟨_, rfl⟩
  have B1 : Hid (Below w.heap.size w w1) := by rw [hw1]; exact tb_alloc_below _ _
  have K1 : Hid (w1.heap[w.heap.size]? = some (.cells #[.int .u32 (f.cl : Int), .int .u32 (f.no : Int), .int .u32 (f.re : Int), .int .u32 (f.ak : Int), .int .u32 (f.ca : Int), .int .u32 (f.rq : Int)] 85 (0, 0))) := by rw [hw1]; exact heap_alloc_new _ _
  obtain ⟨w2, hw2⟩ : ∃ w2, w2 = w1.alloc (.cells #[.int .i64 A.sig, .slice (some ⟨tb, tof, none⟩) A.tr.length tc, .slice pa A.pts.length pc, .int .i64 A.app, .slice ca A.con.length cc, .int .u16 (A.hold : Int)] 41) := ⟨_, rfl⟩
  have B12 : Hid (Below w1.heap.size w1 w2) := by rw [hw2]; exact tb_alloc_below _ _
  have KA2 : Hid (w2.heap[w1.heap.size]? = some (.cells #[.int .i64 A.sig, .slice (some ⟨tb, tof, none⟩) A.tr.length tc, .slice pa A.pts.length pc, .int .i64 A.app, .slice ca A.con.length cc, .int .u16 (A.hold : Int)] 41 (0, 0))) := by rw [hw2]; exact heap_alloc_new _ _
  have KF2 := Lib.hid (tb_kept K1.out B12.out)
  have BW2 : Hid (Below w.heap.size w w2) := B1.out.trans (B12.out.mono B1.out.size)
  have A2 : Hid (R27At w2 u S ub lb) := h.below BW2.out
  have HW1 := Lib.hid hw1; have HW2 := Lib.hid hw2
  have x0 := (B1.out.cell (Nat.lt_of_lt_of_le hb h.bel.size)).trans x0; have x1 := (B1.out.cell (Nat.lt_of_lt_of_le hb h.bel.size)).trans x1; have x2 := (B1.out.cell (Nat.lt_of_lt_of_le hb h.bel.size)).trans x2; have x3 := (B1.out.cell (Nat.lt_of_lt_of_le hb h.bel.size)).trans x3; have x4 := (B1.out.cell (Nat.lt_of_lt_of_le hb h.bel.size)).trans x4; have x5 := (B1.out.cell (Nat.lt_of_lt_of_le hb h.bel.size)).trans x5
  have lr : b < w1.heap.size := Nat.lt_of_lt_of_le hb (Nat.le_trans h.bel.size B1.out.size)
  have HOW : Hid (∀ b, Own27 u S ub lb b → b < w.heap.size) := fun b hb => h.own_lt hb
  have HZ : Hid (w.heap.size ≤ w1.heap.size) := B1.out.size
  have HK1 := tb_kept h.obj B1.out
  rw [hvr] at HK1
  have g3 := cell_row (j := 3) HK1 rfl
  have lg := heap_lt HK1
  have HVP := Lib.hid hvp; have HVR := Lib.hid hvr
  unfold maxLen at ht2 hp2 hc2 hrc hptm
  obtain ⟨fb, hfb⟩ : ∃ b, b = w.heap.size := ⟨_, rfl⟩
  obtain ⟨ab, hab⟩ : ∃ b, b = w1.heap.size := ⟨_, rfl⟩
  have HFB := Lib.hid hfb; have HAB := Lib.hid hab; have HA := Lib.hid hA
  rw [← hfb] at KF2
  rw [← hab] at KA2
  have HG : Hid (∀ W S' u' l', R27At W u S' u' l' → W.cell? ⟨u.g, 1, none⟩ = some (.slice pta u.T.pts.length ptc) ∧ W.cell? ⟨u.g, 3, none⟩ = some (.slice (some ⟨b, off, none⟩) u.T.rts.length rc) ∧ W.cell? ⟨u.g, 4, none⟩ = some (.slice (some ⟨u.rb, 0, none⟩) u.T.rts.length u.T.rts.length) ∧ W.cell? ⟨u.g, 5, none⟩ = some (.slice (some ⟨u.cb, 0, none⟩) u.T.pts.length u.T.pts.length) ∧ u.g < W.heap.size) := fun W S' u' l' hW =>
    ⟨by rw [← HVP.out]; exact cell_row (j := 1) hW.obj rfl, by rw [← HVR.out]; exact cell_row (j := 3) hW.obj rfl, cell_row (j := 4) hW.obj rfl, cell_row (j := 5) hW.obj rfl, heap_lt hW.obj⟩
  obtain ⟨F0, hF0⟩ : ∃ F, F = ((f.ak.testBit n || f.rq == n + 1) && (S.R n).ph == 0) := ⟨_, rfl⟩
  have HAO : Hid (askOk u.T f S n = (F0 && ((A.con.all fun k => (S.R k.toNat).ph == 0) && ((A.tr.all fun x => bt f.cl x) && (A.pts.all fun p => S.C p.1.toNat == needP p || bt f.cl (u.T.pts.getD p.1.toNat 0)))))) := by show _ = _; rw [hF0, hA]; rfl
  have HF0 := Lib.hid hF0
  clear hw1 hw2 hfb hab h hf hT hrt hc hR hb htb ht hp hcn HK1 hvr hvp K1 B1 B12 hA hF0
  go_enter Try.func54, Try.ntmps54
  go_upto_region 1 with fail
  rw [← HW1.out, ← HFB.out]
  go_upto_region 2 with fail
  rw [← HW2.out, ← HAB.out]
  clear x0 x1 x2 x3 x4 x5 lr g3 lg HW1 HW2
  go_cut [7] from 21 (fun o wx => o = .bool F0 ∧ w2 = wx)
  case first =>
    obtain ⟨-, -, g4, -, lg⟩ := HG.out _ _ _ _ A2.out
    have p0 : w2.cell? ⟨u.rb, n * 4, none⟩ = some (.int .i64 ((S.R n).ph : Int)) := by
      have := A2.out.rs.cell (i := n * 4) (by omega)
      rw [r27V_0] at this; exact this
    have lr := A2.out.rs.lt
    have f3 := cell_row (j := 3) KF2.out rfl; have f5 := cell_row (j := 5) KF2.out rfl
    have lf := heap_lt KF2.out
    have HON := Lib.hid (ron_any f.ak n w2 HF.out.ak (by omega))
    have hrq := HF.out.rq
    have HRQ : Hid (((f.rq : Int) == (n : Int) + 1) = (f.rq == n + 1)) := by
      show _ = _
      rw [Bool.eq_iff_iff, beq_iff_eq, beq_iff_eq]; omega
    generalize f.ak.testBit n = a1 at *
    generalize (f.rq == n + 1) = a2 at *
    have HPH : Hid ((((S.R n).ph : Int) == 0) = ((S.R n).ph == 0)) := by
      show _ = _
      rw [Bool.eq_iff_iff, beq_iff_eq, beq_iff_eq]; omega
    generalize (S.R n).ph = ph at *
    generalize (ph == 0) = a3 at *
    go_wp2_with fail
    refine HON.out.mono ?_
    rintro e w3 ⟨rfl, rfl⟩
    clear HON
    have tp := HPH.out
    have tq := HRQ.out
    cases a1
    case true =>
      cases a3
      case true =>
        go_wp2_with fail
        go_meet
        case rel => exact ⟨congrArg Value.bool HF0.out.symm, rfl⟩
      case false =>
        go_wp2_with fail
        go_meet
        case rel => exact ⟨congrArg Value.bool HF0.out.symm, rfl⟩
    case false =>
      cases a2
      case false =>
        go_wp2_with fail
        go_meet
        case rel => exact ⟨congrArg Value.bool HF0.out.symm, rfl⟩
      case true =>
        cases a3
        case true =>
          go_wp2_with fail
          go_meet
          case rel => exact ⟨congrArg Value.bool HF0.out.symm, rfl⟩
        case false =>
          go_wp2_with fail
          go_meet
          case rel => exact ⟨congrArg Value.bool HF0.out.symm, rfl⟩
  case rest =>
    obtain ⟨rfl, rfl⟩ := hcut
    obtain ⟨P1, hP1⟩ : ∃ P : Int → Bool, P = fun k => (S.R k.toNat).ph == 0 := ⟨_, rfl⟩
    obtain ⟨P3, hP3⟩ : ∃ P : Int × Bool → Bool, P = fun p => S.C p.1.toNat == needP p || bt f.cl (u.T.pts.getD p.1.toNat 0) := ⟨_, rfl⟩
    rw [← hP1, ← hP3] at HAO
    have HP1 := Lib.hid hP1; have HP3 := Lib.hid hP3
    clear hP1 hP3
    go_wp2_with fail
    go_loopw [7, 8] (fun o i wr => ∃ k : Nat, k ≤ A.con.length ∧ o = .bool (F0 && (A.con.take k).all P1) ∧ i = .int .i64 k ∧ Below w2.heap.size w2 wr) (fun _ i _ => A.con.length - (intOf i).toNat)
    case atStart => exact ⟨0, Nat.zero_le _, by simp, rfl, Below.refl _ _⟩
    case round =>
      obtain ⟨k, hk, rfl, rfl, hb⟩ := hrel
      have B3 := Lib.hid hb
      have A3 := Lib.hid (A2.out.below hb)
      have a4 := cell_row (j := 4) (tb_kept KA2.out hb) rfl
      have la := heap_lt (tb_kept KA2.out hb)
      clear hb
      by_cases hlt : k < A.con.length
      case pos =>
        obtain ⟨cb, co, rfl, hcb, x0⟩ := (HCN.out.below A3.out.bel).cell hlt
        have hq0 := HCON.out k hlt
        obtain ⟨q, hq⟩ := Int.eq_ofNat_of_zero_le hq0.1
        have hqn : q < u.T.rts.length := by omega
        rw [hq] at x0
        have HNX : Hid ((F0 && (A.con.take (k + 1)).all P1) = ((F0 && (A.con.take k).all P1) && ((S.R q).ph == 0))) := by
          show _ = _
          rw [rall_take (d := (0 : Int)) hlt, hq, HP1.out, ← Bool.and_assoc]; rfl
        obtain ⟨-, -, g4, -, lg⟩ := HG.out _ _ _ _ A3.out
        have p0 : wr.cell? ⟨u.rb, q * 4, none⟩ = some (.int .i64 ((S.R q).ph : Int)) := by
          have := A3.out.rs.cell (i := q * 4) (by omega)
          rw [r27V_0] at this; exact this
        have lr := A3.out.rs.lt
        have HPH : Hid ((((S.R q).ph : Int) == 0) = ((S.R q).ph == 0)) := by
          show _ = _
          rw [Bool.eq_iff_iff, beq_iff_eq, beq_iff_eq]; omega
        generalize (F0 && (A.con.take k).all P1) = g at *
        generalize hx1 : (F0 && (A.con.take (k + 1)).all P1) = g1 at *
        have HX1 := Lib.hid hx1
        generalize (S.R q).ph = ph at *
        generalize (ph == 0) = e at *
        have tp := HPH.out
        clear hq0 hq hx1
        go_upto_region 6 with fail
        cases g
        case false =>
          go_quiet (fail)
          have B4 : Hid (Below w2.heap.size w2 (wr.drewN nq)) := B3.out.trans ((RG_drewN _ nq).mono B3.out.size)
          generalize wr.drewN nq = w4 at *
          clear a4 la x0 hcb g4 lg p0 lr tp
          go_wp2_with fail
          go_roundw
          case rel => exact ⟨k + 1, by omega, by rw [HX1.out]; exact congrArg Value.bool HNX.out.symm, by go_num, B4.out⟩
          case measure => simp [intOf]; omega
        case true =>
          cases e
          case false =>
            go_quiet (fail)
            have B4 : Hid (Below w2.heap.size w2 (wr.drewN nq)) := B3.out.trans ((RG_drewN _ nq).mono B3.out.size)
            generalize wr.drewN nq = w4 at *
            clear a4 la x0 hcb g4 lg p0 lr tp
            go_wp2_with fail
            go_roundw
            case rel => exact ⟨k + 1, by omega, by rw [HX1.out]; exact congrArg Value.bool HNX.out.symm, by go_num, B4.out⟩
            case measure => simp [intOf]; omega
          case true =>
            go_quiet (fail)
            have B4 : Hid (Below w2.heap.size w2 (wr.drewN nq)) := B3.out.trans ((RG_drewN _ nq).mono B3.out.size)
            generalize wr.drewN nq = w4 at *
            clear a4 la x0 hcb g4 lg p0 lr tp
            go_wp2_with fail
            go_roundw
            case rel => exact ⟨k + 1, by omega, by rw [HX1.out]; exact congrArg Value.bool HNX.out.symm, by go_num, B4.out⟩
            case measure => simp [intOf]; omega
      case neg =>
      obtain rfl : k = A.con.length := by omega
      rw [List.take_length]
      obtain ⟨G1, hG1⟩ : ∃ G, G = (F0 && A.con.all P1) := ⟨_, rfl⟩
      rw [← hG1]
      have HG1 := Lib.hid hG1
      clear hG1
      go_wp2_with fail
      clear a4 la
      go_loopw [7, 9] (fun o i wr => ∃ k : Nat, k ≤ A.tr.length ∧ o = .bool (G1 && (A.tr.take k).all (fun x => bt f.cl x)) ∧ i = .int .i64 k ∧ Below w2.heap.size w2 wr) (fun _ i _ => A.tr.length - (intOf i).toNat)
      case atStart => exact ⟨0, Nat.zero_le _, by simp, rfl, B3.out⟩
      case round =>
        clear B3 A3
        obtain ⟨k, hk, rfl, rfl, hb⟩ := hrel
        have B3 := Lib.hid hb
        have A3 := Lib.hid (A2.out.below hb)
        have a1 := cell_row (j := 1) (tb_kept KA2.out hb) rfl
        have la := heap_lt (tb_kept KA2.out hb)
        have f0 := cell_row (j := 0) (tb_kept KF2.out hb) rfl
        have lf := heap_lt (tb_kept KF2.out hb)
        clear hb
        by_cases hlt : k < A.tr.length
        case pos =>
          obtain ⟨_, _, ee, hcb, x0⟩ := (HTR.out.below A3.out.bel).cell hlt
          cases ee
          have hq0 := HTRL.out k hlt
          obtain ⟨q, hq⟩ := Int.eq_ofNat_of_zero_le hq0.1
          have hq32 : q < 32 := by omega
          rw [hq] at x0
          have HNX : Hid ((G1 && (A.tr.take (k + 1)).all (fun x => bt f.cl x)) = ((G1 && (A.tr.take k).all (fun x => bt f.cl x)) && f.cl.testBit q)) := by
            show _ = _
            rw [rall_take (d := (0 : Int)) hlt, hq, ← Bool.and_assoc]; rfl
          have HC := Lib.hid (ron_q f.cl q wr HF.out.cl hq32)
          generalize (G1 && (A.tr.take k).all (fun x => bt f.cl x)) = g at *
          generalize hx1 : (G1 && (A.tr.take (k + 1)).all (fun x => bt f.cl x)) = g1 at *
          have HX1 := Lib.hid hx1
          generalize f.cl.testBit q = e at *
          clear hq0 hq hx1
          go_upto_region 10 with fail
          cases g
          case false =>
            go_quiet ((go_at_call 72; (with_reducible exact HC.out _)))
            have B4 : Hid (Below w2.heap.size w2 (wr.drewN nq)) := B3.out.trans ((RG_drewN _ nq).mono B3.out.size)
            generalize wr.drewN nq = w4 at *
            clear a1 la x0 hcb f0 lf HC
            go_wp2_with fail
            go_roundw
            case rel => exact ⟨k + 1, by omega, by rw [HX1.out]; exact congrArg Value.bool HNX.out.symm, by go_num, B4.out⟩
            case measure => simp [intOf]; omega
          case true =>
            cases e
            case false =>
              go_quiet ((go_at_call 72; (with_reducible exact HC.out _)))
              have B4 : Hid (Below w2.heap.size w2 (wr.drewN nq)) := B3.out.trans ((RG_drewN _ nq).mono B3.out.size)
              generalize wr.drewN nq = w4 at *
              clear a1 la x0 hcb f0 lf HC
              go_wp2_with fail
              go_roundw
              case rel => exact ⟨k + 1, by omega, by rw [HX1.out]; exact congrArg Value.bool HNX.out.symm, by go_num, B4.out⟩
              case measure => simp [intOf]; omega
            case true =>
              go_quiet ((go_at_call 72; (with_reducible exact HC.out _)))
              have B4 : Hid (Below w2.heap.size w2 (wr.drewN nq)) := B3.out.trans ((RG_drewN _ nq).mono B3.out.size)
              generalize wr.drewN nq = w4 at *
              clear a1 la x0 hcb f0 lf HC
              go_wp2_with fail
              go_roundw
              case rel => exact ⟨k + 1, by omega, by rw [HX1.out]; exact congrArg Value.bool HNX.out.symm, by go_num, B4.out⟩
              case measure => simp [intOf]; omega
        case neg =>
        obtain rfl : k = A.tr.length := by omega
        rw [List.take_length]
        obtain ⟨G2, hG2⟩ : ∃ G, G = (G1 && A.tr.all (fun x => bt f.cl x)) := ⟨_, rfl⟩
        rw [← hG2]
        have HG2 := Lib.hid hG2
        clear hG2
        go_wp2_with fail
        clear a1 la f0 lf
        go_loopw [7, 10, 11] (fun o i _x wr => ∃ k : Nat, k ≤ A.pts.length ∧ o = .bool (G2 && (A.pts.take k).all P3) ∧ i = .int .i64 k ∧ Below w2.heap.size w2 wr) (fun _ i _ _ => A.pts.length - (intOf i).toNat)
        case atStart => exact ⟨0, Nat.zero_le _, by simp, rfl, B3.out⟩
        case round =>
          clear B3 A3
          obtain ⟨k, hk, rfl, rfl, hb⟩ := hrel
          have B3 := Lib.hid hb
          have A3 := Lib.hid (A2.out.below hb)
          have a2 := cell_row (j := 2) (tb_kept KA2.out hb) rfl
          have la := heap_lt (tb_kept KA2.out hb)
          clear hb
          by_cases hlt : k < A.pts.length
          case pos =>
            obtain ⟨pb, po, rfl, hpb, x0, x1⟩ := (HPS.out.below A3.out.bel).cell hlt
            have hpp := HPP.out k hlt
            have HNX : Hid ((G2 && (A.pts.take (k + 1)).all P3) = ((G2 && (A.pts.take k).all P3) && (S.C (A.pts.getD k (0, false)).1.toNat == needP (A.pts.getD k (0, false)) || bt f.cl (u.T.pts.getD (A.pts.getD k (0, false)).1.toNat 0)))) := by
              show _ = _
              rw [rall_take (d := ((0 : Int), false)) hlt, ← Bool.and_assoc, HP3.out]
            generalize hx1 : (G2 && (A.pts.take (k + 1)).all P3) = g1 at *
            have HX1 := Lib.hid hx1
            generalize (G2 && (A.pts.take k).all P3) = g at *
            generalize A.pts.getD k (0, false) = pp at *
            obtain ⟨y, z⟩ := pp
            simp only at x0 x1 hpp HNX
            obtain ⟨q, rfl⟩ := Int.eq_ofNat_of_zero_le hpp.1
            have hqP : q < u.T.pts.length := by omega
            have HNX : Hid (g1 = (g && (S.C q == needP ((q : Int), z) || bt f.cl (u.T.pts.getD q 0)))) := HNX.out
            obtain ⟨ptb, pto, rfl, hptb, y0⟩ := (HTP.out.below A3.out.bel).cell hqP
            have ht0 := HPT.out q hqP
            obtain ⟨t, ht⟩ := Int.eq_ofNat_of_zero_le ht0.1
            have ht32 : t < 32 := by omega
            rw [ht] at y0 HNX
            have HNX : Hid (g1 = (g && (S.C q == needP ((q : Int), z) || f.cl.testBit t))) := HNX.out
            obtain ⟨w5, hw5⟩ : ∃ W, W = wr.alloc (.cells #[.int .i64 (q : Int), .bool z] 107) := ⟨_, rfl⟩
            have B45 : Hid (Below wr.heap.size wr w5) := by rw [hw5]; exact tb_alloc_below _ _
            have KP5 : Hid (w5.heap[wr.heap.size]? = some (.cells #[.int .i64 (q : Int), .bool z] 107 (0, 0))) := by rw [hw5]; exact heap_alloc_new _ _
            have HW5 := Lib.hid hw5
            have y0 := (B45.out.cell hptb).trans y0
            have hptb : ptb < w5.heap.size := Nat.lt_of_lt_of_le hptb B45.out.size
            have A5 := Lib.hid (A3.out.below B45.out)
            have B5 : Hid (Below w2.heap.size w2 w5) := B3.out.trans (B45.out.mono B3.out.size)
            clear hw5 hpp ht0 ht hx1
            go_upto_region 15 with fail
            rw [← HW5.out]
            clear x0 x1 hpb HW5 a2 la
            obtain ⟨xb, hxb⟩ : ∃ ab, ab = wr.heap.size := ⟨_, rfl⟩
            rw [← hxb] at KP5 ⊢
            clear hxb
            obtain ⟨g1c, -, -, g5, lg⟩ := HG.out _ _ _ _ A5.out
            have c0 : w5.cell? ⟨u.cb, q, none⟩ = some (.int .i64 (S.C q : Int)) := A5.out.cs.cell hqP
            have lc := A5.out.cs.lt
            have f0 := cell_row (j := 0) (tb_kept KF2.out B5.out) rfl
            have lf := heap_lt (tb_kept KF2.out B5.out)
            have p0 := cell_row (j := 0) KP5.out rfl; have p1 := cell_row (j := 1) KP5.out rfl
            have lp := heap_lt KP5.out
            have HNE := Lib.hid (fun W => rneed_any ((q : Int), z) W)
            have HON := Lib.hid (fun W => ron_any f.cl t W HF.out.cl ht32)
            have HCQ : Hid (((S.C q : Int) == (needP ((q : Int), z) : Int)) = (S.C q == needP ((q : Int), z))) := by
              show _ = _
              rw [Bool.eq_iff_iff, beq_iff_eq, beq_iff_eq]; omega
            generalize needP ((q : Int), z) = nd at *
            generalize S.C q = cq at *
            generalize f.cl.testBit t = eb at *
            generalize (cq == nd) = b1 at *
            have tc := HCQ.out
            cases g
            case false =>
              go_quiet (fail)
              have B6 : Hid (Below w2.heap.size w2 (w5.drewN nq)) := B5.out.trans ((RG_drewN _ nq).mono B5.out.size)
              generalize w5.drewN nq = w6 at *
              clear y0 hptb g1c g5 lg c0 lc f0 lf p0 p1 lp tc KP5
              go_wp2_with fail
              go_roundw
              case rel => exact ⟨k + 1, by omega, by rw [HX1.out]; exact congrArg Value.bool HNX.out.symm, by go_num, B6.out⟩
              case measure => simp [intOf]; omega
            case true =>
              cases b1
              case true =>
                obtain ⟨U, fU, hUn, hU1, hU2⟩ := class_of (fun V => Below w5.heap.size w5 V) (W := w5.drew) ⟨rfl, rfl, rfl, Nat.le_refl _, fun _ _ => rfl⟩
                have HU1 := Lib.hid hU1; have HU2 := Lib.hid hU2
                clear hU1 hU2
                have hfm : (Try.prog).follows .mixedOrders = true := by kernel_rfl
                obtain ⟨qn, hd1⟩ : ∃ q : Nat, 1 ≤ q := ⟨1, Nat.le_refl _⟩
                have z0 := fun uu => ((HU1.out uu).cell hptb).trans y0
                have z1 := fun uu => ((HU1.out uu).cell lg).trans g1c
                have z2 := fun uu => ((HU1.out uu).cell lg).trans g5
                have z3 := fun uu => ((HU1.out uu).cell lc).trans c0
                have z4 := fun uu => ((HU1.out uu).cell lf).trans f0
                have z5 := fun uu => ((HU1.out uu).cell lp).trans p0
                have z6 := fun uu => ((HU1.out uu).cell lp).trans p1
                have h0_HR : ∀ uu, Calls Try.prog 75 #[.agg #[.int .i64 (q : Int), .bool z]] (fU uu) fun e w' => e = .returned (.int .i64 (nd : Int)) ∧ Below (fU uu).heap.size (fU uu) w' := fun uu => HNE.out (fU uu)
                have HR : Hid (∀ uu, CallsIn Fence.wide (qn - 1) Try.prog 75 #[.agg #[.int .i64 (q : Int), .bool z]] (fU uu) fun e w' => e = .returned (.int .i64 (nd : Int)) ∧ ∃ uu', w' = fU uu') := fun uu => (callsIn_wide.2 (h0_HR uu)).mono (fun e w' ⟨he, hb⟩ => ⟨he, HU2.out _ ((HU1.out uu).trans (hb.mono (HU1.out uu).size))⟩)
                have hf_HR : Fence.wide.fn 75 := trivial
                clear h0_HR
                have h0_HR2 : ∀ uu, Calls Try.prog 72 #[.int .u32 (f.cl : Int), .int .i64 (t : Int)] (fU uu) fun e w' => e = .returned (.bool eb) ∧ Below (fU uu).heap.size (fU uu) w' := fun uu => (HON.out (fU uu)).mono (fun e w' ⟨he, hw⟩ => ⟨he, by rw [hw]; exact Below.refl _ _⟩)
                have HR2 : Hid (∀ uu, CallsIn Fence.wide (qn - 1) Try.prog 72 #[.int .u32 (f.cl : Int), .int .i64 (t : Int)] (fU uu) fun e w' => e = .returned (.bool eb) ∧ ∃ uu', w' = fU uu') := fun uu => (callsIn_wide.2 (h0_HR2 uu)).mono (fun e w' ⟨he, hb⟩ => ⟨he, HU2.out _ ((HU1.out uu).trans (hb.mono (HU1.out uu).size))⟩)
                have hf_HR2 : Fence.wide.fn 72 := trivial
                clear h0_HR2
                clear y0 g1c g5 c0 f0 p0 p1 KP5 hptb lg lc lf lp
                refine (wpIn_wide (n := qn)).1 ?_
                refine wpIn_region_cls fU (by kernel_rfl) hfm (by kernel_rfl) (HU2.out _ ⟨rfl, rfl, rfl, Nat.le_refl _, fun _ _ => rfl⟩) ?_
                repeat (gi_big_quiet_step (first | (gi_at_call 75; (with_reducible exact HR.out _)) | (gi_at_call 72; (with_reducible exact HR2.out _))))
                refine wpQuietIn_nil ?_
                rintro w6 ⟨uu, rfl⟩
                have B6 : Hid (Below w2.heap.size w2 (fU uu)) := B5.out.trans ((HU1.out uu).mono B5.out.size)
                clear z0 z1 z2 z3 z4 z5 z6 HU1 HU2 HR HR2
                generalize fU uu = w6 at *
                clear tc
                go_wp2_with fail
                go_roundw
                case rel => exact ⟨k + 1, by omega, by rw [HX1.out]; exact congrArg Value.bool HNX.out.symm, by go_num, B6.out⟩
                case measure => simp [intOf]; omega
              case false =>
                obtain ⟨U, fU, hUn, hU1, hU2⟩ := class_of (fun V => Below w5.heap.size w5 V) (W := w5.drew) ⟨rfl, rfl, rfl, Nat.le_refl _, fun _ _ => rfl⟩
                have HU1 := Lib.hid hU1; have HU2 := Lib.hid hU2
                clear hU1 hU2
                have hfm : (Try.prog).follows .mixedOrders = true := by kernel_rfl
                obtain ⟨qn, hd1⟩ : ∃ q : Nat, 1 ≤ q := ⟨1, Nat.le_refl _⟩
                have z0 := fun uu => ((HU1.out uu).cell hptb).trans y0
                have z1 := fun uu => ((HU1.out uu).cell lg).trans g1c
                have z2 := fun uu => ((HU1.out uu).cell lg).trans g5
                have z3 := fun uu => ((HU1.out uu).cell lc).trans c0
                have z4 := fun uu => ((HU1.out uu).cell lf).trans f0
                have z5 := fun uu => ((HU1.out uu).cell lp).trans p0
                have z6 := fun uu => ((HU1.out uu).cell lp).trans p1
                have h0_HR : ∀ uu, Calls Try.prog 75 #[.agg #[.int .i64 (q : Int), .bool z]] (fU uu) fun e w' => e = .returned (.int .i64 (nd : Int)) ∧ Below (fU uu).heap.size (fU uu) w' := fun uu => HNE.out (fU uu)
                have HR : Hid (∀ uu, CallsIn Fence.wide (qn - 1) Try.prog 75 #[.agg #[.int .i64 (q : Int), .bool z]] (fU uu) fun e w' => e = .returned (.int .i64 (nd : Int)) ∧ ∃ uu', w' = fU uu') := fun uu => (callsIn_wide.2 (h0_HR uu)).mono (fun e w' ⟨he, hb⟩ => ⟨he, HU2.out _ ((HU1.out uu).trans (hb.mono (HU1.out uu).size))⟩)
                have hf_HR : Fence.wide.fn 75 := trivial
                clear h0_HR
                have h0_HR2 : ∀ uu, Calls Try.prog 72 #[.int .u32 (f.cl : Int), .int .i64 (t : Int)] (fU uu) fun e w' => e = .returned (.bool eb) ∧ Below (fU uu).heap.size (fU uu) w' := fun uu => (HON.out (fU uu)).mono (fun e w' ⟨he, hw⟩ => ⟨he, by rw [hw]; exact Below.refl _ _⟩)
                have HR2 : Hid (∀ uu, CallsIn Fence.wide (qn - 1) Try.prog 72 #[.int .u32 (f.cl : Int), .int .i64 (t : Int)] (fU uu) fun e w' => e = .returned (.bool eb) ∧ ∃ uu', w' = fU uu') := fun uu => (callsIn_wide.2 (h0_HR2 uu)).mono (fun e w' ⟨he, hb⟩ => ⟨he, HU2.out _ ((HU1.out uu).trans (hb.mono (HU1.out uu).size))⟩)
                have hf_HR2 : Fence.wide.fn 72 := trivial
                clear h0_HR2
                clear y0 g1c g5 c0 f0 p0 p1 KP5 hptb lg lc lf lp
                refine (wpIn_wide (n := qn)).1 ?_
                refine wpIn_region_cls fU (by kernel_rfl) hfm (by kernel_rfl) (HU2.out _ ⟨rfl, rfl, rfl, Nat.le_refl _, fun _ _ => rfl⟩) ?_
                repeat (gi_big_quiet_step (first | (gi_at_call 75; (with_reducible exact HR.out _)) | (gi_at_call 72; (with_reducible exact HR2.out _))))
                refine wpQuietIn_nil ?_
                rintro w6 ⟨uu, rfl⟩
                have B6 : Hid (Below w2.heap.size w2 (fU uu)) := B5.out.trans ((HU1.out uu).mono B5.out.size)
                clear z0 z1 z2 z3 z4 z5 z6 HU1 HU2 HR HR2
                generalize fU uu = w6 at *
                clear tc
                go_wp2_with fail
                go_roundw
                case rel => exact ⟨k + 1, by omega, by rw [HX1.out]; exact congrArg Value.bool HNX.out.symm, by go_num, B6.out⟩
                case measure => simp [intOf]; omega
          case neg =>
          obtain rfl : k = A.pts.length := by omega
          rw [List.take_length]
          obtain ⟨ok, hok⟩ : ∃ G, G = (G2 && A.pts.all P3) := ⟨_, rfl⟩
          rw [← hok]
          have HOK : Hid (askOk u.T f S n = ok) := by show _ = _; rw [HAO.out, hok, HG2.out, HG1.out]; simp only [Bool.and_assoc]
          clear hok
          cases ok
          case false =>
            have HS : Hid (askS u.T f S n = S) := by show _ = _; unfold askS; rw [HOK.out]; rfl
            go_wp2_with fail
            refine bodyPost_ret (results_none rfl _ _ _) rfl ?_
            rw [HS.out]
            exact ⟨rfl, ub, lb, A3.out, Only.of_below _ (BW2.out.trans (B3.out.mono BW2.out.size)), fun b hb => .inl hb⟩
          case true =>
            have hph0 : (S.R n).ph = 0 := by
              have := HOK.out
              rw [HAO.out, HF0.out] at this
              simp only [Bool.and_eq_true, beq_iff_eq] at this
              exact this.1.2
            have HR0 : Hid (S.R n = rs0) := (A3.out.nf n HN.out).z0 hph0
            have HSF : Hid (askS u.T f S n = ⟨(S.setR n ⟨1, 0, 0, 0⟩).R, setC S.C A.pts A.pts.length⟩) := by
              show _ = _
              unfold askS
              rw [HOK.out, if_pos rfl, ← HA.out, HR0.out]; rfl
            obtain ⟨-, -, g4, -, lg⟩ := HG.out _ _ _ _ A3.out
            have f0 := A3.out.rs.frozen (n * 4); have f1 := A3.out.rs.frozen (n * 4 + 1); have f2 := A3.out.rs.frozen (n * 4 + 2); have f3 := A3.out.rs.frozen (n * 4 + 3)
            have c0 := A3.out.rs.cell (i := n * 4) (by omega); have c1 := A3.out.rs.cell (i := n * 4 + 1) (by omega); have c2 := A3.out.rs.cell (i := n * 4 + 2) (by omega); have c3 := A3.out.rs.cell (i := n * 4 + 3) (by omega)
            have lr := A3.out.rs.lt
            have UZ : Hid (UnderP u S ub lb wr (S.setR n ⟨1, 0, 0, 0⟩) ((((wr.setCell ⟨u.rb, n * 4, none⟩ (.int .i64 1)).setCell ⟨u.rb, n * 4 + 1, none⟩ (.int .i64 0)).setCell ⟨u.rb, n * 4 + 2, none⟩ (.slice none 0 0)).setCell ⟨u.rb, n * 4 + 3, none⟩ (.slice none 0 0))) :=
              UnderP.store4 A3.out HN.out 1 0 (by omega) (fun _ => rfl) (fun _ => rfl) (by omega) (by omega)
            have KA3 := Lib.hid (tb_kept KA2.out B3.out)
            have BW3 : Hid (Below w.heap.size w wr) := BW2.out.trans (B3.out.mono BW2.out.size)
            clear hph0
            obtain ⟨wz, hwz⟩ : ∃ x : World, x = wr := ⟨_, rfl⟩
            have HZW : Hid (w.heap.size ≤ wz.heap.size ∧ ab < wz.heap.size) := by show _ ∧ _; rw [hwz]; exact ⟨BW3.out.size, heap_lt KA3.out⟩
            go_upto_region 18 with fail
            generalize (((wr.setCell ⟨u.rb, n * 4, none⟩ (.int .i64 1)).setCell ⟨u.rb, n * 4 + 1, none⟩ (.int .i64 0)).setCell ⟨u.rb, n * 4 + 2, none⟩ (.slice none 0 0)).setCell ⟨u.rb, n * 4 + 3, none⟩ (.slice none 0 0) = w4 at *
            clear f0 f1 f2 f3 c0 c1 c2 c3 lr g4 lg a2 la
            obtain ⟨u4, l4, hA4, ho4, hc4⟩ := UZ.out
            rw [← hwz] at hc4
            have Z4 : Hid (wz.heap.size ≤ w4.heap.size) := by show _ ≤ _; rw [hwz]; exact ho4.size
            have A4 := Lib.hid hA4
            have O4 : Hid (Only (Own27 u S ub lb) w w4) := (Only.of_below _ BW3.out).trans ho4
            have C4 : Hid (∀ b, Own27 u (S.setR n ⟨1, 0, 0, 0⟩) u4 l4 b → Own27 u S ub lb b ∨ wz.heap.size ≤ b) := hc4
            have HNO : Hid (∀ b, Own27 u S ub lb b → b ≠ ab) := fun b hb => by have := HOW.out b hb; have := HAB.out; have := HZ.out; omega
            have KA4 : Hid (w4.heap[ab]? = some (.cells #[.int .i64 A.sig, .slice (some ⟨tb, tof, none⟩) A.tr.length tc, .slice pa A.pts.length pc, .int .i64 A.app, .slice ca A.con.length cc, .int .u16 (A.hold : Int)] 41 (0, 0))) := (ho4.block _ (heap_lt KA3.out) (fun h => HNO.out _ h rfl)).trans KA3.out
            clear hA4 ho4 hc4 UZ A3 B3 hwz
            have a2 := cell_row (j := 2) KA4.out rfl
            have la := heap_lt KA4.out
            go_wp2_with fail
            clear a2 la
            go_loopw [12] (fun i wr => ∃ (k : Nat) (u5 l5 : Nat → Nat), k ≤ A.pts.length ∧ i = .int .i64 k ∧ R27At wr u ⟨(S.setR n ⟨1, 0, 0, 0⟩).R, setC S.C A.pts k⟩ u5 l5 ∧ Only (Own27 u S ub lb) w wr ∧ (∀ b, Own27 u ⟨(S.setR n ⟨1, 0, 0, 0⟩).R, setC S.C A.pts k⟩ u5 l5 b → Own27 u S ub lb b ∨ wz.heap.size ≤ b) ∧ wr.heap[ab]? = some (.cells #[.int .i64 A.sig, .slice (some ⟨tb, tof, none⟩) A.tr.length tc, .slice pa A.pts.length pc, .int .i64 A.app, .slice ca A.con.length cc, .int .u16 (A.hold : Int)] 41 (0, 0)) ∧ wz.heap.size ≤ wr.heap.size) (fun i _ => A.pts.length - (intOf i).toNat)
            case atStart => exact ⟨0, u4, l4, Nat.zero_le _, rfl, A4.out, O4.out, C4.out, KA4.out, Z4.out⟩
            case round =>
              clear A4 O4 C4 KA4 Z4
              obtain ⟨k, u5, l5, hk, rfl, hA5, hO5, hC5, hK5, hZ5⟩ := hrel
              have A5 := Lib.hid hA5; have O5 := Lib.hid hO5; have C5 := Lib.hid hC5; have K5 := Lib.hid hK5; have Z5 := Lib.hid hZ5
              clear hA5 hO5 hC5 hK5 hZ5
              have a2 := cell_row (j := 2) K5.out rfl
              have la := heap_lt K5.out
              by_cases hlt : k < A.pts.length
              case pos =>
                obtain ⟨pb, po, rfl, hpb, x0, x1⟩ := (HPS.out.below A5.out.bel).cell hlt
                have hpp := HPP.out k hlt
                have HST : Hid (setC S.C A.pts (k + 1) = fun j => if j = (A.pts.getD k (0, false)).1.toNat then needP (A.pts.getD k (0, false)) else setC S.C A.pts k j) := rfl
                generalize A.pts.getD k (0, false) = pp at *
                obtain ⟨y, z⟩ := pp
                simp only at x0 x1 hpp HST
                obtain ⟨q, rfl⟩ := Int.eq_ofNat_of_zero_le hpp.1
                have hqP : q < u.T.pts.length := by omega
                have HST : Hid (setC S.C A.pts (k + 1) = fun j => if j = q then needP ((q : Int), z) else setC S.C A.pts k j) := HST.out
                obtain ⟨-, -, -, g5, lg⟩ := HG.out _ _ _ _ A5.out
                have HNE := Lib.hid (fun W => rneed_any ((q : Int), z) W)
                generalize needP ((q : Int), z) = nd at *
                clear hpp
                go_upto_region 21 with fail
                obtain ⟨U, fU, hUn, hU1, hU2⟩ := class_of (fun V => Below wr.heap.size wr V) (W := wr.drew) ⟨rfl, rfl, rfl, Nat.le_refl _, fun _ _ => rfl⟩
                have HU1 := Lib.hid hU1; have HU2 := Lib.hid hU2
                clear hU1 hU2
                have hfm : (Try.prog).follows .mixedOrders = true := by kernel_rfl
                obtain ⟨qn, hd1⟩ : ∃ q : Nat, 1 ≤ q := ⟨1, Nat.le_refl _⟩
                have z0 := fun uu => ((HU1.out uu).cell hpb).trans x0
                have z1 := fun uu => ((HU1.out uu).cell hpb).trans x1
                have z2 := fun uu => ((HU1.out uu).cell lg).trans g5
                have z3 := fun uu => ((HU1.out uu).cell la).trans a2
                have h0_HR : ∀ uu, Calls Try.prog 75 #[.agg #[.int .i64 (q : Int), .bool z]] (fU uu) fun e w' => e = .returned (.int .i64 (nd : Int)) ∧ Below (fU uu).heap.size (fU uu) w' := fun uu => HNE.out (fU uu)
                have HR : Hid (∀ uu, CallsIn Fence.wide (qn - 1) Try.prog 75 #[.agg #[.int .i64 (q : Int), .bool z]] (fU uu) fun e w' => e = .returned (.int .i64 (nd : Int)) ∧ ∃ uu', w' = fU uu') := fun uu => (callsIn_wide.2 (h0_HR uu)).mono (fun e w' ⟨he, hb⟩ => ⟨he, HU2.out _ ((HU1.out uu).trans (hb.mono (HU1.out uu).size))⟩)
                have hf_HR : Fence.wide.fn 75 := trivial
                clear h0_HR
                clear x0 x1 g5 a2 hpb lg la
                refine (wpIn_wide (n := qn)).1 ?_
                refine wpIn_region_tail_at 17 fU hfm rfl (by kernel_rfl) (HU2.out _ ⟨rfl, rfl, rfl, Nat.le_refl _, fun _ _ => rfl⟩) ?_
                simp only [List.take_succ_cons, List.take_zero, List.getD_cons_succ, List.getD_cons_zero]
                repeat (gi_big_quiet_step ((gi_at_call 75; (with_reducible exact HR.out _))))
                refine wpQuietIn_nil ?_
                intro uu
                have A6 := Lib.hid (A5.out.below (HU1.out uu))
                have O6 : Hid (Only (Own27 u S ub lb) w (fU uu)) := O5.out.trans (Only.of_below _ (HU1.out uu))
                have Z6 : Hid (wz.heap.size ≤ (fU uu).heap.size) := Nat.le_trans Z5.out (HU1.out uu).size
                have K6 := Lib.hid (tb_kept K5.out (HU1.out uu))
                clear z0 z1 z2 z3 HU1 HU2 HR
                generalize fU uu = w6 at *
                have c0 := A6.out.cs.cell hqP
                have fr := A6.out.cs.frozen q
                have US := Lib.hid (UnderP.setC A6.out q nd)
                unfold Oper.wpIn
                go_simp
                generalize w6.setCell ⟨u.cb, q, none⟩ (.int .i64 (nd : Int)) = w7 at *
                clear c0 fr
                obtain ⟨u7, l7, hA7, ho7, hc7⟩ := US.out
                have A7 := Lib.hid hA7
                have O7 : Hid (Only (Own27 u S ub lb) w w7) := ⟨ho7.os.trans O6.out.os, ho7.tape.trans O6.out.tape, ho7.output.trans O6.out.output, Nat.le_trans O6.out.size ho7.size, fun i hi hm => (ho7.block i (Nat.lt_of_lt_of_le hi O6.out.size) (fun h1 => by
                  rcases C5.out i h1 with h2 | h2
                  · exact hm h2
                  · have := HZW.out.1; omega)).trans (O6.out.block i hi hm)⟩
                have C7 : Hid (∀ b, Own27 u ⟨(S.setR n ⟨1, 0, 0, 0⟩).R, fun i => if i = q then nd else setC S.C A.pts k i⟩ u7 l7 b → Own27 u S ub lb b ∨ wz.heap.size ≤ b) := fun b hb => by
                  rcases hc7 b hb with h | h
                  · exact C5.out b h
                  · exact .inr (Nat.le_trans Z6.out h)
                have K7 := Lib.hid ((ho7.block _ (heap_lt K6.out) (fun h1 => by
                  rcases C5.out _ h1 with h2 | h2
                  · exact HNO.out _ h2 rfl
                  · have := HZW.out.2; omega)).trans K6.out)
                have Z7 : Hid (wz.heap.size ≤ w7.heap.size) := Nat.le_trans Z6.out ho7.size
                rw [← HST.out] at A7 C7
                clear hA7 ho7 hc7 US A6 O6 K6 Z6
                go_wp2_with fail
                go_roundw
                case rel => exact ⟨k + 1, u7, l7, by omega, by go_num, A7.out, O7.out, C7.out, K7.out, Z7.out⟩
                case measure => simp [intOf]; omega
              case neg =>
              obtain rfl : k = A.pts.length := by omega
              go_wp2_with fail
              go_end0
              exact ⟨rfl, by rw [HSF.out]; exact ⟨u5, l5, A5.out, O5.out, fun b hb => (C5.out b hb).imp id (fun h => Nat.le_trans HZW.out.1 h)⟩⟩
end Go.Proofs.Ytnjeiigdfdjccaa
/- The document's automaton: Step. -/
namespace Go.Proofs.Ytnjeiigdfdjccaa
open Go.RowKit
set_option linter.unusedVariables false
set_option linter.unusedSimpArgs false
/-- What lies while the order is reckoned. -/
structure StW (u : Rf) (S S' : AS) (ub lb u' l' : Nat → Nat) (w wr : World) (fb qb ob : Nat) (FV : Array Value) (o : OD) : Prop where
  a : R27At wr u S' u' l'
  on : Only (Own27 u S ub lb) w wr
  f : wr.heap[fb]? = some (.cells FV 85 (0, 0))
  q : wr.heap[qb]? = some (.cells #[.int .u32 0, .int .u32 0, .int .u32 0, .int .u32 0] 35 (0, 0))
  b : wr.heap[ob]? = some (.cells #[.int .u32 (o.pr : Int), .int .u32 (o.no : Int), .int .u32 (o.re : Int), .int .u32 (o.lo : Int)] 35 (0, 0))
structure StA (u : Rf) (S' : AS) (u' l' : Nat → Nat) (w : World) (fb qb ob : Nat) : Prop where
  f : fb ≠ ob
  q : qb ≠ ob
  w : w.heap.size ≤ ob
  z : u.w0.heap.size ≤ ob
  g : u.g ≠ ob
  own : ∀ b, Own27 u S' u' l' b → b ≠ ob
theorem StW.below {u : Rf} {S S' : AS} {ub lb u' l' : Nat → Nat} {w wr wv : World} {fb qb ob : Nat} {FV : Array Value} {o : OD} (h : StW u S S' ub lb u' l' w wr fb qb ob FV o) (hb : Below wr.heap.size wr wv) : StW u S S' ub lb u' l' w wv fb qb ob FV o :=
  ⟨h.a.below hb, h.on.trans (Only.of_below _ hb), tb_kept h.f hb, tb_kept h.q hb, tb_kept h.b hb⟩
theorem StW.set {u : Rf} {S S' : AS} {ub lb u' l' : Nat → Nat} {w wr : World} {fb qb ob : Nat} {FV : Array Value} {o o' : OD} (h : StW u S S' ub lb u' l' w wr fb qb ob FV o) (ha : StA u S' u' l' w fb qb ob) {j : Nat} {v : Value}
    (hv : #[Value.int .u32 (o.pr : Int), .int .u32 (o.no : Int), .int .u32 (o.re : Int), .int .u32 (o.lo : Int)].setIfInBounds j v = #[.int .u32 (o'.pr : Int), .int .u32 (o'.no : Int), .int .u32 (o'.re : Int), .int .u32 (o'.lo : Int)]) : StW u S S' ub lb u' l' w (wr.setCell ⟨ob, j, none⟩ v) fb qb ob FV o' :=
  ⟨h.a.only (M := fun b => b = ob) ((Only.refl _ wr).set _ _ (.inr rfl)) (fun b hb => by rw [hb]; exact ha.z) (fun e => ha.g e) (fun b hb e => ha.own b hb e), h.on.set _ _ (.inl ha.w), (heap_setCell_other _ _ _ _ ha.f).trans h.f, (heap_setCell_other _ _ _ _ ha.q).trans h.q, by rw [← hv]; exact heap_setCell_same _ _ _ _ _ _ h.b⟩
theorem noN_succ (C : Nat → Nat) (k : Nat) (h : C k < 3) : noN C (k + 1) = if C k = 1 then noN C k ||| 2 ^ k else noN C k := by
  show noN C k ||| (C k &&& 1) * 2 ^ k = _
  rcases (show C k = 0 ∨ C k = 1 ∨ C k = 2 by omega) with e | e | e <;> rw [e] <;> simp
theorem reN_succ (C : Nat → Nat) (k : Nat) (h : C k < 3) : reN C (k + 1) = if C k = 2 then reN C k ||| 2 ^ k else reN C k := by
  show reN C k ||| (C k / 2) * 2 ^ k = _
  rcases (show C k = 0 ∨ C k = 1 ∨ C k = 2 by omega) with e | e | e <;> rw [e] <;> simp
set_option maxRecDepth 100000 in
set_option maxHeartbeats 8000000 in
theorem rstep_any {f : FD} {w : World} {u : Rf} {S : AS} {ub lb : Nat → Nat} (h : R27At w u S ub lb) (hf : f.Ok) (hT : TOk u.T) (hS : (stepS u.T f S).Ok) :
    Calls Try.prog 38 #[.pointer (some ⟨u.g, 0, none⟩), .agg #[.int .u32 (f.cl : Int), .int .u32 (f.no : Int), .int .u32 (f.re : Int), .int .u32 (f.ak : Int), .int .u32 (f.ca : Int), .int .u32 (f.rq : Int)]] w fun e w' => e = .returned (orderS u.T f (stepS u.T f S)).val ∧ UnderP u S ub lb w (stepS u.T f S) w' := by
  have H := Lib.hid h; have HF := Lib.hid hf; have HTK := Lib.hid hT; have HSO := Lib.hid hS
  have hN16 := hT.n; have hP12 := hT.p
  obtain ⟨ra, rc, C0, hvr, hrl, hrc, _⟩ := h.tr.at_
  have hrt := h.tr
  rw [hvr] at hrt
  have HRT := Lib.hid hrt
  obtain ⟨w1, hw1⟩ : ∃ w1, w1 = w.alloc (.cells #[.int .u32 (f.cl : Int), .int .u32 (f.no : Int), .int .u32 (f.re : Int), .int .u32 (f.ak : Int), .int .u32 (f.ca : Int), .int .u32 (f.rq : Int)] 85) := ⟨_, rfl⟩
  have B1 : Hid (Below w.heap.size w w1) := by rw [hw1]; exact tb_alloc_below _ _
  have K1 : Hid (w1.heap[w.heap.size]? = some (.cells #[.int .u32 (f.cl : Int), .int .u32 (f.no : Int), .int .u32 (f.re : Int), .int .u32 (f.ak : Int), .int .u32 (f.ca : Int), .int .u32 (f.rq : Int)] 85 (0, 0))) := by rw [hw1]; exact heap_alloc_new _ _
  obtain ⟨w2, hw2⟩ : ∃ w2, w2 = w1.alloc (.cells #[.int .u32 0, .int .u32 0, .int .u32 0, .int .u32 0] 35) := ⟨_, rfl⟩
  have B12 : Hid (Below w1.heap.size w1 w2) := by rw [hw2]; exact tb_alloc_below _ _
  have KQ2 : Hid (w2.heap[w1.heap.size]? = some (.cells #[.int .u32 0, .int .u32 0, .int .u32 0, .int .u32 0] 35 (0, 0))) := by rw [hw2]; exact heap_alloc_new _ _
  have KF2 := Lib.hid (tb_kept K1.out B12.out)
  have BW2 : Hid (Below w.heap.size w w2) := B1.out.trans (B12.out.mono B1.out.size)
  have A2 : Hid (R27At w2 u S ub lb) := h.below BW2.out
  have HW : Hid (w2 = (w.alloc (.cells #[.int .u32 (f.cl : Int), .int .u32 (f.no : Int), .int .u32 (f.re : Int), .int .u32 (f.ak : Int), .int .u32 (f.ca : Int), .int .u32 (f.rq : Int)] 85)).alloc (.cells #[.int .u32 0, .int .u32 0, .int .u32 0, .int .u32 0] 35)) := by show _ = _; rw [hw2, hw1]
  have Z1 : Hid (w1.heap.size = w.heap.size + 1) := by rw [hw1]; exact Array.size_push _
  rw [Z1.out] at KQ2
  have HOW : Hid (∀ b, Own27 u S ub lb b → b < w.heap.size) := fun b hb => h.own_lt hb
  obtain ⟨fb, hfb⟩ : ∃ b, b = w.heap.size := ⟨_, rfl⟩
  obtain ⟨qb, hqb⟩ : ∃ b, b = w.heap.size + 1 := ⟨_, rfl⟩
  have HNUM : Hid (w.heap.size + 1 = qb ∧ w.heap.size = fb) := ⟨hqb.symm, hfb.symm⟩
  rw [← hqb] at KQ2
  rw [← hfb] at KF2
  have HVR := Lib.hid hvr
  unfold maxLen at hrc
  have HG : Hid (∀ W S' u' l', R27At W u S' u' l' → W.cell? ⟨u.g, 3, none⟩ = some (.slice ra u.T.rts.length rc) ∧ W.cell? ⟨u.g, 4, none⟩ = some (.slice (some ⟨u.rb, 0, none⟩) u.T.rts.length u.T.rts.length) ∧ W.cell? ⟨u.g, 5, none⟩ = some (.slice (some ⟨u.cb, 0, none⟩) u.T.pts.length u.T.pts.length) ∧ u.g < W.heap.size) := fun W S' u' l' hW =>
    ⟨by rw [← HVR.out]; exact cell_row (j := 3) hW.obj rfl, cell_row (j := 4) hW.obj rfl, cell_row (j := 5) hW.obj rfl, heap_lt hW.obj⟩
  obtain ⟨SF, hSF⟩ : ∃ SF, SF = stepS u.T f S := ⟨_, rfl⟩
  obtain ⟨O, hO⟩ : ∃ O, O = orderS u.T f SF := ⟨_, rfl⟩
  rw [← hSF] at HSO ⊢
  rw [← hO]
  have HSF : Hid (SF = askK u.T f (goK u.T f S u.T.rts.length) u.T.rts.length) := hSF
  have HO : Hid (O = ⟨prN u.T f SF.R u.T.rts.length, noN SF.C u.T.pts.length, reN SF.C u.T.pts.length, loN SF.R u.T.rts.length⟩) := hO
  clear hw1 hw2 hfb hqb h hf hT hS hrt hvr K1 B1 B12 Z1 hSF hO
  go_enter Try.func38, Try.ntmps38
  go_upto_region 1 with fail
  rw [← HW.out, HNUM.out.1, HNUM.out.2]
  clear HW
  have HSZ : Hid (w.heap.size ≤ w2.heap.size ∧ fb < w2.heap.size ∧ qb < w2.heap.size ∧ w.heap.size ≤ fb ∧ w.heap.size ≤ qb) := ⟨BW2.out.size, heap_lt KF2.out, heap_lt KQ2.out, by have := HNUM.out; omega, by have := HNUM.out; omega⟩
  go_wp2_with fail
  go_loopw [5] (fun i wr => ∃ (k : Nat) (u5 l5 : Nat → Nat), k ≤ u.T.rts.length ∧ i = .int .i64 k ∧ R27At wr u (goK u.T f S k) u5 l5 ∧ Only (Own27 u S ub lb) w wr ∧ (∀ b, Own27 u (goK u.T f S k) u5 l5 b → Own27 u S ub lb b ∨ w2.heap.size ≤ b) ∧ wr.heap[fb]? = some (.cells #[.int .u32 (f.cl : Int), .int .u32 (f.no : Int), .int .u32 (f.re : Int), .int .u32 (f.ak : Int), .int .u32 (f.ca : Int), .int .u32 (f.rq : Int)] 85 (0, 0)) ∧ wr.heap[qb]? = some (.cells #[.int .u32 0, .int .u32 0, .int .u32 0, .int .u32 0] 35 (0, 0)) ∧ w2.heap.size ≤ wr.heap.size) (fun i _ => u.T.rts.length - (intOf i).toNat)
  case atStart => exact ⟨0, ub, lb, Nat.zero_le _, rfl, A2.out, Only.of_below _ BW2.out, fun b hb => .inl hb, KF2.out, KQ2.out, Nat.le_refl _⟩
  case round =>
    clear A2 KF2 KQ2
    obtain ⟨k, u5, l5, hk, rfl, hA5, hO5, hC5, hF5, hQ5, hZ5⟩ := hrel
    have A5 := Lib.hid hA5; have O5 := Lib.hid hO5; have C5 := Lib.hid hC5; have F5 := Lib.hid hF5; have Q5 := Lib.hid hQ5; have Z5 := Lib.hid hZ5
    clear hA5 hO5 hC5 hF5 hQ5 hZ5
    obtain ⟨-, g4, -, lg⟩ := HG.out _ _ _ _ A5.out
    by_cases hlt : k < u.T.rts.length
    case pos =>
      have HUN := Lib.hid (under_any A5.out HF.out HTK.out hlt)
      have f0 := cell_row (j := 0) F5.out rfl; have f1 := cell_row (j := 1) F5.out rfl; have f2 := cell_row (j := 2) F5.out rfl; have f3 := cell_row (j := 3) F5.out rfl; have f4 := cell_row (j := 4) F5.out rfl; have f5 := cell_row (j := 5) F5.out rfl
      have lf := heap_lt F5.out
      go_wp2_with fail
      refine HUN.out.mono ?_
      rintro e w6 ⟨rfl, u6, l6, hA6, ho6, hc6⟩
      have A6 := Lib.hid hA6
      have O6 : Hid (Only (Own27 u S ub lb) w w6) := ⟨ho6.os.trans O5.out.os, ho6.tape.trans O5.out.tape, ho6.output.trans O5.out.output, Nat.le_trans O5.out.size ho6.size, fun i hi hm => (ho6.block i (Nat.lt_of_lt_of_le hi O5.out.size) (fun h1 => by
        rcases C5.out i h1 with h2 | h2
        · exact hm h2
        · have := HSZ.out.1; omega)).trans (O5.out.block i hi hm)⟩
      have C6 : Hid (∀ b, Own27 u _ u6 l6 b → Own27 u S ub lb b ∨ w2.heap.size ≤ b) := fun b hb => by
        rcases hc6 b hb with h | h
        · exact C5.out b h
        · exact .inr (Nat.le_trans Z5.out h)
      have noF : ∀ b, b < w2.heap.size → w.heap.size ≤ b → ¬ Own27 u _ u5 l5 b := fun b h1 h2 h3 => by
        rcases C5.out b h3 with h | h
        · have := HOW.out b h; omega
        · omega
      have F6 : Hid (w6.heap[fb]? = some (.cells #[.int .u32 (f.cl : Int), .int .u32 (f.no : Int), .int .u32 (f.re : Int), .int .u32 (f.ak : Int), .int .u32 (f.ca : Int), .int .u32 (f.rq : Int)] 85 (0, 0))) := (ho6.block _ (heap_lt F5.out) (noF _ HSZ.out.2.1 HSZ.out.2.2.2.1)).trans F5.out
      have Q6 : Hid (w6.heap[qb]? = some (.cells #[.int .u32 0, .int .u32 0, .int .u32 0, .int .u32 0] 35 (0, 0))) := (ho6.block _ (heap_lt Q5.out) (noF _ HSZ.out.2.2.1 HSZ.out.2.2.2.2)).trans Q5.out
      have Z6 : Hid (w2.heap.size ≤ w6.heap.size) := Nat.le_trans Z5.out ho6.size
      clear hA6 ho6 hc6 noF f0 f1 f2 f3 f4 f5 lf g4 lg HUN
      go_wp2_with fail
      go_roundw
      case rel => exact ⟨k + 1, u6, l6, by omega, by go_num, A6.out, O6.out, C6.out, F6.out, Q6.out, Z6.out⟩
      case measure => simp [intOf]; omega
    case neg =>
    obtain rfl : k = u.T.rts.length := by omega
    go_wp2_with fail
    clear g4 lg
    go_loopw [6] (fun i wr => ∃ (k : Nat) (u5 l5 : Nat → Nat), k ≤ u.T.rts.length ∧ i = .int .i64 k ∧ R27At wr u (askK u.T f (goK u.T f S u.T.rts.length) k) u5 l5 ∧ Only (Own27 u S ub lb) w wr ∧ (∀ b, Own27 u (askK u.T f (goK u.T f S u.T.rts.length) k) u5 l5 b → Own27 u S ub lb b ∨ w2.heap.size ≤ b) ∧ wr.heap[fb]? = some (.cells #[.int .u32 (f.cl : Int), .int .u32 (f.no : Int), .int .u32 (f.re : Int), .int .u32 (f.ak : Int), .int .u32 (f.ca : Int), .int .u32 (f.rq : Int)] 85 (0, 0)) ∧ wr.heap[qb]? = some (.cells #[.int .u32 0, .int .u32 0, .int .u32 0, .int .u32 0] 35 (0, 0)) ∧ w2.heap.size ≤ wr.heap.size) (fun i _ => u.T.rts.length - (intOf i).toNat)
    case atStart => exact ⟨0, u5, l5, Nat.zero_le _, rfl, A5.out, O5.out, C5.out, F5.out, Q5.out, Z5.out⟩
    case round =>
      clear A5 O5 C5 F5 Q5 Z5
      obtain ⟨k, u5, l5, hk, rfl, hA5, hO5, hC5, hF5, hQ5, hZ5⟩ := hrel
      have A5 := Lib.hid hA5; have O5 := Lib.hid hO5; have C5 := Lib.hid hC5; have F5 := Lib.hid hF5; have Q5 := Lib.hid hQ5; have Z5 := Lib.hid hZ5
      clear hA5 hO5 hC5 hF5 hQ5 hZ5
      obtain ⟨-, g4, -, lg⟩ := HG.out _ _ _ _ A5.out
      by_cases hlt : k < u.T.rts.length
      case pos =>
        have HUN := Lib.hid (asked_any A5.out HF.out HTK.out hlt)
        have f0 := cell_row (j := 0) F5.out rfl; have f1 := cell_row (j := 1) F5.out rfl; have f2 := cell_row (j := 2) F5.out rfl; have f3 := cell_row (j := 3) F5.out rfl; have f4 := cell_row (j := 4) F5.out rfl; have f5 := cell_row (j := 5) F5.out rfl
        have lf := heap_lt F5.out
        go_wp2_with fail
        refine HUN.out.mono ?_
        rintro e w6 ⟨rfl, u6, l6, hA6, ho6, hc6⟩
        have A6 := Lib.hid hA6
        have O6 : Hid (Only (Own27 u S ub lb) w w6) := ⟨ho6.os.trans O5.out.os, ho6.tape.trans O5.out.tape, ho6.output.trans O5.out.output, Nat.le_trans O5.out.size ho6.size, fun i hi hm => (ho6.block i (Nat.lt_of_lt_of_le hi O5.out.size) (fun h1 => by
          rcases C5.out i h1 with h2 | h2
          · exact hm h2
          · have := HSZ.out.1; omega)).trans (O5.out.block i hi hm)⟩
        have C6 : Hid (∀ b, Own27 u _ u6 l6 b → Own27 u S ub lb b ∨ w2.heap.size ≤ b) := fun b hb => by
          rcases hc6 b hb with h | h
          · exact C5.out b h
          · exact .inr (Nat.le_trans Z5.out h)
        have noF : ∀ b, b < w2.heap.size → w.heap.size ≤ b → ¬ Own27 u _ u5 l5 b := fun b h1 h2 h3 => by
          rcases C5.out b h3 with h | h
          · have := HOW.out b h; omega
          · omega
        have F6 : Hid (w6.heap[fb]? = some (.cells #[.int .u32 (f.cl : Int), .int .u32 (f.no : Int), .int .u32 (f.re : Int), .int .u32 (f.ak : Int), .int .u32 (f.ca : Int), .int .u32 (f.rq : Int)] 85 (0, 0))) := (ho6.block _ (heap_lt F5.out) (noF _ HSZ.out.2.1 HSZ.out.2.2.2.1)).trans F5.out
        have Q6 : Hid (w6.heap[qb]? = some (.cells #[.int .u32 0, .int .u32 0, .int .u32 0, .int .u32 0] 35 (0, 0))) := (ho6.block _ (heap_lt Q5.out) (noF _ HSZ.out.2.2.1 HSZ.out.2.2.2.2)).trans Q5.out
        have Z6 : Hid (w2.heap.size ≤ w6.heap.size) := Nat.le_trans Z5.out ho6.size
        clear hA6 ho6 hc6 noF f0 f1 f2 f3 f4 f5 lf g4 lg HUN
        go_wp2_with fail
        go_roundw
        case rel => exact ⟨k + 1, u6, l6, by omega, by go_num, A6.out, O6.out, C6.out, F6.out, Q6.out, Z6.out⟩
        case measure => simp [intOf]; omega
      case neg =>
      obtain rfl : k = u.T.rts.length := by omega
      rw [← HSF.out] at A5 C5
      obtain ⟨wo, hwo⟩ : ∃ W, W = wr.alloc (.cells #[.int .u32 0, .int .u32 0, .int .u32 0, .int .u32 0] 35) := ⟨_, rfl⟩
      have BO : Hid (Below wr.heap.size wr wo) := by rw [hwo]; exact tb_alloc_below _ _
      have KO : Hid (wo.heap[wr.heap.size]? = some (.cells #[.int .u32 0, .int .u32 0, .int .u32 0, .int .u32 0] 35 (0, 0))) := by rw [hwo]; exact heap_alloc_new _ _
      have HWO := Lib.hid hwo
      have SA : Hid (StA u SF u5 l5 w fb qb wr.heap.size) := ⟨by have := HSZ.out; have := Z5.out; omega, by have := HSZ.out; have := Z5.out; omega, by have := HSZ.out.1; have := Z5.out; omega, A5.out.bel.size, by have := heap_lt A5.out.obj; omega, fun b hb => by have := A5.out.own_lt hb; omega⟩
      have S0 : Hid (StW u S SF ub lb u5 l5 w wo fb qb wr.heap.size #[.int .u32 (f.cl : Int), .int .u32 (f.no : Int), .int .u32 (f.re : Int), .int .u32 (f.ak : Int), .int .u32 (f.ca : Int), .int .u32 (f.rq : Int)] ⟨0, 0, 0, 0⟩) := ⟨A5.out.below BO.out, O5.out.trans (Only.of_below _ BO.out), tb_kept F5.out BO.out, tb_kept Q5.out BO.out, KO.out⟩
      have HLE : Hid (w.heap.size ≤ w2.heap.size) := HSZ.out.1
      clear hwo
      go_upto_region 10 with fail
      rw [← HWO.out]
      obtain ⟨ob, hob⟩ : ∃ b, b = wr.heap.size := ⟨_, rfl⟩
      rw [← hob] at SA S0 ⊢
      clear hob HWO BO KO A5 O5 F5 Q5 Z5 g4 lg
      obtain ⟨-, g4, -, lg⟩ := HG.out _ _ _ _ S0.out.a
      go_wp2_with fail
      clear g4 lg
      have HPRL : Hid (∀ k, k ≤ u.T.rts.length → prN u.T f SF.R k < 4294967296) := prN_lt u.T f SF.R (fun n hn => by have := HTK.out.sig n hn; omega)
      have HLOL : Hid (∀ k, k ≤ 16 → loN SF.R k < 4294967296) := loN_lt SF.R
      have HNOL : Hid (∀ k, k ≤ 12 → noN SF.C k < 4294967296) := noN_lt SF.C HSO.out.C
      have HREL : Hid (∀ k, k ≤ 12 → reN SF.C k < 4294967296) := reN_lt SF.C HSO.out.C
      go_loopw [8] (fun i wr => ∃ k : Nat, k ≤ u.T.rts.length ∧ i = .int .i64 k ∧ StW u S SF ub lb u5 l5 w wr fb qb ob #[.int .u32 (f.cl : Int), .int .u32 (f.no : Int), .int .u32 (f.re : Int), .int .u32 (f.ak : Int), .int .u32 (f.ca : Int), .int .u32 (f.rq : Int)] ⟨prN u.T f SF.R k, 0, 0, loN SF.R k⟩) (fun i _ => u.T.rts.length - (intOf i).toNat)
      case atStart => exact ⟨0, Nat.zero_le _, rfl, S0.out⟩
      case round =>
        clear S0
        obtain ⟨k, hk, rfl, hs⟩ := hrel
        have S1 := Lib.hid hs
        clear hs
        obtain ⟨-, g4, -, lg⟩ := HG.out _ _ _ _ S1.out.a
        by_cases hlt : k < u.T.rts.length
        case pos =>
          have p0 : wr.cell? ⟨u.rb, k * 4, none⟩ = some (.int .i64 ((SF.R k).ph : Int)) := by
            have := S1.out.a.rs.cell (i := k * 4) (by omega)
            rw [r27V_0] at this; exact this
          have lr := S1.out.a.rs.lt
          have HLO : Hid (loN SF.R (k + 1) = if (SF.R k).ph = 0 then loN SF.R k else loN SF.R k ||| 2 ^ k) := rfl
          have HPR : Hid (prN u.T f SF.R (k + 1) = if (SF.R k).ph == 1 && rprocB f (u.T.rts.getD k rt0) then prN u.T f SF.R k ||| 2 ^ (u.T.rts.getD k rt0).sig.toNat else prN u.T f SF.R k) := by
            show (if procB f _ _ then _ else _) = _
            unfold procB rprocB
            rw [Bool.and_assoc]
          have hll := HLOL.out k (by omega); have hpl := HPRL.out k hk
          generalize hlo1 : loN SF.R (k + 1) = lo1 at *
          generalize hpr1 : prN u.T f SF.R (k + 1) = pr1 at *
          have HE1 := Lib.hid hlo1; have HE2 := Lib.hid hpr1
          generalize loN SF.R k = lo at *
          generalize prN u.T f SF.R k = pr at *
          generalize hphe : (SF.R k).ph = ph at *
          have HPHE := Lib.hid hphe
          clear hlo1 hpr1 hphe
          have HLT := Lib.hid hlt
          by_cases hp0 : ph = 0
          case pos =>
            subst hp0
            have p0' : wr.cell? ⟨u.rb, k * 4, none⟩ = some (.int .i64 0) := p0
            clear p0
            have p0 := p0'
            clear p0'
            have HLX : Hid (lo1 = lo) := HLO.out
            have tb1 : ((0 : Nat) == 1) = false := rfl
            have HPX : Hid (pr1 = pr) := by show _ = _; rw [HPR.out, tb1]; rfl
            go_upto_region 15 with fail
            go_quiet (fail)
            have S3 := Lib.hid (S1.out.below (RG_drewN _ nq))
            generalize (wr).drewN nq = w6 at *
            clear g4 lg p0 lr
            go_wp2_with fail
            go_roundw
            case rel => exact ⟨k + 1, by have := HLT.out; omega, by go_num, by rw [HE1.out, HE2.out, HLX.out, HPX.out]; exact S3.out⟩
            case measure => have := HLT.out; simp [intOf]; omega
          case neg =>
            have t0 : ((ph : Int) != 0) = true := by simp; omega
            have HLX : Hid (lo1 = lo ||| 2 ^ k) := by show _ = _; rw [HLO.out, if_neg hp0]
            have b3 := cell_row (j := 3) S1.out.b rfl
            have fr : wr.frozen? ⟨ob, 3, none⟩ = false := frozen_of_row _ _ _ _ _ S1.out.b
            have lbb := heap_lt S1.out.b
            have HX := Lib.hid (or_bitw lo k hll (by omega) _ rfl)
            go_upto_region 14 with fail
            clear p0 lr t0
            go_region
            rw [HX.out]
            have S2 : Hid (StW u S SF ub lb u5 l5 w (wr.setCell ⟨ob, 3, none⟩ (.int .u32 ((lo ||| 2 ^ k : Nat) : Int))).drew fb qb ob #[.int .u32 (f.cl : Int), .int .u32 (f.no : Int), .int .u32 (f.re : Int), .int .u32 (f.ak : Int), .int .u32 (f.ca : Int), .int .u32 (f.rq : Int)] ⟨pr, 0, 0, lo ||| 2 ^ k⟩) := (S1.out.set (o' := ⟨pr, 0, 0, lo ||| 2 ^ k⟩) (j := 3) (v := .int .u32 ((lo ||| 2 ^ k : Nat) : Int)) SA.out rfl).below ⟨rfl, rfl, rfl, Nat.le_refl _, fun _ _ => rfl⟩
            generalize (wr.setCell ⟨ob, 3, none⟩ (.int .u32 ((lo ||| 2 ^ k : Nat) : Int))).drew = w2' at *
            clear b3 fr lbb HX S1 g4 lg
            obtain ⟨g3, g4, -, lg⟩ := HG.out _ _ _ _ S2.out.a
            have p0 : w2'.cell? ⟨u.rb, k * 4, none⟩ = some (.int .i64 (ph : Int)) := by
              have := S2.out.a.rs.cell (i := k * 4) (by have := HLT.out; omega)
              rw [r27V_0, HPHE.out] at this; exact this
            have lr := S2.out.a.rs.lt
            by_cases hp1 : ph = 1
            case neg =>
              have t1 : ((ph : Int) == 1) = false := by simp; omega
              have tb1 : (ph == 1) = false := by simpa using hp1
              clear hp0 hp1 g3
              have HPX : Hid (pr1 = pr) := by show _ = _; rw [HPR.out, tb1]; rfl
              go_upto_region 15 with fail
              go_quiet (fail)
              have S3 := Lib.hid (S2.out.below (RG_drewN _ nq))
              generalize (w2').drewN nq = w6 at *
              clear g4 lg p0 lr
              go_wp2_with fail
              go_roundw
              case rel => exact ⟨k + 1, by have := HLT.out; omega, by go_num, by rw [HE1.out, HE2.out, HLX.out, HPX.out]; exact S3.out⟩
              case measure => have := HLT.out; simp [intOf]; omega
            case pos =>
              subst hp1
              have p0' : w2'.cell? ⟨u.rb, k * 4, none⟩ = some (.int .i64 1) := p0
              clear p0
              obtain ⟨b, off, C, rfl, hb, hc, hR⟩ := HRT.out.cells (i := k) HLT.out
              have hx : ∀ j, j < 6 → w2'.cell? ⟨b, off + k * 6 + j, none⟩ = some (C j) := fun j hj => (S2.out.a.bel.cell hb).trans (hc j hj)
              have x0 := hx 0 (by omega); have x1 := hx 1 (by omega); have x2 := hx 2 (by omega); have x3 := hx 3 (by omega); have x4 := hx 4 (by omega); have x5 := hx 5 (by omega)
              rw [Nat.add_zero] at x0
              have hV := hR.rval
              obtain ⟨A, hA⟩ : ∃ A, A = u.T.rts.getD k rt0 := ⟨_, rfl⟩
              have hsg := HTK.out.sig k HLT.out; have htr := HTK.out.tr k HLT.out; have hpp := HTK.out.pp k HLT.out
              rw [← hA] at hR hV hsg htr hpp HPR
              obtain ⟨⟨ta, tc, ht, _⟩, _⟩ := hR.tr
              obtain ⟨⟨pa, pc, hp, _⟩, _⟩ := hR.pts
              obtain ⟨⟨ca, cc, hcn, _⟩, _⟩ := hR.con
              rw [hR.sig] at x0 hV; rw [ht] at x1 hV; rw [hp] at x2 hV; rw [hR.app] at x3 hV; rw [hcn] at x4 hV; rw [hR.hold] at x5 hV
              obtain ⟨sg, hsgn⟩ := Int.eq_ofNat_of_zero_le hsg.1
              have hsg32 : sg < 12 := by omega
              have HXS : Hid (∀ W, Below u.w0.heap.size u.w0 W → W.cell? ⟨b, off + k * 6, none⟩ = some (.int .i64 (sg : Int))) := fun W hW => by
                have := (hW.cell hb).trans (hc 0 (by omega))
                rw [Nat.add_zero, hR.sig, hsgn] at this; exact this
              have HPRS : Hid (pr1 = if (1 == 1) && rprocB f A then pr ||| 2 ^ sg else pr) := by
                show _ = _
                rw [HPR.out, hsgn]; rfl
              have HPC := Lib.hid (fun W (hW : Below u.w0.heap.size u.w0 W) => rproc_any _ A f W (hV.below hW) HF.out (fun i hi => ⟨(htr i hi).1, by have := (htr i hi).2; omega⟩) (fun i hi => ⟨(hpp i hi).1, by have := (hpp i hi).2; omega⟩))
              have HBS : Hid (b < u.w0.heap.size) := hb
              have hbl : b < w2'.heap.size := Nat.lt_of_lt_of_le hb S2.out.a.bel.size
              have f0 := cell_row (j := 0) S2.out.f rfl; have f1 := cell_row (j := 1) S2.out.f rfl; have f2 := cell_row (j := 2) S2.out.f rfl; have f3 := cell_row (j := 3) S2.out.f rfl; have f4 := cell_row (j := 4) S2.out.f rfl; have f5 := cell_row (j := 5) S2.out.f rfl
              have lf := heap_lt S2.out.f
              generalize rprocB f A = pv at *
              clear hV hR hc hx hA htr hpp ht hp hcn hsg hsgn hb hp0
              go_upto_region 15 with fail
              obtain ⟨U, fU, hUn, hU1, hU2⟩ := class_of (fun V => Below w2'.heap.size w2' V) (W := w2'.drew) ⟨rfl, rfl, rfl, Nat.le_refl _, fun _ _ => rfl⟩
              have HU1 := Lib.hid hU1; have HU2 := Lib.hid hU2
              clear hU1 hU2
              have hfm : (Try.prog).follows .mixedOrders = true := by kernel_rfl
              obtain ⟨qn, hd1⟩ : ∃ q : Nat, 1 ≤ q := ⟨1, Nat.le_refl _⟩
              have zp := fun uu => ((HU1.out uu).cell lr).trans p0'
              have z3 := fun uu => ((HU1.out uu).cell lg).trans g3
              have z4 := fun uu => ((HU1.out uu).cell lg).trans g4
              have zx0 := fun uu => ((HU1.out uu).cell hbl).trans x0
              have zf0 := fun uu => ((HU1.out uu).cell lf).trans f0
              have zx1 := fun uu => ((HU1.out uu).cell hbl).trans x1
              have zf1 := fun uu => ((HU1.out uu).cell lf).trans f1
              have zx2 := fun uu => ((HU1.out uu).cell hbl).trans x2
              have zf2 := fun uu => ((HU1.out uu).cell lf).trans f2
              have zx3 := fun uu => ((HU1.out uu).cell hbl).trans x3
              have zf3 := fun uu => ((HU1.out uu).cell lf).trans f3
              have zx4 := fun uu => ((HU1.out uu).cell hbl).trans x4
              have zf4 := fun uu => ((HU1.out uu).cell lf).trans f4
              have zx5 := fun uu => ((HU1.out uu).cell hbl).trans x5
              have zf5 := fun uu => ((HU1.out uu).cell lf).trans f5
              have h0_HR : ∀ uu, Calls Try.prog 55 #[.agg #[.int .i64 A.sig, .slice ta A.tr.length tc, .slice pa A.pts.length pc, .int .i64 A.app, .slice ca A.con.length cc, .int .u16 (A.hold : Int)], .agg #[.int .u32 (f.cl : Int), .int .u32 (f.no : Int), .int .u32 (f.re : Int), .int .u32 (f.ak : Int), .int .u32 (f.ca : Int), .int .u32 (f.rq : Int)]] (fU uu) fun e w' => e = .returned (.bool pv) ∧ Below (fU uu).heap.size (fU uu) w' := fun uu => HPC.out (fU uu) (S2.out.a.bel.trans ((HU1.out uu).mono S2.out.a.bel.size))
              have HR : Hid (∀ uu, CallsIn Fence.wide (qn - 1) Try.prog 55 #[.agg #[.int .i64 A.sig, .slice ta A.tr.length tc, .slice pa A.pts.length pc, .int .i64 A.app, .slice ca A.con.length cc, .int .u16 (A.hold : Int)], .agg #[.int .u32 (f.cl : Int), .int .u32 (f.no : Int), .int .u32 (f.re : Int), .int .u32 (f.ak : Int), .int .u32 (f.ca : Int), .int .u32 (f.rq : Int)]] (fU uu) fun e w' => e = .returned (.bool pv) ∧ ∃ uu', w' = fU uu') := fun uu => (callsIn_wide.2 (h0_HR uu)).mono (fun e w' ⟨he, hb⟩ => ⟨he, HU2.out _ ((HU1.out uu).trans (hb.mono (HU1.out uu).size))⟩)
              have hf_HR : Fence.wide.fn 55 := trivial
              clear h0_HR
              clear p0' g3 g4 x0 x1 x2 x3 x4 x5 f0 f1 f2 f3 f4 f5
              refine (wpIn_wide (n := qn)).1 ?_
              refine wpIn_region_cls fU (by kernel_rfl) hfm (by kernel_rfl) (HU2.out _ ⟨rfl, rfl, rfl, Nat.le_refl _, fun _ _ => rfl⟩) ?_
              repeat (gi_big_quiet_step ((gi_at_call 55; (with_reducible exact HR.out _))))
              refine wpQuietIn_nil ?_
              rintro w6 ⟨uu, rfl⟩
              have S3 := Lib.hid (S2.out.below (HU1.out uu))
              clear zp z3 z4 zx0 zx1 zx2 zx3 zx4 zx5 zf0 zf1 zf2 zf3 zf4 zf5 HU1 HU2 HR HPC lr lg hbl lf
              generalize fU uu = w6 at *
              cases pv
              case false =>
                have HPX : Hid (pr1 = pr) := HPRS.out
                go_wp2_with fail
                go_roundw
                case rel => exact ⟨k + 1, by have := HLT.out; omega, by go_num, by rw [HE1.out, HE2.out, HLX.out, HPX.out]; exact S3.out⟩
                case measure => have := HLT.out; simp [intOf]; omega
              case true =>
                have HPX : Hid (pr1 = pr ||| 2 ^ sg) := HPRS.out
                obtain ⟨g3, -, -, lg⟩ := HG.out _ _ _ _ S3.out.a
                have x0 := HXS.out _ S3.out.a.bel
                have hbl : b < w6.heap.size := Nat.lt_of_lt_of_le HBS.out S3.out.a.bel.size
                have b0 := cell_row (j := 0) S3.out.b rfl
                have fr : w6.frozen? ⟨ob, 0, none⟩ = false := frozen_of_row _ _ _ _ _ S3.out.b
                have lbb := heap_lt S3.out.b
                have HX := Lib.hid (or_bitw pr sg hpl (by omega) _ rfl)
                go_upto_region 16 with fail
                go_region
                rw [HX.out]
                have S4 : Hid (StW u S SF ub lb u5 l5 w (w6.setCell ⟨ob, 0, none⟩ (.int .u32 ((pr ||| 2 ^ sg : Nat) : Int))).drew fb qb ob #[.int .u32 (f.cl : Int), .int .u32 (f.no : Int), .int .u32 (f.re : Int), .int .u32 (f.ak : Int), .int .u32 (f.ca : Int), .int .u32 (f.rq : Int)] ⟨pr ||| 2 ^ sg, 0, 0, lo ||| 2 ^ k⟩) := (S3.out.set (o' := ⟨pr ||| 2 ^ sg, 0, 0, lo ||| 2 ^ k⟩) (j := 0) (v := .int .u32 ((pr ||| 2 ^ sg : Nat) : Int)) SA.out rfl).below ⟨rfl, rfl, rfl, Nat.le_refl _, fun _ _ => rfl⟩
                generalize (w6.setCell ⟨ob, 0, none⟩ (.int .u32 ((pr ||| 2 ^ sg : Nat) : Int))).drew = w7 at *
                clear g3 lg x0 hbl b0 fr lbb HX
                go_wp2_with fail
                go_roundw
                case rel => exact ⟨k + 1, by have := HLT.out; omega, by go_num, by rw [HE1.out, HE2.out, HLX.out, HPX.out]; exact S4.out⟩
                case measure => have := HLT.out; simp [intOf]; omega
        case neg =>
        obtain rfl : k = u.T.rts.length := by omega
        go_wp2_with fail
        clear g4 lg
        go_loopw [9] (fun i wr => ∃ k : Nat, k ≤ u.T.pts.length ∧ i = .int .i64 k ∧ StW u S SF ub lb u5 l5 w wr fb qb ob #[.int .u32 (f.cl : Int), .int .u32 (f.no : Int), .int .u32 (f.re : Int), .int .u32 (f.ak : Int), .int .u32 (f.ca : Int), .int .u32 (f.rq : Int)] ⟨prN u.T f SF.R u.T.rts.length, noN SF.C k, reN SF.C k, loN SF.R u.T.rts.length⟩) (fun i _ => u.T.pts.length - (intOf i).toNat)
        case atStart => exact ⟨0, Nat.zero_le _, rfl, S1.out⟩
        case round =>
          clear S1
          obtain ⟨k, hk, rfl, hs⟩ := hrel
          have S1 := Lib.hid hs
          clear hs
          obtain ⟨-, -, g5, lg⟩ := HG.out _ _ _ _ S1.out.a
          by_cases hlt : k < u.T.pts.length
          case pos =>
            have HLT := Lib.hid hlt
            have p0 : wr.cell? ⟨u.cb, k, none⟩ = some (.int .i64 (SF.C k : Int)) := S1.out.a.cs.cell hlt
            have lr := S1.out.a.cs.lt
            have hc3 := HSO.out.C k
            have HN1 := Lib.hid (noN_succ SF.C k hc3); have HN2 := Lib.hid (reN_succ SF.C k hc3)
            have hnl := HNOL.out k (by omega); have hrl' := HREL.out k (by omega)
            generalize hno1 : noN SF.C (k + 1) = no1 at *
            generalize hre1 : reN SF.C (k + 1) = re1 at *
            have HE1 := Lib.hid hno1; have HE2 := Lib.hid hre1
            generalize noN SF.C k = no at *
            generalize reN SF.C k = re at *
            generalize prN u.T f SF.R u.T.rts.length = prf at *
            generalize loN SF.R u.T.rts.length = lof at *
            generalize hcc : SF.C k = c at *
            have HCC := Lib.hid hcc
            clear hno1 hre1 hcc
            rcases (show c = 0 ∨ c = 1 ∨ c = 2 by omega) with rfl | rfl | rfl
            · have p0' : wr.cell? ⟨u.cb, k, none⟩ = some (.int .i64 0) := p0
              clear p0
              have HX1 : Hid (no1 = no) := HN1.out
              have HX2 : Hid (re1 = re) := HN2.out
              go_wp2_with fail
              clear p0' g5 lg lr
              go_roundw
              case rel => exact ⟨k + 1, by have := HLT.out; omega, by go_num, by rw [HE1.out, HE2.out, HX1.out, HX2.out]; exact S1.out⟩
              case measure => have := HLT.out; simp [intOf]; omega
            · have p0' : wr.cell? ⟨u.cb, k, none⟩ = some (.int .i64 1) := p0
              clear p0
              have HX1 : Hid (no1 = no ||| 2 ^ k) := HN1.out
              have HX2 : Hid (re1 = re) := HN2.out
              have b1 := cell_row (j := 1) S1.out.b rfl
              have fr : wr.frozen? ⟨ob, 1, none⟩ = false := frozen_of_row _ _ _ _ _ S1.out.b
              have lbb := heap_lt S1.out.b
              have HX := Lib.hid (or_bitw no k hnl (by omega) _ rfl)
              go_upto_region 21 with fail
              clear p0' g5 lg lr
              go_region
              rw [HX.out]
              have S2 : Hid (StW u S SF ub lb u5 l5 w (wr.setCell ⟨ob, 1, none⟩ (.int .u32 ((no ||| 2 ^ k : Nat) : Int))).drew fb qb ob #[.int .u32 (f.cl : Int), .int .u32 (f.no : Int), .int .u32 (f.re : Int), .int .u32 (f.ak : Int), .int .u32 (f.ca : Int), .int .u32 (f.rq : Int)] ⟨prf, no ||| 2 ^ k, re, lof⟩) := (S1.out.set (o' := ⟨prf, no ||| 2 ^ k, re, lof⟩) (j := 1) (v := .int .u32 ((no ||| 2 ^ k : Nat) : Int)) SA.out rfl).below ⟨rfl, rfl, rfl, Nat.le_refl _, fun _ _ => rfl⟩
              generalize (wr.setCell ⟨ob, 1, none⟩ (.int .u32 ((no ||| 2 ^ k : Nat) : Int))).drew = w3 at *
              clear b1 fr lbb HX S1
              obtain ⟨-, -, g5, lg⟩ := HG.out _ _ _ _ S2.out.a
              have p0 : w3.cell? ⟨u.cb, k, none⟩ = some (.int .i64 1) := by
                have := S2.out.a.cs.cell HLT.out
                rw [HCC.out] at this; exact this
              have lr := S2.out.a.cs.lt
              go_wp2_with fail
              clear p0 g5 lg lr
              go_roundw
              case rel => exact ⟨k + 1, by have := HLT.out; omega, by go_num, by rw [HE1.out, HE2.out, HX1.out, HX2.out]; exact S2.out⟩
              case measure => have := HLT.out; simp [intOf]; omega
            · have p0' : wr.cell? ⟨u.cb, k, none⟩ = some (.int .i64 2) := p0
              clear p0
              have HX1 : Hid (no1 = no) := HN1.out
              have HX2 : Hid (re1 = re ||| 2 ^ k) := HN2.out
              have b2 := cell_row (j := 2) S1.out.b rfl
              have fr : wr.frozen? ⟨ob, 2, none⟩ = false := frozen_of_row _ _ _ _ _ S1.out.b
              have lbb := heap_lt S1.out.b
              have HX := Lib.hid (or_bitw re k hrl' (by omega) _ rfl)
              go_upto_region 23 with fail
              clear p0' g5 lg lr
              go_region
              rw [HX.out]
              have S2 : Hid (StW u S SF ub lb u5 l5 w (wr.setCell ⟨ob, 2, none⟩ (.int .u32 ((re ||| 2 ^ k : Nat) : Int))).drew fb qb ob #[.int .u32 (f.cl : Int), .int .u32 (f.no : Int), .int .u32 (f.re : Int), .int .u32 (f.ak : Int), .int .u32 (f.ca : Int), .int .u32 (f.rq : Int)] ⟨prf, no, re ||| 2 ^ k, lof⟩) := (S1.out.set (o' := ⟨prf, no, re ||| 2 ^ k, lof⟩) (j := 2) (v := .int .u32 ((re ||| 2 ^ k : Nat) : Int)) SA.out rfl).below ⟨rfl, rfl, rfl, Nat.le_refl _, fun _ _ => rfl⟩
              generalize (wr.setCell ⟨ob, 2, none⟩ (.int .u32 ((re ||| 2 ^ k : Nat) : Int))).drew = w3 at *
              clear b2 fr lbb HX S1
              go_wp2_with fail
              go_roundw
              case rel => exact ⟨k + 1, by have := HLT.out; omega, by go_num, by rw [HE1.out, HE2.out, HX1.out, HX2.out]; exact S2.out⟩
              case measure => have := HLT.out; simp [intOf]; omega
          case neg =>
          obtain rfl : k = u.T.pts.length := by omega
          have b0 := cell_row (j := 0) S1.out.b rfl; have b1 := cell_row (j := 1) S1.out.b rfl; have b2 := cell_row (j := 2) S1.out.b rfl; have b3 := cell_row (j := 3) S1.out.b rfl
          have q0 := cell_row (j := 0) S1.out.q rfl; have q1 := cell_row (j := 1) S1.out.q rfl; have q2 := cell_row (j := 2) S1.out.q rfl; have q3 := cell_row (j := 3) S1.out.q rfl
          generalize hPR : prN u.T f SF.R u.T.rts.length = PR at *
          generalize hLO : loN SF.R u.T.rts.length = LO at *
          generalize hno : noN SF.C u.T.pts.length = NO at *
          generalize hre : reN SF.C u.T.pts.length = RE at *
          have HOE : Hid (O = ⟨PR, NO, RE, LO⟩) := HO.out
          clear hPR hLO hno hre
          have HSET : Hid (∀ (W : World) (j : Nat) (x : Value), R27At W u SF u5 l5 ∧ Only (Own27 u S ub lb) w W → R27At (W.setCell ⟨qb, j, none⟩ x) u SF u5 l5 ∧ Only (Own27 u S ub lb) w (W.setCell ⟨qb, j, none⟩ x)) := fun W j x hW => by
            have hz := HSZ.out
            refine ⟨hW.1.only (M := fun b => b = qb) ((Only.refl _ W).set _ _ (.inr rfl)) (fun b hb => by rw [hb]; have := H.out.bel.size; omega) (fun e => by have := heap_lt H.out.obj; omega) (fun b hb e => ?_), hW.2.set _ _ (.inl hz.2.2.2.2)⟩
            rcases C5.out b hb with h | h
            · have := HOW.out b h; omega
            · omega
          have fq : ∀ j, wr.frozen? ⟨qb, j, none⟩ = false := fun j => frozen_of_row _ _ _ _ _ S1.out.q
          have fq0 := fq 0; have fq1 := fq 1; have fq2 := fq 2; have fq3 := fq 3
          have lbb := heap_lt S1.out.b; have lqq := heap_lt S1.out.q
          clear fq
          go_wp2_with fail
          exact bodyPost_ret (v := .agg #[.int .u32 (PR : Int), .int .u32 (NO : Int), .int .u32 (RE : Int), .int .u32 (LO : Int)]) (by simp [results, Try.results38, go_sem, q0, q1, q2, q3, lqq]) rfl ⟨by rw [HOE.out]; rfl, by
            obtain ⟨z1, z2⟩ := HSET.out _ _ _ (HSET.out _ _ _ (HSET.out _ _ _ (HSET.out _ _ _ ⟨S1.out.a, S1.out.on⟩)))
            exact ⟨u5, l5, z1, z2, fun b hb => (C5.out b hb).imp id (fun h => Nat.le_trans HLE.out h)⟩⟩
end Go.Proofs.Ytnjeiigdfdjccaa
/- The document's automaton: New. -/
namespace Go.Proofs.Ytnjeiigdfdjccaa
open Go.RowKit
set_option linter.unusedVariables false
set_option linter.unusedSimpArgs false
theorem info_r27 : (Try.prog.info? 105).map (fun i => (i.zero, i.size, i.bytes)) = some (some (.agg #[Value.int .i64 0, .int .i64 0, .slice none 0 0, .slice none 0 0]), 4, 64) := by kernel_rfl
theorem make_r27 (n : Nat) (hn : n ≤ 1000) (w : World) : (Instr.makeSlice 101 (.int .i64 (n : Int)) (.int .i64 (n : Int))).run Try.prog w = .ok (.slice (some ⟨w.heap.size, 0, none⟩) n n) (w.alloc (.cells (madeCells #[Value.int .i64 0, .int .i64 0, .slice none 0 0, .slice none 0 0] (n * 4)) 105)) := by
  obtain ⟨i0, hi, hz0, hz1, hz2⟩ := tb_info info_r27
  have := run_make (P := Try.prog) w 101 105 i0 _ Try.underlying101 hi hz0 .i64 .i64 n n (by omega) (Int.le_refl _) (by rw [hz2]; omega) (by omega)
  rw [Int.toNat_natCast, hz1] at this
  exact this
theorem made_r27_cells (T : Tab) (n i : Nat) (hi : i < n * 4) : (madeCells #[Value.int .i64 0, .int .i64 0, .slice none 0 0, .slice none 0 0] (n * 4))[i]? = some (r27V T as0.R (fun _ => 0) (fun _ => 0) i) := by
  unfold madeCells
  rw [Array.getElem?_map, Array.getElem?_range, if_pos hi]
  show some _ = some _
  congr 1
  have h4 : i % 4 < 4 := Nat.mod_lt _ (by omega)
  show (#[Value.int .i64 0, .int .i64 0, .slice none 0 0, .slice none 0 0] : Array Value)[i % 4]! = if i % 4 = 0 then Value.int .i64 0 else if i % 4 = 1 then Value.int .i64 0 else if i % 4 = 2 then Value.slice none 0 0 else Value.slice none 0 0
  match i % 4, h4 with
  | 0, _ => rfl
  | 1, _ => rfl
  | 2, _ => rfl
  | 3, _ => rfl
theorem Nf_rs0 (L : Nat) : Nf rs0 L := ⟨fun _ => rfl, fun e => absurd e (by decide), fun _ => ⟨rfl, rfl⟩, fun e => absurd e (by decide), Nat.pow_pos (by omega), Nat.pow_pos (by omega), by show (0 : Nat) < 4; omega, by show 0 < 65536; omega⟩
theorem new_end27 (w W : World) (T : Tab) (vp vr : Value) (rb cb g : Nat) (hB : Below w.heap.size w W)
    (h1 : W.heap[rb]? = some (.cells (madeCells #[Value.int .i64 0, .int .i64 0, .slice none 0 0, .slice none 0 0] (T.rts.length * 4)) 105 (0, 0))) (h2 : W.heap[cb]? = some (.cells (madeCells #[.int .i64 0] T.pts.length) 3 (0, 0)))
    (h3 : W.heap[g]? = some (.cells #[.int .i64 T.tracks, vp, .int .i64 T.sigs, vr, .slice (some ⟨rb, 0, none⟩) T.rts.length T.rts.length, .slice (some ⟨cb, 0, none⟩) T.pts.length T.pts.length] 103 (0, 0)))
    (hp : IntsAt w vp T.pts) (hr : RtsAt w vr T.rts) (e1 : w.heap.size ≤ rb) (e2 : w.heap.size ≤ cb) (e3 : w.heap.size ≤ g) (e4 : g ≠ rb) (e5 : g ≠ cb) (e6 : rb ≠ cb) :
    R27At W ⟨w, w.heap.size, g, rb, cb, vp, vr, T⟩ as0 (fun _ => 0) (fun _ => 0) := by
  refine ⟨h3, hp, hr, hB, ⟨_, h1, by rw [size_madeCells]; exact Nat.le_refl _, fun i hi => made_r27_cells T _ i hi⟩, ⟨_, h2, by rw [size_madeCells]; exact Nat.le_refl _, fun i hi => ?_⟩, fun n hn h => absurd (show (0 : Nat) = 3 from h) (by decide), fun n hn => Nf_rs0 _, Nat.le_refl _, e3, e1, e2, e4, e5, e6, fun n hn h => absurd (show (0 : Nat) = 3 from h) (by decide), fun n m hn hm hne h => absurd (show (0 : Nat) = 3 from h) (by decide)⟩
  rw [← Array.getElem?_toList, toList_madeCells_one]
  have hi' : i < T.pts.length := hi
  simp [hi']
  rfl
def NewR (v : Value) (T : Tab) (w : World) (e : Ending) (w' : World) : Prop := ∃ u ub lb, e = .returned (.pointer (some ⟨u.g, 0, none⟩)) ∧ R27At w' u as0 ub lb ∧ u.T = T ∧ u.w0 = w ∧ u.B = w.heap.size ∧ v = .agg #[.int .i64 T.tracks, u.vp, .int .i64 T.sigs, u.vr] ∧ Below w.heap.size w w'
set_option maxRecDepth 100000 in
set_option maxHeartbeats 4000000 in
theorem rnew_any (v : Value) (T : Tab) (w : World) (hT : TabAt w v T) (hn : T.rts.length ≤ 1000) (hm : T.pts.length ≤ 1000) :
    Calls Try.prog 35 #[v] w (NewR v T w) := by
  obtain ⟨⟨vp, vr, rfl, hP, hr⟩, _, _⟩ := hT
  obtain ⟨a, c, C0, rfl, hlc, hcm, _⟩ := hr.at_
  obtain ⟨⟨va, vc, rfl, hvl, hvm, _⟩, _⟩ := id hP
  have HR := Lib.hid hr; have HP := Lib.hid hP
  obtain ⟨w1, hw1⟩ : ∃ w1, w1 = w.alloc (.cells #[.int .i64 T.tracks, .slice va T.pts.length vc, .int .i64 T.sigs, .slice a T.rts.length c] 25) := ⟨_, rfl⟩
  have B1 : Hid (Below w.heap.size w w1) := by rw [hw1]; exact tb_alloc_below _ _
  have K1 : Hid (w1.heap[w.heap.size]? = some (.cells #[.int .i64 T.tracks, .slice va T.pts.length vc, .int .i64 T.sigs, .slice a T.rts.length c] 25 (0, 0))) := by rw [hw1]; exact heap_alloc_new _ _
  have HW1 := Lib.hid hw1
  have hmk1 := fun w => make_r27 T.rts.length hn w
  have hmk2 := fun w => run_make_row' (P := Try.prog) 22 3 (.int .i64 0) 8 Try.underlying22 infoI rfl .i64 .i64 T.pts.length (by omega) (by omega) w
  unfold maxLen at hvm hcm
  obtain ⟨tb, htb⟩ : ∃ b, b = w.heap.size := ⟨_, rfl⟩
  have HTB := Lib.hid htb
  rw [← htb] at K1
  have HSV : Hid (∀ W, Below w1.heap.size w1 W → (W.cell? ⟨tb, 0, none⟩ = some (.int .i64 T.tracks) ∧ W.cell? ⟨tb, 1, none⟩ = some (.slice va T.pts.length vc) ∧ W.cell? ⟨tb, 2, none⟩ = some (.int .i64 T.sigs) ∧ W.cell? ⟨tb, 3, none⟩ = some (.slice a T.rts.length c)) ∧ tb < W.heap.size) := fun W hW => by
    have h1 := tb_kept K1.out hW
    exact ⟨⟨cell_row h1 rfl, cell_row h1 rfl, cell_row h1 rfl, cell_row h1 rfl⟩, heap_lt h1⟩
  have HZ1 : Hid (w.heap.size ≤ w1.heap.size) := B1.out.size
  have HEND : Hid (∀ W rb cb g, Below w1.heap.size w1 W → W.heap[rb]? = some (.cells (madeCells #[Value.int .i64 0, .int .i64 0, .slice none 0 0, .slice none 0 0] (T.rts.length * 4)) 105 (0, 0)) → W.heap[cb]? = some (.cells (madeCells #[.int .i64 0] T.pts.length) 3 (0, 0)) →
    W.heap[g]? = some (.cells #[.int .i64 T.tracks, .slice va T.pts.length vc, .int .i64 T.sigs, .slice a T.rts.length c, .slice (some ⟨rb, 0, none⟩) T.rts.length T.rts.length, .slice (some ⟨cb, 0, none⟩) T.pts.length T.pts.length] 103 (0, 0)) →
    w1.heap.size ≤ rb → w1.heap.size ≤ cb → w1.heap.size ≤ g → g ≠ rb → g ≠ cb → rb ≠ cb → NewR (.agg #[.int .i64 T.tracks, .slice va T.pts.length vc, .int .i64 T.sigs, .slice a T.rts.length c]) T w (.returned (.pointer (some ⟨g, 0, none⟩))) W.drew) := fun W rb cb g hB h1 h2 h3 e1 e2 e3 e4 e5 e6 => by
    have hz := HZ1.out
    have hBW : Below w.heap.size w W := B1.out.trans (hB.mono B1.out.size)
    have R := new_end27 w W T _ _ rb cb g hBW h1 h2 h3 HP.out HR.out (by omega) (by omega) (by omega) e4 e5 e6
    exact ⟨_, _, _, rfl, R.below ⟨rfl, rfl, rfl, Nat.le_refl _, fun _ _ => rfl⟩, rfl, rfl, rfl, rfl, hBW.drew⟩
  clear hw1 htb hP hr K1 HZ1
  go_enter Try.func35, Try.ntmps35
  go_upto_region 1 with fail
  rw [← HW1.out, ← HTB.out]
  clear HW1
  have BD : Hid (Below w1.heap.size w1 w1.drew) := (Below.refl _ _).drew
  go_region_held3 (fun W => (W.cell? ⟨tb, 0, none⟩ = some (.int .i64 T.tracks) ∧ W.cell? ⟨tb, 1, none⟩ = some (.slice va T.pts.length vc) ∧ W.cell? ⟨tb, 2, none⟩ = some (.int .i64 T.sigs) ∧ W.cell? ⟨tb, 3, none⟩ = some (.slice a T.rts.length c)) ∧ tb < W.heap.size)
    (first | exact HSV.out _ (Below.alloc' (Below.alloc' (Below.alloc' BD.out _) _) _) | exact HSV.out _ (Below.alloc' (Below.alloc' BD.out _) _) | exact HSV.out _ (Below.alloc' BD.out _) | exact HSV.out _ BD.out)
    (fail)
  · rename_i hheld
    clear hheld hmk1 hmk2
    obtain ⟨W, hW, k0, k1, k2, hz, hb⟩ := alloc3 w1 (madeCells #[Value.int .i64 0, .int .i64 0, .slice none 0 0, .slice none 0 0] (T.rts.length * 4)) (madeCells #[.int .i64 0] T.pts.length) #[.int .i64 T.tracks, .slice va T.pts.length vc, .int .i64 T.sigs, .slice a T.rts.length c, .slice (some ⟨w1.heap.size, 0, none⟩) T.rts.length T.rts.length, .slice (some ⟨w1.heap.size + 1, 0, none⟩) T.pts.length T.pts.length] 105 3 103
    have HF := Lib.hid (HEND.out W w1.heap.size (w1.heap.size + 1) (w1.heap.size + 1 + 1) hb k0 k1 k2 (by omega) (by omega) (by omega) (by omega) (by omega) (by omega))
    rw [← hW]
    clear hW k0 k1 k2 hz hb
    go_wp2_with fail
    go_ret
    exact HF.out
  · rename_i hheld
    clear hheld hmk1 hmk2
    obtain ⟨W, hW, k0, k1, k2, hz, hb⟩ := alloc3 w1 (madeCells #[.int .i64 0] T.pts.length) (madeCells #[Value.int .i64 0, .int .i64 0, .slice none 0 0, .slice none 0 0] (T.rts.length * 4)) #[.int .i64 T.tracks, .slice va T.pts.length vc, .int .i64 T.sigs, .slice a T.rts.length c, .slice (some ⟨w1.heap.size + 1, 0, none⟩) T.rts.length T.rts.length, .slice (some ⟨w1.heap.size, 0, none⟩) T.pts.length T.pts.length] 3 105 103
    have HF := Lib.hid (HEND.out W (w1.heap.size + 1) w1.heap.size (w1.heap.size + 1 + 1) hb k1 k0 k2 (by omega) (by omega) (by omega) (by omega) (by omega) (by omega))
    rw [← hW]
    clear hW k0 k1 k2 hz hb
    go_wp2_with fail
    go_ret
    exact HF.out
end Go.Proofs.Ytnjeiigdfdjccaa
