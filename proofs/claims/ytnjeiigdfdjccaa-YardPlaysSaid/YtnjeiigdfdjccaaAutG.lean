/- goes: what is under way with a route. -/
import Derived.Test.YtnjeiigdfdjccaaAutT
import Derived.Deep.RegionHeld3
namespace Go.Proofs.Ytnjeiigdfdjccaa
open Go.RowKit
set_option linter.unusedVariables false
set_option linter.unusedSimpArgs false
/-- What is asked of a table, that steps be walked. -/
structure TOk (T : Tab) : Prop where
  n : T.rts.length ≤ 16
  p : T.pts.length ≤ 12
  pt : ∀ i, i < T.pts.length → 0 ≤ T.pts.getD i 0 ∧ T.pts.getD i 0 < 24
  tl : ∀ n, n < T.rts.length → 0 < (T.rts.getD n rt0).tr.length ∧ (T.rts.getD n rt0).tr.length ≤ 24
  tr : ∀ n, n < T.rts.length → ∀ i, i < (T.rts.getD n rt0).tr.length → 0 ≤ (T.rts.getD n rt0).tr.getD i 0 ∧ (T.rts.getD n rt0).tr.getD i 0 < 24
  sig : ∀ n, n < T.rts.length → 0 ≤ (T.rts.getD n rt0).sig ∧ (T.rts.getD n rt0).sig < 12
  app : ∀ n, n < T.rts.length → -1 ≤ (T.rts.getD n rt0).app ∧ (T.rts.getD n rt0).app < 24
  pl : ∀ n, n < T.rts.length → (T.rts.getD n rt0).pts.length ≤ 12
  pp : ∀ n, n < T.rts.length → ∀ i, i < (T.rts.getD n rt0).pts.length → 0 ≤ ((T.rts.getD n rt0).pts.getD i (0, false)).1 ∧ ((T.rts.getD n rt0).pts.getD i (0, false)).1 < T.pts.length
  cl : ∀ n, n < T.rts.length → (T.rts.getD n rt0).con.length ≤ 16
  con : ∀ n, n < T.rts.length → ∀ i, i < (T.rts.getD n rt0).con.length → 0 ≤ (T.rts.getD n rt0).con.getD i 0 ∧ (T.rts.getD n rt0).con.getD i 0 < T.rts.length
  hold : ∀ n, n < T.rts.length → (T.rts.getD n rt0).hold < 65536
structure RS.Ok (r : RS) : Prop where
  ph : r.ph < 4
  tm : r.tm < 65536
  us : r.us < 4294967296
  rl : r.rl < 4294967296
structure AS.Ok (S : AS) : Prop where
  R : ∀ n, (S.R n).Ok
  C : ∀ p, S.C p < 3
theorem AS.Ok.setR {S : AS} (h : S.Ok) (n : Nat) {r : RS} (hr : r.Ok) : (S.setR n r).Ok := ⟨fun j => by
  show (if j = n then r else S.R j).Ok
  split
  · exact hr
  · exact h.R j, h.C⟩
set_option maxRecDepth 100000 in
set_option maxHeartbeats 8000000 in
theorem goes_any (u : Au) (S : AS) (f : FD) (n : Nat) (w : World) (h : AutoAt w u S) (hf : f.Ok) (hT : TOk u.T) (hS : S.Ok) (hn : n < u.T.rts.length) :
    Calls Try.prog 47 #[.agg #[.pointer (some ⟨u.g, 0, none⟩), .int .u32 (f.cl : Int), .int .u32 (f.no : Int), .int .u32 (f.re : Int), .int .u32 (f.ak : Int), .int .u32 (f.ca : Int), .int .u32 (f.rq : Int)], .int .i64 (n : Int)] w fun e w' => e = .returned (.tuple #[]) ∧ AutoAt w' u (S.setR n (goR f (u.T.rts.getD n rt0) n (S.R n))) ∧ Only (fun b => b = u.rb) w w' := by
  have H := Lib.hid h
  obtain ⟨ra, rc, C0, hvr, hrl, hrc, _⟩ := h.tr.at_
  have hrt := h.tr
  rw [hvr] at hrt
  obtain ⟨b, off, C, rfl, hb, hc, hR⟩ := hrt.cells hn
  obtain ⟨sc, hvs, hs1, hs2, _⟩ := h.rs
  have HTOK := Lib.hid hT
  have htl := hT.tl n hn
  have htr0 := hT.tr n hn 0 htl.1
  have happ := hT.app n hn
  have hN := hT.n
  have hhold := hT.hold n hn
  have HTL := Lib.hid htl; have HTRR := Lib.hid (hT.tr n hn)
  obtain ⟨r, hrr⟩ : ∃ r, r = u.T.rts.getD n rt0 := ⟨_, rfl⟩
  rw [← hrr] at hR htl htr0 happ hhold ⊢
  have HRR := Lib.hid hrr
  obtain ⟨⟨ta, tc, htr, htl1, htm, _⟩, _⟩ := hR.tr
  obtain ⟨⟨pa, pc, hp, _⟩, _⟩ := hR.pts
  obtain ⟨⟨ca, cc, hcn, _⟩, _⟩ := hR.con
  have HTR := Lib.hid (htr ▸ hR.tr)
  unfold maxLen at hs2 htm hrc
  have HN := Lib.hid hn
  have HG : Hid (∀ W S', AutoAt W u S' → (W.cell? ⟨u.g, 3, none⟩ = some (.slice (some ⟨b, off, none⟩) u.T.rts.length rc) ∧ W.cell? ⟨u.g, 4, none⟩ = some (.slice (some ⟨u.rb, 0, none⟩) u.T.rts.length sc)) ∧ (u.g < W.heap.size ∧ b < W.heap.size) ∧ IntsAt W (.slice ta r.tr.length tc) r.tr ∧
      W.cell? ⟨b, off + n * 6, none⟩ = some (.int .i64 r.sig) ∧ W.cell? ⟨b, off + n * 6 + 1, none⟩ = some (.slice ta r.tr.length tc) ∧ W.cell? ⟨b, off + n * 6 + 2, none⟩ = some (.slice pa r.pts.length pc) ∧ W.cell? ⟨b, off + n * 6 + 3, none⟩ = some (.int .i64 r.app) ∧ W.cell? ⟨b, off + n * 6 + 4, none⟩ = some (.slice ca r.con.length cc) ∧ W.cell? ⟨b, off + n * 6 + 5, none⟩ = some (.int .u16 (r.hold : Int))) := fun W S' hW =>
    ⟨⟨by rw [← hvr]; exact cell_row (j := 3) hW.obj rfl, by rw [← hvs]; exact cell_row (j := 4) hW.obj rfl⟩, ⟨heap_lt hW.obj, Nat.lt_of_lt_of_le hb hW.bel.size⟩, HTR.out.below hW.bel,
      by rw [hW.bel.cell hb, ← hR.sig]; exact hc 0 (by omega), by rw [hW.bel.cell hb, ← htr]; exact hc 1 (by omega), by rw [hW.bel.cell hb, ← hp]; exact hc 2 (by omega), by rw [hW.bel.cell hb, ← hR.app]; exact hc 3 (by omega), by rw [hW.bel.cell hb, ← hcn]; exact hc 4 (by omega), by rw [hW.bel.cell hb, ← hR.hold]; exact hc 5 (by omega)⟩
  obtain ⟨w1, hw1⟩ : ∃ w1, w1 = w.alloc (.cells #[.pointer (some ⟨u.g, 0, none⟩), .int .u32 (f.cl : Int), .int .u32 (f.no : Int), .int .u32 (f.re : Int), .int .u32 (f.ak : Int), .int .u32 (f.ca : Int), .int .u32 (f.rq : Int)] 116) := ⟨_, rfl⟩
  have B1 : Hid (Below w.heap.size w w1) := by rw [hw1]; exact tb_alloc_below _ _
  have K1 : Hid (w1.heap[w.heap.size]? = some (.cells #[.pointer (some ⟨u.g, 0, none⟩), .int .u32 (f.cl : Int), .int .u32 (f.no : Int), .int .u32 (f.re : Int), .int .u32 (f.ak : Int), .int .u32 (f.ca : Int), .int .u32 (f.rq : Int)] 116 (0, 0))) := by rw [hw1]; exact heap_alloc_new _ _
  have HW1 := Lib.hid hw1
  have RB : Hid (u.rb < w.heap.size) := h.rlt
  have A1 : Hid (AutoAt w1 u S) := h.below B1.out
  have HS := Lib.hid hS; have HF := Lib.hid hf
  clear hw1 hc hR hrt hvr hvs htr hp hcn h hrr hT hS hf
  generalize hlen : u.T.rts.length = m at *
  have HLEN := Lib.hid hlen
  clear hlen
  obtain ⟨fb, hfb⟩ : ∃ fb, fb = w.heap.size := ⟨_, rfl⟩
  have HFB := Lib.hid hfb
  rw [← hfb] at K1
  have i0 : (0 : Int) ≤ (n : Int) := by omega
  have i1 : (n : Int) < (m : Int) := by omega
  have HSV : Hid (∀ W, Below w1.heap.size w1 W → (W.cell? ⟨fb, 0, none⟩ = some (.pointer (some ⟨u.g, 0, none⟩)) ∧ W.cell? ⟨u.g, 3, none⟩ = some (.slice (some ⟨b, off, none⟩) m rc) ∧ W.cell? ⟨u.g, 4, none⟩ = some (.slice (some ⟨u.rb, 0, none⟩) m sc)) ∧
      W.cell? ⟨b, off + n * 6, none⟩ = some (.int .i64 r.sig) ∧ W.cell? ⟨b, off + n * 6 + 1, none⟩ = some (.slice ta r.tr.length tc) ∧ W.cell? ⟨b, off + n * 6 + 2, none⟩ = some (.slice pa r.pts.length pc) ∧ W.cell? ⟨b, off + n * 6 + 3, none⟩ = some (.int .i64 r.app) ∧ W.cell? ⟨b, off + n * 6 + 4, none⟩ = some (.slice ca r.con.length cc) ∧ W.cell? ⟨b, off + n * 6 + 5, none⟩ = some (.int .u16 (r.hold : Int))) := fun W hW => by
    have hA := A1.out.below hW
    have hg := HG.out W S hA
    exact ⟨⟨cell_row (j := 0) (tb_kept K1.out hW) rfl, hg.1.1, hg.1.2⟩, hg.2.2.2⟩
  have HPH := Lib.hid (HS.out.R n).ph
  have hphl := (HS.out.R n).ph
  have HSN := Lib.hid (HS.out.R n)
  have HGO : Hid (goR f r n (S.R n) = if (S.R n).ph = 0 then S.R n else if (goR1 f r n (S.R n)).ph = 3 then trainR f r.tr (goR1 f r n (S.R n)) else goR1 f r n (S.R n)) := rfl
  have HG1 : Hid (goR1 f r n (S.R n) = if (S.R n).ph ≠ 3 ∧ bt f.cl (r.tr.getD 0 0) = false then ⟨3, 0, 0, 0⟩
    else if (S.R n).ph = 1 ∧ f.ca.testBit n = true then (if 0 ≤ r.app ∧ bt f.cl r.app = false then ⟨2, 0, 0, 0⟩ else rs0)
    else if (S.R n).ph = 2 then (if r.hold ≤ upTime (S.R n).tm then rs0 else { S.R n with tm := upTime (S.R n).tm })
    else S.R n) := rfl
  obtain ⟨G, hG⟩ : ∃ G, G = goR f r n (S.R n) := ⟨_, rfl⟩
  rw [← hG] at HGO
  rw [← hG]
  clear hG
  obtain ⟨G1, hG1⟩ : ∃ G1, G1 = goR1 f r n (S.R n) := ⟨_, rfl⟩
  rw [← hG1] at HGO HG1
  clear hG1
  go_enter Try.func47, Try.ntmps47
  go_upto_region 1 with fail
  rw [← HW1.out, ← hfb]
  clear hfb
  have BD : Hid (Below w1.heap.size w1 w1.drew) := (Below.refl _ _).drew
  have BA : Hid (∀ o, Below w1.heap.size w1 (w1.drew.alloc o)) := fun o => BD.out.alloc (Nat.le_refl _) _
  go_region_held3 (fun W => (W.cell? ⟨fb, 0, none⟩ = some (.pointer (some ⟨u.g, 0, none⟩)) ∧ W.cell? ⟨u.g, 3, none⟩ = some (.slice (some ⟨b, off, none⟩) m rc) ∧ W.cell? ⟨u.g, 4, none⟩ = some (.slice (some ⟨u.rb, 0, none⟩) m sc)) ∧
      W.cell? ⟨b, off + n * 6, none⟩ = some (.int .i64 r.sig) ∧ W.cell? ⟨b, off + n * 6 + 1, none⟩ = some (.slice ta r.tr.length tc) ∧ W.cell? ⟨b, off + n * 6 + 2, none⟩ = some (.slice pa r.pts.length pc) ∧ W.cell? ⟨b, off + n * 6 + 3, none⟩ = some (.int .i64 r.app) ∧ W.cell? ⟨b, off + n * 6 + 4, none⟩ = some (.slice ca r.con.length cc) ∧ W.cell? ⟨b, off + n * 6 + 5, none⟩ = some (.int .u16 (r.hold : Int)))
    (first | exact HSV.out _ (BA.out _) | exact HSV.out _ BD.out)
    (fail)
  obtain ⟨w2, hw2⟩ : ∃ w2, w2 = (w1.alloc (.cells #[.int .i64 r.sig, .slice ta r.tr.length tc, .slice pa r.pts.length pc, .int .i64 r.app, .slice ca r.con.length cc, .int .u16 (r.hold : Int)] 41)).drew := ⟨_, rfl⟩
  have B12 : Hid (Below w1.heap.size w1 w2) := by rw [hw2]; exact (tb_alloc_below _ _).drew
  have K2 : Hid (w2.heap[w1.heap.size]? = some (.cells #[.int .i64 r.sig, .slice ta r.tr.length tc, .slice pa r.pts.length pc, .int .i64 r.app, .slice ca r.con.length cc, .int .u16 (r.hold : Int)] 41 (0, 0))) := by rw [hw2]; exact heap_alloc_new _ _
  have A2 : Hid (AutoAt w2 u S) := A1.out.below B12.out
  rw [← hw2]
  obtain ⟨kb, hkb⟩ : ∃ kb, kb = w1.heap.size := ⟨_, rfl⟩
  have KB : Hid (u.rb < kb) := by have := RB.out; have := B1.out.size; show _ < _; omega
  rw [← hkb] at K2 ⊢
  rename_i hold0
  clear hold0 hw2 hkb BD BA HSV
  have HK : Hid (∀ W, Only (fun b => b = u.rb) w2 W → W.heap[fb]? = some (.cells #[.pointer (some ⟨u.g, 0, none⟩), .int .u32 (f.cl : Int), .int .u32 (f.no : Int), .int .u32 (f.re : Int), .int .u32 (f.ak : Int), .int .u32 (f.ca : Int), .int .u32 (f.rq : Int)] 116 (0, 0)) ∧ W.heap[kb]? = some (.cells #[.int .i64 r.sig, .slice ta r.tr.length tc, .slice pa r.pts.length pc, .int .i64 r.app, .slice ca r.con.length cc, .int .u16 (r.hold : Int)] 41 (0, 0))) := fun W hW =>
    ⟨(hW.block _ (heap_lt (tb_kept K1.out B12.out)) (by have := RB.out; have := HFB.out; omega)).trans (tb_kept K1.out B12.out), (hW.block _ (heap_lt K2.out) (by have := KB.out; omega)).trans K2.out⟩
  have O9 : Hid (∀ W, Only (fun b => b = u.rb) w2 W → Only (fun b => b = u.rb) w W) := fun W hW => (Only.of_below _ (B1.out.trans (B12.out.mono B1.out.size))).trans hW
  have O2 : Hid (Only (fun b => b = u.rb) w2 w2) := Only.refl _ _
  by_cases p0 : (S.R n).ph = 0
  · have HE : Hid (G = S.R n) := by show _ = _; rw [HGO.out, if_pos p0]
    obtain ⟨r0, r1, r2, r3, fr⟩ := A2.out.rcell (n := n) (by rw [HLEN.out]; exact hn)
    have f0 := fr (n * 4); have f1 := fr (n * 4 + 1); have f2 := fr (n * 4 + 2); have f3 := fr (n * 4 + 3)
    have lr := A2.out.rlt
    clear fr
    rw [p0] at r0
    clear p0
    go_wp2_with fail
    refine bodyPost_ret (results_none rfl _ _ _) rfl ⟨rfl, ?_, O9.out _ O2.out⟩
    rw [HE.out, S.setR_same]
    exact A2.out
  have HGN : Hid (G = if G1.ph = 3 then trainR f r.tr G1 else G1) := by show _ = _; rw [HGO.out, if_neg p0]
  by_cases p3 : (S.R n).ph = 3
  · have HE1 : Hid (G1 = S.R n) := by show _ = _; rw [HG1.out, if_neg (fun h => h.1 p3), if_neg (fun h => by omega), if_neg (by omega)]
    have G1P : Hid (G1.ph = 3) := by show _ = _; rw [HE1.out]; exact p3
    have G1O : Hid G1.Ok := by show G1.Ok; rw [HE1.out]; exact HSN.out
    have A3 : Hid (AutoAt w2 u (S.setR n G1)) := by show AutoAt _ _ _; rw [HE1.out, S.setR_same]; exact A2.out
    clear p0 p3
    have c0 := cell_row (j := 0) (HK.out w2 O2.out).1 rfl
    have c1 := cell_row (j := 1) (HK.out w2 O2.out).1 rfl
    have c2 := cell_row (j := 2) (HK.out w2 O2.out).1 rfl
    have c3 := cell_row (j := 3) (HK.out w2 O2.out).1 rfl
    have c4 := cell_row (j := 4) (HK.out w2 O2.out).1 rfl
    have c5 := cell_row (j := 5) (HK.out w2 O2.out).1 rfl
    have c6 := cell_row (j := 6) (HK.out w2 O2.out).1 rfl
    have d1 := cell_row (j := 1) (HK.out w2 O2.out).2 rfl
    have d3 := cell_row (j := 3) (HK.out w2 O2.out).2 rfl
    have d5 := cell_row (j := 5) (HK.out w2 O2.out).2 rfl
    have l0 := heap_lt (HK.out w2 O2.out).1; have l1 := heap_lt (HK.out w2 O2.out).2
    obtain ⟨r0, r1, r2, r3, fr⟩ := A3.out.rcell (n := n) (by rw [HLEN.out]; exact hn)
    have f0 := fr (n * 4); have f1 := fr (n * 4 + 1); have f2 := fr (n * 4 + 2); have f3 := fr (n * 4 + 3)
    have lr := A3.out.rlt
    clear fr
    rw [S.setR_R, G1P.out] at r0
    go_wp2_with fail
    go_quiet (fail)
    have A4 := Lib.hid (A3.out.drewN (k := nq)); have O4 := Lib.hid (O2.out.drewN (n := nq))
    generalize w2.drewN nq = w4 at *
    clear c0 c1 c2 c3 c4 c5 c6 d1 d3 d5 l0 l1
    clear r0 r1 r2 r3 f0 f1 f2 f3 lr
    obtain ⟨r0, r1, r2, r3, fr⟩ := A4.out.rcell (n := n) (by rw [HLEN.out]; exact hn)
    have f0 := fr (n * 4); have f1 := fr (n * 4 + 1); have f2 := fr (n * 4 + 2); have f3 := fr (n * 4 + 3)
    have lr := A4.out.rlt
    clear fr
    rw [S.setR_R, G1P.out] at r0
    go_upto_region 14 with fail
    clear r0 r1 r2 r3 f0 f1 f2 f3 lr
    -- the route is in, as G1
    have HE : Hid (G = trainR f r.tr G1) := by show _ = _; rw [HGN.out, if_pos G1P.out]
    have HTC := Lib.hid (train_any u (S.setR n G1) f n w4 A4.out HF.out.cl (by rw [HLEN.out]; exact hn) (by rw [HLEN.out]; exact hN) HTL.out.2 (fun i hi => (HTRR.out i hi).1) (by rw [S.setR_R]; exact G1O.out.us) (by rw [S.setR_R]; exact G1O.out.rl))
    rw [S.setR_R, S.setR_setR, ← HRR.out, ← HE.out] at HTC
    have c0 := cell_row (j := 0) (HK.out w4 O4.out).1 rfl
    have c1 := cell_row (j := 1) (HK.out w4 O4.out).1 rfl
    have c2 := cell_row (j := 2) (HK.out w4 O4.out).1 rfl
    have c3 := cell_row (j := 3) (HK.out w4 O4.out).1 rfl
    have c4 := cell_row (j := 4) (HK.out w4 O4.out).1 rfl
    have c5 := cell_row (j := 5) (HK.out w4 O4.out).1 rfl
    have c6 := cell_row (j := 6) (HK.out w4 O4.out).1 rfl
    have d1 := cell_row (j := 1) (HK.out w4 O4.out).2 rfl
    have d3 := cell_row (j := 3) (HK.out w4 O4.out).2 rfl
    have d5 := cell_row (j := 5) (HK.out w4 O4.out).2 rfl
    have l0 := heap_lt (HK.out w4 O4.out).1; have l1 := heap_lt (HK.out w4 O4.out).2
    obtain ⟨r0, r1, r2, r3, fr⟩ := A4.out.rcell (n := n) (by rw [HLEN.out]; exact hn)
    have f0 := fr (n * 4); have f1 := fr (n * 4 + 1); have f2 := fr (n * 4 + 2); have f3 := fr (n * 4 + 3)
    have lr := A4.out.rlt
    clear fr
    rw [S.setR_R, G1P.out] at r0
    go_wp2_with fail
    refine HTC.out.mono ?_
    rintro e w9 ⟨rfl, ha9, ho9⟩
    have A9 := Lib.hid ha9; have O99 := Lib.hid (O4.out.trans ho9)
    clear ha9 ho9
    clear c0 c1 c2 c3 c4 c5 c6 d1 d3 d5 l0 l1
    clear r0 r1 r2 r3 f0 f1 f2 f3 lr
    go_wp2_with fail
    go_end0
    exact ⟨rfl, A9.out, O9.out _ O99.out⟩
  obtain ⟨tb, tof, hta, htb, x0⟩ := (HTR.out.below A2.out.bel).cell htl.1
  rw [Nat.add_zero] at x0
  have HCLR := Lib.hid (fun W => clear_any u f (r.tr.getD 0 0) W HF.out.cl htr0.1)
  generalize hfc : bt f.cl (r.tr.getD 0 0) = fc at *
  have HFC := Lib.hid hfc
  clear hfc
  generalize r.tr.getD 0 0 = y0 at *
  subst hta
  have HBC := Lib.hid (fun W => bit_any f.ca n W HF.out.ca)
  have c0 := cell_row (j := 0) (HK.out w2 O2.out).1 rfl
  have c1 := cell_row (j := 1) (HK.out w2 O2.out).1 rfl
  have c2 := cell_row (j := 2) (HK.out w2 O2.out).1 rfl
  have c3 := cell_row (j := 3) (HK.out w2 O2.out).1 rfl
  have c4 := cell_row (j := 4) (HK.out w2 O2.out).1 rfl
  have c5 := cell_row (j := 5) (HK.out w2 O2.out).1 rfl
  have c6 := cell_row (j := 6) (HK.out w2 O2.out).1 rfl
  have d1 := cell_row (j := 1) (HK.out w2 O2.out).2 rfl
  have d3 := cell_row (j := 3) (HK.out w2 O2.out).2 rfl
  have d5 := cell_row (j := 5) (HK.out w2 O2.out).2 rfl
  have l0 := heap_lt (HK.out w2 O2.out).1; have l1 := heap_lt (HK.out w2 O2.out).2
  obtain ⟨r0, r1, r2, r3, fr⟩ := A2.out.rcell (n := n) (by rw [HLEN.out]; exact hn)
  have f0 := fr (n * 4); have f1 := fr (n * 4 + 1); have f2 := fr (n * 4 + 2); have f3 := fr (n * 4 + 3)
  have lr := A2.out.rlt
  clear fr
  have p12 : (S.R n).ph = 1 ∨ (S.R n).ph = 2 := by omega
  rcases p12 with p1 | p2
  · rw [p1] at r0
    go_upto_region 3 with fail
    obtain ⟨U, fU, hUn, hU1, hU2⟩ := class_of (fun V => Below w2.heap.size w2 V) (W := w2.drew) ⟨rfl, rfl, rfl, Nat.le_refl _, fun _ _ => rfl⟩
    have HU1 := Lib.hid hU1; have HU2 := Lib.hid hU2
    clear hU1 hU2
    have hfm : (Try.prog).follows .mixedOrders = true := by kernel_rfl
    obtain ⟨q, hd1⟩ : ∃ q : Nat, 1 ≤ q := ⟨1, Nat.le_refl _⟩
    have y0c := fun uu => ((HU1.out uu).cell l0).trans c0
    have y1c := fun uu => ((HU1.out uu).cell l0).trans c1
    have y2c := fun uu => ((HU1.out uu).cell l0).trans c2
    have y3c := fun uu => ((HU1.out uu).cell l0).trans c3
    have y4c := fun uu => ((HU1.out uu).cell l0).trans c4
    have y5c := fun uu => ((HU1.out uu).cell l0).trans c5
    have y6c := fun uu => ((HU1.out uu).cell l0).trans c6
    have y1d := fun uu => ((HU1.out uu).cell l1).trans d1
    have y0r := fun uu => ((HU1.out uu).cell lr).trans r0
    have y0x := fun uu => ((HU1.out uu).cell htb).trans x0
    have h0_HR : ∀ uu, Calls Try.prog 62 #[.agg #[.pointer (some ⟨u.g, 0, none⟩), .int .u32 (f.cl : Int), .int .u32 (f.no : Int), .int .u32 (f.re : Int), .int .u32 (f.ak : Int), .int .u32 (f.ca : Int), .int .u32 (f.rq : Int)], .int .i64 y0] (fU uu) fun e w' => e = .returned (.bool fc) ∧ Below (fU uu).heap.size (fU uu) w' := fun uu => HCLR.out (fU uu)
    have HR : Hid (∀ uu, CallsIn Fence.wide (q - 1) Try.prog 62 #[.agg #[.pointer (some ⟨u.g, 0, none⟩), .int .u32 (f.cl : Int), .int .u32 (f.no : Int), .int .u32 (f.re : Int), .int .u32 (f.ak : Int), .int .u32 (f.ca : Int), .int .u32 (f.rq : Int)], .int .i64 y0] (fU uu) fun e w' => e = .returned (.bool fc) ∧ ∃ uu', w' = fU uu') := fun uu => (callsIn_wide.2 (h0_HR uu)).mono (fun e w' ⟨he, hb⟩ => ⟨he, HU2.out _ ((HU1.out uu).trans (hb.mono (HU1.out uu).size))⟩)
    have hf_HR : Fence.wide.fn 62 := trivial
    clear h0_HR
    refine (wpIn_wide (n := q)).1 ?_
    refine wpIn_region_cls fU (by kernel_rfl) hfm (by kernel_rfl) (HU2.out _ ⟨rfl, rfl, rfl, Nat.le_refl _, fun _ _ => rfl⟩) ?_
    repeat (gi_big_quiet_step (first | (gi_at_call 62; (with_reducible exact HR.out _))))
    refine wpQuietIn_nil ?_
    rintro w3 ⟨uu, rfl⟩
    have B3 := Lib.hid ((Below.refl w2.heap.size w2).trans ((HU1.out uu).mono (Below.refl w2.heap.size w2).size))
    generalize fU uu = w3 at *
    clear HU1 HU2
    have A3 := Lib.hid (A2.out.below B3.out); have O3 := Lib.hid (O2.out.trans (Only.of_below _ B3.out))
    clear y0c y1c y2c y3c y4c y5c y6c y1d y0r y0x HR hf_HR c0 c1 c2 c3 c4 c5 c6 d1 d3 d5 l0 l1 r0 r1 r2 r3 f0 f1 f2 f3 lr B3
    have c0 := cell_row (j := 0) (HK.out w3 O3.out).1 rfl
    have c1 := cell_row (j := 1) (HK.out w3 O3.out).1 rfl
    have c2 := cell_row (j := 2) (HK.out w3 O3.out).1 rfl
    have c3 := cell_row (j := 3) (HK.out w3 O3.out).1 rfl
    have c4 := cell_row (j := 4) (HK.out w3 O3.out).1 rfl
    have c5 := cell_row (j := 5) (HK.out w3 O3.out).1 rfl
    have c6 := cell_row (j := 6) (HK.out w3 O3.out).1 rfl
    have d1 := cell_row (j := 1) (HK.out w3 O3.out).2 rfl
    have d3 := cell_row (j := 3) (HK.out w3 O3.out).2 rfl
    have d5 := cell_row (j := 5) (HK.out w3 O3.out).2 rfl
    have l0 := heap_lt (HK.out w3 O3.out).1; have l1 := heap_lt (HK.out w3 O3.out).2
    obtain ⟨r0, r1, r2, r3, fr⟩ := A3.out.rcell (n := n) (by rw [HLEN.out]; exact hn)
    have f0 := fr (n * 4); have f1 := fr (n * 4 + 1); have f2 := fr (n * 4 + 2); have f3 := fr (n * 4 + 3)
    have lr := A3.out.rlt
    clear fr
    cases fc
    case false =>
      -- its first section is not clear: it is in
      have HE1 : Hid (G1 = ⟨3, 0, 0, 0⟩) := by show _ = _; rw [HG1.out, if_pos ⟨by omega, rfl⟩]
      have G1P : Hid (G1.ph = 3) := by show _ = _; rw [HE1.out]
      have G1O : Hid G1.Ok := by show G1.Ok; rw [HE1.out]; exact ⟨by decide, by decide, by decide, by decide⟩
      rw [p1] at r0
      go_upto_region 14 with fail
      have A4 : Hid (AutoAt ((((w3.setCell ⟨u.rb, n * 4, none⟩ (.int .u8 3)).setCell ⟨u.rb, n * 4 + 1, none⟩ (.int .u16 0)).setCell ⟨u.rb, n * 4 + 2, none⟩ (.int .u32 0)).setCell ⟨u.rb, n * 4 + 3, none⟩ (.int .u32 0)) u (S.setR n G1)) := by
        show AutoAt _ _ _
        rw [HE1.out]; exact A3.out.setAll (n := n) (by rw [HLEN.out]; exact hn) ⟨3, 0, 0, 0⟩
      have O4 : Hid (Only (fun b => b = u.rb) w2 ((((w3.setCell ⟨u.rb, n * 4, none⟩ (.int .u8 3)).setCell ⟨u.rb, n * 4 + 1, none⟩ (.int .u16 0)).setCell ⟨u.rb, n * 4 + 2, none⟩ (.int .u32 0)).setCell ⟨u.rb, n * 4 + 3, none⟩ (.int .u32 0))) := (((O3.out.set _ _ (.inr rfl)).set _ _ (.inr rfl)).set _ _ (.inr rfl)).set _ _ (.inr rfl)
      generalize ((((w3.setCell ⟨u.rb, n * 4, none⟩ (.int .u8 3)).setCell ⟨u.rb, n * 4 + 1, none⟩ (.int .u16 0)).setCell ⟨u.rb, n * 4 + 2, none⟩ (.int .u32 0)).setCell ⟨u.rb, n * 4 + 3, none⟩ (.int .u32 0)) = w4 at *
      clear c0 c1 c2 c3 c4 c5 c6 d1 d3 d5 l0 l1
      clear r0 r1 r2 r3 f0 f1 f2 f3 lr
      -- the route is in, as G1
      have HE : Hid (G = trainR f r.tr G1) := by show _ = _; rw [HGN.out, if_pos G1P.out]
      have HTC := Lib.hid (train_any u (S.setR n G1) f n w4 A4.out HF.out.cl (by rw [HLEN.out]; exact hn) (by rw [HLEN.out]; exact hN) HTL.out.2 (fun i hi => (HTRR.out i hi).1) (by rw [S.setR_R]; exact G1O.out.us) (by rw [S.setR_R]; exact G1O.out.rl))
      rw [S.setR_R, S.setR_setR, ← HRR.out, ← HE.out] at HTC
      have c0 := cell_row (j := 0) (HK.out w4 O4.out).1 rfl
      have c1 := cell_row (j := 1) (HK.out w4 O4.out).1 rfl
      have c2 := cell_row (j := 2) (HK.out w4 O4.out).1 rfl
      have c3 := cell_row (j := 3) (HK.out w4 O4.out).1 rfl
      have c4 := cell_row (j := 4) (HK.out w4 O4.out).1 rfl
      have c5 := cell_row (j := 5) (HK.out w4 O4.out).1 rfl
      have c6 := cell_row (j := 6) (HK.out w4 O4.out).1 rfl
      have d1 := cell_row (j := 1) (HK.out w4 O4.out).2 rfl
      have d3 := cell_row (j := 3) (HK.out w4 O4.out).2 rfl
      have d5 := cell_row (j := 5) (HK.out w4 O4.out).2 rfl
      have l0 := heap_lt (HK.out w4 O4.out).1; have l1 := heap_lt (HK.out w4 O4.out).2
      obtain ⟨r0, r1, r2, r3, fr⟩ := A4.out.rcell (n := n) (by rw [HLEN.out]; exact hn)
      have f0 := fr (n * 4); have f1 := fr (n * 4 + 1); have f2 := fr (n * 4 + 2); have f3 := fr (n * 4 + 3)
      have lr := A4.out.rlt
      clear fr
      rw [S.setR_R, G1P.out] at r0
      go_wp2_with fail
      refine HTC.out.mono ?_
      rintro e w9 ⟨rfl, ha9, ho9⟩
      have A9 := Lib.hid ha9; have O99 := Lib.hid (O4.out.trans ho9)
      clear ha9 ho9
      clear c0 c1 c2 c3 c4 c5 c6 d1 d3 d5 l0 l1
      clear r0 r1 r2 r3 f0 f1 f2 f3 lr
      go_wp2_with fail
      go_end0
      exact ⟨rfl, A9.out, O9.out _ O99.out⟩
    case true =>
    rw [p1] at r0
    rw [if_neg (fun h => by cases h.2)] at HG1
    generalize hcb : f.ca.testBit n = cb at *
    clear hcb
    cases cb
    case false =>
      have HE1 : Hid (G1 = S.R n) := by show _ = _; rw [HG1.out, if_neg (fun h => by cases h.2), if_neg (by omega)]
      have HE : Hid (G = S.R n) := by show _ = _; rw [HGN.out, HE1.out, if_neg (by omega)]
      go_wp2_with fail
      (with_reducible refine (HBC.out _).mono ?_)
      rintro e w3 ⟨rfl, rfl⟩
      go_wp2_with fail
      go_end0
      exact ⟨rfl, by rw [HE.out, S.setR_same]; exact A3.out, O9.out _ O3.out⟩
    case true =>
    rw [if_pos ⟨p1, rfl⟩] at HG1
    go_wp2_with fail
    (with_reducible refine (HBC.out _).mono ?_)
    rintro e w3 ⟨rfl, rfl⟩
    go_upto_region 7 with fail
    have A4 : Hid (AutoAt ((((w3.setCell ⟨u.rb, n * 4, none⟩ (.int .u8 0)).setCell ⟨u.rb, n * 4 + 1, none⟩ (.int .u16 0)).setCell ⟨u.rb, n * 4 + 2, none⟩ (.int .u32 0)).setCell ⟨u.rb, n * 4 + 3, none⟩ (.int .u32 0)) u (S.setR n rs0)) := by
      show AutoAt _ _ _
      have this := A3.out.setAll (n := n) (by rw [HLEN.out]; exact hn) rs0
      first | exact this | (rw [S.setR_setR] at this; exact this)
    have O4 : Hid (Only (fun b => b = u.rb) w2 ((((w3.setCell ⟨u.rb, n * 4, none⟩ (.int .u8 0)).setCell ⟨u.rb, n * 4 + 1, none⟩ (.int .u16 0)).setCell ⟨u.rb, n * 4 + 2, none⟩ (.int .u32 0)).setCell ⟨u.rb, n * 4 + 3, none⟩ (.int .u32 0))) := (((O3.out.set _ _ (.inr rfl)).set _ _ (.inr rfl)).set _ _ (.inr rfl)).set _ _ (.inr rfl)
    generalize ((((w3.setCell ⟨u.rb, n * 4, none⟩ (.int .u8 0)).setCell ⟨u.rb, n * 4 + 1, none⟩ (.int .u16 0)).setCell ⟨u.rb, n * 4 + 2, none⟩ (.int .u32 0)).setCell ⟨u.rb, n * 4 + 3, none⟩ (.int .u32 0)) = w4 at *
    clear c0 c1 c2 c3 c4 c5 c6 d1 d3 d5 l0 l1
    clear r0 r1 r2 r3 f0 f1 f2 f3 lr
    have c0 := cell_row (j := 0) (HK.out w4 O4.out).1 rfl
    have c1 := cell_row (j := 1) (HK.out w4 O4.out).1 rfl
    have c2 := cell_row (j := 2) (HK.out w4 O4.out).1 rfl
    have c3 := cell_row (j := 3) (HK.out w4 O4.out).1 rfl
    have c4 := cell_row (j := 4) (HK.out w4 O4.out).1 rfl
    have c5 := cell_row (j := 5) (HK.out w4 O4.out).1 rfl
    have c6 := cell_row (j := 6) (HK.out w4 O4.out).1 rfl
    have d1 := cell_row (j := 1) (HK.out w4 O4.out).2 rfl
    have d3 := cell_row (j := 3) (HK.out w4 O4.out).2 rfl
    have d5 := cell_row (j := 5) (HK.out w4 O4.out).2 rfl
    have l0 := heap_lt (HK.out w4 O4.out).1; have l1 := heap_lt (HK.out w4 O4.out).2
    cases ta0 : decide (0 ≤ r.app)
    case false =>
      have hneg : ¬ 0 ≤ r.app := by simpa using ta0
      rw [if_neg (fun h => hneg h.1)] at HG1
      -- the route is free again
      have HE1 : Hid (G1 = rs0) := HG1.out
      have HE : Hid (G = rs0) := by show _ = _; rw [HGN.out, HE1.out]; rfl
      obtain ⟨r0, r1, r2, r3, fr⟩ := A4.out.rcell (n := n) (by rw [HLEN.out]; exact hn)
      have f0 := fr (n * 4); have f1 := fr (n * 4 + 1); have f2 := fr (n * 4 + 2); have f3 := fr (n * 4 + 3)
      have lr := A4.out.rlt
      clear fr
      rw [S.setR_R] at r0
      have r0' : w4.cell? ⟨u.rb, n * 4, none⟩ = some (.int .u8 0) := r0
      clear r0
      go_wp2_with fail
      go_end0
      exact ⟨rfl, by rw [HE.out]; exact A4.out, O9.out _ O4.out⟩
    case true =>
    have hpos : 0 ≤ r.app := by simpa using ta0
    have HCLA := Lib.hid (fun W => clear_any u f r.app W HF.out.cl hpos)
    generalize hac : bt f.cl r.app = ac at *
    clear hac hpos
    cases ac
    case true =>
      rw [if_neg (fun h => by cases h.2)] at HG1
      go_wp2_with fail
      (with_reducible refine (HCLA.out _).mono ?_)
      rintro e w5 ⟨rfl, hb⟩
      have A5 := Lib.hid (A4.out.below hb); have O5 := Lib.hid (O4.out.trans (Only.of_below _ hb))
      clear hb
      clear c0 c1 c2 c3 c4 c5 c6 d1 d3 d5 l0 l1
      -- the route is free again
      have HE1 : Hid (G1 = rs0) := HG1.out
      have HE : Hid (G = rs0) := by show _ = _; rw [HGN.out, HE1.out]; rfl
      obtain ⟨r0, r1, r2, r3, fr⟩ := A5.out.rcell (n := n) (by rw [HLEN.out]; exact hn)
      have f0 := fr (n * 4); have f1 := fr (n * 4 + 1); have f2 := fr (n * 4 + 2); have f3 := fr (n * 4 + 3)
      have lr := A5.out.rlt
      clear fr
      rw [S.setR_R] at r0
      have r0' : w5.cell? ⟨u.rb, n * 4, none⟩ = some (.int .u8 0) := r0
      clear r0
      go_wp2_with fail
      go_end0
      exact ⟨rfl, by rw [HE.out]; exact A5.out, O9.out _ O5.out⟩
    case false =>
      have HE1 : Hid (G1 = ⟨2, 0, 0, 0⟩) := by show _ = _; rw [HG1.out, if_pos ⟨by simpa using ta0, rfl⟩]
      have HE : Hid (G = ⟨2, 0, 0, 0⟩) := by show _ = _; rw [HGN.out, HE1.out]; rfl
      go_wp2_with fail
      (with_reducible refine (HCLA.out _).mono ?_)
      rintro e w5 ⟨rfl, hb⟩
      have A5 := Lib.hid (A4.out.below hb); have O5 := Lib.hid (O4.out.trans (Only.of_below _ hb))
      clear hb
      clear c0 c1 c2 c3 c4 c5 c6 d1 d3 d5 l0 l1
      obtain ⟨r0, r1, r2, r3, fr⟩ := A5.out.rcell (n := n) (by rw [HLEN.out]; exact hn)
      have f0 := fr (n * 4); have f1 := fr (n * 4 + 1); have f2 := fr (n * 4 + 2); have f3 := fr (n * 4 + 3)
      have lr := A5.out.rlt
      clear fr
      go_upto_region 14 with fail
      have A6 : Hid (AutoAt (w5.setCell ⟨u.rb, n * 4, none⟩ (.int .u8 2)) u (S.setR n ⟨2, 0, 0, 0⟩)) := by
        have := A5.out.setPh (n := n) (by rw [HLEN.out]; exact hn) 2
        rw [S.setR_setR, S.setR_R] at this
        exact this
      have O6 : Hid (Only (fun b => b = u.rb) w2 (w5.setCell ⟨u.rb, n * 4, none⟩ (.int .u8 2))) := O5.out.set _ _ (.inr rfl)
      generalize w5.setCell ⟨u.rb, n * 4, none⟩ (.int .u8 2) = w6 at *
      clear r0 r1 r2 r3 f0 f1 f2 f3 lr
      obtain ⟨r0, r1, r2, r3, fr⟩ := A6.out.rcell (n := n) (by rw [HLEN.out]; exact hn)
      have f0 := fr (n * 4); have f1 := fr (n * 4 + 1); have f2 := fr (n * 4 + 2); have f3 := fr (n * 4 + 3)
      have lr := A6.out.rlt
      clear fr
      rw [S.setR_R] at r0
      have r0' : w6.cell? ⟨u.rb, n * 4, none⟩ = some (.int .u8 2) := r0
      clear r0
      go_wp2_with fail
      go_end0
      exact ⟨rfl, by rw [HE.out]; exact A6.out, O9.out _ O6.out⟩
  · rw [p2] at r0
    go_upto_region 3 with fail
    obtain ⟨U, fU, hUn, hU1, hU2⟩ := class_of (fun V => Below w2.heap.size w2 V) (W := w2.drew) ⟨rfl, rfl, rfl, Nat.le_refl _, fun _ _ => rfl⟩
    have HU1 := Lib.hid hU1; have HU2 := Lib.hid hU2
    clear hU1 hU2
    have hfm : (Try.prog).follows .mixedOrders = true := by kernel_rfl
    obtain ⟨q, hd1⟩ : ∃ q : Nat, 1 ≤ q := ⟨1, Nat.le_refl _⟩
    have y0c := fun uu => ((HU1.out uu).cell l0).trans c0
    have y1c := fun uu => ((HU1.out uu).cell l0).trans c1
    have y2c := fun uu => ((HU1.out uu).cell l0).trans c2
    have y3c := fun uu => ((HU1.out uu).cell l0).trans c3
    have y4c := fun uu => ((HU1.out uu).cell l0).trans c4
    have y5c := fun uu => ((HU1.out uu).cell l0).trans c5
    have y6c := fun uu => ((HU1.out uu).cell l0).trans c6
    have y1d := fun uu => ((HU1.out uu).cell l1).trans d1
    have y0r := fun uu => ((HU1.out uu).cell lr).trans r0
    have y0x := fun uu => ((HU1.out uu).cell htb).trans x0
    have h0_HR : ∀ uu, Calls Try.prog 62 #[.agg #[.pointer (some ⟨u.g, 0, none⟩), .int .u32 (f.cl : Int), .int .u32 (f.no : Int), .int .u32 (f.re : Int), .int .u32 (f.ak : Int), .int .u32 (f.ca : Int), .int .u32 (f.rq : Int)], .int .i64 y0] (fU uu) fun e w' => e = .returned (.bool fc) ∧ Below (fU uu).heap.size (fU uu) w' := fun uu => HCLR.out (fU uu)
    have HR : Hid (∀ uu, CallsIn Fence.wide (q - 1) Try.prog 62 #[.agg #[.pointer (some ⟨u.g, 0, none⟩), .int .u32 (f.cl : Int), .int .u32 (f.no : Int), .int .u32 (f.re : Int), .int .u32 (f.ak : Int), .int .u32 (f.ca : Int), .int .u32 (f.rq : Int)], .int .i64 y0] (fU uu) fun e w' => e = .returned (.bool fc) ∧ ∃ uu', w' = fU uu') := fun uu => (callsIn_wide.2 (h0_HR uu)).mono (fun e w' ⟨he, hb⟩ => ⟨he, HU2.out _ ((HU1.out uu).trans (hb.mono (HU1.out uu).size))⟩)
    have hf_HR : Fence.wide.fn 62 := trivial
    clear h0_HR
    refine (wpIn_wide (n := q)).1 ?_
    refine wpIn_region_cls fU (by kernel_rfl) hfm (by kernel_rfl) (HU2.out _ ⟨rfl, rfl, rfl, Nat.le_refl _, fun _ _ => rfl⟩) ?_
    repeat (gi_big_quiet_step (first | (gi_at_call 62; (with_reducible exact HR.out _))))
    refine wpQuietIn_nil ?_
    rintro w3 ⟨uu, rfl⟩
    have B3 := Lib.hid ((Below.refl w2.heap.size w2).trans ((HU1.out uu).mono (Below.refl w2.heap.size w2).size))
    generalize fU uu = w3 at *
    clear HU1 HU2
    have A3 := Lib.hid (A2.out.below B3.out); have O3 := Lib.hid (O2.out.trans (Only.of_below _ B3.out))
    clear y0c y1c y2c y3c y4c y5c y6c y1d y0r y0x HR hf_HR c0 c1 c2 c3 c4 c5 c6 d1 d3 d5 l0 l1 r0 r1 r2 r3 f0 f1 f2 f3 lr B3
    have c0 := cell_row (j := 0) (HK.out w3 O3.out).1 rfl
    have c1 := cell_row (j := 1) (HK.out w3 O3.out).1 rfl
    have c2 := cell_row (j := 2) (HK.out w3 O3.out).1 rfl
    have c3 := cell_row (j := 3) (HK.out w3 O3.out).1 rfl
    have c4 := cell_row (j := 4) (HK.out w3 O3.out).1 rfl
    have c5 := cell_row (j := 5) (HK.out w3 O3.out).1 rfl
    have c6 := cell_row (j := 6) (HK.out w3 O3.out).1 rfl
    have d1 := cell_row (j := 1) (HK.out w3 O3.out).2 rfl
    have d3 := cell_row (j := 3) (HK.out w3 O3.out).2 rfl
    have d5 := cell_row (j := 5) (HK.out w3 O3.out).2 rfl
    have l0 := heap_lt (HK.out w3 O3.out).1; have l1 := heap_lt (HK.out w3 O3.out).2
    obtain ⟨r0, r1, r2, r3, fr⟩ := A3.out.rcell (n := n) (by rw [HLEN.out]; exact hn)
    have f0 := fr (n * 4); have f1 := fr (n * 4 + 1); have f2 := fr (n * 4 + 2); have f3 := fr (n * 4 + 3)
    have lr := A3.out.rlt
    clear fr
    cases fc
    case false =>
      -- its first section is not clear: it is in
      have HE1 : Hid (G1 = ⟨3, 0, 0, 0⟩) := by show _ = _; rw [HG1.out, if_pos ⟨by omega, rfl⟩]
      have G1P : Hid (G1.ph = 3) := by show _ = _; rw [HE1.out]
      have G1O : Hid G1.Ok := by show G1.Ok; rw [HE1.out]; exact ⟨by decide, by decide, by decide, by decide⟩
      rw [p2] at r0
      go_upto_region 14 with fail
      have A4 : Hid (AutoAt ((((w3.setCell ⟨u.rb, n * 4, none⟩ (.int .u8 3)).setCell ⟨u.rb, n * 4 + 1, none⟩ (.int .u16 0)).setCell ⟨u.rb, n * 4 + 2, none⟩ (.int .u32 0)).setCell ⟨u.rb, n * 4 + 3, none⟩ (.int .u32 0)) u (S.setR n G1)) := by
        show AutoAt _ _ _
        rw [HE1.out]; exact A3.out.setAll (n := n) (by rw [HLEN.out]; exact hn) ⟨3, 0, 0, 0⟩
      have O4 : Hid (Only (fun b => b = u.rb) w2 ((((w3.setCell ⟨u.rb, n * 4, none⟩ (.int .u8 3)).setCell ⟨u.rb, n * 4 + 1, none⟩ (.int .u16 0)).setCell ⟨u.rb, n * 4 + 2, none⟩ (.int .u32 0)).setCell ⟨u.rb, n * 4 + 3, none⟩ (.int .u32 0))) := (((O3.out.set _ _ (.inr rfl)).set _ _ (.inr rfl)).set _ _ (.inr rfl)).set _ _ (.inr rfl)
      generalize ((((w3.setCell ⟨u.rb, n * 4, none⟩ (.int .u8 3)).setCell ⟨u.rb, n * 4 + 1, none⟩ (.int .u16 0)).setCell ⟨u.rb, n * 4 + 2, none⟩ (.int .u32 0)).setCell ⟨u.rb, n * 4 + 3, none⟩ (.int .u32 0)) = w4 at *
      clear c0 c1 c2 c3 c4 c5 c6 d1 d3 d5 l0 l1
      clear r0 r1 r2 r3 f0 f1 f2 f3 lr
      -- the route is in, as G1
      have HE : Hid (G = trainR f r.tr G1) := by show _ = _; rw [HGN.out, if_pos G1P.out]
      have HTC := Lib.hid (train_any u (S.setR n G1) f n w4 A4.out HF.out.cl (by rw [HLEN.out]; exact hn) (by rw [HLEN.out]; exact hN) HTL.out.2 (fun i hi => (HTRR.out i hi).1) (by rw [S.setR_R]; exact G1O.out.us) (by rw [S.setR_R]; exact G1O.out.rl))
      rw [S.setR_R, S.setR_setR, ← HRR.out, ← HE.out] at HTC
      have c0 := cell_row (j := 0) (HK.out w4 O4.out).1 rfl
      have c1 := cell_row (j := 1) (HK.out w4 O4.out).1 rfl
      have c2 := cell_row (j := 2) (HK.out w4 O4.out).1 rfl
      have c3 := cell_row (j := 3) (HK.out w4 O4.out).1 rfl
      have c4 := cell_row (j := 4) (HK.out w4 O4.out).1 rfl
      have c5 := cell_row (j := 5) (HK.out w4 O4.out).1 rfl
      have c6 := cell_row (j := 6) (HK.out w4 O4.out).1 rfl
      have d1 := cell_row (j := 1) (HK.out w4 O4.out).2 rfl
      have d3 := cell_row (j := 3) (HK.out w4 O4.out).2 rfl
      have d5 := cell_row (j := 5) (HK.out w4 O4.out).2 rfl
      have l0 := heap_lt (HK.out w4 O4.out).1; have l1 := heap_lt (HK.out w4 O4.out).2
      obtain ⟨r0, r1, r2, r3, fr⟩ := A4.out.rcell (n := n) (by rw [HLEN.out]; exact hn)
      have f0 := fr (n * 4); have f1 := fr (n * 4 + 1); have f2 := fr (n * 4 + 2); have f3 := fr (n * 4 + 3)
      have lr := A4.out.rlt
      clear fr
      rw [S.setR_R, G1P.out] at r0
      go_wp2_with fail
      refine HTC.out.mono ?_
      rintro e w9 ⟨rfl, ha9, ho9⟩
      have A9 := Lib.hid ha9; have O99 := Lib.hid (O4.out.trans ho9)
      clear ha9 ho9
      clear c0 c1 c2 c3 c4 c5 c6 d1 d3 d5 l0 l1
      clear r0 r1 r2 r3 f0 f1 f2 f3 lr
      go_wp2_with fail
      go_end0
      exact ⟨rfl, A9.out, O9.out _ O99.out⟩
    case true =>
    rw [p2] at r0
    rw [if_neg (fun h => by cases h.2), if_neg (fun h => by omega), if_pos p2] at HG1
    have HUT : Hid (upTime (S.R n).tm = if (S.R n).tm < 65535 then (S.R n).tm + 1 else (S.R n).tm) := rfl
    have htm16 := HSN.out.tm
    generalize htm0 : (S.R n).tm = tm at *
    have HTM0 := Lib.hid htm0
    clear htm0
    by_cases hlt : tm < 65535
    · have hup : upTime tm = tm + 1 := by rw [HUT.out, if_pos hlt]
      rw [hup] at HG1
      have HLT := Lib.hid hlt; have HT16 := Lib.hid htm16
      clear HUT hup hlt htm16
      go_upto_region 10 with fail
      have t1 : decide ((tm : Int) < 65535) = true := by have := HLT.out; simp; omega
      go_upto_region 11 with fail
      clear t1
      go_upto_region 12 with fail
      rw [show IntKind.u16.wrap ((tm : Int) + 1) = ((tm + 1 : Nat) : Int) by rw [IntKind.wrap_u16]; have := HLT.out; omega]
      have A4 : Hid (AutoAt (w3.setCell ⟨u.rb, n * 4 + 1, none⟩ (.int .u16 ((tm + 1 : Nat) : Int))) u (S.setR n { S.R n with tm := tm + 1 })) := A3.out.setTm (n := n) (by rw [HLEN.out]; exact hn) (tm + 1)
      have O4 : Hid (Only (fun b => b = u.rb) w2 (w3.setCell ⟨u.rb, n * 4 + 1, none⟩ (.int .u16 ((tm + 1 : Nat) : Int)))) := O3.out.set _ _ (.inr rfl)
      generalize w3.setCell ⟨u.rb, n * 4 + 1, none⟩ (.int .u16 ((tm + 1 : Nat) : Int)) = w4 at *
      clear c0 c1 c2 c3 c4 c5 c6 d1 d3 d5 l0 l1
      clear r0 r1 r2 r3 f0 f1 f2 f3 lr
      have c0 := cell_row (j := 0) (HK.out w4 O4.out).1 rfl
      have c1 := cell_row (j := 1) (HK.out w4 O4.out).1 rfl
      have c2 := cell_row (j := 2) (HK.out w4 O4.out).1 rfl
      have c3 := cell_row (j := 3) (HK.out w4 O4.out).1 rfl
      have c4 := cell_row (j := 4) (HK.out w4 O4.out).1 rfl
      have c5 := cell_row (j := 5) (HK.out w4 O4.out).1 rfl
      have c6 := cell_row (j := 6) (HK.out w4 O4.out).1 rfl
      have d1 := cell_row (j := 1) (HK.out w4 O4.out).2 rfl
      have d3 := cell_row (j := 3) (HK.out w4 O4.out).2 rfl
      have d5 := cell_row (j := 5) (HK.out w4 O4.out).2 rfl
      have l0 := heap_lt (HK.out w4 O4.out).1; have l1 := heap_lt (HK.out w4 O4.out).2
      obtain ⟨r0, r1, r2, r3, fr⟩ := A4.out.rcell (n := n) (by rw [HLEN.out]; exact hn)
      have f0 := fr (n * 4); have f1 := fr (n * 4 + 1); have f2 := fr (n * 4 + 2); have f3 := fr (n * 4 + 3)
      have lr := A4.out.rlt
      clear fr
      rw [S.setR_R] at r1
      have r1' : w4.cell? ⟨u.rb, n * 4 + 1, none⟩ = some (.int .u16 ((tm + 1 : Nat) : Int)) := r1
      clear r1
      have r1 := r1'
      clear r1'
      generalize htm1 : tm + 1 = tm1 at *
      clear htm1 HLT HT16 HTM0
      -- compared with the hold
      go_quiet (fail)
      have A7 := Lib.hid (A4.out.drewN (k := nq)); have O7 := Lib.hid (O4.out.drewN (n := nq))
      generalize w4.drewN nq = w7 at *
      clear c0 c1 c2 c3 c4 c5 c6 d1 d3 d5 l0 l1
      clear r0 r1 r2 r3 f0 f1 f2 f3 lr
      by_cases hh : r.hold ≤ tm1
      · have t2 : decide (r.hold ≤ tm1) = true := by simpa using hh
        rw [if_pos hh] at HG1
        obtain ⟨r0, r1, r2, r3, fr⟩ := A7.out.rcell (n := n) (by rw [HLEN.out]; exact hn)
        have f0 := fr (n * 4); have f1 := fr (n * 4 + 1); have f2 := fr (n * 4 + 2); have f3 := fr (n * 4 + 3)
        have lr := A7.out.rlt
        clear fr
        go_upto_region 14 with fail
        clear r0 r1 r2 r3 f0 f1 f2 f3 lr
        have A8 : Hid (AutoAt ((((w7.setCell ⟨u.rb, n * 4, none⟩ (.int .u8 0)).setCell ⟨u.rb, n * 4 + 1, none⟩ (.int .u16 0)).setCell ⟨u.rb, n * 4 + 2, none⟩ (.int .u32 0)).setCell ⟨u.rb, n * 4 + 3, none⟩ (.int .u32 0)) u (S.setR n rs0)) := by
          show AutoAt _ _ _
          have this := A7.out.setAll (n := n) (by rw [HLEN.out]; exact hn) rs0
          first | exact this | (rw [S.setR_setR] at this; exact this)
        have O8 : Hid (Only (fun b => b = u.rb) w2 ((((w7.setCell ⟨u.rb, n * 4, none⟩ (.int .u8 0)).setCell ⟨u.rb, n * 4 + 1, none⟩ (.int .u16 0)).setCell ⟨u.rb, n * 4 + 2, none⟩ (.int .u32 0)).setCell ⟨u.rb, n * 4 + 3, none⟩ (.int .u32 0))) := (((O7.out.set _ _ (.inr rfl)).set _ _ (.inr rfl)).set _ _ (.inr rfl)).set _ _ (.inr rfl)
        generalize ((((w7.setCell ⟨u.rb, n * 4, none⟩ (.int .u8 0)).setCell ⟨u.rb, n * 4 + 1, none⟩ (.int .u16 0)).setCell ⟨u.rb, n * 4 + 2, none⟩ (.int .u32 0)).setCell ⟨u.rb, n * 4 + 3, none⟩ (.int .u32 0)) = w8 at *
        -- the route is free again
        have HE1 : Hid (G1 = rs0) := HG1.out
        have HE : Hid (G = rs0) := by show _ = _; rw [HGN.out, HE1.out]; rfl
        obtain ⟨r0, r1, r2, r3, fr⟩ := A8.out.rcell (n := n) (by rw [HLEN.out]; exact hn)
        have f0 := fr (n * 4); have f1 := fr (n * 4 + 1); have f2 := fr (n * 4 + 2); have f3 := fr (n * 4 + 3)
        have lr := A8.out.rlt
        clear fr
        rw [S.setR_R] at r0
        have r0' : w8.cell? ⟨u.rb, n * 4, none⟩ = some (.int .u8 0) := r0
        clear r0
        go_wp2_with fail
        go_end0
        exact ⟨rfl, by rw [HE.out]; exact A8.out, O9.out _ O8.out⟩
      · have t2 : decide (r.hold ≤ tm1) = false := by simpa using hh
        rw [if_neg hh] at HG1
        have HE : Hid (G = { S.R n with tm := tm1 }) := by show _ = _; rw [HGN.out, HG1.out]; show (if (S.R n).ph = 3 then _ else _) = _; rw [if_neg (by omega)]
        have A8 : Hid (AutoAt w7 u (S.setR n G)) := by show AutoAt _ _ _; rw [HE.out]; exact A7.out
        have r0 : w7.cell? ⟨u.rb, n * 4, none⟩ = some (.int .u8 2) := by
          have := (A7.out.rcell (n := n) (by rw [HLEN.out]; exact hn)).1
          rw [S.setR_R] at this
          rw [this]
          show some (Value.int .u8 ((S.R n).ph : Int)) = _
          rw [p2]; rfl
        have lr := A7.out.rlt
        go_wp2_with fail
        go_end0
        exact ⟨rfl, A8.out, O9.out _ O7.out⟩
    · have hup : upTime tm = tm := by rw [HUT.out, if_neg hlt]
      rw [hup] at HG1
      have HLT := Lib.hid hlt; have HT16 := Lib.hid htm16
      clear HUT hup hlt htm16
      go_upto_region 10 with fail
      have t1 : decide ((tm : Int) < 65535) = false := by have := HLT.out; simp; omega
      go_upto_region 12 with fail
      clear t1
      have A4 : Hid (AutoAt w3 u (S.setR n { S.R n with tm := tm })) := by
        show AutoAt _ _ _
        have e : { S.R n with tm := tm } = S.R n := by rw [← HTM0.out]
        rw [e, S.setR_same]; exact A3.out
      clear HLT HT16 HTM0
      -- compared with the hold
      go_quiet (fail)
      have A7 := Lib.hid (A4.out.drewN (k := nq)); have O7 := Lib.hid (O3.out.drewN (n := nq))
      generalize w3.drewN nq = w7 at *
      clear c0 c1 c2 c3 c4 c5 c6 d1 d3 d5 l0 l1
      clear r0 r1 r2 r3 f0 f1 f2 f3 lr
      by_cases hh : r.hold ≤ tm
      · have t2 : decide (r.hold ≤ tm) = true := by simpa using hh
        rw [if_pos hh] at HG1
        obtain ⟨r0, r1, r2, r3, fr⟩ := A7.out.rcell (n := n) (by rw [HLEN.out]; exact hn)
        have f0 := fr (n * 4); have f1 := fr (n * 4 + 1); have f2 := fr (n * 4 + 2); have f3 := fr (n * 4 + 3)
        have lr := A7.out.rlt
        clear fr
        go_upto_region 14 with fail
        clear r0 r1 r2 r3 f0 f1 f2 f3 lr
        have A8 : Hid (AutoAt ((((w7.setCell ⟨u.rb, n * 4, none⟩ (.int .u8 0)).setCell ⟨u.rb, n * 4 + 1, none⟩ (.int .u16 0)).setCell ⟨u.rb, n * 4 + 2, none⟩ (.int .u32 0)).setCell ⟨u.rb, n * 4 + 3, none⟩ (.int .u32 0)) u (S.setR n rs0)) := by
          show AutoAt _ _ _
          have this := A7.out.setAll (n := n) (by rw [HLEN.out]; exact hn) rs0
          first | exact this | (rw [S.setR_setR] at this; exact this)
        have O8 : Hid (Only (fun b => b = u.rb) w2 ((((w7.setCell ⟨u.rb, n * 4, none⟩ (.int .u8 0)).setCell ⟨u.rb, n * 4 + 1, none⟩ (.int .u16 0)).setCell ⟨u.rb, n * 4 + 2, none⟩ (.int .u32 0)).setCell ⟨u.rb, n * 4 + 3, none⟩ (.int .u32 0))) := (((O7.out.set _ _ (.inr rfl)).set _ _ (.inr rfl)).set _ _ (.inr rfl)).set _ _ (.inr rfl)
        generalize ((((w7.setCell ⟨u.rb, n * 4, none⟩ (.int .u8 0)).setCell ⟨u.rb, n * 4 + 1, none⟩ (.int .u16 0)).setCell ⟨u.rb, n * 4 + 2, none⟩ (.int .u32 0)).setCell ⟨u.rb, n * 4 + 3, none⟩ (.int .u32 0)) = w8 at *
        -- the route is free again
        have HE1 : Hid (G1 = rs0) := HG1.out
        have HE : Hid (G = rs0) := by show _ = _; rw [HGN.out, HE1.out]; rfl
        obtain ⟨r0, r1, r2, r3, fr⟩ := A8.out.rcell (n := n) (by rw [HLEN.out]; exact hn)
        have f0 := fr (n * 4); have f1 := fr (n * 4 + 1); have f2 := fr (n * 4 + 2); have f3 := fr (n * 4 + 3)
        have lr := A8.out.rlt
        clear fr
        rw [S.setR_R] at r0
        have r0' : w8.cell? ⟨u.rb, n * 4, none⟩ = some (.int .u8 0) := r0
        clear r0
        go_wp2_with fail
        go_end0
        exact ⟨rfl, by rw [HE.out]; exact A8.out, O9.out _ O8.out⟩
      · have t2 : decide (r.hold ≤ tm) = false := by simpa using hh
        rw [if_neg hh] at HG1
        have HE : Hid (G = { S.R n with tm := tm }) := by show _ = _; rw [HGN.out, HG1.out]; show (if (S.R n).ph = 3 then _ else _) = _; rw [if_neg (by omega)]
        have A8 : Hid (AutoAt w7 u (S.setR n G)) := by show AutoAt _ _ _; rw [HE.out]; exact A7.out
        have r0 : w7.cell? ⟨u.rb, n * 4, none⟩ = some (.int .u8 2) := by
          have := (A7.out.rcell (n := n) (by rw [HLEN.out]; exact hn)).1
          rw [S.setR_R] at this
          rw [this]
          show some (Value.int .u8 ((S.R n).ph : Int)) = _
          rw [p2]; rfl
        have lr := A7.out.rlt
        go_wp2_with fail
        go_end0
        exact ⟨rfl, A8.out, O9.out _ O7.out⟩
end Go.Proofs.Ytnjeiigdfdjccaa
