/- asks: a route is set, if it is asked for and may be. -/
import Derived.Test.YtnjeiigdfdjccaaAutQ
namespace Go.Proofs.Ytnjeiigdfdjccaa
open Go.RowKit
set_option linter.unusedVariables false
set_option linter.unusedSimpArgs false
theorem AutoAt.setPt {w : World} {u : Au} {S : AS} (h : AutoAt w u S) {j : Nat} (hj : j < u.T.pts.length) (d : Nat) : AutoAt (w.setCell ⟨u.pb, j, none⟩ (.int .u8 (d : Int))) u ⟨S.R, fun q => if q = j then d else S.C q⟩ := by
  obtain ⟨c, k1, k2, k3, k4⟩ := h.rs
  obtain ⟨a, c', e1, e2, e3, e4⟩ := h.ps
  have hs : (w.setCell ⟨u.pb, j, none⟩ (.int .u8 (d : Int))).heap.size = w.heap.size := by simp [World.setCell]
  refine ⟨(heap_setCell_other _ _ _ _ h.gp).trans h.obj, h.tp, h.tr, h.bel.setCell (p := ⟨u.pb, j, none⟩) h.pB _, ⟨c, k1, k2, k3, k4.other h.rp _⟩, ⟨a, c', e1, e2, e3, fun hp => ⟨(e4 hp).1, ((e4 hp).2.set (i := j) _).congr fun q hq => ?_⟩⟩, h.gB, h.rB, h.pB, h.gr, h.gp, h.rp, by rw [hs]; exact h.pl⟩
  show (if q = j then _ else psV S.C q) = Value.int .u8 (((if q = j then d else S.C q) : Nat) : Int)
  by_cases e : q = j
  · rw [if_pos e, if_pos e]
  · rw [if_neg e, if_neg e]; rfl
theorem Only.toM {u : Au} {w w' : World} (h : Only (fun b => b = u.rb) w w') : Only u.M w w' := h.mono fun _ _ e => .inl e
theorem needP_lt (p : Int × Bool) : needP p < 3 := by unfold needP; split <;> omega
set_option maxRecDepth 100000 in
set_option maxHeartbeats 8000000 in
theorem asks_any (u : Au) (S : AS) (f : FD) (n : Nat) (w : World) (h : AutoAt w u S) (hf : f.Ok) (hT : TOk u.T) (hS : S.Ok) (hn : n < u.T.rts.length) :
    Calls Try.prog 48 #[.agg #[.pointer (some ⟨u.g, 0, none⟩), .int .u32 (f.cl : Int), .int .u32 (f.no : Int), .int .u32 (f.re : Int), .int .u32 (f.ak : Int), .int .u32 (f.ca : Int), .int .u32 (f.rq : Int)], .int .i64 (n : Int)] w fun e w' => e = .returned (.tuple #[]) ∧ AutoAt w' u (askS u.T f S n) ∧ Only u.M w w' := by
  obtain ⟨ra, rc, C0, hvr, hrl, hrc, _⟩ := h.tr.at_
  have hrt := h.tr
  rw [hvr] at hrt
  obtain ⟨b, off, C, rfl, hb, hc, hR⟩ := hrt.cells hn
  obtain ⟨sc, hvs, hs1, hs2, _⟩ := h.rs
  have HTOK := Lib.hid hT
  have HCON := Lib.hid (hT.con n hn); have HTRR := Lib.hid (hT.tr n hn); have HPP := Lib.hid (hT.pp n hn); have HPL := Lib.hid (hT.pl n hn); have HPM := Lib.hid hT.p
  have hN := hT.n
  obtain ⟨r, hrr⟩ : ∃ r, r = u.T.rts.getD n rt0 := ⟨_, rfl⟩
  rw [← hrr] at hR HCON HTRR HPP HPL
  have HRR := Lib.hid hrr
  obtain ⟨⟨ta, tc, htr, htl1, htm, _⟩, _⟩ := hR.tr
  obtain ⟨⟨pa, pc, hp, hpl1, hpm, _⟩, _⟩ := hR.pts
  obtain ⟨⟨ca, cc, hcn, _⟩, _⟩ := hR.con
  have HTR := Lib.hid (htr ▸ hR.tr); have HPT := Lib.hid (hp ▸ hR.pts); have HCO := Lib.hid (hcn ▸ hR.con)
  have hx0 : u.w0.cell? ⟨b, off + n * 6, none⟩ = some (.int .i64 r.sig) := by rw [← hR.sig]; exact hc 0 (by omega)
  have hx1 : u.w0.cell? ⟨b, off + n * 6 + 1, none⟩ = some (.slice ta r.tr.length tc) := by rw [← htr]; exact hc 1 (by omega)
  have hx2 : u.w0.cell? ⟨b, off + n * 6 + 2, none⟩ = some (.slice pa r.pts.length pc) := by rw [← hp]; exact hc 2 (by omega)
  have hx3 : u.w0.cell? ⟨b, off + n * 6 + 3, none⟩ = some (.int .i64 r.app) := by rw [← hR.app]; exact hc 3 (by omega)
  have hx4 : u.w0.cell? ⟨b, off + n * 6 + 4, none⟩ = some (.slice ca r.con.length cc) := by rw [← hcn]; exact hc 4 (by omega)
  have hx5 : u.w0.cell? ⟨b, off + n * 6 + 5, none⟩ = some (.int .u16 (r.hold : Int)) := by rw [← hR.hold]; exact hc 5 (by omega)
  unfold maxLen at hs2 htm hrc hpm
  obtain ⟨w1, hw1⟩ : ∃ w1, w1 = w.alloc (.cells #[.pointer (some ⟨u.g, 0, none⟩), .int .u32 (f.cl : Int), .int .u32 (f.no : Int), .int .u32 (f.re : Int), .int .u32 (f.ak : Int), .int .u32 (f.ca : Int), .int .u32 (f.rq : Int)] 116) := ⟨_, rfl⟩
  have B1 : Hid (Below w.heap.size w w1) := by rw [hw1]; exact tb_alloc_below _ _
  have K1 : Hid (w1.heap[w.heap.size]? = some (.cells #[.pointer (some ⟨u.g, 0, none⟩), .int .u32 (f.cl : Int), .int .u32 (f.no : Int), .int .u32 (f.re : Int), .int .u32 (f.ak : Int), .int .u32 (f.ca : Int), .int .u32 (f.rq : Int)] 116 (0, 0))) := by rw [hw1]; exact heap_alloc_new _ _
  have A1 : Hid (AutoAt w1 u S) := h.below B1.out
  obtain ⟨w2, hw2⟩ : ∃ w2, w2 = w1.alloc (.cells #[.int .i64 r.sig, .slice ta r.tr.length tc, .slice pa r.pts.length pc, .int .i64 r.app, .slice ca r.con.length cc, .int .u16 (r.hold : Int)] 41) := ⟨_, rfl⟩
  have B12 : Hid (Below w1.heap.size w1 w2) := by rw [hw2]; exact tb_alloc_below _ _
  have K2 : Hid (w2.heap[w1.heap.size]? = some (.cells #[.int .i64 r.sig, .slice ta r.tr.length tc, .slice pa r.pts.length pc, .int .i64 r.app, .slice ca r.con.length cc, .int .u16 (r.hold : Int)] 41 (0, 0))) := by rw [hw2]; exact heap_alloc_new _ _
  have A2 : Hid (AutoAt w2 u S) := A1.out.below B12.out
  have HW1 := Lib.hid hw1; have HW2 := Lib.hid hw2
  have RB : Hid (u.rb < w.heap.size ∧ u.pb < w.heap.size) := ⟨h.rlt, h.pl⟩
  have HS := Lib.hid hS; have HF := Lib.hid hf
  have BL := Lib.hid A1.out.bel
  have x0 := (BL.out.cell hb).trans hx0; have x1 := (BL.out.cell hb).trans hx1; have x2 := (BL.out.cell hb).trans hx2; have x3 := (BL.out.cell hb).trans hx3; have x4 := (BL.out.cell hb).trans hx4; have x5 := (BL.out.cell hb).trans hx5
  have g3 : w1.cell? ⟨u.g, 3, none⟩ = some (.slice (some ⟨b, off, none⟩) u.T.rts.length rc) := by rw [← hvr]; exact cell_row (j := 3) A1.out.obj rfl
  have lg := heap_lt A1.out.obj
  have lb : b < w1.heap.size := Nat.lt_of_lt_of_le hb A1.out.bel.size
  clear hw1 hw2 hx0 hx1 hx2 hx3 hx4 hx5 hc hR hrt hvr hvs htr hp hcn h hrr hT hS hf
  have HASK : Hid (askS u.T f S n = if askOk u.T f S n then ⟨fun j => if j = n then { S.R n with ph := 1 } else S.R j, setC S.C r.pts r.pts.length⟩ else S) := by show _ = _; rw [HRR.out]; rfl
  have HOK : Hid (askOk u.T f S n = (((f.ak.testBit n || f.rq == n + 1) && (S.R n).ph == 0) && ((r.con.all fun k => (S.R k.toNat).ph == 0) && ((r.tr.all fun x => bt f.cl x) && (r.pts.all fun p => mayB u.T f S p))))) := by show _ = _; rw [HRR.out]; rfl
  obtain ⟨G, hG⟩ : ∃ G, G = askS u.T f S n := ⟨_, rfl⟩
  rw [← hG] at HASK ⊢
  clear hG
  rw [HOK.out] at HASK
  clear HOK
  generalize hlen : u.T.rts.length = m at *
  have HLEN := Lib.hid hlen
  clear hlen
  obtain ⟨fb, hfb⟩ : ∃ fb, fb = w.heap.size := ⟨_, rfl⟩
  have HFB := Lib.hid hfb
  rw [← hfb] at K1
  have hrq := HF.out.rq
  have HM : Hid (∀ W, Only u.M w2 W → Only u.M w W) := fun W hW => (Only.of_below _ (B1.out.trans (B12.out.mono B1.out.size))).trans hW
  go_enter Try.func48, Try.ntmps48
  go_upto_region 1 with fail
  rw [← HW1.out, ← hfb]
  clear hfb
  have c0 := cell_row (j := 0) K1.out rfl
  have l0 := heap_lt K1.out
  go_upto_region 2 with fail
  rw [← HW2.out]
  clear c0 l0 x0 x1 x2 x3 x4 x5 g3 lg lb
  obtain ⟨kb, hkb⟩ : ∃ kb, kb = w1.heap.size := ⟨_, rfl⟩
  have KB : Hid (u.rb < kb ∧ u.pb < kb) := by have := RB.out; have := B1.out.size; exact ⟨by omega, by omega⟩
  rw [← hkb] at K2 ⊢
  clear hkb
  have KF2 := Lib.hid (tb_kept K1.out B12.out)
  have c0 := cell_row (j := 0) (KF2.out) rfl
  have c1 := cell_row (j := 1) (KF2.out) rfl
  have c2 := cell_row (j := 2) (KF2.out) rfl
  have c3 := cell_row (j := 3) (KF2.out) rfl
  have c4 := cell_row (j := 4) (KF2.out) rfl
  have c5 := cell_row (j := 5) (KF2.out) rfl
  have c6 := cell_row (j := 6) (KF2.out) rfl
  have d1 := cell_row (j := 1) (K2.out) rfl
  have d2 := cell_row (j := 2) (K2.out) rfl
  have d4 := cell_row (j := 4) (K2.out) rfl
  have l0 := heap_lt (KF2.out); have l1 := heap_lt (K2.out)
  have HB := Lib.hid (bit_any f.ak n w2 HF.out.ak)
  obtain ⟨sc, hvs, hs1', hs2', _⟩ := A2.out.rs
  rw [HLEN.out] at hvs
  have g4 : w2.cell? ⟨u.g, 4, none⟩ = some (.slice (some ⟨u.rb, 0, none⟩) m sc) := by rw [← hvs]; exact cell_row (j := 4) A2.out.obj rfl
  have lg := heap_lt A2.out.obj
  have r0 := (A2.out.rcell (n := n) (by rw [HLEN.out]; exact hn)).1
  have lr := A2.out.rlt
  have i0 : (0 : Int) ≤ (n : Int) := by omega
  have i1 : (n : Int) < (m : Int) := by omega
  clear hvs hs1' hs2'
  have HA1 : Hid (∀ W, Below w2.heap.size w2 W → Calls Try.prog 68 #[.slice ca r.con.length cc, .func (.func 65) #[] #[.pointer (some ⟨fb, 0, none⟩)]] W fun e w' => e = .returned (.bool (r.con.all fun k => (S.R k.toNat).ph == 0)) ∧ Below W.heap.size W w') := fun W hW =>
    all_int _ r.con _ #[] #[.pointer (some ⟨fb, 0, none⟩)] (fun k => (S.R k.toNat).ph == 0) W (HCO.out.below (A2.out.below hW).bel) (enters_of Try.func65 (by kernel_rfl) rfl)
      (fun i hi V hV => asks1_any u S f fb _ V ((A2.out.below hW).below hV) (tb_kept (tb_kept KF2.out hW) hV) HTOK.out (by rw [HLEN.out]; exact HCON.out i hi))
  have HA2 : Hid (∀ W, Below w2.heap.size w2 W → Calls Try.prog 68 #[.slice ta r.tr.length tc, .func (.func 62) #[.agg #[.pointer (some ⟨u.g, 0, none⟩), .int .u32 (f.cl : Int), .int .u32 (f.no : Int), .int .u32 (f.re : Int), .int .u32 (f.ak : Int), .int .u32 (f.ca : Int), .int .u32 (f.rq : Int)]] #[]] W fun e w' => e = .returned (.bool (r.tr.all fun x => bt f.cl x)) ∧ Below W.heap.size W w') := fun W hW =>
    all_int _ r.tr _ #[.agg #[.pointer (some ⟨u.g, 0, none⟩), .int .u32 (f.cl : Int), .int .u32 (f.no : Int), .int .u32 (f.re : Int), .int .u32 (f.ak : Int), .int .u32 (f.ca : Int), .int .u32 (f.rq : Int)]] #[] (fun x => bt f.cl x) W (HTR.out.below (A2.out.below hW).bel) (enters_of Try.func62 (by kernel_rfl) rfl)
      (fun i hi V hV => clear_any u f _ V HF.out.cl (HTRR.out i hi).1)
  have HA3 : Hid (∀ W, Below w2.heap.size w2 W → Calls Try.prog 69 #[.slice pa r.pts.length pc, .func (.func 66) #[] #[.pointer (some ⟨fb, 0, none⟩)]] W fun e w' => e = .returned (.bool (r.pts.all fun p => mayB u.T f S p)) ∧ Below W.heap.size W w') := fun W hW =>
    all_pt _ r.pts _ #[] #[.pointer (some ⟨fb, 0, none⟩)] (fun p => mayB u.T f S p) W (HPT.out.below (A2.out.below hW).bel) (enters_of Try.func66 (by kernel_rfl) rfl)
      (fun i hi V hV => asks2_any u S f fb _ V ((A2.out.below hW).below hV) (tb_kept (tb_kept KF2.out hW) hV) HTOK.out HF.out (HPP.out i hi))
  have HK : Hid (∀ W, Only u.M w2 W → W.heap[fb]? = some (.cells #[.pointer (some ⟨u.g, 0, none⟩), .int .u32 (f.cl : Int), .int .u32 (f.no : Int), .int .u32 (f.re : Int), .int .u32 (f.ak : Int), .int .u32 (f.ca : Int), .int .u32 (f.rq : Int)] 116 (0, 0)) ∧ W.heap[kb]? = some (.cells #[.int .i64 r.sig, .slice ta r.tr.length tc, .slice pa r.pts.length pc, .int .i64 r.app, .slice ca r.con.length cc, .int .u16 (r.hold : Int)] 41 (0, 0))) := fun W hW =>
    ⟨(hW.block _ (heap_lt KF2.out) (fun e => by have := RB.out; have := HFB.out; rcases e with e | e <;> omega)).trans KF2.out, (hW.block _ (heap_lt K2.out) (fun e => by have := KB.out; rcases e with e | e <;> omega)).trans K2.out⟩
  generalize (r.con.all fun k => (S.R k.toNat).ph == 0) = e1 at *
  generalize (r.tr.all fun x => bt f.cl x) = e2 at *
  generalize (r.pts.all fun p => mayB u.T f S p) = e3 at *
  generalize hak : f.ak.testBit n = ak at *
  clear hak
  have hN16 : (n : Int) + 1 ≤ 16 := by omega
  cases ak
  case true =>
    rw [Bool.true_or, Bool.true_and] at HASK
    by_cases hph : (S.R n).ph = 0
    · have hphb : ((S.R n).ph == 0) = true := by simpa using hph
      rw [hph] at r0
      rw [hphb] at HASK
      have HASK2 : Hid (G = if (e1 && (e2 && e3)) = true then ⟨fun j => if j = n then { S.R n with ph := 1 } else S.R j, setC S.C r.pts r.pts.length⟩ else S) := by show _ = _; rw [HASK.out]; simp
      clear HASK hph hphb
      go_wp2_with fail
      (with_reducible refine HB.out.mono ?_)
      rintro e w2 ⟨rfl, rfl⟩
      cases e1
      case false =>
        have HE : Hid (G = S) := HASK2.out
        go_wp2_with fail
        refine (HA1.out w2 (Below.refl _ _)).mono ?_
        rintro e w3 ⟨rfl, hb3⟩
        have B3 := Lib.hid hb3
        clear hb3
        clear r0 g4 lg lr
        clear c0 c1 c2 c3 c4 c5 c6 d1 d2 d4 l0 l1
        go_wp2_with fail
        refine bodyPost_ret (results_none rfl _ _ _) rfl ⟨rfl, by rw [HE.out]; exact A2.out.below B3.out, HM.out _ (Only.of_below _ B3.out)⟩
      case true =>
      go_wp2_with fail
      refine (HA1.out w2 (Below.refl _ _)).mono ?_
      rintro e w3 ⟨rfl, hb3⟩
      have B3 := Lib.hid hb3
      clear hb3
      clear r0 g4 lg lr
      clear c0 c1 c2 c3 c4 c5 c6 d1 d2 d4 l0 l1
      have c0 := cell_row (j := 0) (tb_kept KF2.out B3.out) rfl
      have c1 := cell_row (j := 1) (tb_kept KF2.out B3.out) rfl
      have c2 := cell_row (j := 2) (tb_kept KF2.out B3.out) rfl
      have c3 := cell_row (j := 3) (tb_kept KF2.out B3.out) rfl
      have c4 := cell_row (j := 4) (tb_kept KF2.out B3.out) rfl
      have c5 := cell_row (j := 5) (tb_kept KF2.out B3.out) rfl
      have c6 := cell_row (j := 6) (tb_kept KF2.out B3.out) rfl
      have d1 := cell_row (j := 1) (tb_kept K2.out B3.out) rfl
      have d2 := cell_row (j := 2) (tb_kept K2.out B3.out) rfl
      have d4 := cell_row (j := 4) (tb_kept K2.out B3.out) rfl
      have l0 := heap_lt (tb_kept KF2.out B3.out); have l1 := heap_lt (tb_kept K2.out B3.out)
      cases e2
      case false =>
        have HE : Hid (G = S) := HASK2.out
        go_wp2_with fail
        refine (HA2.out w3 B3.out).mono ?_
        rintro e w4 ⟨rfl, hb4⟩
        have B4 := Lib.hid (B3.out.trans (hb4.mono B3.out.size))
        clear hb4
        clear c0 c1 c2 c3 c4 c5 c6 d1 d2 d4 l0 l1
        go_wp2_with fail
        refine bodyPost_ret (results_none rfl _ _ _) rfl ⟨rfl, by rw [HE.out]; exact A2.out.below B4.out, HM.out _ (Only.of_below _ B4.out)⟩
      case true =>
      go_wp2_with fail
      refine (HA2.out w3 B3.out).mono ?_
      rintro e w4 ⟨rfl, hb4⟩
      have B4 := Lib.hid (B3.out.trans (hb4.mono B3.out.size))
      clear hb4
      clear c0 c1 c2 c3 c4 c5 c6 d1 d2 d4 l0 l1
      have c0 := cell_row (j := 0) (tb_kept KF2.out B4.out) rfl
      have c1 := cell_row (j := 1) (tb_kept KF2.out B4.out) rfl
      have c2 := cell_row (j := 2) (tb_kept KF2.out B4.out) rfl
      have c3 := cell_row (j := 3) (tb_kept KF2.out B4.out) rfl
      have c4 := cell_row (j := 4) (tb_kept KF2.out B4.out) rfl
      have c5 := cell_row (j := 5) (tb_kept KF2.out B4.out) rfl
      have c6 := cell_row (j := 6) (tb_kept KF2.out B4.out) rfl
      have d1 := cell_row (j := 1) (tb_kept K2.out B4.out) rfl
      have d2 := cell_row (j := 2) (tb_kept K2.out B4.out) rfl
      have d4 := cell_row (j := 4) (tb_kept K2.out B4.out) rfl
      have l0 := heap_lt (tb_kept KF2.out B4.out); have l1 := heap_lt (tb_kept K2.out B4.out)
      cases e3
      case false =>
        have HE : Hid (G = S) := HASK2.out
        go_wp2_with fail
        refine (HA3.out w4 B4.out).mono ?_
        rintro e w5 ⟨rfl, hb5⟩
        have B5 := Lib.hid (B4.out.trans (hb5.mono B4.out.size))
        clear hb5
        clear c0 c1 c2 c3 c4 c5 c6 d1 d2 d4 l0 l1
        go_wp2_with fail
        refine bodyPost_ret (results_none rfl _ _ _) rfl ⟨rfl, by rw [HE.out]; exact A2.out.below B5.out, HM.out _ (Only.of_below _ B5.out)⟩
      case true =>
      have HE : Hid (G = ⟨fun j => if j = n then { S.R n with ph := 1 } else S.R j, setC S.C r.pts r.pts.length⟩) := HASK2.out
      clear HASK2
      go_wp2_with fail
      refine (HA3.out w4 B4.out).mono ?_
      rintro e w5 ⟨rfl, hb5⟩
      have B5 := Lib.hid (B4.out.trans (hb5.mono B4.out.size))
      clear hb5
      clear c0 c1 c2 c3 c4 c5 c6 d1 d2 d4 l0 l1
      have c0 := cell_row (j := 0) (tb_kept KF2.out B5.out) rfl
      have c1 := cell_row (j := 1) (tb_kept KF2.out B5.out) rfl
      have c2 := cell_row (j := 2) (tb_kept KF2.out B5.out) rfl
      have c3 := cell_row (j := 3) (tb_kept KF2.out B5.out) rfl
      have c4 := cell_row (j := 4) (tb_kept KF2.out B5.out) rfl
      have c5 := cell_row (j := 5) (tb_kept KF2.out B5.out) rfl
      have c6 := cell_row (j := 6) (tb_kept KF2.out B5.out) rfl
      have d1 := cell_row (j := 1) (tb_kept K2.out B5.out) rfl
      have d2 := cell_row (j := 2) (tb_kept K2.out B5.out) rfl
      have d4 := cell_row (j := 4) (tb_kept K2.out B5.out) rfl
      have l0 := heap_lt (tb_kept KF2.out B5.out); have l1 := heap_lt (tb_kept K2.out B5.out)
      have A5 := Lib.hid (A2.out.below B5.out)
      obtain ⟨sc5, hvs, -, -, _⟩ := A5.out.rs
      rw [HLEN.out] at hvs
      have g4 : w5.cell? ⟨u.g, 4, none⟩ = some (.slice (some ⟨u.rb, 0, none⟩) m sc5) := by rw [← hvs]; exact cell_row (j := 4) A5.out.obj rfl
      clear hvs
      have lg := heap_lt A5.out.obj
      obtain ⟨r0, -, -, -, fr⟩ := A5.out.rcell (n := n) (by rw [HLEN.out]; exact hn)
      have f0 := fr (n * 4)
      clear fr
      have lr := A5.out.rlt
      go_upto_region 7 with fail
      have A6 : Hid (AutoAt (w5.setCell ⟨u.rb, n * 4, none⟩ (.int .u8 1)) u ⟨fun j => if j = n then { S.R n with ph := 1 } else S.R j, setC S.C r.pts 0⟩) := A5.out.setPh (n := n) (by rw [HLEN.out]; exact hn) 1
      have O6 : Hid (Only u.M w2 (w5.setCell ⟨u.rb, n * 4, none⟩ (.int .u8 1))) := (Only.of_below _ B5.out).set _ _ (.inr (.inl rfl))
      generalize w5.setCell ⟨u.rb, n * 4, none⟩ (.int .u8 1) = w6 at *
      clear r0 f0 lr g4 lg
      clear c0 c1 c2 c3 c4 c5 c6 d1 d2 d4 l0 l1
      have c0 := cell_row (j := 0) ((HK.out _ O6.out).1) rfl
      have c1 := cell_row (j := 1) ((HK.out _ O6.out).1) rfl
      have c2 := cell_row (j := 2) ((HK.out _ O6.out).1) rfl
      have c3 := cell_row (j := 3) ((HK.out _ O6.out).1) rfl
      have c4 := cell_row (j := 4) ((HK.out _ O6.out).1) rfl
      have c5 := cell_row (j := 5) ((HK.out _ O6.out).1) rfl
      have c6 := cell_row (j := 6) ((HK.out _ O6.out).1) rfl
      have d1 := cell_row (j := 1) ((HK.out _ O6.out).2) rfl
      have d2 := cell_row (j := 2) ((HK.out _ O6.out).2) rfl
      have d4 := cell_row (j := 4) ((HK.out _ O6.out).2) rfl
      have l0 := heap_lt ((HK.out _ O6.out).1); have l1 := heap_lt ((HK.out _ O6.out).2)
      generalize hRR : (fun j => if j = n then { S.R n with ph := 1 } else S.R j) = R' at *
      clear hRR
      go_wp2_with fail
      clear c0 c1 c2 c3 c4 c5 c6 d1 d2 d4 l0 l1
      go_loopw [78] (fun i wr => ∃ k : Nat, k ≤ r.pts.length ∧ i = .int .i64 k ∧ AutoAt wr u ⟨R', setC S.C r.pts k⟩ ∧ Only u.M w2 wr) (fun i _ => r.pts.length - (intOf i).toNat)
      case atStart => exact ⟨0, Nat.zero_le _, rfl, A6.out, O6.out⟩
      case round =>
        clear A6 O6 A5 B5 B4 B3
        obtain ⟨k, hk, rfl, ha, ho⟩ := hrel
        have A7 := Lib.hid ha; have O7 := Lib.hid ho
        clear ha ho
        obtain ⟨w7, rfl⟩ : ∃ w7 : World, w7 = wr := ⟨_, rfl⟩
        by_cases hlt : k < r.pts.length
        · obtain ⟨qb, qoff, rfl, hqb, x0, x1⟩ := (HPT.out.below A7.out.bel).cell hlt
          have hpp := HPP.out k hlt
          have HCM := Lib.hid (fun W => command_any (r.pts.getD k (0, false)) W)
          have HST : Hid (∀ C, setC C r.pts (k + 1) = fun j => if j = (r.pts.getD k (0, false)).1.toNat then needP (r.pts.getD k (0, false)) else setC C r.pts k j) := fun _ => rfl
          generalize r.pts.getD k (0, false) = p at *
          obtain ⟨y, z⟩ := p
          simp only at hpp x0 x1 HCM HST
          obtain ⟨j, rfl⟩ := Int.eq_ofNat_of_zero_le hpp.1
          rw [Int.toNat_natCast] at HST
          have hjl : j < u.T.pts.length := by omega
          have HJL := Lib.hid hjl
          generalize needP ((j : Int), z) = nd at *
          obtain ⟨w8, hw8⟩ : ∃ w8, w8 = w7.alloc (.cells #[.int .i64 (j : Int), .bool z] 107) := ⟨_, rfl⟩
          have B78 : Hid (Below w7.heap.size w7 w8) := by rw [hw8]; exact tb_alloc_below _ _
          have K8 : Hid (w8.heap[w7.heap.size]? = some (.cells #[.int .i64 (j : Int), .bool z] 107 (0, 0))) := by rw [hw8]; exact heap_alloc_new _ _
          have A8 : Hid (AutoAt w8 u ⟨R', setC S.C r.pts k⟩) := A7.out.below B78.out
          have O8 : Hid (Only u.M w2 w8) := O7.out.trans (Only.of_below _ B78.out)
          have HW8 := Lib.hid hw8
          clear hw8
          obtain ⟨a, c, hvp, h1, h2, h3⟩ := A8.out.ps
          obtain ⟨rfl, hrow⟩ := h3 (by omega)
          have hgp := A8.out.gp; have hlg := heap_lt A8.out.obj
          have hg5 : w8.cell? ⟨u.g, 5, none⟩ = some (.slice (some ⟨u.pb, 0, none⟩) u.T.pts.length c) := by rw [← hvp]; exact cell_row (j := 5) A8.out.obj rfl
          have hfbp : fb ≠ u.pb := by have := RB.out; have := HFB.out; omega
          have hqbp : w7.heap.size ≠ u.pb := by have := A7.out.pl; omega
          have HSV : Hid (∀ W, Only (fun b => b = u.pb) w8 W → (W.cell? ⟨fb, 0, none⟩ = some (.pointer (some ⟨u.g, 0, none⟩)) ∧ W.cell? ⟨u.g, 5, none⟩ = some (.slice (some ⟨u.pb, 0, none⟩) u.T.pts.length c) ∧ W.cell? ⟨w7.heap.size, 0, none⟩ = some (.int .i64 (j : Int)) ∧ W.cell? ⟨w7.heap.size, 1, none⟩ = some (.bool z)) ∧ u.pb < W.heap.size) := fun W hW =>
            ⟨⟨cell_row (j := 0) ((hW.block _ (heap_lt (HK.out _ O8.out).1) hfbp).trans (HK.out _ O8.out).1) rfl, by rw [← hg5]; exact World.cell?_of_block (w := w8) (hW.block _ hlg hgp), cell_row (j := 0) ((hW.block _ (heap_lt K8.out) hqbp).trans K8.out) rfl, cell_row (j := 1) ((hW.block _ (heap_lt K8.out) hqbp).trans K8.out) rfl⟩, Nat.lt_of_lt_of_le A8.out.pl hW.size⟩
          have HSP : Hid (∀ W, Below w8.heap.size w8 W → W.cell? ⟨u.pb, j, none⟩ = some (psV (setC S.C r.pts k) j) ∧ W.frozen? ⟨u.pb, j, none⟩ = false) := fun W hW => ⟨(hrow.same (hW.block _ hrow.lt)).cell hjl, (hrow.same (hW.block _ hrow.lt)).frozen j⟩
          unfold psV at HSP
          have HA10 : Hid (∀ W, AutoAt W u ⟨R', setC S.C r.pts k⟩ → AutoAt (W.setCell ⟨u.pb, j, none⟩ (.int .u8 (nd : Int))) u ⟨R', fun q => if q = j then nd else setC S.C r.pts k q⟩) := fun W hW => hW.setPt hjl nd
          have hm12 := HPM.out
          unfold maxLen at h2
          have i2 : (0 : Int) ≤ (j : Int) := by omega
          have i3 : (j : Int) < (u.T.pts.length : Int) := by omega
          have BD : Hid (Below w8.heap.size w8 w8.drew) := (Below.refl _ _).drew
          clear hvp hrow h3 hg5 hpp hgp hlg hfbp hqbp
          generalize u.T.pts.length = mp at *
          generalize setC S.C r.pts k j = old at *
          go_upto_region 10 with fail
          rw [← HW8.out]
          clear x0 x1
          generalize w7.heap.size = qbx at *
          have ODR : Hid (Only (fun b => b = u.pb) w8 w8.drew) := Only.of_below _ BD.out
          go_region_held3 (fun W => (W.cell? ⟨fb, 0, none⟩ = some (.pointer (some ⟨u.g, 0, none⟩)) ∧ W.cell? ⟨u.g, 5, none⟩ = some (.slice (some ⟨u.pb, 0, none⟩) mp c) ∧ W.cell? ⟨qbx, 0, none⟩ = some (.int .i64 (j : Int)) ∧ W.cell? ⟨qbx, 1, none⟩ = some (.bool z)) ∧ u.pb < W.heap.size)
            (first | exact HSV.out _ (OE.out.set _ _ (.inr rfl)) | exact HSV.out _ OE.out | exact HSV.out _ ODR.out)
            (first | (go_at_call 67; (with_reducible refine (HCM.out _).mono ?_); rintro e w9 ⟨rfl, hb9⟩; have BE : Hid (Below w8.heap.size w8 w9) := BD.out.trans (hb9.mono BD.out.size); have OE : Hid (Only (fun b => b = u.pb) w8 w9) := Only.of_below _ BE.out; have s1 := (HSP.out _ BE.out).1; have s2 := (HSP.out _ BE.out).2; clear hb9))
          rename_i hheld
          clear hheld
          have A10 := Lib.hid (HA10.out _ (A8.out.below BE.out))
          rw [← HST.out] at A10
          have O10 : Hid (Only u.M w2 (w9.setCell ⟨u.pb, j, none⟩ (.int .u8 (nd : Int)))) := (O8.out.trans (Only.of_below _ BE.out)).set _ _ (.inr (.inr rfl))
          generalize w9.setCell ⟨u.pb, j, none⟩ (.int .u8 (nd : Int)) = w10 at *
          clear s1 s2
          go_wp2_with fail
          go_roundw
          case rel => exact ⟨k + 1, by omega, by go_num, A10.out, O10.out⟩
          case measure => simp [intOf]; omega
        · obtain rfl : k = r.pts.length := by omega
          go_wp2_with fail
          go_end0
          exact ⟨rfl, by rw [HE.out]; exact A7.out, HM.out _ O7.out⟩
    · have hphb : ((S.R n).ph == 0) = false := by simpa using hph
      have q1 : (((S.R n).ph : Int) == 0) = false := by simpa using hph
      have q2 : (((S.R n).ph : Int) != 0) = true := by simpa using hph
      have HE : Hid (G = S) := by show _ = _; rw [HASK.out, hphb]; simp
      clear hph hphb
      go_wp2_with fail
      (with_reducible refine HB.out.mono ?_)
      rintro e w2 ⟨rfl, rfl⟩
      go_wp2_with fail
      refine bodyPost_ret (results_none rfl _ _ _) rfl ⟨rfl, by rw [HE.out]; exact A2.out, HM.out _ (Only.refl _ _)⟩
  case false =>
    by_cases hq : f.rq = n + 1
    · have t1 : ((f.rq : Int) == (n : Int) + 1) = true := by simp; omega
      have t2 : ((f.rq : Int) != (n : Int) + 1) = false := by simp; omega
      have t3 : (f.rq == n + 1) = true := by simpa using hq
      rw [t3, Bool.false_or, Bool.true_and] at HASK
      clear hq t3
      by_cases hph : (S.R n).ph = 0
      · have hphb : ((S.R n).ph == 0) = true := by simpa using hph
        rw [hph] at r0
        rw [hphb] at HASK
        have HASK2 : Hid (G = if (e1 && (e2 && e3)) = true then ⟨fun j => if j = n then { S.R n with ph := 1 } else S.R j, setC S.C r.pts r.pts.length⟩ else S) := by show _ = _; rw [HASK.out]; simp
        clear HASK hph hphb
        go_wp2_with fail
        (with_reducible refine HB.out.mono ?_)
        rintro e w2 ⟨rfl, rfl⟩
        cases e1
        case false =>
          have HE : Hid (G = S) := HASK2.out
          go_wp2_with fail
          refine (HA1.out w2 (Below.refl _ _)).mono ?_
          rintro e w3 ⟨rfl, hb3⟩
          have B3 := Lib.hid hb3
          clear hb3
          clear r0 g4 lg lr
          clear c0 c1 c2 c3 c4 c5 c6 d1 d2 d4 l0 l1
          go_wp2_with fail
          refine bodyPost_ret (results_none rfl _ _ _) rfl ⟨rfl, by rw [HE.out]; exact A2.out.below B3.out, HM.out _ (Only.of_below _ B3.out)⟩
        case true =>
        go_wp2_with fail
        refine (HA1.out w2 (Below.refl _ _)).mono ?_
        rintro e w3 ⟨rfl, hb3⟩
        have B3 := Lib.hid hb3
        clear hb3
        clear r0 g4 lg lr
        clear c0 c1 c2 c3 c4 c5 c6 d1 d2 d4 l0 l1
        have c0 := cell_row (j := 0) (tb_kept KF2.out B3.out) rfl
        have c1 := cell_row (j := 1) (tb_kept KF2.out B3.out) rfl
        have c2 := cell_row (j := 2) (tb_kept KF2.out B3.out) rfl
        have c3 := cell_row (j := 3) (tb_kept KF2.out B3.out) rfl
        have c4 := cell_row (j := 4) (tb_kept KF2.out B3.out) rfl
        have c5 := cell_row (j := 5) (tb_kept KF2.out B3.out) rfl
        have c6 := cell_row (j := 6) (tb_kept KF2.out B3.out) rfl
        have d1 := cell_row (j := 1) (tb_kept K2.out B3.out) rfl
        have d2 := cell_row (j := 2) (tb_kept K2.out B3.out) rfl
        have d4 := cell_row (j := 4) (tb_kept K2.out B3.out) rfl
        have l0 := heap_lt (tb_kept KF2.out B3.out); have l1 := heap_lt (tb_kept K2.out B3.out)
        cases e2
        case false =>
          have HE : Hid (G = S) := HASK2.out
          go_wp2_with fail
          refine (HA2.out w3 B3.out).mono ?_
          rintro e w4 ⟨rfl, hb4⟩
          have B4 := Lib.hid (B3.out.trans (hb4.mono B3.out.size))
          clear hb4
          clear c0 c1 c2 c3 c4 c5 c6 d1 d2 d4 l0 l1
          go_wp2_with fail
          refine bodyPost_ret (results_none rfl _ _ _) rfl ⟨rfl, by rw [HE.out]; exact A2.out.below B4.out, HM.out _ (Only.of_below _ B4.out)⟩
        case true =>
        go_wp2_with fail
        refine (HA2.out w3 B3.out).mono ?_
        rintro e w4 ⟨rfl, hb4⟩
        have B4 := Lib.hid (B3.out.trans (hb4.mono B3.out.size))
        clear hb4
        clear c0 c1 c2 c3 c4 c5 c6 d1 d2 d4 l0 l1
        have c0 := cell_row (j := 0) (tb_kept KF2.out B4.out) rfl
        have c1 := cell_row (j := 1) (tb_kept KF2.out B4.out) rfl
        have c2 := cell_row (j := 2) (tb_kept KF2.out B4.out) rfl
        have c3 := cell_row (j := 3) (tb_kept KF2.out B4.out) rfl
        have c4 := cell_row (j := 4) (tb_kept KF2.out B4.out) rfl
        have c5 := cell_row (j := 5) (tb_kept KF2.out B4.out) rfl
        have c6 := cell_row (j := 6) (tb_kept KF2.out B4.out) rfl
        have d1 := cell_row (j := 1) (tb_kept K2.out B4.out) rfl
        have d2 := cell_row (j := 2) (tb_kept K2.out B4.out) rfl
        have d4 := cell_row (j := 4) (tb_kept K2.out B4.out) rfl
        have l0 := heap_lt (tb_kept KF2.out B4.out); have l1 := heap_lt (tb_kept K2.out B4.out)
        cases e3
        case false =>
          have HE : Hid (G = S) := HASK2.out
          go_wp2_with fail
          refine (HA3.out w4 B4.out).mono ?_
          rintro e w5 ⟨rfl, hb5⟩
          have B5 := Lib.hid (B4.out.trans (hb5.mono B4.out.size))
          clear hb5
          clear c0 c1 c2 c3 c4 c5 c6 d1 d2 d4 l0 l1
          go_wp2_with fail
          refine bodyPost_ret (results_none rfl _ _ _) rfl ⟨rfl, by rw [HE.out]; exact A2.out.below B5.out, HM.out _ (Only.of_below _ B5.out)⟩
        case true =>
        have HE : Hid (G = ⟨fun j => if j = n then { S.R n with ph := 1 } else S.R j, setC S.C r.pts r.pts.length⟩) := HASK2.out
        clear HASK2
        go_wp2_with fail
        refine (HA3.out w4 B4.out).mono ?_
        rintro e w5 ⟨rfl, hb5⟩
        have B5 := Lib.hid (B4.out.trans (hb5.mono B4.out.size))
        clear hb5
        clear c0 c1 c2 c3 c4 c5 c6 d1 d2 d4 l0 l1
        have c0 := cell_row (j := 0) (tb_kept KF2.out B5.out) rfl
        have c1 := cell_row (j := 1) (tb_kept KF2.out B5.out) rfl
        have c2 := cell_row (j := 2) (tb_kept KF2.out B5.out) rfl
        have c3 := cell_row (j := 3) (tb_kept KF2.out B5.out) rfl
        have c4 := cell_row (j := 4) (tb_kept KF2.out B5.out) rfl
        have c5 := cell_row (j := 5) (tb_kept KF2.out B5.out) rfl
        have c6 := cell_row (j := 6) (tb_kept KF2.out B5.out) rfl
        have d1 := cell_row (j := 1) (tb_kept K2.out B5.out) rfl
        have d2 := cell_row (j := 2) (tb_kept K2.out B5.out) rfl
        have d4 := cell_row (j := 4) (tb_kept K2.out B5.out) rfl
        have l0 := heap_lt (tb_kept KF2.out B5.out); have l1 := heap_lt (tb_kept K2.out B5.out)
        have A5 := Lib.hid (A2.out.below B5.out)
        obtain ⟨sc5, hvs, -, -, _⟩ := A5.out.rs
        rw [HLEN.out] at hvs
        have g4 : w5.cell? ⟨u.g, 4, none⟩ = some (.slice (some ⟨u.rb, 0, none⟩) m sc5) := by rw [← hvs]; exact cell_row (j := 4) A5.out.obj rfl
        clear hvs
        have lg := heap_lt A5.out.obj
        obtain ⟨r0, -, -, -, fr⟩ := A5.out.rcell (n := n) (by rw [HLEN.out]; exact hn)
        have f0 := fr (n * 4)
        clear fr
        have lr := A5.out.rlt
        go_upto_region 7 with fail
        have A6 : Hid (AutoAt (w5.setCell ⟨u.rb, n * 4, none⟩ (.int .u8 1)) u ⟨fun j => if j = n then { S.R n with ph := 1 } else S.R j, setC S.C r.pts 0⟩) := A5.out.setPh (n := n) (by rw [HLEN.out]; exact hn) 1
        have O6 : Hid (Only u.M w2 (w5.setCell ⟨u.rb, n * 4, none⟩ (.int .u8 1))) := (Only.of_below _ B5.out).set _ _ (.inr (.inl rfl))
        generalize w5.setCell ⟨u.rb, n * 4, none⟩ (.int .u8 1) = w6 at *
        clear r0 f0 lr g4 lg
        clear c0 c1 c2 c3 c4 c5 c6 d1 d2 d4 l0 l1
        have c0 := cell_row (j := 0) ((HK.out _ O6.out).1) rfl
        have c1 := cell_row (j := 1) ((HK.out _ O6.out).1) rfl
        have c2 := cell_row (j := 2) ((HK.out _ O6.out).1) rfl
        have c3 := cell_row (j := 3) ((HK.out _ O6.out).1) rfl
        have c4 := cell_row (j := 4) ((HK.out _ O6.out).1) rfl
        have c5 := cell_row (j := 5) ((HK.out _ O6.out).1) rfl
        have c6 := cell_row (j := 6) ((HK.out _ O6.out).1) rfl
        have d1 := cell_row (j := 1) ((HK.out _ O6.out).2) rfl
        have d2 := cell_row (j := 2) ((HK.out _ O6.out).2) rfl
        have d4 := cell_row (j := 4) ((HK.out _ O6.out).2) rfl
        have l0 := heap_lt ((HK.out _ O6.out).1); have l1 := heap_lt ((HK.out _ O6.out).2)
        generalize hRR : (fun j => if j = n then { S.R n with ph := 1 } else S.R j) = R' at *
        clear hRR
        go_wp2_with fail
        clear c0 c1 c2 c3 c4 c5 c6 d1 d2 d4 l0 l1
        go_loopw [78] (fun i wr => ∃ k : Nat, k ≤ r.pts.length ∧ i = .int .i64 k ∧ AutoAt wr u ⟨R', setC S.C r.pts k⟩ ∧ Only u.M w2 wr) (fun i _ => r.pts.length - (intOf i).toNat)
        case atStart => exact ⟨0, Nat.zero_le _, rfl, A6.out, O6.out⟩
        case round =>
          clear A6 O6 A5 B5 B4 B3
          obtain ⟨k, hk, rfl, ha, ho⟩ := hrel
          have A7 := Lib.hid ha; have O7 := Lib.hid ho
          clear ha ho
          obtain ⟨w7, rfl⟩ : ∃ w7 : World, w7 = wr := ⟨_, rfl⟩
          by_cases hlt : k < r.pts.length
          · obtain ⟨qb, qoff, rfl, hqb, x0, x1⟩ := (HPT.out.below A7.out.bel).cell hlt
            have hpp := HPP.out k hlt
            have HCM := Lib.hid (fun W => command_any (r.pts.getD k (0, false)) W)
            have HST : Hid (∀ C, setC C r.pts (k + 1) = fun j => if j = (r.pts.getD k (0, false)).1.toNat then needP (r.pts.getD k (0, false)) else setC C r.pts k j) := fun _ => rfl
            generalize r.pts.getD k (0, false) = p at *
            obtain ⟨y, z⟩ := p
            simp only at hpp x0 x1 HCM HST
            obtain ⟨j, rfl⟩ := Int.eq_ofNat_of_zero_le hpp.1
            rw [Int.toNat_natCast] at HST
            have hjl : j < u.T.pts.length := by omega
            have HJL := Lib.hid hjl
            generalize needP ((j : Int), z) = nd at *
            obtain ⟨w8, hw8⟩ : ∃ w8, w8 = w7.alloc (.cells #[.int .i64 (j : Int), .bool z] 107) := ⟨_, rfl⟩
            have B78 : Hid (Below w7.heap.size w7 w8) := by rw [hw8]; exact tb_alloc_below _ _
            have K8 : Hid (w8.heap[w7.heap.size]? = some (.cells #[.int .i64 (j : Int), .bool z] 107 (0, 0))) := by rw [hw8]; exact heap_alloc_new _ _
            have A8 : Hid (AutoAt w8 u ⟨R', setC S.C r.pts k⟩) := A7.out.below B78.out
            have O8 : Hid (Only u.M w2 w8) := O7.out.trans (Only.of_below _ B78.out)
            have HW8 := Lib.hid hw8
            clear hw8
            obtain ⟨a, c, hvp, h1, h2, h3⟩ := A8.out.ps
            obtain ⟨rfl, hrow⟩ := h3 (by omega)
            have hgp := A8.out.gp; have hlg := heap_lt A8.out.obj
            have hg5 : w8.cell? ⟨u.g, 5, none⟩ = some (.slice (some ⟨u.pb, 0, none⟩) u.T.pts.length c) := by rw [← hvp]; exact cell_row (j := 5) A8.out.obj rfl
            have hfbp : fb ≠ u.pb := by have := RB.out; have := HFB.out; omega
            have hqbp : w7.heap.size ≠ u.pb := by have := A7.out.pl; omega
            have HSV : Hid (∀ W, Only (fun b => b = u.pb) w8 W → (W.cell? ⟨fb, 0, none⟩ = some (.pointer (some ⟨u.g, 0, none⟩)) ∧ W.cell? ⟨u.g, 5, none⟩ = some (.slice (some ⟨u.pb, 0, none⟩) u.T.pts.length c) ∧ W.cell? ⟨w7.heap.size, 0, none⟩ = some (.int .i64 (j : Int)) ∧ W.cell? ⟨w7.heap.size, 1, none⟩ = some (.bool z)) ∧ u.pb < W.heap.size) := fun W hW =>
              ⟨⟨cell_row (j := 0) ((hW.block _ (heap_lt (HK.out _ O8.out).1) hfbp).trans (HK.out _ O8.out).1) rfl, by rw [← hg5]; exact World.cell?_of_block (w := w8) (hW.block _ hlg hgp), cell_row (j := 0) ((hW.block _ (heap_lt K8.out) hqbp).trans K8.out) rfl, cell_row (j := 1) ((hW.block _ (heap_lt K8.out) hqbp).trans K8.out) rfl⟩, Nat.lt_of_lt_of_le A8.out.pl hW.size⟩
            have HSP : Hid (∀ W, Below w8.heap.size w8 W → W.cell? ⟨u.pb, j, none⟩ = some (psV (setC S.C r.pts k) j) ∧ W.frozen? ⟨u.pb, j, none⟩ = false) := fun W hW => ⟨(hrow.same (hW.block _ hrow.lt)).cell hjl, (hrow.same (hW.block _ hrow.lt)).frozen j⟩
            unfold psV at HSP
            have HA10 : Hid (∀ W, AutoAt W u ⟨R', setC S.C r.pts k⟩ → AutoAt (W.setCell ⟨u.pb, j, none⟩ (.int .u8 (nd : Int))) u ⟨R', fun q => if q = j then nd else setC S.C r.pts k q⟩) := fun W hW => hW.setPt hjl nd
            have hm12 := HPM.out
            unfold maxLen at h2
            have i2 : (0 : Int) ≤ (j : Int) := by omega
            have i3 : (j : Int) < (u.T.pts.length : Int) := by omega
            have BD : Hid (Below w8.heap.size w8 w8.drew) := (Below.refl _ _).drew
            clear hvp hrow h3 hg5 hpp hgp hlg hfbp hqbp
            generalize u.T.pts.length = mp at *
            generalize setC S.C r.pts k j = old at *
            go_upto_region 10 with fail
            rw [← HW8.out]
            clear x0 x1
            generalize w7.heap.size = qbx at *
            have ODR : Hid (Only (fun b => b = u.pb) w8 w8.drew) := Only.of_below _ BD.out
            go_region_held3 (fun W => (W.cell? ⟨fb, 0, none⟩ = some (.pointer (some ⟨u.g, 0, none⟩)) ∧ W.cell? ⟨u.g, 5, none⟩ = some (.slice (some ⟨u.pb, 0, none⟩) mp c) ∧ W.cell? ⟨qbx, 0, none⟩ = some (.int .i64 (j : Int)) ∧ W.cell? ⟨qbx, 1, none⟩ = some (.bool z)) ∧ u.pb < W.heap.size)
              (first | exact HSV.out _ (OE.out.set _ _ (.inr rfl)) | exact HSV.out _ OE.out | exact HSV.out _ ODR.out)
              (first | (go_at_call 67; (with_reducible refine (HCM.out _).mono ?_); rintro e w9 ⟨rfl, hb9⟩; have BE : Hid (Below w8.heap.size w8 w9) := BD.out.trans (hb9.mono BD.out.size); have OE : Hid (Only (fun b => b = u.pb) w8 w9) := Only.of_below _ BE.out; have s1 := (HSP.out _ BE.out).1; have s2 := (HSP.out _ BE.out).2; clear hb9))
            rename_i hheld
            clear hheld
            have A10 := Lib.hid (HA10.out _ (A8.out.below BE.out))
            rw [← HST.out] at A10
            have O10 : Hid (Only u.M w2 (w9.setCell ⟨u.pb, j, none⟩ (.int .u8 (nd : Int)))) := (O8.out.trans (Only.of_below _ BE.out)).set _ _ (.inr (.inr rfl))
            generalize w9.setCell ⟨u.pb, j, none⟩ (.int .u8 (nd : Int)) = w10 at *
            clear s1 s2
            go_wp2_with fail
            go_roundw
            case rel => exact ⟨k + 1, by omega, by go_num, A10.out, O10.out⟩
            case measure => simp [intOf]; omega
          · obtain rfl : k = r.pts.length := by omega
            go_wp2_with fail
            go_end0
            exact ⟨rfl, by rw [HE.out]; exact A7.out, HM.out _ O7.out⟩
      · have hphb : ((S.R n).ph == 0) = false := by simpa using hph
        have q1 : (((S.R n).ph : Int) == 0) = false := by simpa using hph
        have q2 : (((S.R n).ph : Int) != 0) = true := by simpa using hph
        have HE : Hid (G = S) := by show _ = _; rw [HASK.out, hphb]; simp
        clear hph hphb
        go_wp2_with fail
        (with_reducible refine HB.out.mono ?_)
        rintro e w2 ⟨rfl, rfl⟩
        go_wp2_with fail
        refine bodyPost_ret (results_none rfl _ _ _) rfl ⟨rfl, by rw [HE.out]; exact A2.out, HM.out _ (Only.refl _ _)⟩
    · have t1 : ((f.rq : Int) == (n : Int) + 1) = false := by simp; omega
      have t2 : ((f.rq : Int) != (n : Int) + 1) = true := by simp; omega
      have t3 : (f.rq == n + 1) = false := by simpa using hq
      have HE : Hid (G = S) := by show _ = _; rw [HASK.out, t3]; simp
      clear hq t3
      go_wp2_with fail
      (with_reducible refine HB.out.mono ?_)
      rintro e w2 ⟨rfl, rfl⟩
      go_wp2_with fail
      refine bodyPost_ret (results_none rfl _ _ _) rfl ⟨rfl, by rw [HE.out]; exact A2.out, HM.out _ (Only.refl _ _)⟩
end Go.Proofs.Ytnjeiigdfdjccaa
